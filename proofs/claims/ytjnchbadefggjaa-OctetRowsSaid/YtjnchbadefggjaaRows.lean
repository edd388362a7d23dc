/-
  No cell of these rows narrows 'for every input' (looked for: loops, veiled, ifaces, maps, wideKeys, modest, calm, conditions, laid).
  DERIVED. THE GIVEN ROWS OF THIS SEAT. 11 by the template 'for every input the law returns true; each argument reads behind the call as it read before'; 0 by the template 'total and deterministic' (their statements: YtjnchbadefggjaaTotals.lean).
  GIVEN WITH THE SEED: the statements are not yours to turn. If you find one false, say at which input.
  Laid BY PROGRAM, IN A SANDBOX (cutbox-rows.mjs): the forced cells as the released guide's own fill.sh prints them over the translation b7bf4bdc4ce6511d… (all of the seat's roots in one cut). By AI agents, Wed Nov 11 2026. No macro, syntax, notation, axiom, sorry.
-/
import Derived.Test.YtjnchbadefggjaaChecked
import GoSem.Claim
import GoSem.ClaimJoined
import GoSem.ClaimMapViews
import Derived.JoinedTies
import Derived.KernelRfl
namespace Go.Proofs.Ytjnchbadefggjaa
/- THE CELL 'sum', in the pinned program and in every row, IS THE sha256 OF THE DUMP (.gsa) THAT YtjnchbadefggjaaProg.lean LOADS. Nothing in Lean hashes anything: it is a label: what it is worth is what the hold of that sum in a sandbox is worth. -/
noncomputable def Try.pinned : Pinned := { name := "ytjnchbadefggjaa", sum := "b7bf4bdc4ce6511dcc1dada9543b9780d781818829d814bab15ca775d5879165", checked := Try.checked }
namespace Rows
def none {H : Type} : Left H := { results := [], args := [] }

/-- 'gabletlaw02.CrcSums': WHATEVER THE INPUT: true; the input reads as it did. -/
def crcSumsSpec : ChangeSpec := { name := "crcSums", fn := fun _ => fun
  | [d1, d2] => { results := [.lit (.bool true)], args := [d1, d2] }
  | _ => none }
def crcSumsRow : OpenClaim := { program := "ytjnchbadefggjaa", sum := "b7bf4bdc4ce6511dcc1dada9543b9780d781818829d814bab15ca775d5879165", func := "gablet/gabletlaw02.CrcSums", spec := "crcSums", apart := false }
def CrcSumsSaid : Prop := crcSumsRow.holds Try.pinned (OpenSpec.ofChange crcSumsSpec)

/-- ITS FALSE NEIGHBOUR: 'it returns false'. Refute it at one input. -/
def crcSumsWrong : ChangeSpec := { name := "crcSums", fn := fun _ => fun
  | [d1, d2] => { results := [.lit (.bool false)], args := [d1, d2] }
  | _ => none }
def CrcSumsWrongFalsely : Prop := crcSumsRow.holds Try.pinned (OpenSpec.ofChange crcSumsWrong)

/-- 'gabletlaw02.CrcParts': WHATEVER THE INPUT: true; the input reads as it did. -/
def crcPartsSpec : ChangeSpec := { name := "crcParts", fn := fun _ => fun
  | [d] => { results := [.lit (.bool true)], args := [d] }
  | _ => none }
def crcPartsRow : OpenClaim := { program := "ytjnchbadefggjaa", sum := "b7bf4bdc4ce6511dcc1dada9543b9780d781818829d814bab15ca775d5879165", func := "gablet/gabletlaw02.CrcParts", spec := "crcParts", apart := false }
def CrcPartsSaid : Prop := crcPartsRow.holds Try.pinned (OpenSpec.ofChange crcPartsSpec)

/-- ITS FALSE NEIGHBOUR: 'it returns false'. Refute it at one input. -/
def crcPartsWrong : ChangeSpec := { name := "crcParts", fn := fun _ => fun
  | [d] => { results := [.lit (.bool false)], args := [d] }
  | _ => none }
def CrcPartsWrongFalsely : Prop := crcPartsRow.holds Try.pinned (OpenSpec.ofChange crcPartsWrong)

/-- 'gabletlaw02.CrcAdds': WHATEVER THE INPUT: true; the input reads as it did. -/
def crcAddsSpec : ChangeSpec := { name := "crcAdds", fn := fun _ => fun
  | [d1, d2, d3] => { results := [.lit (.bool true)], args := [d1, d2, d3] }
  | _ => none }
def crcAddsRow : OpenClaim := { program := "ytjnchbadefggjaa", sum := "b7bf4bdc4ce6511dcc1dada9543b9780d781818829d814bab15ca775d5879165", func := "gablet/gabletlaw02.CrcAdds", spec := "crcAdds", apart := false }
def CrcAddsSaid : Prop := crcAddsRow.holds Try.pinned (OpenSpec.ofChange crcAddsSpec)

/-- ITS FALSE NEIGHBOUR: 'it returns false'. Refute it at one input. -/
def crcAddsWrong : ChangeSpec := { name := "crcAdds", fn := fun _ => fun
  | [d1, d2, d3] => { results := [.lit (.bool false)], args := [d1, d2, d3] }
  | _ => none }
def CrcAddsWrongFalsely : Prop := crcAddsRow.holds Try.pinned (OpenSpec.ofChange crcAddsWrong)

/-- 'gabletlaw02.CrcTurned': WHATEVER THE INPUT: true; the input reads as it did. -/
def crcTurnedSpec : ChangeSpec := { name := "crcTurned", fn := fun _ => fun
  | [d1, d2, d3] => { results := [.lit (.bool true)], args := [d1, d2, d3] }
  | _ => none }
def crcTurnedRow : OpenClaim := { program := "ytjnchbadefggjaa", sum := "b7bf4bdc4ce6511dcc1dada9543b9780d781818829d814bab15ca775d5879165", func := "gablet/gabletlaw02.CrcTurned", spec := "crcTurned", apart := false }
def CrcTurnedSaid : Prop := crcTurnedRow.holds Try.pinned (OpenSpec.ofChange crcTurnedSpec)

/-- ITS FALSE NEIGHBOUR: 'it returns false'. Refute it at one input. -/
def crcTurnedWrong : ChangeSpec := { name := "crcTurned", fn := fun _ => fun
  | [d1, d2, d3] => { results := [.lit (.bool false)], args := [d1, d2, d3] }
  | _ => none }
def CrcTurnedWrongFalsely : Prop := crcTurnedRow.holds Try.pinned (OpenSpec.ofChange crcTurnedWrong)

/-- 'gabletlaw02.CrcSwaps': WHATEVER THE INPUT: true; the input reads as it did. -/
def crcSwapsSpec : ChangeSpec := { name := "crcSwaps", fn := fun _ => fun
  | [d1, d2, d3, d4] => { results := [.lit (.bool true)], args := [d1, d2, d3, d4] }
  | _ => none }
def crcSwapsRow : OpenClaim := { program := "ytjnchbadefggjaa", sum := "b7bf4bdc4ce6511dcc1dada9543b9780d781818829d814bab15ca775d5879165", func := "gablet/gabletlaw02.CrcSwaps", spec := "crcSwaps", apart := false }
def CrcSwapsSaid : Prop := crcSwapsRow.holds Try.pinned (OpenSpec.ofChange crcSwapsSpec)

/-- ITS FALSE NEIGHBOUR: 'it returns false'. Refute it at one input. -/
def crcSwapsWrong : ChangeSpec := { name := "crcSwaps", fn := fun _ => fun
  | [d1, d2, d3, d4] => { results := [.lit (.bool false)], args := [d1, d2, d3, d4] }
  | _ => none }
def CrcSwapsWrongFalsely : Prop := crcSwapsRow.holds Try.pinned (OpenSpec.ofChange crcSwapsWrong)

/-- 'gabletlaw01.OctetNumbers': WHATEVER THE INPUT: true; the input reads as it did. -/
def octetNumbersSpec : ChangeSpec := { name := "octetNumbers", fn := fun _ => fun
  | [d1, d2, d3, d4] => { results := [.lit (.bool true)], args := [d1, d2, d3, d4] }
  | _ => none }
def octetNumbersRow : OpenClaim := { program := "ytjnchbadefggjaa", sum := "b7bf4bdc4ce6511dcc1dada9543b9780d781818829d814bab15ca775d5879165", func := "gablet/gabletlaw01.OctetNumbers", spec := "octetNumbers", inPlace := ["internal/bytealg.Compare"], apart := false }
def OctetNumbersSaid : Prop := octetNumbersRow.holds Try.pinned (OpenSpec.ofChange octetNumbersSpec)

/-- ITS FALSE NEIGHBOUR: 'it returns false'. Refute it at one input. -/
def octetNumbersWrong : ChangeSpec := { name := "octetNumbers", fn := fun _ => fun
  | [d1, d2, d3, d4] => { results := [.lit (.bool false)], args := [d1, d2, d3, d4] }
  | _ => none }
def OctetNumbersWrongFalsely : Prop := octetNumbersRow.holds Try.pinned (OpenSpec.ofChange octetNumbersWrong)

/-- 'gabletlaw01.OctetStrings': WHATEVER THE INPUT: true; the input reads as it did. -/
def octetStringsSpec : ChangeSpec := { name := "octetStrings", fn := fun _ => fun
  | [d1, d2, d3] => { results := [.lit (.bool true)], args := [d1, d2, d3] }
  | _ => none }
def octetStringsRow : OpenClaim := { program := "ytjnchbadefggjaa", sum := "b7bf4bdc4ce6511dcc1dada9543b9780d781818829d814bab15ca775d5879165", func := "gablet/gabletlaw01.OctetStrings", spec := "octetStrings", inPlace := ["internal/bytealg.Compare"], apart := false }
def OctetStringsSaid : Prop := octetStringsRow.holds Try.pinned (OpenSpec.ofChange octetStringsSpec)

/-- ITS FALSE NEIGHBOUR: 'it returns false'. Refute it at one input. -/
def octetStringsWrong : ChangeSpec := { name := "octetStrings", fn := fun _ => fun
  | [d1, d2, d3] => { results := [.lit (.bool false)], args := [d1, d2, d3] }
  | _ => none }
def OctetStringsWrongFalsely : Prop := octetStringsRow.holds Try.pinned (OpenSpec.ofChange octetStringsWrong)

/-- 'gabletlaw01.OctetBack': WHATEVER THE INPUT: true; the input reads as it did. -/
def octetBackSpec : ChangeSpec := { name := "octetBack", fn := fun _ => fun
  | [d1, d2, d3, d4, d5] => { results := [.lit (.bool true)], args := [d1, d2, d3, d4, d5] }
  | _ => none }
def octetBackRow : OpenClaim := { program := "ytjnchbadefggjaa", sum := "b7bf4bdc4ce6511dcc1dada9543b9780d781818829d814bab15ca775d5879165", func := "gablet/gabletlaw01.OctetBack", spec := "octetBack", inPlace := ["internal/bytealg.Compare"], apart := false }
def OctetBackSaid : Prop := octetBackRow.holds Try.pinned (OpenSpec.ofChange octetBackSpec)

/-- ITS FALSE NEIGHBOUR: 'it returns false'. Refute it at one input. -/
def octetBackWrong : ChangeSpec := { name := "octetBack", fn := fun _ => fun
  | [d1, d2, d3, d4, d5] => { results := [.lit (.bool false)], args := [d1, d2, d3, d4, d5] }
  | _ => none }
def OctetBackWrongFalsely : Prop := octetBackRow.holds Try.pinned (OpenSpec.ofChange octetBackWrong)

/-- 'gabletlaw01.OctetOrders': WHATEVER THE INPUT: true; the input reads as it did. -/
def octetOrdersSpec : ChangeSpec := { name := "octetOrders", fn := fun _ => fun
  | [d1, d2] => { results := [.lit (.bool true)], args := [d1, d2] }
  | _ => none }
def octetOrdersRow : OpenClaim := { program := "ytjnchbadefggjaa", sum := "b7bf4bdc4ce6511dcc1dada9543b9780d781818829d814bab15ca775d5879165", func := "gablet/gabletlaw01.OctetOrders", spec := "octetOrders", inPlace := ["internal/bytealg.Compare"], apart := false }
def OctetOrdersSaid : Prop := octetOrdersRow.holds Try.pinned (OpenSpec.ofChange octetOrdersSpec)

/-- ITS FALSE NEIGHBOUR: 'it returns false'. Refute it at one input. -/
def octetOrdersWrong : ChangeSpec := { name := "octetOrders", fn := fun _ => fun
  | [d1, d2] => { results := [.lit (.bool false)], args := [d1, d2] }
  | _ => none }
def OctetOrdersWrongFalsely : Prop := octetOrdersRow.holds Try.pinned (OpenSpec.ofChange octetOrdersWrong)

/-- 'gabletlaw01.OctetSorts': WHATEVER THE INPUT: true; the input reads as it did. -/
def octetSortsSpec : ChangeSpec := { name := "octetSorts", fn := fun _ => fun
  | [d1, d2, d3, d4, d5, d6] => { results := [.lit (.bool true)], args := [d1, d2, d3, d4, d5, d6] }
  | _ => none }
def octetSortsRow : OpenClaim := { program := "ytjnchbadefggjaa", sum := "b7bf4bdc4ce6511dcc1dada9543b9780d781818829d814bab15ca775d5879165", func := "gablet/gabletlaw01.OctetSorts", spec := "octetSorts", inPlace := ["internal/bytealg.Compare"], apart := false }
def OctetSortsSaid : Prop := octetSortsRow.holds Try.pinned (OpenSpec.ofChange octetSortsSpec)

/-- ITS FALSE NEIGHBOUR: 'it returns false'. Refute it at one input. -/
def octetSortsWrong : ChangeSpec := { name := "octetSorts", fn := fun _ => fun
  | [d1, d2, d3, d4, d5, d6] => { results := [.lit (.bool false)], args := [d1, d2, d3, d4, d5, d6] }
  | _ => none }
def OctetSortsWrongFalsely : Prop := octetSortsRow.holds Try.pinned (OpenSpec.ofChange octetSortsWrong)

/-- 'gabletlaw01.OctetRows': WHATEVER THE INPUT: true; the input reads as it did. -/
def octetRowsSpec : ChangeSpec := { name := "octetRows", fn := fun _ => fun
  | [d1, d2, d3] => { results := [.lit (.bool true)], args := [d1, d2, d3] }
  | _ => none }
def octetRowsRow : OpenClaim := { program := "ytjnchbadefggjaa", sum := "b7bf4bdc4ce6511dcc1dada9543b9780d781818829d814bab15ca775d5879165", func := "gablet/gabletlaw01.OctetRows", spec := "octetRows", inPlace := ["internal/bytealg.Compare"], apart := false }
def OctetRowsSaid : Prop := octetRowsRow.holds Try.pinned (OpenSpec.ofChange octetRowsSpec)

/-- ITS FALSE NEIGHBOUR: 'it returns false'. Refute it at one input. -/
def octetRowsWrong : ChangeSpec := { name := "octetRows", fn := fun _ => fun
  | [d1, d2, d3] => { results := [.lit (.bool false)], args := [d1, d2, d3] }
  | _ => none }
def OctetRowsWrongFalsely : Prop := octetRowsRow.holds Try.pinned (OpenSpec.ofChange octetRowsWrong)

/- THE SECOND FORM. 'bulk': how many values and letters a reading holds, each counted each time it is reached (what is shared counts as often as it is met; a slice's spare places count too). A statement '..UptoSaid' is the law's where the arguments, and the package variables that the reading takes, are together of bulk at most 1048576: NARROWER than '..Said'. Prove '..Said' where nothing that the law and all that it calls make is longer than what came in: it says more and counts as full. Else prove '..UptoSaid'. A law counts once. -/
mutual
def uptoBulk {H : Type} : DataW H → Nat
  | .lit (.string bytes) => bytes.length + 1
  | .lit _ => 1
  | .nil => 1
  | .ptr d => uptoBulk d + 1
  | .slice elems spare => uptoBulkAll elems + uptoBulkAll spare + 1
  | .agg parts => uptoBulkAll parts + 1
  | .iface _ d => uptoBulk d + 1
  | .map entries => uptoBulkEntries entries + 1
  | .held _ => 1
def uptoBulkAll {H : Type} : List (DataW H) → Nat
  | [] => 0
  | d :: r => uptoBulk d + uptoBulkAll r
def uptoBulkEntries {H : Type} : List (Lit × DataW H) → Nat
  | [] => 0
  | x :: r => uptoBulkEntry x + uptoBulkEntries r
def uptoBulkEntry {H : Type} : Lit × DataW H → Nat
  | (.string bytes, d) => bytes.length + uptoBulk d + 1
  | (_, d) => uptoBulk d + 1
 end
def uptoSmall : (H : Type) → List (DataW H) → Bool := fun _ ds => decide (uptoBulkAll ds ≤ 1048576)
def OpenSpec.upto (s : _root_.Go.ChangeSpec) : _root_.Go.OpenSpec := { _root_.Go.OpenSpec.ofChange s with cond := some uptoSmall }

/-- 'gabletlaw02.CrcSums', WHERE WHAT IT READS IS OF BULK AT MOST 1048576: true; the input reads as it did. -/
def crcSumsUptoRow : OpenClaim := { program := "ytjnchbadefggjaa", sum := "b7bf4bdc4ce6511dcc1dada9543b9780d781818829d814bab15ca775d5879165", func := "gablet/gabletlaw02.CrcSums", spec := "crcSums", apart := false, narrowed := true }
def CrcSumsUptoSaid : Prop := crcSumsUptoRow.holds Try.pinned (OpenSpec.upto crcSumsSpec)

/-- 'gabletlaw02.CrcParts', WHERE WHAT IT READS IS OF BULK AT MOST 1048576: true; the input reads as it did. -/
def crcPartsUptoRow : OpenClaim := { program := "ytjnchbadefggjaa", sum := "b7bf4bdc4ce6511dcc1dada9543b9780d781818829d814bab15ca775d5879165", func := "gablet/gabletlaw02.CrcParts", spec := "crcParts", apart := false, narrowed := true }
def CrcPartsUptoSaid : Prop := crcPartsUptoRow.holds Try.pinned (OpenSpec.upto crcPartsSpec)

/-- 'gabletlaw02.CrcAdds', WHERE WHAT IT READS IS OF BULK AT MOST 1048576: true; the input reads as it did. -/
def crcAddsUptoRow : OpenClaim := { program := "ytjnchbadefggjaa", sum := "b7bf4bdc4ce6511dcc1dada9543b9780d781818829d814bab15ca775d5879165", func := "gablet/gabletlaw02.CrcAdds", spec := "crcAdds", apart := false, narrowed := true }
def CrcAddsUptoSaid : Prop := crcAddsUptoRow.holds Try.pinned (OpenSpec.upto crcAddsSpec)

/-- 'gabletlaw02.CrcTurned', WHERE WHAT IT READS IS OF BULK AT MOST 1048576: true; the input reads as it did. -/
def crcTurnedUptoRow : OpenClaim := { program := "ytjnchbadefggjaa", sum := "b7bf4bdc4ce6511dcc1dada9543b9780d781818829d814bab15ca775d5879165", func := "gablet/gabletlaw02.CrcTurned", spec := "crcTurned", apart := false, narrowed := true }
def CrcTurnedUptoSaid : Prop := crcTurnedUptoRow.holds Try.pinned (OpenSpec.upto crcTurnedSpec)

/-- 'gabletlaw02.CrcSwaps', WHERE WHAT IT READS IS OF BULK AT MOST 1048576: true; the input reads as it did. -/
def crcSwapsUptoRow : OpenClaim := { program := "ytjnchbadefggjaa", sum := "b7bf4bdc4ce6511dcc1dada9543b9780d781818829d814bab15ca775d5879165", func := "gablet/gabletlaw02.CrcSwaps", spec := "crcSwaps", apart := false, narrowed := true }
def CrcSwapsUptoSaid : Prop := crcSwapsUptoRow.holds Try.pinned (OpenSpec.upto crcSwapsSpec)

/-- 'gabletlaw01.OctetNumbers', WHERE WHAT IT READS IS OF BULK AT MOST 1048576: true; the input reads as it did. -/
def octetNumbersUptoRow : OpenClaim := { program := "ytjnchbadefggjaa", sum := "b7bf4bdc4ce6511dcc1dada9543b9780d781818829d814bab15ca775d5879165", func := "gablet/gabletlaw01.OctetNumbers", spec := "octetNumbers", inPlace := ["internal/bytealg.Compare"], apart := false, narrowed := true }
def OctetNumbersUptoSaid : Prop := octetNumbersUptoRow.holds Try.pinned (OpenSpec.upto octetNumbersSpec)

/-- 'gabletlaw01.OctetStrings', WHERE WHAT IT READS IS OF BULK AT MOST 1048576: true; the input reads as it did. -/
def octetStringsUptoRow : OpenClaim := { program := "ytjnchbadefggjaa", sum := "b7bf4bdc4ce6511dcc1dada9543b9780d781818829d814bab15ca775d5879165", func := "gablet/gabletlaw01.OctetStrings", spec := "octetStrings", inPlace := ["internal/bytealg.Compare"], apart := false, narrowed := true }
def OctetStringsUptoSaid : Prop := octetStringsUptoRow.holds Try.pinned (OpenSpec.upto octetStringsSpec)

/-- 'gabletlaw01.OctetBack', WHERE WHAT IT READS IS OF BULK AT MOST 1048576: true; the input reads as it did. -/
def octetBackUptoRow : OpenClaim := { program := "ytjnchbadefggjaa", sum := "b7bf4bdc4ce6511dcc1dada9543b9780d781818829d814bab15ca775d5879165", func := "gablet/gabletlaw01.OctetBack", spec := "octetBack", inPlace := ["internal/bytealg.Compare"], apart := false, narrowed := true }
def OctetBackUptoSaid : Prop := octetBackUptoRow.holds Try.pinned (OpenSpec.upto octetBackSpec)

/-- 'gabletlaw01.OctetOrders', WHERE WHAT IT READS IS OF BULK AT MOST 1048576: true; the input reads as it did. -/
def octetOrdersUptoRow : OpenClaim := { program := "ytjnchbadefggjaa", sum := "b7bf4bdc4ce6511dcc1dada9543b9780d781818829d814bab15ca775d5879165", func := "gablet/gabletlaw01.OctetOrders", spec := "octetOrders", inPlace := ["internal/bytealg.Compare"], apart := false, narrowed := true }
def OctetOrdersUptoSaid : Prop := octetOrdersUptoRow.holds Try.pinned (OpenSpec.upto octetOrdersSpec)

/-- 'gabletlaw01.OctetSorts', WHERE WHAT IT READS IS OF BULK AT MOST 1048576: true; the input reads as it did. -/
def octetSortsUptoRow : OpenClaim := { program := "ytjnchbadefggjaa", sum := "b7bf4bdc4ce6511dcc1dada9543b9780d781818829d814bab15ca775d5879165", func := "gablet/gabletlaw01.OctetSorts", spec := "octetSorts", inPlace := ["internal/bytealg.Compare"], apart := false, narrowed := true }
def OctetSortsUptoSaid : Prop := octetSortsUptoRow.holds Try.pinned (OpenSpec.upto octetSortsSpec)

/-- 'gabletlaw01.OctetRows', WHERE WHAT IT READS IS OF BULK AT MOST 1048576: true; the input reads as it did. -/
def octetRowsUptoRow : OpenClaim := { program := "ytjnchbadefggjaa", sum := "b7bf4bdc4ce6511dcc1dada9543b9780d781818829d814bab15ca775d5879165", func := "gablet/gabletlaw01.OctetRows", spec := "octetRows", inPlace := ["internal/bytealg.Compare"], apart := false, narrowed := true }
def OctetRowsUptoSaid : Prop := octetRowsUptoRow.holds Try.pinned (OpenSpec.upto octetRowsSpec)

end Rows
end Go.Proofs.Ytjnchbadefggjaa

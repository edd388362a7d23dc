/-
  No cell of these rows narrows 'for every input' (looked for: loops, veiled, ifaces, maps, wideKeys, modest, calm, conditions, laid).
  DERIVED. THE GIVEN ROWS OF THIS SEAT. 16 by the template 'for every input the law returns true; each argument reads behind the call as it read before'; 0 by the template 'total and deterministic' (their statements: YtbfcfhfnkpklkaaTotals.lean).
  GIVEN WITH THE SEED: the statements are not yours to turn. If you find one false, say at which input.
  Laid BY PROGRAM, IN A SANDBOX (cutbox-rows.mjs): the forced cells as the released guide's own fill.sh prints them over the translation 9ba3a7e32be47e85… (all of the seat's roots in one cut). By AI agents, Wed Nov 11 2026. No macro, syntax, notation, axiom, sorry.
-/
import Derived.Test.YtbfcfhfnkpklkaaChecked
import GoSem.Claim
import GoSem.ClaimJoined
import GoSem.ClaimMapViews
import Derived.JoinedTies
import Derived.KernelRfl
namespace Go.Proofs.Ytbfcfhfnkpklkaa
/- THE CELL 'sum', in the pinned program and in every row, IS THE sha256 OF THE DUMP (.gsa) THAT YtbfcfhfnkpklkaaProg.lean LOADS. Nothing in Lean hashes anything: it is a label: what it is worth is what the hold of that sum in a sandbox is worth. -/
noncomputable def Try.pinned : Pinned := { name := "ytbfcfhfnkpklkaa", sum := "9ba3a7e32be47e85c4ef91f4f916f0335f9e3cadf8b9eed48fc0be2534056c4e", checked := Try.checked }
namespace Rows
def none {H : Type} : Left H := { results := [], args := [] }

/-- 'gabletlaw02.CrcSums': WHATEVER THE INPUT: true; the input reads as it did. -/
def crcSumsSpec : ChangeSpec := { name := "crcSums", fn := fun _ => fun
  | [d1, d2] => { results := [.lit (.bool true)], args := [d1, d2] }
  | _ => none }
def crcSumsRow : OpenClaim := { program := "ytbfcfhfnkpklkaa", sum := "9ba3a7e32be47e85c4ef91f4f916f0335f9e3cadf8b9eed48fc0be2534056c4e", func := "gablet/gabletlaw02.CrcSums", spec := "crcSums", apart := false }
def CrcSumsSaid : Prop := crcSumsRow.holds Try.pinned (OpenSpec.ofChange crcSumsSpec)

/-- ITS FALSE NEIGHBOUR: 'it returns false'. Refute it at one input. -/
def crcSumsWrong : ChangeSpec := { name := "crcSums", fn := fun _ => fun
  | [d1, d2] => { results := [.lit (.bool false)], args := [d1, d2] }
  | _ => none }
def CrcSumsWrongFalsely : Prop := crcSumsRow.holds Try.pinned (OpenSpec.ofChange crcSumsWrong)

/-- 'gabletlaw02.CrcParts': WHATEVER THE INPUT: true; the input reads as it did. -/
def crcPartsSpec : ChangeSpec := { name := "crcParts", fn := fun _ => fun
  | [d] => { results := [.lit (.bool true)], args := [d] }
  | _ => none }
def crcPartsRow : OpenClaim := { program := "ytbfcfhfnkpklkaa", sum := "9ba3a7e32be47e85c4ef91f4f916f0335f9e3cadf8b9eed48fc0be2534056c4e", func := "gablet/gabletlaw02.CrcParts", spec := "crcParts", apart := false }
def CrcPartsSaid : Prop := crcPartsRow.holds Try.pinned (OpenSpec.ofChange crcPartsSpec)

/-- ITS FALSE NEIGHBOUR: 'it returns false'. Refute it at one input. -/
def crcPartsWrong : ChangeSpec := { name := "crcParts", fn := fun _ => fun
  | [d] => { results := [.lit (.bool false)], args := [d] }
  | _ => none }
def CrcPartsWrongFalsely : Prop := crcPartsRow.holds Try.pinned (OpenSpec.ofChange crcPartsWrong)

/-- 'gabletlaw02.CrcAdds': WHATEVER THE INPUT: true; the input reads as it did. -/
def crcAddsSpec : ChangeSpec := { name := "crcAdds", fn := fun _ => fun
  | [d1, d2, d3] => { results := [.lit (.bool true)], args := [d1, d2, d3] }
  | _ => none }
def crcAddsRow : OpenClaim := { program := "ytbfcfhfnkpklkaa", sum := "9ba3a7e32be47e85c4ef91f4f916f0335f9e3cadf8b9eed48fc0be2534056c4e", func := "gablet/gabletlaw02.CrcAdds", spec := "crcAdds", apart := false }
def CrcAddsSaid : Prop := crcAddsRow.holds Try.pinned (OpenSpec.ofChange crcAddsSpec)

/-- ITS FALSE NEIGHBOUR: 'it returns false'. Refute it at one input. -/
def crcAddsWrong : ChangeSpec := { name := "crcAdds", fn := fun _ => fun
  | [d1, d2, d3] => { results := [.lit (.bool false)], args := [d1, d2, d3] }
  | _ => none }
def CrcAddsWrongFalsely : Prop := crcAddsRow.holds Try.pinned (OpenSpec.ofChange crcAddsWrong)

/-- 'gabletlaw02.CrcTurned': WHATEVER THE INPUT: true; the input reads as it did. -/
def crcTurnedSpec : ChangeSpec := { name := "crcTurned", fn := fun _ => fun
  | [d1, d2, d3] => { results := [.lit (.bool true)], args := [d1, d2, d3] }
  | _ => none }
def crcTurnedRow : OpenClaim := { program := "ytbfcfhfnkpklkaa", sum := "9ba3a7e32be47e85c4ef91f4f916f0335f9e3cadf8b9eed48fc0be2534056c4e", func := "gablet/gabletlaw02.CrcTurned", spec := "crcTurned", apart := false }
def CrcTurnedSaid : Prop := crcTurnedRow.holds Try.pinned (OpenSpec.ofChange crcTurnedSpec)

/-- ITS FALSE NEIGHBOUR: 'it returns false'. Refute it at one input. -/
def crcTurnedWrong : ChangeSpec := { name := "crcTurned", fn := fun _ => fun
  | [d1, d2, d3] => { results := [.lit (.bool false)], args := [d1, d2, d3] }
  | _ => none }
def CrcTurnedWrongFalsely : Prop := crcTurnedRow.holds Try.pinned (OpenSpec.ofChange crcTurnedWrong)

/-- 'gabletlaw02.CrcSwaps': WHATEVER THE INPUT: true; the input reads as it did. -/
def crcSwapsSpec : ChangeSpec := { name := "crcSwaps", fn := fun _ => fun
  | [d1, d2, d3, d4] => { results := [.lit (.bool true)], args := [d1, d2, d3, d4] }
  | _ => none }
def crcSwapsRow : OpenClaim := { program := "ytbfcfhfnkpklkaa", sum := "9ba3a7e32be47e85c4ef91f4f916f0335f9e3cadf8b9eed48fc0be2534056c4e", func := "gablet/gabletlaw02.CrcSwaps", spec := "crcSwaps", apart := false }
def CrcSwapsSaid : Prop := crcSwapsRow.holds Try.pinned (OpenSpec.ofChange crcSwapsSpec)

/-- ITS FALSE NEIGHBOUR: 'it returns false'. Refute it at one input. -/
def crcSwapsWrong : ChangeSpec := { name := "crcSwaps", fn := fun _ => fun
  | [d1, d2, d3, d4] => { results := [.lit (.bool false)], args := [d1, d2, d3, d4] }
  | _ => none }
def CrcSwapsWrongFalsely : Prop := crcSwapsRow.holds Try.pinned (OpenSpec.ofChange crcSwapsWrong)

/-- 'gabletlaw01.OctetNumbers': WHATEVER THE INPUT: true; the input reads as it did. -/
def octetNumbersSpec : ChangeSpec := { name := "octetNumbers", fn := fun _ => fun
  | [d1, d2, d3, d4] => { results := [.lit (.bool true)], args := [d1, d2, d3, d4] }
  | _ => none }
def octetNumbersRow : OpenClaim := { program := "ytbfcfhfnkpklkaa", sum := "9ba3a7e32be47e85c4ef91f4f916f0335f9e3cadf8b9eed48fc0be2534056c4e", func := "gablet/gabletlaw01.OctetNumbers", spec := "octetNumbers", inPlace := ["internal/bytealg.Compare"], apart := false }
def OctetNumbersSaid : Prop := octetNumbersRow.holds Try.pinned (OpenSpec.ofChange octetNumbersSpec)

/-- ITS FALSE NEIGHBOUR: 'it returns false'. Refute it at one input. -/
def octetNumbersWrong : ChangeSpec := { name := "octetNumbers", fn := fun _ => fun
  | [d1, d2, d3, d4] => { results := [.lit (.bool false)], args := [d1, d2, d3, d4] }
  | _ => none }
def OctetNumbersWrongFalsely : Prop := octetNumbersRow.holds Try.pinned (OpenSpec.ofChange octetNumbersWrong)

/-- 'gabletlaw01.OctetStrings': WHATEVER THE INPUT: true; the input reads as it did. -/
def octetStringsSpec : ChangeSpec := { name := "octetStrings", fn := fun _ => fun
  | [d1, d2, d3] => { results := [.lit (.bool true)], args := [d1, d2, d3] }
  | _ => none }
def octetStringsRow : OpenClaim := { program := "ytbfcfhfnkpklkaa", sum := "9ba3a7e32be47e85c4ef91f4f916f0335f9e3cadf8b9eed48fc0be2534056c4e", func := "gablet/gabletlaw01.OctetStrings", spec := "octetStrings", inPlace := ["internal/bytealg.Compare"], apart := false }
def OctetStringsSaid : Prop := octetStringsRow.holds Try.pinned (OpenSpec.ofChange octetStringsSpec)

/-- ITS FALSE NEIGHBOUR: 'it returns false'. Refute it at one input. -/
def octetStringsWrong : ChangeSpec := { name := "octetStrings", fn := fun _ => fun
  | [d1, d2, d3] => { results := [.lit (.bool false)], args := [d1, d2, d3] }
  | _ => none }
def OctetStringsWrongFalsely : Prop := octetStringsRow.holds Try.pinned (OpenSpec.ofChange octetStringsWrong)

/-- 'gabletlaw01.OctetBack': WHATEVER THE INPUT: true; the input reads as it did. -/
def octetBackSpec : ChangeSpec := { name := "octetBack", fn := fun _ => fun
  | [d1, d2, d3, d4, d5] => { results := [.lit (.bool true)], args := [d1, d2, d3, d4, d5] }
  | _ => none }
def octetBackRow : OpenClaim := { program := "ytbfcfhfnkpklkaa", sum := "9ba3a7e32be47e85c4ef91f4f916f0335f9e3cadf8b9eed48fc0be2534056c4e", func := "gablet/gabletlaw01.OctetBack", spec := "octetBack", inPlace := ["internal/bytealg.Compare"], apart := false }
def OctetBackSaid : Prop := octetBackRow.holds Try.pinned (OpenSpec.ofChange octetBackSpec)

/-- ITS FALSE NEIGHBOUR: 'it returns false'. Refute it at one input. -/
def octetBackWrong : ChangeSpec := { name := "octetBack", fn := fun _ => fun
  | [d1, d2, d3, d4, d5] => { results := [.lit (.bool false)], args := [d1, d2, d3, d4, d5] }
  | _ => none }
def OctetBackWrongFalsely : Prop := octetBackRow.holds Try.pinned (OpenSpec.ofChange octetBackWrong)

/-- 'gabletlaw01.OctetOrders': WHATEVER THE INPUT: true; the input reads as it did. -/
def octetOrdersSpec : ChangeSpec := { name := "octetOrders", fn := fun _ => fun
  | [d1, d2] => { results := [.lit (.bool true)], args := [d1, d2] }
  | _ => none }
def octetOrdersRow : OpenClaim := { program := "ytbfcfhfnkpklkaa", sum := "9ba3a7e32be47e85c4ef91f4f916f0335f9e3cadf8b9eed48fc0be2534056c4e", func := "gablet/gabletlaw01.OctetOrders", spec := "octetOrders", inPlace := ["internal/bytealg.Compare"], apart := false }
def OctetOrdersSaid : Prop := octetOrdersRow.holds Try.pinned (OpenSpec.ofChange octetOrdersSpec)

/-- ITS FALSE NEIGHBOUR: 'it returns false'. Refute it at one input. -/
def octetOrdersWrong : ChangeSpec := { name := "octetOrders", fn := fun _ => fun
  | [d1, d2] => { results := [.lit (.bool false)], args := [d1, d2] }
  | _ => none }
def OctetOrdersWrongFalsely : Prop := octetOrdersRow.holds Try.pinned (OpenSpec.ofChange octetOrdersWrong)

/-- 'gabletlaw01.OctetSorts': WHATEVER THE INPUT: true; the input reads as it did. -/
def octetSortsSpec : ChangeSpec := { name := "octetSorts", fn := fun _ => fun
  | [d1, d2, d3, d4, d5, d6] => { results := [.lit (.bool true)], args := [d1, d2, d3, d4, d5, d6] }
  | _ => none }
def octetSortsRow : OpenClaim := { program := "ytbfcfhfnkpklkaa", sum := "9ba3a7e32be47e85c4ef91f4f916f0335f9e3cadf8b9eed48fc0be2534056c4e", func := "gablet/gabletlaw01.OctetSorts", spec := "octetSorts", inPlace := ["internal/bytealg.Compare"], apart := false }
def OctetSortsSaid : Prop := octetSortsRow.holds Try.pinned (OpenSpec.ofChange octetSortsSpec)

/-- ITS FALSE NEIGHBOUR: 'it returns false'. Refute it at one input. -/
def octetSortsWrong : ChangeSpec := { name := "octetSorts", fn := fun _ => fun
  | [d1, d2, d3, d4, d5, d6] => { results := [.lit (.bool false)], args := [d1, d2, d3, d4, d5, d6] }
  | _ => none }
def OctetSortsWrongFalsely : Prop := octetSortsRow.holds Try.pinned (OpenSpec.ofChange octetSortsWrong)

/-- 'gabletlaw01.OctetRows': WHATEVER THE INPUT: true; the input reads as it did. -/
def octetRowsSpec : ChangeSpec := { name := "octetRows", fn := fun _ => fun
  | [d1, d2, d3] => { results := [.lit (.bool true)], args := [d1, d2, d3] }
  | _ => none }
def octetRowsRow : OpenClaim := { program := "ytbfcfhfnkpklkaa", sum := "9ba3a7e32be47e85c4ef91f4f916f0335f9e3cadf8b9eed48fc0be2534056c4e", func := "gablet/gabletlaw01.OctetRows", spec := "octetRows", inPlace := ["internal/bytealg.Compare"], apart := false }
def OctetRowsSaid : Prop := octetRowsRow.holds Try.pinned (OpenSpec.ofChange octetRowsSpec)

/-- ITS FALSE NEIGHBOUR: 'it returns false'. Refute it at one input. -/
def octetRowsWrong : ChangeSpec := { name := "octetRows", fn := fun _ => fun
  | [d1, d2, d3] => { results := [.lit (.bool false)], args := [d1, d2, d3] }
  | _ => none }
def OctetRowsWrongFalsely : Prop := octetRowsRow.holds Try.pinned (OpenSpec.ofChange octetRowsWrong)

/-- 'gabletlaw24.FramesPlays': WHATEVER THE INPUT: true; the input reads as it did. -/
def framesPlaysSpec : ChangeSpec := { name := "framesPlays", fn := fun _ => fun
  | [d1, d2, d3, d4, d5] => { results := [.lit (.bool true)], args := [d1, d2, d3, d4, d5] }
  | _ => none }
def framesPlaysRow : OpenClaim := { program := "ytbfcfhfnkpklkaa", sum := "9ba3a7e32be47e85c4ef91f4f916f0335f9e3cadf8b9eed48fc0be2534056c4e", func := "gablet/gabletlaw24.FramesPlays", spec := "framesPlays", apart := false }
def FramesPlaysSaid : Prop := framesPlaysRow.holds Try.pinned (OpenSpec.ofChange framesPlaysSpec)

/-- ITS FALSE NEIGHBOUR: 'it returns false'. Refute it at one input. -/
def framesPlaysWrong : ChangeSpec := { name := "framesPlays", fn := fun _ => fun
  | [d1, d2, d3, d4, d5] => { results := [.lit (.bool false)], args := [d1, d2, d3, d4, d5] }
  | _ => none }
def FramesPlaysWrongFalsely : Prop := framesPlaysRow.holds Try.pinned (OpenSpec.ofChange framesPlaysWrong)

/-- 'gabletlaw24.FramesBack': WHATEVER THE INPUT: true; the input reads as it did. -/
def framesBackSpec : ChangeSpec := { name := "framesBack", fn := fun _ => fun
  | [d1, d2, d3, d4, d5] => { results := [.lit (.bool true)], args := [d1, d2, d3, d4, d5] }
  | _ => none }
def framesBackRow : OpenClaim := { program := "ytbfcfhfnkpklkaa", sum := "9ba3a7e32be47e85c4ef91f4f916f0335f9e3cadf8b9eed48fc0be2534056c4e", func := "gablet/gabletlaw24.FramesBack", spec := "framesBack", apart := false }
def FramesBackSaid : Prop := framesBackRow.holds Try.pinned (OpenSpec.ofChange framesBackSpec)

/-- ITS FALSE NEIGHBOUR: 'it returns false'. Refute it at one input. -/
def framesBackWrong : ChangeSpec := { name := "framesBack", fn := fun _ => fun
  | [d1, d2, d3, d4, d5] => { results := [.lit (.bool false)], args := [d1, d2, d3, d4, d5] }
  | _ => none }
def FramesBackWrongFalsely : Prop := framesBackRow.holds Try.pinned (OpenSpec.ofChange framesBackWrong)

/-- 'gabletlaw23.RowsBack': WHATEVER THE INPUT: true; the input reads as it did. -/
def rowsBackSpec : ChangeSpec := { name := "rowsBack", fn := fun _ => fun
  | [d1, d2, d3] => { results := [.lit (.bool true)], args := [d1, d2, d3] }
  | _ => none }
def rowsBackRow : OpenClaim := { program := "ytbfcfhfnkpklkaa", sum := "9ba3a7e32be47e85c4ef91f4f916f0335f9e3cadf8b9eed48fc0be2534056c4e", func := "gablet/gabletlaw23.RowsBack", spec := "rowsBack", unfollowed := true, recurses := true, apart := false }
def RowsBackSaid : Prop := rowsBackRow.holds Try.pinned (OpenSpec.ofChange rowsBackSpec)

/-- ITS FALSE NEIGHBOUR: 'it returns false'. Refute it at one input. -/
def rowsBackWrong : ChangeSpec := { name := "rowsBack", fn := fun _ => fun
  | [d1, d2, d3] => { results := [.lit (.bool false)], args := [d1, d2, d3] }
  | _ => none }
def RowsBackWrongFalsely : Prop := rowsBackRow.holds Try.pinned (OpenSpec.ofChange rowsBackWrong)

/-- 'gabletlaw23.RowsWrites': WHATEVER THE INPUT: true; the input reads as it did. -/
def rowsWritesSpec : ChangeSpec := { name := "rowsWrites", fn := fun _ => fun
  | [d1, d2] => { results := [.lit (.bool true)], args := [d1, d2] }
  | _ => none }
def rowsWritesRow : OpenClaim := { program := "ytbfcfhfnkpklkaa", sum := "9ba3a7e32be47e85c4ef91f4f916f0335f9e3cadf8b9eed48fc0be2534056c4e", func := "gablet/gabletlaw23.RowsWrites", spec := "rowsWrites", inPlace := ["internal/bytealg.Compare"], unfollowed := true, recurses := true, apart := false }
def RowsWritesSaid : Prop := rowsWritesRow.holds Try.pinned (OpenSpec.ofChange rowsWritesSpec)

/-- ITS FALSE NEIGHBOUR: 'it returns false'. Refute it at one input. -/
def rowsWritesWrong : ChangeSpec := { name := "rowsWrites", fn := fun _ => fun
  | [d1, d2] => { results := [.lit (.bool false)], args := [d1, d2] }
  | _ => none }
def RowsWritesWrongFalsely : Prop := rowsWritesRow.holds Try.pinned (OpenSpec.ofChange rowsWritesWrong)

/-- 'gabletlaw23.RowsRise': WHATEVER THE INPUT: true; the input reads as it did. -/
def rowsRiseSpec : ChangeSpec := { name := "rowsRise", fn := fun _ => fun
  | [d1, d2] => { results := [.lit (.bool true)], args := [d1, d2] }
  | _ => none }
def rowsRiseRow : OpenClaim := { program := "ytbfcfhfnkpklkaa", sum := "9ba3a7e32be47e85c4ef91f4f916f0335f9e3cadf8b9eed48fc0be2534056c4e", func := "gablet/gabletlaw23.RowsRise", spec := "rowsRise", inPlace := ["internal/bytealg.Compare"], unfollowed := true, recurses := true, apart := false }
def RowsRiseSaid : Prop := rowsRiseRow.holds Try.pinned (OpenSpec.ofChange rowsRiseSpec)

/-- ITS FALSE NEIGHBOUR: 'it returns false'. Refute it at one input. -/
def rowsRiseWrong : ChangeSpec := { name := "rowsRise", fn := fun _ => fun
  | [d1, d2] => { results := [.lit (.bool false)], args := [d1, d2] }
  | _ => none }
def RowsRiseWrongFalsely : Prop := rowsRiseRow.holds Try.pinned (OpenSpec.ofChange rowsRiseWrong)

/- THE SECOND FORM. 'bulk': how many values and letters a reading holds, each counted each time it is reached (what is shared counts as often as it is met; a slice's spare places count too). A statement '..UptoSaid' is the law's where the arguments, and the package variables that the reading takes, are together of bulk at most 1048576: NARROWER than '..Said'. Prove '..Said' where nothing that the law and all that it calls make is longer than what came in: it says more and counts as full. Else prove '..UptoSaid'. A law counts once. -/
mutual
def uptoBulk {H : Type} : DataW H → Nat
  | .lit (.string bytes) => bytes.length + 1
  | .lit _ => 1
  | .nil => 1
  | .ptr d => uptoBulk d + 1
  | .slice elems spare => uptoBulkAll elems + uptoBulkAll spare + 1
  | .agg parts => uptoBulkAll parts + 1
  | .iface _ d => uptoBulk d + 1
  | .map entries => uptoBulkEntries entries + 1
  | .held _ => 1
def uptoBulkAll {H : Type} : List (DataW H) → Nat
  | [] => 0
  | d :: r => uptoBulk d + uptoBulkAll r
def uptoBulkEntries {H : Type} : List (Lit × DataW H) → Nat
  | [] => 0
  | x :: r => uptoBulkEntry x + uptoBulkEntries r
def uptoBulkEntry {H : Type} : Lit × DataW H → Nat
  | (.string bytes, d) => bytes.length + uptoBulk d + 1
  | (_, d) => uptoBulk d + 1
 end
def uptoSmall : (H : Type) → List (DataW H) → Bool := fun _ ds => decide (uptoBulkAll ds ≤ 1048576)
def OpenSpec.upto (s : _root_.Go.ChangeSpec) : _root_.Go.OpenSpec := { _root_.Go.OpenSpec.ofChange s with cond := some uptoSmall }

/-- 'gabletlaw02.CrcSums', WHERE WHAT IT READS IS OF BULK AT MOST 1048576: true; the input reads as it did. -/
def crcSumsUptoRow : OpenClaim := { program := "ytbfcfhfnkpklkaa", sum := "9ba3a7e32be47e85c4ef91f4f916f0335f9e3cadf8b9eed48fc0be2534056c4e", func := "gablet/gabletlaw02.CrcSums", spec := "crcSums", apart := false, narrowed := true }
def CrcSumsUptoSaid : Prop := crcSumsUptoRow.holds Try.pinned (OpenSpec.upto crcSumsSpec)

/-- 'gabletlaw02.CrcParts', WHERE WHAT IT READS IS OF BULK AT MOST 1048576: true; the input reads as it did. -/
def crcPartsUptoRow : OpenClaim := { program := "ytbfcfhfnkpklkaa", sum := "9ba3a7e32be47e85c4ef91f4f916f0335f9e3cadf8b9eed48fc0be2534056c4e", func := "gablet/gabletlaw02.CrcParts", spec := "crcParts", apart := false, narrowed := true }
def CrcPartsUptoSaid : Prop := crcPartsUptoRow.holds Try.pinned (OpenSpec.upto crcPartsSpec)

/-- 'gabletlaw02.CrcAdds', WHERE WHAT IT READS IS OF BULK AT MOST 1048576: true; the input reads as it did. -/
def crcAddsUptoRow : OpenClaim := { program := "ytbfcfhfnkpklkaa", sum := "9ba3a7e32be47e85c4ef91f4f916f0335f9e3cadf8b9eed48fc0be2534056c4e", func := "gablet/gabletlaw02.CrcAdds", spec := "crcAdds", apart := false, narrowed := true }
def CrcAddsUptoSaid : Prop := crcAddsUptoRow.holds Try.pinned (OpenSpec.upto crcAddsSpec)

/-- 'gabletlaw02.CrcTurned', WHERE WHAT IT READS IS OF BULK AT MOST 1048576: true; the input reads as it did. -/
def crcTurnedUptoRow : OpenClaim := { program := "ytbfcfhfnkpklkaa", sum := "9ba3a7e32be47e85c4ef91f4f916f0335f9e3cadf8b9eed48fc0be2534056c4e", func := "gablet/gabletlaw02.CrcTurned", spec := "crcTurned", apart := false, narrowed := true }
def CrcTurnedUptoSaid : Prop := crcTurnedUptoRow.holds Try.pinned (OpenSpec.upto crcTurnedSpec)

/-- 'gabletlaw02.CrcSwaps', WHERE WHAT IT READS IS OF BULK AT MOST 1048576: true; the input reads as it did. -/
def crcSwapsUptoRow : OpenClaim := { program := "ytbfcfhfnkpklkaa", sum := "9ba3a7e32be47e85c4ef91f4f916f0335f9e3cadf8b9eed48fc0be2534056c4e", func := "gablet/gabletlaw02.CrcSwaps", spec := "crcSwaps", apart := false, narrowed := true }
def CrcSwapsUptoSaid : Prop := crcSwapsUptoRow.holds Try.pinned (OpenSpec.upto crcSwapsSpec)

/-- 'gabletlaw01.OctetNumbers', WHERE WHAT IT READS IS OF BULK AT MOST 1048576: true; the input reads as it did. -/
def octetNumbersUptoRow : OpenClaim := { program := "ytbfcfhfnkpklkaa", sum := "9ba3a7e32be47e85c4ef91f4f916f0335f9e3cadf8b9eed48fc0be2534056c4e", func := "gablet/gabletlaw01.OctetNumbers", spec := "octetNumbers", inPlace := ["internal/bytealg.Compare"], apart := false, narrowed := true }
def OctetNumbersUptoSaid : Prop := octetNumbersUptoRow.holds Try.pinned (OpenSpec.upto octetNumbersSpec)

/-- 'gabletlaw01.OctetStrings', WHERE WHAT IT READS IS OF BULK AT MOST 1048576: true; the input reads as it did. -/
def octetStringsUptoRow : OpenClaim := { program := "ytbfcfhfnkpklkaa", sum := "9ba3a7e32be47e85c4ef91f4f916f0335f9e3cadf8b9eed48fc0be2534056c4e", func := "gablet/gabletlaw01.OctetStrings", spec := "octetStrings", inPlace := ["internal/bytealg.Compare"], apart := false, narrowed := true }
def OctetStringsUptoSaid : Prop := octetStringsUptoRow.holds Try.pinned (OpenSpec.upto octetStringsSpec)

/-- 'gabletlaw01.OctetBack', WHERE WHAT IT READS IS OF BULK AT MOST 1048576: true; the input reads as it did. -/
def octetBackUptoRow : OpenClaim := { program := "ytbfcfhfnkpklkaa", sum := "9ba3a7e32be47e85c4ef91f4f916f0335f9e3cadf8b9eed48fc0be2534056c4e", func := "gablet/gabletlaw01.OctetBack", spec := "octetBack", inPlace := ["internal/bytealg.Compare"], apart := false, narrowed := true }
def OctetBackUptoSaid : Prop := octetBackUptoRow.holds Try.pinned (OpenSpec.upto octetBackSpec)

/-- 'gabletlaw01.OctetOrders', WHERE WHAT IT READS IS OF BULK AT MOST 1048576: true; the input reads as it did. -/
def octetOrdersUptoRow : OpenClaim := { program := "ytbfcfhfnkpklkaa", sum := "9ba3a7e32be47e85c4ef91f4f916f0335f9e3cadf8b9eed48fc0be2534056c4e", func := "gablet/gabletlaw01.OctetOrders", spec := "octetOrders", inPlace := ["internal/bytealg.Compare"], apart := false, narrowed := true }
def OctetOrdersUptoSaid : Prop := octetOrdersUptoRow.holds Try.pinned (OpenSpec.upto octetOrdersSpec)

/-- 'gabletlaw01.OctetSorts', WHERE WHAT IT READS IS OF BULK AT MOST 1048576: true; the input reads as it did. -/
def octetSortsUptoRow : OpenClaim := { program := "ytbfcfhfnkpklkaa", sum := "9ba3a7e32be47e85c4ef91f4f916f0335f9e3cadf8b9eed48fc0be2534056c4e", func := "gablet/gabletlaw01.OctetSorts", spec := "octetSorts", inPlace := ["internal/bytealg.Compare"], apart := false, narrowed := true }
def OctetSortsUptoSaid : Prop := octetSortsUptoRow.holds Try.pinned (OpenSpec.upto octetSortsSpec)

/-- 'gabletlaw01.OctetRows', WHERE WHAT IT READS IS OF BULK AT MOST 1048576: true; the input reads as it did. -/
def octetRowsUptoRow : OpenClaim := { program := "ytbfcfhfnkpklkaa", sum := "9ba3a7e32be47e85c4ef91f4f916f0335f9e3cadf8b9eed48fc0be2534056c4e", func := "gablet/gabletlaw01.OctetRows", spec := "octetRows", inPlace := ["internal/bytealg.Compare"], apart := false, narrowed := true }
def OctetRowsUptoSaid : Prop := octetRowsUptoRow.holds Try.pinned (OpenSpec.upto octetRowsSpec)

/-- 'gabletlaw24.FramesPlays', WHERE WHAT IT READS IS OF BULK AT MOST 1048576: true; the input reads as it did. -/
def framesPlaysUptoRow : OpenClaim := { program := "ytbfcfhfnkpklkaa", sum := "9ba3a7e32be47e85c4ef91f4f916f0335f9e3cadf8b9eed48fc0be2534056c4e", func := "gablet/gabletlaw24.FramesPlays", spec := "framesPlays", apart := false, narrowed := true }
def FramesPlaysUptoSaid : Prop := framesPlaysUptoRow.holds Try.pinned (OpenSpec.upto framesPlaysSpec)

/-- 'gabletlaw24.FramesBack', WHERE WHAT IT READS IS OF BULK AT MOST 1048576: true; the input reads as it did. -/
def framesBackUptoRow : OpenClaim := { program := "ytbfcfhfnkpklkaa", sum := "9ba3a7e32be47e85c4ef91f4f916f0335f9e3cadf8b9eed48fc0be2534056c4e", func := "gablet/gabletlaw24.FramesBack", spec := "framesBack", apart := false, narrowed := true }
def FramesBackUptoSaid : Prop := framesBackUptoRow.holds Try.pinned (OpenSpec.upto framesBackSpec)

/-- 'gabletlaw23.RowsBack', WHERE WHAT IT READS IS OF BULK AT MOST 1048576: true; the input reads as it did. -/
def rowsBackUptoRow : OpenClaim := { program := "ytbfcfhfnkpklkaa", sum := "9ba3a7e32be47e85c4ef91f4f916f0335f9e3cadf8b9eed48fc0be2534056c4e", func := "gablet/gabletlaw23.RowsBack", spec := "rowsBack", unfollowed := true, recurses := true, apart := false, narrowed := true }
def RowsBackUptoSaid : Prop := rowsBackUptoRow.holds Try.pinned (OpenSpec.upto rowsBackSpec)

/-- 'gabletlaw23.RowsWrites', WHERE WHAT IT READS IS OF BULK AT MOST 1048576: true; the input reads as it did. -/
def rowsWritesUptoRow : OpenClaim := { program := "ytbfcfhfnkpklkaa", sum := "9ba3a7e32be47e85c4ef91f4f916f0335f9e3cadf8b9eed48fc0be2534056c4e", func := "gablet/gabletlaw23.RowsWrites", spec := "rowsWrites", inPlace := ["internal/bytealg.Compare"], unfollowed := true, recurses := true, apart := false, narrowed := true }
def RowsWritesUptoSaid : Prop := rowsWritesUptoRow.holds Try.pinned (OpenSpec.upto rowsWritesSpec)

/-- 'gabletlaw23.RowsRise', WHERE WHAT IT READS IS OF BULK AT MOST 1048576: true; the input reads as it did. -/
def rowsRiseUptoRow : OpenClaim := { program := "ytbfcfhfnkpklkaa", sum := "9ba3a7e32be47e85c4ef91f4f916f0335f9e3cadf8b9eed48fc0be2534056c4e", func := "gablet/gabletlaw23.RowsRise", spec := "rowsRise", inPlace := ["internal/bytealg.Compare"], unfollowed := true, recurses := true, apart := false, narrowed := true }
def RowsRiseUptoSaid : Prop := rowsRiseUptoRow.holds Try.pinned (OpenSpec.upto rowsRiseSpec)

end Rows
end Go.Proofs.Ytbfcfhfnkpklkaa

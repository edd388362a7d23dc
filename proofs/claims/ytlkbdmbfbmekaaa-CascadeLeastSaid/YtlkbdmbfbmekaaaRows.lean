/-
  No cell of these rows narrows 'for every input' (looked for: loops, veiled, ifaces, maps, wideKeys, modest, calm, conditions, laid).
  DERIVED. THE GIVEN ROWS OF THIS SEAT. 8 by the template 'for every input the law returns true; each argument reads behind the call as it read before'; 0 by the template 'total and deterministic' (their statements: YtlkbdmbfbmekaaaTotals.lean).
  GIVEN WITH THE SEED: the statements are not yours to turn. If you find one false, say at which input.
  Laid BY PROGRAM, IN A SANDBOX (cutbox-rows.mjs): the forced cells as the released guide's own fill.sh prints them over the translation f851b79afb281806… (all of the seat's roots in one cut). By AI agents, Wed Nov 11 2026. No macro, syntax, notation, axiom, sorry.
-/
import Derived.Test.YtlkbdmbfbmekaaaChecked
import GoSem.Claim
import GoSem.ClaimJoined
import GoSem.ClaimMapViews
import Derived.JoinedTies
import Derived.KernelRfl
namespace Go.Proofs.Ytlkbdmbfbmekaaa
/- THE CELL 'sum', in the pinned program and in every row, IS THE sha256 OF THE DUMP (.gsa) THAT YtlkbdmbfbmekaaaProg.lean LOADS. Nothing in Lean hashes anything: it is a label: what it is worth is what the hold of that sum in a sandbox is worth. -/
noncomputable def Try.pinned : Pinned := { name := "ytlkbdmbfbmekaaa", sum := "f851b79afb28180622946ac40e66eb2a20ec4741288a41e4b39ff4b232580906", checked := Try.checked }
namespace Rows
def none {H : Type} : Left H := { results := [], args := [] }

/-- 'gabletlaw06.PagesAll': WHATEVER THE INPUT: true; the input reads as it did. -/
def pagesAllSpec : ChangeSpec := { name := "pagesAll", fn := fun _ => fun
  | [d1, d2] => { results := [.lit (.bool true)], args := [d1, d2] }
  | _ => none }
def pagesAllRow : OpenClaim := { program := "ytlkbdmbfbmekaaa", sum := "f851b79afb28180622946ac40e66eb2a20ec4741288a41e4b39ff4b232580906", func := "gablet/gabletlaw06.PagesAll", spec := "pagesAll", apart := false }
def PagesAllSaid : Prop := pagesAllRow.holds Try.pinned (OpenSpec.ofChange pagesAllSpec)

/-- ITS FALSE NEIGHBOUR: 'it returns false'. Refute it at one input. -/
def pagesAllWrong : ChangeSpec := { name := "pagesAll", fn := fun _ => fun
  | [d1, d2] => { results := [.lit (.bool false)], args := [d1, d2] }
  | _ => none }
def PagesAllWrongFalsely : Prop := pagesAllRow.holds Try.pinned (OpenSpec.ofChange pagesAllWrong)

/-- 'gabletlaw06.PagesKeeps': WHATEVER THE INPUT: true; the input reads as it did. -/
def pagesKeepsSpec : ChangeSpec := { name := "pagesKeeps", fn := fun _ => fun
  | [d1, d2] => { results := [.lit (.bool true)], args := [d1, d2] }
  | _ => none }
def pagesKeepsRow : OpenClaim := { program := "ytlkbdmbfbmekaaa", sum := "f851b79afb28180622946ac40e66eb2a20ec4741288a41e4b39ff4b232580906", func := "gablet/gabletlaw06.PagesKeeps", spec := "pagesKeeps", apart := false }
def PagesKeepsSaid : Prop := pagesKeepsRow.holds Try.pinned (OpenSpec.ofChange pagesKeepsSpec)

/-- ITS FALSE NEIGHBOUR: 'it returns false'. Refute it at one input. -/
def pagesKeepsWrong : ChangeSpec := { name := "pagesKeeps", fn := fun _ => fun
  | [d1, d2] => { results := [.lit (.bool false)], args := [d1, d2] }
  | _ => none }
def PagesKeepsWrongFalsely : Prop := pagesKeepsRow.holds Try.pinned (OpenSpec.ofChange pagesKeepsWrong)

/-- 'gabletlaw06.PagesPlays': WHATEVER THE INPUT: true; the input reads as it did. -/
def pagesPlaysSpec : ChangeSpec := { name := "pagesPlays", fn := fun _ => fun
  | [d1, d2] => { results := [.lit (.bool true)], args := [d1, d2] }
  | _ => none }
def pagesPlaysRow : OpenClaim := { program := "ytlkbdmbfbmekaaa", sum := "f851b79afb28180622946ac40e66eb2a20ec4741288a41e4b39ff4b232580906", func := "gablet/gabletlaw06.PagesPlays", spec := "pagesPlays", apart := false }
def PagesPlaysSaid : Prop := pagesPlaysRow.holds Try.pinned (OpenSpec.ofChange pagesPlaysSpec)

/-- ITS FALSE NEIGHBOUR: 'it returns false'. Refute it at one input. -/
def pagesPlaysWrong : ChangeSpec := { name := "pagesPlays", fn := fun _ => fun
  | [d1, d2] => { results := [.lit (.bool false)], args := [d1, d2] }
  | _ => none }
def PagesPlaysWrongFalsely : Prop := pagesPlaysRow.holds Try.pinned (OpenSpec.ofChange pagesPlaysWrong)

/-- 'gabletlaw06.PagesNil': WHATEVER THE INPUT: true; the input reads as it did. -/
def pagesNilSpec : ChangeSpec := { name := "pagesNil", fn := fun _ => fun
  | [d] => { results := [.lit (.bool true)], args := [d] }
  | _ => none }
def pagesNilRow : OpenClaim := { program := "ytlkbdmbfbmekaaa", sum := "f851b79afb28180622946ac40e66eb2a20ec4741288a41e4b39ff4b232580906", func := "gablet/gabletlaw06.PagesNil", spec := "pagesNil", apart := false }
def PagesNilSaid : Prop := pagesNilRow.holds Try.pinned (OpenSpec.ofChange pagesNilSpec)

/-- ITS FALSE NEIGHBOUR: 'it returns false'. Refute it at one input. -/
def pagesNilWrong : ChangeSpec := { name := "pagesNil", fn := fun _ => fun
  | [d] => { results := [.lit (.bool false)], args := [d] }
  | _ => none }
def PagesNilWrongFalsely : Prop := pagesNilRow.holds Try.pinned (OpenSpec.ofChange pagesNilWrong)

/-- 'gabletlaw31.CascadePlays': WHATEVER THE INPUT: true; the input reads as it did. -/
def cascadePlaysSpec : ChangeSpec := { name := "cascadePlays", fn := fun _ => fun
  | [d1, d2, d3, d4] => { results := [.lit (.bool true)], args := [d1, d2, d3, d4] }
  | _ => none }
def cascadePlaysRow : OpenClaim := { program := "ytlkbdmbfbmekaaa", sum := "f851b79afb28180622946ac40e66eb2a20ec4741288a41e4b39ff4b232580906", func := "gablet/gabletlaw31.CascadePlays", spec := "cascadePlays", unfollowed := true, recurses := true, apart := false }
def CascadePlaysSaid : Prop := cascadePlaysRow.holds Try.pinned (OpenSpec.ofChange cascadePlaysSpec)

/-- ITS FALSE NEIGHBOUR: 'it returns false'. Refute it at one input. -/
def cascadePlaysWrong : ChangeSpec := { name := "cascadePlays", fn := fun _ => fun
  | [d1, d2, d3, d4] => { results := [.lit (.bool false)], args := [d1, d2, d3, d4] }
  | _ => none }
def CascadePlaysWrongFalsely : Prop := cascadePlaysRow.holds Try.pinned (OpenSpec.ofChange cascadePlaysWrong)

/-- 'gabletlaw31.CascadeLeast': WHATEVER THE INPUT: true; the input reads as it did. -/
def cascadeLeastSpec : ChangeSpec := { name := "cascadeLeast", fn := fun _ => fun
  | [d1, d2, d3, d4, d5, d6] => { results := [.lit (.bool true)], args := [d1, d2, d3, d4, d5, d6] }
  | _ => none }
def cascadeLeastRow : OpenClaim := { program := "ytlkbdmbfbmekaaa", sum := "f851b79afb28180622946ac40e66eb2a20ec4741288a41e4b39ff4b232580906", func := "gablet/gabletlaw31.CascadeLeast", spec := "cascadeLeast", unfollowed := true, recurses := true, apart := false }
def CascadeLeastSaid : Prop := cascadeLeastRow.holds Try.pinned (OpenSpec.ofChange cascadeLeastSpec)

/-- ITS FALSE NEIGHBOUR: 'it returns false'. Refute it at one input. -/
def cascadeLeastWrong : ChangeSpec := { name := "cascadeLeast", fn := fun _ => fun
  | [d1, d2, d3, d4, d5, d6] => { results := [.lit (.bool false)], args := [d1, d2, d3, d4, d5, d6] }
  | _ => none }
def CascadeLeastWrongFalsely : Prop := cascadeLeastRow.holds Try.pinned (OpenSpec.ofChange cascadeLeastWrong)

/-- 'gabletlaw31.CascadeHelps': WHATEVER THE INPUT: true; the input reads as it did. -/
def cascadeHelpsSpec : ChangeSpec := { name := "cascadeHelps", fn := fun _ => fun
  | [d1, d2, d3, d4] => { results := [.lit (.bool true)], args := [d1, d2, d3, d4] }
  | _ => none }
def cascadeHelpsRow : OpenClaim := { program := "ytlkbdmbfbmekaaa", sum := "f851b79afb28180622946ac40e66eb2a20ec4741288a41e4b39ff4b232580906", func := "gablet/gabletlaw31.CascadeHelps", spec := "cascadeHelps", unfollowed := true, recurses := true, apart := false }
def CascadeHelpsSaid : Prop := cascadeHelpsRow.holds Try.pinned (OpenSpec.ofChange cascadeHelpsSpec)

/-- ITS FALSE NEIGHBOUR: 'it returns false'. Refute it at one input. -/
def cascadeHelpsWrong : ChangeSpec := { name := "cascadeHelps", fn := fun _ => fun
  | [d1, d2, d3, d4] => { results := [.lit (.bool false)], args := [d1, d2, d3, d4] }
  | _ => none }
def CascadeHelpsWrongFalsely : Prop := cascadeHelpsRow.holds Try.pinned (OpenSpec.ofChange cascadeHelpsWrong)

/-- 'gabletlaw31.CascadeSafe': WHATEVER THE INPUT: true; the input reads as it did. -/
def cascadeSafeSpec : ChangeSpec := { name := "cascadeSafe", fn := fun _ => fun
  | [d1, d2] => { results := [.lit (.bool true)], args := [d1, d2] }
  | _ => none }
def cascadeSafeRow : OpenClaim := { program := "ytlkbdmbfbmekaaa", sum := "f851b79afb28180622946ac40e66eb2a20ec4741288a41e4b39ff4b232580906", func := "gablet/gabletlaw31.CascadeSafe", spec := "cascadeSafe", unfollowed := true, recurses := true, apart := false }
def CascadeSafeSaid : Prop := cascadeSafeRow.holds Try.pinned (OpenSpec.ofChange cascadeSafeSpec)

/-- ITS FALSE NEIGHBOUR: 'it returns false'. Refute it at one input. -/
def cascadeSafeWrong : ChangeSpec := { name := "cascadeSafe", fn := fun _ => fun
  | [d1, d2] => { results := [.lit (.bool false)], args := [d1, d2] }
  | _ => none }
def CascadeSafeWrongFalsely : Prop := cascadeSafeRow.holds Try.pinned (OpenSpec.ofChange cascadeSafeWrong)

/- THE SECOND FORM. 'bulk': how many values and letters a reading holds, each counted each time it is reached (what is shared counts as often as it is met; a slice's spare places count too). A statement '..UptoSaid' is the law's where the arguments, and the package variables that the reading takes, are together of bulk at most 1048576: NARROWER than '..Said'. Prove '..Said' where nothing that the law and all that it calls make is longer than what came in: it says more and counts as full. Else prove '..UptoSaid'. A law counts once. -/
mutual
def uptoBulk {H : Type} : DataW H → Nat
  | .lit (.string bytes) => bytes.length + 1
  | .lit _ => 1
  | .nil => 1
  | .ptr d => uptoBulk d + 1
  | .slice elems spare => uptoBulkAll elems + uptoBulkAll spare + 1
  | .agg parts => uptoBulkAll parts + 1
  | .iface _ d => uptoBulk d + 1
  | .map entries => uptoBulkEntries entries + 1
  | .held _ => 1
def uptoBulkAll {H : Type} : List (DataW H) → Nat
  | [] => 0
  | d :: r => uptoBulk d + uptoBulkAll r
def uptoBulkEntries {H : Type} : List (Lit × DataW H) → Nat
  | [] => 0
  | x :: r => uptoBulkEntry x + uptoBulkEntries r
def uptoBulkEntry {H : Type} : Lit × DataW H → Nat
  | (.string bytes, d) => bytes.length + uptoBulk d + 1
  | (_, d) => uptoBulk d + 1
 end
def uptoSmall : (H : Type) → List (DataW H) → Bool := fun _ ds => decide (uptoBulkAll ds ≤ 1048576)
def OpenSpec.upto (s : _root_.Go.ChangeSpec) : _root_.Go.OpenSpec := { _root_.Go.OpenSpec.ofChange s with cond := some uptoSmall }

/-- 'gabletlaw06.PagesAll', WHERE WHAT IT READS IS OF BULK AT MOST 1048576: true; the input reads as it did. -/
def pagesAllUptoRow : OpenClaim := { program := "ytlkbdmbfbmekaaa", sum := "f851b79afb28180622946ac40e66eb2a20ec4741288a41e4b39ff4b232580906", func := "gablet/gabletlaw06.PagesAll", spec := "pagesAll", apart := false, narrowed := true }
def PagesAllUptoSaid : Prop := pagesAllUptoRow.holds Try.pinned (OpenSpec.upto pagesAllSpec)

/-- 'gabletlaw06.PagesKeeps', WHERE WHAT IT READS IS OF BULK AT MOST 1048576: true; the input reads as it did. -/
def pagesKeepsUptoRow : OpenClaim := { program := "ytlkbdmbfbmekaaa", sum := "f851b79afb28180622946ac40e66eb2a20ec4741288a41e4b39ff4b232580906", func := "gablet/gabletlaw06.PagesKeeps", spec := "pagesKeeps", apart := false, narrowed := true }
def PagesKeepsUptoSaid : Prop := pagesKeepsUptoRow.holds Try.pinned (OpenSpec.upto pagesKeepsSpec)

/-- 'gabletlaw06.PagesPlays', WHERE WHAT IT READS IS OF BULK AT MOST 1048576: true; the input reads as it did. -/
def pagesPlaysUptoRow : OpenClaim := { program := "ytlkbdmbfbmekaaa", sum := "f851b79afb28180622946ac40e66eb2a20ec4741288a41e4b39ff4b232580906", func := "gablet/gabletlaw06.PagesPlays", spec := "pagesPlays", apart := false, narrowed := true }
def PagesPlaysUptoSaid : Prop := pagesPlaysUptoRow.holds Try.pinned (OpenSpec.upto pagesPlaysSpec)

/-- 'gabletlaw06.PagesNil', WHERE WHAT IT READS IS OF BULK AT MOST 1048576: true; the input reads as it did. -/
def pagesNilUptoRow : OpenClaim := { program := "ytlkbdmbfbmekaaa", sum := "f851b79afb28180622946ac40e66eb2a20ec4741288a41e4b39ff4b232580906", func := "gablet/gabletlaw06.PagesNil", spec := "pagesNil", apart := false, narrowed := true }
def PagesNilUptoSaid : Prop := pagesNilUptoRow.holds Try.pinned (OpenSpec.upto pagesNilSpec)

/-- 'gabletlaw31.CascadePlays', WHERE WHAT IT READS IS OF BULK AT MOST 1048576: true; the input reads as it did. -/
def cascadePlaysUptoRow : OpenClaim := { program := "ytlkbdmbfbmekaaa", sum := "f851b79afb28180622946ac40e66eb2a20ec4741288a41e4b39ff4b232580906", func := "gablet/gabletlaw31.CascadePlays", spec := "cascadePlays", unfollowed := true, recurses := true, apart := false, narrowed := true }
def CascadePlaysUptoSaid : Prop := cascadePlaysUptoRow.holds Try.pinned (OpenSpec.upto cascadePlaysSpec)

/-- 'gabletlaw31.CascadeLeast', WHERE WHAT IT READS IS OF BULK AT MOST 1048576: true; the input reads as it did. -/
def cascadeLeastUptoRow : OpenClaim := { program := "ytlkbdmbfbmekaaa", sum := "f851b79afb28180622946ac40e66eb2a20ec4741288a41e4b39ff4b232580906", func := "gablet/gabletlaw31.CascadeLeast", spec := "cascadeLeast", unfollowed := true, recurses := true, apart := false, narrowed := true }
def CascadeLeastUptoSaid : Prop := cascadeLeastUptoRow.holds Try.pinned (OpenSpec.upto cascadeLeastSpec)

/-- 'gabletlaw31.CascadeHelps', WHERE WHAT IT READS IS OF BULK AT MOST 1048576: true; the input reads as it did. -/
def cascadeHelpsUptoRow : OpenClaim := { program := "ytlkbdmbfbmekaaa", sum := "f851b79afb28180622946ac40e66eb2a20ec4741288a41e4b39ff4b232580906", func := "gablet/gabletlaw31.CascadeHelps", spec := "cascadeHelps", unfollowed := true, recurses := true, apart := false, narrowed := true }
def CascadeHelpsUptoSaid : Prop := cascadeHelpsUptoRow.holds Try.pinned (OpenSpec.upto cascadeHelpsSpec)

/-- 'gabletlaw31.CascadeSafe', WHERE WHAT IT READS IS OF BULK AT MOST 1048576: true; the input reads as it did. -/
def cascadeSafeUptoRow : OpenClaim := { program := "ytlkbdmbfbmekaaa", sum := "f851b79afb28180622946ac40e66eb2a20ec4741288a41e4b39ff4b232580906", func := "gablet/gabletlaw31.CascadeSafe", spec := "cascadeSafe", unfollowed := true, recurses := true, apart := false, narrowed := true }
def CascadeSafeUptoSaid : Prop := cascadeSafeUptoRow.holds Try.pinned (OpenSpec.upto cascadeSafeSpec)

end Rows
end Go.Proofs.Ytlkbdmbfbmekaaa

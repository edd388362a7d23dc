/-
  RowsBack, as the row hands it.
-/
import Derived.Test.YtniekddoaokmkaaRowFrame2
import Derived.Test.YtniekddoaokmkaaRowsBackWalk
namespace Go.Proofs.Ytniekddoaokmkaa
open Go.RowKit Go.Gab

theorem rowsBack_walkF (W : World) {a0 : Array Value} {s0 : Rws.St} (h0 : stR.rel W W.heap.size a0.toList s0) {a1 : Int} (h1 : (Lit.int .u16 a1).wf = true) (a2 : Bool) :
    Calls Try.prog 3 #[.agg a0, .int .u16 a1, .bool a2] W fun e W' => e = .returned (.bool true) ∧ Below W.heap.size W W' := by
  obtain ⟨Aa, Ad, Ar, Aq, ca, cd, cr, cq, rfl, ha⟩ := st_in h0
  obtain ⟨m, rfl, hm⟩ : ∃ m : Nat, a1 = (m : Int) ∧ m < 65536 := by
    simp [Lit.wf, IntKind.min, IntKind.max, IntKind.signed, IntKind.bits] at h1
    exact ⟨a1.toNat, by omega, by omega⟩
  exact rowsBack_walk W.heap.size s0 m a2 W ha (Nat.le_refl _) hm

end Go.Proofs.Ytniekddoaokmkaa

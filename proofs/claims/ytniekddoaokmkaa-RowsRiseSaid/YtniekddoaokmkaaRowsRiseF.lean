/-
  RowsRise, as the row hands it.
-/
import Derived.Test.YtniekddoaokmkaaRowFrame2
import Derived.Test.YtniekddoaokmkaaRowsRiseWalk
namespace Go.Proofs.Ytniekddoaokmkaa
open Go.RowKit Go.Gab

theorem rowsRise_walkF (W : World) {a0 a1 : Array Value} {s0 s1 : Rws.St} (h0 : stR.rel W W.heap.size a0.toList s0) (h1 : stR.rel W W.heap.size a1.toList s1) :
    Calls Try.prog 5 #[.agg a0, .agg a1] W fun e W' => e = .returned (.bool true) ∧ Below W.heap.size W W' := by
  obtain ⟨Aa, Ad, Ar, Aq, ca, cd, cr, cq, rfl, ha⟩ := st_in h0
  obtain ⟨Ba, Bd, Br, Bq, da, dd, dr, dq, rfl, hb⟩ := st_in h1
  exact rowsRise_walk W.heap.size s0 s1 W ha hb (Nat.le_refl _)

end Go.Proofs.Ytniekddoaokmkaa

/-
  PagesNil, walked.
-/
import Derived.Test.YtlkbdmbfbmekaaaPagWorks
namespace Go.Proofs.Ytlkbdmbfbmekaaa
open Go.RowKit Go.Gab
set_option linter.unusedVariables false

set_option maxHeartbeats 1000000 in
theorem pagesNil_walk {k : Int} (W : World) (hk : (Lit.int .i64 k).wf = true) :
    Calls Try.prog 6 #[.int .i64 k] W fun e w' => e = .returned (.bool true) ∧ Below W.heap.size W w' := by
  clear hk
  go_enter Try.func6, Try.ntmps6
  go_wp2_with fail
  refine (pagTake_nil _).mono ?_
  rintro e w ⟨rfl, rfl⟩
  go_wp2_with fail
  refine (pagUse_nil k _).mono ?_
  rintro e w ⟨rfl, rfl⟩
  go_wp2_with fail
  refine (pagDrop_nil k _).mono ?_
  rintro e w ⟨rfl, rfl⟩
  go_wp2_with fail
  refine (pagSettle_nil _).mono ?_
  rintro e w ⟨rfl, rfl⟩
  go_wp2_with fail
  refine (pagBack_nil _).mono ?_
  rintro e w ⟨rfl, rfl⟩
  go_wp2_with fail
  refine (pagSize_nil _).mono ?_
  rintro e w ⟨rfl, rfl⟩
  go_wp2_with fail
  refine (pagState_nil k _).mono ?_
  rintro e w ⟨rfl, rfl⟩
  go_wp2_with fail
  refine (pagFree_nil _).mono ?_
  rintro e w ⟨rfl, rfl⟩
  go_wp2_with fail
  refine (works06_any _).mono ?_
  rintro e w ⟨rfl, hb⟩
  go_wp2_with fail
  go_ret
  exact ⟨rfl, hb⟩

end Go.Proofs.Ytlkbdmbfbmekaaa

/-
  The anchor of layer 6, walked.
-/
import Derived.Test.YtlkbdmbfbmekaaaPagNew
namespace Go.Proofs.Ytlkbdmbfbmekaaa
open Go.RowKit Go.Gab
set_option linter.unusedVariables false

/-- Pages of the call's own. -/
structure PagIn (W w : World) (hp hr : Nat) (st : List UInt8) : Prop where
  at_ : PagesAt w hp hr st
  bel : Below W.heap.size W w
  hp_le : W.heap.size ≤ hp
  hr_le : W.heap.size ≤ hr

theorem PagIn.turn {W w w' : World} {hp hr : Nat} {st st' : List UInt8} (h : PagIn W w hp hr st) (t : PagTurn w hp hr st' w') : PagIn W w' hp hr st' :=
  ⟨t.1, h.bel.grown t.2 h.bel.size (fun q hq => by injection hq with hq; subst hq; exact h.hr_le), h.hp_le, h.hr_le⟩

theorem PagIn.new {W w w' : World} {k : Nat} (hb : Below W.heap.size W w) (h1 : PagesAt w' (w.heap.size + 1) w.heap.size (List.replicate k 0)) (h2 : Below w.heap.size w w') : PagIn W w' (w.heap.size + 1) w.heap.size (List.replicate k 0) :=
  ⟨h1, hb.trans (h2.mono hb.size), by have := hb.size; omega, hb.size⟩

set_option maxHeartbeats 1000000 in
set_option maxRecDepth 10000 in
theorem works06_any (w : World) :
    Calls Try.prog 16 #[] w fun e w' => e = .returned (.bool true) ∧ Below w.heap.size w w' := by
  go_enter Try.func16, Try.ntmps16
  go_wp2_with fail
  refine (pagNew_yes 3 _ (by omega) (by omega)).mono ?_
  rintro e w1 ⟨rfl, hat, hb⟩
  have h := PagIn.new (Below.refl _ _) hat hb
  clear hat hb
  generalize w.heap.size + 1 = hp at h ⊢
  obtain ⟨hr, hhr⟩ : ∃ hr, hr = w.heap.size := ⟨_, rfl⟩
  rw [← hhr] at h
  clear hhr
  rw [show List.replicate 3 (0 : UInt8) = [0, 0, 0] from rfl] at h
  unfold ptr
  go_wp2_with fail
  refine (pagUse_any hp hr _ 1 _ h.at_).mono ?_
  rintro e w2 ⟨rfl, t⟩
  rw [show pagUse [0, 0, 0] 1 = ([0, 1, 0], 0) from by decide +kernel] at t ⊢
  replace h := h.turn t
  clear t
  go_wp2_with fail
  refine (pagTake_any hp hr _ _ h.at_).mono ?_
  rintro e w3 ⟨rfl, t⟩
  rw [show pagTake [0, 1, 0] = ([2, 1, 0], 0, 0) from by decide +kernel] at t ⊢
  replace h := h.turn t
  clear t
  unfold pairI
  go_wp2_with fail
  refine (pagTake_any hp hr _ _ h.at_).mono ?_
  rintro e w4 ⟨rfl, t⟩
  rw [show pagTake [2, 1, 0] = ([2, 1, 2], 2, 0) from by decide +kernel] at t ⊢
  replace h := h.turn t
  clear t
  unfold pairI
  go_wp2_with fail
  refine (pagTake_any hp hr _ _ h.at_).mono ?_
  rintro e w5 ⟨rfl, t⟩
  rw [show pagTake [2, 1, 2] = ([2, 1, 2], 0, 7) from by decide +kernel] at t ⊢
  replace h := h.turn t
  clear t
  unfold pairI
  go_wp2_with fail
  refine (pagDrop_any hp hr _ 1 _ h.at_).mono ?_
  rintro e w6 ⟨rfl, t⟩
  rw [show pagDrop [2, 1, 2] 1 = ([2, 3, 2], 0) from by decide +kernel] at t ⊢
  replace h := h.turn t
  clear t
  go_wp2_with fail
  refine (pagDrop_any hp hr _ 0 _ h.at_).mono ?_
  rintro e w7 ⟨rfl, t⟩
  rw [show pagDrop [2, 3, 2] 0 = ([0, 3, 2], 0) from by decide +kernel] at t ⊢
  replace h := h.turn t
  clear t
  go_wp2_with fail
  refine (pagFree_any hp hr _ _ h.at_).mono ?_
  rintro e w8 ⟨rfl, rfl⟩
  rw [show pagFree [0, 3, 2] = 1 from by decide +kernel]
  go_wp2_with fail
  refine (pagTake_any hp hr _ _ h.at_).mono ?_
  rintro e w9 ⟨rfl, t⟩
  rw [show pagTake [0, 3, 2] = ([2, 3, 2], 0, 0) from by decide +kernel] at t ⊢
  replace h := h.turn t
  clear t
  unfold pairI
  go_wp2_with fail
  refine (pagSettle_any hp hr _ _ h.at_).mono ?_
  rintro e w10 ⟨rfl, t⟩
  rw [show List.map setOne [2, 3, 2] = [1, 0, 1] from by decide +kernel] at t
  replace h := h.turn t
  clear t
  go_wp2_with fail
  refine (pagFree_any hp hr _ _ h.at_).mono ?_
  rintro e w11 ⟨rfl, rfl⟩
  rw [show pagFree [1, 0, 1] = 1 from by decide +kernel]
  go_wp2_with fail
  refine (pagTake_any hp hr _ _ h.at_).mono ?_
  rintro e w12 ⟨rfl, t⟩
  rw [show pagTake [1, 0, 1] = ([1, 2, 1], 1, 0) from by decide +kernel] at t ⊢
  replace h := h.turn t
  clear t
  unfold pairI
  go_wp2_with fail
  refine (pagState_any hp hr _ 1 _ h.at_).mono ?_
  rintro e w13 ⟨rfl, rfl⟩
  rw [show pagState [1, 2, 1] 1 = 2 from by decide +kernel]
  go_wp2_with fail
  refine (pagState_any hp hr _ 0 _ h.at_).mono ?_
  rintro e w14 ⟨rfl, rfl⟩
  rw [show pagState [1, 2, 1] 0 = 1 from by decide +kernel]
  go_wp2_with fail
  go_ret
  exact ⟨rfl, h.bel⟩

end Go.Proofs.Ytlkbdmbfbmekaaa

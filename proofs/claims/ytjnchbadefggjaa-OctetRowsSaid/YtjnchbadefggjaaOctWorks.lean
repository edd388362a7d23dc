/-
  The anchor of layer 1.
-/
import Derived.Test.YtjnchbadefggjaaOctRefs
namespace Go.Proofs.Ytjnchbadefggjaa
open Go.RowKit Go.Gab
set_option linter.unusedVariables false

theorem eg_take : Oct.take [1, 2, 3] 1 2 = (515, 3, 0) := by decide +kernel
theorem eg_putBytes : Oct.putBytes [] [97, 98] = ([0, 2, 97, 98], 0) := by decide +kernel
theorem eg_takeBytes : Oct.takeBytes [0, 2, 97, 98, 99] 0 = ([97, 98], 4, 0) := by decide +kernel
theorem eg_order : Oct.order [97] [97, 98] = -1 := by decide +kernel
theorem eg_put : Oct.put [] 513 2 = [2, 1] := by decide +kernel
theorem eg_after : Oct.after [97] = [97, 0] := by decide +kernel

set_option maxHeartbeats 1000000 in
theorem works01_any (w : World) :
    Calls Try.prog 24 #[] w fun e w' => e = .returned (.bool true) ∧ Below w.heap.size w w' := by
  have kc := run_bytes_const Try.underlying22 Try.underlying5
  go_enter Try.func24, Try.ntmps24
  go_wp2_with fail
  refine (take_any (w.heap.size + 1) (some ⟨w.heap.size, 0, none⟩) 3 3 [1, 2, 3] 1 2 _ (by exact Sl.lit _ _ _ _ _ _ rfl rfl rfl (by omega) (by omega)) (by simp) (by omega)).mono ?_
  rintro e w1 ⟨rfl, hb1⟩
  rw [eg_take]
  unfold takeV
  have hw1 : Below w.heap.size w w1 := ((Below.refl _ _).alloc (Nat.le_refl _) _).trans (hb1.mono (by simp))
  clear hb1
  go_wp2_with fail
  refine (putBytes_any (w1.heap.size + 1) none (some ⟨w1.heap.size, 0, none⟩) 0 0 2 2 [] [97, 98] _ Sl.nil_ (by exact Sl.lit _ _ _ _ _ _ rfl rfl rfl (by omega) (by omega)) (by simp) (by omega)).mono ?_
  rintro e w2 ⟨v2, rfl, hf⟩
  rw [eg_putBytes] at hf ⊢
  unfold pairV
  obtain ⟨A2, c2, rfl, hown2, hb2⟩ := hf
  have hw2 : Below w.heap.size w w2 := (hw1.alloc hw1.size _).trans (hb2.mono (by have := hw1.size; simp; omega))
  have hs2 : Sl w2 w2.heap.size 1 A2 4 c2 (([0, 2, 97, 98] : List UInt8).map byteV) := Sl.of_own hown2
  clear hb2 hown2
  go_wp2_with fail
  refine (takeBytes_any (w2.heap.size + 1) (some ⟨w2.heap.size, 0, none⟩) 5 5 [0, 2, 97, 98, 99] 0 _ (by exact Sl.lit _ _ _ _ _ _ rfl rfl rfl (by omega) (by omega)) (by simp) (by omega)).mono ?_
  rintro e w3 ⟨v3, rfl, hf⟩
  rw [eg_takeBytes] at hf ⊢
  unfold tripleV
  obtain ⟨A3, c3, rfl, hown3, hb3⟩ := hf
  have hw3 : Below w.heap.size w w3 := (hw2.alloc hw2.size _).trans (hb3.mono (by have := hw2.size; simp; omega))
  have hs3 : Sl w3 w3.heap.size 1 A3 2 c3 (([97, 98] : List UInt8).map byteV) := Sl.of_own hown3
  have hs2' := hs2.below ((Below.refl _ _).alloc (Nat.le_refl _) _ |>.trans (hb3.mono (by simp)))
  clear hb3 hown3 hs2
  have k2 := run_string_of Try.underlying22 Try.underlying5 Try.underlying9 hs2'
  have k3 := run_string_of Try.underlying22 Try.underlying5 Try.underlying9 hs3
  go_wp2_with fail
  refine (order_any (w3.heap.size + 1) (some ⟨w3.heap.size, 0, none⟩) 1 1 (w3.heap.size + 2) (some ⟨w3.heap.size + 1, 0, none⟩) 2 2 [97] [97, 98] _ ?_ ?_).mono ?_
  · exact (Sl.lit w3 _ _ _ _ _ rfl rfl rfl (by omega) (by omega)).alloc (by simp) _
  · exact Sl.lit _ _ _ _ _ _ (by simp) rfl rfl (by omega) (by omega)
  rintro e w4 ⟨rfl, rfl⟩
  rw [eg_order]
  have hw4 := (hw3.alloc hw3.size (.cells #[.int .u8 97] 5 (1, 2))).alloc (by have := hw3.size; simp; omega) (.cells #[.int .u8 97, .int .u8 98] 5 (2, 3))
  go_wp2_with fail
  refine (put_any 0 none 0 0 [] 513 _ 2 rfl (by omega) _ Sl.nil_ (by omega) (by omega)).mono ?_
  rintro e w5 ⟨v5, rfl, hf⟩
  rw [eg_put] at hf
  obtain ⟨A5, c5, rfl, hown5, hb5⟩ := hf
  have hw5 : Below w.heap.size w w5 := hw4.trans (hb5.mono hw4.size)
  have hs5 : Sl w5 w5.heap.size 1 A5 2 c5 (([2, 1] : List UInt8).map byteV) := Sl.of_own hown5
  have k5 := run_string_of Try.underlying22 Try.underlying5 Try.underlying9 hs5
  clear hb5 hown5 hw4 k2 k3
  go_wp2_with fail
  refine (after_any (w5.heap.size + 1) (some ⟨w5.heap.size, 0, none⟩) 1 1 [97] _ (by exact Sl.lit _ _ _ _ _ _ rfl rfl rfl (by omega) (by omega)) (by simp) (by omega)).mono ?_
  rintro e w6 ⟨v6, rfl, hf⟩
  rw [eg_after] at hf
  obtain ⟨A6, c6, rfl, hown6, hb6⟩ := hf
  have hw6 : Below w.heap.size w w6 := (hw5.alloc hw5.size _).trans (hb6.mono (by have := hw5.size; simp; omega))
  have hs6 : Sl w6 w6.heap.size 1 A6 2 c6 (([97, 0] : List UInt8).map byteV) := Sl.of_own hown6
  have k6 := run_string_of Try.underlying22 Try.underlying5 Try.underlying9 hs6
  clear hb6 hown6
  go_wp2_with fail
  go_ret
  exact ⟨rfl, hw6⟩

end Go.Proofs.Ytjnchbadefggjaa

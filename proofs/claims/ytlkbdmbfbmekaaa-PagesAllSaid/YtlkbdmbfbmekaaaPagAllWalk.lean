/-
  PagesAll, walked.
-/
import Derived.Test.YtlkbdmbfbmekaaaPagWorks
namespace Go.Proofs.Ytlkbdmbfbmekaaa
open Go.RowKit Go.Gab
set_option linter.unusedVariables false

/-- So many taken of so many. -/
def someT (m i : Nat) : List UInt8 := List.replicate i 2 ++ List.replicate (m - i) 0

theorem someT_len {m i : Nat} (h : i ≤ m) : (someT m i).length = m := by simp [someT]; omega

theorem someT_take {m i : Nat} (h : i < m) : pagTake (someT m i) = (someT m (i + 1), (i : Int), 0) := by
  unfold pagTake
  rw [pagLeast_at (j := i) (by rw [someT_len (by omega)]; exact h) (by
    unfold someT
    rw [List.getD_eq_getElem?_getD, List.getElem?_append_right (by simp), List.length_replicate, List.getElem?_replicate, Nat.sub_self]
    split <;> rfl) (fun j hj => by
    unfold someT
    rw [List.getD_eq_getElem?_getD, List.getElem?_append_left (by simpa using hj), List.getElem?_replicate, if_pos hj]
    decide)]
  simp only [Prod.mk.injEq, and_true]
  unfold someT
  rw [List.set_append_right _ _ (by simp), List.length_replicate, Nat.sub_self]
  obtain ⟨q, hq⟩ : ∃ q, m - i = q + 1 := ⟨m - i - 1, by omega⟩
  rw [hq, show m - (i + 1) = q by omega, List.replicate_succ, List.set_cons_zero, List.replicate_succ' (n := i), List.append_assoc]
  rfl

theorem someT_free (m i : Nat) : pagFree (someT m i) = m - i := by
  unfold pagFree someT
  rw [List.countP_append, List.countP_replicate, List.countP_replicate]
  simp

theorem someT_full (m : Nat) : pagTake (someT m m) = (someT m m, 0, 7) := by
  unfold pagTake
  rw [pagLeast_none fun j hj => by
    rw [someT_len (Nat.le_refl _)] at hj
    unfold someT
    rw [List.getD_eq_getElem?_getD, List.getElem?_append_left (by simpa using hj), List.getElem?_replicate, if_pos hj]
    decide]

theorem someT_settle (m : Nat) : (someT m m).map setOne = List.replicate m 1 := by
  unfold someT
  rw [Nat.sub_self, List.replicate_zero, List.append_nil, List.map_replicate]
  rfl

theorem oldD_drop {m k : Nat} (h : k < m) : pagDrop (List.replicate m 1) (k : Int) = ((List.replicate m 1).set k 3, 0) := by
  unfold pagDrop
  rw [if_pos (by simp; omega), Int.toNat_natCast, List.getD_eq_getElem?_getD, List.getElem?_replicate, if_pos h]
  rfl

theorem oldD_drop2 {m k : Nat} (h : k < m) : pagDrop ((List.replicate m 1).set k 3) (k : Int) = ((List.replicate m 1).set k 3, 3) := by
  unfold pagDrop
  rw [if_pos (by simp; omega), Int.toNat_natCast, List.getD_eq_getElem?_getD, List.getElem?_set_self (by simpa using h)]
  rfl

theorem oldD_take (m k : Nat) : pagTake ((List.replicate m 1).set k 3) = ((List.replicate m 1).set k 3, 0, 7) := by
  unfold pagTake
  rw [pagLeast_none fun j hj => by
    have hj' : j < m := by simpa using hj
    rw [List.getD_eq_getElem?_getD]
    by_cases hjk : k = j
    · subst hjk
      rw [List.getElem?_set_self (by simpa using hj')]
      decide
    · rw [List.getElem?_set_ne hjk, List.getElem?_replicate, if_pos hj']
      decide]

theorem oldD_settle (m k : Nat) : ((List.replicate m 1).set k 3).map setOne = (List.replicate m 1).set k 0 := by
  rw [List.map_set, List.map_replicate]
  rfl

theorem oldD_take2 {m k : Nat} (h : k < m) : pagTake ((List.replicate m 1).set k 0) = (((List.replicate m 1).set k 0).set k 2, (k : Int), 0) := by
  unfold pagTake
  rw [pagLeast_at (j := k) (by simpa using h) (by rw [List.getD_eq_getElem?_getD, List.getElem?_set_self (by simpa using h)]; rfl) (fun j hj => by
    rw [List.getD_eq_getElem?_getD, List.getElem?_set_ne (by omega), List.getElem?_replicate, if_pos (by omega)]
    decide)]

theorem u8_of_wf {z : Int} (h : (Lit.int .u8 z).wf = true) : ∃ x : Nat, z = (x : Int) ∧ x < 256 := by
  have h2 : 0 ≤ z ∧ z ≤ 255 := by
    simp [Lit.wf, IntKind.min, IntKind.max, IntKind.signed, IntKind.bits] at h
    simpa using h
  exact ⟨z.toNat, by omega, by omega⟩

set_option maxHeartbeats 1000000 in
set_option maxRecDepth 10000 in
theorem pagesAll_walk {n k : Int} (W : World) (hn : (Lit.int .u8 n).wf = true) (hk : (Lit.int .u8 k).wf = true) :
    Calls Try.prog 3 #[.int .u8 n, .int .u8 k] W fun e w' => e = .returned (.bool true) ∧ Below W.heap.size W w' := by
  obtain ⟨n, rfl, hn2⟩ := u8_of_wf hn
  obtain ⟨k, rfl, hk2⟩ := u8_of_wf hk
  clear hn hk
  obtain ⟨m, hm⟩ : ∃ m : Nat, (1 + (n : Int) % 60) = (m : Int) := ⟨1 + n % 60, by omega⟩
  have hm1 : 1 ≤ m := by omega
  have hm2 : m ≤ 60 := by omega
  obtain ⟨q, hq⟩ : ∃ q : Nat, (k : Int) % (m : Int) = (q : Int) := ⟨k % m, by omega⟩
  have hqm : q < m := by have := Int.emod_lt_of_pos (k : Int) (show (0 : Int) < m by omega); omega
  go_enter Try.func3, Try.ntmps3
  go_wp2_with fail
  refine (pagNew_yes m _ hm1 (by omega)).mono ?_
  rintro e w1 ⟨rfl, hat, hb⟩
  have h := PagIn.new (Below.refl _ _) hat hb
  clear hat hb
  generalize W.heap.size + 1 = hp at h ⊢
  obtain ⟨hr, hhr⟩ : ∃ hr, hr = W.heap.size := ⟨_, rfl⟩
  rw [← hhr] at h
  clear hhr
  rw [show List.replicate m (0 : UInt8) = someT m 0 by simp [someT]] at h
  unfold ptr
  have HQ := Lib.hid hq
  clear hq hm
  go_wp2_with fail
  go_loopw [8] (fun i wr => ∃ j : Nat, j ≤ m ∧ i = .int .i64 j ∧ PagIn W wr hp hr (someT m j)) (fun i _ => m - (intOf i).toNat)
  case atStart => exact ⟨0, Nat.zero_le _, rfl, h⟩
  case round =>
    obtain ⟨j, hj, rfl, h⟩ := hrel
    by_cases hlt : j < m
    · go_wp2_with fail
      refine (pagTake_any hp hr _ _ h.at_).mono ?_
      rintro e w3 ⟨rfl, t⟩
      rw [someT_take hlt] at t ⊢
      replace h := h.turn t
      clear t
      unfold pairI
      go_wp2_with fail
      refine (pagFree_any hp hr _ _ h.at_).mono ?_
      rintro e w8 ⟨rfl, rfl⟩
      rw [someT_free, show ((m - (j + 1) : Nat) : Int) = (m : Int) - 1 - (j : Int) by omega]
      go_wp2_with fail
      go_roundw
      case rel => exact ⟨j + 1, by omega, by go_num, h⟩
      case measure => simp [intOf]; omega
    · obtain rfl : j = m := by omega
      go_wp2_with fail
      refine (pagTake_any hp hr _ _ h.at_).mono ?_
      rintro e w3 ⟨rfl, t⟩
      rw [someT_full] at t ⊢
      replace h := h.turn t
      clear t
      unfold pairI
      go_wp2_with fail
      rw [HQ.out]
      refine (pagSettle_any hp hr _ _ h.at_).mono ?_
      rintro e w10 ⟨rfl, t⟩
      rw [someT_settle] at t
      replace h := h.turn t
      clear t
      go_wp2_with fail
      refine (pagDrop_any hp hr _ q _ h.at_).mono ?_
      rintro e w7 ⟨rfl, t⟩
      rw [oldD_drop hqm] at t ⊢
      replace h := h.turn t
      clear t
      go_wp2_with fail
      refine (pagDrop_any hp hr _ q _ h.at_).mono ?_
      rintro e w7 ⟨rfl, t⟩
      rw [oldD_drop2 hqm] at t ⊢
      replace h := h.turn t
      clear t
      go_wp2_with fail
      refine (pagTake_any hp hr _ _ h.at_).mono ?_
      rintro e w3 ⟨rfl, t⟩
      rw [oldD_take] at t ⊢
      replace h := h.turn t
      clear t
      unfold pairI
      go_wp2_with fail
      refine (pagSettle_any hp hr _ _ h.at_).mono ?_
      rintro e w10 ⟨rfl, t⟩
      rw [oldD_settle] at t
      replace h := h.turn t
      clear t
      go_wp2_with fail
      refine (pagTake_any hp hr _ _ h.at_).mono ?_
      rintro e w3 ⟨rfl, t⟩
      rw [oldD_take2 hqm] at t ⊢
      replace h := h.turn t
      clear t
      unfold pairI
      go_wp2_with fail
      refine (works06_any _).mono ?_
      rintro e w12 ⟨rfl, hb⟩
      go_wp2_with fail
      go_ret
      exact ⟨rfl, h.bel.trans (hb.mono h.bel.size)⟩

end Go.Proofs.Ytlkbdmbfbmekaaa

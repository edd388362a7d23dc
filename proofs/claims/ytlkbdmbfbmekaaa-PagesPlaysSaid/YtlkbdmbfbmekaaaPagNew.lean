/-
  The other functions of layer 6 (pages), walked: New, Size, Free; and each one of no pages.
-/
import Derived.Test.YtlkbdmbfbmekaaaPagWalks
namespace Go.Proofs.Ytlkbdmbfbmekaaa
open Go.RowKit Go.Gab
set_option linter.unusedVariables false

theorem infoState : (Try.prog.info? 70).map (fun i => (i.zero, i.size, i.bytes)) = some (some (.int .u8 0), 1, 1) := by kernel_rfl

/-- New pages: both blocks are new. -/
def PagNew (n : Int) (w : World) (e : Ending) (w' : World) : Prop :=
  (n < 1 ∨ 4096 < n → e = .returned (.tuple #[.pointer none, .int .i64 1]) ∧ w = w') ∧
  ∀ k : Nat, n = k → 1 ≤ k → k ≤ 4096 → ∃ hp hr, e = .returned (.tuple #[ptr hp, .int .i64 0]) ∧ w.heap.size ≤ hp ∧ w.heap.size ≤ hr ∧ PagesAt w' hp hr (List.replicate k 0) ∧ Below w.heap.size w w'

theorem pagNew_no (n : Int) (w : World) (h : n < 1 ∨ 4096 < n) :
    Calls Try.prog 11 #[.int .i64 n] w fun e w' => e = .returned (.tuple #[.pointer none, .int .i64 1]) ∧ w = w' := by
  rcases h with h | h
  · go_enter Try.func11, Try.ntmps11
    go_wp2_with fail
    go_ret2
    exact ⟨rfl, rfl⟩
  · have h1 : ¬ n < 1 := by omega
    go_enter Try.func11, Try.ntmps11
    go_wp2_with fail
    go_ret2
    exact ⟨rfl, rfl⟩

theorem pagNew_yes (k : Nat) (w : World) (h1 : 1 ≤ k) (h2 : k ≤ 4096) :
    Calls Try.prog 11 #[.int .i64 k] w fun e w' => e = .returned (.tuple #[ptr (w.heap.size + 1), .int .i64 0]) ∧ PagesAt w' (w.heap.size + 1) w.heap.size (List.replicate k 0) ∧ Below w.heap.size w w' := by
  obtain ⟨i0, hi0, hz0, hz1, hz2⟩ := info_parts infoState
  have hmk := fun w => run_make_bytes (P := Try.prog) (t := 67) (e := 70) Try.underlying67 hi0 hz0 hz1 hz2 k (by omega) w
  go_enter Try.func11, Try.ntmps11
  go_wp2_with fail
  go_ret2
  refine ⟨rfl, ⟨?_, ?_, by simp; omega⟩, ((Below.refl _ _).alloc (Nat.le_refl _) _).alloc (by simp) _⟩
  · rw [List.length_replicate]
    have := Blk.new (w.alloc (.cells (bytesA (List.replicate k 0)) 70)) 69 #[.slice (some ⟨w.heap.size, 0, none⟩) k k]
    simpa using this
  · exact (Blk.new w 70 (bytesA (List.replicate k 0))).alloc _

theorem pagSize_any (hp hr : Nat) (st : List UInt8) (w : World) (h : PagesAt w hp hr st) :
    Calls Try.prog 26 #[ptr hp] w fun e w' => e = .returned (.int .i64 (st.length : Int)) ∧ w = w' := by
  have hc := h.obj.cell 0
  have hs := h.small
  simp only [List.getElem?_toArray, List.getElem?_cons_zero] at hc
  go_enter Try.func26, Try.ntmps26
  unfold ptr
  go_wp2_with fail
  go_ret
  exact ⟨rfl, rfl⟩

def pagFree (st : List UInt8) : Nat := st.countP (· == 0)

theorem pagFree_succ {st : List UInt8} {j : Nat} {v : UInt8} (h : st[j]? = some v) : pagFree (st.take (j + 1)) = pagFree (st.take j) + if v = 0 then 1 else 0 := by
  unfold pagFree
  rw [take_succ_of h, List.countP_append]
  congr 1
  by_cases hv : v = 0 <;> simp [hv]

theorem pagFree_le (st : List UInt8) : pagFree st ≤ st.length := List.countP_le_length

set_option maxHeartbeats 400000 in
theorem pagFree_any (hp hr : Nat) (st : List UInt8) (w : World) (h : PagesAt w hp hr st) :
    Calls Try.prog 13 #[ptr hp] w fun e w' => e = .returned (.int .i64 (pagFree st : Int)) ∧ w = w' := by
  have hc := h.obj.cell 0
  have hs := h.small
  simp only [List.getElem?_toArray, List.getElem?_cons_zero] at hc
  go_enter Try.func13, Try.ntmps13
  unfold ptr
  go_wp2_with fail
  go_loop [3, 13] (fun c i => ∃ j : Nat, j ≤ st.length ∧ i = .int .i64 j ∧ c = .int .i64 (pagFree (st.take j) : Int)) (fun _ i => st.length - (intOf i).toNat)
  case atStart => exact ⟨0, Nat.zero_le _, rfl, rfl⟩
  case round =>
    obtain ⟨j, hj, rfl, rfl⟩ := hrel
    by_cases hlt : j < st.length
    · have hg : st[j]? = some st[j] := List.getElem?_eq_getElem hlt
      have hv := h.row.byte hg
      have hle : pagFree (st.take j) ≤ j := Nat.le_trans (pagFree_le _) (by rw [List.length_take]; omega)
      have HS := Lib.hid (pagFree_succ hg)
      generalize st[j] = v at hv HS
      generalize pagFree (st.take j) = q at hle HS ⊢
      clear hg
      by_cases h0 : v = 0
      · subst h0
        go_wp2_with fail
        go_round
        case rel => exact ⟨j + 1, by omega, by go_num, by rw [HS.out, if_pos rfl]; go_num⟩
        case measure => simp [intOf]; omega
      · have hv0 : ¬ v.toNat = 0 := fun h1 => h0 (UInt8.toNat_inj.1 h1)
        go_wp2_with fail
        go_round
        case rel => exact ⟨j + 1, by omega, by go_num, by rw [HS.out, if_neg h0]; rfl⟩
        case measure => simp [intOf]; omega
    · obtain rfl : j = st.length := by omega
      have HT := Lib.hid (show st.take st.length = st from List.take_length)
      have hle := pagFree_le (st.take st.length)
      rw [HT.out] at hle ⊢
      go_wp2_with fail
      go_ret
      exact ⟨rfl, rfl⟩

/-! ### Of no pages -/
theorem pagTake_nil (w : World) : Calls Try.prog 12 #[.pointer none] w fun e w' => e = .returned (.tuple #[.int .i64 0, .int .i64 2]) ∧ w = w' := by
  go_enter Try.func12, Try.ntmps12
  go_wp2_with fail
  go_ret2
  exact ⟨rfl, rfl⟩
theorem pagMay_nil (k : Int) (w : World) : Calls Try.prog 40 #[.pointer none, .int .i64 k] w fun e w' => e = .returned (.int .i64 2) ∧ w = w' := by
  go_enter Try.func40, Try.ntmps40
  go_wp2_with fail
  go_ret
  exact ⟨rfl, rfl⟩
theorem pagUse_nil (k : Int) (w : World) : Calls Try.prog 17 #[.pointer none, .int .i64 k] w fun e w' => e = .returned (.int .i64 2) ∧ w = w' := by
  go_enter Try.func17, Try.ntmps17
  go_wp2_with fail
  refine (pagMay_nil k _).mono ?_
  rintro e w' ⟨rfl, rfl⟩
  go_wp2_with fail
  go_ret
  exact ⟨rfl, rfl⟩
theorem pagDrop_nil (k : Int) (w : World) : Calls Try.prog 15 #[.pointer none, .int .i64 k] w fun e w' => e = .returned (.int .i64 2) ∧ w = w' := by
  go_enter Try.func15, Try.ntmps15
  go_wp2_with fail
  refine (pagMay_nil k _).mono ?_
  rintro e w' ⟨rfl, rfl⟩
  go_wp2_with fail
  go_ret
  exact ⟨rfl, rfl⟩
theorem pagSettle_nil (w : World) : Calls Try.prog 14 #[.pointer none] w fun e w' => e = .returned (.int .i64 2) ∧ w = w' := by
  go_enter Try.func14, Try.ntmps14
  go_wp2_with fail
  go_ret
  exact ⟨rfl, rfl⟩
theorem pagBack_nil (w : World) : Calls Try.prog 19 #[.pointer none] w fun e w' => e = .returned (.int .i64 2) ∧ w = w' := by
  go_enter Try.func19, Try.ntmps19
  go_wp2_with fail
  go_ret
  exact ⟨rfl, rfl⟩
theorem pagSize_nil (w : World) : Calls Try.prog 26 #[.pointer none] w fun e w' => e = .returned (.int .i64 0) ∧ w = w' := by
  go_enter Try.func26, Try.ntmps26
  go_wp2_with fail
  go_ret
  exact ⟨rfl, rfl⟩
theorem pagHas_nil (k : Int) (w : World) : Calls Try.prog 41 #[.pointer none, .int .i64 k] w fun e w' => e = .returned (.bool false) ∧ w = w' := by
  go_enter Try.func41, Try.ntmps41
  go_wp2_with fail
  go_ret
  exact ⟨rfl, rfl⟩
theorem pagState_nil (k : Int) (w : World) : Calls Try.prog 18 #[.pointer none, .int .i64 k] w fun e w' => e = .returned (.int .u8 0) ∧ w = w' := by
  go_enter Try.func18, Try.ntmps18
  go_wp2_with fail
  refine (pagHas_nil k _).mono ?_
  rintro e w' ⟨rfl, rfl⟩
  go_wp2_with fail
  go_ret
  exact ⟨rfl, rfl⟩
theorem pagFree_nil (w : World) : Calls Try.prog 13 #[.pointer none] w fun e w' => e = .returned (.int .i64 0) ∧ w = w' := by
  go_enter Try.func13, Try.ntmps13
  go_wp2_with fail
  go_ret
  exact ⟨rfl, rfl⟩

end Go.Proofs.Ytlkbdmbfbmekaaa

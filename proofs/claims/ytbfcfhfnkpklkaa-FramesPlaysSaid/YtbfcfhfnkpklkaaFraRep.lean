/-
  Layer 24 (frames): replies as bytes, walked.
-/
import Derived.Test.YtbfcfhfnkpklkaaFraGet
import Derived.Test.YtbfcfhfnkpklkaaRep
namespace Go.Proofs.Ytbfcfhfnkpklkaa
open Go.RowKit Go.Gab
set_option linter.unusedVariables false
attribute [local go_sem ↓] Go.wp_at_zero Go.wp_at_succ

theorem i64_of_wf {z : Int} (h : (Lit.int .i64 z).wf = true) : Fra.I64 z := by
  simp [Lit.wf, IntKind.min, IntKind.max, IntKind.signed, IntKind.bits] at h
  unfold Fra.I64
  simpa using h

theorem ints_at {w : World} {B : Nat} {A : Option Addr} {n c : Nat} {ls : List Int} (hr : SlR (Rep.int .i64) w B A n c ls) {i : Nat} (hi : i < n) :
    ∃ b off z, A = some ⟨b, off, none⟩ ∧ b < B ∧ ls[i]? = some z ∧ w.cell? ⟨b, off + i, none⟩ = some (.int .i64 z) ∧ Fra.I64 z := by
  obtain ⟨b, off, z, cs, hA, hb, hx, ⟨rfl, hwf⟩, hl, hc⟩ := hr.row i hi
  have := hc 0 _ rfl
  exact ⟨b, off, z, hA, hb, hx, by simpa [Rep.int] using this, i64_of_wf hwf⟩

def intsV (l : List Int) : List Value := l.map (Value.int .i64)

theorem intsV_len (l : List Int) : (intsV l).length = l.length := by simp [intsV]

theorem sl_of_ints {w : World} {B : Nat} {A : Option Addr} {n c : Nat} {l : List Int} (h : SlR (Rep.int .i64) w B A n c l) : Sl w B 1 A n c (intsV l) := by
  refine ⟨⟨by rw [intsV_len, h.len]; omega, fun hn => ?_⟩, h.nc, by have := h.cm; omega⟩
  obtain ⟨b, off, z, hA, hb, hz, _, _⟩ := ints_at h hn
  refine ⟨_, hA, hb, fun j u hu => ?_⟩
  have hj : j < n := by have := (List.getElem?_eq_some_iff.1 hu).1; rw [intsV_len, h.len] at this; exact this
  obtain ⟨b', off', z', hA', _, hz', hc', _⟩ := ints_at h hj
  rw [hA] at hA'; cases hA'
  have hadd : (⟨b, off, none⟩ : Addr).add j = ⟨b, off + j, none⟩ := Addr.add_mid b off j
  rw [hadd, hc', ← hu]
  unfold intsV
  rw [List.getElem?_map, hz']
  rfl

theorem ints_of_sl {w : World} {B : Nat} {A : Option Addr} {n c : Nat} {l : List Int} (h : Sl w B 1 A n c (intsV l)) (hl : ∀ z ∈ l, (Lit.int .i64 z).wf = true) (hc : c ≤ 140737488355328) : SlR (Rep.int .i64) w B A n c l := by
  have hlen : l.length = n := by have := h.rd.1; rw [intsV_len] at this; omega
  refine ⟨hlen, h.nc, hc, fun i hi => ?_⟩
  obtain ⟨b, off, hA, hb, hcell⟩ := h.rd.place (by omega) (by omega)
  have hz : l[i]? = some l[i] := List.getElem?_eq_getElem (by omega)
  refine ⟨b, off, l[i], [.int .i64 l[i]], hA, hb, hz, ⟨rfl, hl _ (List.getElem_mem _)⟩, rfl, fun j v hv => ?_⟩
  have hj : j = 0 := by
    have := (List.getElem?_eq_some_iff.1 hv).1
    simp at this
    exact this
  subst hj
  have := hcell i (.int .i64 l[i]) (by unfold intsV; rw [List.getElem?_map, hz]; rfl)
  rw [← hv]
  simpa [Rep.int] using this

/-- An integer of a slice. -/
theorem int_at {w : World} {B : Nat} {A : Option Addr} {n c : Nat} {l : List Int} (h : Sl w B 1 A n c (intsV l)) {j : Nat} (hj : j < n) :
    ∃ b off z, A = some ⟨b, off, none⟩ ∧ b < B ∧ l[j]? = some z ∧ w.cell? ⟨b, off + j, none⟩ = some (.int .i64 z) := by
  obtain ⟨b, off, hA, hb, hcell⟩ := h.rd.place (by omega) (by omega)
  have hlen : l.length = n := by have := h.rd.1; rw [intsV_len] at this; omega
  have hz : l[j]? = some l[j] := List.getElem?_eq_getElem (by omega)
  exact ⟨b, off, l[j], hA, hb, hz, hcell j _ (by unfold intsV; rw [List.getElem?_map, hz]; rfl)⟩

theorem fraPutReply_bad (c s : Nat) (e : Int) (l : List Int) (A : Option Addr) (n cap : Nat) (w : World) (hl : l.length = n) (hm : n ≤ 9223372036854775807) (hb : Fra.badR ⟨e, l⟩ = true) :
    Calls Try.prog 47 #[.int .u32 (c : Int), .int .u64 (s : Int), .agg #[.int .i64 e, .slice A n cap]] w (BytesErr w ([], 1)) := by
  unfold Fra.badR at hb
  simp only [Bool.or_eq_true, decide_eq_true_eq, hl] at hb
  by_cases h1 : e < 0
  · clear hb
    go_enter Try.func47, Try.ntmps47
    go_wp2_with fail
    go_ret2
    exact ⟨_, rfl, Fresh_nil ((Below.refl _ _).alloc (Nat.le_refl _) _)⟩
  by_cases h2 : 255 < e
  · clear hb
    go_enter Try.func47, Try.ntmps47
    go_wp2_with fail
    go_ret2
    exact ⟨_, rfl, Fresh_nil ((Below.refl _ _).alloc (Nat.le_refl _) _)⟩
  · have h3 : (29 : Int) < n := by omega
    clear hb hl
    go_enter Try.func47, Try.ntmps47
    go_wp2_with fail
    go_ret2
    exact ⟨_, rfl, Fresh_nil ((Below.refl _ _).alloc (Nat.le_refl _) _)⟩

theorem numsB_take {l : List Int} {j : Nat} {z : Int} (h : l[j]? = some z) : Fra.numsB (l.take (j + 1)) = Fra.numsB (l.take j) ++ Oct.be (Fra.uns z) 8 := by
  rw [take_succ_of h, Fra.numsB_snoc]

set_option maxHeartbeats 1000000 in
theorem fraPutReply_good (c s : Nat) (E : Int) (l : List Int) (A : Option Addr) (n cap : Nat) (w : World) (hr : Sl w w.heap.size 1 A n cap (intsV l)) (hb : Fra.badR ⟨E, l⟩ = false) (hc : c < 4294967296) (hs : s < 18446744073709551616) :
    Calls Try.prog 47 #[.int .u32 (c : Int), .int .u64 (s : Int), .agg #[.int .i64 E, .slice A n cap]] w (BytesErr w (Fra.replyB c s ⟨E, l⟩, 0)) := by
  obtain ⟨h1, h2, h3⟩ := Fra.badR_no hb
  have hrl : l.length = n := by have := hr.rd.1; rw [intsV_len] at this; omega
  simp only [hrl] at h1 h2 h3
  have hnc := hr.nc
  have hcm := hr.cm
  have HB := Lib.hid (show Fra.replyB c s ⟨E, l⟩ = Oct.be c 4 ++ Oct.be s 8 ++ Oct.be (Fra.uns E) 1 ++ Oct.be l.length 1 ++ Fra.numsB l from rfl)
  generalize Fra.replyB c s ⟨E, l⟩ = out at HB ⊢
  have HLEN := Lib.hid hrl
  clear hrl
  clear hb
  go_enter Try.func47, Try.ntmps47
  go_wp2_with fail
  have hbx := Blk.new w 58 #[.int .i64 E, .slice A n cap]
  have hb0 : Below w.heap.size w (w.alloc (.cells #[.int .i64 E, .slice A n cap] 58)) := (Below.refl _ _).alloc (Nat.le_refl _) _
  have hr0 := hr.below hb0
  have HBW : w.heap.size ≤ (w.alloc (.cells #[.int .i64 E, .slice A n cap] 58)).heap.size := by simp
  have hrW := hr0.more HBW
  generalize w.alloc (.cells #[.int .i64 E, .slice A n cap] 58) = W at hbx hb0 hrW ⊢
  have SC := Lib.hid (fun w' (h : Below W.heap.size W w') => (show w'.cell? ⟨w.heap.size, 0, none⟩ = some (.int .i64 E) ∧ w'.cell? ⟨w.heap.size, 1, none⟩ = some (.slice A n cap) from ⟨(hbx.below h hbx.lt).cell 0, (hbx.below h hbx.lt).cell 1⟩))
  have HB0 := Lib.hid hb0
  clear hbx hb0 hr hr0 HBW
  generalize w.heap.size = h at SC ⊢
  refine (fraPut32 W [] _ c 4 _ (Fresh.nil_ _ _) (by simp) hc).mono ?_
  rintro e w1 ⟨v1, rfl, F1⟩
  rw [put_size rfl] at F1
  go_wp2_with fail
  refine (fraPut64 W _ _ s 8 _ F1 (by simp [Oct.be_length]) hs).mono ?_
  rintro e w2 ⟨v2, rfl, F2⟩
  rw [put_size rfl] at F2
  have hq := SC.out _ (Fresh_bel F2)
  clear F1
  go_wp2_with fail
  go_region_held3 (fun w' => w'.cell? ⟨h, 0, none⟩ = some (.int .i64 E) ∧ w'.cell? ⟨h, 1, none⟩ = some (.slice A n cap))
    (first | exact hq | exact (SC.out _ (Fresh_bel F4)) | exact (SC.out _ (Fresh_bel F3)))
    (first | (go_at_call 79; refine (fraPutErr W _ _ E 1 _ (Fresh_drew F2) (by simp [Oct.be_length])).mono ?_; rintro e w3 ⟨v3, rfl, F3⟩; rw [put_size rfl] at F3)
           | (go_at_call 75; refine (fraPutInt W _ _ (n : Int) 1 _ F3 (by simp [Oct.be_length])).mono ?_; rintro e w4 ⟨v4, rfl, F4⟩; rw [put_size rfl] at F4))
  have e4 : [] ++ Oct.be c (Int.toNat 4) ++ Oct.be s (Int.toNat 8) ++ Oct.be (Fra.uns E) (Int.toNat 1) ++ Oct.be (Fra.uns (n : Int)) (Int.toNat 1) = Oct.be c 4 ++ Oct.be s 8 ++ Oct.be (Fra.uns E) 1 ++ Oct.be l.length 1 ++ Fra.numsB (l.take 0) := by
    rw [show Fra.uns (n : Int) = l.length by rw [HLEN.out]; unfold Fra.uns; omega]
    simp [Fra.numsB]
  rw [e4] at F4
  clear e4 F2 F3 hq
  obtain ⟨q0, q1⟩ := SC.out _ (Fresh_bel F4)
  go_wp2_with fail
  go_loopw [8, 40] (fun v i wr => ∃ j : Nat, j ≤ n ∧ i = .int .i64 j ∧ Fresh 5 W (Oct.be c 4 ++ Oct.be s 8 ++ Oct.be (Fra.uns E) 1 ++ Oct.be l.length 1 ++ Fra.numsB (l.take j)) v wr) (fun _ i _ => n - (intOf i).toNat)
  case atStart => exact ⟨0, Nat.zero_le _, rfl, F4⟩
  case round =>
    clear F4 q0 q1
    obtain ⟨j, hj, rfl, F⟩ := hrel
    rename_i v0
    by_cases hlt : j < n
    · obtain ⟨b, off, z, rfl, hb, hz, hcell⟩ := int_at (hrW.below (Fresh_bel F)) hlt
      have HZ := Lib.hid (numsB_take hz)
      have hlj : (Oct.be c 4 ++ Oct.be s 8 ++ Oct.be (Fra.uns E) 1 ++ Oct.be l.length 1 ++ Fra.numsB (l.take j)).length ≤ 1000000 := by
        simp only [List.length_append, Oct.be_length, Fra.numsB_len, List.length_take]
        omega
      have HF := Lib.hid F
      have HLJ := Lib.hid hlj
      clear hz F hlj
      go_wp2_with fail
      refine (fraPutI64 W _ _ z 8 _ HF.out HLJ.out).mono ?_
      rintro e w5 ⟨v5, rfl, F5⟩
      rw [put_size rfl, List.append_assoc _ (Fra.numsB (l.take j)), show Oct.be (Fra.uns z) (Int.toNat 8) = Oct.be (Fra.uns z) 8 from rfl, ← HZ.out] at F5
      have HF5 := Lib.hid F5
      clear F5
      go_wp2_with fail
      go_roundw
      case rel => exact ⟨j + 1, by omega, by go_num, HF5.out⟩
      case measure => simp [intOf]; omega
    · obtain rfl : j = n := by omega
      have HF := Lib.hid F
      clear F
      go_wp2_with fail
      go_ret2
      refine ⟨_, rfl, Fresh_from ?_ HB0.out⟩
      rw [HB.out]
      have := HF.out
      rw [List.take_of_length_le (by rw [HLEN.out]; exact Nat.le_refl _)] at this
      exact this

/-- PutReply. -/
theorem fraPutReply (c s : Nat) (r : Fra.Reply) (A : Option Addr) (n cap : Nat) (w : World) (hr : Sl w w.heap.size 1 A n cap (intsV r.n)) (hc : c < 4294967296) (hs : s < 18446744073709551616) :
    Calls Try.prog 47 #[.int .u32 (c : Int), .int .u64 (s : Int), .agg #[.int .i64 r.e, .slice A n cap]] w (BytesErr w (Fra.putReply c s r)) := by
  obtain ⟨e, l⟩ := r
  replace hr : Sl w w.heap.size 1 A n cap (intsV l) := hr
  unfold Fra.putReply
  cases hb : Fra.badR ⟨e, l⟩ with
  | true => exact fraPutReply_bad c s e l A n cap w (by have := hr.rd.1; rw [intsV_len] at this; omega) (by have := hr.nc; have := hr.cm; omega) hb
  | false => exact fraPutReply_good c s e l A n cap w hr hb hc hs

end Go.Proofs.Ytbfcfhfnkpklkaa

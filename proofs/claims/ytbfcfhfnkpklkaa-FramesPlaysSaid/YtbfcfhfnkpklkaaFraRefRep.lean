/-
  The document's answer of layer 24 (frames): replies as bytes, walked.
-/
import Derived.Test.YtbfcfhfnkpklkaaFraRef
namespace Go.Proofs.Ytbfcfhfnkpklkaa
open Go.RowKit Go.Gab
set_option linter.unusedVariables false
attribute [local go_sem ↓] Go.wp_at_zero Go.wp_at_succ

set_option maxHeartbeats 1000000 in
theorem refPutReply_bad (c s : Nat) (e : Int) (l : List Int) (A : Option Addr) (n cap : Nat) (w : World) (hl : l.length = n) (hm : n ≤ 9223372036854775807) (hb : Fra.badR ⟨e, l⟩ = true) :
    Calls Try.prog 48 #[.int .u32 (c : Int), .int .u64 (s : Int), .agg #[.int .i64 e, .slice A n cap]] w (BytesErr w ([], 1)) := by
  unfold Fra.badR at hb
  simp only [Bool.or_eq_true, decide_eq_true_eq, hl] at hb
  by_cases h1 : e < 0
  · clear hb
    go_enter Try.func48, Try.ntmps48
    go_wp2_with fail
    go_ret2
    exact ⟨_, rfl, Fresh_nil ((Below.refl _ _).alloc (Nat.le_refl _) _)⟩
  by_cases h2 : 255 < e
  · clear hb
    go_enter Try.func48, Try.ntmps48
    go_wp2_with fail
    go_ret2
    exact ⟨_, rfl, Fresh_nil ((Below.refl _ _).alloc (Nat.le_refl _) _)⟩
  · have h3 : (29 : Int) < n := by omega
    clear hb hl
    go_enter Try.func48, Try.ntmps48
    go_wp2_with fail
    go_ret2
    exact ⟨_, rfl, Fresh_nil ((Below.refl _ _).alloc (Nat.le_refl _) _)⟩

theorem fresh_two_any {t8 : TypeId} {W w2 w3 : World} {A2 : Option Addr} {c2 m : Nat} {v3 : Value} {bs : List UInt8} {x y : Int}
    (hm : bs.length = m) (hown2 : w2.ownsRow W.heap.size t8 1 (.slice A2 m c2) m (bs.map byteV)) (hbel2 : Below W.heap.size W w2)
    (hg3 : (w2.alloc (.cells #[.int .u8 x, .int .u8 y] t8)).grownBy w3 (Value.slice A2 m c2).ownBlock)
    (hown3 : w3.ownsRow W.heap.size t8 1 v3 (m + 2) (bs.map byteV ++ [.int .u8 x, .int .u8 y])) (hx : ∃ b : UInt8, x = (b.toNat : Int) ∧ Oct.be (Fra.uns x) 1 = [b]) (hy : ∃ b : UInt8, y = (b.toNat : Int) ∧ Oct.be (Fra.uns y) 1 = [b]) :
    Fresh t8 W (bs ++ Oct.be (Fra.uns x) 1 ++ Oct.be (Fra.uns y) 1) v3 w3 := by
  have hb3 : Below W.heap.size W w3 := (hbel2.alloc hbel2.size _).grown hg3 (by have := hbel2.size; simp; omega) (fun q hq => (hown2.lt q hq).1)
  obtain ⟨A3, c3, rfl⟩ := own_slice hown3
  obtain ⟨xb, e1, e2⟩ := hx
  obtain ⟨yb, f1, f2⟩ := hy
  have e3 : (bs ++ Oct.be (Fra.uns x) 1 ++ Oct.be (Fra.uns y) 1).map byteV = bs.map byteV ++ [Value.int IntKind.u8 x, Value.int IntKind.u8 y] := by
    rw [e2, f2]
    simp [byteV, e1, f1]
  have e4 : (bs ++ Oct.be (Fra.uns x) 1 ++ Oct.be (Fra.uns y) 1).length = m + 2 := by
    simp [Oct.be_length, hm]
  refine ⟨A3, c3, ?_, ?_, hb3⟩
  · rw [e4]
  · rw [e3, e4]
    exact hown3

set_option maxHeartbeats 2000000 in
set_option maxRecDepth 10000 in
theorem refPutReply_good (c s : Nat) (E : Int) (l : List Int) (A : Option Addr) (n cap : Nat) (w : World) (hr : Sl w w.heap.size 1 A n cap (intsV l)) (hb : Fra.badR ⟨E, l⟩ = false) (hc : c < 4294967296) (hs : s < 18446744073709551616) :
    Calls Try.prog 48 #[.int .u32 (c : Int), .int .u64 (s : Int), .agg #[.int .i64 E, .slice A n cap]] w (BytesErr w (Fra.replyB c s ⟨E, l⟩, 0)) := by
  obtain ⟨h1, h2, h3⟩ := Fra.badR_no hb
  have hrl : l.length = n := by have := hr.rd.1; rw [intsV_len] at this; omega
  simp only [hrl] at h1 h2 h3
  have hnc := hr.nc
  have hcm := hr.cm
  have HB := Lib.hid (show Fra.replyB c s ⟨E, l⟩ = Oct.be c 4 ++ Oct.be s 8 ++ Oct.be (Fra.uns E) 1 ++ Oct.be l.length 1 ++ Fra.numsB l from rfl)
  generalize Fra.replyB c s ⟨E, l⟩ = out at HB ⊢
  have HE := Lib.hid (byte_of h1 h2)
  have HN := Lib.hid (byte_of (a := (n : Int)) (by omega) (by omega))
  have HLEN := Lib.hid hrl
  clear hrl hb
  have d1 : decide (E < 0) = false := by simpa using h1
  have d2 : decide (255 < E) = false := by simpa using h2
  have d3 : decide ((29 : Int) < (n : Int)) = false := by simp; omega
  have hn29 : (n : Int) ≤ 29 := by omega
  obtain ⟨i0, hi0, hz0, hz1, hz2⟩ := info_parts info8
  go_enter Try.func48, Try.ntmps48
  go_wp2_with fail
  have hbx := Blk.new w 58 #[.int .i64 E, .slice A n cap]
  have hb0 : Below w.heap.size w (w.alloc (.cells #[.int .i64 E, .slice A n cap] 58)) := (Below.refl _ _).alloc (Nat.le_refl _) _
  have hr0 := hr.below hb0
  have HBW : w.heap.size ≤ (w.alloc (.cells #[.int .i64 E, .slice A n cap] 58)).heap.size := by simp
  have hrW := hr0.more HBW
  generalize w.alloc (.cells #[.int .i64 E, .slice A n cap] 58) = W at hbx hb0 hrW ⊢
  have SC := Lib.hid (fun w' (h : Below W.heap.size W w') => (show w'.cell? ⟨w.heap.size, 0, none⟩ = some (.int .i64 E) ∧ w'.cell? ⟨w.heap.size, 1, none⟩ = some (.slice A n cap) from ⟨(hbx.below h hbx.lt).cell 0, (hbx.below h hbx.lt).cell 1⟩))
  have HB0 := Lib.hid hb0
  clear hbx hb0 hr hr0 HBW
  generalize w.heap.size = h at SC ⊢
  refine (refHigh W [] _ c _ 4 _ (Fresh.nil_ _ _) (by simp) rfl (by omega) (by omega)).mono ?_
  rintro e w1 ⟨v1, rfl, F1⟩
  go_wp2_with fail
  refine (refHigh W _ _ s _ 8 _ F1 (by simp [Oct.be_length]) rfl hs (by omega)).mono ?_
  rintro e w2 ⟨v2, rfl, F2⟩
  obtain ⟨q0, q1⟩ := SC.out _ (Fresh_bel F2)
  clear F1
  obtain ⟨A2, c2, rfl, hown2, hbel2⟩ := F2
  have e12 : (([] : List UInt8) ++ Oct.be c 4 ++ Oct.be s 8).length = 12 := by simp [Oct.be_length]
  have H12 := Lib.hid e12
  rw [e12] at hown2 ⊢
  clear e12
  go_wp2_with (at_builtin
               refine wpList_append_any _ rfl _ _ _ rfl W.heap.size 5 i0 _ 1 1 Try.underlying22 hi0 hz0 hz1 hz2 rfl (by omega) (.slice A2 12 c2) _ _ rfl (hown2.alloc _) (w2.heap.size + 1) (some ⟨w2.heap.size, 0, none⟩) 2 2 [.int .u8 E, .int .u8 (n : Int)] rfl (by exact (Sl.lit (k := 2) (cap := 2) _ _ _ _ _ _ rfl rfl rfl (by omega) (by omega)).rd) (by simp [Value.oneCell']) (by simp only [maxLen]; omega) (by omega) (by have := hbel2.size; simp; omega) ?_
               intro v3 w3 hown3 hg3 hat3
               have F3 := Lib.hid (fresh_two_any H12.out hown2 hbel2 hg3 hown3 HE.out HN.out)
               have hb3 := Fresh_bel F3.out
               obtain ⟨q0, q1⟩ := SC.out _ hb3
               clear hown2 hbel2 hg3 hat3 hown3 hb3)
  go_loopw [8, 9] (fun v i wr => ∃ j : Nat, j ≤ n ∧ i = .int .i64 j ∧ Fresh 5 W (Oct.be c 4 ++ Oct.be s 8 ++ Oct.be (Fra.uns E) 1 ++ Oct.be l.length 1 ++ Fra.numsB (l.take j)) v wr) (fun _ i _ => n - (intOf i).toNat)
  case atStart =>
    refine ⟨0, Nat.zero_le _, rfl, ?_⟩
    have := F3.out
    rw [show Fra.uns (n : Int) = l.length by rw [HLEN.out]; unfold Fra.uns; omega] at this
    simpa [Fra.numsB] using this
  case round =>
    clear F3 q0 q1
    obtain ⟨j, hj, rfl, F⟩ := hrel
    obtain ⟨q0, q1⟩ := SC.out _ (Fresh_bel F)
    by_cases hlt : j < n
    · obtain ⟨b, off, z, rfl, hb, hz, hcell⟩ := int_at (hrW.below (Fresh_bel F)) hlt
      have HZ := Lib.hid (numsB_take hz)
      have hlj : (Oct.be c 4 ++ Oct.be s 8 ++ Oct.be (Fra.uns E) 1 ++ Oct.be l.length 1 ++ Fra.numsB (l.take j)).length ≤ 1000000 := by
        simp only [List.length_append, Oct.be_length, Fra.numsB_len, List.length_take]
        omega
      have HF := Lib.hid F
      have HLJ := Lib.hid hlj
      clear hz F hlj
      go_wp2_with fail
      refine (refHigh W _ _ (Fra.uns z) _ 8 _ HF.out HLJ.out (by rw [Fra.uns_cast]; first | rfl | rw [IntKind.wrap_u64]) (Fra.uns_lt z) (by omega)).mono ?_
      rintro e w5 ⟨v5, rfl, F5⟩
      rw [List.append_assoc _ (Fra.numsB (l.take j)), ← HZ.out] at F5
      have HF5 := Lib.hid F5
      clear F5
      go_wp2_with fail
      go_roundw
      case rel => exact ⟨j + 1, by omega, by go_num, HF5.out⟩
      case measure => simp [intOf]; omega
    · obtain rfl : j = n := by omega
      have HF := Lib.hid F
      clear F
      go_wp2_with fail
      go_ret2
      refine ⟨_, rfl, Fresh_from ?_ HB0.out⟩
      rw [HB.out]
      have := HF.out
      rw [List.take_of_length_le (by rw [HLEN.out]; exact Nat.le_refl _)] at this
      exact this

/-- PutReply of the document. -/
theorem refPutReply (c s : Nat) (r : Fra.Reply) (A : Option Addr) (n cap : Nat) (w : World) (hr : Sl w w.heap.size 1 A n cap (intsV r.n)) (hc : c < 4294967296) (hs : s < 18446744073709551616) :
    Calls Try.prog 48 #[.int .u32 (c : Int), .int .u64 (s : Int), .agg #[.int .i64 r.e, .slice A n cap]] w (BytesErr w (Fra.putReply c s r)) := by
  obtain ⟨e, l⟩ := r
  replace hr : Sl w w.heap.size 1 A n cap (intsV l) := hr
  unfold Fra.putReply
  cases hb : Fra.badR ⟨e, l⟩ with
  | true => exact refPutReply_bad c s e l A n cap w (by have := hr.rd.1; rw [intsV_len] at this; omega) (by have := hr.nc; have := hr.cm; omega) hb
  | false => exact refPutReply_good c s e l A n cap w hr hb hc hs

end Go.Proofs.Ytbfcfhfnkpklkaa

/-
  Layer 24 (frames): asks as bytes, walked.
-/
import Derived.Test.YtbfcfhfnkpklkaaFraPut
namespace Go.Proofs.Ytbfcfhfnkpklkaa
open Go.RowKit Go.Gab
set_option linter.unusedVariables false
attribute [local go_sem ↓] Go.wp_at_zero Go.wp_at_succ

/-- What is asked, as a value. -/
def askV (d : Fra.Ask) : Value := .agg #[.int .u8 (d.kind.toNat : Int), .int .i64 d.a, .int .i64 d.b, .int .i64 d.x, .int .i64 d.w, .int .i64 d.u, .int .u64 (d.id : Int)]

/-- Bytes and an error. -/
def BytesErr (W : World) (r : List UInt8 × Int) (e : Ending) (w' : World) : Prop := ∃ v, e = .returned (pairV v r.2) ∧ Fresh 5 W r.1 v w'

theorem ask_cells {w : World} {h : Nat} {t : TypeId} {c0 c1 c2 c3 c4 c5 c6 : Value} (hB : Blk w h t #[c0, c1, c2, c3, c4, c5, c6]) :
    w.cell? ⟨h, 0, none⟩ = some c0 ∧ w.cell? ⟨h, 1, none⟩ = some c1 ∧ w.cell? ⟨h, 2, none⟩ = some c2 ∧ w.cell? ⟨h, 3, none⟩ = some c3 ∧ w.cell? ⟨h, 4, none⟩ = some c4 ∧ w.cell? ⟨h, 5, none⟩ = some c5 ∧ w.cell? ⟨h, 6, none⟩ = some c6 :=
  ⟨hB.cell 0, hB.cell 1, hB.cell 2, hB.cell 3, hB.cell 4, hB.cell 5, hB.cell 6⟩

theorem put_size {b : List UInt8} {n : Nat} {k : Int} (h : Oct.size k = true) : Oct.put b n k = b ++ Oct.be n k.toNat := by unfold Oct.put; rw [if_pos h]

theorem Fresh_from {t8 : TypeId} {w W w' : World} {bs : List UInt8} {v : Value} (h : Fresh t8 W bs v w') (hb : Below w.heap.size w W) : Fresh t8 w bs v w' := Fresh_base h w hb

theorem Fresh_nil {t8 : TypeId} {w w' : World} (hb : Below w.heap.size w w') : Fresh t8 w [] (.slice none 0 0) w' := ⟨none, 0, rfl, World.ownsRow_nil _ _ _ _, hb⟩

set_option maxHeartbeats 1000000 in
theorem fraPutAsk_bad (c s : Nat) (d : Fra.Ask) (w : World) (hb : Fra.bad d = true) :
    Calls Try.prog 45 #[.int .u32 (c : Int), .int .u64 (s : Int), askV d] w (BytesErr w ([], 1)) := by
  obtain ⟨k, a, b, x, ww, u, i⟩ := d
  unfold Fra.bad at hb
  simp only [Bool.or_eq_true, decide_eq_true_eq] at hb
  unfold askV
  simp only
  by_cases h1 : a < 0
  · clear hb
    go_enter Try.func45, Try.ntmps45
    go_wp2_with fail
    go_ret2
    exact ⟨_, rfl, Fresh_nil ((Below.refl _ _).alloc (Nat.le_refl _) _)⟩
  by_cases h2 : 255 < a
  · clear hb
    go_enter Try.func45, Try.ntmps45
    go_wp2_with fail
    go_ret2
    exact ⟨_, rfl, Fresh_nil ((Below.refl _ _).alloc (Nat.le_refl _) _)⟩
  by_cases h3 : b < -32768
  · clear hb
    go_enter Try.func45, Try.ntmps45
    go_wp2_with fail
    go_ret2
    exact ⟨_, rfl, Fresh_nil ((Below.refl _ _).alloc (Nat.le_refl _) _)⟩
  by_cases h4 : 32767 < b
  · clear hb
    go_enter Try.func45, Try.ntmps45
    go_wp2_with fail
    go_ret2
    exact ⟨_, rfl, Fresh_nil ((Below.refl _ _).alloc (Nat.le_refl _) _)⟩
  by_cases h5 : ww < 0
  · clear hb
    go_enter Try.func45, Try.ntmps45
    go_wp2_with fail
    go_ret2
    exact ⟨_, rfl, Fresh_nil ((Below.refl _ _).alloc (Nat.le_refl _) _)⟩
  · have h6 : 65535 < ww := by omega
    clear hb
    go_enter Try.func45, Try.ntmps45
    go_wp2_with fail
    go_ret2
    exact ⟨_, rfl, Fresh_nil ((Below.refl _ _).alloc (Nat.le_refl _) _)⟩

set_option maxHeartbeats 1000000 in
theorem fraPutAsk_good (c s : Nat) (d : Fra.Ask) (w : World) (hb : Fra.bad d = false) (hc : c < 4294967296) (hs : s < 18446744073709551616) (hd : d.Ok) :
    Calls Try.prog 45 #[.int .u32 (c : Int), .int .u64 (s : Int), askV d] w (BytesErr w (Fra.askB c s d, 0)) := by
  obtain ⟨h1, h2, h3, h4, h5, h6⟩ := Fra.bad_no hb
  have hid := hd.id
  clear hb hd
  obtain ⟨k, a, b, x, ww, u, i⟩ := d
  simp only at h1 h2 h3 h4 h5 h6 hid
  have HB := Lib.hid (show Fra.askB c s ⟨k, a, b, x, ww, u, i⟩ = Oct.be c 4 ++ Oct.be s 8 ++ Oct.be k.toNat 1 ++ Oct.be (Fra.uns a) 1 ++ Oct.be (Fra.uns b) 2 ++ Oct.be (Fra.uns x) 8 ++ Oct.be (Fra.uns ww) 2 ++ Oct.be (Fra.uns u) 8 ++ Oct.be i 8 from rfl)
  generalize Fra.askB c s ⟨k, a, b, x, ww, u, i⟩ = out at HB ⊢
  unfold askV
  simp only
  go_enter Try.func45, Try.ntmps45
  go_wp2_with fail
  have hbx := Blk.new w 55 #[.int .u8 (k.toNat : Int), .int .i64 a, .int .i64 b, .int .i64 x, .int .i64 ww, .int .i64 u, .int .u64 (i : Int)]
  have hb0 : Below w.heap.size w (w.alloc (.cells #[.int .u8 (k.toNat : Int), .int .i64 a, .int .i64 b, .int .i64 x, .int .i64 ww, .int .i64 u, .int .u64 (i : Int)] 55)) := (Below.refl _ _).alloc (Nat.le_refl _) _
  generalize w.alloc (.cells #[.int .u8 (k.toNat : Int), .int .i64 a, .int .i64 b, .int .i64 x, .int .i64 ww, .int .i64 u, .int .u64 (i : Int)] 55) = W at hbx hb0 ⊢
  have SC := Lib.hid (fun w' (h : Below W.heap.size W w') => ask_cells (hbx.below h hbx.lt))
  have HB0 := Lib.hid hb0
  clear hbx hb0
  generalize w.heap.size = h at SC ⊢
  refine (fraPut32 W [] _ c 4 _ (Fresh.nil_ _ _) (by simp) hc).mono ?_
  rintro e w1 ⟨v1, rfl, F1⟩
  rw [put_size rfl] at F1
  go_wp2_with fail
  refine (fraPut64 W _ _ s 8 _ F1 (by simp [Oct.be_length]) hs).mono ?_
  rintro e w2 ⟨v2, rfl, F2⟩
  rw [put_size rfl] at F2
  obtain ⟨q0, q1, q2, q3, q4, q5, q6⟩ := SC.out _ (Fresh_bel F2)
  clear F1
  go_wp2_with fail
  go_region_held3 (fun w' => w'.cell? ⟨h, 0, none⟩ = some (.int .u8 (k.toNat : Int)) ∧ w'.cell? ⟨h, 1, none⟩ = some (.int .i64 a) ∧ w'.cell? ⟨h, 2, none⟩ = some (.int .i64 b))
    (first | exact ⟨q0, q1, q2⟩ | exact S5.out | exact S4.out | exact S3.out)
    (first | (go_at_call 76; refine (fraPut8 W _ _ k 1 _ (Fresh_drew F2) (by simp [Oct.be_length])).mono ?_; rintro e w3 ⟨v3, rfl, F3⟩; rw [put_size rfl] at F3; have S3 := Lib.hid (show w3.cell? ⟨h, 0, none⟩ = some (.int .u8 (k.toNat : Int)) ∧ w3.cell? ⟨h, 1, none⟩ = some (.int .i64 a) ∧ w3.cell? ⟨h, 2, none⟩ = some (.int .i64 b) from ⟨(SC.out _ (Fresh_bel F3)).1, (SC.out _ (Fresh_bel F3)).2.1, (SC.out _ (Fresh_bel F3)).2.2.1⟩))
           | (go_at_call 75; refine (fraPutInt W _ _ b 2 _ F4 (by simp [Oct.be_length])).mono ?_; rintro e w5 ⟨v5, rfl, F5⟩; rw [put_size rfl] at F5; have S5 := Lib.hid (show w5.cell? ⟨h, 0, none⟩ = some (.int .u8 (k.toNat : Int)) ∧ w5.cell? ⟨h, 1, none⟩ = some (.int .i64 a) ∧ w5.cell? ⟨h, 2, none⟩ = some (.int .i64 b) from ⟨(SC.out _ (Fresh_bel F5)).1, (SC.out _ (Fresh_bel F5)).2.1, (SC.out _ (Fresh_bel F5)).2.2.1⟩))
           | (go_at_call 75; refine (fraPutInt W _ _ a 1 _ F3 (by simp [Oct.be_length])).mono ?_; rintro e w4 ⟨v4, rfl, F4⟩; rw [put_size rfl] at F4; have S4 := Lib.hid (show w4.cell? ⟨h, 0, none⟩ = some (.int .u8 (k.toNat : Int)) ∧ w4.cell? ⟨h, 1, none⟩ = some (.int .i64 a) ∧ w4.cell? ⟨h, 2, none⟩ = some (.int .i64 b) from ⟨(SC.out _ (Fresh_bel F4)).1, (SC.out _ (Fresh_bel F4)).2.1, (SC.out _ (Fresh_bel F4)).2.2.1⟩)))
  go_wp2_with fail
  clear q0 q1 q2 S3 S4 S5 F2 F3 F4
  obtain ⟨q0, q1, q2, q3, q4, q5, q6⟩ := SC.out _ (Fresh_bel F5)
  replace F5 := Fresh_drew F5
  go_region_held3 (fun w' => w'.cell? ⟨h, 3, none⟩ = some (.int .i64 x) ∧ w'.cell? ⟨h, 4, none⟩ = some (.int .i64 ww) ∧ w'.cell? ⟨h, 5, none⟩ = some (.int .i64 u) ∧ w'.cell? ⟨h, 6, none⟩ = some (.int .u64 (i : Int)))
    (first | exact ⟨q3, q4, q5, q6⟩ | exact S9.out | exact S8.out | exact S7.out | exact S6.out)
    (first | (go_at_call 73; refine (fraPut64 W _ _ i 8 _ F8 (by simp [Oct.be_length]) hid).mono ?_; rintro e w9 ⟨v9, rfl, F9⟩; rw [put_size rfl] at F9; have S9 := Lib.hid (show w9.cell? ⟨h, 3, none⟩ = some (.int .i64 x) ∧ w9.cell? ⟨h, 4, none⟩ = some (.int .i64 ww) ∧ w9.cell? ⟨h, 5, none⟩ = some (.int .i64 u) ∧ w9.cell? ⟨h, 6, none⟩ = some (.int .u64 (i : Int)) from (SC.out _ (Fresh_bel F9)).2.2.2))
           | (go_at_call 77; refine (fraPutI64 W _ _ u 8 _ F7 (by simp [Oct.be_length])).mono ?_; rintro e w8 ⟨v8, rfl, F8⟩; rw [put_size rfl] at F8; have S8 := Lib.hid (show w8.cell? ⟨h, 3, none⟩ = some (.int .i64 x) ∧ w8.cell? ⟨h, 4, none⟩ = some (.int .i64 ww) ∧ w8.cell? ⟨h, 5, none⟩ = some (.int .i64 u) ∧ w8.cell? ⟨h, 6, none⟩ = some (.int .u64 (i : Int)) from (SC.out _ (Fresh_bel F8)).2.2.2))
           | (go_at_call 77; refine (fraPutI64 W _ _ ww 2 _ F6 (by simp [Oct.be_length])).mono ?_; rintro e w7 ⟨v7, rfl, F7⟩; rw [put_size rfl] at F7; have S7 := Lib.hid (show w7.cell? ⟨h, 3, none⟩ = some (.int .i64 x) ∧ w7.cell? ⟨h, 4, none⟩ = some (.int .i64 ww) ∧ w7.cell? ⟨h, 5, none⟩ = some (.int .i64 u) ∧ w7.cell? ⟨h, 6, none⟩ = some (.int .u64 (i : Int)) from (SC.out _ (Fresh_bel F7)).2.2.2))
           | (go_at_call 77; refine (fraPutI64 W _ _ x 8 _ F5 (by simp [Oct.be_length])).mono ?_; rintro e w6 ⟨v6, rfl, F6⟩; rw [put_size rfl] at F6; have S6 := Lib.hid (show w6.cell? ⟨h, 3, none⟩ = some (.int .i64 x) ∧ w6.cell? ⟨h, 4, none⟩ = some (.int .i64 ww) ∧ w6.cell? ⟨h, 5, none⟩ = some (.int .i64 u) ∧ w6.cell? ⟨h, 6, none⟩ = some (.int .u64 (i : Int)) from (SC.out _ (Fresh_bel F6)).2.2.2)))
  go_wp2_with fail
  go_ret2
  refine ⟨_, rfl, Fresh_from ?_ HB0.out⟩
  rw [HB.out]
  exact F9

/-- PutAsk. -/
theorem fraPutAsk (c s : Nat) (d : Fra.Ask) (w : World) (hc : c < 4294967296) (hs : s < 18446744073709551616) (hd : d.Ok) :
    Calls Try.prog 45 #[.int .u32 (c : Int), .int .u64 (s : Int), askV d] w (BytesErr w (Fra.putAsk c s d)) := by
  unfold Fra.putAsk
  cases hb : Fra.bad d with
  | true => exact fraPutAsk_bad c s d w hb
  | false => exact fraPutAsk_good c s d w hb hc hs hd

end Go.Proofs.Ytbfcfhfnkpklkaa

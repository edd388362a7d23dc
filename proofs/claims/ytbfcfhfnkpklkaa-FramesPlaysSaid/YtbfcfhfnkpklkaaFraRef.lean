/-
  The document's answer of layer 24 (frames), its small functions walked: numbers put behind bytes, and numbers at a place.
-/
import Derived.Test.YtbfcfhfnkpklkaaFraRep
import Derived.Deep.DeepCutAuto
import Derived.Deep.CutBlock
namespace Go.Proofs.Ytbfcfhfnkpklkaa
open Go.RowKit Go.Gab
set_option linter.unusedVariables false
attribute [local go_sem ↓] Go.wp_at_zero Go.wp_at_succ

theorem be_at_q (x K q : Nat) (hq : q < K) : ∃ b : UInt8, (Oct.be x K)[K - 1 - q]? = some b ∧ (x : Int) / 2 ^ (8 * q) % 256 = (b.toNat : Int) := by
  obtain ⟨b, h1, h2⟩ := be_at x K (K - 1 - q) (by omega)
  rw [show K - 1 - (K - 1 - q) = q by omega] at h2
  exact ⟨b, h1, h2⟩

set_option maxHeartbeats 1000000 in
theorem refHigh (W : World) (bs : List UInt8) (v : Value) (x : Nat) (z : Int) (K : Nat) (w : World) (h : Fresh 5 W bs v w) (hl : bs.length ≤ 1000000) (hz : z = (x : Int)) (hx : x < 18446744073709551616) (hK : K ≤ 8) :
    Calls Try.prog 78 #[v, .int .u64 z, .int .i64 (K : Int)] w (PutTo W (bs ++ Oct.be x K)) := by
  subst hz
  obtain ⟨A, c, rfl, hown, hbel⟩ := h
  obtain ⟨i0, hi0, hz0, hz1, hz2⟩ := info_parts info8
  generalize hn : bs.length = n at hl hown ⊢
  have HN := Lib.hid hn
  clear hn
  go_enter Try.func78, Try.ntmps78
  go_wp2_with fail
  go_loopw [0, 7] (fun v i wr => ∃ (j m d : Nat) (z : Int) (A1 : Option Addr), j ≤ K ∧ z = (K : Int) - 1 - j ∧ i = .int .i64 z ∧ m = n + j ∧ v = .slice A1 m d ∧ wr.ownsRow W.heap.size 5 1 (.slice A1 m d) m ((bs ++ (Oct.be x K).take j).map byteV) ∧ Below W.heap.size W wr) (fun _ i _ => (intOf i + 1).toNat)
  case atStart => exact ⟨0, n, c, (K : Int) - 1, A, Nat.zero_le _, by omega, rfl, rfl, rfl, by simpa using hown, hbel⟩
  case round =>
    clear hown hbel
    obtain ⟨j, m, d, z, A2, hj, hz, rfl, hm, rfl, hown, hbel⟩ := hrel
    have HM := Lib.hid hm
    have hm1 : m ≤ n + 8 := by omega
    clear hm
    by_cases hlt : j < K
    · obtain ⟨q, rfl⟩ : ∃ q : Nat, z = (q : Int) := ⟨K - 1 - j, by omega⟩
      have HQ := Lib.hid hz
      have hq8 : q < 8 := by omega
      obtain ⟨b, hb, hbv⟩ := be_at_q x K q (by omega)
      rw [show K - 1 - q = j by omega] at hb
      have Hb := Lib.hid hb
      clear hb hz
      go_wp2_with (at_builtin
                   refine wpList_append_any _ rfl _ _ _ rfl W.heap.size 5 i0 _ 1 1 Try.underlying22 hi0 hz0 hz1 hz2 rfl (by omega) _ _ _ rfl (hown.alloc _) (wr.heap.size + 1) (some ⟨wr.heap.size, 0, none⟩) 1 1 ([b].map byteV) rfl (by exact (Sl.lit (k := 1) (cap := 1) _ _ _ _ _ _ rfl rfl rfl (by omega) (by omega)).rd) (byteV_one_ _) (by simp only [maxLen]; omega) (by omega) (by have := hbel.size; simp; omega) ?_
                   intro v2 w2 hown2 hg2 hat2)
      have hb2 : Below W.heap.size W w2 := (hbel.alloc hbel.size _).grown hg2 (by have := hbel.size; simp; omega) (fun q hq => (hown.lt q hq).1)
      obtain ⟨A3, c3, rfl⟩ := own_slice hown2
      clear hown hbel hg2 hat2
      rw [← List.map_append, List.append_assoc, ← take_succ_of Hb.out] at hown2
      have HO2 := Lib.hid hown2
      have HB2 := Lib.hid hb2
      clear hown2 hb2
      go_wp2_with fail
      go_roundw
      case rel => exact ⟨j + 1, m + 1, c3, _, A3, by omega, by have := HQ.out; omega, rfl, by have := HM.out; omega, rfl, HO2.out, HB2.out⟩
      case measure => simp [intOf]
    · obtain rfl : j = K := by omega
      obtain rfl : z = -1 := by omega
      have hfin : bs ++ (Oct.be x j).take j = bs ++ Oct.be x j := by rw [List.take_of_length_le (by rw [Oct.be_length]; omega)]
      rw [hfin] at hown
      have HL := Lib.hid (show (bs ++ Oct.be x j).length = m by rw [List.length_append, Oct.be_length, HM.out, HN.out])
      clear hfin hz
      go_wp2_with fail
      go_ret
      refine ⟨_, rfl, A2, d, by simp [HL.out], ?_, hbel⟩
      rw [HL.out]
      exact hown

theorem num_succ {bs : List UInt8} {p j : Nat} {b : UInt8} (h : bs[p + j]? = some b) : Fra.num bs p (j + 1) = Fra.num bs p j * 256 + b.toNat := by
  unfold Fra.num
  rw [take_succ_of (by rw [List.getElem?_drop]; exact h), Oct.val_snoc]

set_option maxHeartbeats 1000000 in
theorem refNumber (B : Nat) (A : Option Addr) (n c : Nat) (bs : List UInt8) (p k : Nat) (w : World) (hr : Sl w B 1 A n c (bs.map byteV)) (hk : k ≤ 8) (hp : p + k ≤ n) (hm : n ≤ 1000000) :
    Calls Try.prog 81 #[.slice A n c, .int .i64 (p : Int), .int .i64 (k : Int)] w fun e w' => e = .returned (.int .u64 (Fra.num bs p k : Int)) ∧ w = w' := by
  have hnc := hr.nc
  have hcm := hr.cm
  go_enter Try.func81, Try.ntmps81
  go_wp2_with fail
  go_loop [7, 8] (fun v i => ∃ j : Nat, j ≤ k ∧ i = .int .i64 j ∧ v = .int .u64 ((Fra.num bs p j : Nat) : Int)) (fun _ i => k - (intOf i).toNat)
  case atStart => exact ⟨0, Nat.zero_le _, rfl, by simp [Fra.num, Oct.val]⟩
  case round =>
    obtain ⟨j, hj, rfl, rfl⟩ := hrel
    by_cases hlt : j < k
    · obtain ⟨b, off, v, rfl, _, hv, hcell, hvl⟩ := hr.byte (k := p + j) (by omega)
      have hvb : Fra.num bs p j < 72057594037927936 := Nat.lt_of_lt_of_le (Fra.num_lt bs p j) (Nat.le_trans (Nat.pow_le_pow_right (by omega) (show j ≤ 7 by omega)) (by decide))
      have HS := Lib.hid (num_succ hv)
      clear hv
      go_wp2_with fail
      go_round
      case rel => exact ⟨j + 1, by omega, by go_num, by rw [HS.out]; go_num⟩
      case measure => simp [intOf]; omega
    · obtain rfl : j = k := by omega
      go_wp2_with fail
      go_ret
      exact ⟨rfl, rfl⟩

theorem be_one (b : UInt8) : Oct.be b.toNat 1 = [b] := by
  have h := Oct.be_val [b]
  simpa [Oct.val] using h
theorem byte_of {a : Int} (h0 : 0 ≤ a) (h1 : a ≤ 255) : ∃ b : UInt8, a = (b.toNat : Int) ∧ Oct.be (Fra.uns a) 1 = [b] := by
  refine ⟨UInt8.ofNat a.toNat, ?_, ?_⟩
  · rw [Fra.u8_toNat_ofNat (by omega)]; omega
  · have e : Fra.uns a = (UInt8.ofNat a.toNat).toNat := by rw [Fra.u8_toNat_ofNat (by omega)]; unfold Fra.uns; omega
    rw [e, be_one]
theorem be_two (n m : Nat) (h : m % 65536 = n % 65536) : Oct.be m 2 = Oct.be n 2 := Fra.be_mod_of _ _ _ (by simpa using h)

set_option maxHeartbeats 1000000 in
theorem refPutAsk_bad (c s : Nat) (d : Fra.Ask) (w : World) (hb : Fra.bad d = true) :
    Calls Try.prog 46 #[.int .u32 (c : Int), .int .u64 (s : Int), askV d] w (BytesErr w ([], 1)) := by
  obtain ⟨k, a, b, x, ww, u, i⟩ := d
  unfold Fra.bad at hb
  simp only [Bool.or_eq_true, decide_eq_true_eq] at hb
  unfold askV
  simp only
  by_cases h1 : a < 0
  · clear hb
    go_enter Try.func46, Try.ntmps46
    go_wp2_with fail
    go_ret2
    exact ⟨_, rfl, Fresh_nil ((Below.refl _ _).alloc (Nat.le_refl _) _)⟩
  by_cases h2 : 255 < a
  · clear hb
    go_enter Try.func46, Try.ntmps46
    go_wp2_with fail
    go_ret2
    exact ⟨_, rfl, Fresh_nil ((Below.refl _ _).alloc (Nat.le_refl _) _)⟩
  by_cases h3 : b < -32768
  · clear hb
    go_enter Try.func46, Try.ntmps46
    go_wp2_with fail
    go_ret2
    exact ⟨_, rfl, Fresh_nil ((Below.refl _ _).alloc (Nat.le_refl _) _)⟩
  by_cases h4 : 32767 < b
  · clear hb
    go_enter Try.func46, Try.ntmps46
    go_wp2_with fail
    go_ret2
    exact ⟨_, rfl, Fresh_nil ((Below.refl _ _).alloc (Nat.le_refl _) _)⟩
  by_cases h5 : ww < 0
  · clear hb
    go_enter Try.func46, Try.ntmps46
    go_wp2_with fail
    go_ret2
    exact ⟨_, rfl, Fresh_nil ((Below.refl _ _).alloc (Nat.le_refl _) _)⟩
  · have h6 : 65535 < ww := by omega
    clear hb
    go_enter Try.func46, Try.ntmps46
    go_wp2_with fail
    go_ret2
    exact ⟨_, rfl, Fresh_nil ((Below.refl _ _).alloc (Nat.le_refl _) _)⟩

theorem fresh_two {t8 : TypeId} {W w2 w3 : World} {A2 : Option Addr} {c2 : Nat} {v3 : Value} {bs : List UInt8} {k : UInt8} {a : Int}
    (hown2 : w2.ownsRow W.heap.size t8 1 (.slice A2 12 c2) 12 (bs.map byteV)) (hbel2 : Below W.heap.size W w2)
    (hg3 : (w2.alloc (.cells #[.int .u8 (k.toNat : Int), .int .u8 a] t8)).grownBy w3 (Value.slice A2 12 c2).ownBlock)
    (hown3 : w3.ownsRow W.heap.size t8 1 v3 (12 + 2) (bs.map byteV ++ [.int .u8 (k.toNat : Int), .int .u8 a])) (hab : ∃ b : UInt8, a = (b.toNat : Int) ∧ Oct.be (Fra.uns a) 1 = [b]) :
    Fresh t8 W (bs ++ Oct.be k.toNat 1 ++ Oct.be (Fra.uns a) 1) v3 w3 := by
  have hb3 : Below W.heap.size W w3 := (hbel2.alloc hbel2.size _).grown hg3 (by have := hbel2.size; simp; omega) (fun q hq => (hown2.lt q hq).1)
  obtain ⟨A3, c3, rfl⟩ := own_slice hown3
  obtain ⟨ab, e1, e2⟩ := hab
  have e3 : (bs ++ Oct.be k.toNat 1 ++ Oct.be (Fra.uns a) 1).map byteV = bs.map byteV ++ [Value.int IntKind.u8 (k.toNat : Int), Value.int IntKind.u8 a] := by
    rw [e2, be_one, e1]
    simp [byteV]
  have e4 : (bs ++ Oct.be k.toNat 1 ++ Oct.be (Fra.uns a) 1).length = 12 + 2 := by
    have := hown2.1
    simp at this
    simp [Oct.be_length, this]
  refine ⟨A3, c3, ?_, ?_, hb3⟩
  · rw [e4]
  · rw [e3, e4]
    exact hown3

theorem and_low (b : Int) : bits .and .u64 (IntKind.u64.wrap b) 65535 = ((Fra.uns b % 65536 : Nat) : Int) := by
  have h1 : IntKind.u64.wrap b = (Fra.uns b : Int) := by rw [Fra.uns_cast, IntKind.wrap_u64]
  have h2 := u64_and_nat (Fra.uns b) 65535 (Fra.uns_lt b) (by omega)
  rw [h1]
  refine h2.trans ?_
  rw [show (65535 : Nat) = 2 ^ 16 - 1 from rfl, Nat.and_two_pow_sub_one_eq_mod]

set_option maxHeartbeats 2000000 in
set_option maxRecDepth 10000 in
theorem refPutAsk_good (c s : Nat) (d : Fra.Ask) (w : World) (hb : Fra.bad d = false) (hc : c < 4294967296) (hs : s < 18446744073709551616) (hd : d.Ok) :
    Calls Try.prog 46 #[.int .u32 (c : Int), .int .u64 (s : Int), askV d] w (BytesErr w (Fra.askB c s d, 0)) := by
  obtain ⟨h1, h2, h3, h4, h5, h6⟩ := Fra.bad_no hb
  have hid := hd.id
  clear hb hd
  obtain ⟨k, a, b, x, ww, u, i⟩ := d
  simp only at h1 h2 h3 h4 h5 h6 hid
  have HB := Lib.hid (show Fra.askB c s ⟨k, a, b, x, ww, u, i⟩ = Oct.be c 4 ++ Oct.be s 8 ++ Oct.be k.toNat 1 ++ Oct.be (Fra.uns a) 1 ++ Oct.be (Fra.uns b) 2 ++ Oct.be (Fra.uns x) 8 ++ Oct.be (Fra.uns ww) 2 ++ Oct.be (Fra.uns u) 8 ++ Oct.be i 8 from rfl)
  generalize Fra.askB c s ⟨k, a, b, x, ww, u, i⟩ = out at HB ⊢
  have HAB := Lib.hid (byte_of h1 h2)
  obtain ⟨i0, hi0, hz0, hz1, hz2⟩ := info_parts info8
  have d1 : decide (a < 0) = false := by simpa using h1
  have d2 : decide (255 < a) = false := by simpa using h2
  have d3 : decide (b < -32768) = false := by simpa using h3
  have d4 : decide (32767 < b) = false := by simpa using h4
  have d5 : decide (ww < 0) = false := by simpa using h5
  have d6 : decide (65535 < ww) = false := by simpa using h6
  unfold askV
  simp only
  go_enter Try.func46, Try.ntmps46
  go_wp2_with fail
  have hbx := Blk.new w 55 #[.int .u8 (k.toNat : Int), .int .i64 a, .int .i64 b, .int .i64 x, .int .i64 ww, .int .i64 u, .int .u64 (i : Int)]
  have hb0 : Below w.heap.size w (w.alloc (.cells #[.int .u8 (k.toNat : Int), .int .i64 a, .int .i64 b, .int .i64 x, .int .i64 ww, .int .i64 u, .int .u64 (i : Int)] 55)) := (Below.refl _ _).alloc (Nat.le_refl _) _
  generalize w.alloc (.cells #[.int .u8 (k.toNat : Int), .int .i64 a, .int .i64 b, .int .i64 x, .int .i64 ww, .int .i64 u, .int .u64 (i : Int)] 55) = W at hbx hb0 ⊢
  have SC := Lib.hid (fun w' (h : Below W.heap.size W w') => ask_cells (hbx.below h hbx.lt))
  have HB0 := Lib.hid hb0
  clear hbx hb0
  generalize w.heap.size = h at SC ⊢
  refine (refHigh W [] _ c _ 4 _ (Fresh.nil_ _ _) (by simp) rfl (by omega) (by omega)).mono ?_
  rintro e w1 ⟨v1, rfl, F1⟩
  go_wp2_with fail
  refine (refHigh W _ _ s _ 8 _ F1 (by simp [Oct.be_length]) rfl hs (by omega)).mono ?_
  rintro e w2 ⟨v2, rfl, F2⟩
  obtain ⟨q0, q1, q2, q3, q4, q5, q6⟩ := SC.out _ (Fresh_bel F2)
  clear F1
  obtain ⟨A2, c2, rfl, hown2, hbel2⟩ := F2
  have e12 : (([] : List UInt8) ++ Oct.be c 4 ++ Oct.be s 8).length = 12 := by simp [Oct.be_length]
  rw [e12] at hown2 ⊢
  clear e12
  go_wp2_with (at_builtin
               refine wpList_append_any _ rfl _ _ _ rfl W.heap.size 5 i0 _ 1 1 Try.underlying22 hi0 hz0 hz1 hz2 rfl (by omega) (.slice A2 12 c2) _ _ rfl (hown2.alloc _) (w2.heap.size + 1) (some ⟨w2.heap.size, 0, none⟩) 2 2 [.int .u8 (k.toNat : Int), .int .u8 a] rfl (by exact (Sl.lit (k := 2) (cap := 2) _ _ _ _ _ _ rfl rfl rfl (by omega) (by omega)).rd) (by simp [Value.oneCell']) (by simp only [maxLen]; omega) (by omega) (by have := hbel2.size; simp; omega) ?_
               intro v3 w3 hown3 hg3 hat3
               have F3 := Lib.hid (fresh_two hown2 hbel2 hg3 hown3 HAB.out)
               have hb3 := Fresh_bel F3.out
               obtain ⟨q0, q1, q2, q3, q4, q5, q6⟩ := SC.out _ hb3
               clear hown2 hbel2 hg3 hat3 hown3 hb3)
  refine (refHigh W _ _ (Fra.uns b % 65536) _ 2 _ F3.out (by simp [Oct.be_length]) (and_low b) (by have := Fra.uns_lt b; omega) (by omega)).mono ?_
  rintro e w4 ⟨v4, rfl, F4⟩
  rw [be_two (Fra.uns b) _ (by omega)] at F4
  clear q0 q1 q2 q3 q4 q5 q6 F3
  obtain ⟨q0, q1, q2, q3, q4, q5, q6⟩ := SC.out _ (Fresh_bel F4)
  have HF4 := Lib.hid F4
  clear F4
  go_wp2_with fail
  refine (refHigh W _ _ (Fra.uns x) _ 8 _ HF4.out (by simp [Oct.be_length]) (by rw [Fra.uns_cast]; first | rfl | rw [IntKind.wrap_u64]) (Fra.uns_lt x) (by omega)).mono ?_
  rintro e w5 ⟨v5, rfl, F5⟩
  clear q0 q1 q2 q3 q4 q5 q6 HF4
  obtain ⟨q0, q1, q2, q3, q4, q5, q6⟩ := SC.out _ (Fresh_bel F5)
  have HF5 := Lib.hid F5
  clear F5
  go_wp2_with fail
  refine (refHigh W _ _ (Fra.uns ww) _ 2 _ HF5.out (by simp [Oct.be_length]) (by have := Fra.uns_pos h5 (by omega); first | exact this.symm | (rw [Fra.uns_cast]; first | rfl | rw [IntKind.wrap_u64])) (Fra.uns_lt ww) (by omega)).mono ?_
  rintro e w6 ⟨v6, rfl, F6⟩
  clear q0 q1 q2 q3 q4 q5 q6 HF5
  obtain ⟨q0, q1, q2, q3, q4, q5, q6⟩ := SC.out _ (Fresh_bel F6)
  have HF6 := Lib.hid F6
  clear F6
  go_wp2_with fail
  refine (refHigh W _ _ (Fra.uns u) _ 8 _ HF6.out (by simp [Oct.be_length]) (by rw [Fra.uns_cast]; first | rfl | rw [IntKind.wrap_u64]) (Fra.uns_lt u) (by omega)).mono ?_
  rintro e w7 ⟨v7, rfl, F7⟩
  clear q0 q1 q2 q3 q4 q5 q6 HF6
  obtain ⟨q0, q1, q2, q3, q4, q5, q6⟩ := SC.out _ (Fresh_bel F7)
  have HF7 := Lib.hid F7
  clear F7
  go_wp2_with fail
  refine (refHigh W _ _ i _ 8 _ HF7.out (by simp [Oct.be_length]) rfl hid (by omega)).mono ?_
  rintro e w8 ⟨v8, rfl, F8⟩
  have HF8 := Lib.hid F8
  clear q0 q1 q2 q3 q4 q5 q6 HF7 F8
  go_wp2_with fail
  go_ret2
  refine ⟨_, rfl, Fresh_from ?_ HB0.out⟩
  rw [HB.out]
  exact HF8.out

/-- PutAsk of the document. -/
theorem refPutAsk (c s : Nat) (d : Fra.Ask) (w : World) (hc : c < 4294967296) (hs : s < 18446744073709551616) (hd : d.Ok) :
    Calls Try.prog 46 #[.int .u32 (c : Int), .int .u64 (s : Int), askV d] w (BytesErr w (Fra.putAsk c s d)) := by
  unfold Fra.putAsk
  cases hb : Fra.bad d with
  | true => exact refPutAsk_bad c s d w hb
  | false => exact refPutAsk_good c s d w hb hc hs hd

end Go.Proofs.Ytbfcfhfnkpklkaa

/-
  The sums, walked, for layer 4: each returns what the plain functions of the text on the sum return, and writes nothing.
-/
import Derived.Test.YtbfcfhfnkpklkaaDoorProg
import Derived.Test.YtbfcfhfnkpklkaaDoorBase
import Derived.Test.YtbfcfhfnkpklkaaDoorCrcPlain
namespace Go.Proofs.YtbfcfhfnkpklkaaDoor
open Go.RowKit Go.Gab
set_option linter.unusedVariables false

/-! ### How a word stands in a cell, and what the operations on words do -/

theorem u32_not (x : BitVec 32) : bits .xor .u32 IntKind.u32.max (x.toNat : Int) = ((~~~ x).toNat : Int) := by
  have h1 : IntKind.u32.max = ((4294967295 : Nat) : Int) := by decide
  rw [h1, u32_xor_nat _ _ (by omega) x.isLt]
  have : (~~~ x) = (4294967295#32 ^^^ x) := by
    rw [show (4294967295#32 : BitVec 32) = BitVec.allOnes 32 from rfl, BitVec.allOnes_xor]
  rw [this, BitVec.toNat_xor]
  rfl

theorem u32_word (v : UInt8) (x : BitVec 32) : bits .xor .u32 (x.toNat : Int) ((v.toNat : Int)) = ((x ^^^ Crc.word v).toNat : Int) := by
  have hv := v.toNat_lt
  have e : (Crc.word v).toNat = v.toNat := by simp [Crc.word]
  rw [u32_xor_nat _ _ x.isLt (by omega), BitVec.toNat_xor, e]

/-- One step, as crc.More has it. -/
theorem u32_step (x : BitVec 32) : bits .xor .u32 ((x.toNat : Int) / 2) (3988292384 * (bits .and .u32 (x.toNat : Int) 1) % 4294967296) = ((Crc.step x).toNat : Int) := by
  have hx := x.isLt
  have h1 : bits .and .u32 (x.toNat : Int) 1 = ((x.toNat % 2 : Nat) : Int) := by
    have := u32_and_nat x.toNat 1 x.isLt (by omega)
    rw [show ((1 : Nat) : Int) = 1 from rfl] at this
    rw [this, Nat.and_one_is_mod]
  rw [h1, show (x.toNat : Int) / 2 = ((x.toNat / 2 : Nat) : Int) from by omega]
  have h0 : x.getLsbD 0 = decide (x.toNat % 2 = 1) := by
    rw [BitVec.getLsbD, Nat.testBit_zero]
  have hs : (x >>> 1).toNat = x.toNat / 2 := by rw [BitVec.toNat_ushiftRight, Nat.shiftRight_eq_div_pow]
  rcases Nat.mod_two_eq_zero_or_one x.toNat with h | h
  · rw [h]
    have e := u32_xor_nat (x.toNat / 2) 0 (by omega) (by omega)
    rw [show ((3988292384 : Int) * ((0 : Nat) : Int) % 4294967296) = ((0 : Nat) : Int) from by decide, e]
    unfold Crc.step
    rw [h0, h, BitVec.toNat_xor, hs]
    rfl
  · rw [h]
    have e := u32_xor_nat (x.toNat / 2) 3988292384 (by omega) (by omega)
    rw [show ((3988292384 : Int) * ((1 : Nat) : Int) % 4294967296) = ((3988292384 : Nat) : Int) from by decide, e]
    unfold Crc.step
    rw [h0, h, BitVec.toNat_xor, hs]
    rfl

theorem crc_take_succ {bs : List UInt8} {k : Nat} {v : UInt8} (h : bs[k]? = some v) (s : BitVec 32) : Crc.run s (bs.take (k + 1)) = Crc.stepN 8 (Crc.run s (bs.take k) ^^^ Crc.word v) := by
  rw [take_succ_of h, Crc.run_append]; rfl

/-! ### crc.More -/
set_option maxHeartbeats 400000 in
theorem crcMore_any (z : Int) (s : BitVec 32) (hz : z = (s.toNat : Int)) (B : Nat) (A : Option Addr) (n c : Nat) (bs : List UInt8) (w : World) (hr : Sl w B 1 A n c (bs.map byteV)) :
    Calls Tryd.prog 24 #[.int .u32 z, .slice A n c] w fun e w' => e = .returned (.int .u32 ((Crc.more s bs).toNat : Int)) ∧ w = w' := by
  have hlen := hr.lenB
  have hnc := hr.nc
  have hcm := hr.cm
  have Hfin : Hid (Crc.more s bs = ~~~ Crc.run (~~~ s) (bs.take n)) := by
    show _ = _
    rw [← hlen, List.take_length]; rfl
  have HN := Lib.hid (u32_not s)
  have Hz := Lib.hid hz
  clear hlen hz
  go_enter Tryd.func24, Tryd.ntmps24
  go_wp2
  go_loop [5, 12] (fun v i => ∃ k : Nat, k ≤ n ∧ i = .int .i64 k ∧ v = .int .u32 ((Crc.run (~~~ s) (bs.take k)).toNat : Int)) (fun _ i => n - (intOf i).toNat)
  case atStart => exact ⟨0, Nat.zero_le _, rfl, int_eq (by rw [Hz.out, HN.out]; rfl)⟩
  case round =>
    obtain ⟨k, hk, rfl, rfl⟩ := hrel
    by_cases hlt : k < n
    · obtain ⟨b, off, v, rfl, _, hv, hcell, hv256⟩ := hr.byte hlt
      have Hv := Lib.hid hv
      clear hv
      generalize hx : Crc.run (~~~ s) (bs.take k) = x
      have HX := Lib.hid hx
      clear hx
      have HW := Lib.hid (u32_word v x)
      go_wp2
      go_loop [5, 20] (fun y j => ∃ m : Nat, m ≤ 8 ∧ j = .int .i64 m ∧ y = .int .u32 ((Crc.stepN m (x ^^^ Crc.word v)).toNat : Int)) (fun _ j => 8 - (intOf j).toNat)
      case atStart => exact ⟨0, by omega, rfl, int_eq (by rw [HW.out]; rfl)⟩
      case round =>
        obtain ⟨m, hm, rfl, rfl⟩ := hrel
        generalize hy : Crc.stepN m (x ^^^ Crc.word v) = y
        have HY := Lib.hid hy
        clear hy
        have HS := Lib.hid (u32_step y)
        by_cases hm8 : m < 8
        · go_wp2
          go_round
          case rel => exact ⟨m + 1, by omega, by go_num, int_eq (by rw [HS.out, ← HY.out]; rfl)⟩
          case measure => simp [intOf]; omega
        · obtain rfl : m = 8 := by omega
          go_wp2
          go_round
          case rel => exact ⟨k + 1, by omega, by go_num, int_eq (by rw [crc_take_succ Hv.out, HX.out, HY.out])⟩
          case measure => simp [intOf]; omega
    · obtain rfl : k = n := by omega
      go_wp2
      go_ret
      exact ⟨ret_int (by rw [u32_not, Hfin.out]), rfl⟩

theorem crcSum_any (B : Nat) (A : Option Addr) (n c : Nat) (bs : List UInt8) (w : World) (hr : Sl w B 1 A n c (bs.map byteV)) :
    Calls Tryd.prog 15 #[.slice A n c] w fun e w' => e = .returned (.int .u32 ((Crc.sum bs).toNat : Int)) ∧ w = w' := by
  go_enter Tryd.func15, Tryd.ntmps15
  go_wp2_with (go_at_call 24; refine (crcMore_any 0 0#32 rfl B A n c bs _ hr).mono ?_; rintro e w' ⟨rfl, rfl⟩)
  go_ret
  exact ⟨rfl, rfl⟩

/-- Four bytes put together, the lowest first. -/
theorem u32_le (a b c d : UInt8) :
    bits .or .u32 (bits .or .u32 (bits .or .u32 (a.toNat : Int) ((b.toNat : Int) * 256)) ((c.toNat : Int) * 65536)) ((d.toNat : Int) * 16777216) = ((Crc.le a b c d).toNat : Int) := by
  have ha := a.toNat_lt
  have hb := b.toNat_lt
  have hc := c.toNat_lt
  have hd := d.toNat_lt
  have w : ∀ (v : UInt8) (k : Nat), k ≤ 24 → (Crc.word v <<< k).toNat = v.toNat * 2 ^ k := fun v k hk => by
    have hv := v.toNat_lt
    rw [BitVec.toNat_shiftLeft, Nat.shiftLeft_eq]
    have e : (Crc.word v).toNat = v.toNat := by simp [Crc.word]
    rw [e]
    apply Nat.mod_eq_of_lt
    calc v.toNat * 2 ^ k < 2 ^ 8 * 2 ^ k := Nat.mul_lt_mul_of_pos_right hv (Nat.two_pow_pos k)
      _ = 2 ^ (8 + k) := by rw [Nat.pow_add]
      _ ≤ 2 ^ 32 := Nat.pow_le_pow_right (by omega) (by omega)
  have ea : (Crc.word a).toNat = a.toNat := by simp [Crc.word]
  have h1 : (b.toNat : Int) * (256 : Int) = (((Crc.word b <<< 8).toNat : Nat) : Int) := by rw [w b 8 (by omega)]; omega
  have h2 : (c.toNat : Int) * (65536 : Int) = (((Crc.word c <<< 16).toNat : Nat) : Int) := by rw [w c 16 (by omega)]; omega
  have h3 : (d.toNat : Int) * (16777216 : Int) = (((Crc.word d <<< 24).toNat : Nat) : Int) := by rw [w d 24 (by omega)]; omega
  rw [h1, h2, h3, ← ea]
  rw [u32_or_nat _ _ (BitVec.isLt _) (BitVec.isLt _), ← BitVec.toNat_or]
  rw [u32_or_nat _ _ (BitVec.isLt _) (BitVec.isLt _), ← BitVec.toNat_or]
  rw [u32_or_nat _ _ (BitVec.isLt _) (BitVec.isLt _), ← BitVec.toNat_or]
  rfl
theorem u32_or0 (a : UInt8) : bits .or .u32 0 (a.toNat : Int) = (a.toNat : Int) := by
  have ha := a.toNat_lt
  have := u32_or_nat 0 a.toNat (by omega) (by omega)
  simpa using this

theorem toNat_beq (x y : BitVec 32) : ((x.toNat : Int) == (y.toNat : Int)) = decide (x = y) := by
  by_cases h : x = y
  · subst h; simp
  · have : ¬ x.toNat = y.toNat := fun e => h (BitVec.eq_of_toNat_eq e)
    have h2 : ¬ (x.toNat : Int) = (y.toNat : Int) := by omega
    simp only [h, decide_false]
    exact beq_eq_false_iff_ne.2 h2

set_option maxHeartbeats 400000 in
theorem crcRight_any (B : Nat) (A : Option Addr) (n c : Nat) (bs : List UInt8) (w : World) (hr : Sl w B 1 A n c (bs.map byteV)) :
    Calls Tryd.prog 18 #[.slice A n c] w fun e w' => e = .returned (.bool (Crc.right bs)) ∧ w = w' := by
  have hnc := hr.nc
  have hcm := hr.cm
  have hlen := hr.lenB
  by_cases h4 : n < 4
  · have Hf := Lib.hid (Crc.right_short (l := bs) (by omega))
    clear hlen
    go_enter Tryd.func18, Tryd.ntmps18
    go_wp2_with fail
    go_ret
    exact ⟨ret_bool Hf.out.symm, rfl⟩
  · obtain ⟨m, rfl⟩ : ∃ m, n = m + 4 := ⟨n - 4, by omega⟩
    obtain ⟨b, off, v0, rfl, _, hv0, hc0, hl0⟩ := hr.byte (k := m) (by omega)
    obtain ⟨_, _, v1, hA1, _, hv1, hc1, hl1⟩ := hr.byte (k := m + 1) (by omega)
    obtain ⟨_, _, v2, hA2, _, hv2, hc2, hl2⟩ := hr.byte (k := m + 2) (by omega)
    obtain ⟨_, _, v3, hA3, _, hv3, hc3, hl3⟩ := hr.byte (k := m + 3) (by omega)
    cases hA1; cases hA2; cases hA3
    simp only [← Nat.add_assoc] at hc1 hc2 hc3
    have Hs := hr.take_ (k := m) (by omega)
    have Hp := Lib.hid (Crc.right_parts hlen hv0 hv1 hv2 hv3)
    clear hr hv0 hv1 hv2 hv3 hlen
    go_enter Tryd.func18, Tryd.ntmps18
    go_wp2_with fail
    refine wp_loop_rounds 5 ?_
    iterate 5 (rw [rounds_succ]; go_wp2_with fail)
    refine (crcSum_any B _ m _ (bs.take m) _ (by simpa using Hs)).mono ?_
    rintro e w' ⟨rfl, rfl⟩
    go_wp2_with fail
    go_ret
    exact ⟨ret_bool (by rw [u32_or0, u32_le, toNat_beq, Hp.out]), rfl⟩

/-! ### the document's -/

/-- One step, as the document has it. -/
theorem u32_step_odd (x : BitVec 32) (h : (x.toNat : Int) % 2 = 1) : bits .xor .u32 ((x.toNat : Int) / 2) 3988292384 = ((Crc.step x).toNat : Int) := by
  have e := u32_step x
  have hx := x.isLt
  have h1 : bits .and .u32 (x.toNat : Int) 1 = 1 := by
    have := u32_and_nat x.toNat 1 x.isLt (by omega)
    rw [show ((1 : Nat) : Int) = 1 from rfl] at this
    rw [this, Nat.and_one_is_mod]; omega
  rw [h1] at e
  exact e
theorem u32_step_even (x : BitVec 32) (h : ¬ (x.toNat : Int) % 2 = 1) : (x.toNat : Int) / 2 = ((Crc.step x).toNat : Int) := by
  have hs : (x >>> 1).toNat = x.toNat / 2 := by rw [BitVec.toNat_ushiftRight, Nat.shiftRight_eq_div_pow]
  have h0 : x.getLsbD 0 = false := by
    rw [BitVec.getLsbD, Nat.testBit_zero]; simp; omega
  unfold Crc.step
  rw [h0]
  simp [hs]

set_option maxHeartbeats 400000 in
theorem refTake_any (z y : Int) (x : BitVec 32) (v : UInt8) (hz : z = (x.toNat : Int)) (hy : y = (v.toNat : Int)) (w : World) :
    Calls Tryd.prog 31 #[.int .u32 z, .int .u8 y] w fun e w' => e = .returned (.int .u32 ((Crc.take x v).toNat : Int)) ∧ w = w' := by
  subst hz hy
  have hv := v.toNat_lt
  have HW := Lib.hid (u32_word v x)
  go_enter Tryd.func31, Tryd.ntmps31
  go_wp2
  go_loop [0, 5] (fun y j => ∃ m : Nat, m ≤ 8 ∧ j = .int .i64 m ∧ y = .int .u32 ((Crc.stepN m (x ^^^ Crc.word v)).toNat : Int)) (fun _ j => 8 - (intOf j).toNat)
  case atStart => exact ⟨0, by omega, rfl, int_eq (by rw [HW.out]; rfl)⟩
  case round =>
    obtain ⟨m, hm, rfl, rfl⟩ := hrel
    generalize hy : Crc.stepN m (x ^^^ Crc.word v) = y
    have HY := Lib.hid hy
    clear hy
    have HS1 := Lib.hid (u32_step_odd y)
    have HS2 := Lib.hid (u32_step_even y)
    by_cases hm8 : m < 8
    · by_cases ho : (y.toNat : Int) % 2 = 1
      · have ho' : ((y.toNat : Int) % 2 == 1) = true := by simp [ho]
        have HO := Lib.hid ho
        clear ho
        go_wp2
        go_round
        case rel => exact ⟨m + 1, by omega, by go_num, int_eq (by rw [HS1.out HO.out, ← HY.out]; rfl)⟩
        case measure => simp [intOf]; omega
      · have ho' : ((y.toNat : Int) % 2 == 1) = false := by simp; omega
        have HO := Lib.hid ho
        clear ho
        go_wp2
        go_round
        case rel => exact ⟨m + 1, by omega, by go_num, int_eq (by rw [HS2.out HO.out, ← HY.out]; rfl)⟩
        case measure => simp [intOf]; omega
    · obtain rfl : m = 8 := by omega
      go_wp2
      go_ret
      exact ⟨ret_int (by rw [← HY.out]; rfl), rfl⟩

set_option maxHeartbeats 400000 in
theorem refMore_any (z : Int) (s : BitVec 32) (hz : z = (s.toNat : Int)) (B : Nat) (A : Option Addr) (n c : Nat) (bs : List UInt8) (w : World) (hr : Sl w B 1 A n c (bs.map byteV)) :
    Calls Tryd.prog 26 #[.int .u32 z, .slice A n c] w fun e w' => e = .returned (.int .u32 ((Crc.more s bs).toNat : Int)) ∧ w = w' := by
  have hlen := hr.lenB
  have hnc := hr.nc
  have hcm := hr.cm
  have Hfin : Hid (Crc.more s bs = ~~~ Crc.run (~~~ s) (bs.take n)) := by
    show _ = _
    rw [← hlen, List.take_length]; rfl
  have HN := Lib.hid (u32_not s)
  have Hz := Lib.hid hz
  clear hlen hz
  go_enter Tryd.func26, Tryd.ntmps26
  go_wp2
  go_loop [5, 6] (fun v i => ∃ k : Nat, k ≤ n ∧ i = .int .i64 k ∧ v = .int .u32 ((Crc.run (~~~ s) (bs.take k)).toNat : Int)) (fun _ i => n - (intOf i).toNat)
  case atStart => exact ⟨0, Nat.zero_le _, rfl, int_eq (by rw [Hz.out, HN.out]; rfl)⟩
  case round =>
    obtain ⟨k, hk, rfl, rfl⟩ := hrel
    by_cases hlt : k < n
    · obtain ⟨b, off, v, rfl, _, hv, hcell, hv256⟩ := hr.byte hlt
      have Hv := Lib.hid hv
      clear hv
      generalize hx : Crc.run (~~~ s) (bs.take k) = x
      have HX := Lib.hid hx
      clear hx
      go_wp2_with (go_at_call 31; refine (refTake_any _ _ x v rfl rfl _).mono ?_; rintro e w' ⟨rfl, rfl⟩)
      go_round
      case rel => exact ⟨k + 1, by omega, by go_num, int_eq (by rw [crc_take_succ Hv.out, HX.out]; rfl)⟩
      case measure => simp [intOf]; omega
    · obtain rfl : k = n := by omega
      go_wp2_with (fail)
      go_ret
      exact ⟨ret_int (by rw [u32_not, Hfin.out]), rfl⟩

theorem refSum02_any (B : Nat) (A : Option Addr) (n c : Nat) (bs : List UInt8) (w : World) (hr : Sl w B 1 A n c (bs.map byteV)) :
    Calls Tryd.prog 17 #[.slice A n c] w fun e w' => e = .returned (.int .u32 ((Crc.sum bs).toNat : Int)) ∧ w = w' := by
  go_enter Tryd.func17, Tryd.ntmps17
  go_wp2_with (go_at_call 26; refine (refMore_any 0 0#32 rfl B A n c bs _ hr).mono ?_; rintro e w' ⟨rfl, rfl⟩)
  go_ret
  exact ⟨rfl, rfl⟩

set_option maxHeartbeats 400000 in
theorem refRight_any (B : Nat) (A : Option Addr) (n c : Nat) (bs : List UInt8) (w : World) (hr : Sl w B 1 A n c (bs.map byteV)) :
    Calls Tryd.prog 22 #[.slice A n c] w fun e w' => e = .returned (.bool (Crc.right bs)) ∧ ∃ q, w' = w.drewN q := by
  have hnc := hr.nc
  have hcm := hr.cm
  have hlen := hr.lenB
  by_cases h4 : n < 4
  · have Hf := Lib.hid (Crc.right_short (l := bs) (by omega))
    clear hlen
    go_enter Tryd.func22, Tryd.ntmps22
    go_wp2_with fail
    go_ret
    exact ⟨ret_bool Hf.out.symm, 0, rfl⟩
  · obtain ⟨m, rfl⟩ : ∃ m, n = m + 4 := ⟨n - 4, by omega⟩
    obtain ⟨b, off, v0, rfl, _, hv0, hc0, hl0⟩ := hr.byte (k := m) (by omega)
    obtain ⟨_, _, v1, hA1, _, hv1, hc1, hl1⟩ := hr.byte (k := m + 1) (by omega)
    obtain ⟨_, _, v2, hA2, _, hv2, hc2, hl2⟩ := hr.byte (k := m + 2) (by omega)
    obtain ⟨_, _, v3, hA3, _, hv3, hc3, hl3⟩ := hr.byte (k := m + 3) (by omega)
    cases hA1; cases hA2; cases hA3
    have Hs := hr.take_ (k := m) (by omega)
    have Hp := Lib.hid (Crc.right_parts hlen hv0 hv1 hv2 hv3)
    clear hr hv0 hv1 hv2 hv3 hlen
    go_enter Tryd.func22, Tryd.ntmps22
    go_wp2_with fail
    go_quiet ((go_at_call 17; exact Calls.quiet_of_same ((refSum02_any B _ m _ (bs.take m) _ (by simpa using Hs.drewN _)).mono fun e w' h => ⟨h.1, h.2.symm⟩)))
    go_wp2_with fail
    go_ret
    exact ⟨ret_bool (by rw [u32_le, toNat_beq, Hp.out]), _, rfl⟩


end Go.Proofs.YtbfcfhfnkpklkaaDoor

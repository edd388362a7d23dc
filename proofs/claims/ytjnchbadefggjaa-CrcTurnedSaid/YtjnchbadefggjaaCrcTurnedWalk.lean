/-
  CrcTurned, walked: whatever the bytes, the place and the bits, the law returns true and writes nothing that was there.
-/
import Derived.Test.YtjnchbadefggjaaCrcWalks
import Derived.Deep.DeepCutAuto
import Derived.Deep.CutBlock
namespace Go.Proofs.Ytjnchbadefggjaa
open Go.RowKit Go.Gab
set_option linter.unusedVariables false

theorem u32_of_wf' {z : Int} (h : (Lit.int .u32 z).wf = true) : ∃ s : BitVec 32, z = (s.toNat : Int) := by
  have h2 : 0 ≤ z ∧ z ≤ 4294967295 := by
    simp [Lit.wf, IntKind.min, IntKind.max, IntKind.signed, IntKind.bits] at h
    simpa using h
  refine ⟨BitVec.ofNat 32 z.toNat, ?_⟩
  rw [BitVec.toNat_ofNat, Nat.mod_eq_of_lt (by omega)]
  omega
theorem u16_of_wf {z : Int} (h : (Lit.int .u16 z).wf = true) : ∃ s : Nat, s < 65536 ∧ z = (s : Int) := by
  have h2 : 0 ≤ z ∧ z ≤ 65535 := by
    simp [Lit.wf, IntKind.min, IntKind.max, IntKind.signed, IntKind.bits] at h
    simpa using h
  exact ⟨z.toNat, by omega, by omega⟩

theorem u32_bit (v : BitVec 32) (k : Nat) (hk : k < 32) : (bits .and .u32 ((v.toNat : Int) / 2 ^ k) 1 == 1) = v.getLsbD k := by
  have hv := v.isLt
  have h0 : ((v.toNat : Int) / 2 ^ k) = ((v.toNat / 2 ^ k : Nat) : Int) := by rw [Int.natCast_ediv]; simp
  have hlt : v.toNat / 2 ^ k < 4294967296 := Nat.lt_of_le_of_lt (Nat.div_le_self _ _) hv
  have h1 := u32_and_nat (v.toNat / 2 ^ k) 1 hlt (by omega)
  rw [show ((1 : Nat) : Int) = 1 from rfl] at h1
  rw [h0, h1, Nat.and_one_is_mod, BitVec.getLsbD, Nat.testBit_eq_decide_div_mod_eq]
  generalize v.toNat / 2 ^ k % 2 = m
  by_cases h : m = 1
  · subst h; rfl
  · have : ¬ (m : Int) = 1 := by omega
    simp only [h, decide_false]
    exact beq_eq_false_iff_ne.2 this
theorem u8_flip (v : UInt8) (j : Nat) (hj : j < 8) : bits .xor .u8 (v.toNat : Int) (2 ^ j % 256) = ((v ^^^ (1 <<< (UInt8.ofNat j))).toNat : Int) := by
  have e : ((2 : Int) ^ j % (256 : Int)) = (((1 <<< (UInt8.ofNat j) : UInt8)).toNat : Int) := by
    have : ∀ j : Fin 8, ((2 : Int) ^ j.val % (256 : Int)) = (((1 <<< (UInt8.ofNat j.val) : UInt8)).toNat : Int) := by decide
    exact this ⟨j, hj⟩
  rw [e, u8_xorB]
theorem u32_zero (v : BitVec 32) : (decide (v = 0#32) == ((v.toNat : Int) == 0)) = true := by
  by_cases h : v = 0#32
  · subst h; rfl
  · have h1 : ¬ v.toNat = 0 := fun e => h (BitVec.eq_of_toNat_eq (by simpa using e))
    have h2 : ¬ (v.toNat : Int) = 0 := by omega
    have h3 : ((v.toNat : Int) == 0) = false := beq_eq_false_iff_ne.2 h2
    simp [h, h3]

set_option maxHeartbeats 1000000 in
theorem crcTurned_walk {a : Option Addr} {n c : Nat} {bs : List UInt8} {y z : Int} (W : World) (hr : Sl W W.heap.size 1 a n c (bs.map byteV)) (hy : (Lit.int .u16 y).wf = true) (hz : (Lit.int .u32 z).wf = true) :
    Calls Try.prog 6 #[.slice a n c, .int .u16 y, .int .u32 z] W fun e w' => e = .returned (.bool true) ∧ Below W.heap.size W w' := by
  obtain ⟨v, rfl⟩ := u32_of_wf' hz
  obtain ⟨q, hq, rfl⟩ := u16_of_wf hy
  clear hy hz
  have hnc := hr.nc
  have hcm := hr.cm
  have hlen := hr.lenB
  by_cases hv : (8192 : Int) < n
  · have hv' : decide ((8192 : Int) < n) = true := by simpa using hv
    clear hlen
    go_enter Try.func6, Try.ntmps6
    go_wp2_with (first | (go_at_call 14; refine (vast02_any _ _ _ _ (by omega)).mono ?_; rintro e w' ⟨rfl, rfl⟩) | (go_at_call 15; refine (works02_any _).mono ?_; rintro e w' ⟨rfl, hb⟩))
    go_ret
    exact ⟨rfl, hb⟩
  · have hv' : decide ((8192 : Int) < n) = false := by simpa using hv
    have Hlen := Lib.hid hlen
    clear hlen
    obtain ⟨i0, hi0, hz0, hz1, hz2⟩ := info_parts Try.infoB
    go_enter Try.func6, Try.ntmps6
    go_wp2_with (go_at_call 14; refine (vast02_any _ _ _ _ (by omega)).mono ?_; rintro e w' ⟨rfl, rfl⟩)
    refine (crcSum_any _ _ _ _ bs _ hr).mono ?_
    rintro e w' ⟨rfl, rfl⟩
    generalize hs : Crc.sum bs = s
    have Hs := Lib.hid hs
    clear hs
    have hsl := s.isLt
    obtain ⟨b0, hb0, e0⟩ : ∃ b : UInt8, b = Crc.byteOf s 0 ∧ (s.toNat : Int) % 256 = (b.toNat : Int) := ⟨_, rfl, by rw [Crc.byteOf_toNat]; omega⟩
    obtain ⟨b1, hb1, e1⟩ : ∃ b : UInt8, b = Crc.byteOf s 1 ∧ (s.toNat : Int) / 256 % 256 = (b.toNat : Int) := ⟨_, rfl, by rw [Crc.byteOf_toNat]; omega⟩
    obtain ⟨b2, hb2, e2⟩ : ∃ b : UInt8, b = Crc.byteOf s 2 ∧ (s.toNat : Int) / 65536 % 256 = (b.toNat : Int) := ⟨_, rfl, by rw [Crc.byteOf_toNat]; omega⟩
    obtain ⟨b3, hb3, e3⟩ : ∃ b : UInt8, b = Crc.byteOf s 3 ∧ (s.toNat : Int) / 16777216 = (b.toNat : Int) := ⟨_, rfl, by rw [Crc.byteOf_toNat]; omega⟩
    have Hle := Lib.hid (show Crc.le b0 b1 b2 b3 = s by rw [hb0, hb1, hb2, hb3]; exact Crc.le_byteOf s)
    clear hb0 hb1 hb2 hb3
    go_wp2_with fail
    refine (copied02_any _ _ _ _ _ _ hr (Nat.le_refl _) (by omega)).mono ?_
    rintro e w1 ⟨A1, c1, rfl, hown1, hb1⟩
    rw [Hlen.out] at hown1 ⊢
    go_wp2_with (at_builtin
                 go_loud (refine wpList_append_any _ rfl _ _ _ rfl W.heap.size 5 i0 _ 1 1 Try.underlying22 hi0 hz0 hz1 hz2 rfl (by omega) _ _ _ rfl (hown1.alloc _) (w1.heap.size + 1) (some ⟨w1.heap.size, 0, none⟩) 4 4 ([b0, b1, b2, b3].map byteV) rfl (by exact (Sl.lit (k := 4) (cap := 4) _ _ _ _ _ _ rfl rfl rfl (by omega) (by omega)).rd) (byteV_one _) (by simp only [maxLen]; omega) (by omega) (by have := hb1.size; simp; omega) ?_)
                 intro v2 w2 hown2 hg2 hat2)
    have hb2 : Below W.heap.size W w2 := (hb1.alloc hb1.size _).grown hg2 (by have := hb1.size; simp; omega) (fun q hq => (hown1.lt q hq).1)
    obtain ⟨A2, c2, rfl⟩ := own_slice hown2
    clear hown1 hb1 hg2 hat2 e0 e1 e2 e3 hi0 hz0 hz1 hz2
    rw [← List.map_append] at hown2
    have HR := Lib.hid (show Crc.right (bs ++ [b0, b1, b2, b3]) = true by rw [Crc.right_append, Hle.out, Hs.out]; simp)
    have hlen2 : (bs ++ [b0, b1, b2, b3]).length = n + 4 := by simp [Hlen.out]
    obtain ⟨f, hf, hf2⟩ : ∃ f : Nat, (q : Int) % (8 * ((n : Int) + 4) - 31) = (f : Int) ∧ f + 32 ≤ 8 * (n + 4) := by
      have h1 := Int.emod_nonneg (q : Int) (show (8 * ((n : Int) + 4) - 31) ≠ 0 by omega)
      have h2 := Int.emod_lt_of_pos (q : Int) (show 0 < (8 * ((n : Int) + 4) - 31) by omega)
      exact ⟨((q : Int) % (8 * ((n : Int) + 4) - 31)).toNat, by omega, by omega⟩
    generalize bs ++ [b0, b1, b2, b3] = al at hown2 HR hlen2
    have Hlen2 := Lib.hid hlen2
    clear hlen2
    have hs2 := Sl.of_own hown2
    go_wp2_with fail
    refine (crcRight_any _ _ _ _ al _ hs2).mono ?_
    rintro e w' ⟨rfl, rfl⟩
    rw [HR.out]
    go_wp2_with fail
    go_loopw [10] (fun i wr => ∃ k : Nat, k ≤ 32 ∧ i = .int .i64 k ∧ wr.ownsRow W.heap.size 5 1 (.slice A2 (n + 4) c2) (n + 4) ((Crc.turn f v k al).map byteV) ∧ Below W.heap.size W wr) (fun i _ => 32 - (intOf i).toNat)
    case atStart => exact ⟨0, by omega, rfl, hown2, hb2⟩
    case round =>
      clear hown2 hb2 hs2
      obtain ⟨k, hk, rfl, hown, hbel⟩ := hrel
      by_cases hk32 : k < 32
      · obtain ⟨g, cap, hA, hg, hgl⟩ := hown.form (by omega)
        injection hA with hA1 _ hA2
        subst hA1 hA2
        have hsd := Sl.of_own hown
        obtain ⟨_, _, v0, hA0, hb0, hv0, hcell0, hu0⟩ := hsd.byte (k := (f + k) / 8) (by omega)
        cases hA0
        have hfz := hown.frozenAt ((f + k) / 8)
        simp only [Nat.zero_add] at hcell0
        have HO := Lib.hid hown
        have HV := Lib.hid hv0
        clear hown hv0 hsd
        go_wp2_with fail
        · have ht : (bits .and .u32 ((v.toNat : Int) / 2 ^ k) 1 == 1) = true := by assumption
          rw [u32_bit v k hk32] at ht
          rw [u8_flip v0 ((f + k) % 8) (Nat.mod_lt _ (by omega))]
          go_roundw
          case rel =>
            have h := HO.out.stored ((f + k) / 8) (byteV (v0 ^^^ (1 <<< (UInt8.ofNat ((f + k) % 8)))))
            rw [← List.map_set] at h
            refine ⟨k + 1, by omega, by go_num, ?_, hbel.grown h.2 (by have := hbel.size; omega) (by intro q hq; cases hq; omega)⟩
            have e : Crc.turn f v (k + 1) al = (Crc.turn f v k al).set ((f + k) / 8) (v0 ^^^ (1 <<< (UInt8.ofNat ((f + k) % 8)))) := by
              simp only [Crc.turn, ht, if_true, Crc.flip, List.getD_eq_getElem?_getD, HV.out, Option.getD_some]
            rw [e]
            exact h.1
          case measure => simp [intOf]; omega
        · have ht : (bits .and .u32 ((v.toNat : Int) / 2 ^ k) 1 == 1) = false := by assumption
          rw [u32_bit v k hk32] at ht
          go_roundw
          case rel =>
            refine ⟨k + 1, by omega, by go_num, ?_, hbel⟩
            simp only [Crc.turn, ht]
            exact HO.out
          case measure => simp [intOf]; omega
      · obtain rfl : k = 32 := by omega
        have hs3 := Sl.of_own hown
        have HT := Lib.hid (Crc.right_turn HR.out (by rw [Hlen2.out]; omega) f v (by rw [Hlen2.out]; exact hf2))
        have HZ := u32_zero v
        clear hown
        go_wp2_with fail
        refine (crcRight_any _ _ _ _ _ _ hs3).mono ?_
        rintro e w' ⟨rfl, rfl⟩
        rw [HT.out]
        go_wp2_with fail
        refine (works02_any _).mono ?_
        rintro e w' ⟨rfl, hb⟩
        go_wp2_with fail
        go_ret
        exact ⟨rfl, hbel.trans (hb.mono hbel.size)⟩

end Go.Proofs.Ytjnchbadefggjaa

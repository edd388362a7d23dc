/-
  CrcAdds, walked: whatever three byte strings, the law returns true and writes nothing that was there.
-/
import Derived.Test.YtjnchbadefggjaaCrcWalks
import Derived.StillTailTactics
namespace Go.Proofs.Ytjnchbadefggjaa
open Go.RowKit Go.Gab
set_option linter.unusedVariables false

/-- Three strings cut to one length. -/
def crcMix (n : Nat) (x y z : List UInt8) : List UInt8 := List.zipWith (· ^^^ ·) (List.zipWith (· ^^^ ·) (x.take n) (y.take n)) (z.take n)

theorem crcMix_len {n : Nat} {x y z : List UInt8} (hx : n ≤ x.length) (hy : n ≤ y.length) (hz : n ≤ z.length) : (crcMix n x y z).length = n := by
  simp [crcMix]; omega

theorem crcMix_at {n k : Nat} {x y z : List UInt8} {a b c : UInt8} (hk : k < n) (hx : x[k]? = some a) (hy : y[k]? = some b) (hz : z[k]? = some c) : (crcMix n x y z)[k]? = some (a ^^^ b ^^^ c) := by
  unfold crcMix
  rw [List.getElem?_zipWith, List.getElem?_zipWith, List.getElem?_take_of_lt hk, List.getElem?_take_of_lt hk, List.getElem?_take_of_lt hk, hx, hy, hz]

theorem crcMix_of {n : Nat} {x y z ds : List UInt8} (hl : ds.length = n) (h : ∀ j, j < n → ds[j]? = (crcMix n x y z)[j]?) (hx : n ≤ x.length) (hy : n ≤ y.length) (hz : n ≤ z.length) : ds = crcMix n x y z := by
  apply List.ext_getElem?
  intro j
  by_cases hj : j < n
  · exact h j hj
  · rw [List.getElem?_eq_none (by omega), List.getElem?_eq_none (by rw [crcMix_len hx hy hz]; omega)]

theorem crcMix_sum {n : Nat} {x y z : List UInt8} (hx : n ≤ x.length) (hy : n ≤ y.length) (hz : n ≤ z.length) :
    (bits .xor .u32 (bits .xor .u32 ((Crc.sum (x.take n)).toNat : Int) ((Crc.sum (y.take n)).toNat : Int)) ((Crc.sum (z.take n)).toNat : Int) == ((Crc.sum (crcMix n x y z)).toNat : Int)) = true := by
  rw [u32_xor_nat _ _ (BitVec.isLt _) (BitVec.isLt _), ← BitVec.toNat_xor, u32_xor_nat _ _ (BitVec.isLt _) (BitVec.isLt _), ← BitVec.toNat_xor]
  have := Crc.sum_xor3 (x.take n) (y.take n) (z.take n) (by simp; omega) (by simp; omega)
  rw [this]
  simp [crcMix]

set_option maxHeartbeats 1000000 in
theorem crcAdds_walk {a0 a1 a2 : Option Addr} {n0 n1 n2 c0 c1 c2 : Nat} {x y z : List UInt8} (W : World) (h0 : Sl W W.heap.size 1 a0 n0 c0 (x.map byteV)) (h1 : Sl W W.heap.size 1 a1 n1 c1 (y.map byteV)) (h2 : Sl W W.heap.size 1 a2 n2 c2 (z.map byteV)) :
    Calls Try.prog 5 #[.slice a0 n0 c0, .slice a1 n1 c1, .slice a2 n2 c2] W fun e w' => e = .returned (.bool true) ∧ Below W.heap.size W w' := by
  have hnc0 := h0.nc
  have hnc1 := h1.nc
  have hnc2 := h2.nc
  have hcm0 := h0.cm
  have hcm1 := h1.cm
  have hcm2 := h2.cm
  obtain ⟨i0, hi0, hz0, hz1, hz2⟩ := info_parts Try.infoB
  obtain ⟨n, hmin, hl0, hl1, hl2, hle⟩ : ∃ n : Nat, (if (n2 : Int) < (if n1 < n0 then (n1 : Int) else (n0 : Int)) then (n2 : Int) else if n1 < n0 then (n1 : Int) else (n0 : Int)) = (n : Int) ∧ n ≤ n0 ∧ n ≤ n1 ∧ n ≤ n2 ∧ (n = n0 ∨ n = n1 ∨ n = n2) := by
    by_cases e1 : n1 < n0
    · by_cases e2 : n2 < n1
      · refine ⟨n2, ?_, ?_⟩
        · simp [e1, e2]
        · omega
      · refine ⟨n1, ?_, ?_⟩
        · simp [e1]; omega
        · omega
    · by_cases e2 : n2 < n0
      · refine ⟨n2, ?_, ?_⟩
        · simp [e1, e2]
        · omega
      · refine ⟨n0, ?_, ?_⟩
        · simp [e1]; omega
        · omega
  clear hle
  by_cases hv : (8192 : Int) < n
  · go_enter Try.func5, Try.ntmps5
    go_wp2_with (go_at_call 15; refine (works02_any _).mono ?_; rintro e w' ⟨rfl, hb⟩)
    go_ret
    exact ⟨rfl, hb⟩
  · have hmk := run_make_bytes Try.underlying22 hi0 hz0 hz1 hz2 n (by omega)
    clear hi0 hz0 hz1 hz2
    go_enter Try.func5, Try.ntmps5
    go_wp2_with fail
    go_loopw [9] (fun i wr => ∃ (k : Nat) (ds : List UInt8), k ≤ n ∧ i = .int .i64 k ∧ Blk wr W.heap.size 5 (bytesA ds) ∧ ds.length = n ∧ (∀ j, j < k → ds[j]? = (crcMix n x y z)[j]?) ∧ Below W.heap.size W wr) (fun i _ => n - (intOf i).toNat)
    case atStart => exact ⟨0, List.replicate n 0, Nat.zero_le _, rfl, Blk.new _ _ _, by simp, fun j hj => absurd hj (by omega), (Below.refl _ _).alloc (Nat.le_refl _) _⟩
    case round =>
      obtain ⟨k, ds, hk, rfl, hblk, hdl, hds, hbel⟩ := hrel
      have Hdl := Lib.hid hdl
      have Hds := Lib.hid hds
      clear hdl hds
      by_cases hlt : k < n
      · obtain ⟨b0, o0, v0, rfl, hb0, hv0, hcell0, hu0⟩ := (h0.below hbel).byte (k := k) (by omega)
        obtain ⟨b1, o1, v1, rfl, hb1, hv1, hcell1, hu1⟩ := (h1.below hbel).byte (k := k) (by omega)
        obtain ⟨b2, o2, v2, rfl, hb2, hv2, hcell2, hu2⟩ := (h2.below hbel).byte (k := k) (by omega)
        have hfz := hblk.frozen k
        have hcell3 := hblk.byte (i := k) (v := ds.getD k 0) (by rw [List.getD_eq_getElem?_getD, List.getElem?_eq_getElem (by rw [Hdl.out]; exact hlt)]; rfl)
        have HB := Lib.hid hblk
        have HV := Lib.hid (And.intro hv0 (And.intro hv1 hv2))
        clear hblk hv0 hv1 hv2
        generalize ds.getD k 0 = vo at hcell3
        go_wp2_with fail
        go_region
        go_wp2_with fail
        rw [u8_xorB, u8_xorB]
        go_roundw
        case rel =>
          refine ⟨k + 1, ds.set k (v0 ^^^ v1 ^^^ v2), by omega, by go_num, (HB.out.setByte k _).drew, by rw [List.length_set]; exact Hdl.out, fun j hj => ?_, ?_⟩
          · by_cases hjk : j = k
            · subst hjk
              rw [List.getElem?_set_self (by rw [Hdl.out]; exact hlt)]
              exact (crcMix_at hlt HV.out.1 HV.out.2.1 HV.out.2.2).symm
            · rw [List.getElem?_set_ne (by omega)]
              exact Hds.out j (by omega)
          · exact (hbel.setCell (Nat.le_refl _) _).drew
        case measure => simp [intOf]; omega
      · obtain rfl : k = n := by omega
        have hmix : ds = crcMix k x y z := crcMix_of Hdl.out Hds.out (by have := h0.lenB; omega) (by have := h1.lenB; omega) (by have := h2.lenB; omega)
        subst hmix
        have hs0 := ((h0.below hbel).take_ (k := k) hl0).drew
        have hs1 := ((h1.below hbel).take_ (k := k) hl1).drew
        have hs2 := ((h2.below hbel).take_ (k := k) hl2).drew
        have hs3 := (hblk.sl Hdl.out.symm (Nat.le_refl _) (by omega)).drew
        simp only [Nat.mul_one, ← List.map_take] at hs0 hs1 hs2
        have Hx := Lib.hid (crcMix_sum (n := k) (x := x) (y := y) (z := z) (by have := h0.lenB; omega) (by have := h1.lenB; omega) (by have := h2.lenB; omega))
        have hkc0 : k ≤ c0 := by omega
        have hkc1 : k ≤ c1 := by omega
        have hkc2 : k ≤ c2 := by omega
        clear hblk Hds Hdl hmin
        go_wp2_with fail
        refine wp_region_still_tail 18 (by kernel_rfl) (by kernel_rfl) ?_
        simp only [List.take_succ_cons, List.take_zero, List.drop_succ_cons, List.drop_zero]
        repeat still_step
        still_call ((crcSum_any _ _ _ _ (x.take k) _ hs0).mono fun e w' h => ⟨h.1, h.2.symm⟩)
        repeat still_step
        still_call ((crcSum_any _ _ _ _ (y.take k) _ hs1).mono fun e w' h => ⟨h.1, h.2.symm⟩)
        repeat still_step
        still_call ((crcSum_any _ _ _ _ (z.take k) _ hs2).mono fun e w' h => ⟨h.1, h.2.symm⟩)
        repeat still_step
        still_call ((crcSum_any _ _ _ _ (crcMix k x y z) _ hs3).mono fun e w' h => ⟨h.1, h.2.symm⟩)
        repeat still_step
        refine wpStill_nil ?_
        rw [Hx.out]
        change wpList _ _ _ _ _ wr.drew
        go_wp2_with (go_at_call 15; refine (works02_any _).mono ?_; rintro e w' ⟨rfl, hb⟩)
        go_ret
        exact ⟨rfl, hbel.drew.trans (hb.mono hbel.size)⟩

end Go.Proofs.Ytjnchbadefggjaa

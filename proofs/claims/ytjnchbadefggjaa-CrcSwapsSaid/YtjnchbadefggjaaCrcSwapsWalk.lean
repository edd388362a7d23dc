/-
  CrcSwaps, walked: whatever the four byte strings, the law returns true and writes nothing that was there.
-/
import Derived.Test.YtjnchbadefggjaaCrcWalks
import Derived.StillTailTactics
import Derived.Deep.DeepCutAuto
import Derived.Deep.CutBlock
namespace Go.Proofs.Ytjnchbadefggjaa
open Go.RowKit Go.Gab
set_option linter.unusedVariables false

theorem swaps_1 (a c b d : List UInt8) (h : b.length = d.length) :
    (bits .xor .u32 ((Crc.sum (a ++ b)).toNat : Int) ((Crc.sum (c ++ b)).toNat : Int) == bits .xor .u32 ((Crc.sum (a ++ d)).toNat : Int) ((Crc.sum (c ++ d)).toNat : Int)) = true := by
  rw [u32_xor_nat _ _ (BitVec.isLt _) (BitVec.isLt _), u32_xor_nat _ _ (BitVec.isLt _) (BitVec.isLt _), ← BitVec.toNat_xor, ← BitVec.toNat_xor, Crc.swaps a c b d h]
  simp
theorem swaps_2 (a c b : List UInt8) : ((((Crc.sum a).toNat : Int) == ((Crc.sum c).toNat : Int)) == (((Crc.sum (a ++ b)).toNat : Int) == ((Crc.sum (c ++ b)).toNat : Int))) = true := by
  rw [toNat_beq, toNat_beq]
  have := Crc.swaps_same a c b
  by_cases h : Crc.sum a = Crc.sum c
  · simp [h, this.2 h]
  · have h2 : ¬ Crc.sum (a ++ b) = Crc.sum (c ++ b) := fun e => h (this.1 e)
    simp [h, h2]

set_option maxHeartbeats 1000000 in
theorem crcSwaps_walk {a0 a1 a2 a3 : Option Addr} {n0 n1 n2 n3 c0 c1 c2 c3 : Nat} {x y z v : List UInt8} (W : World) (h0 : Sl W W.heap.size 1 a0 n0 c0 (x.map byteV)) (h1 : Sl W W.heap.size 1 a1 n1 c1 (y.map byteV)) (h2 : Sl W W.heap.size 1 a2 n2 c2 (z.map byteV)) (h3 : Sl W W.heap.size 1 a3 n3 c3 (v.map byteV)) :
    Calls Try.prog 7 #[.slice a0 n0 c0, .slice a1 n1 c1, .slice a2 n2 c2, .slice a3 n3 c3] W fun e w' => e = .returned (.bool true) ∧ Below W.heap.size W w' := by
  have hnc0 := h0.nc
  have hnc1 := h1.nc
  have hnc2 := h2.nc
  have hnc3 := h3.nc
  have hcm0 := h0.cm
  have hcm1 := h1.cm
  have hcm2 := h2.cm
  have hcm3 := h3.cm
  by_cases hv : (8192 : Int) < n0 ∨ (8192 : Int) < n2 ∨ (8192 : Int) < n1 ∨ (8192 : Int) < n3
  · have key : ∀ b0 b1 b2 b3, decide ((8192 : Int) < n0) = b0 → decide ((8192 : Int) < n2) = b1 → decide ((8192 : Int) < n1) = b2 → decide ((8192 : Int) < n3) = b3 → (b0 || b1 || b2 || b3) = true →
        Calls Try.prog 7 #[.slice a0 n0 c0, .slice a1 n1 c1, .slice a2 n2 c2, .slice a3 n3 c3] W fun e w' => e = .returned (.bool true) ∧ Below W.heap.size W w' := by
      intro b0 b1 b2 b3 e0 e1 e2 e3 hb
      cases b0 <;> cases b1 <;> cases b2 <;> cases b3 <;> simp at hb <;>
        (go_enter Try.func7, Try.ntmps7
         go_wp2_with (first | (go_at_call 14; refine (vast02_any _ _ _ _ (by omega)).mono ?_; rintro e w' ⟨rfl, rfl⟩) | (go_at_call 15; refine (works02_any _).mono ?_; rintro e w' ⟨rfl, hb⟩))
         go_ret
         exact ⟨rfl, hb⟩)
    exact key _ _ _ _ rfl rfl rfl rfl (by simpa [Bool.or_assoc, or_assoc] using hv)
  · have hv0 : ¬ (8192 : Int) < n0 := by omega
    have hv1 : ¬ (8192 : Int) < n1 := by omega
    have hv2 : ¬ (8192 : Int) < n2 := by omega
    have hv3 : ¬ (8192 : Int) < n3 := by omega
    have e0 : decide ((8192 : Int) < n0) = false := by simpa using hv0
    have e1 : decide ((8192 : Int) < n1) = false := by simpa using hv1
    have e2 : decide ((8192 : Int) < n2) = false := by simpa using hv2
    have e3 : decide ((8192 : Int) < n3) = false := by simpa using hv3
    clear hv
    obtain ⟨i0, hi0, hz0, hz1, hz2⟩ := info_parts Try.infoB
    have L0 := Lib.hid h0.lenB
    have L2 := Lib.hid h2.lenB
    go_enter Try.func7, Try.ntmps7
    go_wp2_with (go_at_call 14; refine (vast02_any _ _ _ _ (by omega)).mono ?_; rintro e w' ⟨rfl, rfl⟩)
    refine (copied02_any _ _ _ _ x _ h0 (Nat.le_refl _) (by omega)).mono ?_
    rintro e w1 ⟨A1, d1, rfl, hown1, hb1⟩
    rw [L0.out] at hown1 ⊢
    go_upto_block 0 with (fail)
    go_cut [] (fun wr => ∃ (ds : List UInt8), wr.ownsRow W.heap.size 5 1 (.slice A1 n0 d1) n0 (ds.map byteV) ∧ Below W.heap.size W wr)
    case first =>
      go_wp2_with fail
      go_loopw [10] (fun i wr => ∃ (k : Nat) (ds : List UInt8), k ≤ n0 ∧ i = .int .i64 k ∧ wr.ownsRow W.heap.size 5 1 (.slice A1 n0 d1) n0 (ds.map byteV) ∧ Below W.heap.size W wr) (fun i _ => n0 - (intOf i).toNat)
      case atStart => exact ⟨0, x, Nat.zero_le _, rfl, hown1, hb1⟩
      case round =>
        clear hown1 hb1
        obtain ⟨k, ds, hk, rfl, hown, hbel⟩ := hrel
        by_cases hlt : k < n0 ∧ k < n1
        · obtain ⟨hlt0, hlt1⟩ := hlt
          obtain ⟨g, cap, hA, hg, hgl⟩ := hown.form (by omega)
          injection hA with hA1 _ hA2
          subst hA1 hA2
          have hsd := Sl.of_own hown
          obtain ⟨b0, o0, v0, hA0, hb0, hv0, hcell0, hu0⟩ := hsd.byte (k := k) (by omega)
          cases hA0
          obtain ⟨b1, o1, v1, rfl, hb1, hv1, hcell1, hu1⟩ := (h1.below hbel).byte (k := k) (by omega)
          have hfz := hown.frozenAt k
          simp only [Nat.zero_add] at hcell0
          have HO := Lib.hid hown
          clear hown hv0 hv1 hsd
          go_wp2_with fail
          go_region
          go_wp2_with fail
          rw [u8_xorB]
          go_roundw
          case rel =>
            have h := HO.out.stored k (byteV (v0 ^^^ v1))
            rw [← List.map_set] at h
            exact ⟨k + 1, _, by omega, by go_num, h.1.drew, (hbel.grown h.2 (by have := hbel.size; omega) (by intro q hq; cases hq; omega)).drew⟩
          case measure => simp [intOf]; omega
        · have hor : ¬ k < n0 ∨ ¬ k < n1 := by omega
          by_cases hk0 : k < n0
          · have hk1 : ¬ k < n1 := by omega
            have HO := Lib.hid hown
            clear hown
            go_wp2_with fail
            go_meet
            case rel => exact ⟨ds, HO.out, hbel⟩
          · have HO := Lib.hid hown
            clear hown
            go_wp2_with fail
            go_meet
            case rel => exact ⟨ds, HO.out, hbel⟩
    case rest =>
      clear hown1 hb1
      obtain ⟨wo, rfl⟩ : ∃ wo : World, wo = wc := ⟨_, rfl⟩
      obtain ⟨ds, hown1, hb1⟩ := hcut
      have hs1 := Sl.of_own hown1
      have L1 := Lib.hid hs1.lenB
      clear hown1
      go_wp2_with fail
      refine (copied02_any _ _ _ _ z _ (h2.below hb1) hb1.size (by omega)).mono ?_
      rintro e w2 ⟨A2, d2, rfl, hown2, hb2⟩
      rw [L2.out] at hown2 ⊢
      go_upto_block 2 with (fail)
      go_cut [] (fun wr => ∃ (ds : List UInt8), wr.ownsRow wo.heap.size 5 1 (.slice A2 n2 d2) n2 (ds.map byteV) ∧ Below wo.heap.size wo wr)
      case first =>
        go_wp2_with fail
        go_loopw [12] (fun i wr => ∃ (k : Nat) (ds : List UInt8), k ≤ n2 ∧ i = .int .i64 k ∧ wr.ownsRow wo.heap.size 5 1 (.slice A2 n2 d2) n2 (ds.map byteV) ∧ Below wo.heap.size wo wr) (fun i _ => n2 - (intOf i).toNat)
        case atStart => exact ⟨0, z, Nat.zero_le _, rfl, hown2, hb2⟩
        case round =>
          clear hown2 hb2
          obtain ⟨k, es, hk, rfl, hown, hbel⟩ := hrel
          by_cases hlt : k < n2 ∧ k < n3
          · obtain ⟨hlt0, hlt1⟩ := hlt
            obtain ⟨g, cap, hA, hg, hgl⟩ := hown.form (by omega)
            injection hA with hA1 _ hA2
            subst hA1 hA2
            have hsd := Sl.of_own hown
            obtain ⟨b0, o0, v0, hA0, hb0, hv0, hcell0, hu0⟩ := hsd.byte (k := k) (by omega)
            cases hA0
            obtain ⟨b3, o3, v3', rfl, hb3, hv3', hcell3, hu3⟩ := ((h3.below hb1).below' hbel hb1.size).byte (k := k) (by omega)
            have hfz := hown.frozenAt k
            simp only [Nat.zero_add] at hcell0
            have HO := Lib.hid hown
            clear hown hv0 hv3' hsd
            go_wp2_with fail
            go_roundw
            case rel =>
              have h := HO.out.stored k (byteV v3')
              rw [← List.map_set] at h
              exact ⟨k + 1, _, by omega, by go_num, h.1, hbel.grown h.2 (by have := hbel.size; omega) (by intro q hq; cases hq; omega)⟩
            case measure => simp [intOf]; omega
          · by_cases hk0 : k < n2
            · have hk1 : ¬ k < n3 := by omega
              have HO := Lib.hid hown
              clear hown
              go_wp2_with fail
              go_meet
              case rel => exact ⟨es, HO.out, hbel⟩
            · have HO := Lib.hid hown
              clear hown
              go_wp2_with fail
              go_meet
              case rel => exact ⟨es, HO.out, hbel⟩
      case rest =>
        clear hown2 hb2
        obtain ⟨es, hown2, hb2⟩ := hcut
        have hs2 := Sl.of_own hown2
        have L3 := Lib.hid hs2.lenB
        clear hown2
        obtain ⟨wd, rfl⟩ : ∃ wd : World, wd = wc := ⟨_, rfl⟩
        have p0 := (h0.below hb1).below' hb2 hb1.size
        have p2 := (h2.below hb1).below' hb2 hb1.size
        have p1 := hs1.below' hb2 (Nat.le_refl _)
        have sz0 := hb1.size
        have sz1 := hb2.size
        go_wp2_with fail
        refine (copied02_any _ _ _ _ x _ p0 (by omega) (by omega)).mono ?_
        rintro e up ⟨Ap, dp, rfl, ownp, bp⟩
        rw [L0.out] at ownp ⊢
        go_wp2_with (at_builtin
                     refine wpList_append_any _ rfl _ _ _ rfl _ 5 i0 _ 1 1 Try.underlying22 hi0 hz0 hz1 hz2 rfl (by omega) _ _ _ rfl ownp _ a2 n2 c2 _ rfl (p2.below' bp (by omega)).rd (byteV_one z) (by simp only [maxLen]; omega) (by omega) bp.size ?_
                     intro vp zp ownp' gp atp)
        have bp' : Below wd.heap.size wd zp := bp.grown gp bp.size (fun q hq => (ownp.lt q hq).1)
        obtain ⟨Ap', dp', rfl⟩ := own_slice ownp'
        have sp := Sl.of_own ownp'
        rw [← List.map_append] at sp
        go_wp2_with fail
        refine (crcSum_any _ _ _ _ (x ++ z) _ sp).mono ?_
        rintro e w' ⟨rfl, rfl⟩
        clear ownp ownp' gp atp sp bp
        have szp := bp'.size
        have p0 := p0.below' bp' (by omega)
        have p1 := p1.below' bp' (by omega)
        have p2 := p2.below' bp' (by omega)
        have hs2 := hs2.below' bp' (by omega)
        go_wp2_with fail
        refine (copied02_any _ _ _ _ ds _ p1 (by omega) (by omega)).mono ?_
        rintro e uq ⟨Aq, dq, rfl, ownq, bq⟩
        rw [L1.out] at ownq ⊢
        go_wp2_with (at_builtin
                     refine wpList_append_any _ rfl _ _ _ rfl _ 5 i0 _ 1 1 Try.underlying22 hi0 hz0 hz1 hz2 rfl (by omega) _ _ _ rfl ownq _ a2 n2 c2 _ rfl (p2.below' bq (by omega)).rd (byteV_one z) (by simp only [maxLen]; omega) (by omega) bq.size ?_
                     intro vq zq ownq' gq atq)
        have bq' : Below zp.heap.size zp zq := bq.grown gq bq.size (fun q hq => (ownq.lt q hq).1)
        obtain ⟨Aq', dq', rfl⟩ := own_slice ownq'
        have sq := Sl.of_own ownq'
        rw [← List.map_append] at sq
        go_wp2_with fail
        refine (crcSum_any _ _ _ _ (ds ++ z) _ sq).mono ?_
        rintro e w' ⟨rfl, rfl⟩
        clear ownq ownq' gq atq sq bq
        have szq := bq'.size
        have p0 := p0.below' bq' (by omega)
        have p1 := p1.below' bq' (by omega)
        have p2 := p2.below' bq' (by omega)
        have hs2 := hs2.below' bq' (by omega)
        go_wp2_with fail
        refine (copied02_any _ _ _ _ x _ p0 (by omega) (by omega)).mono ?_
        rintro e ur ⟨Ar, dr, rfl, ownr, br⟩
        rw [L0.out] at ownr ⊢
        go_wp2_with (at_builtin
                     refine wpList_append_any _ rfl _ _ _ rfl _ 5 i0 _ 1 1 Try.underlying22 hi0 hz0 hz1 hz2 rfl (by omega) _ _ _ rfl ownr _ A2 n2 d2 _ rfl (hs2.below' br (by omega)).rd (byteV_one es) (by simp only [maxLen]; omega) (by omega) br.size ?_
                     intro vr zr ownr' gr atr)
        have br' : Below zq.heap.size zq zr := br.grown gr br.size (fun q hq => (ownr.lt q hq).1)
        obtain ⟨Ar', dr', rfl⟩ := own_slice ownr'
        have sr := Sl.of_own ownr'
        rw [← List.map_append] at sr
        go_wp2_with fail
        refine (crcSum_any _ _ _ _ (x ++ es) _ sr).mono ?_
        rintro e w' ⟨rfl, rfl⟩
        clear ownr ownr' gr atr sr br
        have szr := br'.size
        have p0 := p0.below' br' (by omega)
        have p1 := p1.below' br' (by omega)
        have p2 := p2.below' br' (by omega)
        have hs2 := hs2.below' br' (by omega)
        go_wp2_with fail
        refine (copied02_any _ _ _ _ ds _ p1 (by omega) (by omega)).mono ?_
        rintro e ut ⟨At, dt, rfl, ownt, bt⟩
        rw [L1.out] at ownt ⊢
        go_wp2_with (at_builtin
                     refine wpList_append_any _ rfl _ _ _ rfl _ 5 i0 _ 1 1 Try.underlying22 hi0 hz0 hz1 hz2 rfl (by omega) _ _ _ rfl ownt _ A2 n2 d2 _ rfl (hs2.below' bt (by omega)).rd (byteV_one es) (by simp only [maxLen]; omega) (by omega) bt.size ?_
                     intro vt zt ownt' gt att)
        have bt' : Below zr.heap.size zr zt := bt.grown gt bt.size (fun q hq => (ownt.lt q hq).1)
        obtain ⟨At', dt', rfl⟩ := own_slice ownt'
        have st := Sl.of_own ownt'
        rw [← List.map_append] at st
        go_wp2_with fail
        refine (crcSum_any _ _ _ _ (ds ++ es) _ st).mono ?_
        rintro e w' ⟨rfl, rfl⟩
        clear ownt ownt' gt att st bt
        have szt := bt'.size
        have p0 := p0.below' bt' (by omega)
        have p1 := p1.below' bt' (by omega)
        have p2 := p2.below' bt' (by omega)
        have hs2 := hs2.below' bt' (by omega)
        have E1 := swaps_1 x ds z es (by rw [L2.out, L3.out])
        have E2 := swaps_2 x ds z
        have E3 := Crc.more_sum x z
        go_wp2_with fail
        refine (crcSum_any _ _ _ _ x _ p0).mono ?_
        rintro e w' ⟨rfl, rfl⟩
        go_wp2_with fail
        refine (crcSum_any _ _ _ _ ds _ p1).mono ?_
        rintro e w' ⟨rfl, rfl⟩
        go_wp2_with fail
        refine (crcSum_any _ _ _ _ x _ p0).mono ?_
        rintro e w' ⟨rfl, rfl⟩
        go_wp2_with fail
        refine (crcMore_any _ (Crc.sum x) rfl _ _ _ _ z _ p2).mono ?_
        rintro e w' ⟨rfl, rfl⟩
        go_wp2_with fail
        refine (works02_any _).mono ?_
        rintro e w' ⟨rfl, hb⟩
        go_wp2_with fail
        go_ret
        exact ⟨rfl, hb1.trans ((hb2.mono (by omega)).trans ((bp'.mono (by omega)).trans ((bq'.mono (by omega)).trans ((br'.mono (by omega)).trans ((bt'.mono (by omega)).trans (hb.mono (by omega)))))))⟩

end Go.Proofs.Ytjnchbadefggjaa

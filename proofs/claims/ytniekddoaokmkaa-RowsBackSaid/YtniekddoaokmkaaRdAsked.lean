/-
  Layer 23 (rows): one that is remembered taken into a state, walked.
-/
import Derived.Test.YtniekddoaokmkaaRdItem
namespace Go.Proofs.Ytniekddoaokmkaa
open Go.RowKit Go.Gab Go.Sort
set_option linter.unusedVariables false
attribute [local go_sem ↓] Go.wp_at_zero Go.wp_at_succ

theorem infoAsked : (Try.prog.info? 52).map (fun i => (i.zero, i.size, i.bytes)) = some (some (.agg #[.int .u32 0, .int .u64 0, .slice none 0 0, .slice none 0 0]), 4, 64) := by kernel_rfl
theorem only_trans2 {a b c : World} {row row2 : Option Nat} (h : a.grownBy b row) (k : b.grownBy c row2) (hr : row2 = row ∨ ∀ g, row2 = some g → a.heap.size ≤ g) : a.grownBy c row :=
  ⟨k.os.trans h.os, k.tape.trans h.tape, k.output.trans h.output, Nat.le_trans h.size k.size, fun i hi hne => (k.block i (Nat.lt_of_lt_of_le hi h.size) (by
    rcases hr with rfl | hr
    · exact hne
    · intro h2
      have := hr i h2.symm
      omega)).trans (h.block i hi hne)⟩
theorem sliceRunLH {A : Option Addr} {n c p x : Nat} (hp : p + x ≤ c) (w : World) {A' : Option Addr} (hA : A' = (if c = p then A else A.map (·.add (p * 1)))) :
    (Instr.slice 40 (.slice A n c) (some (.int .i64 (p : Int))) (some (.int .i64 ((p : Int) + (x : Int)))) none).run Try.prog w = .ok (.slice A' x (c - p)) w := by
  have he : Try.prog.elem 40 = 5 := by kernel_rfl
  have hz : (sizeOf 5).run Try.prog w = .ok 1 w := by kernel_rfl
  rw [run_slice_lh (P := Try.prog) w 40 A n c (by rw [he]; exact Try.underlying40) .i64 .i64 (p : Int) ((p : Int) + (x : Int)) (by omega) (by omega) (by omega), he, hz]
  simp only [Result.andThen, sliced]
  rw [hA, show ((p : Int) + (x : Int)).toNat = p + x by omega, show ((p : Int)).toNat = p by omega, Nat.add_sub_cancel_left]
theorem sliceRunL2 {A : Option Addr} {n c p x : Nat} (hp : p + x ≤ n) (w : World) {A' : Option Addr} (hA : A' = (if c = p + x then A else A.map (·.add ((p + x) * 1)))) :
    (Instr.slice 40 (.slice A n c) (some (.int .i64 ((p : Int) + (x : Int)))) none none).run Try.prog w = .ok (.slice A' (n - (p + x)) (c - (p + x))) w := by
  have he : Try.prog.elem 40 = 5 := by kernel_rfl
  have hz : (sizeOf 5).run Try.prog w = .ok 1 w := by kernel_rfl
  rw [run_slice_l (P := Try.prog) w 40 A n c (by rw [he]; exact Try.underlying40) .i64 ((p : Int) + (x : Int)) (by omega) (by omega), he, hz]
  simp only [Result.andThen, sliced]
  rw [hA, show ((p : Int) + (x : Int)).toNat = p + x by omega]

set_option maxHeartbeats 4000000 in
set_option maxRecDepth 100000 in
theorem asked_any (B base g hk hv : Nat) (s : Rws.St) (rk0 : Rws.Rd) (v : List UInt8) (A3 A2 : Option Addr) (c3 c2 : Nat) (w : World) (hst : StIn w base g s) (hrk : RdAt w hk B rk0 A3 c3) (hrv : RdAt w hv B ⟨v, 0, false⟩ A2 c2) (hBb : B ≤ base) (hne : hk ≠ hv) (hlk : base ≤ hk) (hlv : base ≤ hv) (hcn : s.asked.length ≤ 1900000) :
    Calls Try.prog 50 #[.pointer (some ⟨g, 0, none⟩), .pointer (some ⟨hv, 0, none⟩)] w
      (ItemTo base g hk hv B A3 A2 c3 c2 (Rws.readAsked s ⟨v, 0, false⟩) rk0 ((((⟨v, 0, false⟩ : Rws.Rd).take 4).2.take 8).2.take 2).2 w) := by
  obtain ⟨⟨xa, ra⟩, ha⟩ : ∃ q, (⟨v, 0, false⟩ : Rws.Rd).take 4 = q := ⟨_, rfl⟩
  obtain ⟨⟨xb, rb⟩, hb⟩ : ∃ q, ra.take 8 = q := ⟨_, rfl⟩
  obtain ⟨⟨xc, rc⟩, hc⟩ : ∃ q, rb.take 2 = q := ⟨_, rfl⟩
  have hra := (⟨v, 0, false⟩ : Rws.Rd).take_lt 4
  have hrb := ra.take_8
  have hrc := rb.take_lt 2
  have hbv : rc.b = v := by
    have h1 := (⟨v, 0, false⟩ : Rws.Rd).take_b 4
    have h2 := ra.take_b 8
    have h3 := rb.take_b 2
    rw [ha] at h1; rw [hb] at h2; rw [hc] at h3
    exact h3.trans (h2.trans h1)
  have HRD := Lib.hid (show Rws.readAsked s ⟨v, 0, false⟩ = if rc.sh || decide (rc.b.length < rc.at_ + xc) then none else some { s with asked := s.asked ++ [⟨(xa : Int), (xb : Int), (rc.b.drop rc.at_).take xc, rc.b.drop (rc.at_ + xc)⟩] } by
    unfold Rws.readAsked
    simp only [ha, hb, hc])
  have HCA := Lib.hid (fun w hr => rtake_any hv B ⟨v, 0, false⟩ 4 A2 c2 w hr rfl)
  have HCB := Lib.hid (fun w hr => rtake_any hv B ra 8 A2 c2 w hr rfl)
  have HCC := Lib.hid (fun w hr => rint_any hv B rb 2 A2 c2 w hr (.inr rfl))
  rw [ha] at HCA hra ⊢
  simp only
  rw [hb] at HCB hrb ⊢
  simp only
  rw [hc] at HCC hrc ⊢
  simp only at hra hrb hrc ⊢
  have HIS := Lib.hid (show xa < 4294967296 ∧ xb < 18446744073709551616 ∧ xc < 65536 by omega)
  have hwd : IntKind.u32.wrap (xa : Int) = (xa : Int) := by rw [IntKind.wrap_u32]; omega
  obtain ⟨Aa, Ad, Ar, Aq, ca, cd, cr, cq, hX⟩ := hst.open_
  have HX := Lib.hid hX
  have HK := Lib.hid hrk
  have HV := Lib.hid hrv
  have HNE := Lib.hid hne
  have HLK := Lib.hid hlk
  have HLV := Lib.hid hlv
  have HB := Lib.hid (Below.refl base w)
  have HCN := Lib.hid hcn
  clear hst hX hrk hrv hne hlk hlv hcn ha hb hc hra hrb hrc hbv
  go_enter Try.func50, Try.ntmps50
  go_wp2_with fail
  refine (HCA.out _ HV.out).mono ?_
  rintro e w1 ⟨rfl, rv, gg⟩
  have HK := Lib.hid (HK.out.took HV.out HNE.out gg)
  have HB := Lib.hid (Below.took HB.out HX.out.size HLV.out gg)
  have HX := Lib.hid (HX.out.took HV.out.blk reader_far gg)
  have HV := Lib.hid rv
  clear rv gg
  go_wp2_with fail
  refine (HCB.out _ HV.out).mono ?_
  rintro e w2 ⟨rfl, rv, gg⟩
  have HK := Lib.hid (HK.out.took HV.out HNE.out gg)
  have HB := Lib.hid (Below.took HB.out HX.out.size HLV.out gg)
  have HX := Lib.hid (HX.out.took HV.out.blk reader_far gg)
  have HV := Lib.hid rv
  clear rv gg
  have bd := Blk.new w2 52 #[.int .u32 (xa : Int), .int .u64 (xb : Int), .slice none 0 0, .slice none 0 0]
  have HVA := Lib.hid (HV.out.below ((Below.refl w2.heap.size w2).alloc (Nat.le_refl _) (.cells #[.int .u32 (xa : Int), .int .u64 (xb : Int), .slice none 0 0, .slice none 0 0] 52)))
  obtain ⟨hd, hhd⟩ : ∃ h, w2.heap.size = h := ⟨_, rfl⟩
  have hvd : hd ≠ hv := by
    have := HV.out.blk.lt
    omega
  have hkd : hd ≠ hk := by
    have := HK.out.blk.lt
    omega
  have HHD := Lib.hid hhd
  rw [hhd] at bd
  have HBD := Lib.hid bd
  have HVD := Lib.hid hvd
  have HKD := Lib.hid hkd
  go_wp2_with fail
  refine (HCC.out _ HVA.out).mono ?_
  rintro e w7 ⟨rfl, rv, gg⟩
  have HG7 := Lib.hid (only_trans_alloc gg)
  have HV7 := Lib.hid rv
  have HD7 := Lib.hid (HBD.out.grown gg (fun e => HVD.out (by injection e)))
  have HK7 := Lib.hid (HK.out.took HV.out HNE.out HG7.out)
  have HB7 := Lib.hid (Below.took HB.out HX.out.size HLV.out HG7.out)
  have HX7 := Lib.hid (HX.out.took HV.out.blk reader_far HG7.out)
  have hlen := HV7.out.len
  have hat := HV7.out.at_
  obtain ⟨b, p, sh⟩ := rc
  simp only at HRD hlen hat
  clear rv gg bd hvd hkd hhd
  have k0 := HV7.out.blk.cell 0
  have k1 := HV7.out.blk.cell 1
  have k2 := HV7.out.blk.cell 2
  simp only [rdC, List.getElem?_toArray, List.getElem?_cons_zero, List.getElem?_cons_succ] at k0 k1 k2
  cases sh with
  | true =>
    have HRN := Lib.hid (show Rws.readAsked s ⟨v, 0, false⟩ = none by rw [HRD.out]; rfl)
    go_wp2_with fail
    go_quiet (fail)
    go_wp2_with fail
    go_ret
    rw [HRN.out]
    exact ItemTo.no (below_drewN HB7.out _)
  | false =>
    by_cases hf : b.length < p + xc
    · have HRN := Lib.hid (show Rws.readAsked s ⟨v, 0, false⟩ = none by rw [HRD.out]; simp [hf])
      have hsub : wrap64 ((b.length : Int) - (p : Int)) = (b.length : Int) - (p : Int) := by rw [← IntWalk.i64_left, IntKind.wrap_i64]; omega
      have hlt : decide ((b.length : Int) - (p : Int) < (xc : Int)) = true := by simp; omega
      go_wp2_with fail
      go_quiet (fail)
      go_wp2_with fail
      go_ret
      rw [HRN.out]
      exact ItemTo.no (below_drewN HB7.out _)
    · have HRS := Lib.hid (show Rws.readAsked s ⟨v, 0, false⟩ = some { s with asked := s.asked ++ [⟨(xa : Int), (xb : Int), (b.drop p).take xc, b.drop (p + xc)⟩] } by rw [HRD.out]; rw [if_neg (by simp; omega)])
      have hsub : wrap64 ((b.length : Int) - (p : Int)) = (b.length : Int) - (p : Int) := by rw [← IntWalk.i64_left, IntKind.wrap_i64]; omega
      have hadd : wrap64 ((p : Int) + (xc : Int)) = (p : Int) + (xc : Int) := by rw [← IntWalk.i64_left, IntKind.wrap_i64]; have := HIS.out; omega
      have hadd' : IntKind.i64.wrap ((p : Int) + (xc : Int)) = (p : Int) + (xc : Int) := by rw [IntKind.wrap_i64]; have := HIS.out; omega
      have htn : ((p : Int) + (xc : Int)).toNat = p + xc := by omega
      have hlt : decide ((b.length : Int) - (p : Int) < (xc : Int)) = false := by simp; omega
      have hnc : b.length ≤ c2 := HV7.out.bytes.sl.nc
      obtain ⟨x1, hx1⟩ : ∃ l, (b.drop p).take xc = l := ⟨_, rfl⟩
      obtain ⟨x2, hx2⟩ : ∃ l, b.drop (p + xc) = l := ⟨_, rfl⟩
      have hl1 : x1.length = xc := by rw [← hx1, List.length_take, List.length_drop]; omega
      have hl2 : x2.length = b.length - (p + xc) := by rw [← hx2, List.length_drop]
      have hs1 := (HV7.out.bytes.sl.cut (k := p) (by simp only; omega)).take_ (k := xc) (by simp only; omega)
      simp only [Nat.mul_one, ← List.map_drop, ← List.map_take, hx1] at hs1
      have hs2 := HV7.out.bytes.sl.cut (k := p + xc) (by simp only; omega)
      simp only [Nat.mul_one, ← List.map_drop, hx2] at hs2
      have hle0 : (0 : Int) ≤ (p : Int) + (xc : Int) := by omega
      have hle1 : (p : Int) + (xc : Int) ≤ (c2 : Int) := by omega
      have hle2 : (p : Int) + (xc : Int) ≤ (b.length : Int) := by omega
      have hle3 : p + xc ≤ b.length := by omega
      have hle4 : p + xc ≤ c2 := by omega
      obtain ⟨B1, hB1⟩ : ∃ A, (if c2 = p then A2 else A2.map (·.add p)) = A := ⟨_, rfl⟩
      obtain ⟨B2, hB2⟩ : ∃ A, (if c2 = p + xc then A2 else A2.map (·.add (p + xc))) = A := ⟨_, rfl⟩
      rw [hB1] at hs1
      rw [hB2] at hs2
      have hr1 := fun w => sliceRunLH (A := A2) (n := b.length) (c := c2) (p := p) (x := xc) (by omega) w (A' := B1) (by rw [← hB1, Nat.mul_one])
      have hr2 := fun w => sliceRunL2 (A := A2) (n := b.length) (c := c2) (p := p) (x := xc) (by omega) w (A' := B2) (by rw [← hB2, Nat.mul_one])
      rw [hx1, hx2] at HRS
      have HRX := HRS
      have hBw : B ≤ w7.heap.size := Nat.le_trans hBb HX7.out.size
      go_wp2_with fail
      go_quiet (fail)
      have HQ0 := Lib.hid (below_drewN (Below.refl w7.heap.size w7) nq)
      have HG8 := Lib.hid (only_drewN HG7.out nq)
      generalize w7.drewN nq = w8 at HQ0 HG8 ⊢
      have HC1 := Lib.hid (fun w' (hh : Below w7.heap.size w7 w') => clone_any B B1 xc (c2 - p) x1 w' (hs1.below' hh hBw) (Nat.le_trans hBw hh.size) (by have := HIS.out; omega))
      have HC2 := Lib.hid (fun w' (hh : Below w7.heap.size w7 w') => clone_any B B2 (b.length - (p + xc)) (c2 - (p + xc)) x2 w' (hs2.below' hh hBw) (Nat.le_trans hBw hh.size) (by omega))
      have HL1 := Lib.hid (show x1.length ≤ 140737488355328 by have := HIS.out; omega)
      have HL2 := Lib.hid (show x2.length ≤ 140737488355328 by omega)
      have KC := Lib.hid (fun w' (hh : Below w7.heap.size w7 w') => (show w'.cell? ⟨hv, 0, none⟩ = some (.slice A2 b.length c2) ∧ w'.cell? ⟨hv, 1, none⟩ = some (.int .i64 (p : Int)) by
        have h0 := (HV7.out.below hh).blk.cell 0
        have h1 := (HV7.out.below hh).blk.cell 1
        simp only [rdC, List.getElem?_toArray, List.getElem?_cons_zero, List.getElem?_cons_succ] at h0 h1
        exact ⟨h0, h1⟩))
      have KD := Lib.hid (fun w' (hh : Below w7.heap.size w7 w') => (show Blk w' hd 52 #[.int .u32 (xa : Int), .int .u64 (xb : Int), .slice none 0 0, .slice none 0 0] from HD7.out.below hh HD7.out.lt))
      obtain ⟨c0, c1⟩ := KC.out _ HQ0.out
      have t2 := (KD.out _ HQ0.out).cell 2
      have t3 := (KD.out _ HQ0.out).cell 3
      have hdlt := (KD.out _ HQ0.out).lt
      simp only [List.getElem?_toArray, List.getElem?_cons_zero, List.getElem?_cons_succ] at t2 t3
      clear k0 k1 k2 hs1 hs2 hx1 hx2 hl1 hl2 hf hlt hsub hB1 hB2 hle0 hle1 hadd htn hle2 hle3 hle4
      go_wp2_with fail
      have KB := Lib.hid (fun w' (hb : Blk w' hv 99 (rdC ⟨b, p, false⟩ A2 c2)) => (show w'.cell? ⟨hv, 0, none⟩ = some (.slice A2 b.length c2) ∧ w'.cell? ⟨hv, 1, none⟩ = some (.int .i64 (p : Int)) by
        have h0 := hb.cell 0
        have h1 := hb.cell 1
        simp only [rdC, List.getElem?_toArray, List.getElem?_cons_zero, List.getElem?_cons_succ] at h0 h1
        exact ⟨h0, h1⟩))
      have KF := Lib.hid (fun w' (hh : Below w7.heap.size w7 w') => (HV7.out.below hh).blk)
      have HVH := Lib.hid (Ne.symm HVD.out)
      go_region_held3 (fun w' => w'.cell? ⟨hv, 0, none⟩ = some (.slice A2 b.length c2) ∧ w'.cell? ⟨hv, 1, none⟩ = some (.int .i64 (p : Int)))
        (first | exact KB.out _ (((KF.out _ HQB.out).far (p := ⟨hd, 2, none⟩) HVH.out _).far (p := ⟨hd, 3, none⟩) HVH.out _) | exact KB.out _ (((KF.out _ HQB.out).far (p := ⟨hd, 3, none⟩) HVH.out _).far (p := ⟨hd, 2, none⟩) HVH.out _) | exact KB.out _ ((KF.out _ HQB.out).far (p := ⟨hd, 2, none⟩) HVH.out _) | exact KB.out _ ((KF.out _ HQB.out).far (p := ⟨hd, 3, none⟩) HVH.out _) | exact ⟨cb0, cb1⟩ | exact ⟨ca0, ca1⟩ | exact ⟨c0, c1⟩)
        (first
        | (go_at_call 30; (with_reducible refine (HC1.out _ (HQ0.out.drew)).mono ?_); rintro e wa ⟨v1, rfl, A6, c6, rfl, hown6, hb6⟩; have HOB1 := Lib.hid (OwnB.of (own_low (base' := base) hown6 (Nat.le_trans HX7.out.size HQ0.out.drew.size)) HL1.out); have HQA := Lib.hid (HQ0.out.drew.trans (hb6.mono HQ0.out.drew.size)); obtain ⟨ca0, ca1⟩ := KC.out _ HQA.out; clear hown6 hb6)
        | (go_at_call 30; (with_reducible refine (HC2.out _ HQA.out).mono ?_); rintro e wb ⟨v2, rfl, A7, c7, rfl, hown7, hb7⟩; have HOB2 := Lib.hid (OwnB.of (own_low (base' := base) hown7 (Nat.le_trans HX7.out.size HQA.out.size)) HL2.out); have HOB1 := Lib.hid (HOB1.out.below hb7); have HQB := Lib.hid (HQA.out.trans (hb7.mono HQA.out.size)); obtain ⟨cb0, cb1⟩ := KC.out _ HQB.out; have tb2 := (KD.out _ HQB.out).cell 2; have tb3 := (KD.out _ HQB.out).cell 3; have fb2 := (KD.out _ HQB.out).frozen 2; have fb3 := (KD.out _ HQB.out).frozen 3; simp only [List.getElem?_toArray, List.getElem?_cons_zero, List.getElem?_cons_succ] at tb2 tb3; clear hown7 hb7))
      all_goals
        have HD11 := Lib.hid (show Blk ((wb.setCell ⟨hd, 2, none⟩ (.slice A6 x1.length c6)).setCell ⟨hd, 3, none⟩ (.slice A7 x2.length c7)) hd 52 #[.int .u32 (xa : Int), .int .u64 (xb : Int), .slice A6 x1.length c6, .slice A7 x2.length c7] from ((KD.out _ HQB.out).set_ 2 (.slice A6 x1.length c6)).set_ 3 (.slice A7 x2.length c7))
        have HBH := Lib.hid (show w2.heap.size ≤ hd by rw [HHD.out]; exact Nat.le_refl _)
        have HG11 := Lib.hid (show w2.grownBy ((wb.setCell ⟨hd, 2, none⟩ (.slice A6 x1.length c6)).setCell ⟨hd, 3, none⟩ (.slice A7 x2.length c7)) (some hv) from only_setCell (only_setCell (only_trans2 HG7.out (only_of_below HQB.out (some hv)) (.inl rfl)) (p := ⟨hd, 2, none⟩) (.inr HBH.out) (.slice A6 x1.length c6)) (p := ⟨hd, 3, none⟩) (.inr HBH.out) (.slice A7 x2.length c7))
        have HGD := Lib.hid (show wb.grownBy ((wb.setCell ⟨hd, 2, none⟩ (.slice A6 x1.length c6)).setCell ⟨hd, 3, none⟩ (.slice A7 x2.length c7)) (some hd) from only_setCell (only_setCell (World.grownBy.refl wb (some hd)) (p := ⟨hd, 2, none⟩) (.inl rfl) (.slice A6 x1.length c6)) (p := ⟨hd, 3, none⟩) (.inl rfl) (.slice A7 x2.length c7))
        have HV11 := Lib.hid (show RdAt ((wb.setCell ⟨hd, 2, none⟩ (.slice A6 x1.length c6)).setCell ⟨hd, 3, none⟩ (.slice A7 x2.length c7)) hv B ⟨b, p, false⟩ A2 c2 from (HV7.out.below HQB.out).kept HGD.out (fun k e => by injection e with e; subst e; exact ⟨HVD.out, Nat.le_trans hBb (Nat.le_trans HX.out.size HBH.out)⟩))
        have HO1 := Lib.hid (HOB1.out.kept' HGD.out (fun k e => by injection e with e; subst e; exact ⟨_, _, KD.out _ HQB.out, by decide⟩))
        have HO2 := Lib.hid (HOB2.out.kept' HGD.out (fun k e => by injection e with e; subst e; exact ⟨_, _, KD.out _ HQB.out, by decide⟩))
        have HK11 := Lib.hid (HK.out.took HV.out HNE.out HG11.out)
        have HB11 := Lib.hid (Below.took HB.out HX.out.size HLV.out HG11.out)
        have HX11 := Lib.hid (HX.out.took HV.out.blk reader_far HG11.out)
        clear ca0 ca1 cb0 cb1 c0 c1 t2 t3 tb2 tb3 fb2 fb3 hdlt hr1 hr2 hadd' hnc
        generalize ((wb.setCell ⟨hd, 2, none⟩ (.slice A6 x1.length c6)).setCell ⟨hd, 3, none⟩ (.slice A7 x2.length c7)) = w11 at HD11 HG11 HGD HV11 HO1 HO2 HK11 HB11 HX11 ⊢
        have d0 := HD11.out.cell 0
        have d1 := HD11.out.cell 1
        have d2 := HD11.out.cell 2
        have d3 := HD11.out.cell 3
        simp only [List.getElem?_toArray, List.getElem?_cons_zero, List.getElem?_cons_succ] at d0 d1 d2 d3
        have hml := HCN.out
        obtain ⟨i0, hi0, hz0, hz1, hz2⟩ := info_parts infoAsked
        obtain ⟨cells, hq1, hq2⟩ := HX11.out.asked
        have HQ1 := Lib.hid hq1
        have HQ2 := Lib.hid hq2
        obtain ⟨m, hm⟩ : ∃ m, s.asked.length = m := ⟨_, rfl⟩
        have HM := Lib.hid hm
        have HC := Lib.hid (fun w' (h : StInX w' base g s Aa Ad Ar Aq ca cd cr cq) => (show w'.cell? ⟨g, 6, none⟩ = some (.slice Aq m cq) by
          have h0 := h.blk.cell 6
          simp only [stC, List.getElem?_toArray, List.getElem?_cons_zero, List.getElem?_cons_succ] at h0
          rw [hm] at h0
          exact h0))
        have HO := Lib.hid (show w11.ownsRow base 52 4 (.slice Aq m cq) m cells by
          rw [hm] at hq1
          exact hq1)
        rw [hm] at hml
        have gq := HC.out _ HX11.out
        have gq3 := HC.out _ (HX11.out.below ((Below.refl w11.heap.size w11).alloc (Nat.le_refl _) (.cells #[.int .u32 (xa : Int), .int .u64 (xb : Int), .slice A6 x1.length c6, .slice A7 x2.length c7] 52)))
        have HBZ := Lib.hid (show base ≤ (w11.alloc (.cells #[.int .u32 (xa : Int), .int .u64 (xb : Int), .slice A6 x1.length c6, .slice A7 x2.length c7] 52)).heap.size by have := HX11.out.size; simp; omega)
        clear hm hq1 hq2
        go_wp2_with fail
        go_region_law (refine step_append_any _ rfl _ _ 26 rfl base 52 i0 (.agg #[.int .u32 0, .int .u64 0, .slice none 0 0, .slice none 0 0]) 4 64 Try.underlying26 hi0 hz0 hz1 hz2 rfl (by omega) _ _ _ (by rfl) ((HO.out.alloc _).drew) _ _ 1 1 [.int .u32 (xa : Int), .int .u64 (xb : Int), .slice A6 x1.length c6, .slice A7 x2.length c7] (by rfl) (by exact (Sl.lit (size := 4) (k := 1) (cap := 1) _ _ _ _ _ _ rfl rfl rfl (by omega) (by omega)).drew.rd) (by simp [Value.oneCell']) (by simp only [maxLen]; omega) (by omega) HBZ.out ?_; intro v9 w9 hown9 hgr9 hblk9; obtain ⟨A9, d9, rfl⟩ := own_slice hown9; have HO9 := Lib.hid hown9; have HG9 := Lib.hid (only_trans_alloc (only_undrew hgr9)); have HSB := Lib.hid (blk_grown HX11.out.blk HO.out (by decide) HG9.out); have q9 := (HSB.out).cell 6; have f9 := (HSB.out).frozen 6; simp only [stC, List.getElem?_toArray, List.getElem?_cons_zero, List.getElem?_cons_succ] at q9; clear hown9 hgr9 hblk9)
        all_goals
          clear gq gq3 d0 d1 d2 d3
          have HFIN := Lib.hid (show StIn (w9.setCell ⟨g, 6, none⟩ (.slice A9 (m + 1) d9)) base g { s with asked := s.asked ++ [⟨(xa : Int), (xb : Int), x1, x2⟩] } by
            have h := HX11.out.askedPush (x := ⟨(xa : Int), (xb : Int), x1, x2⟩) (w1 := w9) (A' := A9) (c' := d9) HQ1.out HQ2.out (by rw [HM.out]; exact HG9.out) (by rw [HM.out]; exact HO9.out) (by have := HIS.out; exact ⟨⟨by simp only; omega, by simp only; omega⟩, ⟨by simp only; omega, by simp only; omega⟩⟩) HO1.out HO2.out
            rw [HM.out] at h
            exact h)
          have HFR := Lib.hid (fun (hh : Nat) (r : Rws.Rd) (A : Option Addr) (c : Nat) (h : RdAt w11 hh B r A c) => (show RdAt (w9.setCell ⟨g, 6, none⟩ (.slice A9 (m + 1) d9)) hh B r A c from
            (h.kept HG9.out (fun k e => ⟨fun e2 => own_blk_ne HO.out h.blk (by decide) (by rw [← e2]; exact e), by have h1 := (HO.out.lt k e).1; omega⟩)).kept (only_setCell (World.grownBy.refl w9 (some g)) (p := ⟨g, 6, none⟩) (.inl rfl) (.slice A9 (m + 1) d9)) (fun k e => by
              injection e with e
              subst e
              exact ⟨Blk.ne_ HX11.out.blk h.blk (by decide), Nat.le_trans hBb HX11.out.low⟩)))
          have HBF := Lib.hid ((HB11.out.grown HG9.out HX11.out.size (fun q hq => (HO.out.lt q hq).1)).setCell (p := ⟨g, 6, none⟩) HX11.out.low (.slice A9 (m + 1) d9))
          clear q9 f9
          go_wp2_with fail
          go_ret
          rw [HRS.out]
          exact ItemTo.yes HFIN.out (HFR.out _ _ _ _ HK11.out) (HFR.out _ _ _ _ HV11.out) HBF.out
end Go.Proofs.Ytniekddoaokmkaa

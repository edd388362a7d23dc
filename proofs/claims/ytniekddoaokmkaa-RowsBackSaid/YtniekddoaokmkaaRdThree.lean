/-
  Layer 23 (rows): a row taken into a state, walked: of the kind of rounds.
-/
import Derived.Test.YtniekddoaokmkaaRdZero
import Derived.Test.YtniekddoaokmkaaRdPush
namespace Go.Proofs.Ytniekddoaokmkaa
open Go.RowKit Go.Gab Go.Sort
set_option linter.unusedVariables false
attribute [local go_sem ↓] Go.wp_at_zero Go.wp_at_succ

theorem infoRound : (Try.prog.info? 64).map (fun i => (i.zero, i.size, i.bytes)) = some (some (.agg #[.int .u64 0, .int .i64 0, .bool false, .slice none 0 0, .int .i64 0, .slice none 0 0, .slice none 0 0, .slice none 0 0]), 8, 128) := by kernel_rfl
theorem rows_more3 {s : Rws.St} (h : (Rws.rowsOf s).length ≤ 1900000) : s.accts.length ≤ 1900000 ∧ s.dues.length ≤ 1900000 ∧ s.rounds.length ≤ 1900000 ∧ s.asked.length ≤ 1900000 := by
  unfold Rws.rowsOf at h
  simp only [List.length_append, List.length_map, Rws.mapI_length, List.length_singleton] at h
  omega

set_option maxHeartbeats 4000000 in
set_option maxRecDepth 100000 in
theorem read3_any (B base g : Nat) (s : Rws.St) (kb v : List UInt8) (A1 A2 : Option Addr) (n1 c1 c2 : Nat) (w : World) (hst : StIn w base g s) (hB : B ≤ base) (hk : BytesAt w B A1 n1 c1 (3 :: kb)) (hv : BytesAt w B A2 v.length c2 v)
    (hcn : (Rws.rowsOf s).length ≤ 1900000) (hkl : kb.length ≤ 274877906944) (hvl : v.length ≤ 274877906944) :
    Calls Try.prog 23 #[.pointer (some ⟨g, 0, none⟩), pairV A1 A2 n1 c1 v.length c2] w (ReadTo base g (Rws.readRow s (3 :: kb, v)) w) := by
  have hn1 := hk.sl.lenB
  simp at hn1
  obtain ⟨A3, hs3, hA3⟩ := Sl.tail1 hk.sl
  have hsl := sliceRunB (n := n1) (c := c1) (by omega) (hA := hA3)
  obtain ⟨b1, o1, x1, rfl, hb1, hx1, hc1, _⟩ := hk.sl.byte (k := 0) (by omega)
  have HST := Lib.hid hst
  have HS3 := Lib.hid hs3
  have HK := Lib.hid hk
  have HV := Lib.hid hv
  have hpos : 0 < n1 := by omega
  have hn0 : ((n1 : Int) == 0) = false := by simp; omega
  have HN1 := Lib.hid hn1
  clear hst hs3 hA3 hk hv hn1
  unfold pairV
  go_enter Try.func23, Try.ntmps23
  go_wp2_with fail
  go_cut [5, 6] (fun x y wx => ∃ hk hv, x = .pointer (some ⟨hk, 0, none⟩) ∧ y = .pointer (some ⟨hv, 0, none⟩) ∧ Laid wx base g w.heap.size hk hv B s 3 kb v (some ⟨b1, o1, none⟩) A2 A3 n1 c1 c2 (c1 - 1) ∧ Below base w wx)
  case first =>
    have HSZ := Lib.hid (show n1 - 1 = kb.length by have := HN1.out; omega)
    rw [HSZ.out] at hsl
    go_region
    all_goals
      have hs3 := HS3.out
      rw [HSZ.out] at hs3
    · go_wp2_with fail
      go_meet
      case rel =>
        have d1 := (((Blk.new w 42 #[.slice (some ⟨b1, o1, none⟩) n1 c1, .slice A2 v.length c2]).alloc (.cells #[.slice A3 kb.length (c1 - 1), .int .i64 0, .bool false] 99)).alloc (.cells #[.slice A2 v.length c2, .int .i64 0, .bool false] 99)).drew
        have d2 := ((Blk.new (w.alloc (.cells #[.slice (some ⟨b1, o1, none⟩) n1 c1, .slice A2 v.length c2] 42)) 99 #[.slice A3 kb.length (c1 - 1), .int .i64 0, .bool false]).alloc (.cells #[.slice A2 v.length c2, .int .i64 0, .bool false] 99)).drew
        have d3 := (Blk.new ((w.alloc (.cells #[.slice (some ⟨b1, o1, none⟩) n1 c1, .slice A2 v.length c2] 42)).alloc (.cells #[.slice A3 kb.length (c1 - 1), .int .i64 0, .bool false] 99)) 99 #[.slice A2 v.length c2, .int .i64 0, .bool false]).drew
        have hb := ((((Below.refl w.heap.size w).alloc (Nat.le_refl _) (.cells #[.slice (some ⟨b1, o1, none⟩) n1 c1, .slice A2 v.length c2] 42)).alloc (by simp) (.cells #[.slice A3 kb.length (c1 - 1), .int .i64 0, .bool false] 99)).alloc (by simp; omega) (.cells #[.slice A2 v.length c2, .int .i64 0, .bool false] 99)).drew
        rw [show (w.alloc (.cells #[.slice (some ⟨b1, o1, none⟩) n1 c1, .slice A2 v.length c2] 42)).heap.size = w.heap.size + 1 by simp] at d2
        rw [show ((w.alloc (.cells #[.slice (some ⟨b1, o1, none⟩) n1 c1, .slice A2 v.length c2] 42)).alloc (.cells #[.slice A3 kb.length (c1 - 1), .int .i64 0, .bool false] 99)).heap.size = w.heap.size + 1 + 1 by simp] at d3
        exact ⟨w.heap.size + 1, w.heap.size + 1 + 1, rfl, rfl, laid_mk HST.out hB HK.out.sl hs3 HV.out hkl hvl hb d1 d2 d3 (by omega) (by omega) (by omega), hb.mono HST.out.size⟩
    · go_wp2_with fail
      go_meet
      case rel =>
        have d1 := (((Blk.new w 42 #[.slice (some ⟨b1, o1, none⟩) n1 c1, .slice A2 v.length c2]).alloc (.cells #[.slice A2 v.length c2, .int .i64 0, .bool false] 99)).alloc (.cells #[.slice A3 kb.length (c1 - 1), .int .i64 0, .bool false] 99)).drew
        have d2 := ((Blk.new (w.alloc (.cells #[.slice (some ⟨b1, o1, none⟩) n1 c1, .slice A2 v.length c2] 42)) 99 #[.slice A2 v.length c2, .int .i64 0, .bool false]).alloc (.cells #[.slice A3 kb.length (c1 - 1), .int .i64 0, .bool false] 99)).drew
        have d3 := (Blk.new ((w.alloc (.cells #[.slice (some ⟨b1, o1, none⟩) n1 c1, .slice A2 v.length c2] 42)).alloc (.cells #[.slice A2 v.length c2, .int .i64 0, .bool false] 99)) 99 #[.slice A3 kb.length (c1 - 1), .int .i64 0, .bool false]).drew
        have hb := ((((Below.refl w.heap.size w).alloc (Nat.le_refl _) (.cells #[.slice (some ⟨b1, o1, none⟩) n1 c1, .slice A2 v.length c2] 42)).alloc (by simp) (.cells #[.slice A2 v.length c2, .int .i64 0, .bool false] 99)).alloc (by simp; omega) (.cells #[.slice A3 kb.length (c1 - 1), .int .i64 0, .bool false] 99)).drew
        rw [show (w.alloc (.cells #[.slice (some ⟨b1, o1, none⟩) n1 c1, .slice A2 v.length c2] 42)).heap.size = w.heap.size + 1 by simp] at d2
        rw [show ((w.alloc (.cells #[.slice (some ⟨b1, o1, none⟩) n1 c1, .slice A2 v.length c2] 42)).alloc (.cells #[.slice A2 v.length c2, .int .i64 0, .bool false] 99)).heap.size = w.heap.size + 1 + 1 by simp] at d3
        exact ⟨w.heap.size + 1 + 1, w.heap.size + 1, rfl, rfl, laid_mk HST.out hB HK.out.sl hs3 HV.out hkl hvl hb d1 d3 d2 (by omega) (by omega) (by omega), hb.mono HST.out.size⟩
  case rest =>
    obtain ⟨hk, hv, rfl, rfl, L, hb⟩ := hcut
    clear hsl HST HS3 HK HV hc1
    obtain ⟨b2, o2, y2, hA2, _, hy2, kc, _⟩ := L.key.byte (k := 0) (by omega)
    obtain ⟨rfl, rfl⟩ : b1 = b2 ∧ o1 = o2 := by injection hA2 with e; injection e with e1 e2; exact ⟨e1, e2⟩
    have hy3 : y2 = 3 := by simpa using hy2.symm
    subst hy3
    have hx3 : x1 = 3 := by simpa using hx1.symm
    subst hx3
    rw [Nat.add_zero] at kc
    have hb0 := L.box.cell 0
    simp only [List.getElem?_toArray, List.getElem?_cons_zero] at hb0
    have HLA := Lib.hid L
    have HBL := Lib.hid hb
    have HNE := Lib.hid L.ne
    have HRK := Lib.hid L.rk
    have HLV := Lib.hid L.lv
    clear L hb hA2 hy2 hx1
    obtain ⟨⟨xi, ri⟩, hi⟩ : ∃ q, (⟨kb, 0, false⟩ : Rws.Rd).take 8 = q := ⟨_, rfl⟩
    obtain ⟨⟨xa, ra⟩, ha⟩ : ∃ q, (⟨v, 0, false⟩ : Rws.Rd).take 8 = q := ⟨_, rfl⟩
    obtain ⟨⟨xb, rb⟩, hb⟩ : ∃ q, ra.take 1 = q := ⟨_, rfl⟩
    obtain ⟨⟨xc, rc⟩, hc⟩ : ∃ q, rb.take 1 = q := ⟨_, rfl⟩
    have hri := (⟨kb, 0, false⟩ : Rws.Rd).take_8
    have hra := (⟨v, 0, false⟩ : Rws.Rd).take_8
    have hrb := ra.take_lt 1
    have hrc := rb.take_lt 1
    have HRD := Lib.hid (show Rws.readRow s (3 :: kb, v) = if ri.sh || rc.sh then none else some { s with rounds := s.rounds ++ [⟨(xi : Int), Rws.s64 xa, decide (xb = 1), [], (xc : Int), [], [], []⟩] } by
      show Rws.readRound s ⟨kb, 0, false⟩ ⟨v, 0, false⟩ = _
      unfold Rws.readRound
      simp only [hi, ha, hb, hc])
    have HCI := Lib.hid (fun w hr => rtake_any hk B ⟨kb, 0, false⟩ 8 A3 (c1 - 1) w hr rfl)
    have HCA := Lib.hid (fun w hr => rlong_any hv B ⟨v, 0, false⟩ A2 c2 w hr)
    have HCB := Lib.hid (fun w hr => rtake_any hv B ra 1 A2 c2 w hr rfl)
    have HCC := Lib.hid (fun w hr => rint_any hv B rb 1 A2 c2 w hr (.inl rfl))
    rw [hi] at HCI hri
    rw [ha] at HCA hra
    rw [hb] at HCB hrb
    rw [hc] at HCC hrc
    simp only at hri hra hrb hrc
    have HIA := Lib.hid (Rws.s64_lo xa hra)
    have HIS := Lib.hid (show xi < 18446744073709551616 ∧ xb < 256 ∧ xc < 256 by omega)
    obtain ⟨ya, hya⟩ : ∃ y, Rws.s64 xa = y := ⟨_, rfl⟩
    rw [hya] at HRD HIA HCA
    obtain ⟨comp, hcomp⟩ : ∃ h, decide (xb = 1) = h := ⟨_, rfl⟩
    rw [hcomp] at HRD
    have HHE := Lib.hid (show ((xb : Int) == 1) = comp by
      rw [← hcomp]
      by_cases h : xb = 1
      · subst h; rfl
      · rw [decide_eq_false h, beq_eq_false_iff_ne]; omega)
    clear hi ha hb hc hya hcomp hri hra hrb hrc
    obtain ⟨Aa, Ad, Ar, Aq, ca, cd, cr, cq, hX⟩ := HLA.out.st.open_
    have HX0 := Lib.hid hX
    clear hX
    have HX := Lib.hid HX0.out
    have HK := Lib.hid HLA.out.rk
    have HV := Lib.hid HLA.out.rv
    have HB := Lib.hid HBL.out
    have HLK := Lib.hid HLA.out.lk
    go_wp2_with fail
    refine (HCI.out _ HK.out).mono ?_
    rintro e w1 ⟨rfl, rv, gg⟩
    have HV := Lib.hid (HV.out.took HK.out (Ne.symm HNE.out) gg)
    have HB := Lib.hid (Below.took HB.out HX.out.size HLK.out gg)
    have HX := Lib.hid (HX.out.took HK.out.blk reader_far gg)
    have HK := Lib.hid rv
    clear rv gg
    go_wp2_with fail
    refine (HCA.out _ HV.out).mono ?_
    rintro e w2 ⟨rfl, rv, gg⟩
    have HK := Lib.hid (HK.out.took HV.out HNE.out gg)
    have HB := Lib.hid (Below.took HB.out HX.out.size HLV.out gg)
    have HX := Lib.hid (HX.out.took HV.out.blk reader_far gg)
    have HV := Lib.hid rv
    clear rv gg
    go_wp2_with fail
    refine (HCB.out _ HV.out).mono ?_
    rintro e w3 ⟨rfl, rv, gg⟩
    have HK := Lib.hid (HK.out.took HV.out HNE.out gg)
    have HB := Lib.hid (Below.took HB.out HX.out.size HLV.out gg)
    have HX := Lib.hid (HX.out.took HV.out.blk reader_far gg)
    have HV := Lib.hid rv
    clear rv gg
    have bd := Blk.new w3 64 #[.int .u64 (xi : Int), .int .i64 ya, .bool comp, .slice none 0 0, .int .i64 0, .slice none 0 0, .slice none 0 0, .slice none 0 0]
    have HVA := Lib.hid (HV.out.below ((Below.refl w3.heap.size w3).alloc (Nat.le_refl _) (.cells #[.int .u64 (xi : Int), .int .i64 ya, .bool comp, .slice none 0 0, .int .i64 0, .slice none 0 0, .slice none 0 0, .slice none 0 0] 64)))
    obtain ⟨hd, hhd⟩ : ∃ h, w3.heap.size = h := ⟨_, rfl⟩
    have hvd : hd ≠ hv := by
      have := HV.out.blk.lt
      omega
    have HHD := Lib.hid hhd
    rw [hhd] at bd
    have HBD := Lib.hid bd
    have HVD := Lib.hid hvd
    have hhe := HHE.out
    go_wp2_with fail
    refine (HCC.out _ HVA.out).mono ?_
    rintro e w7 ⟨rfl, rv, gg⟩
    have HG7 := Lib.hid (only_trans_alloc gg)
    have HV7 := Lib.hid rv
    have HD7 := Lib.hid (HBD.out.grown gg (fun e => HVD.out (by injection e)))
    have k6 := HD7.out.cell 4
    have j6 := HD7.out.frozen 4
    simp only [List.getElem?_toArray, List.getElem?_cons_zero, List.getElem?_cons_succ] at k6
    clear rv gg bd hvd hhd hhe
    go_wp2_with fail
    have HG8 := Lib.hid (only_setCell HG7.out (p := ⟨hd, 4, none⟩) (.inr (by rw [HHD.out]; exact Nat.le_refl _)) (.int .i64 (xc : Int)))
    have HD8 := Lib.hid (show Blk (w7.setCell ⟨hd, 4, none⟩ (.int .i64 (xc : Int))) hd 64 #[.int .u64 (xi : Int), .int .i64 ya, .bool comp, .slice none 0 0, .int .i64 (xc : Int), .slice none 0 0, .slice none 0 0, .slice none 0 0] from HD7.out.set_ 4 (.int .i64 (xc : Int)))
    have HV8 := Lib.hid (show RdAt (w7.setCell ⟨hd, 4, none⟩ (.int .i64 (xc : Int))) hv B rc A2 c2 from
      HV7.out.kept (only_setCell (World.grownBy.refl w7 (some hd)) (p := ⟨hd, 4, none⟩) (.inl rfl) (.int .i64 (xc : Int))) (fun k e => by injection e with e; subst e; exact ⟨HVD.out, by have h1 := HV.out.low; have h2 := HV.out.blk.lt; have h3 := HHD.out; omega⟩))
    have HK8 := Lib.hid (HK.out.took HV.out HNE.out HG8.out)
    have HB8 := Lib.hid (Below.took HB.out HX.out.size HLV.out HG8.out)
    have HX8 := Lib.hid (HX.out.took HV.out.blk reader_far HG8.out)
    clear k6 j6
    generalize w7.setCell ⟨hd, 4, none⟩ (.int .i64 (xc : Int)) = w8 at HG8 HD8 HV8 HK8 HB8 HX8 ⊢
    have d0 := HD8.out.cell 0
    have d1 := HD8.out.cell 1
    have d2 := HD8.out.cell 2
    have d3 := HD8.out.cell 3
    have d4 := HD8.out.cell 4
    have d5 := HD8.out.cell 5
    have d6 := HD8.out.cell 6
    have d7 := HD8.out.cell 7
    simp only [List.getElem?_toArray, List.getElem?_cons_zero, List.getElem?_cons_succ] at d0 d1 d2 d3 d4 d5 d6 d7
    have hml := (rows_more3 hcn).2.2.1
    obtain ⟨i0, hi0, hz0, hz1, hz2⟩ := info_parts infoRound
    obtain ⟨m, hm⟩ : ∃ m, s.rounds.length = m := ⟨_, rfl⟩
    have HM := Lib.hid hm
    have HC := Lib.hid (fun w' (h : StInX w' base g s Aa Ad Ar Aq ca cd cr cq) => (show w'.cell? ⟨g, 4, none⟩ = some (.slice Ar m cr) by
      have h0 := h.blk.cell 4
      simp only [stC, List.getElem?_toArray, List.getElem?_cons_zero, List.getElem?_cons_succ] at h0
      rw [hm] at h0
      exact h0))
    obtain ⟨cells, fI, fE, fN, hr1, hr2⟩ := HX8.out.rounds
    have HR1 := Lib.hid hr1
    have HR2 := Lib.hid hr2
    have HO := Lib.hid (show w8.ownsRow base 64 8 (.slice Ar m cr) m cells by
      rw [hm] at hr1
      exact hr1)
    rw [hm] at hml
    have gq := HC.out _ HX8.out
    have gq3 := HC.out _ (HX8.out.below ((Below.refl w8.heap.size w8).alloc (Nat.le_refl _) (.cells #[.int .u64 (xi : Int), .int .i64 ya, .bool comp, .slice none 0 0, .int .i64 (xc : Int), .slice none 0 0, .slice none 0 0, .slice none 0 0] 64)))
    have HBZ := Lib.hid (show base ≤ (w8.alloc (.cells #[.int .u64 (xi : Int), .int .i64 ya, .bool comp, .slice none 0 0, .int .i64 (xc : Int), .slice none 0 0, .slice none 0 0, .slice none 0 0] 64)).heap.size by have := HX8.out.size; simp; omega)
    clear hm hr1 hr2
    go_region_law (refine step_append_any _ rfl _ _ 25 rfl base 64 i0 (.agg #[.int .u64 0, .int .i64 0, .bool false, .slice none 0 0, .int .i64 0, .slice none 0 0, .slice none 0 0, .slice none 0 0]) 8 128 Try.underlying25 hi0 hz0 hz1 hz2 rfl (by omega) _ _ _ (by rfl) ((HO.out.alloc _).drew) _ _ 1 1 [.int .u64 (xi : Int), .int .i64 ya, .bool comp, .slice none 0 0, .int .i64 (xc : Int), .slice none 0 0, .slice none 0 0, .slice none 0 0] (by rfl) (by exact (Sl.lit (size := 8) (k := 1) (cap := 1) _ _ _ _ _ _ rfl rfl rfl (by omega) (by omega)).drew.rd) (by simp [Value.oneCell']) (by simp only [maxLen]; omega) (by omega) HBZ.out ?_; intro v9 w9 hown9 hgr9 hblk9; obtain ⟨A9, d9, rfl⟩ := own_slice hown9; have HO9 := Lib.hid hown9; have HG9 := Lib.hid (only_trans_alloc (only_undrew hgr9)); have HSB := Lib.hid (blk_grown HX8.out.blk HO.out (by decide) HG9.out); have q9 := (HSB.out).cell 4; have f9 := (HSB.out).frozen 4; simp only [stC, List.getElem?_toArray, List.getElem?_cons_zero, List.getElem?_cons_succ] at q9; clear hown9 hgr9 hblk9)
    all_goals
      clear gq gq3 d0 d1 d2 d3 d4 d5 d6 d7
      have HFIN := Lib.hid (show StIn (w9.setCell ⟨g, 4, none⟩ (.slice A9 (m + 1) d9)) base g { s with rounds := s.rounds ++ [⟨(xi : Int), ya, comp, [], (xc : Int), [], [], []⟩] } by have h := HX8.out.roundPush (x := ⟨(xi : Int), ya, comp, [], (xc : Int), [], [], []⟩) (w1 := w9) (A' := A9) (c' := d9) HR1.out HR2.out (by rw [HM.out]; exact HG9.out) (by rw [HM.out]; exact HO9.out) (by have h4 := HIS.out; exact ⟨⟨by show (0 : Int) ≤ (xi : Int); omega, by show (xi : Int) < 18446744073709551616; omega⟩, HIA.out, ⟨by simp only; omega, by simp only; omega⟩, by simp, by simp, by simp, by simp⟩) rfl rfl rfl rfl; rw [HM.out] at h; exact h)
      have HFK := Lib.hid (Blk.ne_ (HX8.out.blk) (HK8.out.blk) (by decide))
      have HFV := Lib.hid (Blk.ne_ (HX8.out.blk) (HV8.out.blk) (by decide))
      have kk := ((HK8.out.blk.grown HG9.out (fun he => own_blk_ne (HO.out) HK8.out.blk (by decide) he.symm)).far (p := ⟨g, 4, none⟩) (Ne.symm HFK.out) (.slice A9 (m + 1) d9)).cell 2
      have kv := ((HV8.out.blk.grown HG9.out (fun he => own_blk_ne (HO.out) HV8.out.blk (by decide) he.symm)).far (p := ⟨g, 4, none⟩) (Ne.symm HFV.out) (.slice A9 (m + 1) d9)).cell 2
      simp only [rdC, List.getElem?_toArray, List.getElem?_cons_zero, List.getElem?_cons_succ] at kk kv
      have HBF := Lib.hid ((HB8.out.grown HG9.out HX8.out.size (fun q hq => ((HO.out).lt q hq).1)).setCell (p := ⟨g, 4, none⟩) HX8.out.low (.slice A9 (m + 1) d9))
      generalize w9.setCell ⟨g, 4, none⟩ (.slice A9 (m + 1) d9) = w10 at HFIN kk kv HBF ⊢
      clear q9 f9
      obtain ⟨sk, hsk⟩ : ∃ sh, ri.sh = sh := ⟨_, rfl⟩
      rw [hsk] at HRD kk
      clear hsk
      obtain ⟨sh, hsh⟩ : ∃ sh, rc.sh = sh := ⟨_, rfl⟩
      rw [hsh] at HRD kv
      clear hsh
      cases sk with
      | true =>
        go_wp2_with fail
        go_ret
        rw [HRD.out]
        exact ReadTo.no HBF.out
      | false =>
        cases sh with
        | true =>
          go_wp2_with fail
          go_ret
          rw [HRD.out]
          exact ReadTo.no HBF.out
        | false =>
          go_wp2_with fail
          go_ret
          rw [HRD.out]
          exact ReadTo.yes HFIN.out HBF.out

end Go.Proofs.Ytniekddoaokmkaa

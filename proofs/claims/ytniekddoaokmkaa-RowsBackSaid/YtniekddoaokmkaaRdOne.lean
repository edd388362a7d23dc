/-
  Layer 23 (rows): a row taken into a state, walked: of the kind of accounts.
-/
import Derived.Test.YtniekddoaokmkaaRdZero
import Derived.Test.YtniekddoaokmkaaRdPush
namespace Go.Proofs.Ytniekddoaokmkaa
open Go.RowKit Go.Gab Go.Sort
set_option linter.unusedVariables false
attribute [local go_sem ↓] Go.wp_at_zero Go.wp_at_succ

theorem infoAcct : (Try.prog.info? 92).map (fun i => (i.zero, i.size, i.bytes)) = some (some (.agg #[.int .i64 0, .int .i64 0]), 2, 16) := by kernel_rfl
theorem rows_more {s : Rws.St} (h : (Rws.rowsOf s).length ≤ 1900000) : s.accts.length ≤ 1900000 ∧ s.dues.length ≤ 1900000 ∧ s.rounds.length ≤ 1900000 ∧ s.asked.length ≤ 1900000 := by
  unfold Rws.rowsOf at h
  simp only [List.length_append, List.length_map, Rws.mapI_length, List.length_singleton] at h
  omega

set_option maxHeartbeats 4000000 in
set_option maxRecDepth 100000 in
theorem read1_any (B base g : Nat) (s : Rws.St) (kb v : List UInt8) (A1 A2 : Option Addr) (n1 c1 c2 : Nat) (w : World) (hst : StIn w base g s) (hB : B ≤ base) (hk : BytesAt w B A1 n1 c1 (1 :: kb)) (hv : BytesAt w B A2 v.length c2 v)
    (hcn : (Rws.rowsOf s).length ≤ 1900000) (hkl : kb.length ≤ 274877906944) (hvl : v.length ≤ 274877906944) :
    Calls Try.prog 23 #[.pointer (some ⟨g, 0, none⟩), pairV A1 A2 n1 c1 v.length c2] w (ReadTo base g (Rws.readRow s (1 :: kb, v)) w) := by
  have hn1 := hk.sl.lenB
  simp at hn1
  obtain ⟨A3, hs3, hA3⟩ := Sl.tail1 hk.sl
  have hsl := sliceRunB (n := n1) (c := c1) (by omega) (hA := hA3)
  obtain ⟨b1, o1, x1, rfl, hb1, hx1, hc1, _⟩ := hk.sl.byte (k := 0) (by omega)
  have HST := Lib.hid hst
  have HS3 := Lib.hid hs3
  have HK := Lib.hid hk
  have HV := Lib.hid hv
  have hpos : 0 < n1 := by omega
  have hn0 : ((n1 : Int) == 0) = false := by simp; omega
  have HN1 := Lib.hid hn1
  clear hst hs3 hA3 hk hv hn1
  unfold pairV
  go_enter Try.func23, Try.ntmps23
  go_wp2_with fail
  go_cut [5, 6] (fun x y wx => ∃ hk hv, x = .pointer (some ⟨hk, 0, none⟩) ∧ y = .pointer (some ⟨hv, 0, none⟩) ∧ Laid wx base g w.heap.size hk hv B s 1 kb v (some ⟨b1, o1, none⟩) A2 A3 n1 c1 c2 (c1 - 1) ∧ Below base w wx)
  case first =>
    have HSZ := Lib.hid (show n1 - 1 = kb.length by have := HN1.out; omega)
    rw [HSZ.out] at hsl
    go_region
    all_goals
      have hs3 := HS3.out
      rw [HSZ.out] at hs3
    · go_wp2_with fail
      go_meet
      case rel =>
        have d1 := (((Blk.new w 42 #[.slice (some ⟨b1, o1, none⟩) n1 c1, .slice A2 v.length c2]).alloc (.cells #[.slice A3 kb.length (c1 - 1), .int .i64 0, .bool false] 99)).alloc (.cells #[.slice A2 v.length c2, .int .i64 0, .bool false] 99)).drew
        have d2 := ((Blk.new (w.alloc (.cells #[.slice (some ⟨b1, o1, none⟩) n1 c1, .slice A2 v.length c2] 42)) 99 #[.slice A3 kb.length (c1 - 1), .int .i64 0, .bool false]).alloc (.cells #[.slice A2 v.length c2, .int .i64 0, .bool false] 99)).drew
        have d3 := (Blk.new ((w.alloc (.cells #[.slice (some ⟨b1, o1, none⟩) n1 c1, .slice A2 v.length c2] 42)).alloc (.cells #[.slice A3 kb.length (c1 - 1), .int .i64 0, .bool false] 99)) 99 #[.slice A2 v.length c2, .int .i64 0, .bool false]).drew
        have hb := ((((Below.refl w.heap.size w).alloc (Nat.le_refl _) (.cells #[.slice (some ⟨b1, o1, none⟩) n1 c1, .slice A2 v.length c2] 42)).alloc (by simp) (.cells #[.slice A3 kb.length (c1 - 1), .int .i64 0, .bool false] 99)).alloc (by simp; omega) (.cells #[.slice A2 v.length c2, .int .i64 0, .bool false] 99)).drew
        rw [show (w.alloc (.cells #[.slice (some ⟨b1, o1, none⟩) n1 c1, .slice A2 v.length c2] 42)).heap.size = w.heap.size + 1 by simp] at d2
        rw [show ((w.alloc (.cells #[.slice (some ⟨b1, o1, none⟩) n1 c1, .slice A2 v.length c2] 42)).alloc (.cells #[.slice A3 kb.length (c1 - 1), .int .i64 0, .bool false] 99)).heap.size = w.heap.size + 1 + 1 by simp] at d3
        exact ⟨w.heap.size + 1, w.heap.size + 1 + 1, rfl, rfl, laid_mk HST.out hB HK.out.sl hs3 HV.out hkl hvl hb d1 d2 d3 (by omega) (by omega) (by omega), hb.mono HST.out.size⟩
    · go_wp2_with fail
      go_meet
      case rel =>
        have d1 := (((Blk.new w 42 #[.slice (some ⟨b1, o1, none⟩) n1 c1, .slice A2 v.length c2]).alloc (.cells #[.slice A2 v.length c2, .int .i64 0, .bool false] 99)).alloc (.cells #[.slice A3 kb.length (c1 - 1), .int .i64 0, .bool false] 99)).drew
        have d2 := ((Blk.new (w.alloc (.cells #[.slice (some ⟨b1, o1, none⟩) n1 c1, .slice A2 v.length c2] 42)) 99 #[.slice A2 v.length c2, .int .i64 0, .bool false]).alloc (.cells #[.slice A3 kb.length (c1 - 1), .int .i64 0, .bool false] 99)).drew
        have d3 := (Blk.new ((w.alloc (.cells #[.slice (some ⟨b1, o1, none⟩) n1 c1, .slice A2 v.length c2] 42)).alloc (.cells #[.slice A2 v.length c2, .int .i64 0, .bool false] 99)) 99 #[.slice A3 kb.length (c1 - 1), .int .i64 0, .bool false]).drew
        have hb := ((((Below.refl w.heap.size w).alloc (Nat.le_refl _) (.cells #[.slice (some ⟨b1, o1, none⟩) n1 c1, .slice A2 v.length c2] 42)).alloc (by simp) (.cells #[.slice A2 v.length c2, .int .i64 0, .bool false] 99)).alloc (by simp; omega) (.cells #[.slice A3 kb.length (c1 - 1), .int .i64 0, .bool false] 99)).drew
        rw [show (w.alloc (.cells #[.slice (some ⟨b1, o1, none⟩) n1 c1, .slice A2 v.length c2] 42)).heap.size = w.heap.size + 1 by simp] at d2
        rw [show ((w.alloc (.cells #[.slice (some ⟨b1, o1, none⟩) n1 c1, .slice A2 v.length c2] 42)).alloc (.cells #[.slice A2 v.length c2, .int .i64 0, .bool false] 99)).heap.size = w.heap.size + 1 + 1 by simp] at d3
        exact ⟨w.heap.size + 1 + 1, w.heap.size + 1, rfl, rfl, laid_mk HST.out hB HK.out.sl hs3 HV.out hkl hvl hb d1 d3 d2 (by omega) (by omega) (by omega), hb.mono HST.out.size⟩
  case rest =>
    obtain ⟨hk, hv, rfl, rfl, L, hb⟩ := hcut
    clear hsl HST HS3 HK HV hc1
    obtain ⟨b2, o2, y2, hA2, _, hy2, kc, _⟩ := L.key.byte (k := 0) (by omega)
    obtain ⟨rfl, rfl⟩ : b1 = b2 ∧ o1 = o2 := by injection hA2 with e; injection e with e1 e2; exact ⟨e1, e2⟩
    have hy3 : y2 = 1 := by simpa using hy2.symm
    subst hy3
    have hx3 : x1 = 1 := by simpa using hx1.symm
    subst hx3
    rw [Nat.add_zero] at kc
    have hb0 := L.box.cell 0
    simp only [List.getElem?_toArray, List.getElem?_cons_zero] at hb0
    have HLA := Lib.hid L
    have HBL := Lib.hid hb
    have HNE := Lib.hid L.ne
    have HRK := Lib.hid L.rk
    have HLV := Lib.hid L.lv
    clear L hb hA2 hy2 hx1
    obtain ⟨⟨xa, ra⟩, ha⟩ : ∃ q, (⟨v, 0, false⟩ : Rws.Rd).take 8 = q := ⟨_, rfl⟩
    obtain ⟨⟨xb, rb⟩, hb⟩ : ∃ q, ra.take 8 = q := ⟨_, rfl⟩
    have hra := (⟨v, 0, false⟩ : Rws.Rd).take_8
    have hrb := ra.take_8
    have HRD := Lib.hid (show Rws.readRow s (1 :: kb, v) = if rb.sh then none else some { s with accts := s.accts ++ [⟨Rws.s64 xa, Rws.s64 xb⟩] } by
      show Rws.readAcct s ⟨v, 0, false⟩ = _
      unfold Rws.readAcct
      rw [ha]
      simp only
      rw [hb])
    have HCA := Lib.hid (fun w hr => rlong_any hv B ⟨v, 0, false⟩ A2 c2 w hr)
    have HCB := Lib.hid (fun w hr => rlong_any hv B ra A2 c2 w hr)
    rw [ha] at HCA hra
    rw [hb] at HCB hrb
    simp only at hra hrb
    have HIA := Lib.hid (Rws.s64_lo xa hra)
    have HIB := Lib.hid (Rws.s64_lo xb hrb)
    obtain ⟨ya, hya⟩ : ∃ y, Rws.s64 xa = y := ⟨_, rfl⟩
    obtain ⟨yb, hyb⟩ : ∃ y, Rws.s64 xb = y := ⟨_, rfl⟩
    rw [hya] at HRD HIA HCA
    rw [hyb] at HRD HIB HCB
    obtain ⟨Aa, Ad, Ar, Aq, ca, cd, cr, cq, hX⟩ := HLA.out.st.open_
    have HX0 := Lib.hid hX
    have hml := (rows_more hcn).1
    obtain ⟨i0, hi0, hz0, hz1, hz2⟩ := info_parts infoAcct
    obtain ⟨m, hm⟩ : ∃ m, s.accts.length = m := ⟨_, rfl⟩
    have HM := Lib.hid hm
    have hc0 := hX.blk.cell 1
    simp only [stC, List.getElem?_toArray, List.getElem?_cons_zero, List.getElem?_cons_succ] at hc0
    rw [hm] at hc0 hml
    have HC := Lib.hid (fun w' (h : StInX w' base g s Aa Ad Ar Aq ca cd cr cq) => (show w'.cell? ⟨g, 1, none⟩ = some (.slice Aa m ca) by
      have h0 := h.blk.cell 1
      simp only [stC, List.getElem?_toArray, List.getElem?_cons_zero, List.getElem?_cons_succ] at h0
      rw [hm] at h0
      exact h0))
    have HO := Lib.hid (fun w' (h : StInX w' base g s Aa Ad Ar Aq ca cd cr cq) => (show w'.ownsRow base 92 2 (.slice Aa m ca) m (s.accts.flatMap acctC) by
      have h0 := h.accts
      rw [hm] at h0
      exact h0))
    clear ha hb hX hm hya hyb hra hrb
    go_wp2_with fail
    go_region_law (first
      | ((refine step_append_any _ rfl _ _ 22 rfl base 92 i0 (.agg #[.int .i64 0, .int .i64 0]) 2 16 Try.underlying22 hi0 hz0 hz1 hz2 rfl (by omega) _ _ _ (by rfl) ((HO.out _ HX2.out).alloc _) _ _ 1 1 [.int .i64 ya, .int .i64 yb] (by rfl) (by exact (Sl.lit (size := 2) (k := 1) (cap := 1) _ _ _ _ _ _ rfl rfl rfl (by omega) (by omega)).rd) (by simp [Value.oneCell']) (by simp only [maxLen]; omega) (by omega) HBZ.out ?_; intro v9 w9 hown9 hgr9 hblk9; obtain ⟨A9, d9, rfl⟩ := own_slice hown9; have HO9 := Lib.hid hown9; have HG9 := Lib.hid (only_trans_alloc hgr9); have HSB := Lib.hid (blk_grown HX2.out.blk HX2.out.accts (by decide) (by rw [HM.out]; exact HG9.out)); have q9 := (HSB.out).cell 1; have f9 := (HSB.out).frozen 1; simp only [stC, List.getElem?_toArray, List.getElem?_cons_zero, List.getElem?_cons_succ] at q9; clear hown9 hgr9 hblk9))
      | (go_simp; go_at_call 47; (with_reducible refine (HCA.out _ HLA.out.rv.drew).mono ?_); rintro e w1 ⟨rfl, rv1, g1⟩; have HX1 := Lib.hid ((HX0.out.below ((Below.refl _ _).drew)).took HLA.out.rv.drew.blk reader_far g1); have HK1 := Lib.hid (HLA.out.rk.drew.took HLA.out.rv.drew HNE.out g1); have HB1 := Lib.hid (Below.took HBL.out.drew HLA.out.st.size HLV.out g1); have HV1 := Lib.hid rv1; have q1 := HC.out _ HX1.out; clear rv1 g1)
      | (go_simp; go_at_call 47; (with_reducible refine (HCB.out _ HV1.out).mono ?_); rintro e w2 ⟨rfl, rv2, g2⟩; have HX2 := Lib.hid (HX1.out.took HV1.out.blk reader_far g2); have HK2 := Lib.hid (HK1.out.took HV1.out HNE.out g2); have HB2 := Lib.hid (Below.took HB1.out HX1.out.size HLV.out g2); have HV2 := Lib.hid rv2; have HBZ := Lib.hid (show base ≤ (w2.alloc (.cells #[.int .i64 ya, .int .i64 yb] 92)).heap.size by have := HX2.out.size; simp; omega); have q2 := HC.out _ HX2.out; have q3 := HC.out _ (HX2.out.below ((Below.refl w2.heap.size w2).alloc (Nat.le_refl _) (.cells #[.int .i64 ya, .int .i64 yb] 92))); clear rv2 g2))
    all_goals
      clear q1 q2 q3 hc0
      have HFIN := Lib.hid (show StIn (w9.setCell ⟨g, 1, none⟩ (.slice A9 (m + 1) d9)) base g { s with accts := s.accts ++ [⟨ya, yb⟩] } by have h := HX2.out.acctPush (x := ⟨ya, yb⟩) (w1 := w9) (A' := A9) (c' := d9) (by rw [HM.out]; exact HG9.out) (by rw [HM.out]; exact HO9.out) ⟨HIA.out, HIB.out⟩; rw [HM.out] at h; exact h)
      have HFK := Lib.hid (Blk.ne_ (HX2.out.blk) (HK2.out.blk) (by decide))
      have HFV := Lib.hid (Blk.ne_ (HX2.out.blk) (HV2.out.blk) (by decide))
      have kk := ((HK2.out.blk.grown HG9.out (fun he => own_blk_ne (HO.out _ HX2.out) HK2.out.blk (by decide) he.symm)).far (p := ⟨g, 1, none⟩) (Ne.symm HFK.out) (.slice A9 (m + 1) d9)).cell 2
      have kv := ((HV2.out.blk.grown HG9.out (fun he => own_blk_ne (HO.out _ HX2.out) HV2.out.blk (by decide) he.symm)).far (p := ⟨g, 1, none⟩) (Ne.symm HFV.out) (.slice A9 (m + 1) d9)).cell 2
      simp only [rdC, List.getElem?_toArray, List.getElem?_cons_zero, List.getElem?_cons_succ] at kk kv
      have HBF := Lib.hid ((HB2.out.grown HG9.out HX2.out.size (fun q hq => ((HO.out _ HX2.out).lt q hq).1)).setCell (p := ⟨g, 1, none⟩) HX2.out.low (.slice A9 (m + 1) d9))
      generalize w9.setCell ⟨g, 1, none⟩ (.slice A9 (m + 1) d9) = w10 at HFIN kk kv HBF ⊢
      clear q9 f9
      obtain ⟨sh, hsh⟩ : ∃ sh, rb.sh = sh := ⟨_, rfl⟩
      rw [hsh] at HRD kv
      clear hsh
      cases sh with
      | true =>
        go_wp2_with fail
        go_ret
        rw [HRD.out]
        exact ReadTo.no HBF.out
      | false =>
        go_wp2_with fail
        go_ret
        rw [HRD.out]
        exact ReadTo.yes HFIN.out HBF.out

end Go.Proofs.Ytniekddoaokmkaa

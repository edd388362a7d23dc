/-
  Layer 31 (cascade): CascadeHelps, walked.
-/
import Derived.Test.YtlkbdmbfbmekaaaCasAll
namespace Go.Proofs.Ytlkbdmbfbmekaaa
open Go.RowKit Go.Gab
set_option linter.unusedVariables false
attribute [local go_sem ↓] Go.wp_at_zero Go.wp_at_succ

theorem u8_of_wf {z : Int} (h : (Lit.int .u8 z).wf = true) : ∃ k : Nat, z = (k : Int) ∧ k < 256 := by
  simp [Lit.wf, IntKind.min, IntKind.max, IntKind.signed, IntKind.bits] at h
  exact ⟨z.toNat, by omega, by omega⟩

theorem run_index_all (d : Nat → Bool) {b : Nat} (hb : b < 16) (w : World) : (Instr.index 59 (.agg (boolsA (bF 16 d))) (.int .i64 (b : Int))).run Try.prog w = .ok (.bool (d b)) w := by
  have h1 : (0 : Int) ≤ b ∧ (b : Int) < 16 := by omega
  have e : (boolsA (bF 16 d))[b]? = some (.bool (d b)) := by rw [boolsA_get, bF_get _ hb]; rfl
  have e2 : (boolsA (bF 16 d)).size = 16 := size_bF _ _
  have u0 : Try.prog.underlying 59 = some (.array 16 4) := Try.underlying59
  have s0 : (Try.prog.info? 4).map (·.size) = some 1 := by kernel_rfl
  obtain ⟨q, hq, hs⟩ := Option.map_eq_some_iff.1 s0
  simp [Instr.index, run_underlying u0, asIntOf, h1, go_sem, sizeOf, typeInfo, hq, hs, e]
  intro h
  omega

theorem infoAcct : (Try.prog.info? 63).map (fun i => (i.zero, i.size, i.bytes)) = some (some (.agg #[.int .i64 0, .int .i64 0]), 2, 16) := by kernel_rfl

theorem helpIs_cases {bals : List Int} {l : List Cas.Due} {first : List Int} {b : Nat} {x z : Int} (hb : b < bals.length) (h : HelpIs bals l first (b : Int) x z) :
    (Cas.errs bals l first ≠ 0 ∧ x = 0 ∧ z = Cas.errs bals l first) ∨ (Cas.errs bals l first = 0 ∧ z = 0 ∧ first.contains (b : Int) = true ∧ x = 0) ∨
    (Cas.errs bals l first = 0 ∧ z = 0 ∧ first.contains (b : Int) = false ∧ ∃ P, Cas.EndEx bals l first b P ∧ x = max (Cas.lack bals l P b) 0) := by
  unfold HelpIs at h
  by_cases h1 : Cas.errs bals l first ≠ 0
  · rw [if_pos h1] at h
    exact .inl ⟨h1, h⟩
  · rw [if_neg h1, if_neg (by omega)] at h
    have h1 : Cas.errs bals l first = 0 := by omega
    cases hc : first.contains (b : Int) with
    | true =>
      rw [if_pos hc] at h
      exact .inr (.inl ⟨h1, h.2, rfl, h.1⟩)
    | false =>
      rw [if_neg (by rw [hc]; decide)] at h
      obtain ⟨hz, P, hP, hx⟩ := h
      exact .inr (.inr ⟨h1, hz, rfl, P, by simpa using hP, by simpa using hx⟩)

theorem wf_i64 {z : Int} (h : I64 z) : (Lit.int .i64 z).wf = true := by
  unfold I64 at h
  simp [Lit.wf, IntKind.min, IntKind.max, IntKind.signed, IntKind.bits]
  exact h
theorem errs_set {bals : List Int} {l : List Cas.Due} {first : List Int} (h : Cas.errs bals l first = 0) (b : Nat) {z : Int} (h0 : 0 ≤ z) (h1 : z ≤ 4503599627370496) : Cas.errs (bals.set b z) l first = 0 := by
  have hok := (Cas.ok_of_errs h).1
  refine Cas.errs_rich h (List.length_set ..) fun x hx => ?_
  rcases List.mem_or_eq_of_mem_set hx with hx | rfl
  · exact hok.bal x hx
  · exact ⟨h0, h1⟩
theorem acctWf_set {xs : List AcctT} (h : AcctWf xs) {b : Nat} {x : AcctT} (hx : xs[b]? = some x) {z : Int} (hz : I64 z) : AcctWf (xs.set b (z, x.2)) := by
  intro y hy
  rcases List.mem_or_eq_of_mem_set hy with hy | rfl
  · exact h y hy
  · exact ⟨wf_i64 hz, (h x (List.mem_of_getElem? hx)).2⟩

set_option maxHeartbeats 4000000 in
set_option maxRecDepth 20000 in
theorem casHelps_any (A : Option Addr) (n c : Nat) (xs : List AcctT) (A1 : Option Addr) (n1 c1 : Nat) (ys : List DueT) (A2 : Option Addr) (n2 c2 : Nat) (zs : List Int) (k : Nat) (w : World) (hk : k < 256)
    (hr : SlR acctR w w.heap.size A n c xs) (hr1 : SlR dueR w w.heap.size A1 n1 c1 ys) (hr2 : SlI w w.heap.size A2 n2 c2 zs) :
    Calls Try.prog 9 #[.slice A n c, .slice A1 n1 c1, .slice A2 n2 c2, .int .u8 (k : Int)] w fun e w' => e = .returned (.bool true) ∧ Below w.heap.size w w' := by
  have HR := Lib.hid hr
  have HR1 := Lib.hid hr1
  have HR2 := Lib.hid hr2
  have hnc := hr.nc
  have hcm := hr.cm
  have hnc1 := hr1.nc
  have hcm1 := hr1.cm
  have hnc2 := hr2.nc
  have hcm2 := hr2.cm
  have HW := Lib.hid casWorks_any
  clear hr hr1 hr2
  by_cases h0 : (16 : Int) < n ∨ (64 : Int) < n1 ∨ (16 : Int) < n2 ∨ n = 0
  · have hc : ((16 : Int) < n) ∨ (¬ (16 : Int) < n ∧ (64 : Int) < n1) ∨ (¬ (16 : Int) < n ∧ ¬ (64 : Int) < n1 ∧ (16 : Int) < n2) ∨ (¬ (16 : Int) < n ∧ ¬ (64 : Int) < n1 ∧ ¬ (16 : Int) < n2 ∧ n = 0) := by omega
    clear h0
    rcases hc with h1 | ⟨h1, h2⟩ | ⟨h1, h2, h3⟩ | ⟨h1, h2, h3, rfl⟩
    all_goals
      go_enter Try.func9, Try.ntmps9
      go_wp2_with fail
      refine (HW.out _).mono ?_
      rintro e w1 ⟨rfl, hb⟩
      have HB := Lib.hid hb
      clear hb
      go_wp2_with fail
      go_ret
      exact ⟨rfl, HB.out⟩
  have hn0 : 0 < n := by omega
  have hn0' : ((n : Int) == 0) = false := by simp; omega
  have hn : (n : Int) ≤ 16 := by omega
  have hn1 : (n1 : Int) ≤ 64 := by omega
  have hn2 : (n2 : Int) ≤ 16 := by omega
  clear h0
  obtain ⟨b, hb⟩ : ∃ b : Nat, k % n = b := ⟨_, rfl⟩
  have hbn : b < n := by rw [← hb]; exact Nat.mod_lt _ hn0
  have hbi : (k : Int) % (n : Int) = (b : Int) := by rw [← hb]; exact (Int.natCast_emod k n).symm
  clear hb
  have HBN := Lib.hid (show b < (xs.map bal).length by rw [List.length_map, HR.out.len]; exact hbn)
  go_enter Try.func9, Try.ntmps9
  go_wp2_with fail
  rw [hbi]
  clear hbi hn0'
  refine (help_any w.heap.size A n c xs A1 n1 c1 ys A2 n2 c2 zs (b : Int) w (Nat.le_refl _) (by unfold I64; omega) HR.out HR1.out HR2.out).mono ?_
  rintro e w1 ⟨x, z, rfl, hh, hb1⟩
  have HB1 := Lib.hid hb1
  clear hb1
  rcases helpIs_cases HBN.out hh with ⟨he, rfl, hz⟩ | ⟨he, rfl, hc, rfl⟩ | ⟨he, rfl, hc, P, hP, hx⟩
  · clear hh
    have hz1 : (z == 0) = false := by simp; omega
    have hz2 : (z != 0) = true := by simp; omega
    have HE := Lib.hid he
    have HZ := Lib.hid hz
    clear he hz
    go_wp2_with fail
    refine (HW.out _).mono ?_
    rintro e w2 ⟨rfl, hb⟩
    have HB := Lib.hid (HB1.out.trans (hb.mono HB1.out.size))
    clear hb
    go_wp2_with fail
    go_ret
    exact ⟨rfl, HB.out⟩
  · clear hh
    have HE := Lib.hid he
    have HC := Lib.hid hc
    clear he hc
    go_wp2_with fail
    refine (fall_any w.heap.size A n c xs A1 n1 c1 ys A2 n2 c2 zs w1 HB1.out.size (HR.out.below HB1.out (Nat.le_refl _)) (HR1.out.below HB1.out (Nat.le_refl _)) (HR2.out.below HB1.out (Nat.le_refl _))).mono ?_
    rintro e w2 ⟨A4, c4, rs, vs, rfl, hrs, hown, hrows, hb⟩
    have HB2 := Lib.hid (HB1.out.trans (hb.mono HB1.out.size))
    rw [HE.out]
    clear hrs hown hrows hb
    obtain ⟨rl, hrl⟩ : ∃ q, rs.length = q := ⟨_, rfl⟩
    rw [hrl]
    clear hrl
    go_wp2_with fail
    go_loop [14] (fun i => ∃ j : Nat, j ≤ n2 ∧ i = .int .i64 j ∧ (zs.take j).contains (b : Int) = false) (fun i => n2 - (intOf i).toNat)
    case atStart => exact ⟨0, Nat.zero_le _, rfl, by simp⟩
    case round =>
      obtain ⟨j, hj, rfl, hno⟩ := hrel
      have HNO := Lib.hid hno
      clear hno
      by_cases hlt : j < n2
      · obtain ⟨q, off, y, rfl, hq, hy, hcell, _⟩ := int_at' (HR2.out.below HB2.out (Nat.le_refl _)) hlt
        have HTK := Lib.hid (take_succ_of hy)
        clear hy
        by_cases hyb : y = (b : Int)
        · subst hyb
          go_wp2_with fail
          refine (HW.out _).mono ?_
          rintro e w3 ⟨rfl, hb⟩
          have HB := Lib.hid (HB2.out.trans (hb.mono HB2.out.size))
          clear hb
          go_wp2_with fail
          go_ret
          exact ⟨rfl, HB.out⟩
        · have hyb' : (y == (b : Int)) = false := by simpa using hyb
          have HY := Lib.hid (show (zs.take (j + 1)).contains (b : Int) = false by
            rw [HTK.out, List.contains_append, HNO.out]
            simp
            exact fun h => hyb h.symm)
          go_wp2_with fail
          go_round
          case rel => exact ⟨j + 1, by omega, by go_num, HY.out⟩
          case measure => simp [intOf]; omega
      · obtain rfl : n2 = j := by omega
        have := HNO.out
        rw [List.take_of_length_le (by rw [HR2.out.len]; exact Nat.le_refl _), HC.out] at this
        cases this
  · have HC := Lib.hid hc
    have HP := Lib.hid hP
    have HX := Lib.hid hx
    have HOK := Lib.hid (Cas.ok_of_errs he)
    have HE := Lib.hid he
    clear hh hc hP hx he
    go_wp2_with fail
    refine (fall_any w.heap.size A n c xs A1 n1 c1 ys A2 n2 c2 zs w1 HB1.out.size (HR.out.below HB1.out (Nat.le_refl _)) (HR1.out.below HB1.out (Nat.le_refl _)) (HR2.out.below HB1.out (Nat.le_refl _))).mono ?_
    rintro e w2 ⟨A4, c4, rs, vs, rfl, hrs, hown, hrows, hb⟩
    rw [if_pos HE.out] at hrs
    have HRS := Lib.hid hrs
    have HB2 := Lib.hid (HB1.out.trans (hb.mono HB1.out.size))
    have HRR := Lib.hid (RR.of hown hrows)
    rw [HE.out]
    clear hrs hown hrows hb HB1
    have HAL := Lib.hid (all_any A4 c4 rs w2 HRR.out)
    obtain ⟨rl, hrl⟩ : ∃ q, rs.length = q := ⟨_, rfl⟩
    rw [hrl] at HAL ⊢
    have HRL := Lib.hid hrl
    clear hrl
    go_wp2_with fail
    go_loop [14] (fun i => ∃ j : Nat, j ≤ n2 ∧ i = .int .i64 j) (fun i => n2 - (intOf i).toNat)
    case atStart => exact ⟨0, Nat.zero_le _, rfl⟩
    case round =>
      obtain ⟨j, hj, rfl⟩ := hrel
      by_cases hlt : j < n2
      · obtain ⟨q, off, y, rfl, hq, hy, hcell, _⟩ := int_at' (HR2.out.below HB2.out (Nat.le_refl _)) hlt
        have hyb : ¬ y = (b : Int) := by
          rintro rfl
          have := HC.out
          rw [List.contains_iff_mem.2 (List.mem_of_getElem? hy)] at this
          cases this
        have hyb' : (y == (b : Int)) = false := by simpa using hyb
        clear hy
        go_wp2_with fail
        go_round
        case rel => exact ⟨j + 1, by omega, by go_num⟩
        case measure => simp [intOf]; omega
      · obtain rfl : n2 = j := by omega
        have HEND := Lib.hid (show inRows rs b = Cas.End (xs.map bal) (ys.map due) zs b by rw [HRS.out, in_end])
        obtain ⟨dn, hdn⟩ : ∃ dn, inRows rs = dn := ⟨_, rfl⟩
        rw [hdn] at HAL HEND
        clear hdn
        have hb16 : b < 16 := by omega
        have hix := fun w => run_index_all dn hb16 w
        by_cases hx0 : x = 0
        · subst hx0
          have hdb : dn b = false := by
            rw [HEND.out]
            cases hE : Cas.End (xs.map bal) (ys.map due) zs b with
            | false => rfl
            | true =>
              have := (HP.out.iff HOK.out.1 HBN.out).1 hE
              have := HX.out
              omega
          simp only [hdb] at hix
          clear hdb
          go_wp2_with fail
          refine HAL.out.mono ?_
          rintro e w3 ⟨rfl, hb⟩
          have HB3 := Lib.hid (HB2.out.trans (hb.mono HB2.out.size))
          clear hb
          go_wp2_with fail
          refine (HW.out _).mono ?_
          rintro e w4 ⟨rfl, hb⟩
          have HB := Lib.hid (HB3.out.trans (hb.mono HB3.out.size))
          clear hb
          go_wp2_with fail
          go_ret
          exact ⟨rfl, HB.out⟩
        · have hx1 : 0 < x := by have := HX.out; omega
          have hxe : x = Cas.lack (xs.map bal) (ys.map due) P b := by have := HX.out; omega
          have HXE := Lib.hid hxe
          have hxm : x ≤ 4503599627370496 := by rw [hxe]; exact Cas.lack_most HOK.out.1 HBN.out P
          have hx2 : (x == 0) = false := by simpa using hx0
          have hx3 : ¬ x < 0 := by omega
          obtain ⟨p, off, y, rfl, hp, hy, hc0, hc1, _⟩ := acct_at HR.out hbn
          obtain ⟨y0, y1, yu⟩ := y
          simp only at hc0 hc1
          have hbal := HOK.out.1.bal y0 (List.mem_map.2 ⟨(y0, y1, yu), List.mem_of_getElem? hy, rfl⟩)
          have hy0 : 0 ≤ y0 := hbal.1
          have hy1 : y0 ≤ 4503599627370496 := hbal.2
          have k0 := cell_below HB2.out hc0
          have HY := Lib.hid hy
          have HGD := Lib.hid (show (xs.map bal).getD b 0 = y0 by rw [List.getD_eq_getElem?_getD, List.getElem?_map, hy]; rfl)
          clear hy hbal hxe hc0 hc1 hx0
          by_cases hbig : 4503599627370496 < y0 + x
          · go_wp2_with fail
            refine (HW.out _).mono ?_
            rintro e w4 ⟨rfl, hb⟩
            have HB := Lib.hid (HB2.out.trans (hb.mono HB2.out.size))
            clear hb
            go_wp2_with fail
            go_ret
            exact ⟨rfl, HB.out⟩
          · have hsm : y0 + x ≤ 4503599627370496 := by omega
            clear hbig
            obtain ⟨i0, hi0, hz0, hz1, hz2⟩ := info_parts infoAcct
            have HRD := Lib.hid (show Reads (w2.alloc (.cells #[] 63)) w.heap.size 2 _ n (acctsV xs) from ((acct_reads (HR.out.below HB2.out (Nat.le_refl _))).alloc HB2.out.size _))
            have HLIT := Lib.hid (World.ownsRow_lit (base := w.heap.size) (e := 63) (size := 2) w2 #[] 0 HB2.out.size (by omega) rfl)
            have HO1 := Lib.hid (acctsV_one xs)
            go_wp2_with (at_builtin
                         refine wpList_append_any _ rfl _ _ _ rfl w.heap.size 63 i0 _ 2 16 Try.underlying45 hi0 hz0 hz1 hz2 rfl (by omega) (.slice (some ⟨w2.heap.size, 0, none⟩) 0 0) 0 [] rfl HLIT.out w.heap.size _ n c (acctsV xs) rfl HRD.out HO1.out (by simp only [maxLen]; omega) (by omega) (by have := HB2.out.size; simp; omega) ?_
                         intro v' w3 hown hgr hblk
                         have hb1 : Below w.heap.size w w3 := (HB2.out.alloc HB2.out.size _).grown hgr (by have := HB2.out.size; simp; omega) (fun k hk => by cases hk; exact HB2.out.size)
                         obtain ⟨A3, c3, rfl⟩ := own_slice hown
                         rw [List.nil_append] at hown
                         obtain ⟨n3, hn3⟩ : ∃ n3, 0 + n = n3 := ⟨_, rfl⟩
                         rw [hn3] at hown ⊢
                         obtain rfl : n = n3 := by omega
                         obtain ⟨g, cap, hA, hg, hgl⟩ := hown.form hn0
                         injection hA with hA1 _ hA2
                         subst hA1 hA2
                         obtain ⟨m0, m1⟩ := acctsV_at xs b _ HY.out
                         have k2 := (hown.cellAt (b * 2) (by omega)).trans m0
                         have k3 := hown.frozenAt (b * 2)
                         simp only at k2
                         have HB3 := Lib.hid hb1
                         have HO3 := Lib.hid hown
                         have HGL := Lib.hid hg
                         have hcap : n ≤ c3 := (Sl.of_own hown).nc
                         have hcap2 : c3 ≤ 9223372036854775807 := (Sl.of_own hown).cm
                         clear hgr hblk hb1 hown hn3 m0 m1 hg)
            -- one has so much more
            obtain ⟨hst, hgr⟩ := HO3.out.stored (b * 2) (.int .i64 (y0 + x))
            rw [acctsV_set xs b _ HY.out] at hst
            have hb4 : Below w.heap.size w (w3.setCell ⟨g, b * 2, none⟩ (.int .i64 (y0 + x))) := HB3.out.setCell HGL.out _
            generalize w3.setCell ⟨g, b * 2, none⟩ (.int .i64 (y0 + x)) = w4 at hst hgr hb4 ⊢
            have hx1b : xs.set b (y0 + x, y1, yu) = xs.set b (y0 + x, (y0, y1, yu).2) := rfl
            have HWF1 := Lib.hid (acctWf_set (acct_wf HR.out) HY.out (z := y0 + x) (by unfold I64; omega))
            have HE1 := Lib.hid (errs_set HE.out b (z := y0 + x) (by omega) hsm)
            have HBS := Lib.hid (show (xs.set b (y0 + x, (y0, y1, yu).2)).map bal = (xs.map bal).set b (y0 + x) from bal_set)
            have HS1 := Lib.hid (show (xs.set b (y0 + x, (y0, y1, yu).2))[b]? = some (y0 + x, y1, yu) by
              rw [List.getElem?_set, if_pos rfl, if_pos (by have := HBN.out; rw [List.length_map] at this; exact this)])
            have HS2 := Lib.hid (show (xs.set b (y0 + x, (y0, y1, yu).2)).set b (y0 + x - 1, y1, yu) = xs.set b (y0 + x - 1, y1, yu) by rw [List.set_set])
            have HS3 := Lib.hid (show (xs.set b (y0 + x - 1, y1, yu)).map bal = (xs.map bal).set b (y0 + x - 1) by rw [List.map_set]; rfl)
            obtain ⟨xs1, hxs1⟩ : ∃ q, xs.set b (y0 + x, (y0, y1, yu).2) = q := ⟨_, rfl⟩
            rw [hxs1] at hst HWF1 HBS HS1 HS2
            have HST := Lib.hid hst
            have HB4 := Lib.hid hb4
            have HSL := Lib.hid (acct_of_own hst HWF1.out)
            have HG4 := Lib.hid (show g < w4.heap.size by
              obtain ⟨g', cap', hA', _, hl'⟩ := hst.form hn0
              injection hA' with hA' _ _
              injection hA' with hA'
              injection hA' with hA'
              omega)
            clear hst hgr hb4 hx1b hxs1 k0 k2 k3 HO3 HB3 HRD HLIT HO1 HX
            refine (fall_any w4.heap.size _ n c3 xs1 A1 n1 c1 ys A2 n2 c2 zs w4 (Nat.le_refl _) HSL.out ((HR1.out.below HB4.out (Nat.le_refl _)).more HB4.out.size) ((HR2.out.below HB4.out (Nat.le_refl _)).more HB4.out.size)).mono ?_
            rintro e w5 ⟨A6, c6, rs1, vs1, rfl, hrs1, hown, hrows, hb⟩
            rw [HBS.out, if_pos HE1.out] at hrs1
            rw [HBS.out, HE1.out]
            have HRS1 := Lib.hid hrs1
            have HB5 := Lib.hid (HB4.out.trans (hb.mono HB4.out.size))
            have HRR5 := Lib.hid hown
            have HRW5 := Lib.hid hrows
            have HST5 := Lib.hid (own_below HST.out hb)
            clear hrs1 hown hrows hb HST HB4 HSL
            obtain ⟨m0, m1⟩ := acctsV_at xs1 b _ HS1.out
            have k2 := (HST5.out.cellAt (b * 2) (by omega)).trans m0
            have k3 := HST5.out.frozenAt (b * 2)
            have hgl5 : g < w5.heap.size := (World.block_lt_of_cell? w5 _ k2)
            simp only at k2
            have hm1 : 0 ≤ y0 + x - 1 := by omega
            clear m0 m1 hgl
            go_wp2_with fail
            -- one less
            obtain ⟨hst, hgr⟩ := HST5.out.stored (b * 2) (.int .i64 (y0 + x - 1))
            rw [acctsV_set xs1 b _ HS1.out] at hst
            simp only at hst
            rw [HS2.out] at hst
            have hb6 : Below w.heap.size w (w5.setCell ⟨g, b * 2, none⟩ (.int .i64 (y0 + x - 1))) := HB5.out.setCell HGL.out _
            have hrr6 : RR (w5.setCell ⟨g, b * 2, none⟩ (.int .i64 (y0 + x - 1))) A6 rs1 :=
              RR.of (HRR5.out.kept hgr (.inr (fun e => by have := (HRR5.out.lt g e).1; have := HG4.out; omega))) (HRW5.out.kept hgr (fun v n xs hv => .inr fun e => by have := (hv.lt g e).1; have := HG4.out; omega))
            generalize w5.setCell ⟨g, b * 2, none⟩ (.int .i64 (y0 + x - 1)) = w6 at hst hgr hb6 hrr6 ⊢
            have HWF2 := Lib.hid (acctWf_set (acct_wf HR.out) HY.out (z := y0 + x - 1) (by unfold I64; omega))
            have HE2 := Lib.hid (errs_set HE.out b (z := y0 + x - 1) hm1 (by omega))
            simp only at HWF2
            have HST6 := Lib.hid hst
            have HB6 := Lib.hid hb6
            have HRR6 := Lib.hid hrr6
            have HSL := Lib.hid (acct_of_own hst HWF2.out)
            clear hst hgr hb6 k2 k3 HST5 HB5 hrr6
            refine (fall_any w6.heap.size _ n c3 _ A1 n1 c1 ys A2 n2 c2 zs w6 (Nat.le_refl _) HSL.out ((HR1.out.below HB6.out (Nat.le_refl _)).more HB6.out.size) ((HR2.out.below HB6.out (Nat.le_refl _)).more HB6.out.size)).mono ?_
            rintro e w7 ⟨A8, c8, rs2, vs2, rfl, hrs2, hown, hrows, hb⟩
            rw [HS3.out, if_pos HE2.out] at hrs2
            rw [HS3.out, HE2.out]
            have HB7 := Lib.hid (HB6.out.trans (hb.mono HB6.out.size))
            have HRR7 := Lib.hid (HRR6.out.below hb)
            have HRS7 := Lib.hid (RR.of hown hrows)
            have HD1 := Lib.hid (show inRows rs1 b = false by
              rw [HRS1.out, in_end, ← HGD.out]
              refine Cas.End_help HBN.out HP.out (by rw [HXE.out]; exact Int.le_refl _) ?_
              rw [HGD.out]
              exact (Cas.ok_of_errs HE1.out).1)
            have HD2 := Lib.hid (show inRows rs2 b = true by
              rw [hrs2, in_end]
              have e : y0 + x - 1 = (xs.map bal).getD b 0 + (x - 1) := by rw [HGD.out]; omega
              rw [e]
              refine Cas.End_less HOK.out.1 HBN.out HP.out (by rw [HXE.out]; omega) ?_
              rw [← e]
              exact (Cas.ok_of_errs HE2.out).1)
            clear hrs2 hown hrows hb HB6 HRR6 HST6 HSL hix
            have HAL1 := Lib.hid (all_any A6 c6 rs1 w7 HRR7.out)
            obtain ⟨d1, hd1⟩ : ∃ dn, inRows rs1 = dn := ⟨_, rfl⟩
            obtain ⟨d2, hd2⟩ : ∃ dn, inRows rs2 = dn := ⟨_, rfl⟩
            have HDD := Lib.hid hd2
            rw [hd1] at HAL1 HD1
            rw [hd2] at HD2
            have hi1 := fun w => run_index_all d1 hb16 w
            have hi2 := fun w => run_index_all d2 hb16 w
            simp only [HD1.out] at hi1
            simp only [HD2.out] at hi2
            clear hd1 hd2
            go_wp2_with fail
            refine HAL1.out.mono ?_
            rintro e w8 ⟨rfl, hb⟩
            have HB8 := Lib.hid (HB7.out.trans (hb.mono HB7.out.size))
            have HRS8 := Lib.hid (HRS7.out.below hb)
            clear hb HB7
            go_wp2_with fail
            refine (all_any A8 c8 rs2 w8 HRS8.out).mono ?_
            rw [HDD.out]
            rintro e w9 ⟨rfl, hb⟩
            have HB9 := Lib.hid (HB8.out.trans (hb.mono HB8.out.size))
            clear hb HB8
            go_wp2_with fail
            refine (HW.out _).mono ?_
            rintro e wa ⟨rfl, hb⟩
            have HB := Lib.hid (HB9.out.trans (hb.mono HB9.out.size))
            clear hb
            go_wp2_with fail
            go_ret
            exact ⟨rfl, HB.out⟩

theorem cascadeHelps_walk {A A1 A2 : Option Addr} {n c n1 c1 n2 c2 : Nat} {xs : List AcctT} {ys : List DueT} {zs : List Int} {k : Int} (W : World)
    (hr : SlR acctR W W.heap.size A n c xs) (hr1 : SlR dueR W W.heap.size A1 n1 c1 ys) (hr2 : SlR (Rep.int .i64) W W.heap.size A2 n2 c2 zs) (hk : (Lit.int .u8 k).wf = true) :
    Calls Try.prog 9 #[.slice A n c, .slice A1 n1 c1, .slice A2 n2 c2, .int .u8 k] W fun e w' => e = .returned (.bool true) ∧ Below W.heap.size W w' := by
  obtain ⟨k, rfl, hk2⟩ := u8_of_wf hk
  exact casHelps_any A n c xs A1 n1 c1 ys A2 n2 c2 zs k W hk2 hr hr1 (SlI.of hr2)

end Go.Proofs.Ytlkbdmbfbmekaaa

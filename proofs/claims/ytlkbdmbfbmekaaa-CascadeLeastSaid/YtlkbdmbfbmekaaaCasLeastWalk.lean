/-
  Layer 31 (cascade): CascadeLeast, walked.
-/
import Derived.Test.YtlkbdmbfbmekaaaCasHelpsWalk
import Derived.BigQuiet
import Derived.Deep.DeepCutAuto
import Derived.Deep.CutBlock
import Derived.Deep.RegionHeld3
import Derived.Deep.RegionLaw
import Derived.StillTailTactics
namespace Go.Proofs.Ytlkbdmbfbmekaaa
open Go.RowKit Go.Gab
set_option linter.unusedVariables false
attribute [local go_sem ↓] Go.wp_at_zero Go.wp_at_succ

theorem u32_of_wf {z : Int} (h : (Lit.int .u32 z).wf = true) : ∃ k : Nat, z = (k : Int) ∧ k < 4294967296 := by
  simp [Lit.wf, IntKind.min, IntKind.max, IntKind.signed, IntKind.bits] at h
  exact ⟨z.toNat, by omega, by omega⟩

theorem inRows_fin (rs : List (List Nat)) : inRows rs = Cas.fin Cas.none_ rs := by
  funext k
  rw [Bool.eq_iff_iff, Cas.fin_iff]
  simp [inRows, Cas.none_]
theorem lack_16 {bals : List Int} {l : List Cas.Due} (hok : Cas.Ok bals l) (d : Nat → Bool) (k : Nat) : Cas.lack bals l (marksOf (bF 16 d)) k = Cas.lack bals l d k := by
  unfold Cas.lack
  rw [Cas.owe_congr (bals := bals) (fun e he => ⟨(hok.due e he).1, (hok.due e he).2.1⟩) (fun i hi => marksOf_bF d (by have := hok.n16; omega))]

theorem reads_blk1 {w : World} {g : Nat} {t : TypeId} {v : Value} (h : Blk w g t #[v]) : Reads w (g + 1) 1 (some ⟨g, 0, none⟩) 1 [v] :=
  ⟨rfl, fun _ => ⟨_, rfl, by simp, fun j u hu => by
    have hj : j = 0 := by
      have := (List.getElem?_eq_some_iff.1 hu).1
      simp at this
      omega
    subst hj
    have := h.cell 0
    simpa [Addr.add] using this.trans (by simpa using hu)⟩⟩

theorem two_bools : ∀ u1 u2 : Bool, (u2 = true → u1 = true) → ((u1 = true ∧ u2 = true) ∨ u2 = false) := by decide
theorem three_bools : ∀ u1 u2 u3 : Bool, (u1 = true → u2 = true) → (u3 = true → u1 = u2) → (u1 = true ∧ u2 = true ∧ u3 = true) ∨ (u1 = true ∧ u2 = true ∧ u3 = false) ∨ (u1 = false ∧ u2 = false ∧ u3 = true) ∨ (u1 = false ∧ u2 = false ∧ u3 = false) ∨ (u1 = false ∧ u2 = true ∧ u3 = false) := by decide

set_option maxHeartbeats 8000000 in
set_option maxRecDepth 100000 in
theorem casLeast_any (A : Option Addr) (n c : Nat) (xs : List AcctT) (A1 : Option Addr) (n1 c1 : Nat) (ys : List DueT) (A2 : Option Addr) (n2 c2 : Nat) (zs : List Int) (mo k x0 : Nat) (w : World) (hmo : mo < 256) (hk : k < 256) (hx0 : x0 < 4294967296)
    (hr : SlR acctR w w.heap.size A n c xs) (hr1 : SlR dueR w w.heap.size A1 n1 c1 ys) (hr2 : SlI w w.heap.size A2 n2 c2 zs) :
    Calls Try.prog 8 #[.slice A n c, .slice A1 n1 c1, .slice A2 n2 c2, .int .u8 (mo : Int), .int .u8 (k : Int), .int .u32 (x0 : Int)] w fun e w' => e = .returned (.bool true) ∧ Below w.heap.size w w' := by
  have HR := Lib.hid hr
  have HR1 := Lib.hid hr1
  have HR2 := Lib.hid hr2
  have hnc := hr.nc
  have hcm := hr.cm
  have hnc1 := hr1.nc
  have hcm1 := hr1.cm
  have hnc2 := hr2.nc
  have hcm2 := hr2.cm
  have HW := Lib.hid casWorks_any
  clear hr hr1 hr2
  by_cases h0 : (16 : Int) < n ∨ (64 : Int) < n1 ∨ (15 : Int) < n2 ∨ n = 0
  · have hc : ((16 : Int) < n) ∨ (¬ (16 : Int) < n ∧ (64 : Int) < n1) ∨ (¬ (16 : Int) < n ∧ ¬ (64 : Int) < n1 ∧ (15 : Int) < n2) ∨ (¬ (16 : Int) < n ∧ ¬ (64 : Int) < n1 ∧ ¬ (15 : Int) < n2 ∧ n = 0) := by omega
    clear h0
    rcases hc with h1 | ⟨h1, h2⟩ | ⟨h1, h2, h3⟩ | ⟨h1, h2, h3, rfl⟩
    all_goals
      go_enter Try.func8, Try.ntmps8
      go_wp2_with fail
      refine (HW.out _).mono ?_
      rintro e w1 ⟨rfl, hb⟩
      have HB := Lib.hid hb
      clear hb
      go_wp2_with fail
      go_ret
      exact ⟨rfl, HB.out⟩
  have hn0 : 0 < n := by omega
  have hn0' : ((n : Int) == 0) = false := by simp; omega
  have hn : (n : Int) ≤ 16 := by omega
  have hn1 : (n1 : Int) ≤ 64 := by omega
  have hn2 : (n2 : Int) ≤ 15 := by omega
  have d1 : decide ((16 : Int) < n) = false := by simp; omega
  have d2 : decide ((64 : Int) < n1) = false := by simp; omega
  have d3 : decide ((15 : Int) < n2) = false := by simp; omega
  clear h0
  have HLN := Lib.hid (show (xs.map bal).length = n by rw [List.length_map, HR.out.len])
  go_enter Try.func8, Try.ntmps8
  go_wp2_with fail
  clear hn0' d1 d2 d3
  refine (fall_any w.heap.size A n c xs A1 n1 c1 ys A2 n2 c2 zs w (Nat.le_refl _) HR.out HR1.out HR2.out).mono ?_
  rintro e w1 ⟨A4, c4, rs, vs, rfl, hrs, hown, hrows, hb⟩
  obtain ⟨z, hz⟩ : ∃ z, Cas.errs (xs.map bal) (ys.map due) zs = z := ⟨_, rfl⟩
  rw [hz] at hrs ⊢
  have HB1 := Lib.hid hb
  have HRR := Lib.hid (RR.of hown hrows)
  by_cases he : ¬ z = 0
  · have hz1 : (z == 0) = false := by simp; omega
    have hz2 : (z != 0) = true := by simp; omega
    rw [if_neg he] at hrs
    subst hrs
    clear he hz hown hrows hb
    go_wp2_with fail
    refine (HW.out _).mono ?_
    rintro e w2 ⟨rfl, hb⟩
    have HB := Lib.hid (HB1.out.trans (hb.mono HB1.out.size))
    clear hb
    go_wp2_with fail
    go_ret
    exact ⟨rfl, HB.out⟩
  have he : z = 0 := by omega
  subst he
  rw [if_pos rfl] at hrs
  have HRS := Lib.hid hrs
  have HE := Lib.hid hz
  have HOK := Lib.hid (Cas.ok_of_errs hz).1
  have HFI := Lib.hid (Cas.ok_of_errs hz).2
  clear hrs hz hown hrows hb
  have hrl := HRR.out.len
  obtain ⟨rl, hrl2⟩ : ∃ q, rs.length = q := ⟨_, rfl⟩
  have HAL := Lib.hid (all_any A4 c4 rs w1 HRR.out)
  rw [hrl2] at hrl HAL ⊢
  have HRL := Lib.hid hrl2
  have HEND := Lib.hid (show inRows rs = Cas.End (xs.map bal) (ys.map due) zs by rw [inRows_fin, HRS.out]; rfl)
  obtain ⟨ed, hed⟩ : ∃ dn, inRows rs = dn := ⟨_, rfl⟩
  rw [hed] at HAL HEND
  have HED := Lib.hid hed
  clear hed hrl2
  go_wp2_with fail
  refine HAL.out.mono ?_
  rintro e w2 ⟨rfl, hb⟩
  have HB2 := Lib.hid (HB1.out.trans (hb.mono HB1.out.size))
  have HRR2 := Lib.hid (HRR.out.below hb)
  clear hb HB1 HRR HAL
  have hbe := Blk.new w2 59 (boolsA (bF 16 Cas.none_))
  have HBE0 := Lib.hid hbe
  clear hbe
  have HSZ := Lib.hid HB2.out.size
  go_wp2_with (refine wpList_store_blk rfl _ _ _ rfl (boolsA (bF 16 ed)) rfl rfl HBE0.out (by rw [size_bF, size_bF]) (infoAll.trans (by rw [size_bF])) (one_bF _ _) ?_; intro w3 hb3 hg3; have HB3 := Lib.hid hb3; have HG3 := Lib.hid hg3; clear hb3 hg3)
  clear he
  have hq3 : Below w2.heap.size w2 w3 := ((Below.refl _ _).alloc (Nat.le_refl _) _).grown HG3.out (by simp) (fun k hk => by cases hk; exact Nat.le_refl _)
  have hgd : w2.heap.size < w3.heap.size := by have := HG3.out.size; simp at this; omega
  rw [zero_all]
  have hbd := Blk.new w3 59 (boolsA (bF 16 Cas.none_))
  have hbe := HB3.out.alloc (.cells (boolsA (bF 16 Cas.none_)) 59)
  have hq4 := hq3.alloc (Nat.le_of_lt hgd) (.cells (boolsA (bF 16 Cas.none_)) 59)
  clear HBE0 HB3 HG3 hq3
  generalize w3.alloc (.cells (boolsA (bF 16 Cas.none_)) 59) = w4 at hbd hbe hq4 ⊢
  generalize w3.heap.size = gd at hgd hbd ⊢
  obtain ⟨ge, hge⟩ : ∃ g, w2.heap.size = g := ⟨_, rfl⟩
  rw [hge] at hgd hbe hq4 ⊢
  have HGE := Lib.hid hge
  have HGD := Lib.hid hgd
  have HBD := Lib.hid hbd
  have HBE := Lib.hid hbe
  have HQ := Lib.hid hq4
  clear hgd hbd hbe hq4 hge
  go_wp2_with fail
  go_loopw [17] (fun i wr => ∃ j : Nat, j ≤ rl ∧ i = .int .i64 j ∧ Blk wr ge 59 (boolsA (bF 16 ed)) ∧ Blk wr gd 59 (boolsA (bF 16 (inRows (rs.take j)))) ∧ Below ge w2 wr) (fun i _ => rl - (intOf i).toNat)
  case atStart => exact ⟨0, Nat.zero_le _, rfl, HBE.out, by rw [List.take_zero, inRows_nil]; exact HBD.out, HQ.out⟩
  case round =>
    clear HBD HBE HQ
    obtain ⟨i, hi, rfl, bE, bD, hbel⟩ := hrel
    have HBE := Lib.hid bE
    have HBD := Lib.hid bD
    have HQ := Lib.hid hbel
    have HRR := Lib.hid (HRR2.out.below (by rw [HGE.out]; exact hbel))
    have HBW := Lib.hid (HB2.out.trans (hbel.mono (by rw [← HGE.out]; exact HSZ.out)))
    clear bE bD hbel
    obtain ⟨wo, rfl⟩ : ∃ wo : World, wo = wr := ⟨_, rfl⟩
    by_cases hlt : i < rl
    · obtain ⟨s, hs⟩ : ∃ s, rs[i]? = some s := ⟨_, List.getElem?_eq_getElem (by rw [HRL.out]; exact hlt)⟩
      obtain ⟨hsl, b, o, Ai, ci, rfl, hcell, hin⟩ := HRR2.out.row i s hs
      have HIN := Lib.hid hin
      have HFA := Lib.hid (fun x (hx : x ∈ s) => Cas.falls_at (l := ys.map due) HFI.out.2 (by rw [← HRS.out]; exact hs) hx)
      rw [← HRS.out, ← inRows_fin, HLN.out] at HFA
      obtain ⟨sn, hn_⟩ : ∃ n, s.length = n := ⟨_, rfl⟩
      rw [hn_] at hsl hcell
      have HC0 := Lib.hid hcell
      have HN := Lib.hid hn_
      have HS := Lib.hid hs
      have HQ2 := Lib.hid (show Below w2.heap.size w2 wo by rw [HGE.out]; exact HQ.out)
      clear hin hs hn_ hcell
      go_wp2_with fail
      go_loop [18] (fun j => ∃ t : Nat, t ≤ sn ∧ j = .int .i64 t) (fun j => sn - (intOf j).toNat)
      case atStart => exact ⟨0, Nat.zero_le _, rfl⟩
      case round =>
        obtain ⟨t, ht, rfl⟩ := hrel
        have k0 := cell_below HQ2.out HC0.out
        by_cases hlt2 : t < sn
        · obtain ⟨x, hx⟩ : ∃ x, s[t]? = some x := ⟨_, List.getElem?_eq_getElem (by rw [HN.out]; exact hlt2)⟩
          obtain ⟨bi, oi, rfl, hcx⟩ := HIN.out t x hx
          obtain ⟨f1, f2, f3⟩ := HFA.out x (List.mem_of_getElem? hx)
          have k1 := cell_below HQ2.out hcx
          have hx16 : x < 16 := by omega
          have k2 := blk_boolF HBD.out hx16
          rw [f2] at k2
          have HF3 := Lib.hid f3
          have hxn : (x : Int) < (n : Int) := by omega
          have hxn' : ¬ (n : Int) ≤ (x : Int) := by omega
          have hx0' : ¬ (x : Int) < 0 := by omega
          clear hx hcx f2 f3
          by_cases hi0 : 0 < i
          · have hi0' : (0 : Int) < (i : Int) := by omega
            have HLK := Lib.hid (HF3.out (.inl hi0))
            clear HF3 hi0
            go_wp2_with fail
            refine (refLack_any w.heap.size A n c xs A1 n1 c1 ys (gd + 1) (some ⟨gd, 0, none⟩) 16 16 _ x wo (HR.out.below HBW.out (Nat.le_refl _)) (HR1.out.below HBW.out (Nat.le_refl _)) (SlR_bF HBD.out (by omega)) HOK.out (by omega) f1).mono ?_
            rintro e w5 ⟨rfl, rfl⟩
            rw [lack_16 HOK.out]
            obtain ⟨L, hL⟩ : ∃ L, Cas.lack (xs.map bal) (ys.map due) (inRows (rs.take i)) x = L := ⟨_, rfl⟩
            rw [hL] at HLK ⊢
            have hl1 : 0 < L := HLK.out
            have hl2 : ¬ L ≤ 0 := by omega
            clear hL
            go_wp2_with fail
            go_round
            case rel => exact ⟨t + 1, by omega, by go_num⟩
            case measure => simp [intOf]; omega
          · have hi0' : decide ((0 : Int) < (i : Int)) = false := by simp; omega
            have hi1' : decide (0 < i) = false := by simp; omega
            by_cases hn20 : n2 = 0
            · have HLK := Lib.hid (HF3.out (.inr (by have := HR2.out.len; exact List.eq_nil_of_length_eq_zero (by omega))))
              have hn20' : ((n2 : Int) == 0) = true := by simp; omega
              clear HF3 hn20
              go_wp2_with fail
              refine (refLack_any w.heap.size A n c xs A1 n1 c1 ys (gd + 1) (some ⟨gd, 0, none⟩) 16 16 _ x wo (HR.out.below HBW.out (Nat.le_refl _)) (HR1.out.below HBW.out (Nat.le_refl _)) (SlR_bF HBD.out (by omega)) HOK.out (by omega) f1).mono ?_
              rintro e w5 ⟨rfl, rfl⟩
              rw [lack_16 HOK.out]
              obtain ⟨L, hL⟩ : ∃ L, Cas.lack (xs.map bal) (ys.map due) (inRows (rs.take i)) x = L := ⟨_, rfl⟩
              rw [hL] at HLK ⊢
              have hl1 : 0 < L := HLK.out
              have hl2 : ¬ L ≤ 0 := by omega
              clear hL
              go_wp2_with fail
              go_round
              case rel => exact ⟨t + 1, by omega, by go_num⟩
              case measure => simp [intOf]; omega
            · have hn20' : ((n2 : Int) == 0) = false := by simp; omega
              clear HF3 hn20
              go_wp2_with fail
              go_round
              case rel => exact ⟨t + 1, by omega, by go_num⟩
              case measure => simp [intOf]; omega
        · obtain rfl : sn = t := by omega
          go_wp2_with fail
          go_loopw [20] (fun j wr => ∃ t : Nat, t ≤ sn ∧ j = .int .i64 t ∧ Blk wr ge 59 (boolsA (bF 16 ed)) ∧ Blk wr gd 59 (boolsA (bF 16 (part (rs.take i) (s.take t)))) ∧ Below ge w2 wr) (fun j _ => sn - (intOf j).toNat)
          case atStart => exact ⟨0, Nat.zero_le _, rfl, HBE.out, by rw [List.take_zero, part_nil]; exact HBD.out, HQ.out⟩
          case round =>
            clear HBD HBE HQ HRR HBW HQ2 k0
            obtain ⟨t, ht, rfl, bE, bD, hbel⟩ := hrel
            have HBE := Lib.hid bE
            have HBD := Lib.hid bD
            have HQ := Lib.hid hbel
            have HQ2 := Lib.hid (show Below w2.heap.size w2 wr by rw [HGE.out]; exact hbel)
            clear bE bD hbel
            have k0 := cell_below HQ2.out HC0.out
            by_cases hlt2 : t < sn
            · obtain ⟨x, hx⟩ : ∃ x, s[t]? = some x := ⟨_, List.getElem?_eq_getElem (by rw [HN.out]; exact hlt2)⟩
              obtain ⟨bi, oi, rfl, hcx⟩ := HIN.out t x hx
              obtain ⟨f1, _, _⟩ := HFA.out x (List.mem_of_getElem? hx)
              have k1 := cell_below HQ2.out hcx
              have HTK := Lib.hid (take_succ_of hx)
              have hx16 : x < 16 := by omega
              have k2 := blk_boolF HBD.out hx16
              have k3 := HBD.out.frozen x
              have hxi0 : (0 : Int) ≤ (x : Int) := by omega
              have hxi1 : (x : Int) < 16 := by omega
              have HL1 := Lib.hid (HBE.out.far (p := ⟨gd, x, none⟩) (Nat.ne_of_lt HGD.out) (.bool true))
              have HL2 := Lib.hid (HQ.out.setCell (p := ⟨gd, x, none⟩) (Nat.le_of_lt HGD.out) (.bool true))
              have HL3 := Lib.hid (show Blk (wr.setCell ⟨gd, x, none⟩ (.bool true)) gd 59 (boolsA (bF 16 (part (rs.take i) (s.take (t + 1))))) by rw [HTK.out, ← part_step]; exact blk_setF HBD.out hx16 true)
              clear hx hcx HTK
              go_wp2_with fail
              go_roundw
              case rel => exact ⟨t + 1, by omega, by go_num, HL1.out, HL3.out, HL2.out⟩
              case measure => simp [intOf]; omega
            · obtain rfl : sn = t := by omega
              have HDN := Lib.hid (show part (rs.take i) (s.take sn) = inRows (rs.take (i + 1)) by rw [show s.take sn = s from List.take_of_length_le (by rw [HN.out]; exact Nat.le_refl _), part_done HS.out])
              go_wp2_with fail
              go_roundw
              case rel => exact ⟨i + 1, by omega, by go_num, HBE.out, by rw [← HDN.out]; exact HBD.out, HQ.out⟩
              case measure => simp [intOf]; omega
    · obtain rfl : rl = i := by omega
      clear HBD
      go_wp2_with fail
      go_loop [21] (fun j => ∃ t : Nat, t ≤ n ∧ j = .int .i64 t) (fun j => n - (intOf j).toNat)
      case atStart => exact ⟨0, Nat.zero_le _, rfl⟩
      case round =>
        obtain ⟨t, ht, rfl⟩ := hrel
        by_cases hlt2 : t < n
        · have ht16 : t < 16 := by omega
          have k2 := blk_boolF HBE.out ht16
          have hti0 : (0 : Int) ≤ (t : Int) := by omega
          have hti1 : (t : Int) < 16 := by omega
          cases hd : ed t with
          | true =>
            rw [hd] at k2
            clear hd
            go_wp2_with fail
            go_round
            case rel => exact ⟨t + 1, by omega, by go_num⟩
            case measure => simp [intOf]; omega
          | false =>
            rw [hd] at k2
            have HLK := Lib.hid (show Cas.lack (xs.map bal) (ys.map due) ed t ≤ 0 by rw [HEND.out]; exact Cas.End_closed HOK.out zs t (by rw [HLN.out]; exact hlt2) (by rw [← HEND.out]; exact hd))
            clear hd
            go_wp2_with fail
            refine (refLack_any w.heap.size A n c xs A1 n1 c1 ys (ge + 1) (some ⟨ge, 0, none⟩) 16 16 _ t wo (HR.out.below HBW.out (Nat.le_refl _)) (HR1.out.below HBW.out (Nat.le_refl _)) (SlR_bF HBE.out (by omega)) HOK.out (by omega) hlt2).mono ?_
            rintro e w5 ⟨rfl, rfl⟩
            rw [lack_16 HOK.out]
            obtain ⟨L, hL⟩ : ∃ L, Cas.lack (xs.map bal) (ys.map due) ed t = L := ⟨_, rfl⟩
            rw [hL] at HLK ⊢
            have hl1 : L ≤ 0 := HLK.out
            have hl2 : ¬ 0 < L := by omega
            clear hL
            go_wp2_with fail
            go_round
            case rel => exact ⟨t + 1, by omega, by go_num⟩
            case measure => simp [intOf]; omega
        · obtain rfl : n = t := by omega
          clear HRR
          have HEW := Lib.hid (show n2 ≤ 15 by omega)
          obtain ⟨m, hm⟩ : ∃ m : Nat, mo % n = m := ⟨_, rfl⟩
          have hmn : m < n := by rw [← hm]; exact Nat.mod_lt _ hn0
          have hmi : (mo : Int) % (n : Int) = (m : Int) := by rw [← hm]; exact (Int.natCast_emod mo n).symm
          clear hm
          have hn0' : ¬ n = 0 := by omega
          have hwm : IntKind.i64.wrap (mo : Int) = (mo : Int) := by rw [IntKind.wrap_i64]; omega
          have hmt : ((mo : Int)).tmod (n : Int) = (m : Int) := by rw [Int.tmod_eq_emod_of_nonneg (by omega)]; exact hmi
          have HMT := Lib.hid hmt
          have HME := Lib.hid hmi
          clear hmi
          obtain ⟨i0, hi0, hz0, hz1, hz2⟩ := info_parts infoInt
          have HOW1 := Lib.hid ((World.ownsRow_lit (base := wo.heap.size) (e := 3) (size := 1) wo #[] 0 (Nat.le_refl _) (by omega) rfl).drew)
          have HOW2 := Lib.hid (((World.ownsRow_lit (base := wo.heap.size) (e := 3) (size := 1) wo #[] 0 (Nat.le_refl _) (by omega) rfl).alloc (.cells #[.int .i64 (m : Int)] 3)).drew)
          have HOW3 := Lib.hid (show ((wo.alloc (.cells #[.int .i64 (m : Int)] 3)).alloc (.cells #[] 3)).drew.ownsRow wo.heap.size 3 1 (.slice (some ⟨wo.heap.size + 1, 0, none⟩) 0 0) 0 [] by
            have h := (World.ownsRow_lit (base := wo.heap.size) (e := 3) (size := 1) (wo.alloc (.cells #[.int .i64 (m : Int)] 3)) #[] 0 (by simp) (by omega) rfl).drew
            rw [show (wo.alloc (.cells #[.int .i64 (m : Int)] 3)).heap.size = wo.heap.size + 1 by simp] at h
            exact h)
          have L1 : Below wo.heap.size wo (wo.alloc (.cells #[] 3)).drew := ((Below.refl _ _).alloc (Nat.le_refl _) _).drew
          have L2 : Below wo.heap.size wo ((wo.alloc (.cells #[] 3)).alloc (.cells #[.int .i64 (m : Int)] 3)).drew := (((Below.refl _ _).alloc (Nat.le_refl _) _).alloc (by simp) _).drew
          have L3 : Below wo.heap.size wo ((wo.alloc (.cells #[.int .i64 (m : Int)] 3)).alloc (.cells #[] 3)).drew := (((Below.refl _ _).alloc (Nat.le_refl _) _).alloc (by simp) _).drew
          have HRD := Lib.hid (show Reads wo w.heap.size 1 A2 n2 (zs.map intV) from (HR2.out.below HBW.out (Nat.le_refl _)).reads)
          have HRD1 := Lib.hid (HRD.out.below (L1.mono HBW.out.size))
          have HRD2 := Lib.hid (HRD.out.below (L2.mono HBW.out.size))
          have HRD3 := Lib.hid (HRD.out.below (L3.mono HBW.out.size))
          have HL1 := Lib.hid L1
          have HL2 := Lib.hid L2
          have HL3 := Lib.hid L3
          have HBM2 := Lib.hid (show Blk ((wo.alloc (.cells #[] 3)).alloc (.cells #[.int .i64 (m : Int)] 3)) (wo.heap.size + 1) 3 #[.int .i64 (m : Int)] by
            have h := Blk.new (wo.alloc (.cells #[] 3)) 3 #[.int .i64 (m : Int)]
            rw [show (wo.alloc (.cells #[] 3)).heap.size = wo.heap.size + 1 by simp] at h
            exact h)
          have HBM3 := Lib.hid ((Blk.new wo 3 #[.int .i64 (m : Int)]).alloc (.cells #[] 3))
          have HO1 := Lib.hid (intV_one zs)
          have HE2 := Lib.hid (Cas.errs_snoc HE.out (m := m) (by rw [HLN.out]; exact hmn) (by rw [HR2.out.len]; exact HEW.out))
          have HWFS := Lib.hid (show ∀ z ∈ zs ++ [(m : Int)], (Lit.int .i64 z).wf = true from fun z hz => by
            rcases List.mem_append.1 hz with hz | hz
            · exact HR2.out.wf z hz
            · simp at hz
              subst hz
              exact wf_i64 (by unfold I64; omega))
          clear L1 L2 L3
          go_wp2_with fail
          go_cut [22, 23] (fun a b wx => ∃ A3 c3 rs2, a = .slice A3 (rs2 : List (List Nat)).length c3 ∧ b = .int .i64 0 ∧ rs2 = Cas.falls (xs.map bal) (ys.map due) (zs ++ [(m : Int)]) ∧ RR wx A3 rs2 ∧ Below wo.heap.size wo wx)
          case first =>
            go_region_law (first
              | (refine step_append_any _ rfl (.tmp 155) (.tmp 156) 47 rfl wo.heap.size 3 i0 (.int .i64 0) 1 8 Try.underlying47 hi0 hz0 hz1 hz2 rfl (by omega) (.slice (some ⟨wo.heap.size, 0, none⟩) 0 0) 0 [] (by rfl) HOW1.out w.heap.size A2 n2 c2 (zs.map intV) (by rfl) HRD1.out HO1.out (by simp only [maxLen]; omega) (by omega) HL1.out.size ?_; intro v1 w1a hown hgr hbk; have HOA := Lib.hid hown; have HLA := Lib.hid (HL1.out.grown hgr HL1.out.size (fun k hk => by cases hk; first | exact Nat.le_refl _ | exact Nat.le_succ _)); clear hown hgr hbk)
              | (refine step_append_any _ rfl (.tmp 155) (.tmp 156) 47 rfl wo.heap.size 3 i0 (.int .i64 0) 1 8 Try.underlying47 hi0 hz0 hz1 hz2 rfl (by omega) (.slice (some ⟨wo.heap.size, 0, none⟩) 0 0) 0 [] (by rfl) HOW2.out w.heap.size A2 n2 c2 (zs.map intV) (by rfl) HRD2.out HO1.out (by simp only [maxLen]; omega) (by omega) HL2.out.size ?_; intro v1 w1a hown hgr hbk; have HOA := Lib.hid hown; have HLA := Lib.hid (HL2.out.grown hgr HL2.out.size (fun k hk => by cases hk; first | exact Nat.le_refl _ | exact Nat.le_succ _)); have HBMA := Lib.hid (HBM2.out.drew.grown hgr (by simp [Value.ownBlock])); clear hown hgr hbk)
              | (refine step_append_any _ rfl (.tmp 155) (.tmp 156) 47 rfl wo.heap.size 3 i0 (.int .i64 0) 1 8 Try.underlying47 hi0 hz0 hz1 hz2 rfl (by omega) (.slice (some ⟨wo.heap.size + 1, 0, none⟩) 0 0) 0 [] (by rfl) HOW3.out w.heap.size A2 n2 c2 (zs.map intV) (by rfl) HRD3.out HO1.out (by simp only [maxLen]; omega) (by omega) HL3.out.size ?_; intro v1 w1a hown hgr hbk; have HOA := Lib.hid hown; have HLA := Lib.hid (HL3.out.grown hgr HL3.out.size (fun k hk => by cases hk; first | exact Nat.le_refl _ | exact Nat.le_succ _)); have HBMA := Lib.hid (HBM3.out.drew.grown hgr (by simp [Value.ownBlock])); clear hown hgr hbk)
              | (refine step_append_any _ rfl (.tmp 157) (.tmp 163) 47 rfl wo.heap.size 3 i0 (.int .i64 0) 1 8 Try.underlying47 hi0 hz0 hz1 hz2 rfl (by omega) v1 (0 + n2) ([] ++ zs.map intV) (by rfl) (HOA.out.alloc _) _ (some ⟨w1a.heap.size, 0, none⟩) 1 1 [.int .i64 (m : Int)] (by rfl) (reads_blk1 (Blk.new w1a _ _)) (by simp [Value.oneCell']) (by simp only [maxLen]; omega) (by omega) (by have := HLA.out.size; simp; omega) ?_; intro v2 w2a hown hgr hbk; obtain ⟨n3, hn3⟩ : ∃ n3, 0 + n2 + 1 = n3 := ⟨_, rfl⟩; rw [hn3] at hown; obtain ⟨A3, c3, rfl⟩ := own_slice hown; rw [List.nil_append, show zs.map intV ++ [Value.int .i64 (m : Int)] = (zs ++ [(m : Int)]).map intV by rw [List.map_append]; rfl] at hown; have HOB := Lib.hid hown; have HLB := Lib.hid ((HLA.out.alloc HLA.out.size _).grown hgr (by have := HLA.out.size; simp; omega) (fun q hq => (HOA.out.lt q hq).1)); clear hown hgr hbk hn3)
              | (refine step_append_any _ rfl (.tmp 157) (.tmp 163) 47 rfl wo.heap.size 3 i0 (.int .i64 0) 1 8 Try.underlying47 hi0 hz0 hz1 hz2 rfl (by omega) v1 (0 + n2) ([] ++ zs.map intV) (by rfl) HOA.out _ (some ⟨wo.heap.size + 1, 0, none⟩) 1 1 [.int .i64 (m : Int)] (by rfl) (reads_blk1 HBMA.out) (by simp [Value.oneCell']) (by simp only [maxLen]; omega) (by omega) (by have := HLA.out.size; simp; omega) ?_; intro v2 w2a hown hgr hbk; obtain ⟨n3, hn3⟩ : ∃ n3, 0 + n2 + 1 = n3 := ⟨_, rfl⟩; rw [hn3] at hown; obtain ⟨A3, c3, rfl⟩ := own_slice hown; rw [List.nil_append, show zs.map intV ++ [Value.int .i64 (m : Int)] = (zs ++ [(m : Int)]).map intV by rw [List.map_append]; rfl] at hown; have HOB := Lib.hid hown; have HLB := Lib.hid (HLA.out.grown hgr (by have := HLA.out.size; simp; omega) (fun q hq => (HOA.out.lt q hq).1)); clear hown hgr hbk hn3)
              | (refine step_append_any _ rfl (.tmp 157) (.tmp 163) 47 rfl wo.heap.size 3 i0 (.int .i64 0) 1 8 Try.underlying47 hi0 hz0 hz1 hz2 rfl (by omega) v1 (0 + n2) ([] ++ zs.map intV) (by rfl) HOA.out _ (some ⟨wo.heap.size, 0, none⟩) 1 1 [.int .i64 (m : Int)] (by rfl) (reads_blk1 HBMA.out) (by simp [Value.oneCell']) (by simp only [maxLen]; omega) (by omega) (by have := HLA.out.size; simp; omega) ?_; intro v2 w2a hown hgr hbk; obtain ⟨n3, hn3⟩ : ∃ n3, 0 + n2 + 1 = n3 := ⟨_, rfl⟩; rw [hn3] at hown; obtain ⟨A3, c3, rfl⟩ := own_slice hown; rw [List.nil_append, show zs.map intV ++ [Value.int .i64 (m : Int)] = (zs ++ [(m : Int)]).map intV by rw [List.map_append]; rfl] at hown; have HOB := Lib.hid hown; have HLB := Lib.hid (HLA.out.grown hgr (by have := HLA.out.size; simp; omega) (fun q hq => (HOA.out.lt q hq).1)); clear hown hgr hbk hn3)
              | (go_simp; go_at_call 30; refine (fall_any w2a.heap.size A n c xs A1 n1 c1 ys A3 n3 c3 (zs ++ [(m : Int)]) w2a (Nat.le_refl _) ((HR.out.below (HBW.out.trans (HLB.out.mono HBW.out.size)) (Nat.le_refl _)).more (Nat.le_trans HBW.out.size HLB.out.size)) ((HR1.out.below (HBW.out.trans (HLB.out.mono HBW.out.size)) (Nat.le_refl _)).more (Nat.le_trans HBW.out.size HLB.out.size)) (SlI.of_own HOB.out HWFS.out)).mono ?_; rintro e w3a ⟨A5, c5, rs2, vs2, rfl, hrs2, hown, hrows, hb⟩; rw [HE2.out, if_pos rfl] at hrs2; rw [HE2.out]; have HR2R := Lib.hid hrs2; have HRR3 := Lib.hid (RR.of hown hrows); have HLC := Lib.hid (HLB.out.trans (hb.mono HLB.out.size)); clear hrs2 hown hrows hb))
            all_goals
              go_wp2_with fail
              go_meet
              case rel => exact ⟨A5, c5, rs2, rfl, rfl, HR2R.out, HRR3.out, HLC.out⟩
          case rest =>
            obtain ⟨A5, c5, rs2, rfl, rfl, hrs2, hrr2, hbel2⟩ := hcut
            have HB5 := Lib.hid (HBW.out.trans (hbel2.mono HBW.out.size))
            have HBE5 := Lib.hid (HBE.out.below hbel2 HBE.out.lt)
            have HRR5 := Lib.hid hrr2
            have HRS2 := Lib.hid (show inRows rs2 = Cas.End (xs.map bal) (ys.map due) (zs ++ [(m : Int)]) by rw [inRows_fin, hrs2]; rfl)
            have HAL := Lib.hid (all_any A5 c5 rs2 wc hrr2)
            obtain ⟨af, haf⟩ : ∃ dn, inRows rs2 = dn := ⟨_, rfl⟩
            rw [haf] at HAL HRS2
            obtain ⟨rl2, hrl2⟩ : ∃ q, rs2.length = q := ⟨_, rfl⟩
            rw [hrl2] at HAL ⊢
            clear haf hrl2 hrs2 hrr2 hbel2 HOW1 HOW2 HOW3 HRD HRD1 HRD2 HRD3 HL1 HL2 HL3 HBM2 HBM3 HE2 HWFS HBW HBE HQ HRR5 hwm hmt
            go_wp2_with fail
            refine HAL.out.mono ?_
            rintro e w6 ⟨rfl, hb⟩
            have HB6 := Lib.hid (HB5.out.trans (hb.mono HB5.out.size))
            have HBE6 := Lib.hid (HBE5.out.below hb HBE5.out.lt)
            clear hb HB5 HAL HBE5
            have HBF0 := Lib.hid (Blk.new w6 59 (boolsA (bF 16 Cas.none_)))
            go_wp2_with (refine wpList_store_blk rfl _ _ _ rfl (boolsA (bF 16 af)) rfl rfl HBF0.out (by rw [size_bF, size_bF]) (infoAll.trans (by rw [size_bF])) (one_bF _ _) ?_; intro w7 hb7 hg7; have HBF7 := Lib.hid hb7; have HB7 := Lib.hid ((HB6.out.alloc HB6.out.size _).grown hg7 (by have := HB6.out.size; simp; omega) (fun k hk => by cases hk; exact HB6.out.size)); have HBE7 := Lib.hid ((HBE6.out.alloc _).grown hg7 (by have := HBE6.out.lt; simp; omega)); clear hb7 hg7)
            obtain ⟨gf, hgf⟩ : ∃ g, w6.heap.size = g := ⟨_, rfl⟩
            rw [hgf] at HBF7 ⊢
            clear HBF0 hgf HBE6 HB6
            have hm16 : m < 16 := by omega
            have hmi0 : (0 : Int) ≤ (m : Int) := by omega
            have hmi1 : (m : Int) < 16 := by omega
            go_loopw [25] (fun i wr => ∃ t : Nat, t ≤ 16 ∧ i = .int .i64 t ∧ Blk wr ge 59 (boolsA (bF 16 ed)) ∧ Blk wr gf 59 (boolsA (bF 16 af)) ∧ Below w.heap.size w wr) (fun i _ => 16 - (intOf i).toNat)
            case atStart => exact ⟨0, Nat.zero_le _, rfl, HBE7.out, HBF7.out, HB7.out⟩
            case round =>
              clear HBE7 HBF7 HB7
              obtain ⟨t, ht, rfl, bE, bF_, hbel⟩ := hrel
              have HBE := Lib.hid bE
              have HBF := Lib.hid bF_
              have HB := Lib.hid hbel
              clear bE bF_ hbel
              by_cases hlt3 : t < 16
              · have hti0 : (0 : Int) ≤ (t : Int) := by omega
                have hti1 : (t : Int) < 16 := by omega
                have k1 := blk_boolF HBE.out hlt3
                have k2 := blk_boolF HBF.out hlt3
                have k3 := blk_boolF HBE.out hm16
                have f1 : ed t = true → af t = true := fun h => by
                  rw [HRS2.out]
                  rw [HEND.out] at h
                  exact Cas.End_more HOK.out zs (m : Int) t (Cas.End_lt h) h
                have f2 : ed m = true → ed t = af t := fun h => by
                  rw [HRS2.out, HEND.out]
                  rw [HEND.out] at h
                  exact Cas.End_same HOK.out h t
                have hwm : IntKind.i64.wrap (mo : Int) = (mo : Int) := by rw [IntKind.wrap_i64]; omega
                have hmt : ((mo : Int)).tmod (n : Int) = (m : Int) := HMT.out
                have hme : (mo : Int) % (n : Int) = (m : Int) := HME.out
                obtain ⟨u1, h1⟩ : ∃ u, ed t = u := ⟨_, rfl⟩
                obtain ⟨u2, h2⟩ : ∃ u, af t = u := ⟨_, rfl⟩
                obtain ⟨u3, h3⟩ : ∃ u, ed m = u := ⟨_, rfl⟩
                rw [h1] at k1 f1 f2
                rw [h2] at k2 f1 f2
                rw [h3] at k3 f2
                clear h1 h2 h3
                have hcs := three_bools u1 u2 u3 f1 f2
                clear f1 f2
                rcases hcs with ⟨rfl, rfl, rfl⟩ | ⟨rfl, rfl, rfl⟩ | ⟨rfl, rfl, rfl⟩ | ⟨rfl, rfl, rfl⟩ | ⟨rfl, rfl, rfl⟩
                all_goals
                  go_wp2_with fail
                  go_quiet (fail)
                  go_wp2_with fail
                  go_roundw
                  case rel => exact ⟨t + 1, by omega, by go_num, HBE.out.drewN _, HBF.out.drewN _, below_drewN HB.out _⟩
                  case measure => simp [intOf]; omega
              · obtain rfl : t = 16 := by omega
                obtain ⟨w8, rfl⟩ : ∃ w8 : World, w8 = wr := ⟨_, rfl⟩
                have HREA := Lib.hid (acct_reads (HR.out.below HB.out (Nat.le_refl _)))
                obtain ⟨i1, hi1, hy0, hy1, hy2⟩ := info_parts infoAcct
                have HRD := Lib.hid (HREA.out.alloc HB.out.size (.cells #[] 63))
                have HLIT := Lib.hid (World.ownsRow_lit (base := w.heap.size) (e := 63) (size := 2) w8 #[] 0 HB.out.size (by omega) rfl)
                have HOA := Lib.hid (acctsV_one xs)
                go_wp2_with (at_builtin
                             refine wpList_append_any _ rfl _ _ _ rfl w.heap.size 63 i1 _ 2 16 Try.underlying45 hi1 hy0 hy1 hy2 rfl (by omega) (.slice (some ⟨w8.heap.size, 0, none⟩) 0 0) 0 [] rfl HLIT.out w.heap.size _ n c (acctsV xs) rfl HRD.out HOA.out (by simp only [maxLen]; omega) (by omega) (by have := HB.out.size; simp; omega) ?_
                             intro v' w9 hown hgr hblk
                             have hb1 : Below w.heap.size w w9 := (HB.out.alloc HB.out.size _).grown hgr (by have := HB.out.size; simp; omega) (fun k hk => by cases hk; exact HB.out.size)
                             have HBE9 := Lib.hid ((HBE.out.alloc _).grown hgr (by have := HBE.out.lt; simp [Value.ownBlock]; omega))
                             have HBGE := Lib.hid HBE.out.lt
                             obtain ⟨A3, c3, rfl⟩ := own_slice hown
                             rw [List.nil_append] at hown
                             obtain ⟨n3, hn3⟩ : ∃ n3, 0 + n = n3 := ⟨_, rfl⟩
                             rw [hn3] at hown ⊢
                             obtain rfl : n = n3 := by omega
                             obtain ⟨g, cap, hA, hg, hgl⟩ := hown.form hn0
                             injection hA with hA1 _ hA2
                             subst hA1 hA2
                             have HB9 := Lib.hid hb1
                             have HO9 := Lib.hid hown
                             have HGL := Lib.hid hg
                             have HGQ := Lib.hid (show g ≠ ge by
                               rcases hblk with h | h
                               · simp [Value.ownBlock] at h
                                 have := HBGE.out
                                 omega
                               · simp [Value.ownBlock] at h
                                 have := HBGE.out
                                 omega)
                             have hcap : n ≤ c3 := (Sl.of_own hown).nc
                             have hcap2 : c3 ≤ 9223372036854775807 := (Sl.of_own hown).cm
                             clear hgr hblk hb1 hown hn3 hg)
                clear HBE HBF HRD HLIT HREA HOA
                obtain ⟨q, hq⟩ : ∃ q : Nat, k % n = q := ⟨_, rfl⟩
                have hqn : q < n := by rw [← hq]; exact Nat.mod_lt _ hn0
                have hke : (k : Int) % (n : Int) = (q : Int) := by rw [← hq]; exact (Int.natCast_emod k n).symm
                clear hq
                have hkt : (k : Int).tmod (n : Int) = (q : Int) := by rw [Int.tmod_eq_emod_of_nonneg (by omega)]; exact hke
                have hwk : IntKind.i64.wrap (k : Int) = (k : Int) := by rw [IntKind.wrap_i64]; omega
                obtain ⟨y, hy⟩ : ∃ y, xs[q]? = some y := ⟨_, List.getElem?_eq_getElem (by have := HR.out.len; omega)⟩
                obtain ⟨b0, b1, bu⟩ := y
                have hbal := HOK.out.bal b0 (List.mem_map.2 ⟨(b0, b1, bu), List.mem_of_getElem? hy, rfl⟩)
                have hb0 : 0 ≤ b0 := hbal.1
                have hb1 : b0 ≤ 4503599627370496 := hbal.2
                obtain ⟨m0, m1⟩ := acctsV_at xs q _ hy
                have k2 := (HO9.out.cellAt (q * 2) (by omega)).trans m0
                have k3 := HO9.out.frozenAt (q * 2)
                simp only at k2
                have hws : IntKind.i64.wrap (b0 + (x0 : Int)) = b0 + (x0 : Int) := by rw [IntKind.wrap_i64]; omega
                have hwx : IntKind.i64.wrap (x0 : Int) = (x0 : Int) := by rw [IntKind.wrap_i64]; omega
                have HY := Lib.hid hy
                have hqi0 : (0 : Int) ≤ (q : Int) := by omega
                have hqi1 : (q : Int) < (n : Int) := by omega
                have hqi2 : (n : Int) ≤ (c3 : Int) := by omega
                clear hbal m0 m1 hy
                go_still_tail 21, (by kernel_rfl)
                clear hke hkt hwk hws hwx hqi0 hqi1 hqi2
                go_wp2_with fail
                all_goals
                  first
                    | (have hv : b0 ≤ b0 + (x0 : Int) ∧ b0 + (x0 : Int) ≤ 4503599627370496 := by omega
                       generalize b0 + (x0 : Int) = yv at hv ⊢)
                    | (obtain ⟨yv, hyv⟩ : ∃ yv, (4503599627370496 : Int) = yv := ⟨_, rfl⟩
                       have hv : b0 ≤ yv ∧ yv ≤ 4503599627370496 := by omega
                       rw [hyv]
                       clear hyv)
                  obtain ⟨hv1, hv2⟩ := hv
                  have hv0 : 0 ≤ yv := by omega
                  obtain ⟨hst, hgr⟩ := HO9.out.stored (q * 2) (.int .i64 yv)
                  rw [acctsV_set xs q _ HY.out] at hst
                  have hb10 := (HB9.out.setCell (p := ⟨g, q * 2, none⟩) HGL.out (.int .i64 yv)).drew
                  have hbe10 := (HBE9.out.far (p := ⟨g, q * 2, none⟩) (Ne.symm HGQ.out) (.int .i64 yv)).drew
                  have hst10 := hst.drew
                  generalize (w9.setCell ⟨g, q * 2, none⟩ (.int .i64 yv)).drew = w10 at hb10 hbe10 hst10 ⊢
                  have HWF := Lib.hid (acctWf_set (acct_wf HR.out) HY.out (z := yv) (by unfold I64; omega))
                  have HE3 := Lib.hid (errs_set HE.out q (z := yv) hv0 hv2)
                  have HBS := Lib.hid (show (xs.set q (yv, (b0, b1, bu).2)).map bal = (xs.map bal).set q yv from bal_set)
                  have HRI := Lib.hid (Cas.End_rich HOK.out (Cas.ok_of_errs HE3.out).1 (List.length_set ..) (fun k hk => by
                    rw [Cas.getD_set _ _ _ _ (by rw [HLN.out]; exact hqn)]
                    by_cases e : k = q
                    · subst e
                      rw [if_pos rfl, List.getD_eq_getElem?_getD, List.getElem?_map, HY.out]
                      exact hv1
                    · rw [if_neg e]
                      exact Int.le_refl _) zs)
                  obtain ⟨xs1, hxs1⟩ : ∃ q', xs.set q (yv, (b0, b1, bu).2) = q' := ⟨_, rfl⟩
                  rw [hxs1] at hst10 HWF HBS
                  have HB10 := Lib.hid hb10
                  have HBE10 := Lib.hid hbe10
                  have HSL := Lib.hid (acct_of_own hst10 HWF.out)
                  clear hst hgr hb10 hbe10 hst10 hxs1 k2 k3 HO9 HB9 HBE9 hgl
                  refine (fall_any w10.heap.size _ n c3 xs1 A1 n1 c1 ys A2 n2 c2 zs w10 (Nat.le_refl _) HSL.out ((HR1.out.below HB10.out (Nat.le_refl _)).more HB10.out.size) ((HR2.out.below HB10.out (Nat.le_refl _)).more HB10.out.size)).mono ?_
                  rintro e w11 ⟨A6, c6, rs3, vs3, rfl, hrs3, hown, hrows, hb⟩
                  rw [HBS.out, if_pos HE3.out] at hrs3
                  rw [HBS.out, HE3.out]
                  have HB11 := Lib.hid (HB10.out.trans (hb.mono HB10.out.size))
                  have HBE11 := Lib.hid (HBE10.out.below hb HBE10.out.lt)
                  have hrr3 := RR.of hown hrows
                  have HFE := Lib.hid (show inRows rs3 = Cas.End ((xs.map bal).set q yv) (ys.map due) zs by rw [inRows_fin, hrs3]; rfl)
                  have HAL := Lib.hid (all_any A6 c6 rs3 w11 hrr3)
                  obtain ⟨fe, hfe⟩ : ∃ dn, inRows rs3 = dn := ⟨_, rfl⟩
                  rw [hfe] at HAL HFE
                  obtain ⟨rl3, hrl3⟩ : ∃ q, rs3.length = q := ⟨_, rfl⟩
                  rw [hrl3] at HAL ⊢
                  clear hfe hrl3 hrs3 hown hrows hb hrr3 HB10 HBE10 HSL
                  go_wp2_with fail
                  refine HAL.out.mono ?_
                  rintro e w12 ⟨rfl, hb⟩
                  have HB12 := Lib.hid (HB11.out.trans (hb.mono HB11.out.size))
                  have HBE12 := Lib.hid (HBE11.out.below hb HBE11.out.lt)
                  clear hb HB11 HAL HBE11
                  have HBF0 := Lib.hid (Blk.new w12 59 (boolsA (bF 16 Cas.none_)))
                  go_wp2_with (refine wpList_store_blk rfl _ _ _ rfl (boolsA (bF 16 fe)) rfl rfl HBF0.out (by rw [size_bF, size_bF]) (infoAll.trans (by rw [size_bF])) (one_bF _ _) ?_; intro w13 hb7 hg7; have HBF13 := Lib.hid hb7; have HB13 := Lib.hid ((HB12.out.alloc HB12.out.size _).grown hg7 (by have := HB12.out.size; simp; omega) (fun k hk => by cases hk; exact HB12.out.size)); have HBE13 := Lib.hid ((HBE12.out.alloc _).grown hg7 (by have := HBE12.out.lt; simp; omega)); clear hb7 hg7)
                  obtain ⟨gh, hgh⟩ : ∃ g, w12.heap.size = g := ⟨_, rfl⟩
                  rw [hgh] at HBF13 ⊢
                  clear HBF0 hgh HBE12 HB12
                  go_loop [30] (fun i => ∃ t : Nat, t ≤ 16 ∧ i = .int .i64 t) (fun i => 16 - (intOf i).toNat)
                  case atStart => exact ⟨0, Nat.zero_le _, rfl⟩
                  case round =>
                    obtain ⟨t, ht, rfl⟩ := hrel
                    by_cases hlt4 : t < 16
                    · have hti0 : (0 : Int) ≤ (t : Int) := by omega
                      have hti1 : (t : Int) < 16 := by omega
                      have k1 := blk_boolF HBE13.out hlt4
                      have k2 := blk_boolF HBF13.out hlt4
                      have f1 : fe t = true → ed t = true := fun h => by
                        rw [HEND.out]
                        rw [HFE.out] at h
                        exact HRI.out t (by have := Cas.End_lt h; rw [List.length_set] at this; exact this) h
                      obtain ⟨u1, h1⟩ : ∃ u, ed t = u := ⟨_, rfl⟩
                      obtain ⟨u2, h2⟩ : ∃ u, fe t = u := ⟨_, rfl⟩
                      rw [h1] at k1 f1
                      rw [h2] at k2 f1
                      clear h1 h2
                      have hcs := two_bools u1 u2 f1
                      clear f1
                      rcases hcs with ⟨rfl, rfl⟩ | rfl
                      all_goals
                        go_wp2_with fail
                        go_round
                        case rel => exact ⟨t + 1, by omega, by go_num⟩
                        case measure => simp [intOf]; omega
                    · obtain rfl : t = 16 := by omega
                      go_wp2_with fail
                      refine (HW.out _).mono ?_
                      rintro e w14 ⟨rfl, hb⟩
                      have HB14 := Lib.hid (HB13.out.trans (hb.mono HB13.out.size))
                      clear hb
                      go_wp2_with fail
                      go_ret
                      exact ⟨rfl, HB14.out⟩

theorem cascadeLeast_walk {A A1 A2 : Option Addr} {n c n1 c1 n2 c2 : Nat} {xs : List AcctT} {ys : List DueT} {zs : List Int} {mo k x0 : Int} (W : World)
    (hr : SlR acctR W W.heap.size A n c xs) (hr1 : SlR dueR W W.heap.size A1 n1 c1 ys) (hr2 : SlR (Rep.int .i64) W W.heap.size A2 n2 c2 zs) (hmo : (Lit.int .u8 mo).wf = true) (hk : (Lit.int .u8 k).wf = true) (hx : (Lit.int .u32 x0).wf = true) :
    Calls Try.prog 8 #[.slice A n c, .slice A1 n1 c1, .slice A2 n2 c2, .int .u8 mo, .int .u8 k, .int .u32 x0] W fun e w' => e = .returned (.bool true) ∧ Below W.heap.size W w' := by
  obtain ⟨mo, rfl, hmo2⟩ := u8_of_wf hmo
  obtain ⟨k, rfl, hk2⟩ := u8_of_wf hk
  obtain ⟨x0, rfl, hx2⟩ := u32_of_wf hx
  exact casLeast_any A n c xs A1 n1 c1 ys A2 n2 c2 zs mo k x0 W hmo2 hk2 hx2 hr hr1 (SlI.of hr2)

end Go.Proofs.Ytlkbdmbfbmekaaa

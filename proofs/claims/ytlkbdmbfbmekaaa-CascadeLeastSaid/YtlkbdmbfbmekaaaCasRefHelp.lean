/-
  Layer 31 (cascade), the document's answer: Safe and Help, walked.
-/
import Derived.Test.YtlkbdmbfbmekaaaCasRefFall
import Derived.Test.YtlkbdmbfbmekaaaCasRows
namespace Go.Proofs.Ytlkbdmbfbmekaaa
open Go.RowKit Go.Gab
set_option linter.unusedVariables false
attribute [local go_sem ↓] Go.wp_at_zero Go.wp_at_succ

theorem errs_one {bals : List Int} {l : List Cas.Due} {k : Nat} (hk : k < bals.length) : Cas.errs bals l [(k : Int)] = Cas.errs bals l [] := by
  have e : Cas.noBank bals.length (k : Int) = false := by
    unfold Cas.noBank
    simp
    omega
  unfold Cas.errs
  simp [e]

set_option maxHeartbeats 4000000 in
set_option maxRecDepth 20000 in
theorem refSafe_any (B : Nat) (A : Option Addr) (n c : Nat) (xs : List AcctT) (A1 : Option Addr) (n1 c1 : Nat) (ys : List DueT) (w : World) (hB : B ≤ w.heap.size)
    (hr : SlR acctR w B A n c xs) (hr1 : SlR dueR w B A1 n1 c1 ys) :
    Calls Try.prog 33 #[.slice A n c, .slice A1 n1 c1] w (SafeTo w (xs.map bal) (ys.map due)) := by
  have HER := Lib.hid (refErrs_any B A n c xs A1 n1 c1 ys none 0 0 [] w hB hr hr1 (SlR_none w B))
  have HR := Lib.hid hr
  have HR1 := Lib.hid hr1
  have HLEN := Lib.hid (show (xs.map bal).length = n by rw [List.length_map, hr.len])
  have hnc := hr.nc
  have hcm := hr.cm
  obtain ⟨i0, hi0, hz0, hz1, hz2⟩ := info_parts infoInt
  obtain ⟨z, hz⟩ : ∃ z, Cas.errs (xs.map bal) (ys.map due) [] = z := ⟨_, rfl⟩
  rw [hz] at HER
  have HZ := Lib.hid hz
  clear hr hr1 hz
  go_enter Try.func33, Try.ntmps33
  go_wp2_with fail
  refine HER.out.mono ?_
  rintro e w1 ⟨rfl, hb⟩
  have HB1 := Lib.hid hb
  clear hb HER
  by_cases h0 : z = 0
  · subst h0
    have HOK := Lib.hid (Cas.ok_of_errs HZ.out).1
    have hn16 : n ≤ 16 := by rw [← HLEN.out]; exact HOK.out.n16
    obtain ⟨P, hP⟩ : ∃ P : Nat → Bool, P = fun k : Nat => (Cas.falls (xs.map bal) (ys.map due) [(k : Int)]).length == 1 := ⟨_, rfl⟩
    have HPK := Lib.hid (show ∀ k : Nat, P k = ((Cas.falls (xs.map bal) (ys.map due) [(k : Int)]).length == 1) by subst hP; exact fun k => rfl)
    have HSF := Lib.hid (show who n Cas.none_ P = Cas.safe (xs.map bal) (ys.map due) by rw [hP, ← HLEN.out]; exact safe_who _ _)
    clear hP
    go_wp2_with fail
    go_loopw [7, 8] (fun v i wr => ∃ (j m e : Nat) (A3 : Option Addr), j ≤ n ∧ i = .int .i64 j ∧ m = (who j Cas.none_ P).length ∧ v = .slice A3 m e ∧ wr.ownsRow w.heap.size 3 1 (.slice A3 m e) m ((who j Cas.none_ P).map natV) ∧ Below w.heap.size w wr) (fun _ i _ => n - (intOf i).toNat)
    case atStart => exact ⟨0, 0, 0, none, Nat.zero_le _, rfl, rfl, rfl, World.ownsRow_nil _ _ _ _, HB1.out⟩
    case round =>
      clear HB1
      obtain ⟨j, m, e, A3, hj, rfl, hm, rfl, hown, hbel⟩ := hrel
      have HM := Lib.hid hm
      have HO := Lib.hid hown
      have HBEL := Lib.hid hbel
      have hm16 : m ≤ 16 := by have := who_len j Cas.none_ P; omega
      clear hm hown hbel
      by_cases hlt : j < n
      · have HSUC := Lib.hid (who_succ j Cas.none_ P)
        have HPJ := Lib.hid (HPK.out j)
        have HLA := Lib.hid (HBEL.out.alloc HBEL.out.size (.cells #[.int .i64 (j : Int)] 3))
        have HOA := Lib.hid (HO.out.alloc (.cells #[.int .i64 (j : Int)] 3))
        have hbs : B ≤ (wr.alloc (.cells #[.int .i64 (j : Int)] 3)).heap.size := by have := HLA.out.size; omega
        have HF := Lib.hid (refFall_any (wr.heap.size + 1) A n c xs A1 n1 c1 ys (some ⟨wr.heap.size, 0, none⟩) 1 1 [(j : Int)] (wr.alloc (.cells #[.int .i64 (j : Int)] 3)) (by simp) ((HR.out.below HLA.out hB).more (by have := HBEL.out.size; omega)) ((HR1.out.below HLA.out hB).more (by have := HBEL.out.size; omega)) (SlR_one wr _ (by simp [Lit.wf, IntKind.min, IntKind.max, IntKind.signed, IntKind.bits]; omega) _ _))
        have HEZ := Lib.hid (show Cas.errs (xs.map bal) (ys.map due) [(j : Int)] = 0 by rw [errs_one (by rw [HLEN.out]; exact hlt)]; exact HZ.out)
        clear hbs
        go_wp2_with fail
        refine HF.out.mono ?_
        rintro e2 w2 ⟨A4, c4, rs, vs, rfl, hrs, _, _, hb2⟩
        rw [HEZ.out, if_pos rfl] at hrs
        rw [← hrs] at HPJ
        have HO2 := Lib.hid (own_below HOA.out hb2)
        have LB2 := Lib.hid (HLA.out.trans (hb2.mono HLA.out.size))
        rw [HEZ.out]
        clear hrs hb2 HF HOA HLA HEZ
        generalize rs.length = q at HPJ ⊢
        cases hp : P j with
        | true =>
          have hq : q = 1 := by
            have := HPJ.out
            rw [hp] at this
            exact eq_of_beq this.symm
          subst hq
          have HD := Lib.hid (show who (j + 1) Cas.none_ P = who j Cas.none_ P ++ [j] by rw [HSUC.out, hp]; rfl)
          clear hp
          go_wp2_with (at_builtin; go_loud (
                       refine wpList_append_any _ rfl _ _ _ rfl w.heap.size 3 i0 _ 1 8 Try.underlying47 hi0 hz0 hz1 hz2 rfl (by omega) (.slice A3 m e) _ _ rfl (HO2.out.alloc _) (w2.heap.size + 1) (some ⟨w2.heap.size, 0, none⟩) 1 1 [natV j] rfl (by exact (Sl.lit (k := 1) (cap := 1) _ _ _ _ _ _ rfl rfl rfl (by omega) (by omega)).rd) (by simp [natV, Value.oneCell']) (by simp only [maxLen]; omega) (by omega) (by have := LB2.out.size; simp; omega) ?_
                       intro v4 w4 hown4 hg4 hat4
                       have HBL4 := Lib.hid ((LB2.out.alloc LB2.out.size _).grown hg4 (by have := LB2.out.size; simp; omega) (fun q hq => (HO2.out.lt q hq).1))
                       obtain ⟨A5, d4, rfl⟩ := own_slice hown4
                       have HO4 := Lib.hid hown4
                       clear hg4 hat4 hown4))
          go_roundw
          case rel => exact ⟨j + 1, m + 1, d4, A5, by omega, by go_num, by rw [HD.out, List.length_append, ← HM.out]; rfl, rfl, by rw [HD.out, List.map_append]; exact HO4.out, HBL4.out⟩
          case measure => simp [intOf]; omega
        | false =>
          have hq : ((q : Int) == 1) = false := by
            have := HPJ.out
            rw [hp] at this
            have h1 : ¬ q = 1 := by
              rintro rfl
              cases this
            simp
            omega
          have HD := Lib.hid (show who (j + 1) Cas.none_ P = who j Cas.none_ P by rw [HSUC.out, hp]; simp)
          clear hp
          go_wp2_with fail
          go_roundw
          case rel => exact ⟨j + 1, m, e, A3, by omega, by go_num, by rw [HD.out]; exact HM.out, rfl, by rw [HD.out]; exact HO2.out, LB2.out⟩
          case measure => simp [intOf]; omega
      · obtain rfl : n = j := by omega
        go_wp2_with fail
        go_ret2
        unfold SafeTo
        rw [HZ.out, if_pos rfl]
        have hm := HM.out
        subst hm
        rw [← HSF.out]
        exact ⟨A3, e, _, rfl, rfl, HO.out, HBEL.out⟩
  · have hzb : (z == 0) = false := by simpa using h0
    have hzn : (z != 0) = true := by simpa using h0
    have H0 := Lib.hid h0
    clear h0
    go_wp2_with fail
    go_ret2
    unfold SafeTo
    rw [HZ.out, if_neg H0.out]
    exact ⟨none, 0, [], rfl, rfl, World.ownsRow_nil _ _ _ _, HB1.out⟩

/-! ### Help -/
theorem cas_off {bals : List Int} {l : List Cas.Due} (hok : Cas.Ok bals l) {C : Nat → Bool} {k : Nat} (hC : ∀ j, j < bals.length → j ≠ k → C j = false → Cas.lack bals l C j ≤ 0) :
    ∀ (m : Nat) (dn : Nat → Bool), Cas.free bals dn ≤ m → Cas.Sub bals.length dn C → Cas.fin dn (Cas.cas bals l dn) k = false → Cas.Sub bals.length (Cas.fin dn (Cas.cas bals l dn)) C := by
  intro m
  induction m with
  | zero =>
    intro dn hm hs hk
    by_cases hn : Cas.next bals l dn = []
    · rw [Cas.cas_stop hn]
      exact hs
    · have := Cas.free_mark hn
      omega
  | succ m ih =>
    intro dn hm hs hk
    by_cases hn : Cas.next bals l dn = []
    · rw [Cas.cas_stop hn]
      exact hs
    · have hlt := Cas.free_mark hn
      rw [Cas.cas_go hn, Cas.fin_cons] at hk ⊢
      refine ih _ (by omega) (fun j hj hm => ?_) hk
      rcases Cas.mark_iff.1 hm with h | h
      · exact hs j hj h
      · obtain ⟨_, h3, h4⟩ := Cas.mem_next.1 h
        have hjk : j ≠ k := by
          rintro rfl
          have : Cas.fin (Cas.mark dn (Cas.next bals l dn)) (Cas.cas bals l (Cas.mark dn (Cas.next bals l dn))) j = true := by
            rw [Cas.fin_iff]
            exact .inl hm
          rw [this] at hk
          cases hk
        cases hc : C j with
        | true => rfl
        | false =>
          have h5 := hC j hj hjk hc
          have h6 := hok.owe_mono hs j
          unfold Cas.lack at h4 h5
          omega

theorem endEx_out {bals : List Int} {l : List Cas.Due} (hok : Cas.Ok bals l) {first : List Int} {k : Nat} (hk : k < bals.length) (h : Cas.End bals l first k = false) : ∃ P, Cas.EndEx bals l first k P ∧ (0 : Int) = max (Cas.lack bals l P k) 0 := by
  refine ⟨Cas.End bals l first, ⟨fun j hj hm => Cas.End_first hj hm, h, fun j hj _ hd => Cas.End_closed hok first j hj hd, fun C h1 h2 => ?_⟩, ?_⟩
  · have e : Cas.End bals l first = Cas.fin (Cas.mark Cas.none_ (Cas.firsts bals Cas.none_ first)) (Cas.cas bals l (Cas.mark Cas.none_ (Cas.firsts bals Cas.none_ first))) := by
      unfold Cas.End Cas.falls
      simp only
      split
      · next hn => rw [hn, Cas.mark_nil]; rfl
      · rfl
    rw [e] at h ⊢
    refine cas_off hok h2 _ _ (Nat.le_refl _) (fun j hj hm => ?_) h
    rcases Cas.mark_iff.1 hm with h | h
    · cases h
    · exact h1 j hj (Cas.mem_firsts.1 h).2.2
  · have := Cas.End_closed hok first k hk h
    omega

theorem in_end {bals : List Int} {l : List Cas.Due} {first : List Int} {k : Nat} : inRows (Cas.falls bals l first) k = Cas.End bals l first k := by
  rw [Bool.eq_iff_iff]
  unfold Cas.End inRows
  rw [Cas.fin_iff, List.any_eq_true]
  constructor
  · rintro ⟨s, hs, hk⟩
    exact .inr ⟨s, hs, by simpa using hk⟩
  · rintro (h | ⟨s, hs, hk⟩)
    · cases h
    · exact ⟨s, hs, by simpa using hk⟩

set_option maxHeartbeats 8000000 in
set_option maxRecDepth 20000 in
theorem refHelp_any (B : Nat) (A : Option Addr) (n c : Nat) (xs : List AcctT) (A1 : Option Addr) (n1 c1 : Nat) (ys : List DueT) (A2 : Option Addr) (n2 c2 : Nat) (zs : List Int) (k : Int) (w : World) (hB : B ≤ w.heap.size) (hk : I64 k)
    (hr : SlR acctR w B A n c xs) (hr1 : SlR dueR w B A1 n1 c1 ys) (hr2 : SlI w B A2 n2 c2 zs) :
    Calls Try.prog 35 #[.slice A n c, .slice A1 n1 c1, .slice A2 n2 c2, .int .i64 k] w (HelpTo w (xs.map bal) (ys.map due) zs k) := by
  have HER := Lib.hid (refErrs_any B A n c xs A1 n1 c1 ys A2 n2 c2 zs w hB hr hr1 hr2)
  have HR := Lib.hid hr
  have HR1 := Lib.hid hr1
  have HR2 := Lib.hid hr2
  have HLEN := Lib.hid (show (xs.map bal).length = n by rw [List.length_map, hr.len])
  have HLEN2 := Lib.hid hr2.len
  have hnc := hr.nc
  have hcm := hr.cm
  have hnc2 := hr2.nc
  have hcm2 := hr2.cm
  obtain ⟨z, hz⟩ : ∃ z, Cas.errs (xs.map bal) (ys.map due) zs = z := ⟨_, rfl⟩
  rw [hz] at HER
  have HZ := Lib.hid hz
  clear hr hr1 hr2 hz
  by_cases h0 : z = 0
  · subst h0
    have HOK := Lib.hid (Cas.ok_of_errs HZ.out)
    have hn16 : n ≤ 16 := by rw [← HLEN.out]; exact HOK.out.1.n16
    by_cases hk0 : k < 0
    · go_enter Try.func35, Try.ntmps35
      go_wp2_with fail
      refine HER.out.mono ?_
      rintro e w1 ⟨rfl, hb1⟩
      have HB1 := Lib.hid hb1
      clear hb1 HER
      go_wp2_with fail
      go_ret2
      exact ⟨0, 10, rfl, by unfold HelpIs; rw [if_neg (fun h => h HZ.out), if_pos (.inl hk0)]; exact ⟨rfl, rfl⟩, HB1.out⟩
    by_cases hkn : (n : Int) ≤ k
    · go_enter Try.func35, Try.ntmps35
      go_wp2_with fail
      refine HER.out.mono ?_
      rintro e w1 ⟨rfl, hb1⟩
      have HB1 := Lib.hid hb1
      clear hb1 HER
      go_wp2_with fail
      go_ret2
      exact ⟨0, 10, rfl, by unfold HelpIs; rw [if_neg (fun h => h HZ.out), if_pos (.inr (by rw [HLEN.out]; exact hkn))]; exact ⟨rfl, rfl⟩, HB1.out⟩
    obtain ⟨kk, rfl⟩ : ∃ kk : Nat, k = (kk : Int) := ⟨k.toNat, by omega⟩
    have hkk : kk < n := by omega
    clear hk0 hkn
    have hki0 : (0 : Int) ≤ (kk : Int) := by omega
    have hkin : (kk : Int) < (n : Int) := by omega
    have HNN := Lib.hid (show ¬ ((kk : Int) < 0 ∨ ((xs.map bal).length : Int) ≤ (kk : Int)) by rw [HLEN.out]; omega)
    have HCA := Lib.hid (show zs.contains (kk : Int) = zs.any (fun x => x == (kk : Int)) by
      rw [List.contains_eq_any_beq]
      congr 1
      funext x
      exact Bool.beq_comm)
    obtain ⟨i0, hi0, hz0, hz1, hz2⟩ := info_parts infoBool
    have hmk : ∀ w : World, (Instr.makeSlice 35 (.int .i64 (n : Int)) (.int .i64 (n : Int))).run Try.prog w = .ok (.slice (some ⟨w.heap.size, 0, none⟩) n n) (w.alloc (.cells (boolsA (bF n Cas.none_)) 4)) := by
      intro w; rw [← bF_none]; exact run_make_bools Try.underlying35 hi0 hz0 hz1 hz2 n (by omega) w
    clear hi0 hz0 hz1 hz2
    go_enter Try.func35, Try.ntmps35
    go_wp2_with fail
    refine HER.out.mono ?_
    rintro e w1 ⟨rfl, hb1⟩
    have HB1 := Lib.hid hb1
    clear hb1 HER
    go_wp2_with fail
    go_loopw [11] (fun i wr => ∃ j : Nat, j ≤ n2 ∧ i = .int .i64 j ∧ zs.any (fun x => x == (kk : Int)) = (zs.drop j).any (fun x => x == (kk : Int)) ∧ Below w.heap.size w wr) (fun i _ => n2 - (intOf i).toNat)
    case atStart => exact ⟨0, Nat.zero_le _, rfl, rfl, HB1.out⟩
    case round =>
      clear HB1
      obtain ⟨j, hj, rfl, hany, hbel⟩ := hrel
      have HBEL := Lib.hid hbel
      by_cases hlt : j < n2
      · obtain ⟨b, off, x, rfl, hb, hx, hcell, _⟩ := int_at' (HR2.out.below hbel hB) hlt
        have hd := any_drop zs (fun x => x == (kk : Int)) hx
        have HANY := Lib.hid (hany.trans hd)
        clear hany hd hx hbel
        by_cases hxk : x = (kk : Int)
        · subst hxk
          have HF := Lib.hid (show zs.contains (kk : Int) = true by rw [HCA.out, HANY.out]; simp)
          go_wp2_with fail
          go_ret2
          exact ⟨0, 0, rfl, by unfold HelpIs; rw [if_neg (fun h => h HZ.out), if_neg HNN.out, if_pos HF.out]; exact ⟨rfl, rfl⟩, HBEL.out⟩
        · have hxb : (x == (kk : Int)) = false := by simpa using hxk
          have HF := Lib.hid hxb
          go_wp2_with fail
          go_roundw
          case rel => exact ⟨j + 1, by omega, by go_num, by rw [HANY.out, HF.out, Bool.false_or], HBEL.out⟩
          case measure => simp [intOf]; omega
      · obtain rfl : n2 = j := by omega
        have HQ := Lib.hid (show zs.contains (kk : Int) = false by rw [HCA.out, hany, List.drop_of_length_le (by rw [HLEN2.out]; exact Nat.le_refl _)]; rfl)
        have HF := Lib.hid (refFall_any B A n c xs A1 n1 c1 ys A2 n2 c2 zs wr (by have := hbel.size; omega) (HR.out.below hbel hB) (HR1.out.below hbel hB) (HR2.out.below hbel hB))
        clear hany hbel
        obtain ⟨wf, rfl⟩ : ∃ wf : World, wf = wr := ⟨_, rfl⟩
        go_wp2_with fail
        refine HF.out.mono ?_
        rintro e2 w2 ⟨A4, c4, rs, vs, rfl, hrs, hown, hrows, hb2⟩
        rw [HZ.out, if_pos rfl] at hrs
        have HB2 := Lib.hid (HBEL.out.trans (hb2.mono HBEL.out.size))
        have HI := Lib.hid (in_any A4 c4 rs kk w2 (RR.of hown hrows))
        have HIE := Lib.hid (show inRows rs kk = Cas.End (xs.map bal) (ys.map due) zs kk by rw [hrs]; exact in_end)
        rw [HZ.out]
        clear hrs hown hrows hb2 HF HBEL
        obtain ⟨q, hq⟩ : ∃ q, inRows rs kk = q := ⟨_, rfl⟩
        rw [hq] at HI HIE
        clear hq
        go_wp2_with fail
        refine HI.out.mono ?_
        rintro e3 w3 ⟨rfl, rfl⟩
        cases q with
        | false =>
          go_wp2_with fail
          go_ret2
          exact ⟨0, 0, rfl, by
            unfold HelpIs
            rw [if_neg (fun h => h HZ.out), if_neg HNN.out, if_neg (by rw [HQ.out]; decide)]
            exact ⟨rfl, by rw [Int.toNat_natCast]; exact endEx_out HOK.out.1 (by rw [HLEN.out]; exact hkk) HIE.out.symm⟩, HB2.out⟩
        | true =>
          go_wp2_with fail
          have b2 := Blk.new w2 4 (boolsA (bF n Cas.none_))
          have l2 := HB2.out.alloc HB2.out.size (.cells (boolsA (bF n Cas.none_)) 4)
          have hgd := HB2.out.size
          generalize w2.alloc (.cells (boolsA (bF n Cas.none_)) 4) = W at b2 l2 ⊢
          generalize w2.heap.size = gd at b2 hgd ⊢
          have HGD := Lib.hid hgd
          have HD := Lib.hid b2
          have HLW := Lib.hid l2
          clear b2 l2 hgd HI HB2
          go_loopw [15] (fun i wr => ∃ j : Nat, j ≤ n2 ∧ i = .int .i64 j ∧ Blk wr gd 4 (boolsA (bF n (firstD (zs.take j)))) ∧ Below w.heap.size w wr) (fun i _ => n2 - (intOf i).toNat)
          case atStart => exact ⟨0, Nat.zero_le _, rfl, HD.out, HLW.out⟩
          case round =>
            clear HD HLW
            obtain ⟨j, hj, rfl, hd, hbel⟩ := hrel
            have HD := Lib.hid hd
            have HBEL := Lib.hid hbel
            by_cases hlt : j < n2
            · obtain ⟨b, off, f0, rfl, hb, hxx, hcell, _⟩ := int_at' (HR2.out.below hbel hB) hlt
              have hmem := HOK.out.2.2 f0 (List.mem_of_getElem? hxx)
              rw [HLEN.out] at hmem
              obtain ⟨f, rfl⟩ : ∃ f : Nat, f0 = (f : Int) := ⟨f0.toNat, by omega⟩
              have hfn : f < n := by omega
              have o3 := blk_boolF hd hfn
              have of := hd.frozen f
              have HXX := Lib.hid hxx
              clear hd hbel hxx hmem
              go_wp2_with fail
              go_roundw
              case rel =>
                have h1 := blk_setF HD.out hfn true
                rw [firstD_snoc, ← take_succ_of HXX.out] at h1
                have h2 := only_setCell (World.grownBy.refl wr (some gd)) (p := ⟨gd, f, none⟩) (.inl rfl) (.bool true)
                exact ⟨j + 1, by omega, by go_num, h1, HBEL.out.grown h2 HBEL.out.size (fun q hq => by cases hq; exact HGD.out)⟩
              case measure => simp [intOf]; omega
            · obtain rfl : n2 = j := by omega
              rw [List.take_of_length_le (by rw [HLEN2.out]; exact Nat.le_refl _)] at hd
              have HD1 := Lib.hid hd
              clear hd hbel HD
              obtain ⟨wg, rfl⟩ : ∃ wg : World, wg = wr := ⟨_, rfl⟩
              go_wp2_with fail
              go_loopg [16] (Cas.free (xs.map bal) (firstD zs) + 1) (fun q v wr => ∃ (d : Nat → Bool) (b : Bool), v = .bool b ∧ q = Cas.free (xs.map bal) d + (if b = true then 1 else 0) ∧ Way (xs.map bal) (ys.map due) zs kk d ∧ (b = false → ∀ a, a < n → a ≠ kk → d a = false → Cas.lack (xs.map bal) (ys.map due) d a ≤ 0) ∧ Blk wr gd 4 (boolsA (bF n d)) ∧ Below w.heap.size w wr)
              case atStart => exact ⟨firstD zs, true, rfl, rfl, Way.start HQ.out, fun h => by (cases h), HD1.out, HBEL.out⟩
              case round =>
                clear HD1 HBEL
                obtain ⟨d, b, rfl, hq, hway, hcl, hd, hbel⟩ := hrel
                have HQD := Lib.hid hq
                have HWAY := Lib.hid hway
                have HCL := Lib.hid hcl
                have HD := Lib.hid hd
                have HBEL := Lib.hid hbel
                clear hq hway hcl hd hbel
                obtain ⟨wo, rfl⟩ : ∃ wo : World, wo = wr := ⟨_, rfl⟩
                obtain ⟨go, rfl⟩ : ∃ go : Nat, go = gk := ⟨_, rfl⟩
                cases b with
                | false =>
                  have hl := refLack_any B A n c xs A1 n1 c1 ys (gd + 1) (some ⟨gd, 0, none⟩) n n (bF n d) kk wo (HR.out.below HBEL.out hB) (HR1.out.below HBEL.out hB) (SlR_bF HD.out (by omega)) HOK.out.1 (Nat.le_refl _) hkk
                  rw [show Cas.lack (xs.map bal) (ys.map due) (marksOf (bF n d)) kk = Cas.lack (xs.map bal) (ys.map due) d kk by rw [← HLEN.out]; exact lack_bF HOK.out.1 d kk] at hl
                  have HEX := Lib.hid (show Cas.EndEx (xs.map bal) (ys.map due) zs kk d from ⟨HWAY.out.init, HWAY.out.not, fun a ha hne hd => HCL.out rfl a (by rw [← HLEN.out]; exact ha) hne hd, HWAY.out.least⟩)
                  have HPOS := Lib.hid ((HEX.out.iff HOK.out.1 (by rw [HLEN.out]; exact hkk)).1 HIE.out.symm)
                  obtain ⟨F, hF⟩ : ∃ F, Cas.lack (xs.map bal) (ys.map due) d kk = F := ⟨_, rfl⟩
                  rw [hF] at hl HPOS
                  have HL := Lib.hid hl
                  have HF := Lib.hid hF
                  clear hl hF
                  go_wp2_with fail
                  refine HL.out.mono ?_
                  rintro e9 w9 ⟨rfl, rfl⟩
                  go_wp2_with fail
                  go_ret2
                  exact ⟨F, 0, rfl, by
                    unfold HelpIs
                    rw [if_neg (fun h => h HZ.out), if_neg HNN.out, if_neg (by rw [HQ.out]; decide)]
                    exact ⟨rfl, d, by rw [Int.toNat_natCast]; exact HEX.out, by rw [Int.toNat_natCast, HF.out]; have := HPOS.out; omega⟩, HBEL.out⟩
                | true =>
                  go_wp2_with fail
                  go_loopw [16, 17] (fun v i wr => ∃ (j : Nat) (d2 : Nat → Bool) (b2 : Bool), j ≤ n ∧ i = .int .i64 j ∧ v = .bool b2 ∧ Way (xs.map bal) (ys.map due) zs kk d2 ∧ (b2 = true → Cas.free (xs.map bal) d2 < Cas.free (xs.map bal) d) ∧ (b2 = false → d2 = d ∧ ∀ a, a < j → a ≠ kk → d2 a = false → Cas.lack (xs.map bal) (ys.map due) d2 a ≤ 0) ∧ Blk wr gd 4 (boolsA (bF n d2)) ∧ Below w.heap.size w wr) (fun _ i _ => n - (intOf i).toNat)
                  case atStart => exact ⟨0, d, false, Nat.zero_le _, rfl, rfl, HWAY.out, fun h => by (cases h), fun _ => ⟨rfl, fun a ha => by omega⟩, HD.out, HBEL.out⟩
                  case round =>
                    clear HD HBEL
                    obtain ⟨j, d2, b2, hj, rfl, rfl, hway, hbt, hbf, hd, hbel⟩ := hrel
                    have HWAY2 := Lib.hid hway
                    have HBT := Lib.hid hbt
                    have HBF := Lib.hid hbf
                    have HD := Lib.hid hd
                    have HBEL := Lib.hid hbel
                    clear hway hbt hbf hd hbel
                    by_cases hlt : j < n
                    · have o3 := blk_boolF HD.out hlt
                      by_cases hjk : j = kk
                      · go_wp2_with fail
                        go_roundw
                        case rel => exact ⟨j + 1, d2, b2, by omega, by go_num, rfl, HWAY2.out, HBT.out, fun h => ⟨(HBF.out h).1, fun a ha hne hd => (HBF.out h).2 a (by omega) hne hd⟩, HD.out, HBEL.out⟩
                        case measure => simp [intOf]; omega
                      · cases hd : d2 j with
                        | true =>
                          rw [hd] at o3
                          have HDJ := Lib.hid hd
                          clear hd
                          go_wp2_with fail
                          go_roundw
                          case rel => exact ⟨j + 1, d2, b2, by omega, by go_num, rfl, HWAY2.out, HBT.out, fun h => ⟨(HBF.out h).1, fun a ha hne hd => if e : a = j then (by rw [e, HDJ.out] at hd; cases hd) else (HBF.out h).2 a (by omega) hne hd⟩, HD.out, HBEL.out⟩
                          case measure => simp [intOf]; omega
                        | false =>
                          rw [hd] at o3
                          have hl := refLack_any B A n c xs A1 n1 c1 ys (gd + 1) (some ⟨gd, 0, none⟩) n n (bF n d2) j wr (HR.out.below HBEL.out hB) (HR1.out.below HBEL.out hB) (SlR_bF HD.out (by omega)) HOK.out.1 (Nat.le_refl _) hlt
                          rw [show Cas.lack (xs.map bal) (ys.map due) (marksOf (bF n d2)) j = Cas.lack (xs.map bal) (ys.map due) d2 j by rw [← HLEN.out]; exact lack_bF HOK.out.1 d2 j] at hl
                          obtain ⟨F, hF⟩ : ∃ F, Cas.lack (xs.map bal) (ys.map due) d2 j = F := ⟨_, rfl⟩
                          rw [hF] at hl
                          have HL := Lib.hid hl
                          have HF := Lib.hid hF
                          have HDJ := Lib.hid hd
                          clear hl hF hd
                          by_cases hF0 : 0 < F
                          · have of := HD.out.frozen j
                            go_wp2_with fail
                            refine HL.out.mono ?_
                            rintro e9 w9 ⟨rfl, rfl⟩
                            go_wp2_with fail
                            go_roundw
                            case rel =>
                              have h1 := blk_setF HD.out hlt true
                              have h2 := only_setCell (World.grownBy.refl wr (some gd)) (p := ⟨gd, j, none⟩) (.inl rfl) (.bool true)
                              have hjn : j < (xs.map bal).length := by rw [HLEN.out]; exact hlt
                              refine ⟨j + 1, updD d2 j true, true, by omega, by go_num, rfl, HWAY2.out.next HOK.out.1 hjn hjk (by rw [HF.out]; exact hF0), fun _ => ?_, fun h => by (cases h), h1, HBEL.out.grown h2 HBEL.out.size (fun q hq => by cases hq; exact HGD.out)⟩
                              have hfu := free_upd (bals := xs.map bal) hjn HDJ.out
                              cases b2 with
                              | true => have := HBT.out rfl; omega
                              | false => have := (HBF.out rfl).1; rw [this] at hfu ⊢; exact hfu
                            case measure => simp [intOf]; omega
                          · go_wp2_with fail
                            refine HL.out.mono ?_
                            rintro e9 w9 ⟨rfl, rfl⟩
                            go_wp2_with fail
                            go_roundw
                            case rel => exact ⟨j + 1, d2, b2, by omega, by go_num, rfl, HWAY2.out, HBT.out, fun h => ⟨(HBF.out h).1, fun a ha hne hd => if e : a = j then (by rw [e, HF.out]; omega) else (HBF.out h).2 a (by omega) hne hd⟩, HD.out, HBEL.out⟩
                            case measure => simp [intOf]; omega
                    · obtain rfl : n = j := by omega
                      go_wp2_with fail
                      go_roundg (Cas.free (xs.map bal) d2 + (if b2 = true then 1 else 0))
                      case measure =>
                        rw [HQD.out]
                        cases b2 with
                        | true => have := HBT.out rfl; simp; omega
                        | false => rw [(HBF.out rfl).1]; simp
                      case rel => exact ⟨d2, b2, rfl, rfl, HWAY2.out, fun h a ha hne hd => (HBF.out h).2 a ha hne hd, HD.out, HBEL.out⟩
  · have hzb : (z == 0) = false := by simpa using h0
    have hzn : (z != 0) = true := by simpa using h0
    have H0 := Lib.hid h0
    clear h0
    go_enter Try.func35, Try.ntmps35
    go_wp2_with fail
    refine HER.out.mono ?_
    rintro e w1 ⟨rfl, hb1⟩
    have HB1 := Lib.hid hb1
    clear hb1 HER
    go_wp2_with fail
    go_ret2
    exact ⟨0, z, rfl, by unfold HelpIs; rw [HZ.out, if_pos H0.out]; exact ⟨rfl, rfl⟩, HB1.out⟩

end Go.Proofs.Ytlkbdmbfbmekaaa

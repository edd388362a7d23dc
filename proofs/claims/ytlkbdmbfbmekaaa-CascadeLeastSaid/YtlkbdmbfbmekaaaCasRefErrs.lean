/-
  Layer 31 (cascade), the document's answer: why accounts, dues and first ones may not be; how much a bank lacks. Walked.
-/
import Derived.Test.YtlkbdmbfbmekaaaCasBank
import Derived.Test.YtlkbdmbfbmekaaaBools
namespace Go.Proofs.Ytlkbdmbfbmekaaa
open Go.RowKit Go.Gab
set_option linter.unusedVariables false
attribute [local go_sem ↓] Go.wp_at_zero Go.wp_at_succ

theorem may16_any (z : Int) (w : World) :
    Calls Try.prog 65 #[.int .i64 z] w fun e w' => e = .returned (.bool (decide (0 ≤ z) && decide (z ≤ 4503599627370496))) ∧ w = w' := by
  by_cases h : 0 ≤ z
  · go_enter Try.func65, Try.ntmps65
    go_wp2_with fail
    go_ret
    exact ⟨ret_bool (by simp [h]), rfl⟩
  · go_enter Try.func65, Try.ntmps65
    go_wp2_with fail
    go_ret
    exact ⟨ret_bool (by rw [decide_eq_false (by omega : ¬ 0 ≤ z)]; rfl), rfl⟩

set_option maxHeartbeats 2000000 in
theorem may18_any (x : DueT) (w : World) :
    Calls Try.prog 59 #[dueV x] w fun e w' => e = .returned (.bool (Cas.fine (due x))) ∧ Below w.heap.size w w' := by
  obtain ⟨i, f, t, a, q, u, h, un⟩ := x
  unfold dueV due
  simp only
  have HZ := Lib.hid (show Cas.fine ⟨f, t, a, q, u⟩ = (!(f == t) && bankB f && bankB t && decide (1 ≤ a) && decide (a ≤ 4503599627370496) && decide (1 ≤ q) && decide (q ≤ 1000) && decide (0 ≤ u)) from rfl)
  have HM := Lib.hid (fun w => may16_any a w)
  obtain ⟨m, hm⟩ : ∃ m, (decide (0 ≤ a) && decide (a ≤ 4503599627370496)) = m := ⟨_, rfl⟩
  simp only [hm] at HM
  have HMM := Lib.hid hm
  clear hm
  generalize Cas.fine ⟨f, t, a, q, u⟩ = F at HZ ⊢
  go_enter Try.func59, Try.ntmps59
  go_wp2_with (go_at_call 65; refine (HM.out _).mono ?_; rintro e w' ⟨rfl, rfl⟩)
  all_goals
    go_ret
    refine ⟨ret_bool ?_, (Below.refl _ _).alloc (Nat.le_refl _) _⟩
    rw [HZ.out]
    have hmm := HMM.out
    clear HZ
    unfold bankB
    subst hmm
    rw [Bool.eq_iff_iff]
    simp only [Bool.and_eq_true, decide_eq_true_eq, Bool.not_eq_true', beq_eq_false_iff_ne, bne_iff_ne, ne_eq, Bool.false_eq_true, false_iff] at *
    omega

set_option maxHeartbeats 4000000 in
set_option maxRecDepth 20000 in
theorem refErrs_any (B : Nat) (A : Option Addr) (n c : Nat) (xs : List AcctT) (A1 : Option Addr) (n1 c1 : Nat) (ys : List DueT) (A2 : Option Addr) (n2 c2 : Nat) (zs : List Int) (w : World) (hB : B ≤ w.heap.size)
    (hr : SlR acctR w B A n c xs) (hr1 : SlR dueR w B A1 n1 c1 ys) (hr2 : SlI w B A2 n2 c2 zs) :
    Calls Try.prog 44 #[.slice A n c, .slice A1 n1 c1, .slice A2 n2 c2] w fun e w' => e = .returned (.int .i64 (Cas.errs (xs.map bal) (ys.map due) zs)) ∧ Below w.heap.size w w' := by
  have hnc := hr.nc
  have hcm := hr.cm
  have hnc1 := hr1.nc
  have hcm1 := hr1.cm
  have hnc2 := hr2.nc
  have hcm2 := hr2.cm
  have HLN := Lib.hid (show (xs.map bal).length = n by rw [List.length_map, hr.len])
  have HLN1 := Lib.hid (show (ys.map due).length = n1 by rw [List.length_map, hr1.len])
  have HLN2 := Lib.hid hr2.len
  by_cases h1 : (16 : Int) < n
  · have HE := Lib.hid (show Cas.errs (xs.map bal) (ys.map due) zs = 6 by unfold Cas.errs; rw [if_pos (by rw [HLN.out]; omega)])
    go_enter Try.func44, Try.ntmps44
    go_wp2_with fail
    go_ret
    exact ⟨ret_int HE.out.symm, Below.refl _ _⟩
  by_cases h2 : (64 : Int) < n1
  · have HE := Lib.hid (show Cas.errs (xs.map bal) (ys.map due) zs = 6 by unfold Cas.errs; rw [if_neg (by rw [HLN.out]; omega), if_pos (by rw [HLN1.out]; omega)])
    go_enter Try.func44, Try.ntmps44
    go_wp2_with fail
    go_ret
    exact ⟨ret_int HE.out.symm, Below.refl _ _⟩
  by_cases h3 : (16 : Int) < n2
  · have HE := Lib.hid (show Cas.errs (xs.map bal) (ys.map due) zs = 1 by unfold Cas.errs; rw [if_neg (by rw [HLN.out]; omega), if_neg (by rw [HLN1.out]; omega), if_pos (by rw [HLN2.out]; omega)])
    go_enter Try.func44, Try.ntmps44
    go_wp2_with fail
    go_ret
    exact ⟨ret_int HE.out.symm, Below.refl _ _⟩
  have h1' : n ≤ 16 := by omega
  have h2' : n1 ≤ 64 := by omega
  have h3' : n2 ≤ 16 := by omega
  clear h1 h2 h3
  have HE := Lib.hid (show Cas.errs (xs.map bal) (ys.map due) zs = if (xs.map bal).any Cas.badBal then 1 else if (ys.map due).any Cas.bad then 1 else if zs.any (Cas.noBank n) then 10 else if (ys.map due).any (Cas.farDue n) then 10 else if Cas.most < Cas.gross (ys.map due) then 13 else 0 by
    unfold Cas.errs
    rw [if_neg (by rw [HLN.out]; omega), if_neg (by rw [HLN1.out]; omega), if_neg (by rw [HLN2.out]; omega), HLN.out])
  have HR := Lib.hid hr
  have HR1 := Lib.hid hr1
  have HR2 := Lib.hid hr2
  clear hr hr1 hr2
  generalize Cas.errs (xs.map bal) (ys.map due) zs = E at HE ⊢
  go_enter Try.func44, Try.ntmps44
  go_wp2_with fail
  go_loop [7] (fun i => ∃ j : Nat, j ≤ n ∧ i = .int .i64 j ∧ (xs.map bal).any Cas.badBal = ((xs.map bal).drop j).any Cas.badBal) (fun i => n - (intOf i).toNat)
  case atStart => exact ⟨0, Nat.zero_le _, rfl, rfl⟩
  case round =>
    obtain ⟨j, hj, rfl, hany⟩ := hrel
    by_cases hlt : j < n
    · obtain ⟨b, off, x, rfl, hb, hx, h0, h1, _⟩ := acct_at HR.out hlt
      have hd := any_drop (xs.map bal) Cas.badBal (j := j) (v := (bal x)) (by simp [hx, bal])
      have HANY := Lib.hid (hany.trans hd)
      have HZ := Lib.hid (show Cas.badBal (bal x) = (decide (x.1 < 0) || decide (4503599627370496 < x.1)) from rfl)
      clear hany hd hx
      by_cases hz0 : x.1 < 0
      · have HF := Lib.hid (show E = 1 by rw [HE.out, if_pos (by rw [HANY.out, HZ.out, decide_eq_true hz0]; rfl)])
        go_wp2_with fail
        go_ret
        exact ⟨ret_int HF.out.symm, Below.refl _ _⟩
      · by_cases hz1 : 4503599627370496 < x.1
        · have HF := Lib.hid (show E = 1 by rw [HE.out, if_pos (by rw [HANY.out, HZ.out, decide_eq_true hz1]; simp)])
          go_wp2_with fail
          go_ret
          exact ⟨ret_int HF.out.symm, Below.refl _ _⟩
        · have HF := Lib.hid (show Cas.badBal (bal x) = false by rw [HZ.out, decide_eq_false hz0, decide_eq_false hz1]; rfl)
          go_wp2_with fail
          go_round
          case rel => exact ⟨j + 1, by omega, by go_num, by rw [HANY.out, HF.out, Bool.false_or]⟩
          case measure => simp [intOf]; omega
    · obtain rfl : n = j := by omega
      have HE4 := Lib.hid (HE.out.trans (if_neg (by rw [hany, List.drop_of_length_le (by rw [HLN.out]; exact Nat.le_refl _)]; decide)))
      clear hany
      go_wp2_with fail
      go_loopw [8] (fun i wr => ∃ j : Nat, j ≤ n1 ∧ i = .int .i64 j ∧ (ys.map due).any Cas.bad = ((ys.map due).drop j).any Cas.bad ∧ Below w.heap.size w wr) (fun i _ => n1 - (intOf i).toNat)
      case atStart => exact ⟨0, Nat.zero_le _, rfl, rfl, Below.refl _ _⟩
      case round =>
        obtain ⟨j2, hj, rfl, hany, hbel⟩ := hrel
        by_cases hlt : j2 < n1
        · obtain ⟨b, off, x, rfl, hb, hx, k0, k1, k2, k3, k4, k5, k6, _⟩ := due_at (HR1.out.below hbel hB) hlt
          have hd := any_drop (ys.map due) Cas.bad (j := j2) (v := (due x)) (by simp [hx])
          have HANY := Lib.hid (hany.trans hd)
          have HBEL := Lib.hid hbel
          have HB := Lib.hid (show Cas.bad (due x) = !Cas.fine (due x) from rfl)
          have HF := Lib.hid (may18_any x wr)
          obtain ⟨q, hq⟩ : ∃ q, Cas.fine (due x) = q := ⟨_, rfl⟩
          rw [hq] at HF HB
          unfold dueV at HF
          clear hany hbel hd hx hq
          go_wp2_with fail
          refine HF.out.mono ?_
          rintro e w2 ⟨rfl, hb2⟩
          have HB2 := Lib.hid (HBEL.out.trans (hb2.mono HBEL.out.size))
          clear hb2 k0 k1 k2 k3 k4 k5 k6
          cases q with
          | false =>
            have HF1 := Lib.hid (show E = 1 by rw [HE4.out, if_pos (by rw [HANY.out, HB.out]; rfl)])
            go_wp2_with fail
            go_ret
            exact ⟨ret_int HF1.out.symm, HB2.out⟩
          | true =>
            go_wp2_with fail
            go_roundw
            case rel => exact ⟨j2 + 1, by omega, by go_num, by rw [HANY.out, HB.out]; rfl, HB2.out⟩
            case measure => simp [intOf]; omega
        · obtain rfl : n1 = j2 := by omega
          have hnb : (ys.map due).any Cas.bad = false := by rw [hany, List.drop_of_length_le (by rw [HLN1.out]; exact Nat.le_refl _)]; rfl
          have HE5 := Lib.hid (HE4.out.trans (if_neg (by rw [hnb]; decide)))
          have HFine := Lib.hid (show ∀ d ∈ ys.map due, Cas.fine d = true from fun d hd => by
            rw [List.any_eq_false] at hnb
            have := hnb d hd
            unfold Cas.bad at this
            simpa using this)
          have HB2 := Lib.hid hbel
          clear hany hbel hnb
          go_wp2_with fail
          go_loopw [9] (fun i wr => ∃ j : Nat, j ≤ n2 ∧ i = .int .i64 j ∧ zs.any (Cas.noBank n) = (zs.drop j).any (Cas.noBank n) ∧ Below w.heap.size w wr) (fun i _ => n2 - (intOf i).toNat)
          case atStart => exact ⟨0, Nat.zero_le _, rfl, rfl, HB2.out⟩
          case round =>
            clear HB2
            obtain ⟨j3, hj, rfl, hany, hbel⟩ := hrel
            by_cases hlt : j3 < n2
            · obtain ⟨b, off, x, rfl, hb, hx, k0, _⟩ := int_at' (HR2.out.below hbel hB) hlt
              have hd := any_drop zs (Cas.noBank n) (j := j3) (v := x) hx
              have HANY := Lib.hid (hany.trans hd)
              have HBEL := Lib.hid hbel
              have HZ := Lib.hid (show Cas.noBank n x = (decide (x < 0) || decide ((n : Int) ≤ x)) from rfl)
              clear hany hbel hd hx
              by_cases hz0 : x < 0
              · have HF := Lib.hid (show E = 10 by rw [HE5.out, if_pos (by rw [HANY.out, HZ.out, decide_eq_true hz0]; rfl)])
                go_wp2_with fail
                go_ret
                exact ⟨ret_int HF.out.symm, HBEL.out⟩
              · by_cases hz1 : (n : Int) ≤ x
                · have HF := Lib.hid (show E = 10 by rw [HE5.out, if_pos (by rw [HANY.out, HZ.out, decide_eq_true hz1]; simp)])
                  go_wp2_with fail
                  go_ret
                  exact ⟨ret_int HF.out.symm, HBEL.out⟩
                · have HF := Lib.hid (show Cas.noBank n x = false by rw [HZ.out, decide_eq_false hz0, decide_eq_false hz1]; rfl)
                  go_wp2_with fail
                  go_roundw
                  case rel => exact ⟨j3 + 1, by omega, by go_num, by rw [HANY.out, HF.out, Bool.false_or], HBEL.out⟩
                  case measure => simp [intOf]; omega
            · obtain rfl : n2 = j3 := by omega
              have HE6 := Lib.hid (HE5.out.trans (if_neg (by rw [hany, List.drop_of_length_le (by rw [HLN2.out]; exact Nat.le_refl _)]; simp)))
              have HB2 := Lib.hid hbel
              clear hany hbel
              go_wp2_with fail
              go_loopw [11] (fun i wr => ∃ j : Nat, j ≤ n1 ∧ i = .int .i64 j ∧ (ys.map due).any (Cas.farDue n) = ((ys.map due).drop j).any (Cas.farDue n) ∧ Below w.heap.size w wr) (fun i _ => n1 - (intOf i).toNat)
              case atStart => exact ⟨0, Nat.zero_le _, rfl, rfl, HB2.out⟩
              case round =>
                clear HB2
                obtain ⟨j4, hj, rfl, hany, hbel⟩ := hrel
                by_cases hlt : j4 < n1
                · obtain ⟨b, off, x, rfl, hb, hx, k0, k1, k2, k3, k4, k5, k6, _⟩ := due_at (HR1.out.below hbel hB) hlt
                  have hd := any_drop (ys.map due) (Cas.farDue n) (j := j4) (v := (due x)) (by simp [hx])
                  have HANY := Lib.hid (hany.trans hd)
                  have HBEL := Lib.hid hbel
                  have HZ := Lib.hid (show Cas.farDue n (due x) = (decide ((n : Int) ≤ x.2.1) || decide ((n : Int) ≤ x.2.2.1)) from rfl)
                  clear hany hbel hd hx
                  by_cases hz0 : (n : Int) ≤ x.2.1
                  · have HF := Lib.hid (show E = 10 by rw [HE6.out, if_pos (by rw [HANY.out, HZ.out, decide_eq_true hz0]; rfl)])
                    go_wp2_with fail
                    go_ret
                    exact ⟨ret_int HF.out.symm, HBEL.out⟩
                  · by_cases hz1 : (n : Int) ≤ x.2.2.1
                    · have HF := Lib.hid (show E = 10 by rw [HE6.out, if_pos (by rw [HANY.out, HZ.out, decide_eq_true hz1]; simp)])
                      go_wp2_with fail
                      go_ret
                      exact ⟨ret_int HF.out.symm, HBEL.out⟩
                    · have HF := Lib.hid (show Cas.farDue n (due x) = false by rw [HZ.out, decide_eq_false hz0, decide_eq_false hz1]; rfl)
                      go_wp2_with fail
                      go_roundw
                      case rel => exact ⟨j4 + 1, by omega, by go_num, by rw [HANY.out, HF.out, Bool.false_or], HBEL.out⟩
                      case measure => simp [intOf]; omega
                · obtain rfl : n1 = j4 := by omega
                  have HE7 := Lib.hid (HE6.out.trans (if_neg (by rw [hany, List.drop_of_length_le (by rw [HLN1.out]; exact Nat.le_refl _)]; simp)))
                  have HB2 := Lib.hid hbel
                  clear hany hbel
                  go_wp2_with fail
                  go_loopw [10, 12] (fun v i wr => ∃ (j : Nat) (z : Int), j ≤ n1 ∧ i = .int .i64 j ∧ v = .int .i64 z ∧ z = Cas.gross ((ys.map due).take j) ∧ 0 ≤ z ∧ z ≤ 4503599627370496 ∧ Below w.heap.size w wr) (fun _ i _ => n1 - (intOf i).toNat)
                  case atStart => exact ⟨0, 0, Nat.zero_le _, rfl, rfl, by simp [Cas.gross], by decide, by decide, HB2.out⟩
                  case round =>
                    clear HB2
                    obtain ⟨j5, z, hj, rfl, rfl, hz, hz0, hz1, hbel⟩ := hrel
                    have HZ := Lib.hid hz
                    have HBEL := Lib.hid hbel
                    by_cases hlt : j5 < n1
                    · obtain ⟨b, off, x, rfl, hb, hx, k0, k1, k2, k3, k4, k5, k6, _⟩ := due_at (HR1.out.below hbel hB) hlt
                      obtain ⟨i0, fr, tt, am, wt, til, he, un⟩ := x
                      simp only at k0 k1 k2 k3 k4 k5 k6
                      have hxd : (ys.map due)[j5]? = some ⟨fr, tt, am, wt, til⟩ := by rw [List.getElem?_map, hx]; rfl
                      have hmem := List.mem_of_getElem? hxd
                      obtain ⟨a1, a2, a3, a4, a5, a6, a7⟩ := Cas.fine_iff (HFine.out _ hmem)
                      simp only at a1 a2 a3 a4 a5 a6 a7
                      have am2 : am ≤ 4503599627370496 := a7
                      have HXD := Lib.hid hxd
                      have hwr : IntKind.i64.wrap (z + am) = z + am := by rw [IntKind.wrap_i64]; omega
                      clear hx hmem a1 a2 a3 a4 a5 hz hbel hxd a7
                      by_cases hgr : 4503599627370496 < z + am
                      · have HFIN := Lib.hid (show E = 13 by
                          rw [HE7.out, if_pos]
                          have h1 := gross_take HXD.out
                          have h2 := gross_part HFine.out (j5 + 1)
                          have h3 := HZ.out
                          simp only at h1
                          unfold Cas.most
                          omega)
                        go_wp2_with fail
                        go_ret
                        exact ⟨ret_int HFIN.out.symm, HBEL.out⟩
                      · have HGT := Lib.hid (gross_take HXD.out)
                        go_wp2_with fail
                        go_roundw
                        case rel => exact ⟨j5 + 1, z + am, by omega, by go_num, rfl, by have h1 := HGT.out; have h2 := HZ.out; simp only at h1; omega, by omega, by omega, HBEL.out⟩
                        case measure => simp [intOf]; omega
                    · obtain rfl : n1 = j5 := by omega
                      have htk : (ys.map due).take n1 = ys.map due := List.take_of_length_le (by rw [HLN1.out]; exact Nat.le_refl _)
                      rw [htk] at hz
                      have HE0 := Lib.hid (show E = 0 by
                        rw [HE7.out, if_neg]
                        unfold Cas.most
                        omega)
                      clear htk hz hbel HZ
                      go_wp2_with fail
                      go_ret
                      exact ⟨ret_int HE0.out.symm, HBEL.out⟩

/-! ### How much a bank lacks -/
/-- Who has failed, by a row of bools. -/
def marksOf (ds : List Bool) : Nat → Bool := fun i => ds.getD i false
theorem bool_at {w : World} {B : Nat} {A : Option Addr} {n c : Nat} {ls : List Bool} (hr : SlR Rep.bool w B A n c ls) {i : Nat} (hi : i < n) :
    ∃ b off, A = some ⟨b, off, none⟩ ∧ b < B ∧ w.cell? ⟨b, off + i, none⟩ = some (.bool (marksOf ls i)) := by
  obtain ⟨b, off, z, cs, hA, hb, hx, hrel, hl, hc⟩ := hr.row i hi
  have hrel' : cs = [.bool z] := hrel
  subst hrel'
  have := hc 0 _ rfl
  refine ⟨b, off, hA, hb, ?_⟩
  unfold marksOf
  rw [List.getD_eq_getElem?_getD, hx]
  simpa [Rep.bool] using this

theorem owe_take {l : List Cas.Due} {j : Nat} {e : Cas.Due} (h : l[j]? = some e) (dn : Nat → Bool) (k : Nat) : Cas.owe dn k (l.take (j + 1)) = Cas.owe dn k (l.take j) + Cas.term dn k e := by
  rw [take_succ_of h, Cas.owe_snoc]

set_option maxHeartbeats 2000000 in
set_option maxRecDepth 20000 in
theorem refLack_any (B : Nat) (A : Option Addr) (n c : Nat) (xs : List AcctT) (A1 : Option Addr) (n1 c1 : Nat) (ys : List DueT) (B3 : Nat) (A3 : Option Addr) (n3 c3 : Nat) (ds : List Bool) (k : Nat) (w : World)
    (hr : SlR acctR w B A n c xs) (hr1 : SlR dueR w B A1 n1 c1 ys) (hr3 : SlR Rep.bool w B3 A3 n3 c3 ds) (hok : Cas.Ok (xs.map bal) (ys.map due)) (hn3 : n ≤ n3) (hk : k < n) :
    Calls Try.prog 39 #[.slice A n c, .slice A1 n1 c1, .slice A3 n3 c3, .int .i64 (k : Int)] w fun e w' => e = .returned (.int .i64 (Cas.lack (xs.map bal) (ys.map due) (marksOf ds) k)) ∧ w = w' := by
  have hnc := hr.nc
  have hcm := hr.cm
  have hnc1 := hr1.nc
  have hcm1 := hr1.cm
  have hnc3 := hr3.nc
  have hcm3 := hr3.cm
  have hlen : (xs.map bal).length = n := by rw [List.length_map, hr.len]
  have HLN1 := Lib.hid (show (ys.map due).length = n1 by rw [List.length_map, hr1.len])
  obtain ⟨b, off, x, rfl, hbb, hx, h0, h1, _⟩ := acct_at hr hk
  have hbal := hok.bal x.1 (List.mem_map.2 ⟨x, List.mem_of_getElem? hx, rfl⟩)
  have hgd : (xs.map bal).getD k 0 = x.1 := by rw [List.getD_eq_getElem?_getD, List.getElem?_map, hx]; rfl
  obtain ⟨m, hm⟩ := Int.eq_ofNat_of_zero_le hbal.1
  have hm2 : m ≤ 4503599627370496 := by have := hbal.2; unfold Cas.most at this; omega
  rw [hm] at h0 hgd
  have HLK := Lib.hid (show Cas.lack (xs.map bal) (ys.map due) (marksOf ds) k = -(m : Int) + Cas.owe (marksOf ds) k (ys.map due) by
    unfold Cas.lack
    rw [hgd])
  have HDUE := Lib.hid (show ∀ e ∈ ys.map due, 0 ≤ e.frm ∧ e.frm < (n : Int) ∧ 0 ≤ e.to ∧ e.to < (n : Int) ∧ e.frm ≠ e.to ∧ 1 ≤ e.amt from fun e he => by
    have := hok.due e he
    rw [hlen] at this
    exact this)
  have HGR := Lib.hid (show Cas.gross (ys.map due) ≤ 4503599627370496 from hok.sum)
  have HR1 := Lib.hid hr1
  have HR3 := Lib.hid hr3
  clear hr hr1 hr3 hok hbal hgd hlen hx hm h1
  generalize Cas.lack (xs.map bal) (ys.map due) (marksOf ds) k = F at HLK ⊢
  go_enter Try.func39, Try.ntmps39
  go_wp2_with fail
  go_loop [9, 10] (fun v i => ∃ (j : Nat) (z : Int), j ≤ n1 ∧ i = .int .i64 j ∧ v = .int .i64 z ∧ z = -(m : Int) + Cas.owe (marksOf ds) k ((ys.map due).take j)) (fun _ i => n1 - (intOf i).toNat)
  case atStart => exact ⟨0, -(m : Int), Nat.zero_le _, rfl, rfl, by simp [Cas.owe]⟩
  case round =>
    obtain ⟨j, z, hj, rfl, rfl, hz⟩ := hrel
    by_cases hlt : j < n1
    · obtain ⟨b1, off1, y, rfl, hb1, hy, k0, k1, k2, k3, k4, k5, k6, _⟩ := due_at HR1.out hlt
      obtain ⟨i0, fr, tt, am, wt, til, he, un⟩ := y
      simp only at k0 k1 k2 k3 k4 k5 k6
      have hxd : (ys.map due)[j]? = some ⟨fr, tt, am, wt, til⟩ := by rw [List.getElem?_map, hy]; rfl
      obtain ⟨a1, a2, a3, a4, a5, a6⟩ := HDUE.out _ (List.mem_of_getElem? hxd)
      simp only at a1 a2 a3 a4 a5 a6
      obtain ⟨f, rfl⟩ := Int.eq_ofNat_of_zero_le a1
      obtain ⟨t, rfl⟩ := Int.eq_ofNat_of_zero_le a3
      have hft : ¬ f = t := by omega
      have hbd := Cas.owe_bounds (l := (ys.map due).take j) (fun d hd => (HDUE.out d (List.mem_of_mem_take hd)).2.2.2.2.2) (marksOf ds) k
      have hg1 := gross_take hxd
      have hg2 : Cas.gross (ys.map due) = Cas.gross ((ys.map due).take (j + 1)) + Cas.gross ((ys.map due).drop (j + 1)) := by
        conv => lhs; rw [← List.take_append_drop (j + 1) (ys.map due)]
        unfold Cas.gross
        rw [List.map_append, List.sum_append]
      have hg3 := Cas.gross_nonneg (l := (ys.map due).drop (j + 1)) (fun d hd => (HDUE.out d (List.mem_of_mem_drop hd)).2.2.2.2.2)
      have hg4 := Cas.gross_nonneg (l := (ys.map due).take j) (fun d hd => (HDUE.out d (List.mem_of_mem_take hd)).2.2.2.2.2)
      have hg5 := HGR.out
      simp only at hg1
      have hz1 : -13510798882111488 ≤ z := by omega
      have hz2 : z ≤ 13510798882111488 := by omega
      have ham : am ≤ 4503599627370496 := by omega
      have HSTEP := Lib.hid (owe_take hxd (marksOf ds) k)
      have HTERM := Lib.hid (show Cas.term (marksOf ds) k ⟨(f : Int), (t : Int), am, wt, til⟩ = (if (f : Int) = (k : Int) then am else 0) - (if (t : Int) = (k : Int) ∧ marksOf ds f = false then am else 0) from rfl)
      have HZ := Lib.hid hz
      have hfn : f < n := by omega
      have htn : t < n := by omega
      clear hz hy hxd a1 a2 a3 a4 a5 hbd hg1 hg2 hg3 hg4 hg5
      have hwa : IntKind.i64.wrap (z + am) = z + am := by rw [IntKind.wrap_i64]; omega
      have hws : IntKind.i64.wrap (z - am) = z - am := by rw [IntKind.wrap_i64]; omega
      by_cases hfk : f = k
      · have htk : ¬ t = k := by omega
        have HT2 := Lib.hid (show Cas.term (marksOf ds) k ⟨(f : Int), (t : Int), am, wt, til⟩ = am by rw [HTERM.out, if_pos (by omega), if_neg (fun h => htk (by have := h.1; omega))]; omega)
        go_wp2_with fail
        go_round
        case rel => exact ⟨j + 1, z + am, by omega, by go_num, rfl, by rw [HSTEP.out, HT2.out]; have := HZ.out; omega⟩
        case measure => simp [intOf]; omega
      · by_cases htk : t = k
        · obtain ⟨b3, off3, rfl, hb3, hcell⟩ := bool_at HR3.out (i := f) (by omega)
          have hf3 : f < n3 := by omega
          cases hd : marksOf ds f with
          | true =>
            rw [hd] at hcell
            have HT2 := Lib.hid (show Cas.term (marksOf ds) k ⟨(f : Int), (t : Int), am, wt, til⟩ = 0 by rw [HTERM.out, if_neg (by omega), if_neg (fun h => by rw [hd] at h; cases h.2)]; omega)
            clear hd
            go_wp2_with fail
            go_round
            case rel => exact ⟨j + 1, z, by omega, by go_num, rfl, by rw [HSTEP.out, HT2.out]; have := HZ.out; omega⟩
            case measure => simp [intOf]; omega
          | false =>
            rw [hd] at hcell
            have HT2 := Lib.hid (show Cas.term (marksOf ds) k ⟨(f : Int), (t : Int), am, wt, til⟩ = -am by rw [HTERM.out, if_neg (by omega), if_pos ⟨by omega, hd⟩]; omega)
            clear hd
            go_wp2_with fail
            go_round
            case rel => exact ⟨j + 1, z - am, by omega, by go_num, rfl, by rw [HSTEP.out, HT2.out]; have := HZ.out; omega⟩
            case measure => simp [intOf]; omega
        · have HT2 := Lib.hid (show Cas.term (marksOf ds) k ⟨(f : Int), (t : Int), am, wt, til⟩ = 0 by rw [HTERM.out, if_neg (by omega), if_neg (fun h => htk (by have := h.1; omega))]; omega)
          go_wp2_with fail
          go_round
          case rel => exact ⟨j + 1, z, by omega, by go_num, rfl, by rw [HSTEP.out, HT2.out]; have := HZ.out; omega⟩
          case measure => simp [intOf]; omega
    · obtain rfl : j = n1 := by omega
      have HF := Lib.hid (show z = F by rw [HLK.out, hz, List.take_of_length_le (by rw [HLN1.out]; exact Nat.le_refl _)])
      clear hz
      go_wp2_with fail
      go_ret
      exact ⟨ret_int HF.out, rfl⟩

end Go.Proofs.Ytlkbdmbfbmekaaa

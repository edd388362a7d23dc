/-
  Layer 31 (cascade): CascadeSafe, walked.
-/
import Derived.Test.YtlkbdmbfbmekaaaCasHelpsWalk
namespace Go.Proofs.Ytlkbdmbfbmekaaa
open Go.RowKit Go.Gab
set_option linter.unusedVariables false
attribute [local go_sem ↓] Go.wp_at_zero Go.wp_at_succ

/-- Those safe ones that come ahead of a bank. -/
def sfs (bals : List Int) (l : List Cas.Due) (k : Nat) : List Nat := (List.range k).filter fun k => (Cas.falls bals l [(k : Int)]).length == 1
theorem sfs_all (bals : List Int) (l : List Cas.Due) : sfs bals l bals.length = Cas.safe bals l := rfl
theorem sfs_succ (bals : List Int) (l : List Cas.Due) (k : Nat) : sfs bals l (k + 1) = sfs bals l k ++ (if (Cas.falls bals l [(k : Int)]).length == 1 then [k] else []) := by
  unfold sfs
  rw [List.range_succ, List.filter_append]
  congr 1
  cases h : (Cas.falls bals l [(k : Int)]).length == 1 <;> simp [h]
theorem sfs_lt {bals : List Int} {l : List Cas.Due} {k x : Nat} (h : x ∈ sfs bals l k) : x < k := by
  unfold sfs at h
  exact List.mem_range.1 (List.mem_filter.1 h).1
theorem sfs_prefix (bals : List Int) (l : List Cas.Due) {k n : Nat} (h : k ≤ n) : ∃ t, sfs bals l n = sfs bals l k ++ t ∧ ∀ x ∈ t, k ≤ x := by
  induction n with
  | zero =>
    obtain rfl : k = 0 := by omega
    exact ⟨[], by simp, by simp⟩
  | succ n ih =>
    by_cases e : k = n + 1
    · subst e
      exact ⟨[], by simp, by simp⟩
    · obtain ⟨t, h1, h2⟩ := ih (by omega)
      refine ⟨t ++ (if (Cas.falls bals l [(n : Int)]).length == 1 then [n] else []), by rw [sfs_succ, h1, List.append_assoc], fun x hx => ?_⟩
      rcases List.mem_append.1 hx with hx | hx
      · exact h2 x hx
      · split at hx
        · simp at hx; omega
        · cases hx
/-- The next one that is told is this bank, just where it is safe. -/
theorem sfs_next {bals : List Int} {l : List Cas.Due} {k : Nat} (hk : k < bals.length) :
    ((Cas.falls bals l [(k : Int)]).length == 1) = true ∧ (Cas.safe bals l)[(sfs bals l k).length]? = some k ∧ (sfs bals l (k + 1)).length = (sfs bals l k).length + 1 ∨
    ((Cas.falls bals l [(k : Int)]).length == 1) = false ∧ (∀ x, (Cas.safe bals l)[(sfs bals l k).length]? = some x → x ≠ k) ∧ (sfs bals l (k + 1)).length = (sfs bals l k).length := by
  obtain ⟨t, h1, h2⟩ := sfs_prefix bals l (k := k + 1) (n := bals.length) (by omega)
  rw [sfs_all, sfs_succ] at h1
  cases h : (Cas.falls bals l [(k : Int)]).length == 1 with
  | true =>
    left
    rw [h] at h1
    refine ⟨rfl, by rw [h1]; simp, by rw [sfs_succ, h]; simp⟩
  | false =>
    right
    rw [h] at h1
    refine ⟨rfl, fun x hx => ?_, by rw [sfs_succ, h]; simp⟩
    rw [h1, if_neg (by decide), List.append_nil, List.getElem?_append_right (Nat.le_refl _), Nat.sub_self] at hx
    have := h2 x (List.mem_of_getElem? hx)
    omega

theorem SlR_nilD (w : World) (B : Nat) : SlR dueR w B none 0 0 [] := ⟨rfl, Nat.le_refl _, by omega, fun i hi => by omega⟩

set_option maxHeartbeats 4000000 in
set_option maxRecDepth 20000 in
theorem casSafe_any (A : Option Addr) (n c : Nat) (xs : List AcctT) (A1 : Option Addr) (n1 c1 : Nat) (ys : List DueT) (w : World)
    (hr : SlR acctR w w.heap.size A n c xs) (hr1 : SlR dueR w w.heap.size A1 n1 c1 ys) :
    Calls Try.prog 10 #[.slice A n c, .slice A1 n1 c1] w fun e w' => e = .returned (.bool true) ∧ Below w.heap.size w w' := by
  have HR := Lib.hid hr
  have HR1 := Lib.hid hr1
  have hnc := hr.nc
  have hcm := hr.cm
  have hnc1 := hr1.nc
  have hcm1 := hr1.cm
  have HW := Lib.hid casWorks_any
  clear hr hr1
  by_cases h0 : (16 : Int) < n ∨ (64 : Int) < n1
  · have hc : ((16 : Int) < n) ∨ (¬ (16 : Int) < n ∧ (64 : Int) < n1) := by omega
    clear h0
    rcases hc with h1 | ⟨h1, h2⟩
    all_goals
      go_enter Try.func10, Try.ntmps10
      go_wp2_with fail
      refine (HW.out _).mono ?_
      rintro e w1 ⟨rfl, hb⟩
      have HB := Lib.hid hb
      clear hb
      go_wp2_with fail
      go_ret
      exact ⟨rfl, HB.out⟩
  have hn : (n : Int) ≤ 16 := by omega
  have hn1 : (n1 : Int) ≤ 64 := by omega
  clear h0
  have HLN := Lib.hid (show (xs.map bal).length = n by rw [List.length_map, HR.out.len])
  go_enter Try.func10, Try.ntmps10
  go_wp2_with fail
  refine (safe_any w.heap.size A n c xs A1 n1 c1 ys w (Nat.le_refl _) HR.out HR1.out).mono ?_
  rintro e w1 ⟨A3, c3, s, rfl, hs, hown, hb⟩
  obtain ⟨z, hz⟩ : ∃ z, Cas.errs (xs.map bal) (ys.map due) [] = z := ⟨_, rfl⟩
  rw [hz] at hs ⊢
  have HB1 := Lib.hid hb
  by_cases he : z = 0
  · subst he
    rw [if_pos rfl] at hs
    have HS := Lib.hid hs
    have HO := Lib.hid (RI.of hown)
    have HE := Lib.hid hz
    have HOK := Lib.hid (Cas.ok_of_errs hz).1
    have hsl : s.length ≤ 9223372036854775807 := by have h := (Sl.of_own hown); have h1 := h.nc; have h2 := h.cm; omega
    clear hs hown hb hz
    obtain ⟨sl, hsl2⟩ : ∃ q, s.length = q := ⟨_, rfl⟩
    rw [hsl2] at hsl ⊢
    have HSL := Lib.hid hsl2
    clear hsl2
    go_wp2_with fail
    refine (fall_any w.heap.size A n c xs A1 n1 c1 ys none 0 0 [] w1 HB1.out.size (HR.out.below HB1.out (Nat.le_refl _)) (HR1.out.below HB1.out (Nat.le_refl _)) (SlR_none _ _)).mono ?_
    rintro e w2 ⟨A4, c4, rs, vs, rfl, hrs, hown, hrows, hb⟩
    rw [HE.out, if_pos rfl] at hrs
    rw [HE.out]
    have HRS := Lib.hid hrs
    have HRR := Lib.hid (RR.of hown hrows)
    have HO2 := Lib.hid (HO.out.below hb)
    have HB2 := Lib.hid (HB1.out.trans (hb.mono HB1.out.size))
    clear hrs hown hrows hb HO HB1
    have hrl := HRR.out.len
    obtain ⟨rl, hrl2⟩ : ∃ q, rs.length = q := ⟨_, rfl⟩
    rw [hrl2] at hrl ⊢
    have HRL := Lib.hid hrl2
    clear hrl2
    go_wp2_with fail
    go_loopw [9, 10] (fun a i wr => ∃ k : Nat, k ≤ n ∧ i = .int .i64 k ∧ a = .int .i64 ((sfs (xs.map bal) (ys.map due) k).length : Nat) ∧ RI wr A3 s ∧ RR wr A4 rs ∧ Below w.heap.size w wr) (fun _ i _ => n - (intOf i).toNat)
    case atStart => exact ⟨0, Nat.zero_le _, rfl, rfl, HO2.out, HRR.out, HB2.out⟩
    case round =>
      clear HO2 HRR HB2
      obtain ⟨k, hk, rfl, rfl, ho, hr, hb⟩ := hrel
      have HO := Lib.hid ho
      have HRR := Lib.hid hr
      have HB := Lib.hid hb
      clear ho hr hb
      obtain ⟨wo, rfl⟩ : ∃ wo : World, wo = wr := ⟨_, rfl⟩
      by_cases hlt : k < n
      · have HBN := Lib.hid (show k < (xs.map bal).length by rw [HLN.out]; exact hlt)
        have HLA := Lib.hid ((Below.refl wo.heap.size wo).alloc (Nat.le_refl _) (.cells #[.int .i64 (k : Int)] 3))
        have HBS := Lib.hid HB.out.size
        go_wp2_with fail
        refine (fall_any (wo.heap.size + 1) A n c xs A1 n1 c1 ys (some ⟨wo.heap.size, 0, none⟩) 1 1 [(k : Int)] (wo.alloc (.cells #[.int .i64 (k : Int)] 3)) (by simp) (((HR.out.below HB.out (Nat.le_refl _)).below HLA.out HBS.out).more (by have := HBS.out; omega)) (((HR1.out.below HB.out (Nat.le_refl _)).below HLA.out HBS.out).more (by have := HBS.out; omega)) (SlR_one wo (k : Int) (wf_i64 (by unfold I64; omega)) _ _)).mono ?_
        rintro e w3 ⟨A5, c5, rk, vk, rfl, hrk, -, -, hb⟩
        rw [errs_one HBN.out, HE.out, if_pos rfl] at hrk
        rw [errs_one HBN.out, HE.out]
        have HB3 := Lib.hid (HB.out.trans ((HLA.out.trans (hb.mono HLA.out.size)).mono HBS.out))
        have HO3 := Lib.hid (HO.out.below (HLA.out.trans (hb.mono HLA.out.size)))
        have HRR3 := Lib.hid (HRR.out.below (HLA.out.trans (hb.mono HLA.out.size)))
        have hpos : 1 ≤ rk.length := by rw [hrk, Cas.falls_one HBN.out]; simp
        have hnx := sfs_next (l := ys.map due) HBN.out
        rw [← hrk, ← HS.out] at hnx
        have HCL := Lib.hid (fun h : rk.length = 1 => Cas.safe_closed HOK.out HBN.out (by rw [← hrk]; exact h))
        obtain ⟨rlk, hrlk⟩ : ∃ q, rk.length = q := ⟨_, rfl⟩
        rw [hrlk] at hpos hnx HCL ⊢
        obtain ⟨at_, hat⟩ : ∃ q, (sfs (xs.map bal) (ys.map due) k).length = q := ⟨_, rfl⟩
        rw [hat] at hnx ⊢
        have hatl : at_ ≤ k := by rw [← hat]; exact Nat.le_trans (List.length_filter_le _ _) (by simp)
        clear hrk hb hrlk hat HO HRR HB HLA HBS
        rcases hnx with ⟨h1, h2, h3⟩ | ⟨h1, h2, h3⟩
        · obtain rfl : rlk = 1 := by simpa using h1
          have HCL1 := Lib.hid (HCL.out rfl)
          clear HCL
          have HNX := Lib.hid h3
          have hlt2 : at_ < sl := by rw [← HSL.out]; exact (List.getElem?_eq_some_iff.1 h2).1
          obtain ⟨bi, oi, rfl, hcell⟩ := HO3.out at_ k h2
          clear h1 h2 h3
          go_wp2_with fail
          go_loop [14] (fun i => ∃ j : Nat, j ≤ rl ∧ i = .int .i64 j) (fun i => rl - (intOf i).toNat)
          case atStart => exact ⟨0, Nat.zero_le _, rfl⟩
          case round =>
            obtain ⟨j, hj, rfl⟩ := hrel
            by_cases hlt3 : j < rl
            · obtain ⟨t, ht⟩ : ∃ t, rs[j]? = some t := ⟨_, List.getElem?_eq_getElem (by rw [HRL.out]; exact hlt3)⟩
              have htk : t = [k] := HCL1.out t (by rw [← HRS.out]; exact List.mem_of_getElem? ht)
              subst htk
              obtain ⟨_, b, o, Ai, ci, rfl, hcl, hin⟩ := HRR3.out.row j _ ht
              obtain ⟨bj, oj, rfl, hcj⟩ := hin 0 k rfl
              simp only [List.length_cons, List.length_nil, Nat.zero_add, Nat.add_zero] at hcl hcj
              clear ht hin
              go_wp2_with fail
              go_round
              case rel => exact ⟨j + 1, by omega, by go_num⟩
              case measure => simp [intOf]; omega
            · obtain rfl : rl = j := by omega
              go_wp2_with fail
              go_roundw
              case rel => exact ⟨k + 1, by omega, by go_num, by rw [HNX.out]; go_num, HO3.out, HRR3.out, HB3.out⟩
              case measure => simp [intOf]; omega
        · have hr1 : ((rlk : Int) == 1) = false := by simp at h1 ⊢; omega
          have HNX := Lib.hid h3
          by_cases hlt2 : at_ < sl
          · obtain ⟨x, hx⟩ : ∃ x, s[at_]? = some x := ⟨_, List.getElem?_eq_getElem (by rw [HSL.out]; exact hlt2)⟩
            obtain ⟨bi, oi, rfl, hcell⟩ := HO3.out at_ x hx
            have hxk : ((x : Int) == (k : Int)) = false := by
              have := h2 x hx
              simp
              omega
            clear h1 h2 h3 hx
            go_wp2_with fail
            go_loop [14] (fun i => ∃ j : Nat, j ≤ rl ∧ i = .int .i64 j) (fun i => rl - (intOf i).toNat)
            case atStart => exact ⟨0, Nat.zero_le _, rfl⟩
            case round =>
              obtain ⟨j, hj, rfl⟩ := hrel
              by_cases hlt3 : j < rl
              all_goals
                go_wp2_with fail
                go_roundw
                case rel => exact ⟨k + 1, by omega, by go_num, by rw [HNX.out], HO3.out, HRR3.out, HB3.out⟩
                case measure => simp [intOf]; omega
          · clear h1 h2 h3
            go_wp2_with fail
            go_loop [14] (fun i => ∃ j : Nat, j ≤ rl ∧ i = .int .i64 j) (fun i => rl - (intOf i).toNat)
            case atStart => exact ⟨0, Nat.zero_le _, rfl⟩
            case round =>
              obtain ⟨j, hj, rfl⟩ := hrel
              by_cases hlt3 : j < rl
              all_goals
                go_wp2_with fail
                go_roundw
                case rel => exact ⟨k + 1, by omega, by go_num, by rw [HNX.out], HO3.out, HRR3.out, HB3.out⟩
                case measure => simp [intOf]; omega
      · obtain rfl : n = k := by omega
        have hat : (sfs (xs.map bal) (ys.map due) n).length = sl := by
          rw [← HSL.out, HS.out]
          have := sfs_all (xs.map bal) (ys.map due)
          rw [HLN.out] at this
          rw [this]
        rw [hat]
        clear hat hlt hk
        have HE2 := Lib.hid (Cas.errs_no_dues HE.out)
        have HSF := Lib.hid (show Cas.safe (xs.map bal) [] = List.range n by rw [Cas.safe_no_dues (fun b hb => (HOK.out.bal b hb).1), HLN.out])
        clear HO HRR
        go_wp2_with fail
        refine (safe_any w.heap.size A n c xs none 0 0 [] wo HB.out.size (HR.out.below HB.out (Nat.le_refl _)) (SlR_nilD _ _)).mono ?_
        rintro e w6 ⟨A6, c6, s6, rfl, hs6, hown, hb⟩
        rw [List.map_nil, HE2.out, if_pos rfl, HSF.out] at hs6
        rw [List.map_nil, HE2.out]
        have hl6 : s6.length = n := by rw [hs6, List.length_range]
        have HO6 := Lib.hid (RI.of hown)
        have HS6 := Lib.hid hs6
        have HB6 := Lib.hid (HB.out.trans (hb.mono HB.out.size))
        rw [hl6]
        have HL6 := Lib.hid hl6
        clear hs6 hown hb hl6 HB
        obtain ⟨i0, hi0, hz0, hz1, hz2⟩ := info_parts infoInt
        go_wp2_with fail
        go_loopw [17, 18] (fun v i wr => ∃ (j e : Nat) (A7 : Option Addr), j ≤ n ∧ i = .int .i64 j ∧ v = .slice A7 j e ∧ wr.ownsRow w6.heap.size 3 1 (.slice A7 j e) j ((List.range j).map natV) ∧ Below w6.heap.size w6 wr) (fun _ i _ => n - (intOf i).toNat)
        case atStart => exact ⟨0, 0, none, Nat.zero_le _, rfl, rfl, World.ownsRow_nil _ _ _ _, Below.refl _ _⟩
        case round =>
          obtain ⟨j, e, A7, hj, rfl, rfl, hown, hb⟩ := hrel
          have HO := Lib.hid hown
          have HB := Lib.hid hb
          clear hown hb
          by_cases hlt : j < n
          · go_wp2_with (at_builtin
                         refine wpList_append_any _ rfl _ _ _ rfl w6.heap.size 3 i0 _ 1 8 Try.underlying47 hi0 hz0 hz1 hz2 rfl (by omega) (.slice A7 j e) _ _ rfl (HO.out.alloc _) (wr.heap.size + 1) (some ⟨wr.heap.size, 0, none⟩) 1 1 [natV j] rfl (by exact (Sl.lit (k := 1) (cap := 1) _ _ _ _ _ _ rfl rfl rfl (by omega) (by omega)).rd) (by simp [natV, Value.oneCell']) (by simp only [maxLen]; omega) (by omega) (by have := HB.out.size; simp; omega) ?_
                         intro v4 w4 hown4 hg4 hat4
                         have HB4 := Lib.hid ((HB.out.alloc HB.out.size _).grown hg4 (by have := HB.out.size; simp; omega) (fun q hq => (HO.out.lt q hq).1))
                         obtain ⟨A4', d4, rfl⟩ := own_slice hown4
                         have HO4 := Lib.hid hown4
                         clear hg4 hat4 hown4)
            go_roundw
            case rel => exact ⟨j + 1, d4, A4', by omega, by go_num, rfl, by rw [List.range_succ, List.map_append]; exact HO4.out, HB4.out⟩
            case measure => simp [intOf]; omega
          · obtain rfl : n = j := by omega
            have HB7 := Lib.hid (HB6.out.trans (HB.out.mono HB6.out.size))
            have HI6 := Lib.hid (HO6.out.below HB.out)
            have HI7 := Lib.hid (show RI wr A7 s6 by
              have h := HO.out
              have e1 := HL6.out
              have e2 := HS6.out
              rw [← e2] at h
              exact RI.of (c := e) (by rw [e1]; exact h))
            obtain ⟨w7, rfl⟩ : ∃ w7 : World, w7 = wr := ⟨_, rfl⟩
            go_wp2_with fail
            refine (sameInts_any A6 n c6 s6 A7 e w7 HL6.out (by omega) HI6.out HI7.out).mono ?_
            rintro e w8 ⟨rfl, hd⟩
            have HB8 := Lib.hid (HB7.out.trans (hd.2.mono HB7.out.size))
            clear hd HB7
            go_wp2_with fail
            refine (HW.out _).mono ?_
            rintro e w9 ⟨rfl, hb⟩
            have HB9 := Lib.hid (HB8.out.trans (hb.mono HB8.out.size))
            clear hb
            go_wp2_with fail
            go_ret
            exact ⟨rfl, HB9.out⟩
  · have hz1 : (z == 0) = false := by simp; omega
    have hz2 : (z != 0) = true := by simp; omega
    rw [if_neg he] at hs
    subst hs
    clear he hz hown hb
    go_wp2_with fail
    refine (HW.out _).mono ?_
    rintro e w2 ⟨rfl, hb⟩
    have HB := Lib.hid (HB1.out.trans (hb.mono HB1.out.size))
    clear hb
    go_wp2_with fail
    go_ret
    exact ⟨rfl, HB.out⟩

theorem cascadeSafe_walk {A A1 : Option Addr} {n c n1 c1 : Nat} {xs : List AcctT} {ys : List DueT} (W : World) (hr : SlR acctR W W.heap.size A n c xs) (hr1 : SlR dueR W W.heap.size A1 n1 c1 ys) :
    Calls Try.prog 10 #[.slice A n c, .slice A1 n1 c1] W fun e w' => e = .returned (.bool true) ∧ Below W.heap.size W w' :=
  casSafe_any A n c xs A1 n1 c1 ys W hr hr1

end Go.Proofs.Ytlkbdmbfbmekaaa

/-
  Layer 31 (cascade): the chapter's example, walked.
-/
import Derived.Test.YtlkbdmbfbmekaaaCasRefHelp
namespace Go.Proofs.Ytlkbdmbfbmekaaa
open Go.RowKit Go.Gab
set_option linter.unusedVariables false
attribute [local go_sem ↓] Go.wp_at_zero Go.wp_at_succ

def exB : List Int := [0, 3, 0]
def exL : List Cas.Due := [⟨0, 1, 5, 1, 0⟩, ⟨1, 2, 6, 1, 0⟩]
def exA : List AcctT := [(0, 0, ()), (3, 0, ()), (0, 0, ())]
def exD : List DueT := [(1, 0, 1, 5, 1, 0, false, ()), (2, 1, 2, 6, 1, 0, false, ())]
theorem exA_bal : exA.map bal = exB := rfl
theorem exD_due : exD.map due = exL := rfl
theorem ex_ok : Cas.errs exB exL [0] = 0 := by decide
theorem ex_ok0 : Cas.errs exB exL [] = 0 := by decide
theorem ex_bad : Cas.errs exB exL [3] = 10 := by decide
theorem ex_falls : Cas.falls exB exL [0] = [[0], [1]] := by decide
theorem ex_safe : (Cas.safe exB exL).length ≤ 3 := by
  unfold Cas.safe
  exact Nat.le_trans (List.length_filter_le _ _) (by decide)
theorem ex_help {x z : Int} (h : HelpIs exB exL [0] 1 x z) : x = 3 ∧ z = 0 := by
  unfold HelpIs at h
  rw [if_neg (by rw [ex_ok]; decide), if_neg (by decide), if_neg (by decide)] at h
  obtain ⟨hz, P, hP, hx⟩ := h
  refine ⟨?_, hz⟩
  have hok := (Cas.ok_of_errs ex_ok).1
  have hQ : Cas.EndEx exB exL [0] 1 (fun i => i == 0) := by
    refine ⟨fun j hj hm => ?_, rfl, fun j hj hne hd => ?_, fun C h1 _ j hj hm => ?_⟩
    · simp at hm
      simp [hm]
    · have hj3 : j < 3 := hj
      have h0 : j ≠ 0 := by
        rintro rfl
        cases hd
      obtain rfl : j = 2 := by omega
      decide
    · obtain rfl : j = 0 := by simpa using hm
      exact h1 0 hj (by simp)
  have := hP.unique hok hQ 1
  rw [hx]
  have e : Cas.lack exB exL P (1 : Int).toNat = 3 := by
    rw [show (1 : Int).toNat = 1 from rfl, this]
    decide
  rw [e]; rfl

/-- A row of accounts, or of dues, that lies in one block. -/
theorem exA_at {w : World} {g : Nat} {t : TypeId} (h : Blk w g t #[.int .i64 0, .int .i64 0, .int .i64 3, .int .i64 0, .int .i64 0, .int .i64 0]) : SlR acctR w (g + 1) (some ⟨g, 0, none⟩) 3 3 exA :=
  ⟨rfl, by omega, by omega, fun i hi => by
    have h0 := h.cell 0
    have h1 := h.cell 1
    have h2 := h.cell 2
    have h3 := h.cell 3
    have h4 := h.cell 4
    have h5 := h.cell 5
    match i, hi with
    | 0, _ =>
      refine ⟨g, 0, (0, 0, ()), [.int .i64 0, .int .i64 0], rfl, by omega, rfl, ⟨[.int .i64 0], [.int .i64 0], rfl, rfl, ⟨rfl, rfl⟩, ⟨[.int .i64 0], [], rfl, rfl, ⟨rfl, rfl⟩, rfl⟩⟩, rfl, fun j v hv => ?_⟩
      match j, hv with
      | 0, hv => exact h0.trans hv
      | 1, hv => exact h1.trans hv
    | 1, _ =>
      refine ⟨g, 0, (3, 0, ()), [.int .i64 3, .int .i64 0], rfl, by omega, rfl, ⟨[.int .i64 3], [.int .i64 0], rfl, rfl, ⟨rfl, rfl⟩, ⟨[.int .i64 0], [], rfl, rfl, ⟨rfl, rfl⟩, rfl⟩⟩, rfl, fun j v hv => ?_⟩
      match j, hv with
      | 0, hv => exact h2.trans hv
      | 1, hv => exact h3.trans hv
    | 2, _ =>
      refine ⟨g, 0, (0, 0, ()), [.int .i64 0, .int .i64 0], rfl, by omega, rfl, ⟨[.int .i64 0], [.int .i64 0], rfl, rfl, ⟨rfl, rfl⟩, ⟨[.int .i64 0], [], rfl, rfl, ⟨rfl, rfl⟩, rfl⟩⟩, rfl, fun j v hv => ?_⟩
      match j, hv with
      | 0, hv => exact h4.trans hv
      | 1, hv => exact h5.trans hv⟩

theorem exD_at {w : World} {g : Nat} {t : TypeId} (h : Blk w g t #[.int .u64 1, .int .i64 0, .int .i64 1, .int .i64 5, .int .i64 1, .int .i64 0, .bool false, .int .u64 2, .int .i64 1, .int .i64 2, .int .i64 6, .int .i64 1, .int .i64 0, .bool false]) : SlR dueR w (g + 1) (some ⟨g, 0, none⟩) 2 2 exD :=
  ⟨rfl, by omega, by omega, fun i hi => by
    have hc := fun k => h.cell k
    match i, hi with
    | 0, _ =>
      refine ⟨g, 0, (1, 0, 1, 5, 1, 0, false, ()), [.int .u64 1, .int .i64 0, .int .i64 1, .int .i64 5, .int .i64 1, .int .i64 0, .bool false], rfl, by omega, rfl, ⟨_, _, rfl, rfl, ⟨rfl, rfl⟩, ⟨_, _, rfl, rfl, ⟨rfl, rfl⟩, ⟨_, _, rfl, rfl, ⟨rfl, rfl⟩, ⟨_, _, rfl, rfl, ⟨rfl, rfl⟩, ⟨_, _, rfl, rfl, ⟨rfl, rfl⟩, ⟨_, _, rfl, rfl, ⟨rfl, rfl⟩, ⟨_, _, rfl, rfl, rfl, rfl⟩⟩⟩⟩⟩⟩⟩, rfl, fun j v hv => ?_⟩
      match j, hv with
      | 0, hv => exact (hc 0).trans hv
      | 1, hv => exact (hc 1).trans hv
      | 2, hv => exact (hc 2).trans hv
      | 3, hv => exact (hc 3).trans hv
      | 4, hv => exact (hc 4).trans hv
      | 5, hv => exact (hc 5).trans hv
      | 6, hv => exact (hc 6).trans hv
    | 1, _ =>
      refine ⟨g, 0, (2, 1, 2, 6, 1, 0, false, ()), [.int .u64 2, .int .i64 1, .int .i64 2, .int .i64 6, .int .i64 1, .int .i64 0, .bool false], rfl, by omega, rfl, ⟨_, _, rfl, rfl, ⟨rfl, rfl⟩, ⟨_, _, rfl, rfl, ⟨rfl, rfl⟩, ⟨_, _, rfl, rfl, ⟨rfl, rfl⟩, ⟨_, _, rfl, rfl, ⟨rfl, rfl⟩, ⟨_, _, rfl, rfl, ⟨rfl, rfl⟩, ⟨_, _, rfl, rfl, ⟨rfl, rfl⟩, ⟨_, _, rfl, rfl, rfl, rfl⟩⟩⟩⟩⟩⟩⟩, rfl, fun j v hv => ?_⟩
      match j, hv with
      | 0, hv => exact (hc 7).trans hv
      | 1, hv => exact (hc 8).trans hv
      | 2, hv => exact (hc 9).trans hv
      | 3, hv => exact (hc 10).trans hv
      | 4, hv => exact (hc 11).trans hv
      | 5, hv => exact (hc 12).trans hv
      | 6, hv => exact (hc 13).trans hv⟩

set_option maxHeartbeats 4000000 in
set_option maxRecDepth 20000 in
theorem casWorks_any (w : World) : Calls Try.prog 29 #[] w fun e w' => e = .returned (.bool true) ∧ Below w.heap.size w w' := by
  go_enter Try.func29, Try.ntmps29
  go_wp2_with fail
  have bA := (Blk.new w 63 #[.int .i64 0, .int .i64 0, .int .i64 3, .int .i64 0, .int .i64 0, .int .i64 0]).alloc (.cells #[.int .u64 1, .int .i64 0, .int .i64 1, .int .i64 5, .int .i64 1, .int .i64 0, .bool false, .int .u64 2, .int .i64 1, .int .i64 2, .int .i64 6, .int .i64 1, .int .i64 0, .bool false] 75)
  have bD := Blk.new (w.alloc (.cells #[.int .i64 0, .int .i64 0, .int .i64 3, .int .i64 0, .int .i64 0, .int .i64 0] 63)) 75 #[.int .u64 1, .int .i64 0, .int .i64 1, .int .i64 5, .int .i64 1, .int .i64 0, .bool false, .int .u64 2, .int .i64 1, .int .i64 2, .int .i64 6, .int .i64 1, .int .i64 0, .bool false]
  have l0 : Below w.heap.size w ((w.alloc (.cells #[.int .i64 0, .int .i64 0, .int .i64 3, .int .i64 0, .int .i64 0, .int .i64 0] 63)).alloc (.cells #[.int .u64 1, .int .i64 0, .int .i64 1, .int .i64 5, .int .i64 1, .int .i64 0, .bool false, .int .u64 2, .int .i64 1, .int .i64 2, .int .i64 6, .int .i64 1, .int .i64 0, .bool false] 75)) := ((Below.refl _ _).alloc (Nat.le_refl _) _).alloc (by simp) _
  have hs : ((w.alloc (.cells #[.int .i64 0, .int .i64 0, .int .i64 3, .int .i64 0, .int .i64 0, .int .i64 0] 63)).alloc (.cells #[.int .u64 1, .int .i64 0, .int .i64 1, .int .i64 5, .int .i64 1, .int .i64 0, .bool false, .int .u64 2, .int .i64 1, .int .i64 2, .int .i64 6, .int .i64 1, .int .i64 0, .bool false] 75)).heap.size = w.heap.size + 1 + 1 := by simp
  rw [show (w.alloc (.cells #[.int .i64 0, .int .i64 0, .int .i64 3, .int .i64 0, .int .i64 0, .int .i64 0] 63)).heap.size = w.heap.size + 1 by simp] at bD
  generalize (w.alloc (.cells #[.int .i64 0, .int .i64 0, .int .i64 3, .int .i64 0, .int .i64 0, .int .i64 0] 63)).alloc (.cells #[.int .u64 1, .int .i64 0, .int .i64 1, .int .i64 5, .int .i64 1, .int .i64 0, .bool false, .int .u64 2, .int .i64 1, .int .i64 2, .int .i64 6, .int .i64 1, .int .i64 0, .bool false] 75) = W at bA bD l0 hs ⊢
  rw [← hs]
  obtain ⟨hA, hhA⟩ : ∃ g, g = w.heap.size := ⟨_, rfl⟩
  have HEA := Lib.hid hhA
  rw [← hhA] at bA bD hs ⊢
  obtain ⟨hD, hhD⟩ : ∃ g, g = hA + 1 := ⟨_, rfl⟩
  rw [← hhD] at bD hs ⊢
  have HSA := Lib.hid (show SlR acctR W W.heap.size (some ⟨hA, 0, none⟩) 3 3 exA from (exA_at bA).more (by omega))
  have HSD := Lib.hid (show SlR dueR W W.heap.size (some ⟨hD, 0, none⟩) 2 2 exD from (exD_at bD).more (by omega))
  have HLW := Lib.hid l0
  clear bA bD l0 hs hhA hhD
  -- Fall
  have la := (Below.refl W.heap.size W).alloc (Nat.le_refl _) (.cells #[.int .i64 0] 3)
  have HLA := Lib.hid (HLW.out.alloc HLW.out.size (.cells #[.int .i64 0] 3))
  have HLA2 := Lib.hid la
  refine (fall_any (W.heap.size + 1) (some ⟨hA, 0, none⟩) 3 3 exA (some ⟨hD, 0, none⟩) 2 2 exD (some ⟨W.heap.size, 0, none⟩) 1 1 [0] (W.alloc (.cells #[.int .i64 0] 3)) (by simp) ((HSA.out.below la (Nat.le_refl _)).more (by omega)) ((HSD.out.below la (Nat.le_refl _)).more (by omega)) (SlR_one W 0 (by decide) _ _)).mono ?_
  rintro e w1 ⟨A1, c1, rs, vs, rfl, hrs, hown, hrows, hb1⟩
  rw [exA_bal, exD_due] at hrs ⊢
  rw [ex_ok, if_pos rfl, ex_falls] at hrs
  subst hrs
  rw [ex_ok]
  have HB1 := Lib.hid (HLA.out.trans (hb1.mono HLA.out.size))
  have HBW := Lib.hid (HLA2.out.trans (hb1.mono HLA2.out.size))
  have HO := Lib.hid hown
  have HRW := Lib.hid hrows
  clear hown hrows hb1 la HLA HLA2
  go_wp2_with fail
  -- Help
  have l1 := (Below.refl w1.heap.size w1).alloc (Nat.le_refl _) (.cells #[.int .i64 0] 3)
  have HL1 := Lib.hid l1
  have HWS := Lib.hid HBW.out.size
  have HX := Lib.hid (HBW.out.trans (l1.mono HBW.out.size))
  refine (help_any (w1.heap.size + 1) (some ⟨hA, 0, none⟩) 3 3 exA (some ⟨hD, 0, none⟩) 2 2 exD (some ⟨w1.heap.size, 0, none⟩) 1 1 [0] 1 (w1.alloc (.cells #[.int .i64 0] 3)) (by simp) (by unfold I64; omega) ((HSA.out.below HX.out (Nat.le_refl _)).more (by have := HWS.out; omega)) ((HSD.out.below HX.out (Nat.le_refl _)).more (by have := HWS.out; omega)) (SlR_one w1 0 (by decide) _ _)).mono ?_
  rintro e w2 ⟨x, z, rfl, hh, hb2⟩
  rw [exA_bal, exD_due] at hh
  obtain ⟨rfl, rfl⟩ := ex_help hh
  have HB2 := Lib.hid (HB1.out.trans ((l1.trans (hb2.mono l1.size)).mono HB1.out.size))
  have HBW2 := Lib.hid (HX.out.trans (hb2.mono HX.out.size))
  have HO2 := Lib.hid (own_below HO.out (l1.trans (hb2.mono l1.size)))
  have HRW2 := Lib.hid (HRW.out.below (l1.trans (hb2.mono l1.size)))
  clear hh hb2 l1 HL1 HX HO HRW HB1 HBW HWS
  go_wp2_with fail
  -- Safe
  refine (safe_any W.heap.size (some ⟨hA, 0, none⟩) 3 3 exA (some ⟨hD, 0, none⟩) 2 2 exD w2 HBW2.out.size (HSA.out.below HBW2.out (Nat.le_refl _)) (HSD.out.below HBW2.out (Nat.le_refl _))).mono ?_
  rintro e w3 ⟨A3, c3, s, rfl, hs, -, hb3⟩
  rw [exA_bal, exD_due] at hs ⊢
  rw [ex_ok0, if_pos rfl] at hs
  rw [ex_ok0]
  have hsl : s.length ≤ 3 := by rw [hs]; exact ex_safe
  have HB3 := Lib.hid (HB2.out.trans (hb3.mono HB2.out.size))
  have HBW3 := Lib.hid (HBW2.out.trans (hb3.mono HBW2.out.size))
  have HO3 := Lib.hid (own_below HO2.out hb3)
  have HRW3 := Lib.hid (HRW2.out.below hb3)
  clear hs hb3 HO2 HRW2 HB2 HBW2
  generalize s.length = sl at hsl ⊢
  have hsl2 : (sl : Int) ≤ 3 := by omega
  go_wp2_with fail
  -- Fall, of a bank that is none
  have l3 := (Below.refl w3.heap.size w3).alloc (Nat.le_refl _) (.cells #[.int .i64 3] 3)
  have HL3 := Lib.hid l3
  have HWS := Lib.hid HBW3.out.size
  have HX := Lib.hid (HBW3.out.trans (l3.mono HBW3.out.size))
  refine (fall_any (w3.heap.size + 1) (some ⟨hA, 0, none⟩) 3 3 exA (some ⟨hD, 0, none⟩) 2 2 exD (some ⟨w3.heap.size, 0, none⟩) 1 1 [3] (w3.alloc (.cells #[.int .i64 3] 3)) (by simp) ((HSA.out.below HX.out (Nat.le_refl _)).more (by have := HWS.out; omega)) ((HSD.out.below HX.out (Nat.le_refl _)).more (by have := HWS.out; omega)) (SlR_one w3 3 (by decide) _ _)).mono ?_
  rintro e w4 ⟨A4, c4, rs4, vs4, rfl, -, -, -, hb4⟩
  rw [exA_bal, exD_due, ex_bad]
  have HB4 := Lib.hid (HB3.out.trans ((l3.trans (hb4.mono l3.size)).mono HB3.out.size))
  have HO4 := Lib.hid (own_below HO3.out (l3.trans (hb4.mono l3.size)))
  have HRW4 := Lib.hid (HRW3.out.below (l3.trans (hb4.mono l3.size)))
  clear hb4 l3 HL3 HX HO3 HRW3 HB3 HBW3 HWS
  generalize rs4.length = r4
  go_wp2_with fail
  have b0 := ((Blk.new w4 3 #[.int .i64 0]).alloc (.cells #[.int .i64 1] 3)).alloc (.cells #[.slice (some ⟨w4.heap.size, 0, none⟩) 1 1, .slice (some ⟨w4.heap.size + 1, 0, none⟩) 1 1] 47)
  have b1 := (Blk.new (w4.alloc (.cells #[.int .i64 0] 3)) 3 #[.int .i64 1]).alloc (.cells #[.slice (some ⟨w4.heap.size, 0, none⟩) 1 1, .slice (some ⟨w4.heap.size + 1, 0, none⟩) 1 1] 47)
  have b2 := Blk.new ((w4.alloc (.cells #[.int .i64 0] 3)).alloc (.cells #[.int .i64 1] 3)) 47 #[.slice (some ⟨w4.heap.size, 0, none⟩) 1 1, .slice (some ⟨w4.heap.size + 1, 0, none⟩) 1 1]
  rw [show (w4.alloc (.cells #[.int .i64 0] 3)).heap.size = w4.heap.size + 1 by simp] at b1
  rw [show ((w4.alloc (.cells #[.int .i64 0] 3)).alloc (.cells #[.int .i64 1] 3)).heap.size = w4.heap.size + 1 + 1 by simp] at b2
  have l4 : Below w4.heap.size w4 (((w4.alloc (.cells #[.int .i64 0] 3)).alloc (.cells #[.int .i64 1] 3)).alloc (.cells #[.slice (some ⟨w4.heap.size, 0, none⟩) 1 1, .slice (some ⟨w4.heap.size + 1, 0, none⟩) 1 1] 47)) := (((Below.refl _ _).alloc (Nat.le_refl _) _).alloc (by simp) _).alloc (by simp; omega) _
  generalize ((w4.alloc (.cells #[.int .i64 0] 3)).alloc (.cells #[.int .i64 1] 3)).alloc (.cells #[.slice (some ⟨w4.heap.size, 0, none⟩) 1 1, .slice (some ⟨w4.heap.size + 1, 0, none⟩) 1 1] 47) = w5 at b0 b1 b2 l4 ⊢
  have hrr : RR w5 (some ⟨w4.heap.size + 1 + 1, 0, none⟩) [[0], [1]] := ⟨by decide, fun i s hs => by
    match i, hs with
    | 0, hs =>
      obtain rfl : [0] = s := Option.some.inj hs
      refine ⟨by decide, _, _, _, _, rfl, b2.cell 0, fun t k ht => ?_⟩
      match t, ht with
      | 0, ht =>
        obtain rfl : 0 = k := Option.some.inj ht
        exact ⟨_, _, rfl, b0.cell 0⟩
    | 1, hs =>
      obtain rfl : [1] = s := Option.some.inj hs
      refine ⟨by decide, _, _, _, _, rfl, b2.cell 1, fun t k ht => ?_⟩
      match t, ht with
      | 0, ht =>
        obtain rfl : 1 = k := Option.some.inj ht
        exact ⟨_, _, rfl, b1.cell 0⟩⟩
  have HB5 := Lib.hid (HB4.out.trans (l4.mono HB4.out.size))
  refine (sameRows_any A1 c1 _ 2 [[0], [1]] w5 (RR.of (own_below HO4.out l4) (HRW4.out.below l4)) hrr).mono ?_
  rintro e w6 ⟨rfl, hd6⟩
  have HB6 := Lib.hid (HB5.out.trans (hd6.2.mono HB5.out.size))
  clear hd6 hrr b0 b1 b2 l4 HO4 HRW4 HB4 HB5
  go_wp2_with fail
  all_goals
    go_ret
    exact ⟨rfl, HB6.out⟩

end Go.Proofs.Ytlkbdmbfbmekaaa

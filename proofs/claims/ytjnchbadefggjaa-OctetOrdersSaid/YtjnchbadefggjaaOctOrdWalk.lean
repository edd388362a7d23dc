/-
  OctetOrders, walked.
-/
import Derived.Test.YtjnchbadefggjaaOctNumWalk
namespace Go.Proofs.Ytjnchbadefggjaa
open Go.RowKit Go.Gab
set_option linter.unusedVariables false

set_option maxHeartbeats 2000000 in
theorem octetOrders_walk {a0 : Option Addr} {n0 c0 : Nat} {x : List UInt8} {a1 : Option Addr} {n1 c1 : Nat} {y : List UInt8} (W : World)
    (h0 : Sl W W.heap.size 1 a0 n0 c0 (x.map byteV)) (h1 : Sl W W.heap.size 1 a1 n1 c1 (y.map byteV)) :
    Calls Try.prog 11 #[.slice a0 n0 c0, .slice a1 n1 c1] W fun e w' => e = .returned (.bool true) ∧ Below W.heap.size W w' := by
  have hnc0 := h0.nc
  have hcm0 := h0.cm
  have hnc1 := h1.nc
  have hcm1 := h1.cm
  have hl0 := h0.lenB
  by_cases hv0 : (16384 : Int) < n0
  · have hd0 : decide ((16384 : Int) < n0) = true := by simpa using hv0
    go_enter Try.func11, Try.ntmps11
    go_wp2_with (first | (go_at_call 23; refine (vast01_any _ _ _ _ (by omega)).mono ?_; rintro e w' ⟨rfl, rfl⟩) | (go_at_call 24; refine (works01_any _).mono ?_; rintro e w' ⟨rfl, hb⟩))
    go_ret
    exact ⟨rfl, hb⟩
  by_cases hv1 : (16384 : Int) < n1
  · have hd1 : decide ((16384 : Int) < n1) = true := by simpa using hv1
    have hd0 : decide ((16384 : Int) < n0) = false := by simpa using hv0
    go_enter Try.func11, Try.ntmps11
    go_wp2_with (first | (go_at_call 23; refine (vast01_any _ _ _ _ (by omega)).mono ?_; rintro e w' ⟨rfl, rfl⟩) | (go_at_call 24; refine (works01_any _).mono ?_; rintro e w' ⟨rfl, hb⟩))
    go_ret
    exact ⟨rfl, hb⟩
  have hd0 : decide ((16384 : Int) < n0) = false := by simpa using hv0
  have hd1 : decide ((16384 : Int) < n1) = false := by simpa using hv1
  have HL0 := Lib.hid hl0
  have HS := Lib.hid (Oct.order_swap x y)
  have HZ := Lib.hid (Oct.order_zero x y)
  have HR := Lib.hid (Oct.order_range x y)
  have HA := Lib.hid (Oct.order_after x)
  have HLst := Lib.hid (Oct.after_least x y)
  have HSame := Lib.hid (Oct.order_self (Oct.after x))
  generalize hx1 : Oct.order x y = o at HS HZ HR HLst
  have X1 := Lib.hid hx1
  clear hx1 hl0
  go_enter Try.func11, Try.ntmps11
  go_wp2_with (go_at_call 23; refine (vast01_any _ _ _ _ (by omega)).mono ?_; rintro e w' ⟨rfl, rfl⟩)
  refine (order_any _ a0 n0 c0 _ a1 n1 c1 x y _ h0 h1).mono ?_
  rintro e w3 ⟨rfl, rfl⟩
  rw [X1.out]
  go_wp2_with fail
  refine (copied01_any W.heap.size a0 n0 c0 x _ h0 (Nat.le_refl _) (by omega)).mono ?_
  rintro e w1 ⟨v1, rfl, A1, d1, rfl, hown1, hb1⟩
  rw [HL0.out] at hown1 ⊢
  have hs1 := Sl.of_own hown1
  go_wp2_with fail
  refine (after_any w1.heap.size A1 n0 d1 x _ hs1 (Nat.le_refl _) (by omega)).mono ?_
  rintro e w2 ⟨v2, rfl, A2, d2, rfl, hown2, hb2⟩
  have hs2 := Sl.of_own hown2
  generalize hq : (Oct.after x).length = q at hs2 ⊢
  have HQ := Lib.hid hq
  have hbel2 := hb1.trans (hb2.mono hb1.size)
  clear hown1 hown2 hb2 hs1 hq
  have h02 := h0.below hbel2
  have h12 := h1.below hbel2
  go_wp2_with fail
  refine (refOrder_any _ a0 n0 c0 _ a1 n1 c1 x y _ h02 h12).mono ?_
  rintro e w3 ⟨rfl, r3, rfl⟩
  rw [X1.out]
  have h03 := h02.drewN r3
  have h13 := h12.drewN r3
  have hs3 := hs2.drewN r3
  have hbel3 := below_drewN hbel2 r3
  have HSZ0 : w2.heap.size ≤ (w2.drewN r3).heap.size := Nat.le_refl _
  generalize w2.drewN r3 = w3 at h03 h13 hs3 hbel3 HSZ0 ⊢
  clear h02 h12 hs2
  go_wp2_with fail
  refine (order_any _ a1 n1 c1 _ a0 n0 c0 y x _ h13 h03).mono ?_
  rintro e w4 ⟨rfl, rfl⟩
  have hsz3 : w2.heap.size ≤ w3.heap.size := HSZ0
  have HSZ := Lib.hid hsz3
  clear hsz3
  rcases HR.out with rfl | rfl | rfl
  · have hE : (x == y) = false := beq_eq_false_iff_ne.2 fun h => absurd (HZ.out.2 h) (by decide)
    rw [show Oct.order y x = 1 from HS.out]
    have k0 := run_string_of Try.underlying22 Try.underlying5 Try.underlying9 h03
    have k1 := run_string_of Try.underlying22 Try.underlying5 Try.underlying9 h13
    go_wp2_with fail
    refine (refAfter_any W.heap.size a0 n0 c0 x _ h03 hbel3.size (by omega)).mono ?_
    rintro e w5 ⟨v5, rfl, A5, d5, rfl, hown5, hb5⟩
    rw [HQ.out] at hown5 ⊢
    have hs5 := Sl.of_own hown5
    have hs35 := hs3.below' hb5 HSZ.out
    have hbel5 := hbel3.trans (hb5.mono hbel3.size)
    have h05 := h0.below hbel5
    have h15 := h1.below hbel5
    clear hown5 k0 k1 hs3 h03 h13
    go_wp2_with fail
    refine (refSame_any _ A2 q d2 _ A5 q d5 _ _ _ hs35 hs5).mono ?_
    rintro e w6 ⟨rfl, r6, rfl⟩
    rw [HSame.out]
    have hs36 := hs35.drewN r6
    have h06 := h05.drewN r6
    have h16 := h15.drewN r6
    have hbel6 := below_drewN hbel5 r6
    generalize w5.drewN r6 = w6 at hs36 h06 h16 hbel6 ⊢
    clear hs35 h05 h15 hs5
    go_wp2_with fail
    refine (order_any _ a0 n0 c0 _ A2 q d2 _ _ _ h06 hs36).mono ?_
    rintro e w7 ⟨rfl, rfl⟩
    rw [HA.out]
    generalize hgo : Oct.order (Oct.after x) y = o2 at HLst
    have HGO := Lib.hid hgo
    have hle : o2 ≤ 0 := HLst.out (by decide)
    clear hgo
    go_wp2_with fail
    refine (order_any _ A2 q d2 _ a1 n1 c1 _ _ _ hs36 h16).mono ?_
    rintro e w8 ⟨rfl, rfl⟩
    rw [HGO.out]
    go_wp2_with (go_at_call 24; refine (works01_any _).mono ?_; rintro e w' ⟨rfl, hb⟩)
    go_ret
    exact ⟨rfl, hbel6.trans (hb.mono hbel6.size)⟩
  · obtain rfl : x = y := HZ.out.1 rfl
    rw [show Oct.order x x = 0 from HS.out]
    have k0 := run_string_of Try.underlying22 Try.underlying5 Try.underlying9 h03
    have k1 := run_string_of Try.underlying22 Try.underlying5 Try.underlying9 h13
    go_wp2_with fail
    refine (refAfter_any W.heap.size a0 n0 c0 x _ h03 hbel3.size (by omega)).mono ?_
    rintro e w5 ⟨v5, rfl, A5, d5, rfl, hown5, hb5⟩
    rw [HQ.out] at hown5 ⊢
    have hs5 := Sl.of_own hown5
    have hs35 := hs3.below' hb5 HSZ.out
    have hbel5 := hbel3.trans (hb5.mono hbel3.size)
    have h05 := h0.below hbel5
    have h15 := h1.below hbel5
    clear hown5 k0 k1 hs3 h03 h13
    go_wp2_with fail
    refine (refSame_any _ A2 q d2 _ A5 q d5 _ _ _ hs35 hs5).mono ?_
    rintro e w6 ⟨rfl, r6, rfl⟩
    rw [HSame.out]
    have hs36 := hs35.drewN r6
    have h06 := h05.drewN r6
    have h16 := h15.drewN r6
    have hbel6 := below_drewN hbel5 r6
    generalize w5.drewN r6 = w6 at hs36 h06 h16 hbel6 ⊢
    clear hs35 h05 h15 hs5
    go_wp2_with fail
    refine (order_any _ a0 n0 c0 _ A2 q d2 _ _ _ h06 hs36).mono ?_
    rintro e w7 ⟨rfl, rfl⟩
    rw [HA.out]
    go_wp2_with (go_at_call 24; refine (works01_any _).mono ?_; rintro e w' ⟨rfl, hb⟩)
    go_ret
    exact ⟨rfl, hbel6.trans (hb.mono hbel6.size)⟩
  · have hE : (x == y) = false := beq_eq_false_iff_ne.2 fun h => absurd (HZ.out.2 h) (by decide)
    rw [show Oct.order y x = -1 from HS.out]
    have k0 := run_string_of Try.underlying22 Try.underlying5 Try.underlying9 h03
    have k1 := run_string_of Try.underlying22 Try.underlying5 Try.underlying9 h13
    go_wp2_with fail
    refine (refAfter_any W.heap.size a0 n0 c0 x _ h03 hbel3.size (by omega)).mono ?_
    rintro e w5 ⟨v5, rfl, A5, d5, rfl, hown5, hb5⟩
    rw [HQ.out] at hown5 ⊢
    have hs5 := Sl.of_own hown5
    have hs35 := hs3.below' hb5 HSZ.out
    have hbel5 := hbel3.trans (hb5.mono hbel3.size)
    have h05 := h0.below hbel5
    have h15 := h1.below hbel5
    clear hown5 k0 k1 hs3 h03 h13
    go_wp2_with fail
    refine (refSame_any _ A2 q d2 _ A5 q d5 _ _ _ hs35 hs5).mono ?_
    rintro e w6 ⟨rfl, r6, rfl⟩
    rw [HSame.out]
    have hs36 := hs35.drewN r6
    have h06 := h05.drewN r6
    have h16 := h15.drewN r6
    have hbel6 := below_drewN hbel5 r6
    generalize w5.drewN r6 = w6 at hs36 h06 h16 hbel6 ⊢
    clear hs35 h05 h15 hs5
    go_wp2_with fail
    refine (order_any _ a0 n0 c0 _ A2 q d2 _ _ _ h06 hs36).mono ?_
    rintro e w7 ⟨rfl, rfl⟩
    rw [HA.out]
    go_wp2_with (go_at_call 24; refine (works01_any _).mono ?_; rintro e w' ⟨rfl, hb⟩)
    go_ret
    exact ⟨rfl, hbel6.trans (hb.mono hbel6.size)⟩

end Go.Proofs.Ytjnchbadefggjaa

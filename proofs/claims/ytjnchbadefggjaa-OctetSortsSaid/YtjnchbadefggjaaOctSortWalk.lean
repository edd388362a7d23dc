/-
  OctetSorts, walked.
-/
import Derived.Test.YtjnchbadefggjaaOctNumWalk
namespace Go.Proofs.Ytjnchbadefggjaa
open Go.RowKit Go.Gab
set_option linter.unusedVariables false

set_option maxHeartbeats 2000000 in
theorem octetSorts_walk {a0 : Option Addr} {n0 c0 : Nat} {hd : List UInt8} {y z : Int} {a3 : Option Addr} {n3 c3 : Nat} {l3 : List UInt8} {a4 : Option Addr} {n4 c4 : Nat} {l4 : List UInt8} {a5 : Option Addr} {n5 c5 : Nat} {l5 : List UInt8} (W : World)
    (h0 : Sl W W.heap.size 1 a0 n0 c0 (hd.map byteV)) (hy : (Lit.int .u64 y).wf = true) (hz : (Lit.int .u64 z).wf = true) (h3 : Sl W W.heap.size 1 a3 n3 c3 (l3.map byteV)) (h4 : Sl W W.heap.size 1 a4 n4 c4 (l4.map byteV)) (h5 : Sl W W.heap.size 1 a5 n5 c5 (l5.map byteV)) :
    Calls Try.prog 12 #[.slice a0 n0 c0, .int .u64 y, .int .u64 z, .slice a3 n3 c3, .slice a4 n4 c4, .slice a5 n5 c5] W fun e w' => e = .returned (.bool true) ∧ Below W.heap.size W w' := by
  obtain ⟨m, rfl, hm⟩ := u64_of_wf hy
  obtain ⟨k, rfl, hk⟩ := u64_of_wf hz
  clear hy hz
  have hnc0 := h0.nc
  have hcm0 := h0.cm
  have hnc3 := h3.nc
  have hcm3 := h3.cm
  have hnc4 := h4.nc
  have hcm4 := h4.cm
  have hnc5 := h5.nc
  have hcm5 := h5.cm
  by_cases hv0 : (16384 : Int) < n0
  · have hd0 : decide ((16384 : Int) < n0) = true := by simpa using hv0
    go_enter Try.func12, Try.ntmps12
    go_wp2_with (first | (go_at_call 23; refine (vast01_any _ _ _ _ (by omega)).mono ?_; rintro e w' ⟨rfl, rfl⟩) | (go_at_call 24; refine (works01_any _).mono ?_; rintro e w' ⟨rfl, hb⟩))
    go_ret
    exact ⟨rfl, hb⟩
  by_cases hv1 : (16384 : Int) < n3
  · have hd1 : decide ((16384 : Int) < n3) = true := by simpa using hv1
    have hd0 : decide ((16384 : Int) < n0) = false := by simpa using hv0
    go_enter Try.func12, Try.ntmps12
    go_wp2_with (first | (go_at_call 23; refine (vast01_any _ _ _ _ (by omega)).mono ?_; rintro e w' ⟨rfl, rfl⟩) | (go_at_call 24; refine (works01_any _).mono ?_; rintro e w' ⟨rfl, hb⟩))
    go_ret
    exact ⟨rfl, hb⟩
  by_cases hv2 : (16384 : Int) < n4
  · have hd2 : decide ((16384 : Int) < n4) = true := by simpa using hv2
    have hd0 : decide ((16384 : Int) < n0) = false := by simpa using hv0
    have hd1 : decide ((16384 : Int) < n3) = false := by simpa using hv1
    go_enter Try.func12, Try.ntmps12
    go_wp2_with (first | (go_at_call 23; refine (vast01_any _ _ _ _ (by omega)).mono ?_; rintro e w' ⟨rfl, rfl⟩) | (go_at_call 24; refine (works01_any _).mono ?_; rintro e w' ⟨rfl, hb⟩))
    go_ret
    exact ⟨rfl, hb⟩
  by_cases hv3 : (16384 : Int) < n5
  · have hd3 : decide ((16384 : Int) < n5) = true := by simpa using hv3
    have hd0 : decide ((16384 : Int) < n0) = false := by simpa using hv0
    have hd1 : decide ((16384 : Int) < n3) = false := by simpa using hv1
    have hd2 : decide ((16384 : Int) < n4) = false := by simpa using hv2
    go_enter Try.func12, Try.ntmps12
    go_wp2_with (first | (go_at_call 23; refine (vast01_any _ _ _ _ (by omega)).mono ?_; rintro e w' ⟨rfl, rfl⟩) | (go_at_call 24; refine (works01_any _).mono ?_; rintro e w' ⟨rfl, hb⟩))
    go_ret
    exact ⟨rfl, hb⟩
  have hd0 : decide ((16384 : Int) < n0) = false := by simpa using hv0
  have hd1 : decide ((16384 : Int) < n3) = false := by simpa using hv1
  have hd2 : decide ((16384 : Int) < n4) = false := by simpa using hv2
  have hd3 : decide ((16384 : Int) < n5) = false := by simpa using hv3
  have HT := Lib.hid (Oct.order_trans l3 l4 l5)
  generalize hx1 : Oct.order l3 l4 = x1 at HT
  generalize hx2 : Oct.order l4 l5 = x2 at HT
  generalize hx3 : Oct.order l3 l5 = x3 at HT
  have X1 := Lib.hid hx1
  have X2 := Lib.hid hx2
  have X3 := Lib.hid hx3
  have HB : Hid (Oct.order (Oct.put hd m 8) (Oct.put hd k 8) = if m < k then -1 else if k < m then 1 else 0) := by
    show _ = _
    rw [show Oct.put hd m 8 = hd ++ Oct.be m 8 from rfl, show Oct.put hd k 8 = hd ++ Oct.be k 8 from rfl, Oct.order_append, Oct.order_be 8 m k (by omega) (by omega)]
  clear hx1 hx2 hx3
  rcases Nat.lt_trichotomy m k with hmk | hmk | hmk
  · rw [if_pos hmk] at HB
    go_enter Try.func12, Try.ntmps12
    go_wp2_with (go_at_call 23; refine (vast01_any _ _ _ _ (by omega)).mono ?_; rintro e w' ⟨rfl, rfl⟩)
    refine (put_any W.heap.size a0 n0 c0 hd m _ 8 rfl hm _ h0 (Nat.le_refl _) (by omega)).mono ?_
    rintro e w1 ⟨v1, rfl, A1, d1, rfl, hown1, hb1⟩
    have hs1 := Sl.of_own hown1
    generalize hq1 : (Oct.put hd m 8).length = q1 at hs1 ⊢
    clear hown1 hq1
    go_wp2_with fail
    refine (put_any W.heap.size a0 n0 c0 hd k _ 8 rfl hk _ (h0.below hb1) hb1.size (by omega)).mono ?_
    rintro e w2 ⟨v2, rfl, A2, d2, rfl, hown2, hb2⟩
    have hs2 := Sl.of_own hown2
    generalize hq2 : (Oct.put hd k 8).length = q2 at hs2 ⊢
    clear hown2 hq2
    have hbel2 := hb1.trans (hb2.mono hb1.size)
    have hs12 := hs1.below hb2
    have h32 := h3.below hbel2
    have h42 := h4.below hbel2
    have h52 := h5.below hbel2
    clear hb1 hb2 hs1
    go_wp2_with fail
    refine (order_any _ A1 q1 d1 _ A2 q2 d2 _ _ _ hs12 hs2).mono ?_
    rintro e w3 ⟨rfl, rfl⟩
    rw [HB.out]
    go_wp2_with fail
    refine (order_any _ a3 n3 c3 _ a4 n4 c4 l3 l4 _ h32 h42).mono ?_
    rintro e w3 ⟨rfl, rfl⟩
    rw [X1.out]
    by_cases g1 : 0 < x1
    · go_wp2_with (go_at_call 24; refine (works01_any _).mono ?_; rintro e w' ⟨rfl, hb⟩)
      go_ret
      exact ⟨rfl, hbel2.trans (hb.mono hbel2.size)⟩
    · go_wp2_with fail
      refine (order_any _ a4 n4 c4 _ a5 n5 c5 l4 l5 _ h42 h52).mono ?_
      rintro e w3 ⟨rfl, rfl⟩
      rw [X2.out]
      by_cases g2 : 0 < x2
      · go_wp2_with (go_at_call 24; refine (works01_any _).mono ?_; rintro e w' ⟨rfl, hb⟩)
        go_ret
        exact ⟨rfl, hbel2.trans (hb.mono hbel2.size)⟩
      · have g3 : x3 ≤ 0 := HT.out (by omega) (by omega)
        go_wp2_with fail
        refine (order_any _ a3 n3 c3 _ a5 n5 c5 l3 l5 _ h32 h52).mono ?_
        rintro e w3 ⟨rfl, rfl⟩
        rw [X3.out]
        go_wp2_with (go_at_call 24; refine (works01_any _).mono ?_; rintro e w' ⟨rfl, hb⟩)
        go_ret
        exact ⟨rfl, hbel2.trans (hb.mono hbel2.size)⟩
  · subst hmk
    rw [if_neg (by omega), if_neg (by omega)] at HB
    go_enter Try.func12, Try.ntmps12
    go_wp2_with (go_at_call 23; refine (vast01_any _ _ _ _ (by omega)).mono ?_; rintro e w' ⟨rfl, rfl⟩)
    refine (put_any W.heap.size a0 n0 c0 hd m _ 8 rfl hm _ h0 (Nat.le_refl _) (by omega)).mono ?_
    rintro e w1 ⟨v1, rfl, A1, d1, rfl, hown1, hb1⟩
    have hs1 := Sl.of_own hown1
    generalize hq1 : (Oct.put hd m 8).length = q1 at hs1 ⊢
    clear hown1 hq1
    go_wp2_with fail
    refine (put_any W.heap.size a0 n0 c0 hd m _ 8 rfl hk _ (h0.below hb1) hb1.size (by omega)).mono ?_
    rintro e w2 ⟨v2, rfl, A2, d2, rfl, hown2, hb2⟩
    have hs2 := Sl.of_own hown2
    generalize hq2 : (Oct.put hd m 8).length = q2 at hs2 ⊢
    clear hown2 hq2
    have hbel2 := hb1.trans (hb2.mono hb1.size)
    have hs12 := hs1.below hb2
    have h32 := h3.below hbel2
    have h42 := h4.below hbel2
    have h52 := h5.below hbel2
    clear hb1 hb2 hs1
    go_wp2_with fail
    refine (order_any _ A1 q1 d1 _ A2 q2 d2 _ _ _ hs12 hs2).mono ?_
    rintro e w3 ⟨rfl, rfl⟩
    rw [HB.out]
    go_wp2_with fail
    refine (order_any _ a3 n3 c3 _ a4 n4 c4 l3 l4 _ h32 h42).mono ?_
    rintro e w3 ⟨rfl, rfl⟩
    rw [X1.out]
    by_cases g1 : 0 < x1
    · go_wp2_with (go_at_call 24; refine (works01_any _).mono ?_; rintro e w' ⟨rfl, hb⟩)
      go_ret
      exact ⟨rfl, hbel2.trans (hb.mono hbel2.size)⟩
    · go_wp2_with fail
      refine (order_any _ a4 n4 c4 _ a5 n5 c5 l4 l5 _ h42 h52).mono ?_
      rintro e w3 ⟨rfl, rfl⟩
      rw [X2.out]
      by_cases g2 : 0 < x2
      · go_wp2_with (go_at_call 24; refine (works01_any _).mono ?_; rintro e w' ⟨rfl, hb⟩)
        go_ret
        exact ⟨rfl, hbel2.trans (hb.mono hbel2.size)⟩
      · have g3 : x3 ≤ 0 := HT.out (by omega) (by omega)
        go_wp2_with fail
        refine (order_any _ a3 n3 c3 _ a5 n5 c5 l3 l5 _ h32 h52).mono ?_
        rintro e w3 ⟨rfl, rfl⟩
        rw [X3.out]
        go_wp2_with (go_at_call 24; refine (works01_any _).mono ?_; rintro e w' ⟨rfl, hb⟩)
        go_ret
        exact ⟨rfl, hbel2.trans (hb.mono hbel2.size)⟩
  · rw [if_neg (by omega), if_pos hmk] at HB
    go_enter Try.func12, Try.ntmps12
    go_wp2_with (go_at_call 23; refine (vast01_any _ _ _ _ (by omega)).mono ?_; rintro e w' ⟨rfl, rfl⟩)
    refine (put_any W.heap.size a0 n0 c0 hd m _ 8 rfl hm _ h0 (Nat.le_refl _) (by omega)).mono ?_
    rintro e w1 ⟨v1, rfl, A1, d1, rfl, hown1, hb1⟩
    have hs1 := Sl.of_own hown1
    generalize hq1 : (Oct.put hd m 8).length = q1 at hs1 ⊢
    clear hown1 hq1
    go_wp2_with fail
    refine (put_any W.heap.size a0 n0 c0 hd k _ 8 rfl hk _ (h0.below hb1) hb1.size (by omega)).mono ?_
    rintro e w2 ⟨v2, rfl, A2, d2, rfl, hown2, hb2⟩
    have hs2 := Sl.of_own hown2
    generalize hq2 : (Oct.put hd k 8).length = q2 at hs2 ⊢
    clear hown2 hq2
    have hbel2 := hb1.trans (hb2.mono hb1.size)
    have hs12 := hs1.below hb2
    have h32 := h3.below hbel2
    have h42 := h4.below hbel2
    have h52 := h5.below hbel2
    clear hb1 hb2 hs1
    go_wp2_with fail
    refine (order_any _ A1 q1 d1 _ A2 q2 d2 _ _ _ hs12 hs2).mono ?_
    rintro e w3 ⟨rfl, rfl⟩
    rw [HB.out]
    go_wp2_with fail
    refine (order_any _ a3 n3 c3 _ a4 n4 c4 l3 l4 _ h32 h42).mono ?_
    rintro e w3 ⟨rfl, rfl⟩
    rw [X1.out]
    by_cases g1 : 0 < x1
    · go_wp2_with (go_at_call 24; refine (works01_any _).mono ?_; rintro e w' ⟨rfl, hb⟩)
      go_ret
      exact ⟨rfl, hbel2.trans (hb.mono hbel2.size)⟩
    · go_wp2_with fail
      refine (order_any _ a4 n4 c4 _ a5 n5 c5 l4 l5 _ h42 h52).mono ?_
      rintro e w3 ⟨rfl, rfl⟩
      rw [X2.out]
      by_cases g2 : 0 < x2
      · go_wp2_with (go_at_call 24; refine (works01_any _).mono ?_; rintro e w' ⟨rfl, hb⟩)
        go_ret
        exact ⟨rfl, hbel2.trans (hb.mono hbel2.size)⟩
      · have g3 : x3 ≤ 0 := HT.out (by omega) (by omega)
        go_wp2_with fail
        refine (order_any _ a3 n3 c3 _ a5 n5 c5 l3 l5 _ h32 h52).mono ?_
        rintro e w3 ⟨rfl, rfl⟩
        rw [X3.out]
        go_wp2_with (go_at_call 24; refine (works01_any _).mono ?_; rintro e w' ⟨rfl, hb⟩)
        go_ret
        exact ⟨rfl, hbel2.trans (hb.mono hbel2.size)⟩

end Go.Proofs.Ytjnchbadefggjaa

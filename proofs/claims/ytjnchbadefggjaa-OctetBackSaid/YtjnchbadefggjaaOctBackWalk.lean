/-
  OctetBack, walked.
-/
import Derived.Test.YtjnchbadefggjaaOctNumWalk
namespace Go.Proofs.Ytjnchbadefggjaa
open Go.RowKit Go.Gab
set_option linter.unusedVariables false

theorem take_back (hd tl : List UInt8) (m K : Nat) (hK : Oct.size (K : Int) = true) : Oct.take (hd ++ Oct.be m K ++ tl) (hd.length : Int) (K : Int) = (m % 256 ^ K, (hd.length : Int) + (K : Int), 0) := by
  unfold Oct.take
  have hl : (hd ++ Oct.be m K ++ tl).length = hd.length + K + tl.length := by simp [Oct.be_length]; omega
  rw [hl, if_neg (by rw [hK]; simp; omega), if_neg (by omega)]
  congr 1
  rw [Int.toNat_natCast, Int.toNat_natCast, List.append_assoc, List.drop_left, List.take_append_of_le_length (by rw [Oct.be_length]; omega), List.take_of_length_le (by rw [Oct.be_length]; omega), Oct.val_be]

theorem takeBytes_back (b s tl : List UInt8) (hs : s.length < 65536) : Oct.takeBytes (b ++ Oct.be s.length 2 ++ s ++ tl) (b.length : Int) = (s, (b.length : Int) + 2 + (s.length : Int), 0) := by
  unfold Oct.takeBytes
  rw [List.append_assoc (b ++ Oct.be s.length 2), show (2 : Int) = ((2 : Nat) : Int) from rfl, take_back b (s ++ tl) s.length 2 rfl]
  rw [Nat.mod_eq_of_lt (by omega)]
  have hl : (b ++ Oct.be s.length 2 ++ (s ++ tl)).length = b.length + 2 + s.length + tl.length := by simp [Oct.be_length]; omega
  simp only [ne_eq, not_true_eq_false, if_false, hl]
  rw [if_neg (by omega)]
  congr 1
  have e : ((b.length : Int) + ((2 : Nat) : Int)).toNat = (b ++ Oct.be s.length 2).length := by simp [Oct.be_length]; omega
  rw [e, List.drop_left, List.take_left]

set_option maxHeartbeats 4000000 in
theorem octetBack_walk {a0 : Option Addr} {n0 c0 : Nat} {hd : List UInt8} {a1 : Option Addr} {n1 c1 : Nat} {s : List UInt8} {a2 : Option Addr} {n2 c2 : Nat} {tl : List UInt8} {y z : Int} (W : World)
    (h0 : Sl W W.heap.size 1 a0 n0 c0 (hd.map byteV)) (h1 : Sl W W.heap.size 1 a1 n1 c1 (s.map byteV)) (h2 : Sl W W.heap.size 1 a2 n2 c2 (tl.map byteV)) (hy : (Lit.int .u64 y).wf = true) (hz : (Lit.int .u8 z).wf = true) :
    Calls Try.prog 10 #[.slice a0 n0 c0, .slice a1 n1 c1, .slice a2 n2 c2, .int .u64 y, .int .u8 z] W fun e w' => e = .returned (.bool true) ∧ Below W.heap.size W w' := by
  obtain ⟨m, rfl, hm⟩ := u64_of_wf hy
  have hz2 : 0 ≤ z ∧ z ≤ 255 := by
    simp [Lit.wf, IntKind.min, IntKind.max, IntKind.signed, IntKind.bits] at hz
    simpa using hz
  clear hy hz
  have hnc0 := h0.nc
  have hcm0 := h0.cm
  have hnc1 := h1.nc
  have hcm1 := h1.cm
  have hnc2 := h2.nc
  have hcm2 := h2.cm
  have hl0 := h0.lenB
  have hl1 := h1.lenB
  have hl2 := h2.lenB
  obtain ⟨i0, hi0, hi1, hi2, hi3⟩ := info_parts info8
  by_cases hv0 : (16384 : Int) < n0
  · have hd0 : decide ((16384 : Int) < n0) = true := by simpa using hv0
    go_enter Try.func10, Try.ntmps10
    go_wp2_with (first | (go_at_call 23; refine (vast01_any _ _ _ _ (by omega)).mono ?_; rintro e w' ⟨rfl, rfl⟩) | (go_at_call 24; refine (works01_any _).mono ?_; rintro e w' ⟨rfl, hb⟩))
    go_ret
    exact ⟨rfl, hb⟩
  by_cases hv1 : (16384 : Int) < n1
  · have hd1 : decide ((16384 : Int) < n1) = true := by simpa using hv1
    have hd0 : decide ((16384 : Int) < n0) = false := by simpa using hv0
    go_enter Try.func10, Try.ntmps10
    go_wp2_with (first | (go_at_call 23; refine (vast01_any _ _ _ _ (by omega)).mono ?_; rintro e w' ⟨rfl, rfl⟩) | (go_at_call 24; refine (works01_any _).mono ?_; rintro e w' ⟨rfl, hb⟩))
    go_ret
    exact ⟨rfl, hb⟩
  by_cases hv2 : (16384 : Int) < n2
  · have hd2 : decide ((16384 : Int) < n2) = true := by simpa using hv2
    have hd0 : decide ((16384 : Int) < n0) = false := by simpa using hv0
    have hd1 : decide ((16384 : Int) < n1) = false := by simpa using hv1
    go_enter Try.func10, Try.ntmps10
    go_wp2_with (first | (go_at_call 23; refine (vast01_any _ _ _ _ (by omega)).mono ?_; rintro e w' ⟨rfl, rfl⟩) | (go_at_call 24; refine (works01_any _).mono ?_; rintro e w' ⟨rfl, hb⟩))
    go_ret
    exact ⟨rfl, hb⟩
  have hd0 : decide ((16384 : Int) < n0) = false := by simpa using hv0
  have hd1 : decide ((16384 : Int) < n1) = false := by simpa using hv1
  have hd2 : decide ((16384 : Int) < n2) = false := by simpa using hv2
  have L1 := Lib.hid hl1
  have HS := Lib.hid (Oct.order_self s)
  have hPB := fun b : List UInt8 => (show Oct.putBytes b s = (b ++ Oct.be s.length 2 ++ s, 0) by unfold Oct.putBytes; rw [if_neg (by omega)])
  have hTB := fun b : List UInt8 => takeBytes_back b s tl (by omega)
  have hr4 : z % 4 = 0 ∨ z % 4 = 1 ∨ z % 4 = 2 ∨ z % 4 = 3 := by omega
  rcases hr4 with hrem | hrem | hrem | hrem
  · obtain ⟨lo, hlo⟩ : ∃ lo : Nat, lo = m % 256 ^ 1 := ⟨_, rfl⟩
    have hlow : (m : Int) % 256 = (lo : Int) := by rw [hlo]; omega
    have HT := Lib.hid (take_back hd tl m 1 rfl)
    rw [show m % 256 ^ 1 = m % 256 ^ 1 from rfl, ← hlo, hl0] at HT
    have HP := Lib.hid (show Oct.put hd m 1 = hd ++ Oct.be m 1 from rfl)
    have hlp : (hd ++ Oct.be m 1).length = n0 + 1 := by rw [List.length_append, Oct.be_length, hl0]
    have HPB := Lib.hid (hPB (hd ++ Oct.be m 1))
    have HTB := Lib.hid (hTB (hd ++ Oct.be m 1))
    rw [hlp, hl1] at HTB
    rw [hl1] at HPB
    have hlc : (hd ++ Oct.be m 1 ++ Oct.be n1 2 ++ s).length = n0 + 1 + 2 + n1 := by rw [List.length_append, List.length_append, Oct.be_length, hlp, hl1]
    have LP := Lib.hid hlp
    have LC := Lib.hid hlc
    clear hl0 hl1 hl2 hlo hPB hTB hlp hlc
    generalize hd ++ Oct.be m 1 = B1 at HT HP HPB HTB LP LC
    generalize B1 ++ Oct.be n1 2 ++ s = B2 at HPB HTB LC
    go_enter Try.func10, Try.ntmps10
    go_wp2_with (go_at_call 23; refine (vast01_any _ _ _ _ (by omega)).mono ?_; rintro e w' ⟨rfl, rfl⟩)
    refine (put_any W.heap.size a0 n0 c0 hd m _ 1 rfl hm _ h0 (Nat.le_refl _) (by omega)).mono ?_
    rintro e w1 ⟨v1, rfl, A1, d1, rfl, hown1, hb1⟩
    rw [show Oct.put hd m 1 = B1 from HP.out, LP.out] at hown1 ⊢
    have hs1 := Sl.of_own hown1
    clear hown1
    go_wp2_with fail
    refine (copied01_any w1.heap.size A1 (n0 + 1) d1 B1 _ hs1 (Nat.le_refl _) (by omega)).mono ?_
    rintro e w2 ⟨v2, rfl, A2, d2, rfl, hown2, hb2⟩
    rw [LP.out] at hown2 ⊢
    have hbel2 := hb1.trans (hb2.mono hb1.size)
    have hs12 := hs1.below hb2
    have h22 := h2.below hbel2
    go_wp2_with (at_builtin
                 refine wpList_append_any _ rfl _ _ _ rfl w1.heap.size 5 i0 _ 1 1 Try.underlying22 hi0 hi1 hi2 hi3 rfl (by omega) _ _ _ rfl hown2 W.heap.size a2 n2 c2 (tl.map byteV) rfl h22.rd (byteV_one_ _) (by simp only [maxLen]; omega) (by omega) hb2.size ?_
                 intro v3 w3 hown3 hg3 hat3)
    have hb3 : Below w1.heap.size w1 w3 := hb2.grown hg3 hb2.size (fun q hq => (hown2.lt q hq).1)
    obtain ⟨A3, d3, rfl⟩ := own_slice hown3
    rw [← List.map_append] at hown3
    have hs3 := Sl.of_own hown3
    have hbel3 := hb1.trans (hb3.mono hb1.size)
    have hs13 := hs1.below hb3
    clear hown2 hown3 hg3 hat3 hs12 h22 hb2 hbel2
    go_wp2_with fail
    refine (take_any w3.heap.size A3 (n0 + 1 + n2) d3 (B1 ++ tl) n0 1 _ hs3 (Nat.le_refl _) (by omega)).mono ?_
    rintro e w4 ⟨rfl, hb4⟩
    rw [show Oct.take (B1 ++ tl) (n0 : Int) 1 = (lo, (n0 : Int) + 1, 0) from HT.out]
    unfold takeV
    have hbel4 := hbel3.trans (hb4.mono hbel3.size)
    have hs14 := hs13.below' hb4 hb3.size
    have h14 := h1.below hbel4
    have h24 := h2.below hbel4
    have hsz4 : w1.heap.size ≤ w4.heap.size := Nat.le_trans hb3.size hb4.size
    clear hs3 hs13 hb3 hb4 hbel3 hs1
    go_wp2_with fail
    refine (putBytes_any w4.heap.size A1 a1 (n0 + 1) d1 n1 c1 B1 s _ (hs14.more hsz4) (h14.more hbel4.size) (Nat.le_refl _) (by omega)).mono ?_
    rintro e w5 ⟨v5, rfl, hf⟩
    rw [HPB.out] at hf ⊢
    unfold pairV
    obtain ⟨A5, d5, rfl, hown5, hb5⟩ := hf
    rw [LC.out] at hown5 ⊢
    have hs5 := Sl.of_own hown5
    clear hown5
    go_wp2_with fail
    refine (copied01_any w5.heap.size A5 (n0 + 1 + 2 + n1) d5 B2 _ hs5 (Nat.le_refl _) (by omega)).mono ?_
    rintro e w6 ⟨v6, rfl, A6, d6, rfl, hown6, hb6⟩
    rw [LC.out] at hown6 ⊢
    have hbel5 := hbel4.trans (hb5.mono hbel4.size)
    have hbel6 := hbel5.trans (hb6.mono hbel5.size)
    have h26 := h2.below hbel6
    go_wp2_with (at_builtin
                 refine wpList_append_any _ rfl _ _ _ rfl w5.heap.size 5 i0 _ 1 1 Try.underlying22 hi0 hi1 hi2 hi3 rfl (by omega) _ _ _ rfl hown6 W.heap.size a2 n2 c2 (tl.map byteV) rfl h26.rd (byteV_one_ _) (by simp only [maxLen]; omega) (by omega) hb6.size ?_
                 intro v7 w7 hown7 hg7 hat7)
    have hb7 : Below w5.heap.size w5 w7 := hb6.grown hg7 hb6.size (fun q hq => (hown6.lt q hq).1)
    obtain ⟨A7, d7, rfl⟩ := own_slice hown7
    rw [← List.map_append] at hown7
    have hs7 := Sl.of_own hown7
    have hbel7 := hbel5.trans (hb7.mono hbel5.size)
    clear hown6 hown7 hg7 hat7 h26 hb6 hbel6
    go_wp2_with fail
    refine (takeBytes_any w7.heap.size A7 (n0 + 1 + 2 + n1 + n2) d7 (B2 ++ tl) _ _ hs7 (Nat.le_refl _) (by omega)).mono ?_
    rintro e w8 ⟨v8, rfl, hf⟩
    rw [show Oct.takeBytes (B2 ++ tl) ((n0 : Int) + 1) = (s, (n0 : Int) + 1 + 2 + (n1 : Int), 0) from HTB.out] at hf ⊢
    unfold tripleV
    obtain ⟨A8, d8, rfl, hown8, hb8⟩ := hf
    rw [L1.out] at hown8 ⊢
    have hs8 := Sl.of_own hown8
    have hbel8 := hbel7.trans (hb8.mono hbel7.size)
    have h18 := h1.below hbel8
    clear hown8 hb8 hs7 hb7 hs5 hs14 h14 h24
    go_wp2_with fail
    refine (refSame_any _ A8 n1 d8 _ a1 n1 c1 s s _ hs8 h18).mono ?_
    rintro e w9 ⟨rfl, q9, rfl⟩
    rw [HS.out]
    have hbel9 := below_drewN hbel8 q9
    go_wp2_with (go_at_call 24; refine (works01_any _).mono ?_; rintro e w' ⟨rfl, hb⟩)
    go_ret
    exact ⟨rfl, hbel9.trans (hb.mono hbel9.size)⟩
  · obtain ⟨lo, hlo⟩ : ∃ lo : Nat, lo = m % 256 ^ 2 := ⟨_, rfl⟩
    have hlow : (m : Int) % 65536 = (lo : Int) := by rw [hlo]; omega
    have HT := Lib.hid (take_back hd tl m 2 rfl)
    rw [show m % 256 ^ 2 = m % 256 ^ 2 from rfl, ← hlo, hl0] at HT
    have HP := Lib.hid (show Oct.put hd m 2 = hd ++ Oct.be m 2 from rfl)
    have hlp : (hd ++ Oct.be m 2).length = n0 + 2 := by rw [List.length_append, Oct.be_length, hl0]
    have HPB := Lib.hid (hPB (hd ++ Oct.be m 2))
    have HTB := Lib.hid (hTB (hd ++ Oct.be m 2))
    rw [hlp, hl1] at HTB
    rw [hl1] at HPB
    have hlc : (hd ++ Oct.be m 2 ++ Oct.be n1 2 ++ s).length = n0 + 2 + 2 + n1 := by rw [List.length_append, List.length_append, Oct.be_length, hlp, hl1]
    have LP := Lib.hid hlp
    have LC := Lib.hid hlc
    clear hl0 hl1 hl2 hlo hPB hTB hlp hlc
    generalize hd ++ Oct.be m 2 = B1 at HT HP HPB HTB LP LC
    generalize B1 ++ Oct.be n1 2 ++ s = B2 at HPB HTB LC
    go_enter Try.func10, Try.ntmps10
    go_wp2_with (go_at_call 23; refine (vast01_any _ _ _ _ (by omega)).mono ?_; rintro e w' ⟨rfl, rfl⟩)
    refine (put_any W.heap.size a0 n0 c0 hd m _ 2 rfl hm _ h0 (Nat.le_refl _) (by omega)).mono ?_
    rintro e w1 ⟨v1, rfl, A1, d1, rfl, hown1, hb1⟩
    rw [show Oct.put hd m 2 = B1 from HP.out, LP.out] at hown1 ⊢
    have hs1 := Sl.of_own hown1
    clear hown1
    go_wp2_with fail
    refine (copied01_any w1.heap.size A1 (n0 + 2) d1 B1 _ hs1 (Nat.le_refl _) (by omega)).mono ?_
    rintro e w2 ⟨v2, rfl, A2, d2, rfl, hown2, hb2⟩
    rw [LP.out] at hown2 ⊢
    have hbel2 := hb1.trans (hb2.mono hb1.size)
    have hs12 := hs1.below hb2
    have h22 := h2.below hbel2
    go_wp2_with (at_builtin
                 refine wpList_append_any _ rfl _ _ _ rfl w1.heap.size 5 i0 _ 1 1 Try.underlying22 hi0 hi1 hi2 hi3 rfl (by omega) _ _ _ rfl hown2 W.heap.size a2 n2 c2 (tl.map byteV) rfl h22.rd (byteV_one_ _) (by simp only [maxLen]; omega) (by omega) hb2.size ?_
                 intro v3 w3 hown3 hg3 hat3)
    have hb3 : Below w1.heap.size w1 w3 := hb2.grown hg3 hb2.size (fun q hq => (hown2.lt q hq).1)
    obtain ⟨A3, d3, rfl⟩ := own_slice hown3
    rw [← List.map_append] at hown3
    have hs3 := Sl.of_own hown3
    have hbel3 := hb1.trans (hb3.mono hb1.size)
    have hs13 := hs1.below hb3
    clear hown2 hown3 hg3 hat3 hs12 h22 hb2 hbel2
    go_wp2_with fail
    refine (take_any w3.heap.size A3 (n0 + 2 + n2) d3 (B1 ++ tl) n0 2 _ hs3 (Nat.le_refl _) (by omega)).mono ?_
    rintro e w4 ⟨rfl, hb4⟩
    rw [show Oct.take (B1 ++ tl) (n0 : Int) 2 = (lo, (n0 : Int) + 2, 0) from HT.out]
    unfold takeV
    have hbel4 := hbel3.trans (hb4.mono hbel3.size)
    have hs14 := hs13.below' hb4 hb3.size
    have h14 := h1.below hbel4
    have h24 := h2.below hbel4
    have hsz4 : w1.heap.size ≤ w4.heap.size := Nat.le_trans hb3.size hb4.size
    clear hs3 hs13 hb3 hb4 hbel3 hs1
    go_wp2_with fail
    refine (putBytes_any w4.heap.size A1 a1 (n0 + 2) d1 n1 c1 B1 s _ (hs14.more hsz4) (h14.more hbel4.size) (Nat.le_refl _) (by omega)).mono ?_
    rintro e w5 ⟨v5, rfl, hf⟩
    rw [HPB.out] at hf ⊢
    unfold pairV
    obtain ⟨A5, d5, rfl, hown5, hb5⟩ := hf
    rw [LC.out] at hown5 ⊢
    have hs5 := Sl.of_own hown5
    clear hown5
    go_wp2_with fail
    refine (copied01_any w5.heap.size A5 (n0 + 2 + 2 + n1) d5 B2 _ hs5 (Nat.le_refl _) (by omega)).mono ?_
    rintro e w6 ⟨v6, rfl, A6, d6, rfl, hown6, hb6⟩
    rw [LC.out] at hown6 ⊢
    have hbel5 := hbel4.trans (hb5.mono hbel4.size)
    have hbel6 := hbel5.trans (hb6.mono hbel5.size)
    have h26 := h2.below hbel6
    go_wp2_with (at_builtin
                 refine wpList_append_any _ rfl _ _ _ rfl w5.heap.size 5 i0 _ 1 1 Try.underlying22 hi0 hi1 hi2 hi3 rfl (by omega) _ _ _ rfl hown6 W.heap.size a2 n2 c2 (tl.map byteV) rfl h26.rd (byteV_one_ _) (by simp only [maxLen]; omega) (by omega) hb6.size ?_
                 intro v7 w7 hown7 hg7 hat7)
    have hb7 : Below w5.heap.size w5 w7 := hb6.grown hg7 hb6.size (fun q hq => (hown6.lt q hq).1)
    obtain ⟨A7, d7, rfl⟩ := own_slice hown7
    rw [← List.map_append] at hown7
    have hs7 := Sl.of_own hown7
    have hbel7 := hbel5.trans (hb7.mono hbel5.size)
    clear hown6 hown7 hg7 hat7 h26 hb6 hbel6
    go_wp2_with fail
    refine (takeBytes_any w7.heap.size A7 (n0 + 2 + 2 + n1 + n2) d7 (B2 ++ tl) _ _ hs7 (Nat.le_refl _) (by omega)).mono ?_
    rintro e w8 ⟨v8, rfl, hf⟩
    rw [show Oct.takeBytes (B2 ++ tl) ((n0 : Int) + 2) = (s, (n0 : Int) + 2 + 2 + (n1 : Int), 0) from HTB.out] at hf ⊢
    unfold tripleV
    obtain ⟨A8, d8, rfl, hown8, hb8⟩ := hf
    rw [L1.out] at hown8 ⊢
    have hs8 := Sl.of_own hown8
    have hbel8 := hbel7.trans (hb8.mono hbel7.size)
    have h18 := h1.below hbel8
    clear hown8 hb8 hs7 hb7 hs5 hs14 h14 h24
    go_wp2_with fail
    refine (refSame_any _ A8 n1 d8 _ a1 n1 c1 s s _ hs8 h18).mono ?_
    rintro e w9 ⟨rfl, q9, rfl⟩
    rw [HS.out]
    have hbel9 := below_drewN hbel8 q9
    go_wp2_with (go_at_call 24; refine (works01_any _).mono ?_; rintro e w' ⟨rfl, hb⟩)
    go_ret
    exact ⟨rfl, hbel9.trans (hb.mono hbel9.size)⟩
  · obtain ⟨lo, hlo⟩ : ∃ lo : Nat, lo = m % 256 ^ 4 := ⟨_, rfl⟩
    have hlow : (m : Int) % 4294967296 = (lo : Int) := by rw [hlo]; omega
    have HT := Lib.hid (take_back hd tl m 4 rfl)
    rw [show m % 256 ^ 4 = m % 256 ^ 4 from rfl, ← hlo, hl0] at HT
    have HP := Lib.hid (show Oct.put hd m 4 = hd ++ Oct.be m 4 from rfl)
    have hlp : (hd ++ Oct.be m 4).length = n0 + 4 := by rw [List.length_append, Oct.be_length, hl0]
    have HPB := Lib.hid (hPB (hd ++ Oct.be m 4))
    have HTB := Lib.hid (hTB (hd ++ Oct.be m 4))
    rw [hlp, hl1] at HTB
    rw [hl1] at HPB
    have hlc : (hd ++ Oct.be m 4 ++ Oct.be n1 2 ++ s).length = n0 + 4 + 2 + n1 := by rw [List.length_append, List.length_append, Oct.be_length, hlp, hl1]
    have LP := Lib.hid hlp
    have LC := Lib.hid hlc
    clear hl0 hl1 hl2 hlo hPB hTB hlp hlc
    generalize hd ++ Oct.be m 4 = B1 at HT HP HPB HTB LP LC
    generalize B1 ++ Oct.be n1 2 ++ s = B2 at HPB HTB LC
    go_enter Try.func10, Try.ntmps10
    go_wp2_with (go_at_call 23; refine (vast01_any _ _ _ _ (by omega)).mono ?_; rintro e w' ⟨rfl, rfl⟩)
    refine (put_any W.heap.size a0 n0 c0 hd m _ 4 rfl hm _ h0 (Nat.le_refl _) (by omega)).mono ?_
    rintro e w1 ⟨v1, rfl, A1, d1, rfl, hown1, hb1⟩
    rw [show Oct.put hd m 4 = B1 from HP.out, LP.out] at hown1 ⊢
    have hs1 := Sl.of_own hown1
    clear hown1
    go_wp2_with fail
    refine (copied01_any w1.heap.size A1 (n0 + 4) d1 B1 _ hs1 (Nat.le_refl _) (by omega)).mono ?_
    rintro e w2 ⟨v2, rfl, A2, d2, rfl, hown2, hb2⟩
    rw [LP.out] at hown2 ⊢
    have hbel2 := hb1.trans (hb2.mono hb1.size)
    have hs12 := hs1.below hb2
    have h22 := h2.below hbel2
    go_wp2_with (at_builtin
                 refine wpList_append_any _ rfl _ _ _ rfl w1.heap.size 5 i0 _ 1 1 Try.underlying22 hi0 hi1 hi2 hi3 rfl (by omega) _ _ _ rfl hown2 W.heap.size a2 n2 c2 (tl.map byteV) rfl h22.rd (byteV_one_ _) (by simp only [maxLen]; omega) (by omega) hb2.size ?_
                 intro v3 w3 hown3 hg3 hat3)
    have hb3 : Below w1.heap.size w1 w3 := hb2.grown hg3 hb2.size (fun q hq => (hown2.lt q hq).1)
    obtain ⟨A3, d3, rfl⟩ := own_slice hown3
    rw [← List.map_append] at hown3
    have hs3 := Sl.of_own hown3
    have hbel3 := hb1.trans (hb3.mono hb1.size)
    have hs13 := hs1.below hb3
    clear hown2 hown3 hg3 hat3 hs12 h22 hb2 hbel2
    go_wp2_with fail
    refine (take_any w3.heap.size A3 (n0 + 4 + n2) d3 (B1 ++ tl) n0 4 _ hs3 (Nat.le_refl _) (by omega)).mono ?_
    rintro e w4 ⟨rfl, hb4⟩
    rw [show Oct.take (B1 ++ tl) (n0 : Int) 4 = (lo, (n0 : Int) + 4, 0) from HT.out]
    unfold takeV
    have hbel4 := hbel3.trans (hb4.mono hbel3.size)
    have hs14 := hs13.below' hb4 hb3.size
    have h14 := h1.below hbel4
    have h24 := h2.below hbel4
    have hsz4 : w1.heap.size ≤ w4.heap.size := Nat.le_trans hb3.size hb4.size
    clear hs3 hs13 hb3 hb4 hbel3 hs1
    go_wp2_with fail
    refine (putBytes_any w4.heap.size A1 a1 (n0 + 4) d1 n1 c1 B1 s _ (hs14.more hsz4) (h14.more hbel4.size) (Nat.le_refl _) (by omega)).mono ?_
    rintro e w5 ⟨v5, rfl, hf⟩
    rw [HPB.out] at hf ⊢
    unfold pairV
    obtain ⟨A5, d5, rfl, hown5, hb5⟩ := hf
    rw [LC.out] at hown5 ⊢
    have hs5 := Sl.of_own hown5
    clear hown5
    go_wp2_with fail
    refine (copied01_any w5.heap.size A5 (n0 + 4 + 2 + n1) d5 B2 _ hs5 (Nat.le_refl _) (by omega)).mono ?_
    rintro e w6 ⟨v6, rfl, A6, d6, rfl, hown6, hb6⟩
    rw [LC.out] at hown6 ⊢
    have hbel5 := hbel4.trans (hb5.mono hbel4.size)
    have hbel6 := hbel5.trans (hb6.mono hbel5.size)
    have h26 := h2.below hbel6
    go_wp2_with (at_builtin
                 refine wpList_append_any _ rfl _ _ _ rfl w5.heap.size 5 i0 _ 1 1 Try.underlying22 hi0 hi1 hi2 hi3 rfl (by omega) _ _ _ rfl hown6 W.heap.size a2 n2 c2 (tl.map byteV) rfl h26.rd (byteV_one_ _) (by simp only [maxLen]; omega) (by omega) hb6.size ?_
                 intro v7 w7 hown7 hg7 hat7)
    have hb7 : Below w5.heap.size w5 w7 := hb6.grown hg7 hb6.size (fun q hq => (hown6.lt q hq).1)
    obtain ⟨A7, d7, rfl⟩ := own_slice hown7
    rw [← List.map_append] at hown7
    have hs7 := Sl.of_own hown7
    have hbel7 := hbel5.trans (hb7.mono hbel5.size)
    clear hown6 hown7 hg7 hat7 h26 hb6 hbel6
    go_wp2_with fail
    refine (takeBytes_any w7.heap.size A7 (n0 + 4 + 2 + n1 + n2) d7 (B2 ++ tl) _ _ hs7 (Nat.le_refl _) (by omega)).mono ?_
    rintro e w8 ⟨v8, rfl, hf⟩
    rw [show Oct.takeBytes (B2 ++ tl) ((n0 : Int) + 4) = (s, (n0 : Int) + 4 + 2 + (n1 : Int), 0) from HTB.out] at hf ⊢
    unfold tripleV
    obtain ⟨A8, d8, rfl, hown8, hb8⟩ := hf
    rw [L1.out] at hown8 ⊢
    have hs8 := Sl.of_own hown8
    have hbel8 := hbel7.trans (hb8.mono hbel7.size)
    have h18 := h1.below hbel8
    clear hown8 hb8 hs7 hb7 hs5 hs14 h14 h24
    go_wp2_with fail
    refine (refSame_any _ A8 n1 d8 _ a1 n1 c1 s s _ hs8 h18).mono ?_
    rintro e w9 ⟨rfl, q9, rfl⟩
    rw [HS.out]
    have hbel9 := below_drewN hbel8 q9
    go_wp2_with (go_at_call 24; refine (works01_any _).mono ?_; rintro e w' ⟨rfl, hb⟩)
    go_ret
    exact ⟨rfl, hbel9.trans (hb.mono hbel9.size)⟩
  · have HT := Lib.hid (take_back hd tl m 8 rfl)
    rw [Nat.mod_eq_of_lt (show m < 256 ^ 8 by omega), hl0] at HT
    have HP := Lib.hid (show Oct.put hd m 8 = hd ++ Oct.be m 8 from rfl)
    have hlp : (hd ++ Oct.be m 8).length = n0 + 8 := by rw [List.length_append, Oct.be_length, hl0]
    have HPB := Lib.hid (hPB (hd ++ Oct.be m 8))
    have HTB := Lib.hid (hTB (hd ++ Oct.be m 8))
    rw [hlp, hl1] at HTB
    rw [hl1] at HPB
    have hlc : (hd ++ Oct.be m 8 ++ Oct.be n1 2 ++ s).length = n0 + 8 + 2 + n1 := by rw [List.length_append, List.length_append, Oct.be_length, hlp, hl1]
    have LP := Lib.hid hlp
    have LC := Lib.hid hlc
    clear hl0 hl1 hl2 hPB hTB hlp hlc
    generalize hd ++ Oct.be m 8 = B1 at HT HP HPB HTB LP LC
    generalize B1 ++ Oct.be n1 2 ++ s = B2 at HPB HTB LC
    go_enter Try.func10, Try.ntmps10
    go_wp2_with (go_at_call 23; refine (vast01_any _ _ _ _ (by omega)).mono ?_; rintro e w' ⟨rfl, rfl⟩)
    refine (put_any W.heap.size a0 n0 c0 hd m _ 8 rfl hm _ h0 (Nat.le_refl _) (by omega)).mono ?_
    rintro e w1 ⟨v1, rfl, A1, d1, rfl, hown1, hb1⟩
    rw [show Oct.put hd m 8 = B1 from HP.out, LP.out] at hown1 ⊢
    have hs1 := Sl.of_own hown1
    clear hown1
    go_wp2_with fail
    refine (copied01_any w1.heap.size A1 (n0 + 8) d1 B1 _ hs1 (Nat.le_refl _) (by omega)).mono ?_
    rintro e w2 ⟨v2, rfl, A2, d2, rfl, hown2, hb2⟩
    rw [LP.out] at hown2 ⊢
    have hbel2 := hb1.trans (hb2.mono hb1.size)
    have hs12 := hs1.below hb2
    have h22 := h2.below hbel2
    go_wp2_with (at_builtin
                 refine wpList_append_any _ rfl _ _ _ rfl w1.heap.size 5 i0 _ 1 1 Try.underlying22 hi0 hi1 hi2 hi3 rfl (by omega) _ _ _ rfl hown2 W.heap.size a2 n2 c2 (tl.map byteV) rfl h22.rd (byteV_one_ _) (by simp only [maxLen]; omega) (by omega) hb2.size ?_
                 intro v3 w3 hown3 hg3 hat3)
    have hb3 : Below w1.heap.size w1 w3 := hb2.grown hg3 hb2.size (fun q hq => (hown2.lt q hq).1)
    obtain ⟨A3, d3, rfl⟩ := own_slice hown3
    rw [← List.map_append] at hown3
    have hs3 := Sl.of_own hown3
    have hbel3 := hb1.trans (hb3.mono hb1.size)
    have hs13 := hs1.below hb3
    clear hown2 hown3 hg3 hat3 hs12 h22 hb2 hbel2
    go_wp2_with fail
    refine (take_any w3.heap.size A3 (n0 + 8 + n2) d3 (B1 ++ tl) n0 8 _ hs3 (Nat.le_refl _) (by omega)).mono ?_
    rintro e w4 ⟨rfl, hb4⟩
    rw [show Oct.take (B1 ++ tl) (n0 : Int) 8 = (m, (n0 : Int) + 8, 0) from HT.out]
    unfold takeV
    have hbel4 := hbel3.trans (hb4.mono hbel3.size)
    have hs14 := hs13.below' hb4 hb3.size
    have h14 := h1.below hbel4
    have h24 := h2.below hbel4
    have hsz4 : w1.heap.size ≤ w4.heap.size := Nat.le_trans hb3.size hb4.size
    clear hs3 hs13 hb3 hb4 hbel3 hs1
    go_wp2_with fail
    refine (putBytes_any w4.heap.size A1 a1 (n0 + 8) d1 n1 c1 B1 s _ (hs14.more hsz4) (h14.more hbel4.size) (Nat.le_refl _) (by omega)).mono ?_
    rintro e w5 ⟨v5, rfl, hf⟩
    rw [HPB.out] at hf ⊢
    unfold pairV
    obtain ⟨A5, d5, rfl, hown5, hb5⟩ := hf
    rw [LC.out] at hown5 ⊢
    have hs5 := Sl.of_own hown5
    clear hown5
    go_wp2_with fail
    refine (copied01_any w5.heap.size A5 (n0 + 8 + 2 + n1) d5 B2 _ hs5 (Nat.le_refl _) (by omega)).mono ?_
    rintro e w6 ⟨v6, rfl, A6, d6, rfl, hown6, hb6⟩
    rw [LC.out] at hown6 ⊢
    have hbel5 := hbel4.trans (hb5.mono hbel4.size)
    have hbel6 := hbel5.trans (hb6.mono hbel5.size)
    have h26 := h2.below hbel6
    go_wp2_with (at_builtin
                 refine wpList_append_any _ rfl _ _ _ rfl w5.heap.size 5 i0 _ 1 1 Try.underlying22 hi0 hi1 hi2 hi3 rfl (by omega) _ _ _ rfl hown6 W.heap.size a2 n2 c2 (tl.map byteV) rfl h26.rd (byteV_one_ _) (by simp only [maxLen]; omega) (by omega) hb6.size ?_
                 intro v7 w7 hown7 hg7 hat7)
    have hb7 : Below w5.heap.size w5 w7 := hb6.grown hg7 hb6.size (fun q hq => (hown6.lt q hq).1)
    obtain ⟨A7, d7, rfl⟩ := own_slice hown7
    rw [← List.map_append] at hown7
    have hs7 := Sl.of_own hown7
    have hbel7 := hbel5.trans (hb7.mono hbel5.size)
    clear hown6 hown7 hg7 hat7 h26 hb6 hbel6
    go_wp2_with fail
    refine (takeBytes_any w7.heap.size A7 (n0 + 8 + 2 + n1 + n2) d7 (B2 ++ tl) _ _ hs7 (Nat.le_refl _) (by omega)).mono ?_
    rintro e w8 ⟨v8, rfl, hf⟩
    rw [show Oct.takeBytes (B2 ++ tl) ((n0 : Int) + 8) = (s, (n0 : Int) + 8 + 2 + (n1 : Int), 0) from HTB.out] at hf ⊢
    unfold tripleV
    obtain ⟨A8, d8, rfl, hown8, hb8⟩ := hf
    rw [L1.out] at hown8 ⊢
    have hs8 := Sl.of_own hown8
    have hbel8 := hbel7.trans (hb8.mono hbel7.size)
    have h18 := h1.below hbel8
    clear hown8 hb8 hs7 hb7 hs5 hs14 h14 h24
    go_wp2_with fail
    refine (refSame_any _ A8 n1 d8 _ a1 n1 c1 s s _ hs8 h18).mono ?_
    rintro e w9 ⟨rfl, q9, rfl⟩
    rw [HS.out]
    have hbel9 := below_drewN hbel8 q9
    go_wp2_with (go_at_call 24; refine (works01_any _).mono ?_; rintro e w' ⟨rfl, hb⟩)
    go_ret
    exact ⟨rfl, hbel9.trans (hb.mono hbel9.size)⟩

end Go.Proofs.Ytjnchbadefggjaa

/-
  OctetStrings, walked.
-/
import Derived.Test.YtjnchbadefggjaaOctNumWalk
namespace Go.Proofs.Ytjnchbadefggjaa
open Go.RowKit Go.Gab
set_option linter.unusedVariables false

set_option maxHeartbeats 2000000 in
theorem octetStrings_walk {a0 : Option Addr} {n c0 : Nat} {bs : List UInt8} {a1 : Option Addr} {n1 c1 : Nat} {s : List UInt8} {p : Int} (W : World) (hr : Sl W W.heap.size 1 a0 n c0 (bs.map byteV)) (hq : Sl W W.heap.size 1 a1 n1 c1 (s.map byteV)) (hp : (Lit.int .i64 p).wf = true) :
    Calls Try.prog 9 #[.slice a0 n c0, .slice a1 n1 c1, .int .i64 p] W fun e w' => e = .returned (.bool true) ∧ Below W.heap.size W w' := by
  clear hp
  have hnc := hr.nc
  have hcm := hr.cm
  have hlen := hr.lenB
  have hnc1 := hq.nc
  have hcm1 := hq.cm
  have hlen1 := hq.lenB
  obtain ⟨i0, hi0, hz0, hz1, hz2⟩ := info_parts info8
  by_cases hv : (16384 : Int) < n
  · have hv' : decide ((16384 : Int) < n) = true := by simpa using hv
    clear hlen hlen1
    go_enter Try.func9, Try.ntmps9
    go_wp2_with (first | (go_at_call 23; refine (vast01_any _ _ _ _ (by omega)).mono ?_; rintro e w' ⟨rfl, rfl⟩) | (go_at_call 24; refine (works01_any _).mono ?_; rintro e w' ⟨rfl, hb⟩))
    go_ret
    exact ⟨rfl, hb⟩
  by_cases hv1 : 131072 < n1
  · have hv' : decide ((16384 : Int) < n) = false := by simpa using hv
    clear hlen hlen1
    go_enter Try.func9, Try.ntmps9
    go_wp2_with (first | (go_at_call 23; refine (vast01_any _ _ _ _ (by omega)).mono ?_; rintro e w' ⟨rfl, rfl⟩) | (go_at_call 24; refine (works01_any _).mono ?_; rintro e w' ⟨rfl, hb⟩))
    go_ret
    exact ⟨rfl, hb⟩
  · have hv' : decide ((16384 : Int) < n) = false := by simpa using hv
    have hmk := fun w => run_make_room Try.underlying22 hi0 hz0 hz1 hz2 n (by omega) w
    have HO := Lib.hid (Oct.order_self (Oct.putBytes bs s).1)
    have HO2 := Lib.hid (Oct.order_self bs)
    have HO3 := Lib.hid (Oct.order_self (Oct.takeBytes bs p).1)
    have Hlen := Lib.hid hlen
    have Hlen1 := Lib.hid hlen1
    clear hlen hlen1
    go_enter Try.func9, Try.ntmps9
    go_wp2_with fail
    refine (vast01_any _ _ _ _ (by omega)).mono ?_
    rintro e w' ⟨rfl, rfl⟩
    go_wp2_with (at_builtin
                 refine wpList_append_any _ rfl _ _ _ rfl W.heap.size 5 i0 _ 1 1 Try.underlying22 hi0 hz0 hz1 hz2 rfl (by omega) (.slice (some ⟨W.heap.size, 0, none⟩) 0 (n + 20)) 0 [] rfl
                   (World.ownsRow_made W _ (n + 20) (Nat.le_refl _) (by simp only [maxLen]; omega) (by simp [bytesA])) W.heap.size a0 n c0 (bs.map byteV) rfl (hr.alloc (Nat.le_refl _) _).rd (byteV_one_ bs) (by simp only [maxLen]; omega) (by omega) (by simp) ?_
                 intro v1 w1 hown1 hg1 hat1)
    have hb1 : Below W.heap.size W w1 := ((Below.refl _ _).alloc (Nat.le_refl _) _).grown hg1 (by simp) (by simp [Value.ownBlock])
    obtain ⟨A1, d1, rfl⟩ := own_slice hown1
    simp only [Nat.zero_add, List.nil_append] at hown1 ⊢
    clear hg1 hat1 hmk
    refine (copied01_any W.heap.size a1 n1 c1 s _ (hq.below hb1) hb1.size (by omega)).mono ?_
    rintro e w2 ⟨v2, rfl, hf⟩
    obtain ⟨A2, d2, rfl, hown2, hb2⟩ := hf
    rw [Hlen1.out] at hown2 ⊢
    have hown12 := ownsRow_below hown1 hb2
    have hbel2 := hb1.trans (hb2.mono hb1.size)
    have hne12 := rows_ne hown1 hown2 (Nat.le_refl _)
    clear hown1
    go_wp2_with fail
    refine (putBytes_any w2.heap.size A1 A2 n d1 n1 d2 bs s _ (Sl.of_own hown12) (Sl.of_own hown2) (Nat.le_refl _) (by omega)).mono ?_
    rintro e w3 ⟨v3, rfl, hf⟩
    obtain ⟨A3, d3, rfl, hown3, hb3⟩ := hf
    generalize hm3 : (Oct.putBytes bs s).1.length = m3 at hown3 ⊢
    have Hm3 := Lib.hid hm3
    clear hm3
    have hne13 := rows_ne hown12 hown3 (Nat.le_refl _)
    have hne23 := rows_ne hown2 hown3 (Nat.le_refl _)
    have hown13 := ownsRow_below hown12 hb3
    have hown23 := ownsRow_below hown2 hb3
    have hbel3 := hbel2.trans (hb3.mono hbel2.size)
    have hsz12 : w1.heap.size ≤ w2.heap.size := hb2.size
    have hsz23 : w2.heap.size ≤ w3.heap.size := hb3.size
    have HK := Lib.hid (And.intro hown12 hown2)
    clear hown12 hown2 hb2 hb3
    unfold pairV
    generalize hR1 : (Value.slice A1 n d1).ownBlock = R1 at hne12 hne13
    go_wp2_with fail
    go_loopw [7, 11] (fun v i wr => ∃ (j m d : Nat) (A1 : Option Addr), j ≤ 20 ∧ i = .int .i64 j ∧ m = n + j ∧ v = .slice A1 m d ∧ wr.ownsRow W.heap.size 5 1 (.slice A1 m d) m ((bs ++ List.replicate j 238).map byteV)
      ∧ w3.grownBy wr R1 ∧ ((Value.slice A1 m d).ownBlock = R1 ∨ ∀ g, (Value.slice A1 m d).ownBlock = some g → w3.heap.size ≤ g)) (fun _ i _ => 20 - (intOf i).toNat)
    case atStart => exact ⟨0, n, d1, A1, Nat.zero_le _, rfl, rfl, rfl, by simpa using hown13, only_of_below (Below.refl _ _) _, .inl hR1⟩
    case round =>
      obtain ⟨j, m, d, A4, hj, rfl, hm, rfl, hown, hgr, hat⟩ := hrel
      have HM := Lib.hid hm
      have hm1 : m ≤ n + 20 := by omega
      clear hm
      by_cases hlt : j < 20
      · go_wp2_with (at_builtin
                     refine wpList_append_any _ rfl _ _ _ rfl W.heap.size 5 i0 _ 1 1 Try.underlying22 hi0 hz0 hz1 hz2 rfl (by omega) _ _ _ rfl (hown.alloc _) (wr.heap.size + 1) (some ⟨wr.heap.size, 0, none⟩) 1 1 ([238].map byteV) rfl (by exact (Sl.lit (k := 1) (cap := 1) _ _ _ _ _ _ rfl rfl rfl (by omega) (by omega)).rd) (byteV_one_ _) (by simp only [maxLen]; omega) (by omega) (by have := hbel3.size; have := hgr.size; simp; omega) ?_
                     intro v2 w2' hown4 hg2 hat2)
        have hgr4 : w3.grownBy w2' R1 := only_trans (only_alloc hgr _) hg2 hat
        have hat4 : v2.ownBlock = R1 ∨ ∀ g, v2.ownBlock = some g → w3.heap.size ≤ g := by
          rcases hat2 with h1 | h1
          · rw [h1]; exact hat
          · refine .inr fun g hg => ?_
            rw [h1] at hg
            cases hg
            have := hgr.size
            simp
            omega
        obtain ⟨A5, c5, rfl⟩ := own_slice hown4
        clear hown hg2 hat2 hgr hat
        rw [← List.map_append, List.append_assoc, ← replicate_snoc] at hown4
        go_wp2_with fail
        go_roundw
        case rel => exact ⟨j + 1, m + 1, c5, A5, by omega, by go_num, by have := HM.out; omega, rfl, hown4, hgr4, hat4⟩
        case measure => simp [intOf]; omega
      · obtain rfl : j = 20 := by omega
        clear hlt hj
        have hm20 : m = n + 20 := HM.out
        have hnd : n ≤ d := by have := (Sl.of_own hown).nc; omega
        have hdm := (Sl.of_own hown).cm
        obtain ⟨g, cap, hA, hgW, hgl⟩ := hown.form (by omega)
        injection hA with hA1 hA2 hA3
        subst hA1 hA3
        obtain ⟨w4, rfl⟩ : ∃ w4 : World, w4 = wr := ⟨_, rfl⟩
        have hown24 := hown23.kept hgr hne12.2
        have hown34 := hown3.kept hgr hne13.2
        have hbel4 : Below W.heap.size W w4 := hbel3.grown hgr hbel3.size (fun q hq => by
          have h := HK.out.1.lt q (by rw [← hq, ← hR1])
          exact h.1)
        have hne42 : (Value.slice (some ⟨g, 0, none⟩) m d).ownBlock = none ∨ (Value.slice (some ⟨g, 0, none⟩) m d).ownBlock ≠ (Value.slice A2 n1 d2).ownBlock := by
          refine .inr fun h2 => ?_
          rcases hat with h | h
          · rcases hne12.2 with h3 | h3
            · rw [h3] at h2; cases h2
            · exact h3 (h2.symm.trans h)
          · have h4 := h _ rfl
            have h5 := (hown23.lt _ h2.symm).2
            omega
        clear hown13 hown23 hown3
        go_wp2_with fail
        go_loopw [12] (fun i wr => ∃ (k : Nat) (ds : List UInt8), k ≤ n1 ∧ i = .int .i64 k ∧ wr.ownsRow w1.heap.size 5 1 (.slice A2 n1 d2) n1 (ds.map byteV) ∧ w4.grownBy wr (Value.slice A2 n1 d2).ownBlock) (fun i _ => n1 - (intOf i).toNat)
        case atStart => exact ⟨0, s, Nat.zero_le _, rfl, hown24, only_of_below (Below.refl _ _) _⟩
        case round =>
          obtain ⟨k, ds, hk, rfl, howk, hgk⟩ := hrel
          by_cases hlt : k < n1
          · obtain ⟨g2, cap2, hA2, hgW2, hgl2⟩ := howk.form (by omega)
            injection hA2 with hA1 hA2 hA3
            subst hA1 hA3
            have hsd := Sl.of_own howk
            obtain ⟨b0, o0, v0, hA0, hb0, hv0, hcell0, hu0⟩ := hsd.byte (k := k) (by omega)
            cases hA0
            have hfz := howk.frozenAt k
            simp only [Nat.zero_add] at hcell0
            have HO := Lib.hid howk
            clear howk hv0 hsd
            go_wp2_with fail
            rw [show bits .xor .u8 (v0.toNat : Int) 49 = ((v0 ^^^ 49).toNat : Int) from u8_xorB v0 49]
            go_roundw
            case rel =>
              have h := HO.out.stored k (byteV (v0 ^^^ 49))
              rw [← List.map_set] at h
              exact ⟨k + 1, _, by omega, by go_num, h.1, only_trans hgk h.2 (.inl rfl)⟩
            case measure => simp [intOf]; omega
          · obtain rfl : k = n1 := by omega
            obtain ⟨w5, rfl⟩ : ∃ w5 : World, w5 = wr := ⟨_, rfl⟩
            have hown5 := hown.kept hgk hne42
            have hown35 := hown34.kept hgk hne23.2
            have hbel5 : Below W.heap.size W w5 := hbel4.grown hgk hbel4.size (fun q hq => by
              have h := hown24.lt q hq
              have := hb1.size
              omega)
            have hs5 := (Sl.of_own hown5).take_ (k := n) (by omega)
            rw [Nat.mul_one, ← List.map_take, List.take_append_of_le_length (by rw [Hlen.out]; omega), List.take_of_length_le (by rw [Hlen.out]; omega)] at hs5
            have hs35 := Sl.of_own hown35
            have hr5 := hr.below hbel5
            have hq5 := hq.below hbel5
            clear hown hown24 hown34 howk hgk hgr hown5 hown35 hbel4 hat hne42
            go_wp2_with fail
            refine (refPutBytes_any W.heap.size a0 a1 n c0 k c1 bs s _ hr5 hq5 hbel5.size (by omega)).mono ?_
            rintro e w6 ⟨v6, rfl, hf⟩
            obtain ⟨A6, d6, rfl, hown6, hb6⟩ := hf
            rw [Hm3.out] at hown6 ⊢
            unfold pairV
            have hs6 := Sl.of_own hown6
            have hs36 := hs35.below hb6
            have hs56 := hs5.below hb6
            have hbel6 := hbel5.trans (hb6.mono hbel5.size)
            clear hs5 hs35 hr5 hq5 hown6
            generalize (Oct.putBytes bs s).2 = er
            go_wp2_with fail
            refine (refSame_any _ A3 m3 d3 _ A6 m3 d6 _ _ _ hs36 hs6).mono ?_
            rintro e w7 ⟨rfl, q7, rfl⟩
            rw [HO.out]
            have hs57 := hs56.drewN q7
            have hr7 := (hr.below hbel6).drewN q7
            go_wp2_with fail
            refine (refSame_any _ (some ⟨g, 0, none⟩) n d _ a0 n c0 bs bs _ hs57 hr7).mono ?_
            rintro e w8 ⟨rfl, q8, rfl⟩
            rw [HO2.out]
            have hbel8 := below_drewN hbel6 (q7 + q8)
            have hr8 := (hr.below hbel6).drewN (q7 + q8)
            clear hs57 hs56 hs36 hs6 hr7
            go_wp2_with fail
            have hsz8 : w6.heap.size = (w6.drewN (q7 + q8)).heap.size := rfl
            generalize w6.drewN (q7 + q8) = w8 at hbel8 hr8 ⊢
            clear hbel6 hb6 hgl
            refine (copied01_any W.heap.size a0 n c0 bs _ hr8 hbel8.size (by omega)).mono ?_
            rintro e w9 ⟨v9, rfl, hf⟩
            obtain ⟨A9, d9, rfl, hown9, hb9⟩ := hf
            rw [Hlen.out] at hown9 ⊢
            have hbel9 := hbel8.trans (hb9.mono hbel8.size)
            go_wp2_with fail
            refine (takeBytes_any w9.heap.size A9 n d9 bs p _ (Sl.of_own hown9) (Nat.le_refl _) (by omega)).mono ?_
            rintro e w10 ⟨v10, rfl, hf⟩
            obtain ⟨A10, d10, rfl, hown10, hb10⟩ := hf
            generalize hm10 : (Oct.takeBytes bs p).1.length = m10 at hown10 ⊢
            have Hm10 := Lib.hid hm10
            clear hm10
            have hne910 := rows_ne hown9 hown10 (Nat.le_refl _)
            have hown910 := ownsRow_below hown9 hb10
            have hbel10 := hbel9.trans (hb10.mono hbel9.size)
            have hszW8 := hbel8.size
            clear hown9 hb10 hb9 hbel9 hbel8 hr8
            unfold tripleV
            go_wp2_with fail
            go_loopw [19] (fun i wr => ∃ (k : Nat) (ds : List UInt8), k ≤ n ∧ i = .int .i64 k ∧ wr.ownsRow w8.heap.size 5 1 (.slice A9 n d9) n (ds.map byteV) ∧ w10.grownBy wr (Value.slice A9 n d9).ownBlock) (fun i _ => n - (intOf i).toNat)
            case atStart => exact ⟨0, bs, Nat.zero_le _, rfl, hown910, only_of_below (Below.refl _ _) _⟩
            case round =>
              obtain ⟨k2, ds2, hk2, rfl, howk, hgk⟩ := hrel
              by_cases hlt : k2 < n
              · obtain ⟨g2, cap2, hA2, hgW2, hgl2⟩ := howk.form (by omega)
                injection hA2 with hA1 hA2 hA3
                subst hA1 hA3
                have hsd := Sl.of_own howk
                obtain ⟨b0, o0, v0, hA0, hb0, hv0, hcell0, hu0⟩ := hsd.byte (k := k2) (by omega)
                cases hA0
                have hfz := howk.frozenAt k2
                simp only [Nat.zero_add] at hcell0
                have HO := Lib.hid howk
                clear howk hv0 hsd
                go_wp2_with fail
                rw [show bits .xor .u8 (v0.toNat : Int) 85 = ((v0 ^^^ 85).toNat : Int) from u8_xorB v0 85]
                go_roundw
                case rel =>
                  have h := HO.out.stored k2 (byteV (v0 ^^^ 85))
                  rw [← List.map_set] at h
                  exact ⟨k2 + 1, _, by omega, by go_num, h.1, only_trans hgk h.2 (.inl rfl)⟩
                case measure => simp [intOf]; omega
              · obtain rfl : k2 = n := by omega
                obtain ⟨w11, rfl⟩ : ∃ w11 : World, w11 = wr := ⟨_, rfl⟩
                have hown11 := hown10.kept hgk hne910.2
                have hbel11 : Below W.heap.size W w11 := hbel10.grown hgk hbel10.size (fun q hq => by
                  have h := hown910.lt q hq
                  omega)
                have hs11 := Sl.of_own hown11
                have hr11 := hr.below hbel11
                clear hown910 hown10 hown11 howk hgk hbel10 hne910
                go_wp2_with fail
                refine (refTakeBytes_any W.heap.size a0 k2 c0 bs p _ hr11 hbel11.size (by omega)).mono ?_
                rintro e w12 ⟨v12, rfl, hf⟩
                obtain ⟨A12, d12, rfl, hown12, hb12⟩ := hf
                rw [Hm10.out] at hown12 ⊢
                have hs12 := Sl.of_own hown12
                have hs112 := hs11.below hb12
                have hbel12 := hbel11.trans (hb12.mono hbel11.size)
                clear hown12 hb12 hs11 hr11 hbel11
                unfold tripleV
                go_wp2_with fail
                refine (refSame_any _ A10 m10 d10 _ A12 m10 d12 _ _ _ hs112 hs12).mono ?_
                rintro e w13 ⟨rfl, q13, rfl⟩
                rw [HO3.out]
                have hbel13 := below_drewN hbel12 q13
                go_wp2_with (go_at_call 24; refine (works01_any _).mono ?_; rintro e w' ⟨rfl, hb⟩)
                go_ret
                exact ⟨rfl, hbel13.trans (hb.mono hbel13.size)⟩

end Go.Proofs.Ytjnchbadefggjaa

/-
  FramesBack, walked.
-/
import Derived.Test.YtbfcfhfnkpklkaaFraWorks
import Derived.Deep.CutBlock
namespace Go.Proofs.Ytbfcfhfnkpklkaa
open Go.RowKit Go.Gab
set_option linter.unusedVariables false
attribute [local go_sem ↓] Go.wp_at_zero Go.wp_at_succ

set_option maxHeartbeats 4000000 in
set_option maxRecDepth 20000 in
theorem framesBack_walk (W : World) (c s : Nat) (hc : c < 4294967296) (hs : s < 18446744073709551616) (d : Fra.Ask) (hd : d.Ok) (E : Int) (hE : Fra.I64 E) (l : List Int) {A A2 : Option Addr} {n cap n2 c2 : Nat} {bs : List UInt8}
    (hr : SlR (Rep.int .i64) W W.heap.size A n cap l) (h2 : Sl W W.heap.size 1 A2 n2 c2 (bs.map byteV)) :
    Calls Try.prog 15 #[.int .u32 (c : Int), .int .u64 (s : Int), askV d, .agg #[.int .i64 E, .slice A n cap], .slice A2 n2 c2] W fun e w' => e = .returned (.bool true) ∧ Below W.heap.size W w' := by
  have hnc := hr.nc
  have hcm := hr.cm
  have hnc2 := h2.nc
  have hcm2 := h2.cm
  have hr0 := ((hr.below (Below.refl _ _) (Nat.le_refl _)))
  obtain ⟨k, a, b, x, ww, u, i⟩ := d
  rw [askV_agg]
  simp only
  by_cases hv : (29 : Int) < n ∨ (1000 : Int) < n2
  · rcases hv with hv | hv
    · as_aux_lemma =>
        go_enter Try.func15, Try.ntmps15
        go_wp2_with fail
        have HB := Lib.hid (show Below W.heap.size W ((W.alloc (.cells #[.int .u8 (k.toNat : Int), .int .i64 a, .int .i64 b, .int .i64 x, .int .i64 ww, .int .i64 u, .int .u64 (i : Int)] 55)).alloc (.cells #[.int .i64 E, .slice A n cap] 58)) from ((Below.refl _ _).alloc (Nat.le_refl _) _).alloc (by simp) _)
        refine (works24_any _).mono ?_
        rintro e w9 ⟨rfl, hb9⟩
        have HB9 := Lib.hid (HB.out.trans (hb9.mono HB.out.size))
        clear hb9
        go_wp2_with fail
        go_ret
        exact ⟨rfl, HB9.out⟩
    · have hv0 : (n : Int) ≤ 29 ∨ (29 : Int) < n := by omega
      rcases hv0 with hv0 | hv0
      all_goals
        go_enter Try.func15, Try.ntmps15
        go_wp2_with fail
        have HB := Lib.hid (show Below W.heap.size W ((W.alloc (.cells #[.int .u8 (k.toNat : Int), .int .i64 a, .int .i64 b, .int .i64 x, .int .i64 ww, .int .i64 u, .int .u64 (i : Int)] 55)).alloc (.cells #[.int .i64 E, .slice A n cap] 58)) from ((Below.refl _ _).alloc (Nat.le_refl _) _).alloc (by simp) _)
        refine (works24_any _).mono ?_
        rintro e w9 ⟨rfl, hb9⟩
        have HB9 := Lib.hid (HB.out.trans (hb9.mono HB.out.size))
        clear hb9
        go_wp2_with fail
        go_ret
        exact ⟨rfl, HB9.out⟩
  have hv1 : n ≤ 29 := by omega
  have hv2 : n2 ≤ 1000 := by omega
  clear hv
  obtain ⟨i0, hi0, hz0, hz1, hz2⟩ := info_parts info8
  go_enter Try.func15, Try.ntmps15
  go_upto_region 3 with (fail)
  have B7 := (Blk.new W 55 #[.int .u8 (k.toNat : Int), .int .i64 a, .int .i64 b, .int .i64 x, .int .i64 ww, .int .i64 u, .int .u64 (i : Int)]).alloc (.cells #[.int .i64 E, .slice A n cap] 58)
  have B8 := Blk.new (W.alloc (.cells #[.int .u8 (k.toNat : Int), .int .i64 a, .int .i64 b, .int .i64 x, .int .i64 ww, .int .i64 u, .int .u64 (i : Int)] 55)) 58 #[.int .i64 E, .slice A n cap]
  rw [show (W.alloc (.cells #[.int .u8 (k.toNat : Int), .int .i64 a, .int .i64 b, .int .i64 x, .int .i64 ww, .int .i64 u, .int .u64 (i : Int)] 55)).heap.size = W.heap.size + 1 by simp] at B8
  have L0 : Below W.heap.size W ((W.alloc (.cells #[.int .u8 (k.toNat : Int), .int .i64 a, .int .i64 b, .int .i64 x, .int .i64 ww, .int .i64 u, .int .u64 (i : Int)] 55)).alloc (.cells #[.int .i64 E, .slice A n cap] 58)) := ((Below.refl _ _).alloc (Nat.le_refl _) _).alloc (by simp) _
  have HWZ : W.heap.size ≤ ((W.alloc (.cells #[.int .u8 (k.toNat : Int), .int .i64 a, .int .i64 b, .int .i64 x, .int .i64 ww, .int .i64 u, .int .u64 (i : Int)] 55)).alloc (.cells #[.int .i64 E, .slice A n cap] 58)).heap.size := by simp; omega
  have hr0 := (hr.below L0 (Nat.le_refl _)).more HWZ
  have h20 := (h2.below L0).more HWZ
  generalize (W.alloc (.cells #[.int .u8 (k.toNat : Int), .int .i64 a, .int .i64 b, .int .i64 x, .int .i64 ww, .int .i64 u, .int .u64 (i : Int)] 55)).alloc (.cells #[.int .i64 E, .slice A n cap] 58) = W0 at B7 B8 L0 HWZ hr0 h20 ⊢
  clear hr h2
  have HD := Lib.hid hd
  have HL0 := Lib.hid L0
  clear hd L0
  obtain ⟨h7, hh7⟩ : ∃ h, h = W.heap.size := ⟨_, rfl⟩
  rw [← hh7] at B7 B8 ⊢
  obtain ⟨h8, hh8⟩ : ∃ h, h = h7 + 1 := ⟨_, rfl⟩
  rw [← hh8] at B8 ⊢
  clear hh7 hh8
  have C7 := Lib.hid (fun w' (h : Below W0.heap.size W0 w') => B7.below h B7.lt)
  have C8 := Lib.hid (fun w' (h : Below W0.heap.size W0 w') => B8.below h B8.lt)
  have I7 := Lib.hid (fun w' (h : Below W0.heap.size W0 w') => ask_cells (B7.below h B7.lt))
  have I8 := Lib.hid (fun w' (h : Below W0.heap.size W0 w') => (show w'.cell? ⟨h8, 0, none⟩ = some (.int .i64 E) ∧ w'.cell? ⟨h8, 1, none⟩ = some (.slice A n cap) from ⟨(B8.below h B8.lt).cell 0, (B8.below h B8.lt).cell 1⟩))
  clear B7 B8
  obtain ⟨q0, q1, q2, q3, q4, q5, q6⟩ := I7.out _ (Below.refl _ _)
  go_wp2_with fail
  refine (fraPutAsk c s ⟨k, a, b, x, ww, u, i⟩ _ hc hs HD.out).mono ?_
  rintro e w1 ⟨v1, rfl, hf⟩
  have hb1 := Fresh_bel hf
  obtain ⟨A1, c1, rfl, hs1⟩ := hf.sl
  clear hf q0 q1 q2 q3 q4 q5 q6
  have z7 := (I7.out _ hb1).1
  unfold pairV
  generalize hR : Fra.putAsk c s ⟨k, a, b, x, ww, u, i⟩ = R at hs1 ⊢
  have HR := Lib.hid hR
  clear hR
  obtain ⟨r2, hr2⟩ : ∃ r2, R.2 = r2 := ⟨_, rfl⟩
  rw [hr2]
  have HR2 := Lib.hid hr2
  clear hr2
  go_upto_region 4 with (fail)
  go_cut [71] (fun t wx => t = .bool (!Fra.bad ⟨k, a, b, x, ww, u, i⟩ && Fra.kindOk k) ∧ wx = w1)
  case first =>
    as_aux_lemma =>
      cases hb : Fra.bad ⟨k, a, b, x, ww, u, i⟩ with
      | true =>
        have hR2 : (r2 == 0) = false := by have := HR.out; unfold Fra.putAsk at this; rw [hb] at this; rw [← HR2.out, ← this]; rfl
        have HBAD := Lib.hid hb
        clear hb
        go_wp2_with fail
        go_meet
        case rel => exact ⟨by rw [HBAD.out]; rfl, rfl⟩
      | false =>
        have hR2 : (r2 == 0) = true := by have := HR.out; unfold Fra.putAsk at this; rw [hb] at this; rw [← HR2.out, ← this]; rfl
        have HBAD := Lib.hid hb
        clear hb
        by_cases k1 : (1 : Int) ≤ (k.toNat : Int)
        · by_cases k2 : (k.toNat : Int) ≤ 15
          · have HK := Lib.hid (show Fra.kindOk k = true by unfold Fra.kindOk; simp; omega)
            go_wp2_with fail
            go_meet
            case rel => exact ⟨by rw [HBAD.out, HK.out]; rfl, rfl⟩
          · have HK := Lib.hid (show Fra.kindOk k = false by unfold Fra.kindOk; simp; omega)
            go_wp2_with fail
            go_meet
            case rel => exact ⟨by rw [HBAD.out, HK.out]; rfl, rfl⟩
        · have HK := Lib.hid (show Fra.kindOk k = false by unfold Fra.kindOk; simp; omega)
          have k1' : (k.toNat : Int) < 1 := by omega
          clear k1
          go_wp2_with fail
          go_meet
          case rel => exact ⟨by rw [HBAD.out, HK.out]; rfl, rfl⟩
  case rest =>
    obtain ⟨rfl, rfl⟩ := hcut
    go_upto_if 71 with (fail)
    go_cut [11] (fun x11 wx => Below W0.heap.size W0 wx)
    case first =>
      as_aux_lemma =>
        cases hbk : (!Fra.bad ⟨k, a, b, x, ww, u, i⟩ && Fra.kindOk k) with
        | false =>
          go_wp2_with fail
          go_meet
          case rel => exact hb1
        | true =>
          simp only [Bool.and_eq_true, Bool.not_eq_true'] at hbk
          obtain ⟨hbad, hkind⟩ := hbk
          have hRv : R = (Fra.askB c s ⟨k, a, b, x, ww, u, i⟩, 0) := by rw [← HR.out]; unfold Fra.putAsk; rw [hbad]; rfl
          have hXL : R.1.length = 42 := by rw [hRv]; exact Fra.askB_len _ _ _
          have HX1 := Lib.hid (show Fra.getAsk R.1 = (c, s, ⟨k, a, b, x, ww, u, i⟩, 0) by rw [hRv]; exact Fra.getAsk_askB hc hs HD.out hbad hkind)
          rw [hXL] at hs1 ⊢
          have HXL := Lib.hid hXL
          clear hbad hkind hRv hXL
          go_wp2_with fail
          refine (fraGetAsk A1 42 c1 R.1 _ hs1 (by omega)).mono ?_
          rintro e w2 ⟨rfl, hb2⟩
          rw [HX1.out]
          unfold gotV askV
          simp only
          have B15 := Blk.new w2 55 #[.int .u8 (k.toNat : Int), .int .i64 a, .int .i64 b, .int .i64 x, .int .i64 ww, .int .i64 u, .int .u64 (i : Int)]
          have L15 : Below w2.heap.size w2 (w2.alloc (.cells #[.int .u8 (k.toNat : Int), .int .i64 a, .int .i64 b, .int .i64 x, .int .i64 ww, .int .i64 u, .int .u64 (i : Int)] 55)) := (Below.refl _ _).alloc (Nat.le_refl _) _
          go_upto_region 6 with (fail)
          generalize w2.alloc (.cells #[.int .u8 (k.toNat : Int), .int .i64 a, .int .i64 b, .int .i64 x, .int .i64 ww, .int .i64 u, .int .u64 (i : Int)] 55) = w3 at B15 L15 ⊢
          have hb3 := hb1.trans ((hb2.trans (L15.mono hb2.size)).mono hb1.size)
          have hs3 := (hs1.below hb2).below' L15 hb2.size
          have hs3' := hs3.more (Nat.le_trans hb2.size L15.size)
          have hnA := hs1.nc
          have hmA := hs1.cm
          have z15 := B15.lt
          generalize w2.heap.size = h15 at B15 L15 z15 ⊢
          clear hb2 L15 hs3 hs1 z7
          go_wp2_with fail
          refine (fraGetAsk A1 41 c1 (R.1.take 41) _ (by simpa using hs3'.take_ (k := 41) (by omega)) (by omega)).mono ?_
          rintro e w4 ⟨rfl, hb4⟩
          rw [Fra.getAsk_len (by rw [List.length_take]; omega)]
          unfold gotV askV Fra.zeroAsk
          simp only
          have L19 : Below w4.heap.size w4 (w4.alloc (.cells #[.int .u8 0, .int .i64 0, .int .i64 0, .int .i64 0, .int .i64 0, .int .i64 0, .int .u64 0] 55)) := (Below.refl _ _).alloc (Nat.le_refl _) _
          go_upto_region 7 with (fail)
          generalize w4.alloc (.cells #[.int .u8 0, .int .i64 0, .int .i64 0, .int .i64 0, .int .i64 0, .int .i64 0, .int .u64 0] 55) = w5 at L19 ⊢
          have b45 := hb4.trans (L19.mono hb4.size)
          have hb5 := hb3.trans (b45.mono hb3.size)
          have hs5 := (hs3'.below b45).more b45.size
          have B15' := B15.below b45 z15
          have z15' := B15'.lt
          generalize w4.heap.size = h19
          clear hb4 L19 hs3' B15 z15 b45 hb3
          have HL := Lib.hid (show R.1.length = 42 from HXL.out)
          go_wp2_with (at_builtin
                       first
                       | (refine wpList_append_any _ rfl _ _ _ rfl w5.heap.size 5 i0 _ 1 1 Try.underlying22 hi0 hz0 hz1 hz2 rfl (by omega) (.slice A6 42 d6) _ _ rfl (HO6.out.alloc _) (w6.heap.size + 1) (some ⟨w6.heap.size, 0, none⟩) 1 1 [byteV 0] rfl (by exact (Sl.lit (k := 1) (cap := 1) _ _ _ _ _ _ rfl rfl rfl (by omega) (by omega)).rd) (by simp [byteV, Value.oneCell']) (by simp only [maxLen]; omega) (by omega) (by have := HS6.out; simp; omega) ?_
                          intro v8 w8 hown8 hg8 hat8)
                       | (refine wpList_append_any _ rfl _ _ _ rfl w5.heap.size 5 i0 _ 1 1 Try.underlying22 hi0 hz0 hz1 hz2 rfl (by omega) (.slice (some ⟨w5.heap.size, 0, none⟩) 0 0) 0 [] rfl (World.ownsRow_made w5 #[] 0 (Nat.le_refl _) (by simp [maxLen]) rfl) w5.heap.size A1 42 c1 (R.1.map byteV) rfl (hs5.alloc (Nat.le_refl _) _).rd (byteV_one_ R.1) (by simp only [maxLen]; omega) (by omega) (by simp) ?_
                          intro v6 w6 hown6 hg6 hat6
                          have HS6 := Lib.hid (show w5.heap.size ≤ w6.heap.size by have := hg6.size; simp at this; omega)
                          have HG6 := Lib.hid (show Below w5.heap.size w5 w6 from ((Below.refl _ _).alloc (Nat.le_refl _) _).grown hg6 (by simp) (by simp [Value.ownBlock]))
                          simp only [Nat.zero_add, List.nil_append] at hown6
                          obtain ⟨A6, d6, rfl⟩ := own_slice hown6
                          have HO6 := Lib.hid hown6
                          clear hown6 hg6 hat6))
          clear hat8
          have hb8 : Below w5.heap.size w5 w8 := (HG6.out.alloc HS6.out _).grown hg8 (by have := HS6.out; simp; omega) (fun q hq => (HO6.out.lt q hq).1)
          obtain ⟨A8, d8, rfl⟩ := own_slice hown8
          have hs8 : Sl w8 w8.heap.size 1 A8 43 d8 ((R.1 ++ [0]).map byteV) := by
            have := Sl.of_own hown8
            rw [List.map_append]
            exact this
          clear hown8 hg8
          have hb8' := hb5.trans (hb8.mono hb5.size)
          have B15 := B15'.below hb8 z15'
          have z15 := B15.lt
          clear hb8 B15' z15' hb5 hs5
          refine (fraGetAsk A8 43 d8 (R.1 ++ [0]) _ hs8 (by omega)).mono ?_
          rintro e w9 ⟨rfl, hb9⟩
          rw [Fra.getAsk_len (by rw [List.length_append, HL.out]; decide)]
          unfold gotV askV Fra.zeroAsk
          simp only
          have L23 : Below w9.heap.size w9 (w9.alloc (.cells #[.int .u8 0, .int .i64 0, .int .i64 0, .int .i64 0, .int .i64 0, .int .i64 0, .int .u64 0] 55)) := (Below.refl _ _).alloc (Nat.le_refl _) _
          go_upto_region 8 with (fail)
          generalize w9.alloc (.cells #[.int .u8 0, .int .i64 0, .int .i64 0, .int .i64 0, .int .i64 0, .int .i64 0, .int .u64 0] 55) = w10 at L23 ⊢
          have b810 := hb9.trans (L23.mono hb9.size)
          have hb10 := hb8'.trans (b810.mono hb8'.size)
          have HB10 := Lib.hid hb10
          obtain ⟨p0, p1, p2, p3, p4, p5, p6⟩ := ask_cells (B15.below b810 z15)
          obtain ⟨q0, q1, q2, q3, q4, q5, q6⟩ := I7.out _ hb10
          generalize w9.heap.size = h23
          clear hb9 L23 hs8 B15 z15 b810 hb8' hb10
          go_wp2_with fail
          go_meet
          case rel => exact HB10.out
    case rest =>
      obtain ⟨wa, rfl⟩ : ∃ wa : World, wa = wc := ⟨_, rfl⟩
      have hba : Below W0.heap.size W0 wa := hcut
      clear hb1 z7 hs1 hcut
      have hra := ((sl_of_ints hr0).below hba).more hba.size
      obtain ⟨q0, q1⟩ := I8.out _ hba
      have HLN := Lib.hid hr0.len
      go_wp2_with fail
      refine (fraPutReply c s ⟨E, l⟩ A n cap _ hra hc hs).mono ?_
      rintro e w1 ⟨v1, rfl, hf⟩
      have hb1 := hba.trans ((Fresh_bel hf).mono hba.size)
      obtain ⟨A1, c1, rfl, hs1⟩ := hf.sl
      clear hf q0 q1 hra
      unfold pairV
      generalize hR : Fra.putReply c s ⟨E, l⟩ = R at hs1 ⊢
      have HR := Lib.hid hR
      clear hR
      obtain ⟨r2, hr2⟩ : ∃ r2, R.2 = r2 := ⟨_, rfl⟩
      rw [hr2]
      have HR2 := Lib.hid hr2
      clear hr2
      go_upto_if 135 with (fail)
      go_cut [25] (fun x25 wx => Below W0.heap.size W0 wx)
      case first =>
        as_aux_lemma =>
          cases hb : Fra.badR ⟨E, l⟩ with
          | true =>
            have ht : (r2 == 0) = false := by have := HR.out; unfold Fra.putReply at this; rw [hb] at this; rw [← HR2.out, ← this]; rfl
            have HB1 := Lib.hid hb1
            clear hb hb1
            go_wp2_with fail
            go_meet
            case rel => exact HB1.out
          | false =>
            have ht : (r2 == 0) = true := by have := HR.out; unfold Fra.putReply at this; rw [hb] at this; rw [← HR2.out, ← this]; rfl
            have hRv : R = (Fra.replyB c s ⟨E, l⟩, 0) := by rw [← HR.out]; unfold Fra.putReply; rw [hb]; rfl
            obtain ⟨mm, hmm⟩ : ∃ mm, R.1.length = mm + 1 := ⟨13 + 8 * l.length, by rw [hRv]; simp only [Fra.replyB_len]; omega⟩
            have hmm2 : mm ≤ 245 := by
              have h1 : (Fra.replyB c s ⟨E, l⟩).length = mm + 1 := by rw [← hmm, hRv]
              have h3 : (Fra.replyB c s ⟨E, l⟩).length = 14 + 8 * l.length := Fra.replyB_len _ _ _
              have h4 := HLN.out
              omega
            have HG := Lib.hid (show Fra.getReply R.1 = (c, s, ⟨E, l⟩, 0) by
              rw [hRv]
              exact Fra.getReply_replyB hc hs ⟨hE, fun z hz => by
                obtain ⟨j, hj, rfl⟩ := List.mem_iff_getElem.1 hz
                obtain ⟨_, _, z2, _, _, hz2, _, hI⟩ := ints_at hr0 (i := j) (by rw [← HLN.out]; exact hj)
                rw [List.getElem?_eq_getElem hj] at hz2
                cases hz2
                exact hI⟩ hb)
            have HC := Lib.hid (show Fra.getReply (R.1.take mm) = (0, 0, Fra.zeroReply, 5) by
              have h1 := Fra.getReply_cut (c := c) (s := s) hb
              have h2 : (Fra.replyB c s ⟨E, l⟩).length - 1 = mm := by
                have h1 : (Fra.replyB c s ⟨E, l⟩).length = mm + 1 := by rw [← hmm, hRv]
                omega
              rw [h2] at h1
              rw [hRv]
              exact h1)
            rw [hmm] at hs1 ⊢
            have HMM := Lib.hid hmm
            clear hb hRv hmm
            have hnA := hs1.nc
            have hmA := hs1.cm
            go_wp2_with fail
            refine (fraGetReply A1 (mm + 1) c1 R.1 _ hs1 (by omega)).mono ?_
            rintro e w2 ⟨A3, d3, rfl, hown3, hb2⟩
            rw [HG.out] at hown3 ⊢
            simp only [HLN.out] at hown3 ⊢
            have hi3 := Sl.of_own hown3
            have B28 := Blk.new w2 58 #[.int .i64 E, .slice A3 n d3]
            have L28 : Below w2.heap.size w2 (w2.alloc (.cells #[.int .i64 E, .slice A3 n d3] 58)) := (Below.refl _ _).alloc (Nat.le_refl _) _
            go_upto_region 13 with (fail)
            generalize w2.alloc (.cells #[.int .i64 E, .slice A3 n d3] 58) = w3 at B28 L28 ⊢
            have b13 := hb2.trans (L28.mono hb2.size)
            have hb3 := hb1.trans (b13.mono hb1.size)
            have hs3 := (hs1.below b13).more b13.size
            have hi3' := (hi3.below L28).more L28.size
            have z28 := B28.lt
            generalize w2.heap.size = h28 at B28 z28 ⊢
            clear hb2 L28 hs1 hi3 hown3 b13 hb1
            go_wp2_with fail
            refine (fraGetReply A1 mm c1 (R.1.take mm) _ (by simpa using hs3.take_ (k := mm) (by omega)) (by omega)).mono ?_
            rintro e w4 ⟨A4, d4, rfl, hown4, hb4⟩
            rw [HC.out]
            simp only [Fra.zeroReply, List.length_nil]
            clear hown4
            have L32 : Below w4.heap.size w4 (w4.alloc (.cells #[.int .i64 0, .slice A4 0 d4] 58)) := (Below.refl _ _).alloc (Nat.le_refl _) _
            go_upto_region 14 with (fail)
            generalize w4.alloc (.cells #[.int .i64 0, .slice A4 0 d4] 58) = w5 at L32 ⊢
            have b35 := hb4.trans (L32.mono hb4.size)
            have hb5 := hb3.trans (b35.mono hb3.size)
            have HB5 := Lib.hid hb5
            have q28 := (B28.below b35 z28).cell 0
            have r28 := (B28.below b35 z28).cell 1
            simp only [List.getElem?_toArray, List.getElem?_cons_zero, List.getElem?_cons_succ] at q28 r28
            obtain ⟨q0, q1⟩ := I8.out _ hb5
            have hi5 := (hi3'.below b35).more b35.size
            have hl5 := (sl_of_ints (hr0.below hb5 (Nat.le_refl _))).more hb5.size
            generalize w4.heap.size = h32
            clear hb4 L32 hs3 hi3' B28 z28 b35 hb3 hb5
            go_wp2_with fail
            refine (sameReply_true E l A3 A n d3 cap _ hi5 hl5).mono ?_
            rintro e w6 ⟨rfl, hb6⟩
            have HB6 := Lib.hid (HB5.out.trans (hb6.mono HB5.out.size))
            clear hb6 hi5 hl5
            go_wp2_with fail
            go_meet
            case rel => exact HB6.out
      case rest =>
        obtain ⟨wb, rfl⟩ : ∃ wb : World, wb = wc := ⟨_, rfl⟩
        have hbb : Below W0.heap.size W0 wb := hcut
        clear hb1 hs1 hcut
        obtain ⟨gB1, gB2, gB3⟩ := Fra.getAsk_bounds bs
        have HPG := Lib.hid (fun h => Fra.putAsk_getAsk (bs := bs) h)
        have hrb := (h20.below hbb).more hbb.size
        go_wp2_with fail
        refine (fraGetAsk A2 n2 c2 bs _ hrb (by omega)).mono ?_
        rintro e w1 ⟨rfl, hb1⟩
        generalize Fra.getAsk bs = G at gB1 gB2 gB3 HPG ⊢
        obtain ⟨g1, g2, ⟨k3, a3, b3, x3, w3, u3, i3⟩, g4⟩ := G
        simp only at gB1 gB2
        replace gB3 : Fra.Ask.Ok ⟨k3, a3, b3, x3, w3, u3, i3⟩ := gB3
        have HPG2 := Lib.hid (show g4 = 0 → Fra.putAsk g1 g2 ⟨k3, a3, b3, x3, w3, u3, i3⟩ = (bs, 0) from HPG.out)
        have GB3 := Lib.hid gB3
        clear HPG gB3
        unfold gotV askV
        simp only
        have B36 := Blk.new w1 55 #[.int .u8 (k3.toNat : Int), .int .i64 a3, .int .i64 b3, .int .i64 x3, .int .i64 w3, .int .i64 u3, .int .u64 (i3 : Int)]
        have L36 : Below w1.heap.size w1 (w1.alloc (.cells #[.int .u8 (k3.toNat : Int), .int .i64 a3, .int .i64 b3, .int .i64 x3, .int .i64 w3, .int .i64 u3, .int .u64 (i3 : Int)] 55)) := (Below.refl _ _).alloc (Nat.le_refl _) _
        go_upto_if 190 with (fail)
        generalize w1.alloc (.cells #[.int .u8 (k3.toNat : Int), .int .i64 a3, .int .i64 b3, .int .i64 x3, .int .i64 w3, .int .i64 u3, .int .u64 (i3 : Int)] 55) = w2 at B36 L36 ⊢
        have hb2 := hbb.trans ((hb1.trans (L36.mono hb1.size)).mono hbb.size)
        have z36 := B36.lt
        generalize w1.heap.size = h36 at B36 z36 ⊢
        clear hb1 L36 hrb
        go_cut [] (fun wx => Below W0.heap.size W0 wx)
        case first =>
          as_aux_lemma =>
            by_cases hg : g4 = 0
            · have ht : (g4 == 0) = true := by simpa using hg
              have HPA := Lib.hid (HPG2.out hg)
              have HB2 := Lib.hid hb2
              obtain ⟨q0, q1, q2, q3, q4, q5, q6⟩ := ask_cells B36
              clear hg hb2
              go_wp2_with fail
              refine (fraPutAsk g1 g2 ⟨k3, a3, b3, x3, w3, u3, i3⟩ _ gB1 gB2 GB3.out).mono ?_
              rintro e w4 ⟨v4, rfl, hf⟩
              have hb4 := HB2.out.trans ((Fresh_bel hf).mono HB2.out.size)
              rw [HPA.out] at hf ⊢
              obtain ⟨A4, c4, rfl, hs4⟩ := hf.sl
              have hw4 := h20.below hb4
              have kz := run_string_of Try.underlying22 Try.underlying5 Try.underlying9 hs4
              have kw := run_string_of Try.underlying22 Try.underlying5 Try.underlying9 hw4
              have HB4 := Lib.hid hb4
              clear hf hb4 hs4 hw4 q0 q1 q2 q3 q4 q5 q6
              unfold pairV
              simp only
              go_wp2_with fail
              go_meet
              case rel => exact HB4.out
            · have ht : (g4 == 0) = false := by simpa using hg
              have HB2 := Lib.hid hb2
              clear hg hb2
              go_wp2_with fail
              go_meet
              case rel => exact HB2.out
        case rest =>
          obtain ⟨wd, rfl⟩ : ∃ wd : World, wd = wc := ⟨_, rfl⟩
          have hbd : Below W0.heap.size W0 wd := hcut
          clear hb2 hcut B36 z36 HPG2 GB3
          obtain ⟨gC1, gC2⟩ := Fra.getReply_bounds bs
          have HPR := Lib.hid (fun h => Fra.putReply_getReply (bs := bs) h)
          have hrd := (h20.below hbd).more hbd.size
          go_wp2_with fail
          refine (fraGetReply A2 n2 c2 bs _ hrd (by omega)).mono ?_
          rintro e w1 ⟨A3, d3, rfl, hown3, hb1⟩
          generalize Fra.getReply bs = G at gC1 gC2 HPR hown3 ⊢
          obtain ⟨j1, j2, ⟨e3, l3⟩, j4⟩ := G
          simp only at gC1 gC2 hown3
          have HPR2 := Lib.hid (show j4 = 0 → Fra.putReply j1 j2 ⟨e3, l3⟩ = (bs, 0) from HPR.out)
          clear HPR
          simp only
          have hi3 := Sl.of_own hown3
          have B40 := Blk.new w1 58 #[.int .i64 e3, .slice A3 l3.length d3]
          have L40 : Below w1.heap.size w1 (w1.alloc (.cells #[.int .i64 e3, .slice A3 l3.length d3] 58)) := (Below.refl _ _).alloc (Nat.le_refl _) _
          go_upto_if 215 with (fail)
          generalize w1.alloc (.cells #[.int .i64 e3, .slice A3 l3.length d3] 58) = w2 at B40 L40 ⊢
          have hb2 := hbd.trans ((hb1.trans (L40.mono hb1.size)).mono hbd.size)
          have hi4 := (hi3.below L40).more L40.size
          have z40 := B40.lt
          generalize w1.heap.size = h40 at B40 z40 ⊢
          clear hb1 L40 hrd hi3 hown3
          go_cut [] (fun wx => Below W0.heap.size W0 wx)
          case first =>
            as_aux_lemma =>
              by_cases hg : j4 = 0
              · have ht : (j4 == 0) = true := by simpa using hg
                have HPA := Lib.hid (HPR2.out hg)
                have HB2 := Lib.hid hb2
                have q0 := B40.cell 0
                have q1 := B40.cell 1
                simp only [List.getElem?_toArray, List.getElem?_cons_zero, List.getElem?_cons_succ] at q0 q1
                clear hg hb2
                go_wp2_with fail
                refine (fraPutReply j1 j2 ⟨e3, l3⟩ A3 l3.length d3 _ hi4 gC1 gC2).mono ?_
                rintro e w4 ⟨v4, rfl, hf⟩
                have hb4 := HB2.out.trans ((Fresh_bel hf).mono HB2.out.size)
                rw [HPA.out] at hf ⊢
                obtain ⟨A4, c4, rfl, hs4⟩ := hf.sl
                have hw4 := h20.below hb4
                have kz := run_string_of Try.underlying22 Try.underlying5 Try.underlying9 hs4
                have kw := run_string_of Try.underlying22 Try.underlying5 Try.underlying9 hw4
                have HB4 := Lib.hid hb4
                clear hf hb4 hs4 hw4 q0 q1
                unfold pairV
                simp only
                go_wp2_with fail
                go_meet
                case rel => exact HB4.out
              · have ht : (j4 == 0) = false := by simpa using hg
                have HB2 := Lib.hid hb2
                clear hg hb2
                go_wp2_with fail
                go_meet
                case rel => exact HB2.out
          case rest =>
            have hbe : Below W0.heap.size W0 wc := hcut
            have HBE := Lib.hid (HL0.out.trans (hbe.mono HL0.out.size))
            clear hcut hbe hb2
            go_wp2_with fail
            refine (works24_any _).mono ?_
            rintro e w9 ⟨rfl, hb9⟩
            have HB9 := Lib.hid (HBE.out.trans (hb9.mono HBE.out.size))
            clear hb9
            go_wp2_with fail
            go_ret
            exact ⟨rfl, HB9.out⟩

end Go.Proofs.Ytbfcfhfnkpklkaa

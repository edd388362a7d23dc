/-
  FramesPlays, walked.
-/
import Derived.Test.YtbfcfhfnkpklkaaFraWorks
import Derived.Test.YtbfcfhfnkpklkaaFraRefGetRep
import Derived.Deep.CutBlock
namespace Go.Proofs.Ytbfcfhfnkpklkaa
open Go.RowKit Go.Gab
set_option linter.unusedVariables false
attribute [local go_sem ↓] Go.wp_at_zero Go.wp_at_succ

set_option maxHeartbeats 4000000 in
set_option maxRecDepth 20000 in
theorem framesPlays_walk (W : World) (c s : Nat) (hc : c < 4294967296) (hs : s < 18446744073709551616) (d : Fra.Ask) (hd : d.Ok) (E : Int) (l : List Int) {A A2 : Option Addr} {n cap n2 c2 : Nat} {bs : List UInt8}
    (hr : SlR (Rep.int .i64) W W.heap.size A n cap l) (h2 : Sl W W.heap.size 1 A2 n2 c2 (bs.map byteV)) :
    Calls Try.prog 14 #[.int .u32 (c : Int), .int .u64 (s : Int), askV d, .agg #[.int .i64 E, .slice A n cap], .slice A2 n2 c2] W fun e w' => e = .returned (.bool true) ∧ Below W.heap.size W w' := by
  have hnc := hr.nc
  have hcm := hr.cm
  have hnc2 := h2.nc
  have hcm2 := h2.cm
  obtain ⟨k, a, b, x, ww, u, i⟩ := d
  rw [askV_agg]
  simp only
  by_cases hv : (100 : Int) < n ∨ (1000 : Int) < n2
  · rcases hv with hv | hv
    · go_enter Try.func14, Try.ntmps14
      go_wp2_with fail
      have HB := Lib.hid (show Below W.heap.size W ((W.alloc (.cells #[.int .u8 (k.toNat : Int), .int .i64 a, .int .i64 b, .int .i64 x, .int .i64 ww, .int .i64 u, .int .u64 (i : Int)] 55)).alloc (.cells #[.int .i64 E, .slice A n cap] 58)) from ((Below.refl _ _).alloc (Nat.le_refl _) _).alloc (by simp) _)
      refine (works24_any _).mono ?_
      rintro e w9 ⟨rfl, hb9⟩
      have HB9 := Lib.hid (HB.out.trans (hb9.mono HB.out.size))
      clear hb9
      go_wp2_with fail
      go_ret
      exact ⟨rfl, HB9.out⟩
    · have hv0 : (n : Int) ≤ 100 ∨ (100 : Int) < n := by omega
      rcases hv0 with hv0 | hv0
      all_goals
        go_enter Try.func14, Try.ntmps14
        go_wp2_with fail
        have HB := Lib.hid (show Below W.heap.size W ((W.alloc (.cells #[.int .u8 (k.toNat : Int), .int .i64 a, .int .i64 b, .int .i64 x, .int .i64 ww, .int .i64 u, .int .u64 (i : Int)] 55)).alloc (.cells #[.int .i64 E, .slice A n cap] 58)) from ((Below.refl _ _).alloc (Nat.le_refl _) _).alloc (by simp) _)
        refine (works24_any _).mono ?_
        rintro e w9 ⟨rfl, hb9⟩
        have HB9 := Lib.hid (HB.out.trans (hb9.mono HB.out.size))
        clear hb9
        go_wp2_with fail
        go_ret
        exact ⟨rfl, HB9.out⟩
  have hv1 : n ≤ 100 := by omega
  have hv2 : n2 ≤ 1000 := by omega
  clear hv
  obtain ⟨i0, hi0, hz0, hz1, hz2⟩ := info_parts info8
  go_enter Try.func14, Try.ntmps14
  go_upto_region 3 with (fail)
  have B7 := (Blk.new W 55 #[.int .u8 (k.toNat : Int), .int .i64 a, .int .i64 b, .int .i64 x, .int .i64 ww, .int .i64 u, .int .u64 (i : Int)]).alloc (.cells #[.int .i64 E, .slice A n cap] 58)
  have B8 := Blk.new (W.alloc (.cells #[.int .u8 (k.toNat : Int), .int .i64 a, .int .i64 b, .int .i64 x, .int .i64 ww, .int .i64 u, .int .u64 (i : Int)] 55)) 58 #[.int .i64 E, .slice A n cap]
  rw [show (W.alloc (.cells #[.int .u8 (k.toNat : Int), .int .i64 a, .int .i64 b, .int .i64 x, .int .i64 ww, .int .i64 u, .int .u64 (i : Int)] 55)).heap.size = W.heap.size + 1 by simp] at B8
  have L0 : Below W.heap.size W ((W.alloc (.cells #[.int .u8 (k.toNat : Int), .int .i64 a, .int .i64 b, .int .i64 x, .int .i64 ww, .int .i64 u, .int .u64 (i : Int)] 55)).alloc (.cells #[.int .i64 E, .slice A n cap] 58)) := ((Below.refl _ _).alloc (Nat.le_refl _) _).alloc (by simp) _
  have HWZ : W.heap.size ≤ ((W.alloc (.cells #[.int .u8 (k.toNat : Int), .int .i64 a, .int .i64 b, .int .i64 x, .int .i64 ww, .int .i64 u, .int .u64 (i : Int)] 55)).alloc (.cells #[.int .i64 E, .slice A n cap] 58)).heap.size := by simp; omega
  have hr0 := (hr.below L0 (Nat.le_refl _)).more HWZ
  have h20 := (h2.below L0).more HWZ
  generalize (W.alloc (.cells #[.int .u8 (k.toNat : Int), .int .i64 a, .int .i64 b, .int .i64 x, .int .i64 ww, .int .i64 u, .int .u64 (i : Int)] 55)).alloc (.cells #[.int .i64 E, .slice A n cap] 58) = W0 at B7 B8 L0 HWZ hr0 h20 ⊢
  clear hr h2
  have HD := Lib.hid hd
  have HL0 := Lib.hid L0
  clear hd L0 HWZ
  obtain ⟨h7, hh7⟩ : ∃ h, h = W.heap.size := ⟨_, rfl⟩
  rw [← hh7] at B7 B8 ⊢
  obtain ⟨h8, hh8⟩ : ∃ h, h = h7 + 1 := ⟨_, rfl⟩
  rw [← hh8] at B8 ⊢
  clear hh7 hh8
  have I7 := Lib.hid (fun w' (h : Below W0.heap.size W0 w') => ask_cells (B7.below h B7.lt))
  have I8 := Lib.hid (fun w' (h : Below W0.heap.size W0 w') => (show w'.cell? ⟨h8, 0, none⟩ = some (.int .i64 E) ∧ w'.cell? ⟨h8, 1, none⟩ = some (.slice A n cap) from ⟨(B8.below h B8.lt).cell 0, (B8.below h B8.lt).cell 1⟩))
  have HRN := Lib.hid (sl_of_ints hr0)
  have H20 := Lib.hid h20
  clear B7 B8 hr0 h20
  obtain ⟨⟨R, r⟩, hR⟩ : ∃ R, Fra.putAsk c s ⟨k, a, b, x, ww, u, i⟩ = R := ⟨_, rfl⟩
  obtain ⟨⟨T, t⟩, hT⟩ : ∃ T, Fra.putReply c s ⟨E, l⟩ = T := ⟨_, rfl⟩
  obtain ⟨⟨g1, g2, ⟨k3, a3, b3, x3, w3, u3, i3⟩, g4⟩, hG⟩ : ∃ G, Fra.getAsk bs = G := ⟨_, rfl⟩
  obtain ⟨⟨j1, j2, ⟨e3, l3⟩, j4⟩, hJ⟩ : ∃ J, Fra.getReply bs = J := ⟨_, rfl⟩
  have HR := Lib.hid hR
  have HT := Lib.hid hT
  have HG := Lib.hid hG
  have HJ := Lib.hid hJ
  clear hR hT hG hJ
  -- PutAsk, both
  obtain ⟨q0, q1, q2, q3, q4, q5, q6⟩ := I7.out _ (Below.refl _ _)
  go_wp2_with fail
  refine (fraPutAsk c s ⟨k, a, b, x, ww, u, i⟩ _ hc hs HD.out).mono ?_
  rintro e w1 ⟨v1, rfl, hf1⟩
  rw [HR.out] at hf1 ⊢
  have hb1 := Fresh_bel hf1
  obtain ⟨A1, c1, rfl, hs1⟩ := hf1.sl
  clear hf1 q0 q1 q2 q3 q4 q5 q6
  obtain ⟨q0, q1, q2, q3, q4, q5, q6⟩ := I7.out _ hb1
  have HB1 := Lib.hid hb1
  have HS1 := Lib.hid hs1
  clear hb1 hs1
  unfold pairV
  simp only
  go_wp2_with fail
  refine (refPutAsk c s ⟨k, a, b, x, ww, u, i⟩ _ hc hs HD.out).mono ?_
  rintro e w2 ⟨v2, rfl, hf2⟩
  rw [HR.out] at hf2 ⊢
  have hb12 := Fresh_bel hf2
  have hb2 := HB1.out.trans (hb12.mono HB1.out.size)
  obtain ⟨A3, c3, rfl, hs2⟩ := hf2.sl
  have hs12 := (HS1.out.below hb12).more hb12.size
  clear hf2 q0 q1 q2 q3 q4 q5 q6
  obtain ⟨q0, q1⟩ := I8.out _ hb2
  have hrn2 := (HRN.out.below hb2).more hb2.size
  have HB2 := Lib.hid hb2
  have HS2 := Lib.hid hs2
  have HS12 := Lib.hid hs12
  have HRN2 := Lib.hid hrn2
  clear hb12 hb2 hs2 hs12 hrn2 HS1 HB1
  unfold pairV
  simp only
  go_wp2_with fail
  refine (fraPutReply c s ⟨E, l⟩ A n cap _ HRN2.out hc hs).mono ?_
  rintro e w3' ⟨v3, rfl, hf3⟩
  rw [HT.out] at hf3 ⊢
  have hb23 := Fresh_bel hf3
  have hb3 := HB2.out.trans (hb23.mono HB2.out.size)
  obtain ⟨A4, c4, rfl, hs3⟩ := hf3.sl
  have hs13 := (HS12.out.below hb23).more hb23.size
  have hs23 := (HS2.out.below hb23).more hb23.size
  clear hf3 q0 q1
  obtain ⟨q0, q1⟩ := I8.out _ hb3
  have hrn3 := (HRN.out.below hb3).more hb3.size
  have HB3 := Lib.hid hb3
  have HS3 := Lib.hid hs3
  have HS13 := Lib.hid hs13
  have HS23 := Lib.hid hs23
  have HRN3 := Lib.hid hrn3
  clear hb23 hb3 hs3 hs13 hs23 hrn3 HS2 HS12 HB2 HRN2
  unfold pairV
  simp only
  go_wp2_with fail
  refine (refPutReply c s ⟨E, l⟩ A n cap _ HRN3.out hc hs).mono ?_
  rintro e w4 ⟨v4, rfl, hf4⟩
  rw [HT.out] at hf4 ⊢
  have hb34 := Fresh_bel hf4
  have hb4 := HB3.out.trans (hb34.mono HB3.out.size)
  obtain ⟨A5, c5, rfl, hs4⟩ := hf4.sl
  have hs14 := HS13.out.below hb34
  have hs24 := HS23.out.below hb34
  have hs34 := HS3.out.below hb34
  have z1 := run_string_of Try.underlying22 Try.underlying5 Try.underlying9 hs14
  have z2 := run_string_of Try.underlying22 Try.underlying5 Try.underlying9 hs24
  have z3 := run_string_of Try.underlying22 Try.underlying5 Try.underlying9 hs34
  have z4 := run_string_of Try.underlying22 Try.underlying5 Try.underlying9 hs4
  clear hf4 q0 q1 hs14 hs24 hs34 hs4
  have h24 := Lib.hid ((H20.out.below hb4).more hb4.size)
  have HB4 := Lib.hid hb4
  clear hb34 hb4 HS3 HS13 HS23 HRN3 HB3
  unfold pairV
  simp only
  go_upto_region 9 with (fail)
  clear z1 z2 z3 z4
  go_wp2_with (at_builtin
               refine wpList_append_any _ rfl _ _ _ rfl w4.heap.size 5 i0 _ 1 1 Try.underlying22 hi0 hz0 hz1 hz2 rfl (by omega) (.slice (some ⟨w4.heap.size, 0, none⟩) 0 0) 0 [] rfl (World.ownsRow_made w4 #[] 0 (Nat.le_refl _) (by simp [maxLen]) rfl) w4.heap.size A2 n2 c2 (bs.map byteV) rfl (h24.out.alloc (Nat.le_refl _) _).rd (byteV_one_ bs) (by simp only [maxLen]; omega) (by omega) (by simp) ?_
               intro v6 w6 hown6 hg6 hat6
               have HB6 := Lib.hid (HB4.out.trans (show Below W0.heap.size w4 w6 from (show Below w4.heap.size w4 w6 from ((Below.refl _ _).alloc (Nat.le_refl _) _).grown hg6 (by simp) (by simp [Value.ownBlock])).mono HB4.out.size))
               simp only [Nat.zero_add, List.nil_append] at hown6
               obtain ⟨A6, d6, rfl⟩ := own_slice hown6
               have HS6 := Lib.hid (show Sl w6 w6.heap.size 1 A6 n2 d6 (bs.map byteV) from Sl.of_own hown6)
               clear hown6 hg6 hat6)
  -- GetAsk, both
  refine (fraGetAsk A6 n2 d6 bs _ HS6.out (by omega)).mono ?_
  rintro e w7 ⟨rfl, hb7⟩
  rw [HG.out]
  unfold gotV askV
  simp only
  have B9 := Blk.new w7 55 #[.int .u8 (k3.toNat : Int), .int .i64 a3, .int .i64 b3, .int .i64 x3, .int .i64 w3, .int .i64 u3, .int .u64 (i3 : Int)]
  have L9 : Below w7.heap.size w7 (w7.alloc (.cells #[.int .u8 (k3.toNat : Int), .int .i64 a3, .int .i64 b3, .int .i64 x3, .int .i64 w3, .int .i64 u3, .int .u64 (i3 : Int)] 55)) := (Below.refl _ _).alloc (Nat.le_refl _) _
  go_upto_region 11 with (fail)
  generalize w7.alloc (.cells #[.int .u8 (k3.toNat : Int), .int .i64 a3, .int .i64 b3, .int .i64 x3, .int .i64 w3, .int .i64 u3, .int .u64 (i3 : Int)] 55) = w8 at B9 L9 ⊢
  have b68 : Below w6.heap.size w6 w8 := hb7.trans (L9.mono hb7.size)
  have hb8 := HB6.out.trans (b68.mono HB6.out.size)
  have HS8 := Lib.hid ((HS6.out.below b68).more b68.size)
  have HR8 := Lib.hid ((H20.out.below hb8).more hb8.size)
  have HB8 := Lib.hid hb8
  have HI8 := Lib.hid (fun w' (h : Below w8.heap.size w8 w') => ask_cells (B9.below h B9.lt))
  generalize w7.heap.size = h9 at HI8 ⊢
  clear B9 L9 hb7 b68 hb8 HS6 HB6 HB4 h24
  go_wp2_with fail
  refine (refGetAsk A2 n2 c2 bs _ HR8.out (by omega)).mono ?_
  rintro e w9 ⟨rfl, hb9⟩
  rw [HG.out]
  unfold gotV askV
  simp only
  have B9 := Blk.new w9 55 #[.int .u8 (k3.toNat : Int), .int .i64 a3, .int .i64 b3, .int .i64 x3, .int .i64 w3, .int .i64 u3, .int .u64 (i3 : Int)]
  have L9 : Below w9.heap.size w9 (w9.alloc (.cells #[.int .u8 (k3.toNat : Int), .int .i64 a3, .int .i64 b3, .int .i64 x3, .int .i64 w3, .int .i64 u3, .int .u64 (i3 : Int)] 55)) := (Below.refl _ _).alloc (Nat.le_refl _) _
  go_upto_region 12 with (fail)
  generalize w9.alloc (.cells #[.int .u8 (k3.toNat : Int), .int .i64 a3, .int .i64 b3, .int .i64 x3, .int .i64 w3, .int .i64 u3, .int .u64 (i3 : Int)] 55) = w10 at B9 L9 ⊢
  have b810 : Below w8.heap.size w8 w10 := hb9.trans (L9.mono hb9.size)
  have hb10 := HB8.out.trans (b810.mono HB8.out.size)
  have HS10 := Lib.hid ((HS8.out.below b810).more b810.size)
  have HR10 := Lib.hid ((H20.out.below hb10).more hb10.size)
  have HB10 := Lib.hid hb10
  have HI10 := Lib.hid (fun w' (h : Below w10.heap.size w10 w') => HI8.out w' (b810.trans (h.mono b810.size)))
  have HJ10 := Lib.hid (fun w' (h : Below w10.heap.size w10 w') => ask_cells (B9.below h B9.lt))
  generalize w9.heap.size = h10 at HJ10 ⊢
  clear B9 L9 hb9 b810 hb10 HS8 HB8 HR8 HI8
  -- GetReply, both
  go_wp2_with fail
  refine (fraGetReply A6 n2 d6 bs _ HS10.out (by omega)).mono ?_
  rintro e w11 ⟨A7, d7, rfl, hown7, hb11⟩
  rw [HJ.out] at hown7 ⊢
  simp only at hown7 ⊢
  have hi7 := Sl.of_own hown7
  have B11 := Blk.new w11 58 #[.int .i64 e3, .slice A7 l3.length d7]
  have L11 : Below w11.heap.size w11 (w11.alloc (.cells #[.int .i64 e3, .slice A7 l3.length d7] 58)) := (Below.refl _ _).alloc (Nat.le_refl _) _
  go_upto_region 13 with (fail)
  generalize w11.alloc (.cells #[.int .i64 e3, .slice A7 l3.length d7] 58) = w12 at B11 L11 ⊢
  have b12 : Below w10.heap.size w10 w12 := hb11.trans (L11.mono hb11.size)
  have hb12 := HB10.out.trans (b12.mono HB10.out.size)
  have HS12 := Lib.hid ((HS10.out.below b12).more b12.size)
  have HR12 := Lib.hid ((H20.out.below hb12).more hb12.size)
  have HB12 := Lib.hid hb12
  have HI12 := Lib.hid (fun w' (h : Below w12.heap.size w12 w') => HI10.out w' (b12.trans (h.mono b12.size)))
  have HJ12 := Lib.hid (fun w' (h : Below w12.heap.size w12 w') => HJ10.out w' (b12.trans (h.mono b12.size)))
  have HN7 := Lib.hid ((hi7.below L11).more L11.size)
  have HK12 := Lib.hid (fun w' (h : Below w12.heap.size w12 w') => (show w'.cell? ⟨w11.heap.size, 0, none⟩ = some (.int .i64 e3) ∧ w'.cell? ⟨w11.heap.size, 1, none⟩ = some (.slice A7 l3.length d7) from ⟨(B11.below h B11.lt).cell 0, (B11.below h B11.lt).cell 1⟩))
  generalize w11.heap.size = h12 at HK12 ⊢
  clear B11 L11 hb11 b12 hb12 HS10 HB10 HR10 HI10 HJ10 hown7 hi7
  go_wp2_with fail
  refine (refGetReply A2 n2 c2 bs _ HR12.out (by omega)).mono ?_
  rintro e w13 ⟨A8, d8, rfl, hown8, hb13⟩
  rw [HJ.out] at hown8 ⊢
  simp only at hown8 ⊢
  have hi8 := Sl.of_own hown8
  have B13 := Blk.new w13 58 #[.int .i64 e3, .slice A8 l3.length d8]
  have L13 : Below w13.heap.size w13 (w13.alloc (.cells #[.int .i64 e3, .slice A8 l3.length d8] 58)) := (Below.refl _ _).alloc (Nat.le_refl _) _
  go_upto_region 14 with (fail)
  generalize w13.alloc (.cells #[.int .i64 e3, .slice A8 l3.length d8] 58) = w14 at B13 L13 ⊢
  have b14 : Below w12.heap.size w12 w14 := hb13.trans (L13.mono hb13.size)
  have hb14 := HB12.out.trans (b14.mono HB12.out.size)
  have HS14 := Lib.hid ((HS12.out.below b14).more b14.size)
  have HR14 := Lib.hid ((H20.out.below hb14).more hb14.size)
  have HB14 := Lib.hid hb14
  obtain ⟨p0, p1, p2, p3, p4, p5, p6⟩ := HI12.out _ b14
  obtain ⟨q0, q1, q2, q3, q4, q5, q6⟩ := HJ12.out _ b14
  obtain ⟨r0, r1⟩ := HK12.out _ b14
  have HN7' := Lib.hid ((HN7.out.below b14).more b14.size)
  have HN8 := Lib.hid ((hi8.below L13).more L13.size)
  have s0 := B13.cell 0
  have s1 := B13.cell 1
  simp only [List.getElem?_toArray, List.getElem?_cons_zero, List.getElem?_cons_succ] at s0 s1
  generalize w13.heap.size = h14 at s0 s1 ⊢
  clear B13 L13 hb13 b14 hb14 HS12 HB12 HR12 HI12 HJ12 HK12 hown8 hi8 HN7
  go_wp2_with fail
  refine (sameReply_true e3 l3 A7 A8 l3.length d7 d8 _ HN7'.out HN8.out).mono ?_
  rintro e w15 ⟨rfl, hb15⟩
  have kz := run_string_of Try.underlying22 Try.underlying5 Try.underlying9 (HS14.out.below hb15)
  have kw := run_string_of Try.underlying22 Try.underlying5 Try.underlying9 (HR14.out.below hb15)
  have HB15 := Lib.hid (HB14.out.trans (hb15.mono HB14.out.size))
  clear hb15 p0 p1 p2 p3 p4 p5 p6 q0 q1 q2 q3 q4 q5 q6 r0 r1 s0 s1
  go_wp2_with fail
  refine (works24_any _).mono ?_
  rintro e w16 ⟨rfl, hb16⟩
  have HB16 := Lib.hid (HL0.out.trans ((HB15.out.trans (hb16.mono HB15.out.size)).mono HL0.out.size))
  clear hb16 kz kw
  go_wp2_with fail
  go_ret
  exact ⟨rfl, HB16.out⟩

end Go.Proofs.Ytbfcfhfnkpklkaa

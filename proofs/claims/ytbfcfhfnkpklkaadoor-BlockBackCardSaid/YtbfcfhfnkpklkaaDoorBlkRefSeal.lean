/-
  Layer 4 (block): bytes sealed by the document, walked.
-/
import Derived.Test.YtbfcfhfnkpklkaaDoorBlkSeal
namespace Go.Proofs.YtbfcfhfnkpklkaaDoor
open Go.RowKit Go.Gab
set_option linter.unusedVariables false

theorem sum_cells (s : BitVec 32) : [Crc.byteOf s 0, Crc.byteOf s 1, Crc.byteOf s 2, Crc.byteOf s 3].map byteV =
    [Value.int IntKind.u8 ((s.toNat : Int) % 256), Value.int IntKind.u8 ((s.toNat : Int) / 256 % 256), Value.int IntKind.u8 ((s.toNat : Int) / 65536 % 256), Value.int IntKind.u8 ((s.toNat : Int) / 16777216)] := by
  have hs := s.isLt
  have e0 : ((Crc.byteOf s 0).toNat : Int) = (s.toNat : Int) % 256 := by rw [Crc.byteOf_toNat]; omega
  have e1 : ((Crc.byteOf s 1).toNat : Int) = (s.toNat : Int) / 256 % 256 := by rw [Crc.byteOf_toNat]; omega
  have e2 : ((Crc.byteOf s 2).toNat : Int) = (s.toNat : Int) / 65536 % 256 := by rw [Crc.byteOf_toNat]; omega
  have e3 : ((Crc.byteOf s 3).toNat : Int) = (s.toNat : Int) / 16777216 := by rw [Crc.byteOf_toNat]; omega
  simp only [List.map_cons, List.map_nil, byteV, e0, e1, e2, e3]

set_option maxHeartbeats 2000000 in
set_option maxRecDepth 20000 in
theorem refSeal_good (B : Nat) (A : Option Addr) (n c : Nat) (bs : List UInt8) (k : UInt8) (w : World) (hr : Sl w B 1 A n c (bs.map byteV)) (hB : B ≤ w.heap.size) (hk : k ≠ 0) (hn : (n : Int) ≤ 505) :
    Calls Tryd.prog 11 #[.int .u8 (k.toNat : Int), .slice A n c] w (SealRef w (Blo.blk k bs, 0)) := by
  have hkk : ((k.toNat : Int) == 0) = false := by
    simp
    intro h
    exact hk (UInt8.toNat_inj.1 h)
  have hnc := hr.nc
  have hcm := hr.cm
  clear hk
  obtain ⟨i0, hi0, hz0, hz1, hz2⟩ := info_parts info8
  have hpe : ∃ P, Oct.put [k] n 2 = P ∧ P = [k] ++ Oct.be n 2 ∧ P.length = 3 := ⟨_, rfl, rfl, by simp [Oct.put, Oct.size, Oct.be_length]⟩
  obtain ⟨P, he1, he2, he3⟩ := hpe
  have HPE := Lib.hid he1
  have HP := Lib.hid he2
  have HPL := Lib.hid he3
  have HN := Lib.hid hr.lenB
  clear he1 he2 he3
  go_enter Tryd.func11, Tryd.ntmps11
  go_wp2_with fail
  have l0 : Below w.heap.size w (w.alloc (.cells #[.int .u8 (k.toNat : Int)] 5)) := (Below.refl _ _).alloc (Nat.le_refl _) _
  have hr1 := hr.alloc hB (.cells #[.int .u8 (k.toNat : Int)] 5)
  have hsk : Sl (w.alloc (.cells #[.int .u8 (k.toNat : Int)] 5)) (w.heap.size + 1) 1 (some ⟨w.heap.size, 0, none⟩) 1 1 ([k].map byteV) := Sl.lit (k := 1) (cap := 1) w _ _ _ ([k].map byteV) _ rfl rfl rfl (by omega) (by omega)
  have hwz : w.heap.size + 1 ≤ (w.alloc (.cells #[.int .u8 (k.toNat : Int)] 5)).heap.size := by simp
  generalize w.alloc (.cells #[.int .u8 (k.toNat : Int)] 5) = W at l0 hr1 hsk hwz ⊢
  have HL0 := Lib.hid l0
  have HR1 := Lib.hid hr1
  clear hr hr1 l0
  refine (refPut_any (w.heap.size + 1) (some ⟨w.heap.size, 0, none⟩) 1 1 [k] n _ 2 rfl (by omega) _ hsk hwz (by omega)).mono ?_
  rintro e w1 ⟨v1, rfl, hf⟩
  rw [HPE.out] at hf
  obtain ⟨A1, c1, rfl, hown1, hb1⟩ := hf
  rw [HPL.out] at hown1 ⊢
  have hr2 := HR1.out.below' hb1 (by have := HL0.out.size; omega)
  go_wp2_with (at_builtin
               refine wpList_append_any _ rfl _ _ _ rfl W.heap.size 5 i0 _ 1 1 Tryd.underlying22 hi0 hz0 hz1 hz2 rfl (by omega) (.slice A1 3 c1) _ _ rfl hown1 B A n c (bs.map byteV) rfl hr2.rd (byteV_one_ bs) (by simp only [maxLen]; omega) (by omega) (by have := hb1.size; omega) ?_
               intro v2 w2 hown2 hg2 hat2
               have HB2 := Lib.hid (hb1.grown hg2 hb1.size (fun q hq => (hown1.lt q hq).1))
               obtain ⟨A2, c2, rfl⟩ := own_slice hown2
               rw [← List.map_append] at hown2
               have HO2 := Lib.hid hown2
               clear hown1 hb1 hr2 hg2 hat2 hown2)
  go_loopw [6] (fun v wr => ∃ (j m d : Nat) (A3 : Option Addr), m = 3 + n + j ∧ m ≤ 508 ∧ v = .slice A3 m d ∧ wr.ownsRow W.heap.size 5 1 (.slice A3 m d) m ((P ++ bs ++ List.replicate j 0).map byteV) ∧ Below W.heap.size W wr) (fun v _ => match v with | .slice _ m _ => 508 - m | _ => 0)
  case atStart => exact ⟨0, 3 + n, c2, A2, rfl, by omega, rfl, by simpa using HO2.out, HB2.out⟩
  case round =>
    clear HO2 HB2
    obtain ⟨j, m, d, A3, hm, hm8, rfl, hown, hbel⟩ := hrel
    have HM := Lib.hid hm
    clear hm
    by_cases hlt : (m : Int) < 508
    · go_wp2_with (at_builtin
                   refine wpList_append_any _ rfl _ _ _ rfl W.heap.size 5 i0 _ 1 1 Tryd.underlying22 hi0 hz0 hz1 hz2 rfl (by omega) (.slice A3 m d) _ _ rfl (hown.alloc _) (wr.heap.size + 1) (some ⟨wr.heap.size, 0, none⟩) 1 1 ([0].map byteV) rfl (by exact (Sl.lit (k := 1) (cap := 1) _ _ _ _ _ _ rfl rfl rfl (by omega) (by omega)).rd) (byteV_one_ _) (by simp only [maxLen]; omega) (by omega) (by have := hbel.size; simp; omega) ?_
                   intro v4 w4 hown4 hg4 hat4
                   have HB4 := Lib.hid ((hbel.alloc hbel.size _).grown hg4 (by have := hbel.size; simp; omega) (fun q hq => (hown.lt q hq).1))
                   obtain ⟨A4, d4, rfl⟩ := own_slice hown4
                   rw [← List.map_append, List.append_assoc, show List.replicate j (0 : UInt8) ++ [0] = List.replicate (j + 1) 0 by rw [List.replicate_succ']] at hown4
                   have HO4 := Lib.hid hown4
                   clear hown hbel hg4 hat4 hown4)
      go_roundw
      case rel => exact ⟨j + 1, m + 1, d4, A4, by have := HM.out; omega, by omega, rfl, HO4.out, HB4.out⟩
      case measure => simp; omega
    · obtain rfl : m = 508 := by omega
      have hj : j = 505 - n := by have := HM.out; omega
      have hpre : P ++ bs ++ List.replicate j 0 = Blo.pre k bs := by
        unfold Blo.pre
        rw [hj, HN.out, HP.out]
      rw [hpre] at hown
      have HPR := Lib.hid (Blo.pre_len (k := k) (b := bs) (by rw [HN.out]; omega))
      have HO := Lib.hid hown
      have HB := Lib.hid hbel
      clear hown hbel hpre hj hm8
      go_wp2_with fail
      refine (refSum02_any wr.heap.size A3 508 d (Blo.pre k bs) _ (Sl.of_own HO.out)).mono ?_
      rintro e w5 ⟨rfl, rfl⟩
      obtain ⟨s, hs⟩ : ∃ s, Crc.sum (Blo.pre k bs) = s := ⟨_, rfl⟩
      rw [hs]
      have HS := Lib.hid hs
      clear hs
      have hs32 := s.isLt
      go_wp2_with (at_builtin
                   refine wpList_append_any _ rfl _ _ _ rfl W.heap.size 5 i0 _ 1 1 Tryd.underlying22 hi0 hz0 hz1 hz2 rfl (by omega) (.slice A3 508 d) _ _ rfl (HO.out.alloc _) (wr.heap.size + 1) (some ⟨wr.heap.size, 0, none⟩) 4 4 _ rfl (by exact (Sl.lit (k := 4) (cap := 4) _ _ _ _ _ _ rfl rfl rfl (by omega) (by omega)).rd) (by simp [Value.oneCell']) (by simp only [maxLen]; omega) (by omega) (by have := HB.out.size; simp; omega) ?_
                   intro v4 w4 hown4 hg4 hat4
                   have HB4 := Lib.hid ((HB.out.alloc HB.out.size _).grown hg4 (by have := HB.out.size; simp; omega) (fun q hq => (HO.out.lt q hq).1))
                   obtain ⟨A4, d4, rfl⟩ := own_slice hown4
                   have HO4 := Lib.hid hown4
                   clear hg4 hat4 hown4)
      go_ret2
      refine ⟨_, rfl, A4, d4, ?_, ?_, HL0.out.trans (HB4.out.mono HL0.out.size)⟩
      · simp only
        rw [Blo.blk_len (by rw [HN.out]; omega)]
        rfl
      · have hcs := sum_cells s
        have hb : (Blo.blk k bs).map byteV = (Blo.pre k bs).map byteV ++ [Value.int IntKind.u8 ((s.toNat : Int) % 256), Value.int IntKind.u8 ((s.toNat : Int) / 256 % 256), Value.int IntKind.u8 ((s.toNat : Int) / 65536 % 256), Value.int IntKind.u8 ((s.toNat : Int) / 16777216)] := by
          unfold Blo.blk Blo.sumB
          rw [HS.out, List.map_append, ← hcs]
        simp only
        rw [hb, Blo.blk_len (by rw [HN.out]; omega)]
        have ho := HO4.out
        refine ⟨ho.1, ?_⟩
        rcases ho.2 with h1 | ⟨g, cap, cur, h1, h2, h3⟩
        · exact .inl h1
        · exact .inr ⟨g, cap, cur, h1, Nat.le_trans HL0.out.size h2, h3⟩

theorem refSeal_any (B : Nat) (A : Option Addr) (n c : Nat) (bs : List UInt8) (k : UInt8) (w : World) (hr : Sl w B 1 A n c (bs.map byteV)) (hB : B ≤ w.heap.size) :
    Calls Tryd.prog 11 #[.int .u8 (k.toNat : Int), .slice A n c] w (SealRef w (Blo.box k bs)) := by
  have hl := hr.lenB
  have hnc := hr.nc
  have hcm := hr.cm
  unfold Blo.box
  by_cases hk : k = 0
  · subst hk
    rw [if_pos rfl]
    show Calls _ _ #[.int .u8 0, .slice A n c] w _
    clear hl
    go_enter Tryd.func11, Tryd.ntmps11
    go_wp2_with fail
    go_ret2
    exact ⟨_, rfl, none, 0, rfl, World.ownsRow_nil _ _ _ _, Below.refl _ _⟩
  rw [if_neg hk]
  by_cases hn : 505 < bs.length
  · rw [if_pos hn]
    have hn' : (505 : Int) < (n : Int) := by omega
    have hkk : ((k.toNat : Int) == 0) = false := by
      simp
      intro h
      exact hk (UInt8.toNat_inj.1 h)
    clear hk hl hn
    go_enter Tryd.func11, Tryd.ntmps11
    go_wp2_with fail
    go_ret2
    exact ⟨_, rfl, none, 0, rfl, World.ownsRow_nil _ _ _ _, Below.refl _ _⟩
  · rw [if_neg hn]
    exact refSeal_good B A n c bs k w hr hB hk (by omega)

end Go.Proofs.YtbfcfhfnkpklkaaDoor

/-
  Layer 24 (frames): the law's small functions and its anchor, walked.
-/
import Derived.Test.YtbfcfhfnkpklkaaFraGetRep
namespace Go.Proofs.Ytbfcfhfnkpklkaa
open Go.RowKit Go.Gab
set_option linter.unusedVariables false
attribute [local go_sem ↓] Go.wp_at_zero Go.wp_at_succ

set_option maxHeartbeats 1000000 in
/-- Replies of the same parts are the same. -/
theorem sameReply_true (E : Int) (l : List Int) (A1 A2 : Option Addr) (n c1 c2 : Nat) (w : World) (h1 : Sl w w.heap.size 1 A1 n c1 (intsV l)) (h2 : Sl w w.heap.size 1 A2 n c2 (intsV l)) :
    Calls Try.prog 53 #[.agg #[.int .i64 E, .slice A1 n c1], .agg #[.int .i64 E, .slice A2 n c2]] w fun e w' => e = .returned (.bool true) ∧ Below w.heap.size w w' := by
  have hnc := h1.nc
  have hcm := h1.cm
  have hnc2 := h2.nc
  have hcm2 := h2.cm
  go_enter Try.func53, Try.ntmps53
  go_wp2_with fail
  have B1 := (Blk.new w 58 #[.int .i64 E, .slice A1 n c1]).alloc (.cells #[.int .i64 E, .slice A2 n c2] 58)
  have B2 := Blk.new (w.alloc (.cells #[.int .i64 E, .slice A1 n c1] 58)) 58 #[.int .i64 E, .slice A2 n c2]
  rw [show (w.alloc (.cells #[.int .i64 E, .slice A1 n c1] 58)).heap.size = w.heap.size + 1 by simp] at B2
  have L0 : Below w.heap.size w ((w.alloc (.cells #[.int .i64 E, .slice A1 n c1] 58)).alloc (.cells #[.int .i64 E, .slice A2 n c2] 58)) := ((Below.refl _ _).alloc (Nat.le_refl _) _).alloc (by simp) _
  have s1 := h1.below L0
  have s2 := h2.below L0
  have HZ : w.heap.size ≤ ((w.alloc (.cells #[.int .i64 E, .slice A1 n c1] 58)).alloc (.cells #[.int .i64 E, .slice A2 n c2] 58)).heap.size := by simp; omega
  generalize (w.alloc (.cells #[.int .i64 E, .slice A1 n c1] 58)).alloc (.cells #[.int .i64 E, .slice A2 n c2] 58) = W at B1 B2 L0 s1 s2 HZ ⊢
  have s1' := s1.more HZ
  have s2' := s2.more HZ
  clear h1 h2 s1 s2
  go_loopw [5] (fun i wr => ∃ j : Nat, j ≤ n ∧ i = .int .i64 j ∧ Below W.heap.size W wr) (fun i _ => n - (intOf i).toNat)
  case atStart => exact ⟨0, Nat.zero_le _, rfl, Below.refl _ _⟩
  case round =>
    obtain ⟨j, hj, rfl, hbel⟩ := hrel
    have q1 := (B1.below hbel B1.lt).cell 1
    have q2 := (B2.below hbel B2.lt).cell 1
    simp only [List.getElem?_toArray, List.getElem?_cons_zero, List.getElem?_cons_succ] at q1 q2
    by_cases hlt : j < n
    · obtain ⟨b, off, z, rfl, hb, hz, hcell⟩ := int_at (s1'.below hbel) hlt
      obtain ⟨b2, off2, z2, rfl, hb2, hz2, hcell2⟩ := int_at (s2'.below hbel) hlt
      rw [hz] at hz2
      cases hz2
      have hj0 : (0 : Int) ≤ (j : Int) := by omega
      have hj1 : (j : Int) < (n : Int) := by omega
      have HBEL := Lib.hid hbel
      clear hz hbel
      go_wp2_with fail
      go_quiet (fail)
      go_wp2_with fail
      go_roundw
      case rel => exact ⟨j + 1, by omega, by go_num, below_drewN HBEL.out _⟩
      case measure => simp [intOf]; omega
    · obtain rfl : j = n := by omega
      have HBEL := Lib.hid hbel
      clear hbel
      go_wp2_with fail
      go_ret
      exact ⟨rfl, L0.trans (HBEL.out.mono L0.size)⟩

set_option maxHeartbeats 1000000 in
/-- A reply that is just these numbers. -/
theorem isReply_true (l : List Int) (A1 A2 : Option Addr) (n c1 c2 : Nat) (w : World) (h1 : Sl w w.heap.size 1 A1 n c1 (intsV l)) (h2 : Sl w w.heap.size 1 A2 n c2 (intsV l)) :
    Calls Try.prog 72 #[.agg #[.int .i64 0, .slice A1 n c1], .slice A2 n c2] w fun e w' => e = .returned (.bool true) ∧ Below w.heap.size w w' := by
  have hnc := h1.nc
  have hcm := h1.cm
  have hnc2 := h2.nc
  have hcm2 := h2.cm
  go_enter Try.func72, Try.ntmps72
  go_wp2_with fail
  have B1 := Blk.new w 58 #[.int .i64 0, .slice A1 n c1]
  have L0 : Below w.heap.size w (w.alloc (.cells #[.int .i64 0, .slice A1 n c1] 58)) := (Below.refl _ _).alloc (Nat.le_refl _) _
  have s1 := h1.below L0
  have s2 := h2.below L0
  have HZ : w.heap.size ≤ (w.alloc (.cells #[.int .i64 0, .slice A1 n c1] 58)).heap.size := by simp
  generalize w.alloc (.cells #[.int .i64 0, .slice A1 n c1] 58) = W at B1 L0 s1 s2 HZ ⊢
  have s1' := s1.more HZ
  have s2' := s2.more HZ
  clear h1 h2 s1 s2
  go_loopw [5] (fun i wr => ∃ j : Nat, j ≤ n ∧ i = .int .i64 j ∧ Below W.heap.size W wr) (fun i _ => n - (intOf i).toNat)
  case atStart => exact ⟨0, Nat.zero_le _, rfl, Below.refl _ _⟩
  case round =>
    obtain ⟨j, hj, rfl, hbel⟩ := hrel
    have q1 := (B1.below hbel B1.lt).cell 1
    simp only [List.getElem?_toArray, List.getElem?_cons_zero, List.getElem?_cons_succ] at q1
    by_cases hlt : j < n
    · obtain ⟨b, off, z, rfl, hb, hz, hcell⟩ := int_at (s1'.below hbel) hlt
      obtain ⟨b2, off2, z2, rfl, hb2, hz2, hcell2⟩ := int_at (s2'.below hbel) hlt
      rw [hz] at hz2
      cases hz2
      have hj0 : (0 : Int) ≤ (j : Int) := by omega
      have hj1 : (j : Int) < (n : Int) := by omega
      have HBEL := Lib.hid hbel
      clear hz hbel
      go_wp2_with fail
      go_quiet (fail)
      go_wp2_with fail
      go_roundw
      case rel => exact ⟨j + 1, by omega, by go_num, below_drewN HBEL.out _⟩
      case measure => simp [intOf]; omega
    · obtain rfl : j = n := by omega
      have HBEL := Lib.hid hbel
      clear hbel
      go_wp2_with fail
      go_ret
      exact ⟨rfl, L0.trans (HBEL.out.mono L0.size)⟩

/-- The bytes of the chapter's example. -/
def egB : List UInt8 := [0, 0, 0, 1, 0, 0, 0, 0, 0, 0, 0, 2, 0, 1, 255, 255, 255, 255, 255, 255, 255, 255]
theorem egB_is : Fra.replyB 1 2 ⟨0, [-1]⟩ = egB := by decide +kernel
theorem egPut : Fra.putReply 1 2 ⟨0, [-1]⟩ = (egB, 0) := by
  unfold Fra.putReply
  rw [if_neg (by decide), egB_is]
theorem egGet : Fra.getReply egB = (1, 2, ⟨0, [-1]⟩, 0) := by
  rw [← egB_is]
  exact Fra.getReply_replyB (by omega) (by omega) ⟨by simp [Fra.I64], by simp [Fra.I64]⟩ (by decide)
theorem egAsk : Fra.getAsk egB = (0, 0, Fra.zeroAsk, 5) := Fra.getAsk_len (by decide)

set_option maxHeartbeats 2000000 in
set_option maxRecDepth 10000 in
theorem works24_any (w : World) :
    Calls Try.prog 44 #[] w fun e w' => e = .returned (.bool true) ∧ Below w.heap.size w w' := by
  go_enter Try.func44, Try.ntmps44
  go_wp2_with fail
  refine (fraPutReply 1 2 ⟨0, [-1]⟩ (some ⟨w.heap.size, 0, none⟩) 1 1 _ (by exact (Sl.lit (size := 1) (k := 1) (cap := 1) w _ _ _ (intsV [-1]) _ rfl rfl rfl (by omega) (by omega)).more (by simp)) (by omega) (by omega)).mono ?_
  rintro e w1 ⟨v1, rfl, hf⟩
  rw [egPut] at hf ⊢
  have hb0 : Below w.heap.size w w1 := ((Below.refl _ _).alloc (Nat.le_refl _) _).trans ((Fresh_bel hf).mono (by simp))
  obtain ⟨A1, c1, rfl, hs1⟩ := hf.sl
  clear hf
  have hl1 : egB.length = 22 := by decide
  rw [hl1] at hs1 ⊢
  unfold pairV
  go_wp2_with fail
  refine (fraGetReply A1 22 c1 egB _ hs1 (by omega)).mono ?_
  rintro e w2 ⟨A2, c2, rfl, hown2, hb2⟩
  rw [egGet] at hown2 ⊢
  simp only [List.length_cons, List.length_nil, Nat.zero_add] at hown2 ⊢
  have hb2' := hb0.trans (hb2.mono hb0.size)
  have hs1' := hs1.below hb2
  have hs2 := Sl.of_own hown2
  have B3 := Blk.new w2 58 #[.int .i64 0, .slice A2 1 c2]
  have L3 : Below w2.heap.size w2 (w2.alloc (.cells #[.int .i64 0, .slice A2 1 c2] 58)) := (Below.refl _ _).alloc (Nat.le_refl _) _
  have hs3 := hs1'.below' L3 hb2.size
  have hs3b := hs3.more (show w1.heap.size ≤ (w2.alloc (.cells #[.int .i64 0, .slice A2 1 c2] 58)).heap.size by have := hb2.size; simp; omega)
  have hi3 := hs2.below L3
  clear hown2 hb2 hs1 hs1' hs2 hs3
  go_wp2_with fail
  generalize w2.alloc (.cells #[.int .i64 0, .slice A2 1 c2] 58) = w3 at B3 L3 hs3b hi3 ⊢
  have hb3 := hb2'.trans (L3.mono hb2'.size)
  have hi3' := hi3.more L3.size
  have HZ : w2.heap.size < w3.heap.size := B3.lt
  refine (fraGetAsk A1 22 c1 egB _ hs3b (by omega)).mono ?_
  rintro e w4 ⟨rfl, hb4⟩
  rw [egAsk]
  unfold gotV askV Fra.zeroAsk
  simp only
  have hs4 := hs3b.below hb4
  have hi4 := hi3'.below hb4
  have B4 := B3.below hb4 B3.lt
  have L4 := hb3.trans (hb4.mono hb3.size)
  obtain ⟨b, off, y3, rfl, hbb, e3, k3, _⟩ := hs4.byte (k := 3) (by omega)
  obtain ⟨_, _, y11, hA, _, e11, k11, _⟩ := hs4.byte (k := 11) (by omega)
  cases hA
  obtain ⟨_, _, y13, hA, _, e13, k13, _⟩ := hs4.byte (k := 13) (by omega)
  cases hA
  obtain ⟨_, _, y21, hA, _, e21, k21, _⟩ := hs4.byte (k := 21) (by omega)
  cases hA
  cases e3; cases e11; cases e13; cases e21
  have q0 := B4.cell 0
  have q1 := B4.cell 1
  simp only [List.getElem?_toArray, List.getElem?_cons_zero, List.getElem?_cons_succ] at q0 q1
  have hnc := hs4.nc
  have hcm := hs4.cm
  have n1 : b < w4.heap.size := Nat.lt_of_lt_of_le hbb hb4.size
  have n2 : w2.heap.size < w4.heap.size := B4.lt
  have k3' := (World.cell?_alloc_lt w4 (.cells #[.int .u8 0, .int .i64 0, .int .i64 0, .int .i64 0, .int .i64 0, .int .i64 0, .int .u64 0] 55) ⟨b, off + 3, none⟩ n1).trans k3
  have k11' := (World.cell?_alloc_lt w4 (.cells #[.int .u8 0, .int .i64 0, .int .i64 0, .int .i64 0, .int .i64 0, .int .i64 0, .int .u64 0] 55) ⟨b, off + 11, none⟩ n1).trans k11
  have k13' := (World.cell?_alloc_lt w4 (.cells #[.int .u8 0, .int .i64 0, .int .i64 0, .int .i64 0, .int .i64 0, .int .i64 0, .int .u64 0] 55) ⟨b, off + 13, none⟩ n1).trans k13
  have k21' := (World.cell?_alloc_lt w4 (.cells #[.int .u8 0, .int .i64 0, .int .i64 0, .int .i64 0, .int .i64 0, .int .i64 0, .int .u64 0] 55) ⟨b, off + 21, none⟩ n1).trans k21
  have q0' := (World.cell?_alloc_lt w4 (.cells #[.int .u8 0, .int .i64 0, .int .i64 0, .int .i64 0, .int .i64 0, .int .i64 0, .int .u64 0] 55) ⟨w2.heap.size, 0, none⟩ n2).trans q0
  have q1' := (World.cell?_alloc_lt w4 (.cells #[.int .u8 0, .int .i64 0, .int .i64 0, .int .i64 0, .int .i64 0, .int .i64 0, .int .u64 0] 55) ⟨w2.heap.size, 1, none⟩ n2).trans q1
  have L5 := L4.alloc L4.size (.cells #[.int .u8 0, .int .i64 0, .int .i64 0, .int .i64 0, .int .i64 0, .int .i64 0, .int .u64 0] 55)
  have i5 := (hi4.more hb4.size).alloc (Nat.le_refl _) (.cells #[.int .u8 0, .int .i64 0, .int .i64 0, .int .i64 0, .int .i64 0, .int .i64 0, .int .u64 0] 55)
  have z5 : w4.heap.size ≤ (w4.alloc (.cells #[.int .u8 0, .int .i64 0, .int .i64 0, .int .i64 0, .int .i64 0, .int .i64 0, .int .u64 0] 55)).heap.size := by simp
  clear B3 L3 hb4 hb3 hi3 hi3' hs3b hs4 hb2' hb0
  go_upto_region 4 with (fail)
  generalize w4.alloc (.cells #[.int .u8 0, .int .i64 0, .int .i64 0, .int .i64 0, .int .i64 0, .int .i64 0, .int .u64 0] 55) = w5 at k3' k11' k13' k21' q0' q1' L5 i5 z5 ⊢
  clear k3 k11 k13 k21 q0 q1
  go_wp2_with fail
  refine (isReply_true [-1] A2 (some ⟨w5.heap.size, 0, none⟩) 1 c2 1 _ (((i5.more z5).alloc (Nat.le_refl _) _).more (by simp)) (by exact (Sl.lit (size := 1) (k := 1) (cap := 1) w5 _ _ _ (intsV [-1]) _ rfl rfl rfl (by omega) (by omega)).more (by simp))).mono ?_
  rintro e w6 ⟨rfl, hb6⟩
  have L6 := (L5.alloc L5.size (.cells #[.int .i64 (-1)] 2)).trans (hb6.mono (by have := L5.size; simp; omega))
  go_wp2_with fail
  go_ret
  exact ⟨rfl, L6⟩

end Go.Proofs.Ytbfcfhfnkpklkaa

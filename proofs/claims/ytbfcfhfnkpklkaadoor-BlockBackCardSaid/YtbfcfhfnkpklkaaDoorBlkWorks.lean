/-
  Layer 4 (block): the law's small functions and its anchor, walked.
-/
import Derived.Test.YtbfcfhfnkpklkaaDoorBlkRefOpen
namespace Go.Proofs.YtbfcfhfnkpklkaaDoor
open Go.RowKit Go.Gab
set_option linter.unusedVariables false
attribute [local go_sem ↓] Go.wp_at_zero Go.wp_at_succ

theorem copied04_any (B : Nat) (A : Option Addr) (n c : Nat) (bs : List UInt8) (w : World) (hr : Sl w B 1 A n c (bs.map byteV)) (hB : B ≤ w.heap.size) (hn : n ≤ 1048576) :
    Calls Tryd.prog 8 #[.slice A n c] w fun e w' => ∃ v, e = .returned v ∧ Fresh 5 w bs v w' := by
  have hnc := hr.nc
  have hcm := hr.cm
  have hlen := hr.lenB
  obtain ⟨i0, hi0, hz0, hz1, hz2⟩ := info_parts info8
  go_enter Tryd.func8, Tryd.ntmps8
  go_wp2_with (at_builtin
               refine wpList_append_any _ rfl (.tmp 3) (.tmp 4) _ rfl w.heap.size 5 i0 _ 1 1 Tryd.underlying22 hi0 hz0 hz1 hz2 rfl (by omega) (.slice (some ⟨w.heap.size, 0, none⟩) 0 0) 0 [] rfl
                 (World.ownsRow_made w #[] 0 (Nat.le_refl _) (by simp [maxLen]) rfl) B A n c (bs.map byteV) rfl (hr.alloc hB _).rd (byteV_one_ bs) (by simp only [maxLen]; omega) (by omega) (by simp) ?_
               intro v1 w1 hown1 hg1 hat1)
  go_ret
  obtain ⟨A1, c1, rfl⟩ := own_slice hown1
  simp only [Nat.zero_add, List.nil_append] at hown1
  subst hlen
  exact ⟨_, rfl, A1, c1, by simp, hown1, ((Below.refl _ _).alloc (Nat.le_refl _) _).grown hg1 (by simp) (by simp [Value.ownBlock])⟩

theorem only_trans {a b c : World} {row row2 : Option Nat} (h : a.grownBy b row) (k : b.grownBy c row2) (hr : row2 = row ∨ ∀ g, row2 = some g → a.heap.size ≤ g) : a.grownBy c row :=
  ⟨k.os.trans h.os, k.tape.trans h.tape, k.output.trans h.output, Nat.le_trans h.size k.size, fun i hi hne => (k.block i (Nat.lt_of_lt_of_le hi h.size) (by
    rcases hr with rfl | hr
    · exact hne
    · intro h2
      have := hr i h2.symm
      omega)).trans (h.block i hi hne)⟩

set_option maxHeartbeats 1000000 in
theorem turned_any (base : Nat) (A : Option Addr) (n c : Nat) (bs : List UInt8) (w : World) (h : w.ownsRow base 5 1 (.slice A n c) n (bs.map byteV)) (hc : n ≤ 9223372036854775807) :
    Calls Tryd.prog 10 #[.slice A n c] w fun e w' => e = .returned (.tuple #[]) ∧ w.grownBy w' (Value.slice A n c).ownBlock := by
  go_enter Tryd.func10, Tryd.ntmps10
  go_wp2_with fail
  go_loopw [2] (fun i wr => ∃ (j : Nat) (xs : List UInt8), j ≤ n ∧ i = .int .i64 j ∧ wr.ownsRow base 5 1 (.slice A n c) n (xs.map byteV) ∧ w.grownBy wr (Value.slice A n c).ownBlock) (fun i _ => n - (intOf i).toNat)
  case atStart => exact ⟨0, bs, Nat.zero_le _, rfl, h, World.grownBy.refl w _⟩
  case round =>
    clear h
    obtain ⟨j, xs, hj, rfl, hown, hgr⟩ := hrel
    by_cases hlt : j < n
    · obtain ⟨g, cap, hA, hg, hgl⟩ := hown.form (by omega)
      injection hA with hA1 _ hA2
      subst hA1 hA2
      have hsd := Sl.of_own hown
      obtain ⟨_, _, v0, hA0, hb0, hv0, hcell0, hu0⟩ := hsd.byte (k := j) (by omega)
      cases hA0
      have hnc := hsd.nc
      have hcm := hsd.cm
      have hfz := hown.frozenAt j
      simp only [Nat.zero_add] at hcell0
      have hx : bits .xor .u8 (v0.toNat : Int) 44 = ((v0 ^^^ 44).toNat : Int) := u8_xorB v0 44
      have HO := Lib.hid hown
      have HG := Lib.hid hgr
      clear hown hv0 hsd hgr
      go_wp2_with fail
      go_roundw
      case rel =>
        have h := HO.out.stored j (byteV (v0 ^^^ 44))
        rw [← List.map_set] at h
        refine ⟨j + 1, _, by omega, by go_num, h.1, ?_⟩
        have hg1 := HG.out
        simp only [Value.ownBlock] at hg1 ⊢
        exact only_trans hg1 h.2 (.inl rfl)
      case measure => simp [intOf]; omega
    · obtain rfl : j = n := by omega
      have HG := Lib.hid hgr
      clear hgr
      go_wp2_with fail
      go_end0
      exact ⟨rfl, HG.out⟩

/-! ### What is apart stays -/
theorem Sl.apart {w w' : World} {B size n c : Nat} {A : Option Addr} {xs : List Value} {row : Option Nat} (h : Sl w B size A n c xs) (hg : w.grownBy w' row) (hB : B ≤ w.heap.size) (hA : ∀ a, A = some a → some a.block ≠ row) : Sl w' B size A n c xs := by
  refine ⟨⟨h.rd.1, fun hn => ?_⟩, h.nc, h.cm⟩
  obtain ⟨ad, e, hb, hc⟩ := h.rd.2 hn
  exact ⟨ad, e, hb, fun j u hu => (World.cell?_of_block (hg.block _ (by rw [block_of_add]; omega) (by rw [block_of_add]; exact hA ad e))).trans (hc j u hu)⟩

theorem OwnBlk.sl {w0 w : World} {bs : List UInt8} {v : Value} (h : OwnBlk w0 bs v w) (hm : bs.length ≤ 9223372036854775807) :
    ∃ A c, v = .slice A bs.length c ∧ Sl w w.heap.size 1 A bs.length c (bs.map byteV) ∧ Below w0.heap.size w0 w ∧ ∀ a, A = some a → w0.heap.size ≤ a.block := by
  rcases h with ⟨rfl, rfl, hb⟩ | ⟨g, t, rfl, hB, hg, hb⟩
  · exact ⟨none, 0, rfl, Sl.nil_, hb, fun a h => by cases h⟩
  · exact ⟨_, _, rfl, (hB.sl rfl (Nat.le_refl _) hm).more hB.lt, hb, fun a h => by cases h; exact hg⟩

theorem Fresh.apart {t8 : TypeId} {w0 w : World} {bs : List UInt8} {v : Value} (h : Fresh t8 w0 bs v w) :
    ∃ A c, v = .slice A bs.length c ∧ w.ownsRow w0.heap.size t8 1 (.slice A bs.length c) bs.length (bs.map byteV) ∧ Sl w w.heap.size 1 A bs.length c (bs.map byteV) ∧ Below w0.heap.size w0 w := by
  obtain ⟨A, c, rfl, ho, hb⟩ := h
  exact ⟨A, c, rfl, ho, Sl.of_own ho, hb⟩

/-! ### The anchor -/
theorem right_zero : Crc.right (List.replicate 512 0) = false := by decide +kernel
theorem opens_zero : Blo.opens (List.replicate 512 0) = (0, [], 9) := whole_wrong right_zero
theorem eg_box : Blo.box 1 [97, 98] = (Blo.blk 1 [97, 98], 0) := rfl
theorem eg_take : (Blo.blk 1 [97, 98]).take 5 = [1, 0, 2, 97, 98] := by
  unfold Blo.blk Blo.pre
  rw [Blo.be2]
  rfl
theorem eg_len : (Blo.blk 1 [97, 98]).length = 512 := Blo.blk_len (by decide)
theorem eg_opens : Blo.opens (Blo.blk 1 [97, 98]) = (1, [97, 98], 0) := Blo.opens_blk (by decide) (by decide)
theorem eg_many : Blo.box 1 (List.replicate 506 0) = ([], 6) := by
  unfold Blo.box
  rw [if_neg (by decide), if_pos (by rw [List.length_replicate]; omega)]
theorem eg_none : Blo.box 0 [] = ([], 1) := rfl

set_option maxHeartbeats 2000000 in
set_option maxRecDepth 10000 in
theorem works04_any (w : World) :
    Calls Tryd.prog 7 #[] w fun e w' => e = .returned (.bool true) ∧ Below w.heap.size w w' := by
  obtain ⟨i0, hi0, hz0, hz1, hz2⟩ := info_parts info8
  have m506 : ∀ w, (Instr.makeSlice 22 (.int .i64 506) (.int .i64 506)).run Tryd.prog w = .ok (.slice (some ⟨w.heap.size, 0, none⟩) 506 506) (w.alloc (.cells (bytesA (List.replicate 506 0)) 5)) := fun w => run_make_bytes (P := Tryd.prog) Tryd.underlying22 hi0 hz0 hz1 hz2 506 (by omega) w
  have m512 : ∀ w, (Instr.makeSlice 22 (.int .i64 512) (.int .i64 512)).run Tryd.prog w = .ok (.slice (some ⟨w.heap.size, 0, none⟩) 512 512) (w.alloc (.cells (bytesA (List.replicate 512 0)) 5)) := fun w => run_make_bytes (P := Tryd.prog) Tryd.underlying22 hi0 hz0 hz1 hz2 512 (by omega) w
  have kc := run_bytes_const Tryd.underlying22 Tryd.underlying5
  generalize hZ6 : List.replicate 506 (0 : UInt8) = Z6 at m506
  generalize hZ2 : List.replicate 512 (0 : UInt8) = Z2 at m512
  have HZ6 := Lib.hid hZ6
  have HZ2 := Lib.hid hZ2
  clear hZ6 hZ2
  go_enter Tryd.func7, Tryd.ntmps7
  go_wp2_with fail
  have l0 : Below w.heap.size w (w.alloc (.cells #[.int .u8 97, .int .u8 98] 5 (2, 3))) := (Below.refl _ _).alloc (Nat.le_refl _) _
  have hs0 : Sl (w.alloc (.cells #[.int .u8 97, .int .u8 98] 5 (2, 3))) (w.heap.size + 1) 1 (some ⟨w.heap.size, 0, none⟩) 2 2 ([97, 98].map byteV) := Sl.lit (k := 2) (cap := 2) w _ _ _ _ _ rfl rfl rfl (by omega) (by omega)
  have hz0' : w.heap.size + 1 ≤ (w.alloc (.cells #[.int .u8 97, .int .u8 98] 5 (2, 3))).heap.size := by simp
  generalize w.alloc (.cells #[.int .u8 97, .int .u8 98] 5 (2, 3)) = W at l0 hs0 hz0' ⊢
  have HL0 := Lib.hid l0
  refine (seal_any (w.heap.size + 1) (some ⟨w.heap.size, 0, none⟩) 2 2 [97, 98] 1 _ hs0 hz0').mono ?_
  rintro e w1 ⟨v1, rfl, ho⟩
  rw [eg_box] at ho ⊢
  obtain ⟨X, hX⟩ : ∃ X, Blo.blk 1 [97, 98] = X := ⟨_, rfl⟩
  have HXt := Lib.hid (show X.take 5 = [1, 0, 2, 97, 98] by rw [← hX]; exact eg_take)
  have HXo := Lib.hid (show Blo.opens X = (1, [97, 98], 0) by rw [← hX]; exact eg_opens)
  have HXl := Lib.hid (show X.length = 512 by rw [← hX]; exact eg_len)
  rw [hX] at ho
  obtain ⟨A1, c1, rfl, hs1, hb1, _⟩ := ho.sl (by simp only [HXl.out]; omega)
  simp only [HXl.out] at hs1 ⊢
  have HS1 := Lib.hid hs1
  have HB1 := Lib.hid (HL0.out.trans (hb1.mono HL0.out.size))
  clear ho hs1 hb1 hX l0 hs0 hz0'
  unfold pairV
  go_wp2_with fail
  refine (seal_any 0 none 0 0 [] 0 _ Sl.nil_ (Nat.zero_le _)).mono ?_
  rintro e w2 ⟨v2, rfl, ho⟩
  rw [eg_none] at ho ⊢
  obtain ⟨A2, c2, rfl, hs2, hb2, _⟩ := ho.sl (by simp)
  have HS2 := Lib.hid ((HS1.out.below hb2).more hb2.size)
  have HB2 := Lib.hid (HB1.out.trans (hb2.mono HB1.out.size))
  clear ho hs2 hb2 HS1
  unfold pairV
  go_wp2_with fail
  have l2 : Below w2.heap.size w2 (w2.alloc (.cells (bytesA Z6) 5)) := (Below.refl _ _).alloc (Nat.le_refl _) _
  have hs3 : Sl (w2.alloc (.cells (bytesA Z6) 5)) (w2.heap.size + 1) 1 (some ⟨w2.heap.size, 0, none⟩) 506 506 (Z6.map byteV) := Sl.lit (k := 506) (cap := 506) w2 _ _ _ _ _ rfl (by unfold bytesA; rw [List.toList_toArray]) (by rw [List.length_map, ← HZ6.out, List.length_replicate]) (by omega) (by omega)
  have hz2' : w2.heap.size + 1 ≤ (w2.alloc (.cells (bytesA Z6) 5)).heap.size := by simp
  generalize w2.alloc (.cells (bytesA Z6) 5) = W2 at l2 hs3 hz2' ⊢
  refine (seal_any (w2.heap.size + 1) (some ⟨w2.heap.size, 0, none⟩) 506 506 Z6 1 _ hs3 hz2').mono ?_
  rintro e w3 ⟨v3, rfl, ho⟩
  rw [show Blo.box 1 Z6 = ([], 6) by rw [← HZ6.out]; exact eg_many] at ho ⊢
  obtain ⟨A3, c3, rfl, _, hb3, _⟩ := ho.sl (by simp)
  have l23 := l2.trans (hb3.mono l2.size)
  have HS3 := Lib.hid ((HS2.out.below l23).more l23.size)
  have HB3 := Lib.hid (HB2.out.trans (l23.mono HB2.out.size))
  clear ho hb3 HS2 l2 l23 hs3 hz2'
  unfold pairV
  go_wp2_with fail
  refine (open_any w3.heap.size A1 512 c1 X _ HS3.out (Nat.le_refl _)).mono ?_
  rintro e w4 ⟨v4, rfl, hf⟩
  rw [HXo.out] at hf ⊢
  obtain ⟨A4, c4, rfl, hs4⟩ := hf.sl
  have hb4 := Fresh_bel hf
  have HS4 := Lib.hid ((HS3.out.below hb4).more hb4.size)
  have HB4 := Lib.hid (HB3.out.trans (hb4.mono HB3.out.size))
  have HX4 := Lib.hid (show Sl w4 w4.heap.size 1 A4 2 c4 ([97, 98].map byteV) from hs4)
  clear hf hs4 hb4 HS3
  go_wp2_with fail
  have l4 : Below w4.heap.size w4 (w4.alloc (.cells (bytesA Z2) 5)) := (Below.refl _ _).alloc (Nat.le_refl _) _
  have hs5 : Sl (w4.alloc (.cells (bytesA Z2) 5)) (w4.heap.size + 1) 1 (some ⟨w4.heap.size, 0, none⟩) 512 512 (Z2.map byteV) := Sl.lit (k := 512) (cap := 512) w4 _ _ _ _ _ rfl (by unfold bytesA; rw [List.toList_toArray]) (by rw [List.length_map, ← HZ2.out, List.length_replicate]) (by omega) (by omega)
  have hz4' : w4.heap.size + 1 ≤ (w4.alloc (.cells (bytesA Z2) 5)).heap.size := by simp
  generalize w4.alloc (.cells (bytesA Z2) 5) = W4 at l4 hs5 hz4' ⊢
  refine (open_any (w4.heap.size + 1) (some ⟨w4.heap.size, 0, none⟩) 512 512 Z2 _ hs5 hz4').mono ?_
  rintro e w5 ⟨v5, rfl, hf⟩
  rw [show Blo.opens Z2 = (0, [], 9) by rw [← HZ2.out]; exact opens_zero] at hf ⊢
  have hb5 := Fresh_bel hf
  obtain ⟨A5, c5, rfl, hs5'⟩ := hf.sl
  have l45 := l4.trans (hb5.mono l4.size)
  have hb := (HS4.out.below l45).take_ (k := 5) (by omega)
  rw [Nat.mul_one, ← List.map_take, HXt.out] at hb
  have kz := run_string_of Tryd.underlying22 Tryd.underlying5 Tryd.underlying9 hb
  have kw := run_string_of Tryd.underlying22 Tryd.underlying5 Tryd.underlying9 (HX4.out.below l45)
  have HB5 := Lib.hid (HB4.out.trans (l45.mono HB4.out.size))
  have hnc1 := HS4.out.nc
  have hcm1 := HS4.out.cm
  clear hf hb5 l4 l45 hs5 hs5' hz4' hb m506 m512
  go_wp2_with fail
  go_ret
  exact ⟨rfl, HB5.out⟩

end Go.Proofs.YtbfcfhfnkpklkaaDoor

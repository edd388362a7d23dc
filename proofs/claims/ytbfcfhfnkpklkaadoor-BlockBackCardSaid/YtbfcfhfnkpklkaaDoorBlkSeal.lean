/-
  Layer 4 (block): bytes sealed, walked.
-/
import Derived.Test.YtbfcfhfnkpklkaaDoorBlkWalks
namespace Go.Proofs.YtbfcfhfnkpklkaaDoor
open Go.RowKit Go.Gab
set_option linter.unusedVariables false
attribute [local go_sem ↓] Go.wp_at_zero Go.wp_at_succ

/-- Bytes in a block of their own, which may be written. -/
def OwnBlk (w0 : World) (bs : List UInt8) (v : Value) (w : World) : Prop :=
  (bs = [] ∧ v = .slice none 0 0 ∧ Below w0.heap.size w0 w) ∨ ∃ g t, v = .slice (some ⟨g, 0, none⟩) bs.length bs.length ∧ Blk w g t (bytesA bs) ∧ w0.heap.size ≤ g ∧ Below w0.heap.size w0 w

def SealTo (w : World) (r : List UInt8 × Int) (e : Ending) (w' : World) : Prop := ∃ v, e = .returned (pairV v r.2) ∧ OwnBlk w r.1 v w'

/-- What stands in the block after so many bytes of the sum. -/
def stage (k : UInt8) (bs : List UInt8) (j : Nat) : List UInt8 := Blo.pre k bs ++ ((Blo.sumB (Blo.pre k bs)).take j ++ List.replicate (4 - j) 0)

theorem stage_len {k : UInt8} {bs : List UInt8} (h : bs.length ≤ 505) {j : Nat} (hj : j ≤ 4) : (stage k bs j).length = 512 := by
  unfold stage
  simp only [List.length_append, Blo.pre_len h, List.length_take, Blo.sumB_len, List.length_replicate]
  omega
theorem stage_all (k : UInt8) (bs : List UInt8) : stage k bs 4 = Blo.blk k bs := by
  unfold stage Blo.blk
  rw [List.take_of_length_le (by rw [Blo.sumB_len]; omega)]
  simp
theorem stage_set {k : UInt8} {bs : List UInt8} (h : bs.length ≤ 505) {j : Nat} (hj : j < 4) : (stage k bs j).set (508 + j) (Crc.byteOf (Crc.sum (Blo.pre k bs)) j) = stage k bs (j + 1) := by
  unfold stage
  rw [List.set_append_right _ _ (by rw [Blo.pre_len h]; omega), Blo.pre_len h, show 508 + j - 508 = j by omega]
  congr 1
  unfold Blo.sumB
  match j, hj with
  | 0, _ => rfl
  | 1, _ => rfl
  | 2, _ => rfl
  | 3, _ => rfl
theorem stage_take {k : UInt8} {bs : List UInt8} (h : bs.length ≤ 505) (j : Nat) : (stage k bs j).take 508 = Blo.pre k bs := by
  unfold stage
  rw [List.take_append_of_le_length (by rw [Blo.pre_len h]; omega), List.take_of_length_le (by rw [Blo.pre_len h]; omega)]

def zeros512 : Array Value := bytesA (List.replicate 512 0)
theorem zero512 (w : World) : (zeroValue 39).run Tryd.prog w = .ok (.agg zeros512) w := by kernel_rfl

theorem laid_row {k : UInt8} {bs P : List UInt8} (h : bs.length ≤ 505) (hP : P = [k] ++ Oct.be bs.length 2) (hl : P.length = 3) :
    (splice (splice zeros512.toList 0 (P.map byteV)) 3 (bs.map byteV)).toArray = bytesA (stage k bs 0) := by
  have e0 : zeros512.toList = (List.replicate 512 0).map byteV := by unfold zeros512 bytesA; rw [List.toList_toArray]
  rw [e0]
  have e1 : splice ((List.replicate 512 (0 : UInt8)).map byteV) 0 (P.map byteV) = (P ++ List.replicate 509 0).map byteV := by
    unfold splice
    rw [List.length_map, hl, List.take_zero, List.nil_append, ← List.map_drop, ← List.map_append, List.drop_replicate]
  have e2 : splice ((P ++ List.replicate 509 (0 : UInt8)).map byteV) 3 (bs.map byteV) = (P ++ (bs ++ List.replicate (509 - bs.length) 0)).map byteV := by
    unfold splice
    rw [List.length_map, ← List.map_take, ← List.map_drop, ← List.map_append, ← List.map_append]
    congr 1
    rw [List.take_append_of_le_length (by omega), List.take_of_length_le (by omega)]
    congr 2
    rw [List.drop_append, List.drop_of_length_le (by omega), List.nil_append, hl, show 3 + bs.length - 3 = bs.length by omega, List.drop_replicate]
  rw [e1, e2]
  unfold bytesA
  congr 2
  unfold stage Blo.pre
  rw [hP]
  have : List.replicate (509 - bs.length) (0 : UInt8) = List.replicate (505 - bs.length) 0 ++ List.replicate 4 0 := by
    rw [List.replicate_append_replicate, show 505 - bs.length + 4 = 509 - bs.length by omega]
  rw [this]
  simp

set_option maxHeartbeats 1000000 in
set_option maxRecDepth 20000 in
theorem seal_good (B : Nat) (A : Option Addr) (n c : Nat) (bs : List UInt8) (k : UInt8) (w : World) (hr : Sl w B 1 A n c (bs.map byteV)) (hB : B ≤ w.heap.size) (hk : k ≠ 0) (hn : (n : Int) ≤ 505) :
    Calls Tryd.prog 9 #[.int .u8 (k.toNat : Int), .slice A n c] w (SealTo w (Blo.blk k bs, 0)) := by
  have hkk : ((k.toNat : Int) == 0) = false := by
    simp
    intro h
    exact hk (UInt8.toNat_inj.1 h)
  clear hk
  have hz5 := zero512
  generalize hZ : zeros512 = Z at hz5
  have HZ := Lib.hid hZ
  clear hZ
  go_enter Tryd.func9, Tryd.ntmps9
  go_upto_region 6 with (fail)
  have B0 := Blk.new w 39 Z
  have l0 : Below w.heap.size w (w.alloc (.cells Z 39)) := (Below.refl _ _).alloc (Nat.le_refl _) _
  have hr1 := hr.alloc hB (.cells Z 39)
  have HR := Lib.hid hr
  generalize w.alloc (.cells Z 39) = W at B0 l0 hr1 ⊢
  obtain ⟨h, hh⟩ : ∃ h, h = w.heap.size := ⟨_, rfl⟩
  rw [← hh] at B0 ⊢
  have HH := Lib.hid (show w.heap.size ≤ h by omega)
  have HW := Lib.hid (show h < W.heap.size from B0.lt)
  have HB0 := Lib.hid B0
  have HL0 := Lib.hid l0
  have HR1 := Lib.hid hr1
  have HZl := Lib.hid (show Z.toList.length = 512 by rw [← HZ.out]; simp [zeros512, bytesA])
  clear hh B0 l0 hr1 hr
  have hpe : ∃ P, Oct.put [k] n 2 = P ∧ P = [k] ++ Oct.be n 2 ∧ P.length = 3 := ⟨_, rfl, rfl, by simp [Oct.put, Oct.size, Oct.be_length]⟩
  obtain ⟨P, he1, he2, he3⟩ := hpe
  have HPE := Lib.hid he1
  have HP := Lib.hid he2
  have HPL := Lib.hid he3
  clear he1 he2 he3
  have HSk := Lib.hid (show Sl (W.alloc (.cells #[.int .u8 (k.toNat : Int)] 5)).drew (W.heap.size + 1) 1 (some ⟨W.heap.size, 0, none⟩) 1 1 ([k].map byteV) from (Sl.lit (k := 1) (cap := 1) W _ _ _ ([k].map byteV) _ rfl rfl rfl (by omega) (by omega)).drew)
  have HPut := Lib.hid (put_any (W.heap.size + 1) (some ⟨W.heap.size, 0, none⟩) 1 1 [k] n (n : Int) 2 rfl (by omega) _ HSk.out (by simp) (by omega))
  have wn : IntKind.u64.wrap (n : Int) = (n : Int) := by rw [IntKind.wrap_u64]; omega
  go_cut [] (fun wx => Blk wx h 39 (splice Z.toList 0 (P.map byteV)).toArray ∧ Below w.heap.size w wx)
  case first =>
   go_region_law (first
     | (go_simp; go_at_call 14; refine HPut.out.mono ?_; rintro e w2 ⟨v2, rfl, hf⟩; rw [HPE.out] at hf
        obtain ⟨A1, c1, rfl, hs2⟩ := hf.sl
        obtain ⟨_, _, _, _, hb2⟩ := hf
        rw [HPL.out] at hs2 ⊢
        have HS2 := Lib.hid hs2
        have HB2 := Lib.hid (show Blk w2 h 39 Z from ((HB0.out.alloc _).drew).below hb2 (by have := HW.out; simp; omega))
        have HL2 := Lib.hid (show Below w.heap.size w w2 from ((HL0.out.alloc HL0.out.size _).drew).trans (hb2.mono (by have := HL0.out.size; simp; omega)))
        clear hs2 hb2)
     | (refine step_copy_splice rfl (.tmp 16) (.tmp 22) _ _ rfl 5 Tryd.underlying22 (by kernel_rfl) (some ⟨h, 0, none⟩) A1 512 512 3 c1 rfl rfl h 0 Z.toList 39 (by rw [Array.toArray_toList]; exact HB2.out) (P.map byteV) (by rw [List.length_map, HPL.out]; rfl) (fun _ => ⟨rfl, by obtain ⟨ad, e, _, hc⟩ := HS2.out.rd.2 (by omega); exact ⟨ad, e, hc⟩⟩) (by rw [List.length_map, HPL.out, HZl.out]; omega) (byteV_one_ P) w.heap.size w HL2.out HH.out ?_
        intro w3 hg3 hb3
        have HB3 := Lib.hid hb3
        clear hb3))
   all_goals
     go_wp2_with fail
     go_meet
     case rel => exact ⟨hg3.out, HB3.out⟩
  case rest =>
    obtain ⟨B3, L3⟩ := hcut
    have hr3 := HR.out.below' L3 hB
    have HR3 := Lib.hid hr3
    have HB3 := Lib.hid B3
    have HL3 := Lib.hid L3
    have hsrc : 0 < (bs.map byteV).length → ∃ ad, A = some ad ∧ ∀ j v, (bs.map byteV)[j]? = some v → wc.cell? (ad.add j) = some v := by
      intro hpos
      obtain ⟨ad, e, _, hc⟩ := hr3.rd.2 (by rw [List.length_map, hr3.lenB] at hpos; exact hpos)
      exact ⟨ad, e, hc⟩
    have HSRC := Lib.hid hsrc
    have HN := Lib.hid hr3.lenB
    clear B3 L3 hr3 hsrc wn
    go_wp2_with (refine wpList_copy_splice (o := ⟨some 26, _, _, _, _, _⟩) rfl (.tmp 24) (.tmp 25) _ _ rfl 5 Tryd.underlying22 (by kernel_rfl) (some ⟨h, 3, none⟩) A 509 509 n c rfl rfl h 3 (splice Z.toList 0 (P.map byteV)) 39 HB3.out (bs.map byteV) (by rw [List.length_map, HN.out]; exact (Nat.min_eq_left (by omega)).symm) (fun hp => ⟨rfl, HSRC.out hp⟩) (by rw [length_splice _ _ _ (by rw [List.length_map, HPL.out, HZl.out]; omega), List.length_map, HN.out, HZl.out]; omega) (byteV_one_ bs) w.heap.size w HL3.out HH.out ?_
                 intro w4 hg4 hb4)
    have hlr : bs.length ≤ 505 := by rw [HN.out]; omega
    have hB4 : Blk w4 h 39 (bytesA (stage k bs 0)) := by
      have := hg4.out
      rw [← HZ.out, laid_row (P := P) (k := k) hlr (by rw [HN.out]; exact HP.out) HPL.out] at this
      exact this
    have HLR := Lib.hid hlr
    have HB4 := Lib.hid hB4
    have HL4 := Lib.hid hb4
    clear hg4 hb4 hlr hB4 HB3 HL3 HSRC HR3 HSk HPut HPE
    have hs4 := (HB4.out.sl (n := 512) (c := 512) (stage_len HLR.out (by omega)).symm (Nat.le_refl _) (by omega)).take_ (k := 508) (by omega)
    simp only [Nat.mul_one, ← List.map_take, stage_take HLR.out] at hs4
    refine (crcSum_any (h + 1) (some ⟨h, 0, none⟩) 508 512 (Blo.pre k bs) _ hs4).mono ?_
    rintro e w5 ⟨rfl, rfl⟩
    obtain ⟨s, hs⟩ : ∃ s, Crc.sum (Blo.pre k bs) = s := ⟨_, rfl⟩
    rw [hs]
    have HS := Lib.hid hs
    clear hs hs4
    go_wp2_with fail
    go_loopw [31] (fun i wr => ∃ j : Nat, j ≤ 4 ∧ i = .int .i64 j ∧ Blk wr h 39 (bytesA (stage k bs j)) ∧ Below w.heap.size w wr) (fun i _ => 4 - (intOf i).toNat)
    case atStart => exact ⟨0, by omega, rfl, HB4.out, HL4.out⟩
    case round =>
      obtain ⟨j, hj, rfl, hB, hL⟩ := hrel
      by_cases hlt : j < 4
      · have hat : (stage k bs j)[508 + j]? = some ((stage k bs j)[508 + j]'(by rw [stage_len HLR.out hj]; omega)) := List.getElem?_eq_getElem _
        have hc := hB.byte hat
        have hf := hB.frozen (508 + j)
        have hset := hB.setByte (508 + j) (Crc.byteOf s j)
        rw [← HS.out, stage_set HLR.out hlt, HS.out] at hset
        have hbv : (s.toNat : Int) / 2 ^ (8 * j) % 256 = ((Crc.byteOf s j).toNat : Int) := by
          rw [Crc.byteOf_toNat, Int.natCast_emod, Int.natCast_ediv, Int.natCast_pow]; rfl
        have HSET := Lib.hid hset
        have HL := Lib.hid (hL.setCell (p := ⟨h, 508 + j, none⟩) HH.out (.int .u8 ((Crc.byteOf s j).toNat : Int)))
        have hs32 := s.isLt
        clear hat hset hB hL
        go_wp2_with fail
        go_roundw
        case rel => exact ⟨j + 1, by omega, by go_num, HSET.out, HL.out⟩
        case measure => simp [intOf]; omega
      · obtain rfl : j = 4 := by omega
        have HB := Lib.hid hB
        have HL := Lib.hid hL
        clear hB hL
        go_wp2_with fail
        go_ret2
        refine ⟨_, rfl, .inr ⟨h, 39, ?_, ?_, HH.out, HL.out⟩⟩
        · simp only
          rw [Blo.blk_len HLR.out]
          rfl
        · have := HB.out
          rw [stage_all] at this
          exact this

theorem seal_any (B : Nat) (A : Option Addr) (n c : Nat) (bs : List UInt8) (k : UInt8) (w : World) (hr : Sl w B 1 A n c (bs.map byteV)) (hB : B ≤ w.heap.size) :
    Calls Tryd.prog 9 #[.int .u8 (k.toNat : Int), .slice A n c] w (SealTo w (Blo.box k bs)) := by
  have hl := hr.lenB
  have hnc := hr.nc
  have hcm := hr.cm
  unfold Blo.box
  by_cases hk : k = 0
  · subst hk
    rw [if_pos rfl]
    show Calls _ _ #[.int .u8 0, .slice A n c] w _
    clear hl
    go_enter Tryd.func9, Tryd.ntmps9
    go_wp2_with fail
    go_ret2
    exact ⟨_, rfl, .inl ⟨rfl, rfl, Below.refl _ _⟩⟩
  rw [if_neg hk]
  by_cases hn : 505 < bs.length
  · rw [if_pos hn]
    have hn' : (505 : Int) < (n : Int) := by omega
    have hkk : ((k.toNat : Int) == 0) = false := by
      simp
      intro h
      exact hk (UInt8.toNat_inj.1 h)
    clear hk hl hn
    go_enter Tryd.func9, Tryd.ntmps9
    go_wp2_with fail
    go_ret2
    exact ⟨_, rfl, .inl ⟨rfl, rfl, Below.refl _ _⟩⟩
  · rw [if_neg hn]
    exact seal_good B A n c bs k w hr hB hk (by omega)

/-! ### By the document -/
def SealRef (w : World) (r : List UInt8 × Int) (e : Ending) (w' : World) : Prop := ∃ v, e = .returned (pairV v r.2) ∧ Fresh 5 w r.1 v w'

end Go.Proofs.YtbfcfhfnkpklkaaDoor

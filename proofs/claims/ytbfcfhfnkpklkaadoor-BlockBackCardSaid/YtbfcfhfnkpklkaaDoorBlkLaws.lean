/-
  BlockSeals, BlockOpens, BlockEnds, walked.
-/
import Derived.Test.YtbfcfhfnkpklkaaDoorBlkWorks
namespace Go.Proofs.YtbfcfhfnkpklkaaDoor
open Go.RowKit Go.Gab
set_option linter.unusedVariables false
attribute [local go_sem ↓] Go.wp_at_zero Go.wp_at_succ

theorem u8_of_wf {z : Int} (h : (Lit.int .u8 z).wf = true) : ∃ k : UInt8, z = (k.toNat : Int) := by
  have h2 : 0 ≤ z ∧ z ≤ 255 := by
    simp [Lit.wf, IntKind.min, IntKind.max, IntKind.signed, IntKind.bits] at h
    simpa using h
  refine ⟨UInt8.ofNat z.toNat, ?_⟩
  simp; omega
theorem i8_of_wf {z : Int} (h : (Lit.int .i8 z).wf = true) : -128 ≤ z ∧ z ≤ 127 := by
  simp [Lit.wf, IntKind.min, IntKind.max, IntKind.signed, IntKind.bits] at h
  simpa using h

/-- Where a row lies that is younger than another one. -/
theorem own_apart {w : World} {base : Nat} {t8 : TypeId} {A : Option Addr} {n c : Nat} {xs : List Value} (h : w.ownsRow base t8 1 (.slice A n c) n xs) {B : Option Addr} {m : Nat} (hB : ∀ a, B = some a → m ≤ a.block) (hm : w.heap.size ≤ m) :
    ∀ a, B = some a → some a.block ≠ (Value.slice A n c).ownBlock := by
  intro a ha he
  have h1 := (h.lt a.block he.symm).2
  have h2 := hB a ha
  omega

/-- Of what is old nothing lies in a row of the call's own. -/
theorem old_apart {w : World} {base : Nat} {t8 : TypeId} {A : Option Addr} {n c : Nat} {xs : List Value} (h : w.ownsRow base t8 1 (.slice A n c) n xs) {w0 : World} {size m d : Nat} {B : Option Addr} {ys : List Value} (hs : Sl w0 base size B m d ys) (hm : 0 < m) :
    ∀ a, B = some a → some a.block ≠ (Value.slice A n c).ownBlock := by
  intro a ha he
  have h1 := (h.lt a.block he.symm).1
  obtain ⟨ad, e, hb, _⟩ := hs.rd.2 hm
  rw [ha] at e
  cases e
  omega

set_option maxHeartbeats 2000000 in
set_option maxRecDepth 10000 in
theorem blockSeals_walk (W : World) {z : Int} (hz : (Lit.int .u8 z).wf = true) {A : Option Addr} {n c : Nat} {bs : List UInt8} (hr : Sl W W.heap.size 1 A n c (bs.map byteV)) :
    Calls Tryd.prog 3 #[.int .u8 z, .slice A n c] W fun e w' => e = .returned (.bool true) ∧ Below W.heap.size W w' := by
  obtain ⟨k, rfl⟩ := u8_of_wf hz
  clear hz
  have hnc := hr.nc
  have hcm := hr.cm
  by_cases hv : (2000 : Int) < n
  · go_enter Tryd.func3, Tryd.ntmps3
    go_wp2_with fail
    refine (works04_any _).mono ?_
    rintro e w1 ⟨rfl, hb1⟩
    go_wp2_with fail
    go_ret
    exact ⟨rfl, hb1⟩
  have hv1 : (n : Int) ≤ 2000 := by omega
  clear hv
  have HLN := Lib.hid hr.lenB
  have HR := Lib.hid hr
  clear hr
  obtain ⟨⟨r1, r2⟩, hbox⟩ : ∃ r, Blo.box k bs = r := ⟨_, rfl⟩
  have HBX := Lib.hid hbox
  have HRL := Lib.hid (show r1.length ≤ 1000 by
    have h := congrArg Prod.fst hbox
    simp only at h
    rw [← h]
    unfold Blo.box
    split
    · simp
    · split
      · simp
      · rw [Blo.blk_len (by omega)]; omega)
  clear hbox
  go_enter Tryd.func3, Tryd.ntmps3
  go_wp2_with fail
  refine (copied04_any W.heap.size A n c bs _ HR.out (Nat.le_refl _) (by omega)).mono ?_
  rintro e w1 ⟨v1, rfl, hf⟩
  obtain ⟨A1, c1, rfl, ho1, hs1, hb1⟩ := Fresh.apart hf
  rw [HLN.out] at ho1 hs1 ⊢
  have HO1 := Lib.hid ho1
  have HS1 := Lib.hid hs1
  have HB1 := Lib.hid hb1
  clear hf ho1 hs1 hb1
  go_wp2_with fail
  refine (seal_any w1.heap.size A1 n c1 bs k _ HS1.out (Nat.le_refl _)).mono ?_
  rintro e w2 ⟨v2, rfl, ho⟩
  rw [HBX.out] at ho ⊢
  obtain ⟨A2, c2, rfl, hs2, hb2, ha2⟩ := ho.sl (by have := HRL.out; simp only; omega)
  simp only at hs2 ⊢
  have hr2 := (HR.out.below HB1.out).below (hb2.mono HB1.out.size)
  have kz := run_string_of Tryd.underlying22 Tryd.underlying5 Tryd.underlying9 (HS1.out.below hb2)
  have kw := run_string_of Tryd.underlying22 Tryd.underlying5 Tryd.underlying9 hr2
  have HO2 := Lib.hid (ownsRow_below HO1.out hb2)
  have HS2 := Lib.hid hs2
  have HA2 := Lib.hid ha2
  have HW12 := Lib.hid hb2.size
  have HB2 := Lib.hid (HB1.out.trans (hb2.mono HB1.out.size))
  have hn64 : n ≤ 9223372036854775807 := by omega
  clear ho hs2 ha2 hb2 hr2 HS1
  unfold pairV
  go_wp2_with fail
  clear kz kw
  refine (turned_any W.heap.size A1 n c1 bs _ HO2.out hn64).mono ?_
  rintro e w3 ⟨rfl, hg3⟩
  have HS3 := Lib.hid ((Sl.apart HS2.out hg3 (Nat.le_refl _) (fun a ha he => by
    have h1 := HA2.out a ha
    have h2 := (HO1.out.lt a.block he.symm).2
    omega)).more hg3.size)
  have HB3 := Lib.hid (HB2.out.grown hg3 HB2.out.size (fun q hq => (HO2.out.lt q hq).1))
  clear hg3
  go_wp2_with fail
  refine (refSeal_any w3.heap.size A n c bs k _ ((HR.out.below HB3.out).more HB3.out.size) (Nat.le_refl _)).mono ?_
  rintro e w4 ⟨v4, rfl, hf⟩
  rw [HBX.out] at hf ⊢
  obtain ⟨A4, c4, rfl, hs4⟩ := hf.sl
  have hb4 := Fresh_bel hf
  simp only at hs4 ⊢
  have kz := run_string_of Tryd.underlying22 Tryd.underlying5 Tryd.underlying9 (HS3.out.below hb4)
  have kw := run_string_of Tryd.underlying22 Tryd.underlying5 Tryd.underlying9 hs4
  have HB4 := Lib.hid (HB3.out.trans (hb4.mono HB3.out.size))
  clear hf hs4 hb4
  unfold pairV
  go_wp2_with fail
  refine (works04_any _).mono ?_
  rintro e w5 ⟨rfl, hb5⟩
  have HB5 := Lib.hid (HB4.out.trans (hb5.mono HB4.out.size))
  clear hb5 kz kw
  go_wp2_with fail
  go_ret
  exact ⟨rfl, HB5.out⟩

theorem opens_short (bs : List UInt8) : (Blo.opens bs).2.1.length ≤ 1000 ∨ 1000 < bs.length := by
  unfold Blo.opens
  split
  · rename_i hw
    split
    · left
      unfold Blo.whole at hw
      simp only [Bool.and_eq_true, decide_eq_true_eq] at hw
      simp only [Blo.body, List.length_take, List.length_drop]
      omega
    · left; simp
  · left; simp

set_option maxHeartbeats 2000000 in
set_option maxRecDepth 10000 in
theorem blockOpens_walk (W : World) {A : Option Addr} {n c : Nat} {bs : List UInt8} (hr : Sl W W.heap.size 1 A n c (bs.map byteV)) :
    Calls Tryd.prog 4 #[.slice A n c] W fun e w' => e = .returned (.bool true) ∧ Below W.heap.size W w' := by
  have hnc := hr.nc
  have hcm := hr.cm
  by_cases hv : (2000 : Int) < n
  · go_enter Tryd.func4, Tryd.ntmps4
    go_wp2_with fail
    refine (works04_any _).mono ?_
    rintro e w1 ⟨rfl, hb1⟩
    go_wp2_with fail
    go_ret
    exact ⟨rfl, hb1⟩
  have hv1 : (n : Int) ≤ 2000 := by omega
  clear hv
  have HLN := Lib.hid hr.lenB
  have HR := Lib.hid hr
  clear hr
  obtain ⟨⟨r1, r2, r3⟩, hbox⟩ : ∃ r, Blo.opens bs = r := ⟨_, rfl⟩
  have HBX := Lib.hid hbox
  clear hbox
  go_enter Tryd.func4, Tryd.ntmps4
  go_wp2_with fail
  refine (copied04_any W.heap.size A n c bs _ HR.out (Nat.le_refl _) (by omega)).mono ?_
  rintro e w1 ⟨v1, rfl, hf⟩
  obtain ⟨A1, c1, rfl, ho1, hs1, hb1⟩ := Fresh.apart hf
  rw [HLN.out] at ho1 hs1 ⊢
  have HO1 := Lib.hid ho1
  have HS1 := Lib.hid hs1
  have HB1 := Lib.hid hb1
  clear hf ho1 hs1 hb1
  go_wp2_with fail
  refine (open_any w1.heap.size A1 n c1 bs _ HS1.out (Nat.le_refl _)).mono ?_
  rintro e w2 ⟨v2, rfl, ho⟩
  rw [HBX.out] at ho ⊢
  obtain ⟨A2, c2, rfl, ho2, hs2, hb2⟩ := Fresh.apart ho
  simp only at ho2 hs2 ⊢
  have hr2 := (HR.out.below HB1.out).below (hb2.mono HB1.out.size)
  have kz := run_string_of Tryd.underlying22 Tryd.underlying5 Tryd.underlying9 (HS1.out.below hb2)
  have kw := run_string_of Tryd.underlying22 Tryd.underlying5 Tryd.underlying9 hr2
  have HO2 := Lib.hid (ownsRow_below HO1.out hb2)
  have HS2 := Lib.hid hs2
  have HP2 := Lib.hid ho2
  have HW12 := Lib.hid hb2.size
  have HB2 := Lib.hid (HB1.out.trans (hb2.mono HB1.out.size))
  have hn64 : n ≤ 9223372036854775807 := by omega
  clear ho hs2 ho2 hb2 hr2 HS1
  go_wp2_with fail
  clear kz kw
  refine (turned_any W.heap.size A1 n c1 bs _ HO2.out hn64).mono ?_
  rintro e w3 ⟨rfl, hg3⟩
  have HS3 := Lib.hid (Sl.of_own (HP2.out.kept hg3 (by
    rcases hob : (Value.slice A2 r2.length c2).ownBlock with _ | g
    · exact .inl rfl
    · refine .inr fun he => ?_
      have h1 := (HP2.out.lt g hob).1
      have h2 := (HO1.out.lt g he.symm).2
      omega)))
  have HB3 := Lib.hid (HB2.out.grown hg3 HB2.out.size (fun q hq => (HO2.out.lt q hq).1))
  clear hg3
  go_wp2_with fail
  refine (refOpen_any w3.heap.size A n c bs _ ((HR.out.below HB3.out).more HB3.out.size) (Nat.le_refl _)).mono ?_
  rintro e w4 ⟨v4, rfl, hf⟩
  rw [HBX.out] at hf ⊢
  obtain ⟨A4, c4, rfl, hs4⟩ := hf.sl
  have hb4 := Fresh_bel hf
  simp only at hs4 ⊢
  have kz := run_string_of Tryd.underlying22 Tryd.underlying5 Tryd.underlying9 (HS3.out.below hb4)
  have kw := run_string_of Tryd.underlying22 Tryd.underlying5 Tryd.underlying9 hs4
  have HB4 := Lib.hid (HB3.out.trans (hb4.mono HB3.out.size))
  clear hf hs4 hb4
  go_wp2_with fail
  refine (works04_any _).mono ?_
  rintro e w5 ⟨rfl, hb5⟩
  have HB5 := Lib.hid (HB4.out.trans (hb5.mono HB4.out.size))
  clear hb5 kz kw
  go_wp2_with fail
  go_ret
  exact ⟨rfl, HB5.out⟩

theorem or_one (k : UInt8) : bits .or .u8 (k.toNat : Int) 1 = ((k ||| 1).toNat : Int) ∧ k ||| 1 ≠ 0 := by
  have hk := k.toNat_lt
  constructor
  · have h := u8_or_nat k.toNat 1 (by omega) (by omega)
    rw [show ((1 : Nat) : Int) = 1 from rfl] at h
    rw [h]
    simp
  · intro h
    have h2 := congrArg UInt8.toNat h
    simp at h2

set_option maxHeartbeats 2000000 in
set_option maxRecDepth 10000 in
theorem blockEnds_walk (W : World) {z y : Int} (hz : (Lit.int .u8 z).wf = true) (hy : (Lit.int .i8 y).wf = true) :
    Calls Tryd.prog 6 #[.int .u8 z, .int .i8 y] W fun e w' => e = .returned (.bool true) ∧ Below W.heap.size W w' := by
  obtain ⟨k, rfl⟩ := u8_of_wf hz
  obtain ⟨hy1, hy2⟩ := i8_of_wf hy
  clear hz hy
  obtain ⟨hor, hk⟩ := or_one k
  obtain ⟨i0, hi0, hz0, hz1, hz2⟩ := info_parts info8
  obtain ⟨m, hm⟩ : ∃ m : Nat, 505 + y = (m : Int) := ⟨(505 + y).toNat, by omega⟩
  have hmm := fun w => run_make_bytes (P := Tryd.prog) Tryd.underlying22 hi0 hz0 hz1 hz2 m (by omega) w
  have hml : m ≤ 632 := by omega
  have HK := Lib.hid hk
  clear hk
  generalize k ||| 1 = k1 at hor HK
  generalize hZ : List.replicate m (0 : UInt8) = Z at hmm
  have HZ := Lib.hid hZ
  have HZl := Lib.hid (show Z.length = m by rw [← hZ, List.length_replicate])
  clear hZ
  go_enter Tryd.func6, Tryd.ntmps6
  go_wp2_with fail
  clear hmm
  have l0 : Below W.heap.size W (W.alloc (.cells (bytesA Z) 5)) := (Below.refl _ _).alloc (Nat.le_refl _) _
  have hs0 : Sl (W.alloc (.cells (bytesA Z) 5)) (W.heap.size + 1) 1 (some ⟨W.heap.size, 0, none⟩) m m (Z.map byteV) := Sl.lit (k := m) (cap := m) W _ _ _ _ _ rfl (by unfold bytesA; rw [List.toList_toArray]) (by rw [List.length_map, HZl.out, Nat.mul_one]) (by omega) (by omega)
  have hz0' : W.heap.size + 1 ≤ (W.alloc (.cells (bytesA Z) 5)).heap.size := by simp
  generalize W.alloc (.cells (bytesA Z) 5) = W1 at l0 hs0 hz0' ⊢
  have HL0 := Lib.hid l0
  have HM := Lib.hid hm
  refine (seal_any (W.heap.size + 1) (some ⟨W.heap.size, 0, none⟩) m m Z k1 _ hs0 hz0').mono ?_
  rintro e w1 ⟨v1, rfl, ho⟩
  clear hs0 hz0' l0
  by_cases hpos : 0 < y
  · rw [show Blo.box k1 Z = ([], 6) by unfold Blo.box; rw [if_neg HK.out, if_pos (by rw [HZl.out]; omega)]] at ho ⊢
    obtain ⟨A1, c1, rfl, _, hb1, _⟩ := ho.sl (by simp)
    have HB1 := Lib.hid (HL0.out.trans (hb1.mono HL0.out.size))
    clear ho hb1 hm
    unfold pairV
    go_wp2_with fail
    refine (works04_any _).mono ?_
    rintro e w5 ⟨rfl, hb5⟩
    have HB5 := Lib.hid (HB1.out.trans (hb5.mono HB1.out.size))
    clear hb5
    go_wp2_with fail
    go_ret
    exact ⟨rfl, HB5.out⟩
  · have hm5 : m ≤ 505 := by omega
    have hle : y ≤ 0 := by omega
    rw [show Blo.box k1 Z = (Blo.blk k1 Z, 0) by unfold Blo.box; rw [if_neg HK.out, if_neg (by rw [HZl.out]; omega)]] at ho ⊢
    obtain ⟨X, hX⟩ : ∃ X, Blo.blk k1 Z = X := ⟨_, rfl⟩
    have HXl := Lib.hid (show X.length = 512 by rw [← hX]; exact Blo.blk_len (by rw [HZl.out]; exact hm5))
    have HXo := Lib.hid (show Blo.opens X = (k1, Z, 0) by rw [← hX]; exact Blo.opens_blk HK.out (by rw [HZl.out]; exact hm5))
    rw [hX] at ho
    obtain ⟨A1, c1, rfl, hs1, hb1, _⟩ := ho.sl (by simp only [HXl.out]; omega)
    simp only [HXl.out] at hs1 ⊢
    have HS1 := Lib.hid hs1
    have HB1 := Lib.hid (HL0.out.trans (hb1.mono HL0.out.size))
    clear ho hb1 hm hX hs1 hpos
    unfold pairV
    go_wp2_with fail
    refine (open_any w1.heap.size A1 512 c1 X _ HS1.out (Nat.le_refl _)).mono ?_
    rintro e w2 ⟨v2, rfl, hf⟩
    rw [HXo.out] at hf ⊢
    have hb2 := Fresh_bel hf
    obtain ⟨A2, c2, rfl, _⟩ := hf.sl
    simp only [HZl.out]
    have HB2 := Lib.hid (HB1.out.trans (hb2.mono HB1.out.size))
    clear hf hb2
    go_wp2_with fail
    refine (works04_any _).mono ?_
    rintro e w5 ⟨rfl, hb5⟩
    have HB5 := Lib.hid (HB2.out.trans (hb5.mono HB2.out.size))
    clear hb5
    go_wp2_with fail
    go_ret
    exact ⟨rfl, HB5.out⟩

end Go.Proofs.YtbfcfhfnkpklkaaDoor

/-
  BlockBack, walked.
-/
import Derived.Test.YtbfcfhfnkpklkaaDoorBlkLaws
namespace Go.Proofs.YtbfcfhfnkpklkaaDoor
open Go.RowKit Go.Gab
set_option linter.unusedVariables false
attribute [local go_sem ↓] Go.wp_at_zero Go.wp_at_succ

theorem u32_of_wf' {z : Int} (h : (Lit.int .u32 z).wf = true) : ∃ s : BitVec 32, z = (s.toNat : Int) := by
  have h2 : 0 ≤ z ∧ z ≤ 4294967295 := by
    simp [Lit.wf, IntKind.min, IntKind.max, IntKind.signed, IntKind.bits] at h
    simpa using h
  refine ⟨BitVec.ofNat 32 z.toNat, ?_⟩
  rw [BitVec.toNat_ofNat, Nat.mod_eq_of_lt (by omega)]
  omega
theorem u16_of_wf {z : Int} (h : (Lit.int .u16 z).wf = true) : ∃ s : Nat, s < 65536 ∧ z = (s : Int) := by
  have h2 : 0 ≤ z ∧ z ≤ 65535 := by
    simp [Lit.wf, IntKind.min, IntKind.max, IntKind.signed, IntKind.bits] at h
    simpa using h
  exact ⟨z.toNat, by omega, by omega⟩
theorem u32_bit (v : BitVec 32) (k : Nat) (hk : k < 32) : (bits .and .u32 ((v.toNat : Int) / 2 ^ k) 1 == 1) = v.getLsbD k := by
  have hv := v.isLt
  have h0 : ((v.toNat : Int) / 2 ^ k) = ((v.toNat / 2 ^ k : Nat) : Int) := by rw [Int.natCast_ediv]; simp
  have hlt : v.toNat / 2 ^ k < 4294967296 := Nat.lt_of_le_of_lt (Nat.div_le_self _ _) hv
  have h1 := u32_and_nat (v.toNat / 2 ^ k) 1 hlt (by omega)
  rw [show ((1 : Nat) : Int) = 1 from rfl] at h1
  rw [h0, h1, Nat.and_one_is_mod, BitVec.getLsbD, Nat.testBit_eq_decide_div_mod_eq]
  generalize v.toNat / 2 ^ k % 2 = m
  by_cases h : m = 1
  · subst h; rfl
  · have : ¬ (m : Int) = 1 := by omega
    simp only [h, decide_false]
    exact beq_eq_false_iff_ne.2 this
theorem u8_flip (v : UInt8) (j : Nat) (hj : j < 8) : bits .xor .u8 (v.toNat : Int) (2 ^ j % 256) = ((v ^^^ (1 <<< (UInt8.ofNat j))).toNat : Int) := by
  have e : ((2 : Int) ^ j % (256 : Int)) = (((1 <<< (UInt8.ofNat j) : UInt8)).toNat : Int) := by
    have : ∀ j : Fin 8, ((2 : Int) ^ j.val % (256 : Int)) = (((1 <<< (UInt8.ofNat j.val) : UInt8)).toNat : Int) := by decide
    exact this ⟨j, hj⟩
  rw [e, u8_xorB]
theorem vec_ne {v : BitVec 32} (h : v ≠ 0#32) : ¬ (v.toNat : Int) = 0 := by
  have h1 : ¬ v.toNat = 0 := fun e => h (BitVec.eq_of_toNat_eq (by simpa using e))
  omega

set_option maxHeartbeats 4000000 in
set_option maxRecDepth 20000 in
theorem blockBack_walk (W : World) {z : Int} (hz : (Lit.int .u8 z).wf = true) {A : Option Addr} {n c : Nat} {bs : List UInt8} (hr : Sl W W.heap.size 1 A n c (bs.map byteV)) {A2 : Option Addr} {n2 c2 : Nat} {raw : List UInt8} (hr2 : Sl W W.heap.size 1 A2 n2 c2 (raw.map byteV))
    {y x : Int} (hy : (Lit.int .u16 y).wf = true) (hx : (Lit.int .u32 x).wf = true) :
    Calls Tryd.prog 5 #[.int .u8 z, .slice A n c, .slice A2 n2 c2, .int .u16 y, .int .u32 x] W fun e w' => e = .returned (.bool true) ∧ Below W.heap.size W w' := by
  obtain ⟨k, rfl⟩ := u8_of_wf hz
  obtain ⟨q, hq, rfl⟩ := u16_of_wf hy
  obtain ⟨v, rfl⟩ := u32_of_wf' hx
  clear hz hy hx
  have hnc := hr.nc
  have hcm := hr.cm
  have hnc2 := hr2.nc
  have hcm2 := hr2.cm
  by_cases hv : (505 : Int) < n ∨ ((n : Int) ≤ 505 ∧ (2000 : Int) < n2)
  · rcases hv with hv | ⟨hv0, hv⟩
    · have hd : decide ((505 : Int) < (n : Int)) = true := by simpa using hv
      clear hv
      go_enter Tryd.func5, Tryd.ntmps5
      go_wp2_with fail
      refine (works04_any _).mono ?_
      rintro e w1 ⟨rfl, hb1⟩
      go_wp2_with fail
      go_ret
      exact ⟨rfl, hb1⟩
    · have hd : decide ((2000 : Int) < (n2 : Int)) = true := by simpa using hv
      have hd0 : decide ((505 : Int) < (n : Int)) = false := by simpa using hv0
      clear hv hv0
      go_enter Tryd.func5, Tryd.ntmps5
      go_wp2_with fail
      refine (works04_any _).mono ?_
      rintro e w1 ⟨rfl, hb1⟩
      go_wp2_with fail
      go_ret
      exact ⟨rfl, hb1⟩
  have hd1 : decide ((505 : Int) < (n : Int)) = false := by simp; omega
  have hd2 : decide ((2000 : Int) < (n2 : Int)) = false := by simp; omega
  have HN5 := Lib.hid (show n ≤ 505 by omega)
  have HN2 := Lib.hid (show n2 ≤ 2000 by omega)
  clear hv
  have HLN := Lib.hid hr.lenB
  have HLN2 := Lib.hid hr2.lenB
  have HR := Lib.hid hr
  have HR2 := Lib.hid hr2
  clear hr hr2
  obtain ⟨f, hf, hf2⟩ : ∃ f : Nat, (q : Int) % 4065 = (f : Int) ∧ f + 32 ≤ 8 * 512 := ⟨q % 4065, by omega, by omega⟩
  have HF := Lib.hid hf
  have HF2 := Lib.hid hf2
  clear hf hf2
  go_enter Tryd.func5, Tryd.ntmps5
  go_wp2_with fail
  clear hd1 hd2
  refine (seal_any W.heap.size A n c bs k _ HR.out (Nat.le_refl _)).mono ?_
  rintro e w1 ⟨v1, rfl, ho⟩
  unfold pairV
  obtain ⟨⟨r1, r2⟩, hbox⟩ : ∃ r, Blo.box k bs = r := ⟨_, rfl⟩
  rw [hbox] at ho ⊢
  have hb1 : Below W.heap.size W w1 := by
    rcases ho with ⟨_, _, h⟩ | ⟨_, _, _, _, _, h⟩ <;> exact h
  have HB1 := Lib.hid hb1
  clear hb1
  have HBX := Lib.hid hbox
  have HO := Lib.hid ho
  clear hbox ho
  simp only
  go_upto_if 45 with (fail)
  go_cut [] (fun wx => wx = w1)
  case first =>
    by_cases hk : k = 0
    · have h := HBX.out
      unfold Blo.box at h
      rw [if_pos hk] at h
      injection h with h1 h2
      subst h2; subst hk
      clear h1
      go_wp2_with fail
      go_meet
      case rel => rfl
    · have h := HBX.out
      unfold Blo.box at h
      rw [if_neg hk, if_neg (by rw [HLN.out]; have := HN5.out; omega)] at h
      injection h with h1 h2
      subst h2
      have hkk : ((k.toNat : Int) == 0) = false := by
        simp
        intro e
        exact hk (UInt8.toNat_inj.1 e)
      have hkn : ((k.toNat : Int) != 0) = true := by
        simp
        intro e
        exact hk (UInt8.toNat_inj.1 e)
      clear h1 hk
      go_wp2_with fail
      · exfalso
        have h : (!((0 : Int) == 0) == ((k.toNat : Int) != 0)) = true := by assumption
        rw [hkn] at h
        exact absurd h (by decide)
      · go_meet
        case rel => rfl
  case rest =>
    subst hcut
    go_upto_if 47 with (fail)
    go_cut [11] (fun x11 wx => Below W.heap.size W wx)
    case first =>
      by_cases hk : k = 0
      · have h := HBX.out
        unfold Blo.box at h
        rw [if_pos hk] at h
        injection h with h1 h2
        subst h2; subst hk
        clear h1
        go_wp2_with fail
        go_meet
        case rel => exact HB1.out
      · have h := HBX.out
        unfold Blo.box at h
        rw [if_neg hk, if_neg (by rw [HLN.out]; have := HN5.out; omega)] at h
        injection h with h1 h2
        subst h2
        have hbl : bs.length ≤ 505 := by rw [HLN.out]; exact HN5.out
        have HX1 := Lib.hid (show r1.length = 512 by rw [← h1]; exact Blo.blk_len hbl)
        have HX2 := Lib.hid (show Blo.opens r1 = (k, bs, 0) by rw [← h1]; exact Blo.opens_blk hk hbl)
        have HX3 := Lib.hid (show (Blo.opens (Crc.turn f v 32 r1)).2.2 = if v = 0#32 then 0 else 9 by rw [← h1]; exact Blo.opens_turn hk hbl f v HF2.out)
        clear h1 hk hbl
        rcases HO.out with ⟨h0, _⟩ | ⟨g, t, rfl, hB, hg, _⟩
        · have := HX1.out
          simp only at h0
          rw [h0] at this
          simp at this
        simp only at hB ⊢
        rw [HX1.out]
        have hsl := (hB.sl (n := 512) (c := 512) HX1.out.symm (Nat.le_refl _) (by omega)).more hB.lt
        have HGG := Lib.hid hg
        have HBK := Lib.hid hB
        clear HO hg hB
        go_wp2_with fail
        refine (open_any wc.heap.size (some ⟨g, 0, none⟩) 512 512 r1 _ hsl (Nat.le_refl _)).mono ?_
        rintro e w2 ⟨v2, rfl, hf⟩
        rw [HX2.out] at hf ⊢
        have hb2 := Fresh_bel hf
        obtain ⟨A3, c3, rfl, hs3⟩ := hf.sl
        simp only [HLN.out] at hs3 ⊢
        have kz := run_string_of Tryd.underlying22 Tryd.underlying5 Tryd.underlying9 hs3
        have kw := run_string_of Tryd.underlying22 Tryd.underlying5 Tryd.underlying9 ((HR.out.below HB1.out).below (hb2.mono HB1.out.size))
        have HB2 := Lib.hid (HB1.out.trans (hb2.mono HB1.out.size))
        have HBK2 := Lib.hid (HBK.out.below hb2 HBK.out.lt)
        have hqf := HF.out
        have hf2 := HF2.out
        clear hf hs3 hb2 hsl HBK
        go_wp2_with fail
        go_loopw [17] (fun i wr => ∃ j : Nat, j ≤ 32 ∧ i = .int .i64 j ∧ Blk wr g t (bytesA (Crc.turn f v j r1)) ∧ Below W.heap.size W wr) (fun i _ => 32 - (intOf i).toNat)
        case atStart => exact ⟨0, by omega, rfl, HBK2.out, HB2.out⟩
        case round =>
          clear kz kw
          obtain ⟨j, hj, rfl, hB, hbel⟩ := hrel
          have htl : (Crc.turn f v j r1).length = 512 := by rw [Crc.length_turn, HX1.out]
          by_cases hk32 : j < 32
          · have hat : (Crc.turn f v j r1)[(f + j) / 8]? = some ((Crc.turn f v j r1)[(f + j) / 8]'(by omega)) := List.getElem?_eq_getElem _
            generalize ((Crc.turn f v j r1)[(f + j) / 8]'(by omega)) = v0 at hat
            have hcell0 := hB.byte hat
            have hfz := hB.frozen ((f + j) / 8)
            have HB := Lib.hid hB
            have HV := Lib.hid hat
            have HL := Lib.hid hbel
            clear hB hat hbel htl
            go_wp2_with fail
            · have ht : (bits .and .u32 ((v.toNat : Int) / 2 ^ j) 1 == 1) = true := by assumption
              rw [u32_bit v j hk32] at ht
              rw [u8_flip v0 ((f + j) % 8) (Nat.mod_lt _ (by omega))]
              go_roundw
              case rel =>
                have h := HB.out.setByte ((f + j) / 8) (v0 ^^^ (1 <<< (UInt8.ofNat ((f + j) % 8))))
                refine ⟨j + 1, by omega, by go_num, ?_, HL.out.setCell HGG.out _⟩
                have e : Crc.turn f v (j + 1) r1 = (Crc.turn f v j r1).set ((f + j) / 8) (v0 ^^^ (1 <<< (UInt8.ofNat ((f + j) % 8)))) := by
                  simp only [Crc.turn, ht, if_true, Crc.flip, List.getD_eq_getElem?_getD, HV.out, Option.getD_some]
                rw [e]
                exact h
              case measure => simp [intOf]; omega
            · have ht : (bits .and .u32 ((v.toNat : Int) / 2 ^ j) 1 == 1) = false := by assumption
              rw [u32_bit v j hk32] at ht
              go_roundw
              case rel =>
                refine ⟨j + 1, by omega, by go_num, ?_, HL.out⟩
                simp only [Crc.turn, ht]
                exact HB.out
              case measure => simp [intOf]; omega
          · obtain rfl : j = 32 := by omega
            have hsl := (hB.sl (n := 512) (c := 512) htl.symm (Nat.le_refl _) (by omega)).more hB.lt
            have HL := Lib.hid hbel
            obtain ⟨⟨o1, o2, o3⟩, hop⟩ : ∃ o, Blo.opens (Crc.turn f v 32 r1) = o := ⟨_, rfl⟩
            have h3 := HX3.out
            rw [hop] at h3
            simp only at h3
            have HOP := Lib.hid hop
            clear hB hbel htl hop
            by_cases hv0 : v = 0#32
            · rw [if_pos hv0] at h3
              subst h3
              have hvz : ((v.toNat : Int) == 0) = true := by rw [hv0]; rfl
              have hvn : ((v.toNat : Int) != 0) = false := by rw [hv0]; rfl
              clear hv0
              go_wp2_with fail
              refine (open_any _ (some ⟨g, 0, none⟩) 512 512 _ _ hsl (Nat.le_refl _)).mono ?_
              rintro e w3 ⟨v3, rfl, hf⟩
              rw [HOP.out]
              have HL3 := Lib.hid (HL.out.trans ((Fresh_bel hf).mono HL.out.size))
              clear hf hsl
              go_wp2_with fail
              go_meet
              case rel => exact HL3.out
            · rw [if_neg hv0] at h3
              subst h3
              have hvz : ((v.toNat : Int) == 0) = false := beq_eq_false_iff_ne.2 (vec_ne hv0)
              have hvn : ((v.toNat : Int) != 0) = true := by simpa using vec_ne hv0
              clear hv0
              go_wp2_with fail
              refine (open_any _ (some ⟨g, 0, none⟩) 512 512 _ _ hsl (Nat.le_refl _)).mono ?_
              rintro e w3 ⟨v3, rfl, hf⟩
              rw [HOP.out]
              have HL3 := Lib.hid (HL.out.trans ((Fresh_bel hf).mono HL.out.size))
              clear hf hsl
              go_wp2_with fail
              go_meet
              case rel => exact HL3.out
    case rest =>
      clear HO HB1
      have HB1 := Lib.hid hcut
      clear hcut
      obtain ⟨⟨o1, o2, o3⟩, hop⟩ : ∃ o, Blo.opens raw = o := ⟨_, rfl⟩
      have HOP := Lib.hid hop
      clear hop
      go_wp2_with fail
      refine (open_any wc.heap.size A2 n2 c2 raw _ ((HR2.out.below HB1.out).more HB1.out.size) (Nat.le_refl _)).mono ?_
      rintro e w2 ⟨v2, rfl, hf⟩
      rw [HOP.out] at hf ⊢
      have hb2 := Fresh_bel hf
      obtain ⟨A3, c3, rfl, hs3⟩ := hf.sl
      have HB2 := Lib.hid (HB1.out.trans (hb2.mono HB1.out.size))
      have HS3 := Lib.hid hs3
      clear hf hb2 hs3
      simp only at HS3
      by_cases h3 : o3 = 0
      · subst h3
        have hbk := Blo.box_of_opens (bs := raw) (by rw [HOP.out])
        rw [HOP.out] at hbk
        simp only at hbk
        have HBK := Lib.hid hbk
        clear hbk
        simp only
        go_wp2_with fail
        refine (seal_any w2.heap.size A3 o2.length c3 o2 o1 _ HS3.out (Nat.le_refl _)).mono ?_
        rintro e w3 ⟨v3, rfl, ho⟩
        rw [HBK.out] at ho ⊢
        obtain ⟨A4, c4, rfl, hs4, hb3, _⟩ := ho.sl (by simp only [HLN2.out]; have := HN2.out; omega)
        simp only [HLN2.out] at hs4 ⊢
        have HB3 := Lib.hid (HB2.out.trans (hb3.mono HB2.out.size))
        have kz := run_string_of Tryd.underlying22 Tryd.underlying5 Tryd.underlying9 hs4
        have kw := run_string_of Tryd.underlying22 Tryd.underlying5 Tryd.underlying9 (HR2.out.below HB3.out)
        clear ho hs4 hb3
        unfold pairV
        go_wp2_with fail
        clear kz kw
        refine (works04_any _).mono ?_
        rintro e w5 ⟨rfl, hb5⟩
        have HB5 := Lib.hid (HB3.out.trans (hb5.mono HB3.out.size))
        clear hb5
        go_wp2_with fail
        go_ret
        exact ⟨rfl, HB5.out⟩
      · have hcase : (o1 = 0 ∧ o2 = []) ∧ (o3 = 9 ∨ o3 = 5) := by
          have h := HOP.out
          unfold Blo.opens at h
          split at h
          · split at h
            · injection h with h1 h
              injection h with h2 h3'
              exact absurd h3'.symm h3
            · injection h with h1 h
              injection h with h2 h3'
              exact ⟨⟨h1.symm, h2.symm⟩, .inr h3'.symm⟩
          · injection h with h1 h
            injection h with h2 h3'
            exact ⟨⟨h1.symm, h2.symm⟩, .inl h3'.symm⟩
        obtain ⟨⟨rfl, rfl⟩, ho3⟩ := hcase
        clear h3
        rcases ho3 with rfl | rfl
        all_goals
          simp only [List.length_nil]
          go_wp2_with fail
          refine (works04_any _).mono ?_
          rintro e w5 ⟨rfl, hb5⟩
          have HB5 := Lib.hid (HB2.out.trans (hb5.mono HB2.out.size))
          clear hb5
          go_wp2_with fail
          go_ret
          exact ⟨rfl, HB5.out⟩

end Go.Proofs.YtbfcfhfnkpklkaaDoor

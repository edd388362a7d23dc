/-
  Layer 4 (block): a block opened, walked.
-/
import Derived.Test.YtbfcfhfnkpklkaaDoorBlkRefSeal
namespace Go.Proofs.YtbfcfhfnkpklkaaDoor
open Go.RowKit Go.Gab
set_option linter.unusedVariables false
attribute [local go_sem ↓] Go.wp_at_zero Go.wp_at_succ

def OpenTo (w : World) (r : UInt8 × List UInt8 × Int) (e : Ending) (w' : World) : Prop := ∃ v, e = .returned (.tuple #[.int .u8 (r.1.toNat : Int), v, .int .i64 r.2.2]) ∧ Fresh 5 w r.2.1 v w'

theorem Fresh_bel {t8 : TypeId} {w w' : World} {bs : List UInt8} {v : Value} (h : Fresh t8 w bs v w') : Below w.heap.size w w' := by
  obtain ⟨A, c, _, _, hb⟩ := h; exact hb

theorem OpenTo.no {w w' : World} {z : Int} (h : Below w.heap.size w w') : OpenTo w (0, [], z) (.returned (.tuple #[.int .u8 0, .slice none 0 0, .int .i64 z])) w' :=
  ⟨_, rfl, none, 0, rfl, World.ownsRow_nil _ _ _ _, h⟩

theorem whole_no {bs : List UInt8} (h : bs.length ≠ 512) : Blo.opens bs = (0, [], 9) := by
  unfold Blo.opens Blo.whole
  simp [h]
theorem whole_wrong {bs : List UInt8} (h : Crc.right bs = false) : Blo.opens bs = (0, [], 9) := by
  unfold Blo.opens Blo.whole
  simp [h]

set_option maxHeartbeats 1000000 in
set_option maxRecDepth 10000 in
theorem open_short (B : Nat) (A : Option Addr) (n c : Nat) (bs : List UInt8) (w : World) (hr : Sl w B 1 A n c (bs.map byteV)) (hn : n ≠ 512) :
    Calls Tryd.prog 12 #[.slice A n c] w (OpenTo w (Blo.opens bs)) := by
  rw [whole_no (by rw [hr.lenB]; exact hn)]
  have hnc := hr.nc
  have hcm := hr.cm
  have hnn : ((n : Int) != 512) = true := by simp; omega
  clear hn
  go_enter Tryd.func12, Tryd.ntmps12
  go_wp2_with fail
  go_ret3
  exact OpenTo.no (Below.refl _ _)

set_option maxHeartbeats 1000000 in
set_option maxRecDepth 10000 in
theorem open_wrong (B : Nat) (A : Option Addr) (c : Nat) (bs : List UInt8) (w : World) (hr : Sl w B 1 A 512 c (bs.map byteV)) (hw : Crc.right bs = false) :
    Calls Tryd.prog 12 #[.slice A 512 c] w (OpenTo w (Blo.opens bs)) := by
  rw [whole_wrong hw]
  have hnc := hr.nc
  have hcm := hr.cm
  have HW := Lib.hid hw
  clear hw
  go_enter Tryd.func12, Tryd.ntmps12
  go_wp2_with fail
  refine (crcRight_any B A 512 c bs _ hr).mono ?_
  rintro e w' ⟨rfl, rfl⟩
  rw [HW.out]
  go_wp2_with fail
  go_ret3
  exact OpenTo.no (Below.refl _ _)

theorem take_12 {bs : List UInt8} (h : bs.length = 512) : Oct.take bs 1 2 = (Blo.len bs, 3, 0) := by
  unfold Oct.take Blo.len
  rw [if_neg (by simp [Oct.size]; omega), if_neg (by omega)]
  rfl
theorem len_lt (bs : List UInt8) : Blo.len bs < 65536 := by
  unfold Blo.len
  have h := Oct.val_lt ((bs.drop 1).take 2)
  have h2 : ((bs.drop 1).take 2).length ≤ 2 := by simp; omega
  exact Nat.lt_of_lt_of_le h (Nat.le_trans (Nat.pow_le_pow_right (by omega) h2) (by decide))

set_option maxHeartbeats 2000000 in
set_option maxRecDepth 10000 in
theorem open_right (B : Nat) (A : Option Addr) (c : Nat) (bs : List UInt8) (w : World) (hr : Sl w B 1 A 512 c (bs.map byteV)) (hB : B ≤ w.heap.size) (hw : Crc.right bs = true) :
    Calls Tryd.prog 12 #[.slice A 512 c] w (OpenTo w (Blo.opens bs)) := by
  have hlen := hr.lenB
  have hwhole : Blo.whole bs = true := by unfold Blo.whole; rw [hw, hlen]; rfl
  have hnc := hr.nc
  have hcm := hr.cm
  obtain ⟨b, off, k, rfl, hbb, hk, hcell, hkl⟩ := hr.byte (k := 0) (by omega)
  rw [Nat.add_zero] at hcell
  have hk0 : bs.getD 0 0 = k := by rw [List.getD, hk]; rfl
  have hlt := len_lt bs
  have HT := Lib.hid (take_12 hlen)
  obtain ⟨n, hn⟩ : ∃ n, Blo.len bs = n := ⟨_, rfl⟩
  rw [hn] at hlt
  have hrest := (hr.cut (k := 3) (by omega)).take_ (k := 505) (by omega)
  rw [if_neg (by omega)] at hrest
  simp only [Nat.mul_one, Option.map_some, Addr.add_mid, ← List.map_drop, ← List.map_take] at hrest
  have HO := Lib.hid (show Blo.opens bs = if Blo.fine bs then (k, Blo.body bs, 0) else (0, [], 5) by unfold Blo.opens; rw [if_pos hwhole, hk0])
  have HF := Lib.hid (show Blo.fine bs = (!(k == 0) && decide (n ≤ 505) && (Blo.spare bs).all (· == 0)) by unfold Blo.fine; rw [hk0, hn])
  have HBD := Lib.hid (show Blo.body bs = (bs.drop 3).take n by unfold Blo.body; rw [hn])
  have HSP := Lib.hid (show Blo.spare bs = ((bs.drop 3).take 505).drop n by unfold Blo.spare; rw [hn, List.drop_take])
  have HW := Lib.hid hw
  have HR := Lib.hid hr
  have HRest := Lib.hid hrest
  have HN := Lib.hid hn
  have HLEN := Lib.hid hlen
  clear hw hwhole hlen hk hk0 hn hrest
  go_enter Tryd.func12, Tryd.ntmps12
  go_wp2_with fail
  refine (crcRight_any B (some ⟨b, off, none⟩) 512 c bs _ HR.out).mono ?_
  rintro e w' ⟨rfl, rfl⟩
  rw [HW.out]
  go_wp2_with fail
  refine (take_any B (some ⟨b, off, none⟩) 512 c bs 1 2 _ HR.out hB (by omega)).mono ?_
  rintro e w1 ⟨rfl, hb1⟩
  rw [HT.out, HN.out]
  unfold takeV
  simp only
  have k1 : w1.cell? ⟨b, off, none⟩ = some (.int .u8 (k.toNat : Int)) := (hb1.cell (p := ⟨b, off, none⟩) (show b < w.heap.size by omega)).trans hcell
  have HB1 := Lib.hid hb1
  clear hcell hb1
  by_cases hz : k = 0
  · subst hz
    replace k1 : w1.cell? ⟨b, off, none⟩ = some (.int .u8 0) := k1
    have HFIN := Lib.hid (show Blo.opens bs = (0, [], 5) by rw [HO.out, HF.out]; simp)
    go_wp2_with fail
    go_ret3
    rw [HFIN.out]
    exact OpenTo.no HB1.out
  have hkk : ((k.toNat : Int) == 0) = false := by
    simp
    intro h
    exact hz (UInt8.toNat_inj.1 h)
  have HZ := Lib.hid hz
  clear hz
  by_cases hn5 : (505 : Int) < (n : Int)
  · have HFIN := Lib.hid (show Blo.opens bs = (0, [], 5) by rw [HO.out, HF.out, show decide (n ≤ 505) = false by simp; omega]; simp)
    go_wp2_with fail
    go_ret3
    rw [HFIN.out]
    exact OpenTo.no HB1.out
  have hn6 : (n : Int) ≤ 505 := by omega
  have hc3 : (c : Int) - 3 ≠ (n : Int) := by omega
  clear hn5
  have hsp := (HRest.out.cut (k := n) (by omega))
  rw [if_neg (by omega)] at hsp
  simp only [Nat.mul_one, Option.map_some, Addr.add_mid, ← List.map_drop] at hsp
  rw [← HSP.out] at hsp
  have HSp := Lib.hid (hsp.below' HB1.out hB)
  have HTk := Lib.hid ((HRest.out.take_ (k := n) (by omega)).below' HB1.out hB)
  clear hsp
  have hn0 : (0 : Int) ≤ (n : Int) := by omega
  go_wp2_with fail
  refine (trim_any B (some ⟨b, off + 3 + n, none⟩) (505 - n) (c - 3 - n) (Blo.spare bs) _ HSp.out).mono ?_
  rintro e w2 ⟨A4, m4, c4, rfl, hm4, rfl⟩
  cases hall : (Blo.spare bs).all (· == 0) with
  | false =>
    rw [hall] at hm4
    replace hm4 : 0 < m4 := by simpa using hm4
    have HFIN := Lib.hid (show Blo.opens bs = (0, [], 5) by rw [HO.out, HF.out, hall]; simp)
    clear hall
    go_wp2_with fail
    go_ret3
    rw [HFIN.out]
    exact OpenTo.no HB1.out
  | true =>
    rw [hall] at hm4
    obtain rfl : m4 = 0 := by simpa using hm4
    clear hm4
    have HFIN := Lib.hid (show Blo.opens bs = (k, (bs.drop 3).take n, 0) by rw [HO.out, HF.out, hall, HBD.out, show decide (n ≤ 505) = true by simp; omega, show (k == 0) = false by simpa using HZ.out]; rfl)
    clear hall
    have htk := HTk.out
    rw [Nat.mul_one, ← List.map_take, List.take_take, Nat.min_eq_left (by omega)] at htk
    have hl3 : ((bs.drop 3).take n).length = n := htk.lenB
    have HL3 := Lib.hid hl3
    have HCl := Lib.hid ((clone_any B (some ⟨b, off + 3, none⟩) n (c - 3) ((bs.drop 3).take n) _ htk.drew (by have := HB1.out.size; simp; omega) (by omega)))
    clear hl3 htk
    have hcap : (n : Int) ≤ ((c - 3 : Nat) : Int) := by omega
    have hcap2 : n ≤ c - 3 := by omega
    go_wp2_with fail
    go_region_held3 (fun w' => w'.cell? ⟨b, off, none⟩ = some (.int .u8 (k.toNat : Int))) (go_keep)
      ((go_at_call 21; refine HCl.out.mono ?_; rintro e w3 ⟨v3, rfl, hf⟩; have k3 : w3.cell? ⟨b, off, none⟩ = some (.int .u8 (k.toNat : Int)) := ((Fresh_bel hf).cell (p := ⟨b, off, none⟩) (show b < w1.heap.size by have := HB1.out.size; omega)).trans k1
        have HF3 := Lib.hid hf
        clear hf))
    go_wp2_with fail
    go_ret3
    rw [HFIN.out]
    exact ⟨_, rfl, Fresh_base HF3.out w HB1.out.drew⟩

theorem open_any (B : Nat) (A : Option Addr) (n c : Nat) (bs : List UInt8) (w : World) (hr : Sl w B 1 A n c (bs.map byteV)) (hB : B ≤ w.heap.size) :
    Calls Tryd.prog 12 #[.slice A n c] w (OpenTo w (Blo.opens bs)) := by
  by_cases hn : n = 512
  · subst hn
    cases hw : Crc.right bs with
    | true => exact open_right B A c bs w hr hB hw
    | false => exact open_wrong B A c bs w hr hw
  · exact open_short B A n c bs w hr hn

end Go.Proofs.YtbfcfhfnkpklkaaDoor

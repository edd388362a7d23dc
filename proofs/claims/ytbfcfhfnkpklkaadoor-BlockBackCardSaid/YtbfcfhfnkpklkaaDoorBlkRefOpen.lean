/-
  Layer 4 (block): a block opened by the document, walked.
-/
import Derived.Test.YtbfcfhfnkpklkaaDoorBlkOpen
import Derived.Deep.QuietTactic
import Derived.BigQuiet
namespace Go.Proofs.YtbfcfhfnkpklkaaDoor
open Go.RowKit Go.Gab
set_option linter.unusedVariables false
attribute [local go_sem ↓] Go.wp_at_zero Go.wp_at_succ

set_option maxHeartbeats 1000000 in
set_option maxRecDepth 10000 in
theorem refOpen_short (B : Nat) (A : Option Addr) (n c : Nat) (bs : List UInt8) (w : World) (hr : Sl w B 1 A n c (bs.map byteV)) (hn : n ≠ 512) :
    Calls Tryd.prog 13 #[.slice A n c] w (OpenTo w (Blo.opens bs)) := by
  rw [whole_no (by rw [hr.lenB]; exact hn)]
  have hnc := hr.nc
  have hcm := hr.cm
  have hnn : ((n : Int) != 512) = true := by simp; omega
  clear hn
  go_enter Tryd.func13, Tryd.ntmps13
  go_wp2_with fail
  go_ret3
  exact OpenTo.no (Below.refl _ _)

set_option maxHeartbeats 1000000 in
set_option maxRecDepth 10000 in
theorem refOpen_wrong (B : Nat) (A : Option Addr) (c : Nat) (bs : List UInt8) (w : World) (hr : Sl w B 1 A 512 c (bs.map byteV)) (hw : Crc.right bs = false) :
    Calls Tryd.prog 13 #[.slice A 512 c] w (OpenTo w (Blo.opens bs)) := by
  rw [whole_wrong hw]
  have hnc := hr.nc
  have hcm := hr.cm
  have HW := Lib.hid hw
  clear hw
  go_enter Tryd.func13, Tryd.ntmps13
  go_wp2_with fail
  refine (refRight_any B A 512 c bs _ hr).mono ?_
  rintro e w' ⟨rfl, q, rfl⟩
  rw [HW.out]
  have HL := Lib.hid (below_drewN (Below.refl w.heap.size w) q)
  generalize w.drewN q = w1 at HL ⊢
  go_wp2_with fail
  go_ret3
  exact OpenTo.no HL.out

theorem len_two {bs : List UInt8} {x y : UInt8} (h1 : bs[1]? = some x) (h2 : bs[2]? = some y) : Blo.len bs = x.toNat * 256 + y.toNat := by
  unfold Blo.len
  match bs, h1, h2 with
  | a :: b :: c :: rest, h1, h2 =>
    simp at h1 h2
    subst h1; subst h2
    simp [Oct.val]

set_option maxHeartbeats 2000000 in
set_option maxRecDepth 10000 in
theorem refOpen_right (B : Nat) (A : Option Addr) (c : Nat) (bs : List UInt8) (w : World) (hr : Sl w B 1 A 512 c (bs.map byteV)) (hB : B ≤ w.heap.size) (hw : Crc.right bs = true) :
    Calls Tryd.prog 13 #[.slice A 512 c] w (OpenTo w (Blo.opens bs)) := by
  have hlen := hr.lenB
  have hwhole : Blo.whole bs = true := by unfold Blo.whole; rw [hw, hlen]; rfl
  have hnc := hr.nc
  have hcm := hr.cm
  obtain ⟨i0, hi0, hz0, hz1, hz2⟩ := info_parts info8
  obtain ⟨b, off, k, rfl, hbb, hk, hcell, hkl⟩ := hr.byte (k := 0) (by omega)
  obtain ⟨_, _, x, hA, _, hx, hcx, hxl⟩ := hr.byte (k := 1) (by omega)
  cases hA
  obtain ⟨_, _, y, hA, _, hy, hcy, hyl⟩ := hr.byte (k := 2) (by omega)
  cases hA
  rw [Nat.add_zero] at hcell
  have hk0 : bs.getD 0 0 = k := by rw [List.getD, hk]; rfl
  have hxy := len_two hx hy
  have HO := Lib.hid (show Blo.opens bs = if Blo.fine bs then (k, Blo.body bs, 0) else (0, [], 5) by unfold Blo.opens; rw [if_pos hwhole, hk0])
  have HI := Lib.hid (fun h => (Blo.fine_iff (bs := bs) hwhole h))
  have HK := Lib.hid hk0
  have HW := Lib.hid hw
  have HLEN := Lib.hid hlen
  have HXY := Lib.hid hxy
  clear hw hwhole hlen hk hk0 hx hy hxy
  go_enter Tryd.func13, Tryd.ntmps13
  go_wp2_with fail
  refine (refRight_any B (some ⟨b, off, none⟩) 512 c bs _ hr).mono ?_
  rintro e w' ⟨rfl, q, rfl⟩
  rw [HW.out]
  have HL := Lib.hid (below_drewN (Below.refl w.heap.size w) q)
  have hr1 := hr.drewN q
  have k0 : (w.drewN q).cell? ⟨b, off, none⟩ = some (.int .u8 (k.toNat : Int)) := hcell
  have k1 : (w.drewN q).cell? ⟨b, off + 1, none⟩ = some (.int .u8 (x.toNat : Int)) := hcx
  have k2 : (w.drewN q).cell? ⟨b, off + 2, none⟩ = some (.int .u8 (y.toNat : Int)) := hcy
  have hz1' : w.heap.size = (w.drewN q).heap.size := rfl
  generalize w.drewN q = w1 at HL hr1 k0 k1 k2 hz1' ⊢
  have HR1 := Lib.hid hr1
  have HZ1 := Lib.hid hz1'
  clear hcell hcx hcy hr1 hr hz1'
  go_wp2_with fail
  go_quiet (fail)
  have HL2 := Lib.hid (below_drewN HL.out nq)
  have HR2 := Lib.hid (HR1.out.drewN nq)
  replace k0 : (w1.drewN nq).cell? ⟨b, off, none⟩ = some (.int .u8 (k.toNat : Int)) := k0
  have hz2' : w.heap.size = (w1.drewN nq).heap.size := HZ1.out
  have HZ2 := Lib.hid hz2'
  clear k1 k2 hz2'
  generalize w1.drewN nq = w2 at HL2 HR2 k0 HZ2 ⊢
  obtain ⟨n, hn⟩ : ∃ n : Nat, x.toNat * 256 + y.toNat = n := ⟨_, rfl⟩
  rw [show (x.toNat : Int) * 256 + (y.toNat : Int) = (n : Int) by omega]
  have HN := Lib.hid (show Blo.len bs = n by rw [HXY.out, hn])
  clear hn
  by_cases hn5 : (505 : Int) < (n : Int)
  · have HFIN := Lib.hid (show Blo.opens bs = (0, [], 5) by rw [HO.out]; unfold Blo.fine; rw [HN.out, show decide (n ≤ 505) = false by simp; omega]; simp)
    go_wp2_with fail
    go_ret3
    rw [HFIN.out]
    exact OpenTo.no HL2.out
  have hn6 : (n : Int) ≤ 505 := by omega
  clear hn5
  have hbd := (HR2.out.cut (k := 3) (by omega)).take_ (k := n) (by omega)
  rw [if_neg (by omega)] at hbd
  simp only [Nat.mul_one, Option.map_some, Addr.add_mid, ← List.map_drop, ← List.map_take] at hbd
  have hb3 : (bs.drop 3).take n = Blo.body bs := by unfold Blo.body; rw [HN.out]
  rw [hb3] at hbd
  have HBD := Lib.hid hbd
  clear hbd hb3
  have hcap : (n : Int) + 3 ≤ (c : Int) := by omega
  have HBE := Lib.hid (show Sl w2 B 1 (some ⟨b, off + 3, none⟩) (3 + n - 3) (c - 3) ((Blo.body bs).map byteV) by rw [Nat.add_sub_cancel_left]; exact HBD.out)
  go_wp2_with (at_builtin
               refine wpList_append_any _ rfl _ _ _ rfl w2.heap.size 5 i0 _ 1 1 Tryd.underlying22 hi0 hz0 hz1 hz2 rfl (by omega) (.slice (some ⟨w2.heap.size, 0, none⟩) 0 0) 0 [] rfl (World.ownsRow_made w2 #[] 0 (Nat.le_refl _) (by simp [maxLen]) rfl) B (some ⟨b, off + 3, none⟩) (3 + n - 3) (c - 3) ((Blo.body bs).map byteV) rfl (HBE.out.alloc (by have := HZ2.out; omega) _).rd (byteV_one_ _) (by simp only [maxLen]; omega) (by omega) (by simp) ?_
               intro v3 w3 hown3 hg3 hat3
               have hb3 : Below w2.heap.size w2 w3 := ((Below.refl _ _).alloc (Nat.le_refl _) _).grown hg3 (by simp) (by simp [Value.ownBlock])
               simp only [Nat.zero_add, List.nil_append, Nat.add_sub_cancel_left] at hown3
               obtain ⟨A3, d3, rfl⟩ := own_slice hown3
               have k3 := (hb3.cell (p := ⟨b, off, none⟩) (show b < w2.heap.size by have := HZ2.out; omega)).trans k0
               have HB3 := Lib.hid hb3
               have HO3 := Lib.hid hown3
               clear hb3 hown3 hg3 hat3)
  refine (refSeal_any w3.heap.size A3 n d3 (Blo.body bs) k _ (Sl.of_own HO3.out) (Nat.le_refl _)).mono ?_
  rintro e w4 ⟨v4, rfl, hf⟩
  have hiff := HI.out (by rw [HN.out]; omega)
  rw [HK.out] at hiff
  obtain ⟨⟨r1, r2⟩, hbox⟩ : ∃ r, Blo.box k (Blo.body bs) = r := ⟨_, rfl⟩
  rw [hbox] at hf hiff ⊢
  obtain ⟨A4, d4, rfl, hs4⟩ := hf.sl
  have hb4 := Fresh_bel hf
  have HB4 := Lib.hid (HL2.out.trans ((HB3.out.trans (hb4.mono HB3.out.size)).mono HL2.out.size))
  have k4 := (hb4.cell (p := ⟨b, off, none⟩) (show b < w3.heap.size by have := HZ2.out; have := HB3.out.size; omega)).trans k3
  have hraw : Sl w4 B 1 (some ⟨b, off, none⟩) 512 c (bs.map byteV) := (HR2.out.below' HB3.out (by have := HZ2.out; omega)).below' hb4 (by have := HZ2.out; have := HB3.out.size; omega)
  have kz := run_string_of Tryd.underlying22 Tryd.underlying5 Tryd.underlying9 hs4
  have kw := run_string_of Tryd.underlying22 Tryd.underlying5 Tryd.underlying9 hraw
  have HO4 := Lib.hid (ownsRow_below HO3.out hb4)
  clear hf hs4 hb4 hraw hbox
  unfold pairV
  simp only
  cases hfine : Blo.fine bs with
  | true =>
    have he := hiff.2 hfine
    injection he with he1 he2
    subst he2
    have HFIN := Lib.hid (show Blo.opens bs = (k, Blo.body bs, 0) by rw [HO.out, hfine]; rfl)
    have HLB := Lib.hid (show (Blo.body bs).length = n from HBD.out.lenB)
    rw [he1] at kz
    rw [he1]
    clear hiff hfine he1
    go_wp2_with fail
    go_ret3
    rw [HFIN.out]
    refine ⟨_, rfl, A3, d3, ?_, ?_, HB4.out⟩
    · simp only
      rw [HLB.out]
      rfl
    · simp only
      rw [HLB.out]
      have ho := HO4.out
      refine ⟨ho.1, ?_⟩
      rcases ho.2 with h1 | ⟨g, cap, cur, h1, h2, h3⟩
      · exact .inl h1
      · exact .inr ⟨g, cap, cur, h1, by have := HZ2.out; omega, h3⟩
  | false =>
    have HFIN := Lib.hid (show Blo.opens bs = (0, [], 5) by rw [HO.out, hfine]; rfl)
    have hne : ¬ (r1 = bs ∧ r2 = 0) := by
      rintro ⟨rfl, rfl⟩
      rw [hiff.1 rfl] at hfine
      cases hfine
    clear hiff hfine
    by_cases h2 : r2 = 0
    · subst h2
      have hr1 : (r1 == bs) = false := by
        simp only [beq_eq_false_iff_ne, ne_eq]
        exact fun h => hne ⟨h, rfl⟩
      clear hne
      go_wp2_with fail
      go_ret3
      rw [HFIN.out]
      exact OpenTo.no HB4.out
    · have h2' : (r2 != 0) = true := by simpa using h2
      clear hne h2
      go_wp2_with fail
      go_ret3
      rw [HFIN.out]
      exact OpenTo.no HB4.out

theorem refOpen_any (B : Nat) (A : Option Addr) (n c : Nat) (bs : List UInt8) (w : World) (hr : Sl w B 1 A n c (bs.map byteV)) (hB : B ≤ w.heap.size) :
    Calls Tryd.prog 13 #[.slice A n c] w (OpenTo w (Blo.opens bs)) := by
  by_cases hn : n = 512
  · subst hn
    cases hw : Crc.right bs with
    | true => exact refOpen_right B A c bs w hr hB hw
    | false => exact refOpen_wrong B A c bs w hr hw
  · exact refOpen_short B A n c bs w hr hn

end Go.Proofs.YtbfcfhfnkpklkaaDoor

/-
  Layer 31 (cascade): how much a bank lacks, walked.
-/
import Derived.Test.YtlkbdmbfbmekaaaCasBank
namespace Go.Proofs.Ytlkbdmbfbmekaaa
open Go.RowKit Go.Gab
set_option linter.unusedVariables false
attribute [local go_sem ↓] Go.wp_at_zero Go.wp_at_succ

/-- An object of banks: its accounts, its dues, who failed. -/
structure Bank (w : World) (g : Nat) (B : Nat) (A : Option Addr) (n c : Nat) (xs : List AcctT) (l : List Cas.Due) (d : Nat → Bool) : Prop where
  obj : Blk w g 84 (bankC (.slice A n c) (Cas.own l) d)
  acc : SlR acctR w B A n c xs
  ok : Cas.Ok (xs.map bal) l
  old : B ≤ g

theorem Bank.n16 {w : World} {g B : Nat} {A : Option Addr} {n c : Nat} {xs : List AcctT} {l : List Cas.Due} {d : Nat → Bool} (h : Bank w g B A n c xs l d) : n ≤ 16 := by
  have := h.ok.n16
  rw [List.length_map, h.acc.len] at this
  exact this

theorem rowSum_bounds {l : List Cas.Due} (h : ∀ d ∈ l, 1 ≤ d.amt) (hg : Cas.gross l ≤ 4503599627370496) (dn : Nat → Bool) (k : Nat) : ∀ j : Nat, j ≤ 16 → -(j : Int) * 4503599627370496 ≤ Cas.rowSum l dn k j ∧ Cas.rowSum l dn k j ≤ (j : Int) * 4503599627370496
  | 0, _ => by simp [Cas.rowSum]
  | j + 1, hj => by
    have ih := rowSum_bounds h hg dn k j (by omega)
    have h1 := Cas.own_bounds h k j
    have h2 := Cas.own_bounds h j k
    rw [Cas.rowSum]
    have : 0 ≤ (if dn j then 0 else Cas.own l j k) ∧ (if dn j then 0 else Cas.own l j k) ≤ 4503599627370496 := by
      split <;> omega
    omega

set_option maxHeartbeats 2000000 in
set_option maxRecDepth 20000 in
theorem lacks_any (g B : Nat) (A : Option Addr) (n c : Nat) (xs : List AcctT) (l : List Cas.Due) (d : Nat → Bool) (k : Nat) (w : World) (hb : Bank w g B A n c xs l d) (hk : k < n) :
    Calls Try.prog 46 #[.pointer (some ⟨g, 0, none⟩), .int .i64 (k : Int)] w fun e w' => e = .returned (.int .i64 (Cas.lack (xs.map bal) l d k)) ∧ w = w' := by
  have hn16 := hb.n16
  have hnc := hb.acc.nc
  have hcm := hb.acc.cm
  have hlen : (xs.map bal).length = n := by rw [List.length_map, hb.acc.len]
  obtain ⟨b, off, x, rfl, hbb, hx, h0, h1, _⟩ := acct_at hb.acc hk
  have hbal := hb.ok.bal x.1 (List.mem_map.2 ⟨x, List.mem_of_getElem? hx, rfl⟩)
  have hgd : (xs.map bal).getD k 0 = x.1 := by rw [List.getD_eq_getElem?_getD, List.getElem?_map, hx]; rfl
  obtain ⟨m, hm⟩ := Int.eq_ofNat_of_zero_le hbal.1
  have hm2 : m ≤ 4503599627370496 := by have := hbal.2; unfold Cas.most at this; omega
  rw [hm] at h0 hgd
  have HLK := Lib.hid (show Cas.lack (xs.map bal) l d k = -(m : Int) + Cas.rowSum l d k n by
    unfold Cas.lack
    rw [hgd, ← hlen, Cas.rowSum_eq (fun e he => by have := hb.ok.due e he; omega)])
  have HOB := Lib.hid hb.obj
  have HAM := Lib.hid (show ∀ e ∈ l, 1 ≤ e.amt from fun e he => (hb.ok.due e he).2.2.2.2.2)
  have HGR := Lib.hid (show Cas.gross l ≤ 4503599627370496 from hb.ok.sum)
  have hc0 := (hb.obj.cell 0).trans (bank_v _ _ _)
  clear hb hbal hgd hlen hx hm h1
  generalize Cas.lack (xs.map bal) l d k = F at HLK ⊢
  go_enter Try.func46, Try.ntmps46
  go_wp2_with fail
  go_loop [5, 21] (fun v i => ∃ (j : Nat) (z : Int), j ≤ n ∧ i = .int .i64 j ∧ v = .int .i64 z ∧ z = -(m : Int) + Cas.rowSum l d k j) (fun _ i => n - (intOf i).toNat)
  case atStart => exact ⟨0, -(m : Int), Nat.zero_le _, rfl, rfl, by simp [Cas.rowSum]⟩
  case round =>
    obtain ⟨j, z, hj, rfl, rfl, hz⟩ := hrel
    by_cases hlt : j < n
    · have hs := rowSum_bounds HAM.out HGR.out d k j (by omega)
      have hz1 : -(j : Int) * 4503599627370496 - 4503599627370496 ≤ z := by omega
      have hz2 : z ≤ (j : Int) * 4503599627370496 := by omega
      have o1 := (HOB.out.cell (1 + k * 16 + j)).trans (bank_o _ _ _ (by omega) (by omega))
      have o2 := (HOB.out.cell (1 + j * 16 + k)).trans (bank_o _ _ _ (by omega) (by omega))
      have o3 := (HOB.out.cell (257 + j)).trans (bank_d _ _ _ (by omega))
      have b1 := Cas.own_bounds HAM.out k j
      have b2 := Cas.own_bounds HAM.out j k
      have hg := HGR.out
      have HSTEP := Lib.hid (show Cas.rowSum l d k (j + 1) = Cas.rowSum l d k j + Cas.own l k j - (if d j then 0 else Cas.own l j k) from rfl)
      have HZ := Lib.hid hz
      obtain ⟨y1, hy1⟩ : ∃ y, Cas.own l k j = y := ⟨_, rfl⟩
      obtain ⟨y2, hy2⟩ : ∃ y, Cas.own l j k = y := ⟨_, rfl⟩
      rw [hy1] at o1 b1
      rw [hy2] at o2 b2
      have HY1 := Lib.hid hy1
      have HY2 := Lib.hid hy2
      have c1 : 0 ≤ y1 := b1.1
      have c2 : y1 ≤ 4503599627370496 := by omega
      have c3 : 0 ≤ y2 := b2.1
      have c4 : y2 ≤ 4503599627370496 := by omega
      clear hz hs b1 b2 hg hy1 hy2
      cases hd : d j with
      | true =>
        rw [hd] at o3
        have HD := Lib.hid hd
        clear hd
        go_wp2_with fail
        go_round
        case rel => exact ⟨j + 1, z + y1, by omega, by go_num, rfl, by rw [HSTEP.out, HD.out, HY1.out]; have := HZ.out; simp; omega⟩
        case measure => simp [intOf]; omega
      | false =>
        rw [hd] at o3
        have HD := Lib.hid hd
        clear hd
        go_wp2_with fail
        go_round
        case rel => exact ⟨j + 1, z + y1 - y2, by omega, by go_num, rfl, by rw [HSTEP.out, HD.out, HY1.out, HY2.out]; have := HZ.out; simp; omega⟩
        case measure => simp [intOf]; omega
    · obtain rfl : j = n := by omega
      have HF := Lib.hid (show z = F by rw [HLK.out]; exact hz)
      clear hz
      go_wp2_with fail
      go_ret
      exact ⟨ret_int HF.out, rfl⟩

end Go.Proofs.Ytlkbdmbfbmekaaa

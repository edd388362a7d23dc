/-
  Layer 4 (block), its small functions walked: bytes trimmed of their leading zeros, and bytes sealed.
-/
import Derived.Test.YtbfcfhfnkpklkaaDoorBlkOct
import Derived.Test.YtbfcfhfnkpklkaaDoorBlkCrc
import Derived.Test.YtbfcfhfnkpklkaaDoorBlkPlain
import Derived.Laws.CopyOwn
import Derived.Deep.RegionHeld3
import Derived.Deep.RegionLaw
import Derived.Deep.DrawnRows
import Derived.Deep.CutBlock
import Derived.Deep.DeepCutAuto
namespace Go.Proofs.YtbfcfhfnkpklkaaDoor
open Go.RowKit Go.Gab
set_option linter.unusedVariables false
attribute [local go_sem ↓] Go.wp_at_zero Go.wp_at_succ

/-- A slice and an error, as a value. -/
def pairV (v : Value) (e : Int) : Value := .tuple #[v, .int .i64 e]

/-! ### Leading zeros -/
/-- What is left: nothing, just where all were 0. -/
def Trimmed (bs : List UInt8) (w : World) (e : Ending) (w' : World) : Prop := ∃ A m c, e = .returned (.slice A m c) ∧ decide ((0 : Int) < ((m : Nat) : Int)) = !bs.all (· == 0) ∧ w = w'

theorem all_drop {bs : List UInt8} {j : Nat} (h : (bs.take j).all (· == 0) = true) : bs.all (· == 0) = (bs.drop j).all (· == 0) := by
  conv => lhs; rw [← List.take_append_drop j bs, List.all_append, h, Bool.true_and]

set_option maxHeartbeats 1000000 in
theorem trimByte_any (B : Nat) (A : Option Addr) (n c : Nat) (bs : List UInt8) (w : World) (hr : Sl w B 1 A n c (bs.map byteV)) :
    Calls Tryd.prog 27 #[.slice A n c, .int .u8 0] w (Trimmed bs w) := by
  go_enter Tryd.func27, Tryd.ntmps27
  go_wp2_with fail
  go_loop [0] (fun v => ∃ (xs : List UInt8) (m d : Nat) (A1 : Option Addr), v = .slice A1 m d ∧ Sl w B 1 A1 m d (xs.map byteV) ∧ bs.all (· == 0) = xs.all (· == 0)) (fun v => match v with | .slice _ m _ => m | _ => 0)
  case atStart => exact ⟨bs, n, c, A, rfl, hr, rfl⟩
  case round =>
    obtain ⟨xs, m, d, A1, rfl, hs, hall⟩ := hrel
    have hnc := hs.nc
    have hcm := hs.cm
    have hl := hs.lenB
    have HALL := Lib.hid hall
    clear hall
    by_cases hm : m = 0
    · subst hm
      obtain rfl : xs = [] := List.eq_nil_of_length_eq_zero hl
      clear hl
      go_wp2_with fail
      go_ret
      exact ⟨none, 0, 0, rfl, by rw [HALL.out]; rfl, rfl⟩
    · obtain ⟨b, off, v, rfl, hb, hv, hcell, hvl⟩ := hs.byte (k := 0) (by omega)
      obtain ⟨m', rfl⟩ : ∃ m', m = m' + 1 := ⟨m - 1, by omega⟩
      obtain ⟨d', rfl⟩ : ∃ d', d = d' + 1 := ⟨d - 1, by omega⟩
      obtain ⟨ys, rfl⟩ : ∃ ys, xs = v :: ys := by
        match xs, hv with
        | x :: ys, hv => simp at hv; exact ⟨ys, by rw [hv]⟩
      clear hv hm hl
      rw [Nat.add_zero] at hcell
      by_cases hz : v = 0
      · subst hz
        have HT := Lib.hid (hs.cut (k := 1) (by omega))
        have HY := Lib.hid (show bs.all (· == 0) = ys.all (· == 0) by rw [HALL.out]; simp)
        clear hs
        replace hcell : w.cell? ⟨b, off, none⟩ = some (.int .u8 0) := hcell
        by_cases hd : d' = 0
        · subst hd
          obtain rfl : m' = 0 := by omega
          go_wp2_with fail
          go_round
          case rel => exact ⟨ys, 0, 0, _, rfl, by simpa using HT.out, HY.out⟩
          case measure => simp
        · go_wp2_with fail
          go_round
          case rel => exact ⟨ys, m', d', _, rfl, by have := HT.out; rw [if_neg (by omega)] at this; simpa [Addr.add_mid] using this, HY.out⟩
          case measure => simp
      · have hzz : ((v.toNat : Int) == 0) = false := by
          simp
          intro h
          exact hz (UInt8.toNat_inj.1 h)
        have HX := Lib.hid (show bs.all (· == 0) = false by rw [HALL.out]; simp [hz])
        clear hz
        go_wp2_with fail
        go_ret
        exact ⟨_, _, _, rfl, by rw [HX.out]; simp, rfl⟩

set_option maxRecDepth 10000 in
theorem trim_any (B : Nat) (A : Option Addr) (n c : Nat) (bs : List UInt8) (w : World) (hr : Sl w B 1 A n c (bs.map byteV)) :
    Calls Tryd.prog 20 #[.slice A n c, .string ⟨#[0]⟩] w (Trimmed bs w) := by
  have hnc := hr.nc
  have hcm := hr.cm
  by_cases hn : n = 0
  · subst hn
    obtain rfl : bs = [] := List.eq_nil_of_length_eq_zero hr.lenB
    go_enter Tryd.func20, Tryd.ntmps20
    go_wp2_with fail
    go_ret
    exact ⟨none, 0, 0, rfl, rfl, rfl⟩
  · have hn0 : ((n : Int) == 0) = false := by simpa using hn
    go_enter Tryd.func20, Tryd.ntmps20
    go_wp2_with (go_at_call 27; refine (trimByte_any B A n c bs _ hr).mono ?_; rintro e w' ⟨A1, m1, c1, rfl, hm1, rfl⟩; have HM := Lib.hid hm1; clear hm1)
    go_ret
    exact ⟨_, _, _, rfl, HM.out, rfl⟩

end Go.Proofs.YtbfcfhfnkpklkaaDoor

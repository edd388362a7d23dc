/-
  Layer 31 (cascade): rows of rows read; two of them compared; is a bank in some row? Walked.
-/
import Derived.Test.YtlkbdmbfbmekaaaCasFalls
import Derived.BigQuiet
namespace Go.Proofs.Ytlkbdmbfbmekaaa
open Go.RowKit Go.Gab
set_option linter.unusedVariables false
attribute [local go_sem ↓] Go.wp_at_zero Go.wp_at_succ

/-- Rows of numbers, read in memory. -/
structure RR (w : World) (A : Option Addr) (rs : List (List Nat)) : Prop where
  len : rs.length ≤ 9223372036854775807
  row : ∀ (i : Nat) (s : List Nat), rs[i]? = some s → s.length ≤ 9223372036854775807 ∧ ∃ b o Ai ci, A = some ⟨b, o, none⟩ ∧ w.cell? ⟨b, o + i, none⟩ = some (.slice Ai s.length ci) ∧
    ∀ (t k : Nat), s[t]? = some k → ∃ bi oi, Ai = some ⟨bi, oi, none⟩ ∧ w.cell? ⟨bi, oi + t, none⟩ = some (.int .i64 (k : Int))

theorem RR.of {w : World} {base : Nat} {A : Option Addr} {c : Nat} {rs : List (List Nat)} {vs : List Value} (ho : w.ownsRow base 47 1 (.slice A rs.length c) rs.length vs) (hr : RowsOf w base vs rs) : RR w A rs := by
  have h1 := Sl.of_own ho
  refine ⟨Nat.le_trans h1.nc h1.cm, fun i s hs => ?_⟩
  obtain ⟨Ai, ci, hv, hi⟩ := hr.2 i s hs
  have h2 := Sl.of_own hi
  have hlt : i < rs.length := (List.getElem?_eq_some_iff.1 hs).1
  obtain ⟨g, cap, hA, _, _⟩ := ho.form (by omega)
  injection hA with hA1 _ hA2
  subst hA1 hA2
  refine ⟨Nat.le_trans h2.nc h2.cm, g, 0, Ai, ci, rfl, ?_, fun t k ht => ?_⟩
  · rw [Nat.zero_add, ho.cellAt i (by omega), hv]
  · have hlt2 : t < s.length := (List.getElem?_eq_some_iff.1 ht).1
    obtain ⟨g2, cap2, hA3, _, _⟩ := hi.form (by omega)
    injection hA3 with hA4 _ hA5
    subst hA4 hA5
    refine ⟨g2, 0, rfl, ?_⟩
    rw [Nat.zero_add, hi.cellAt t (by omega), List.getElem?_map, ht]; rfl

/-- Is a bank in some row? -/
def inRows (rs : List (List Nat)) (k : Nat) : Bool := rs.any fun s => s.contains k

set_option maxHeartbeats 2000000 in
theorem in_any (A : Option Addr) (c : Nat) (rs : List (List Nat)) (k : Nat) (w : World) (hr : RR w A rs) :
    Calls Try.prog 47 #[.slice A rs.length c, .int .i64 (k : Int)] w fun e w' => e = .returned (.bool (inRows rs k)) ∧ w = w' := by
  have HR := Lib.hid hr
  have hlen := hr.len
  obtain ⟨m, hm⟩ : ∃ m, rs.length = m := ⟨_, rfl⟩
  rw [hm] at hlen ⊢
  have HM := Lib.hid hm
  obtain ⟨q, hq⟩ : ∃ q, inRows rs k = q := ⟨_, rfl⟩
  rw [hq]
  have HQ := Lib.hid (show rs.any (fun s => s.contains k) = q from hq)
  clear hr hm hq
  go_enter Try.func47, Try.ntmps47
  go_wp2_with fail
  go_loop [5] (fun i => ∃ j : Nat, j ≤ m ∧ i = .int .i64 j ∧ rs.any (fun s => s.contains k) = (rs.drop j).any (fun s => s.contains k)) (fun i => m - (intOf i).toNat)
  case atStart => exact ⟨0, Nat.zero_le _, rfl, rfl⟩
  case round =>
    obtain ⟨j, hj, rfl, hany⟩ := hrel
    by_cases hlt : j < m
    · obtain ⟨s, hs⟩ : ∃ s, rs[j]? = some s := ⟨_, List.getElem?_eq_getElem (by rw [HM.out]; exact hlt)⟩
      obtain ⟨hsl, b, o, Ai, ci, rfl, hcell, hin⟩ := HR.out.row j s hs
      have hd : (rs.drop j).any (fun s => s.contains k) = (s.contains k || (rs.drop (j + 1)).any (fun s => s.contains k)) := any_drop rs (fun s => s.contains k) hs
      have HANY := Lib.hid (hany.trans hd)
      have HIN := Lib.hid hin
      have HC := Lib.hid (show s.contains k = s.any (fun x => x == k) by
        rw [List.contains_eq_any_beq]
        congr 1
        funext x
        exact Bool.beq_comm)
      obtain ⟨n, hn⟩ : ∃ n, s.length = n := ⟨_, rfl⟩
      rw [hn] at hsl hcell
      have HN := Lib.hid hn
      clear hany hd hin hs hn
      go_wp2_with fail
      go_loop [6] (fun i => ∃ t : Nat, t ≤ n ∧ i = .int .i64 t ∧ s.any (fun x => x == k) = (s.drop t).any (fun x => x == k)) (fun i => n - (intOf i).toNat)
      case atStart => exact ⟨0, Nat.zero_le _, rfl, rfl⟩
      case round =>
        obtain ⟨t, ht, rfl, hany2⟩ := hrel
        by_cases hlt2 : t < n
        · obtain ⟨x, hx⟩ : ∃ x, s[t]? = some x := ⟨_, List.getElem?_eq_getElem (by rw [HN.out]; exact hlt2)⟩
          obtain ⟨bi, oi, rfl, hcx⟩ := HIN.out t x hx
          have hd2 := any_drop s (fun x => x == k) hx
          have HANY2 := Lib.hid (hany2.trans hd2)
          clear hany2 hd2 hx
          by_cases hxk : x = k
          · subst hxk
            have HF := Lib.hid (show q = true by rw [← HQ.out, HANY.out, HC.out, HANY2.out]; simp)
            go_wp2_with fail
            go_ret
            exact ⟨ret_bool HF.out.symm, rfl⟩
          · have HF := Lib.hid (show (x == k) = false by simpa using hxk)
            go_wp2_with fail
            go_round
            case rel => exact ⟨t + 1, by omega, by go_num, by rw [HANY2.out, HF.out, Bool.false_or]⟩
            case measure => simp [intOf]; omega
        · obtain rfl : n = t := by omega
          have HF := Lib.hid (show s.contains k = false by rw [HC.out, hany2, List.drop_of_length_le (by rw [HN.out]; exact Nat.le_refl _)]; rfl)
          clear hany2
          go_wp2_with fail
          go_round
          case rel => exact ⟨j + 1, by omega, by go_num, by rw [HANY.out, HF.out, Bool.false_or]⟩
          case measure => simp [intOf]; omega
    · obtain rfl : m = j := by omega
      have HF := Lib.hid (show q = false by rw [← HQ.out, hany, List.drop_of_length_le (by rw [HM.out]; exact Nat.le_refl _)]; rfl)
      clear hany
      go_wp2_with fail
      go_ret
      exact ⟨ret_bool HF.out.symm, rfl⟩

/-! ### The same? -/
/-- Nothing but draws. -/
def Drw (w w' : World) : Prop := (∀ p, w'.cell? p = w.cell? p) ∧ Below w.heap.size w w'
theorem Drw.refl (w : World) : Drw w w := ⟨fun _ => rfl, Below.refl _ _⟩
theorem Drw.drewN {w w' : World} (h : Drw w w') (n : Nat) : Drw w (w'.drewN n) := ⟨h.1, below_drewN h.2 n⟩

set_option maxHeartbeats 2000000 in
theorem sameInts_any (A : Option Addr) (n c : Nat) (xs : List Nat) (A1 : Option Addr) (c1 : Nat) (w : World) (hn : xs.length = n) (hl : n ≤ 9223372036854775807)
    (hr : ∀ (t k : Nat), xs[t]? = some k → ∃ bi oi, A = some ⟨bi, oi, none⟩ ∧ w.cell? ⟨bi, oi + t, none⟩ = some (.int .i64 (k : Int)))
    (hr1 : ∀ (t k : Nat), xs[t]? = some k → ∃ bi oi, A1 = some ⟨bi, oi, none⟩ ∧ w.cell? ⟨bi, oi + t, none⟩ = some (.int .i64 (k : Int))) :
    Calls Try.prog 37 #[.slice A n c, .slice A1 n c1] w fun e w' => e = .returned (.bool true) ∧ Drw w w' := by
  have HN := Lib.hid hn
  have HR := Lib.hid hr
  have HR1 := Lib.hid hr1
  clear hn hr hr1
  go_enter Try.func37, Try.ntmps37
  go_wp2_with fail
  go_loopw [5] (fun i wr => ∃ j : Nat, j ≤ n ∧ i = .int .i64 j ∧ Drw w wr) (fun i _ => n - (intOf i).toNat)
  case atStart => exact ⟨0, Nat.zero_le _, rfl, Drw.refl _⟩
  case round =>
    obtain ⟨j, hj, rfl, hdr⟩ := hrel
    have HDR := Lib.hid hdr
    clear hdr
    by_cases hlt : j < n
    · obtain ⟨x, hx⟩ : ∃ x, xs[j]? = some x := ⟨_, List.getElem?_eq_getElem (by rw [HN.out]; exact hlt)⟩
      obtain ⟨b, o, rfl, hc0⟩ := HR.out j x hx
      obtain ⟨b1, o1, rfl, hc1⟩ := HR1.out j x hx
      have k0 := (HDR.out.1 _).trans hc0
      have k1 := (HDR.out.1 _).trans hc1
      clear hx hc0 hc1
      go_wp2_with fail
      go_quiet (fail)
      go_wp2_with fail
      go_roundw
      case rel => exact ⟨j + 1, by omega, by go_num, HDR.out.drewN _⟩
      case measure => simp [intOf]; omega
    · obtain rfl : n = j := by omega
      go_wp2_with fail
      go_ret
      exact ⟨rfl, HDR.out⟩

set_option maxHeartbeats 2000000 in
theorem sameRows_any (A : Option Addr) (c : Nat) (A1 : Option Addr) (c1 : Nat) (rs : List (List Nat)) (w : World) (hr : RR w A rs) (hr1 : RR w A1 rs) :
    Calls Try.prog 36 #[.slice A rs.length c, .slice A1 rs.length c1] w fun e w' => e = .returned (.bool true) ∧ Drw w w' := by
  have HR := Lib.hid hr
  have HR1 := Lib.hid hr1
  have hlen := hr.len
  obtain ⟨m, hm⟩ : ∃ m, rs.length = m := ⟨_, rfl⟩
  rw [hm] at hlen ⊢
  have HM := Lib.hid hm
  clear hr hr1 hm
  go_enter Try.func36, Try.ntmps36
  go_wp2_with fail
  go_loopw [5] (fun i wr => ∃ j : Nat, j ≤ m ∧ i = .int .i64 j ∧ Drw w wr) (fun i _ => m - (intOf i).toNat)
  case atStart => exact ⟨0, Nat.zero_le _, rfl, Drw.refl _⟩
  case round =>
    obtain ⟨j, hj, rfl, hdr⟩ := hrel
    have HDR := Lib.hid hdr
    clear hdr
    obtain ⟨wo, rfl⟩ : ∃ wo : World, wo = wr := ⟨_, rfl⟩
    by_cases hlt : j < m
    · obtain ⟨s, hs⟩ : ∃ s, rs[j]? = some s := ⟨_, List.getElem?_eq_getElem (by rw [HM.out]; exact hlt)⟩
      obtain ⟨hsl, b, o, Ai, ci, rfl, hcell, hin⟩ := HR.out.row j s hs
      obtain ⟨_, b1, o1, Ai1, ci1, rfl, hcell1, hin1⟩ := HR1.out.row j s hs
      have HIN := Lib.hid hin
      have HIN1 := Lib.hid hin1
      obtain ⟨n, hn⟩ : ∃ n, s.length = n := ⟨_, rfl⟩
      rw [hn] at hsl hcell hcell1
      have HC0 := Lib.hid hcell
      have HC1 := Lib.hid hcell1
      have k0 := (HDR.out.1 _).trans hcell
      have k1 := (HDR.out.1 _).trans hcell1
      have HN := Lib.hid hn
      clear hin hin1 hs hn hcell hcell1
      go_wp2_with fail
      go_quiet (fail)
      have HDR1 := Lib.hid (HDR.out.drewN nq)
      replace k0 : (wo.drewN nq).cell? ⟨b, o + j, none⟩ = some (.slice Ai n ci) := k0
      clear k1 HDR
      generalize wo.drewN nq = wp at HDR1 k0 ⊢
      go_wp2_with fail
      go_loopw [6] (fun i wr => ∃ t : Nat, t ≤ n ∧ i = .int .i64 t ∧ Drw w wr) (fun i _ => n - (intOf i).toNat)
      case atStart => exact ⟨0, Nat.zero_le _, rfl, HDR1.out⟩
      case round =>
        clear HDR1 k0
        obtain ⟨t, ht, rfl, hdr⟩ := hrel
        have HDR := Lib.hid hdr
        clear hdr
        have k0 := (HDR.out.1 _).trans HC0.out
        have k1 := (HDR.out.1 _).trans HC1.out
        by_cases hlt2 : t < n
        · obtain ⟨x, hx⟩ : ∃ x, s[t]? = some x := ⟨_, List.getElem?_eq_getElem (by rw [HN.out]; exact hlt2)⟩
          obtain ⟨bi, oi, rfl, hcx⟩ := HIN.out t x hx
          obtain ⟨bi1, oi1, rfl, hcx1⟩ := HIN1.out t x hx
          have k2 := (HDR.out.1 _).trans hcx
          have k3 := (HDR.out.1 _).trans hcx1
          clear hx hcx hcx1
          go_wp2_with fail
          go_quiet (fail)
          go_wp2_with fail
          go_roundw
          case rel => exact ⟨t + 1, by omega, by go_num, HDR.out.drewN _⟩
          case measure => simp [intOf]; omega
        · obtain rfl : n = t := by omega
          go_wp2_with fail
          go_roundw
          case rel => exact ⟨j + 1, by omega, by go_num, HDR.out⟩
          case measure => simp [intOf]; omega
    · obtain rfl : m = j := by omega
      go_wp2_with fail
      go_ret
      exact ⟨rfl, HDR.out⟩

end Go.Proofs.Ytlkbdmbfbmekaaa

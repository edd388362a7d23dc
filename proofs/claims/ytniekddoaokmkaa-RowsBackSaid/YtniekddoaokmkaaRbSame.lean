/-
  RowsBack: the same accounts, dues, rounds, walked: of what is the same they say so.
-/
import Derived.Test.YtniekddoaokmkaaRowSmall
import Derived.BigQuiet
namespace Go.Proofs.Ytniekddoaokmkaa
open Go.RowKit Go.Gab
set_option linter.unusedVariables false
attribute [local go_sem ↓] Go.wp_at_zero Go.wp_at_succ

theorem inj_addr {b o b' o' : Nat} (h : (some ⟨b, o, none⟩ : Option Addr) = some ⟨b', o', none⟩) : b = b' ∧ o = o' := by
  injection h with h
  injection h with h1 h2
  exact ⟨h1, h2⟩
/-- Drawn from alone. -/
def Drawn (w w' : World) : Prop := ∃ q, w' = w.drewN q
theorem Drawn.refl (w : World) : Drawn w w := ⟨0, rfl⟩
theorem Drawn.drewN {w w' : World} (h : Drawn w w') (n : Nat) : Drawn w (w'.drewN n) := by
  obtain ⟨q, rfl⟩ := h
  exact ⟨q + n, by rw [World.drewN_drewN]⟩
theorem Drawn.trans {w w' w'' : World} (h : Drawn w w') (k : Drawn w' w'') : Drawn w w'' := by
  obtain ⟨q, rfl⟩ := k
  exact h.drewN q
theorem Drawn.slr {α : Type} {r : Rep α} {w w' : World} {B n c : Nat} {A : Option Addr} {l : List α} (h : Drawn w w') (hl : SlR r w B A n c l) : SlR r w' B A n c l := by
  obtain ⟨q, rfl⟩ := h
  exact hl.drewN q
theorem Drawn.below {w w' : World} {b : Nat} {w0 : World} (h : Drawn w w') (hb : Below b w0 w) : Below b w0 w' := by
  obtain ⟨q, rfl⟩ := h
  exact below_drewN hb q
def SameTo (w : World) (e : Ending) (w' : World) : Prop := e = .returned (.bool true) ∧ Drawn w w'

set_option maxHeartbeats 4000000 in
set_option maxRecDepth 100000 in
theorem same17_any (B : Nat) (l : List Rws.Acct) (A A2 : Option Addr) (n c c2 : Nat) (w : World) (h : SlR acctR w B A n c l) (h' : SlR acctR w B A2 n c2 l) :
    Calls Try.prog 26 #[.slice A n c, .slice A2 n c2] w (SameTo w) := by
  have HL := Lib.hid h
  have HL2 := Lib.hid h'
  have h1 := h.nc
  have h2 := h.cm
  have h3 := h'.nc
  have h4 := h'.cm
  clear h h'
  go_enter Try.func26, Try.ntmps26
  go_wp2_with fail
  go_loopw [5] (fun i wr => ∃ (j : Nat), j ≤ n ∧ i = .int .i64 j ∧ Drawn w wr) (fun i _ => n - (intOf i).toNat)
  case atStart => exact ⟨0, Nat.zero_le _, rfl, Drawn.refl _⟩
  case round =>
    obtain ⟨j, hj, rfl, hd⟩ := hrel
    have HD := Lib.hid hd
    by_cases hlt : j < n
    · have t1 := acct_at (hd.slr HL.out) hlt
      have t2 := acct_at (hd.slr HL2.out) hlt
      clear hd
      obtain ⟨b, off, x, hA, hb, hx, p0, p1, _⟩ := t1
      obtain ⟨b', off', y, hA', hb', hy, r0, r1, _⟩ := t2
      subst hA hA'
      obtain rfl : x = y := by rw [hx] at hy; injection hy
      have g4 : (0 : Int) ≤ (j : Int) := by omega
      have g5 : (j : Int) < (n : Int) := by omega
      clear hx hy hb hb'
      go_wp2_with fail
      go_quiet (fail)
      have HD2 := Lib.hid (HD.out.drewN nq)
      generalize wr.drewN nq = w2 at HD2 ⊢
      go_wp2_with fail
      go_roundw
      case rel => exact ⟨j + 1, by omega, by go_num, HD2.out⟩
      case measure => simp [intOf]; omega
    · have g1 : ¬ ((j : Int) < (n : Int)) := by omega
      go_wp2_with fail
      go_ret
      exact ⟨rfl, HD.out⟩

set_option maxHeartbeats 4000000 in
set_option maxRecDepth 100000 in
theorem same18_any (B : Nat) (l : List Rws.Due) (A A2 : Option Addr) (n c c2 : Nat) (w : World) (h : SlR dueR w B A n c l) (h' : SlR dueR w B A2 n c2 l) :
    Calls Try.prog 27 #[.slice A n c, .slice A2 n c2] w (SameTo w) := by
  have HL := Lib.hid h
  have HL2 := Lib.hid h'
  have h1 := h.nc
  have h2 := h.cm
  have h3 := h'.nc
  have h4 := h'.cm
  clear h h'
  go_enter Try.func27, Try.ntmps27
  go_wp2_with fail
  go_loopw [5] (fun i wr => ∃ (j : Nat), j ≤ n ∧ i = .int .i64 j ∧ Drawn w wr) (fun i _ => n - (intOf i).toNat)
  case atStart => exact ⟨0, Nat.zero_le _, rfl, Drawn.refl _⟩
  case round =>
    obtain ⟨j, hj, rfl, hd⟩ := hrel
    have HD := Lib.hid hd
    by_cases hlt : j < n
    · have t1 := due_at (hd.slr HL.out) hlt
      have t2 := due_at (hd.slr HL2.out) hlt
      clear hd
      obtain ⟨b, off, x, hA, hb, hx, p0, p1, p2, p3, p4, p5, p6, _⟩ := t1
      obtain ⟨b', off', y, hA', hb', hy, r0, r1, r2, r3, r4, r5, r6, _⟩ := t2
      subst hA hA'
      obtain rfl : x = y := by rw [hx] at hy; injection hy
      have g4 : (0 : Int) ≤ (j : Int) := by omega
      have g5 : (j : Int) < (n : Int) := by omega
      clear hx hy hb hb'
      go_wp2_with fail
      go_quiet (fail)
      have HD2 := Lib.hid (HD.out.drewN nq)
      generalize wr.drewN nq = w2 at HD2 ⊢
      go_wp2_with fail
      go_roundw
      case rel => exact ⟨j + 1, by omega, by go_num, HD2.out⟩
      case measure => simp [intOf]; omega
    · have g1 : ¬ ((j : Int) < (n : Int)) := by omega
      go_wp2_with fail
      go_ret
      exact ⟨rfl, HD.out⟩

set_option maxHeartbeats 4000000 in
set_option maxRecDepth 100000 in
theorem sameAsked_any (B : Nat) (l : List Rws.Asked) (A A2 : Option Addr) (n c c2 : Nat) (w : World) (h : SlR askedR w B A n c l) (h' : SlR askedR w B A2 n c2 l) :
    Calls Try.prog 12 #[.slice A n c, .slice A2 n c2] w (SameTo w) := by
  have HL := Lib.hid h
  have HL2 := Lib.hid h'
  have h1 := h.nc
  have h2 := h.cm
  have h3 := h'.nc
  have h4 := h'.cm
  clear h h'
  go_enter Try.func12, Try.ntmps12
  go_wp2_with fail
  go_loopw [5] (fun i wr => ∃ (j : Nat), j ≤ n ∧ i = .int .i64 j ∧ Drawn w wr) (fun i _ => n - (intOf i).toNat)
  case atStart => exact ⟨0, Nat.zero_le _, rfl, Drawn.refl _⟩
  case round =>
    obtain ⟨j, hj, rfl, hd⟩ := hrel
    have HD := Lib.hid hd
    by_cases hlt : j < n
    · have t1 := asked_at (hd.slr HL.out) hlt
      have t2 := asked_at (hd.slr HL2.out) hlt
      clear hd
      obtain ⟨b, off, x, A1, B1, c1, d1, hA, hb, hx, p0, p1, p2, p3, _, _, y1, y2⟩ := t1
      obtain ⟨b', off', y, A1', B1', c1', d1', hA', hb', hy, r0, r1, r2, r3, _, _, z1, z2⟩ := t2
      subst hA hA'
      obtain rfl : x = y := by rw [hx] at hy; injection hy
      have k1 := fun k => run_string_of (P := Try.prog) (dst := 9) Try.underlying40 Try.underlying5 Try.underlying9 (y1.sl.drewN k)
      have k2 := fun k => run_string_of (P := Try.prog) (dst := 9) Try.underlying40 Try.underlying5 Try.underlying9 (y2.sl.drewN k)
      have k3 := fun k => run_string_of (P := Try.prog) (dst := 9) Try.underlying40 Try.underlying5 Try.underlying9 (z1.sl.drewN k)
      have k4 := fun k => run_string_of (P := Try.prog) (dst := 9) Try.underlying40 Try.underlying5 Try.underlying9 (z2.sl.drewN k)
      have g4 : (0 : Int) ≤ (j : Int) := by omega
      have g5 : (j : Int) < (n : Int) := by omega
      clear hx hy hb hb' y1 y2 z1 z2
      go_wp2_with fail
      go_quiet (fail)
      have HD2 := Lib.hid (HD.out.drewN nq)
      generalize wr.drewN nq = w2 at HD2 ⊢
      go_wp2_with fail
      go_roundw
      case rel => exact ⟨j + 1, by omega, by go_num, HD2.out⟩
      case measure => simp [intOf]; omega
    · have g1 : ¬ ((j : Int) < (n : Int)) := by omega
      go_wp2_with fail
      go_ret
      exact ⟨rfl, HD.out⟩

end Go.Proofs.Ytniekddoaokmkaa

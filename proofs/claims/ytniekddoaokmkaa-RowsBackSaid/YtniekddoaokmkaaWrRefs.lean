/-
  The reference of layer 23 (rows), walked: whether keys rise, whether pairs are the same, what is written over pairs.
-/
import Derived.Test.YtniekddoaokmkaaWrWalk
namespace Go.Proofs.Ytniekddoaokmkaa
open Go.RowKit Go.Gab
set_option linter.unusedVariables false
attribute [local go_sem ↓] Go.wp_at_zero Go.wp_at_succ

theorem less_order : ∀ (x y : List UInt8), Op.bytesLess x y = decide (Oct.order x y < 0)
  | [], [] => by simp [Op.bytesLess, Oct.order]
  | [], _ :: _ => by simp [Op.bytesLess, Oct.order]
  | _ :: _, [] => by simp [Op.bytesLess, Oct.order]
  | a :: x, b :: y => by
    have ih := less_order x y
    rw [Op.bytesLess, Oct.order, ih]
    by_cases h1 : a < b
    · simp [h1]
    · by_cases h2 : b < a
      · have hne : a ≠ b := fun e => by subst e; exact h1 h2
        simp [h1, h2, hne]
      · have he : a = b := Oct.u8_eq h1 h2
        subst he
        simp [h1]

set_option maxHeartbeats 1000000 in
set_option maxRecDepth 100000 in
theorem refRise_any (B : Nat) (l : List Rws.Pair) (A : Option Addr) (n c : Nat) (w : World) (h : SlR pairR w B A n c l) (hn : n ≤ 1000000) :
    Calls Try.prog 13 #[.slice A n c] w fun e w' => e = .returned (.bool (Rws.riseB l)) ∧ ∃ q, w' = w.drewN q := by
  have HL := Lib.hid h
  have HLN := Lib.hid h.len
  have h1 := h.nc
  have h2 := h.cm
  clear h
  go_enter Try.func13, Try.ntmps13
  go_wp2_with fail
  go_loopw [3] (fun i wr => ∃ (j q : Nat), (j + 1 ≤ n ∨ j = 0) ∧ i = .int .i64 (j + 1 : Nat) ∧ Rws.riseB (l.take (j + 1)) = true ∧ wr = w.drewN q) (fun i _ => n - (intOf i).toNat)
  case atStart => exact ⟨0, 0, .inr rfl, rfl, Rws.riseB_one l, rfl⟩
  case round =>
    obtain ⟨j, q, hj, rfl, hr, rfl⟩ := hrel
    have HRB := Lib.hid hr
    clear hr
    by_cases hlt : j + 1 < n
    · obtain ⟨b, off, x, A1, A2, c1, c2, hA, hb, hx, p0, p1, y1, y2⟩ := pair_at (HL.out.drewN q) (show j < n by omega)
      obtain ⟨b', off', y, A1', A2', c1', c2', hA', _, hy, r0, r1, z1, z2⟩ := pair_at (HL.out.drewN q) (show j + 1 < n by omega)
      rw [hA] at hA'
      injection hA' with e
      injection e with e1 e2
      subst e1 e2
      subst hA
      have HST := Lib.hid (Rws.riseB_step hx hy)
      have k1 := fun k => run_string_of (P := Try.prog) (dst := 9) Try.underlying40 Try.underlying5 Try.underlying9 (y1.sl.drewN k)
      have k2 := fun k => run_string_of (P := Try.prog) (dst := 9) Try.underlying40 Try.underlying5 Try.underlying9 (z1.sl.drewN k)
      have g1 : (j : Int) + 1 < (n : Int) := by omega
      have g2 : IntKind.i64.wrap (j : Int) = (j : Int) := by rw [IntKind.wrap_i64]; omega
      have g3 : ((j + 1 : Nat) : Int) - 1 = (j : Int) := by omega
      have g4 : (0 : Int) ≤ (j : Int) := by omega
      have g5 : (j : Int) < (n : Int) := by omega
      clear hx hy y1 y2 z1 z2 p1 r1 hb
      obtain ⟨wq, hwq⟩ : ∃ wq, w.drewN q = wq := ⟨_, rfl⟩
      rw [hwq] at k1 k2 p0 r0 ⊢
      have HWQ := Lib.hid hwq
      clear hwq
      cases hless : Op.bytesLess x.1 y.1 with
      | true =>
        have HRB2 := Lib.hid (show Rws.riseB (l.take (j + 2)) = true by
          have h1 := less_order x.1 y.1
          rw [hless] at h1
          rw [HST.out, HRB.out, ← h1]; rfl)
        go_wp2_with fail
        go_quiet (fail)
        obtain ⟨w2, hw2⟩ : ∃ w2, wq.drewN nq = w2 := ⟨_, rfl⟩
        have HW2 := Lib.hid (show ∃ q', w2 = w.drewN q' by rw [← hw2, ← HWQ.out]; exact ⟨q + nq, by rw [World.drewN_drewN]⟩)
        rw [hw2]
        clear hw2
        go_wp2_with fail
        go_roundw
        case rel =>
          obtain ⟨q', hq'⟩ := HW2.out
          exact ⟨j + 1, q', .inl (by omega), by go_num, HRB2.out, hq'⟩
        case measure => simp [intOf]; omega
      | false =>
        have HRB2 := Lib.hid (show Rws.riseB l = false by
          have h1 := less_order x.1 y.1
          rw [hless] at h1
          cases hl : Rws.riseB l with
          | false => rfl
          | true =>
            have h2 := Rws.riseB_take l (j + 2) hl
            rw [HST.out, ← h1, Bool.and_false] at h2
            cases h2)
        go_wp2_with fail
        go_quiet (fail)
        obtain ⟨w2, hw2⟩ : ∃ w2, wq.drewN nq = w2 := ⟨_, rfl⟩
        have HW2 := Lib.hid (show ∃ q', w2 = w.drewN q' by rw [← hw2, ← HWQ.out]; exact ⟨q + nq, by rw [World.drewN_drewN]⟩)
        rw [hw2]
        clear hw2
        go_wp2_with fail
        go_ret
        exact ⟨ret_bool HRB2.out.symm, HW2.out⟩
    · have HRB2 := Lib.hid (show Rws.riseB l = true by rw [← HRB.out, List.take_of_length_le (by rw [HLN.out]; omega)])
      have g1 : ¬ ((j : Int) + 1 < (n : Int)) := by omega
      go_wp2_with fail
      go_ret
      exact ⟨ret_bool HRB2.out.symm, q, rfl⟩

/-- The same pairs? -/
def eqB (a b : List Rws.Pair) : Bool := decide (a = b)
theorem eqB_true {a b : List Rws.Pair} (h : a = b) : eqB a b = true := decide_eq_true h
theorem eqB_false {a b : List Rws.Pair} (h : a ≠ b) : eqB a b = false := decide_eq_false h

set_option maxHeartbeats 1000000 in
set_option maxRecDepth 100000 in
theorem refSame_any (B : Nat) (l l2 : List Rws.Pair) (A A2 : Option Addr) (n c n2 c2 : Nat) (w : World) (h : SlR pairR w B A n c l) (h' : SlR pairR w B A2 n2 c2 l2) (hn : n ≤ 1000000) :
    Calls Try.prog 14 #[.slice A n c, .slice A2 n2 c2] w fun e w' => e = .returned (.bool (eqB l l2)) ∧ ∃ q, w' = w.drewN q := by
  have HL := Lib.hid h
  have HL2 := Lib.hid h'
  have HLN := Lib.hid h.len
  have HLN2 := Lib.hid h'.len
  have h1 := h.nc
  have h2 := h.cm
  have h3 := h'.nc
  have h4 := h'.cm
  clear h h'
  by_cases hlen : n = n2
  · subst hlen
    go_enter Try.func14, Try.ntmps14
    go_wp2_with fail
    go_loopw [5] (fun i wr => ∃ (j q : Nat), j ≤ n ∧ i = .int .i64 j ∧ l.take j = l2.take j ∧ wr = w.drewN q) (fun i _ => n - (intOf i).toNat)
    case atStart => exact ⟨0, 0, Nat.zero_le _, rfl, rfl, rfl⟩
    case round =>
      obtain ⟨j, q, hj, rfl, hr, rfl⟩ := hrel
      by_cases hlt : j < n
      · obtain ⟨b, off, x, A1, B1, c1, d1, hA, hb, hx, p0, p1, y1, y2⟩ := pair_at (HL.out.drewN q) hlt
        obtain ⟨b', off', y, A1', B1', c1', d1', hA', _, hy, r0, r1, z1, z2⟩ := pair_at (HL2.out.drewN q) hlt
        subst hA hA'
        have HTK := Lib.hid (Rws.take_eq_step hx hy hr)
        have HTN := Lib.hid (fun (hne : x ≠ y) (e : l = l2) => hne (by subst e; rw [hx] at hy; injection hy))
        have k1 := fun k => run_string_of (P := Try.prog) (dst := 9) Try.underlying40 Try.underlying5 Try.underlying9 (y1.sl.drewN k)
        have k2 := fun k => run_string_of (P := Try.prog) (dst := 9) Try.underlying40 Try.underlying5 Try.underlying9 (y2.sl.drewN k)
        have k3 := fun k => run_string_of (P := Try.prog) (dst := 9) Try.underlying40 Try.underlying5 Try.underlying9 (z1.sl.drewN k)
        have k4 := fun k => run_string_of (P := Try.prog) (dst := 9) Try.underlying40 Try.underlying5 Try.underlying9 (z2.sl.drewN k)
        have g4 : (0 : Int) ≤ (j : Int) := by omega
        have g5 : (j : Int) < (n : Int) := by omega
        clear hx hy y1 y2 z1 z2 hb hr
        obtain ⟨wq, hwq⟩ : ∃ wq, w.drewN q = wq := ⟨_, rfl⟩
        rw [hwq] at k1 k2 k3 k4 p0 p1 r0 r1 ⊢
        have HWQ := Lib.hid hwq
        clear hwq
        cases hk : (x.1 == y.1) with
        | false =>
          have hk2 : (x.1 != y.1) = true := by rw [bne, hk]; rfl
          have HNE := Lib.hid (show eqB l l2 = false from eqB_false (HTN.out (fun e => by subst e; simp at hk)))
          go_wp2_with fail
          go_quiet (fail)
          obtain ⟨w2, hw2⟩ : ∃ w2, wq.drewN nq = w2 := ⟨_, rfl⟩
          have HW2 := Lib.hid (show ∃ q', w2 = w.drewN q' by rw [← hw2, ← HWQ.out]; exact ⟨q + nq, by rw [World.drewN_drewN]⟩)
          rw [hw2]
          clear hw2
          go_wp2_with fail
          go_ret
          exact ⟨ret_bool HNE.out.symm, HW2.out⟩
        | true =>
          have hk2 : (x.1 != y.1) = false := by rw [bne, hk]; rfl
          cases hv : (x.2 == y.2) with
          | false =>
            have hv2 : (x.2 != y.2) = true := by rw [bne, hv]; rfl
            have HNE := Lib.hid (show eqB l l2 = false from eqB_false (HTN.out (fun e => by subst e; simp at hv)))
            go_wp2_with fail
            go_quiet (fail)
            obtain ⟨w2, hw2⟩ : ∃ w2, wq.drewN nq = w2 := ⟨_, rfl⟩
            have HW2 := Lib.hid (show ∃ q', w2 = w.drewN q' by rw [← hw2, ← HWQ.out]; exact ⟨q + nq, by rw [World.drewN_drewN]⟩)
            rw [hw2]
            clear hw2
            go_wp2_with fail
            go_ret
            exact ⟨ret_bool HNE.out.symm, HW2.out⟩
          | true =>
            have hv2 : (x.2 != y.2) = false := by rw [bne, hv]; rfl
            have HEQ := Lib.hid (HTK.out.2 (Prod.ext (by simpa using hk) (by simpa using hv)))
            go_wp2_with fail
            go_quiet (fail)
            obtain ⟨w2, hw2⟩ : ∃ w2, wq.drewN nq = w2 := ⟨_, rfl⟩
            have HW2 := Lib.hid (show ∃ q', w2 = w.drewN q' by rw [← hw2, ← HWQ.out]; exact ⟨q + nq, by rw [World.drewN_drewN]⟩)
            rw [hw2]
            clear hw2
            go_wp2_with fail
            go_roundw
            case rel =>
              obtain ⟨q', hq'⟩ := HW2.out
              exact ⟨j + 1, q', by omega, by go_num, HEQ.out, hq'⟩
            case measure => simp [intOf]; omega
      · have HEQ := Lib.hid (show eqB l l2 = true from eqB_true (by rw [List.take_of_length_le (by rw [HLN.out]; omega), List.take_of_length_le (by rw [HLN2.out]; omega)] at hr; exact hr))
        have g1 : ¬ ((j : Int) < (n : Int)) := by omega
        clear hr
        go_wp2_with fail
        go_ret
        exact ⟨ret_bool HEQ.out.symm, q, rfl⟩
  · have HNE := Lib.hid (show eqB l l2 = false from eqB_false (fun e => hlen (by rw [← HLN.out, ← HLN2.out, e])))
    have g0 : ((n : Int) == (n2 : Int)) = false := by simp; omega
    have g1 : ((n : Int) != (n2 : Int)) = true := by simp; omega
    go_enter Try.func14, Try.ntmps14
    go_wp2_with fail
    go_ret
    exact ⟨ret_bool HNE.out.symm, 0, rfl⟩

end Go.Proofs.Ytniekddoaokmkaa

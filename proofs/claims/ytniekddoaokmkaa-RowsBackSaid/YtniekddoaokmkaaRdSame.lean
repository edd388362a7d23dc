/-
  Layer 23 (rows): whether pairs are the same, walked.
-/
import Derived.Test.YtniekddoaokmkaaWrRefs
namespace Go.Proofs.Ytniekddoaokmkaa
open Go.RowKit Go.Gab
set_option linter.unusedVariables false
attribute [local go_sem ↓] Go.wp_at_zero Go.wp_at_succ

def sameP (x y : Rws.Pair) : Bool := (x.1 == y.1) && (x.2 == y.2)
theorem sameP_iff {x y : Rws.Pair} : sameP x y = true ↔ x = y := by
  unfold sameP
  rw [Bool.and_eq_true, beq_iff_eq, beq_iff_eq]
  exact ⟨fun h => Prod.ext h.1 h.2, fun h => by subst h; exact ⟨rfl, rfl⟩⟩

set_option maxHeartbeats 1000000 in
theorem same_any (B : Nat) (x y : Rws.Pair) (A1 A2 A3 A4 : Option Addr) (c1 c2 c3 c4 : Nat) (w : World) (h1 : BytesAt w B A1 x.1.length c1 x.1) (h2 : BytesAt w B A2 x.2.length c2 x.2) (h3 : BytesAt w B A3 y.1.length c3 y.1) (h4 : BytesAt w B A4 y.2.length c4 y.2) (hB : B ≤ w.heap.size) :
    Calls Try.prog 25 #[.agg #[.slice A1 x.1.length c1, .slice A2 x.2.length c2], .agg #[.slice A3 y.1.length c3, .slice A4 y.2.length c4]] w fun e w' => e = .returned (.bool (sameP x y)) ∧ Below w.heap.size w w' := by
  have hb := ((Below.refl w.heap.size w).alloc (Nat.le_refl _) (.cells #[.slice A1 x.1.length c1, .slice A2 x.2.length c2] 42)).alloc (by simp) (.cells #[.slice A3 y.1.length c3, .slice A4 y.2.length c4] 42)
  have HB := Lib.hid hb
  have HE1 := Lib.hid (equal_any B A1 x.1.length c1 B A3 y.1.length c3 x.1 y.1 _ (h1.below hb hB).sl (h3.below hb hB).sl)
  have HE2 := Lib.hid (equal_any B A2 x.2.length c2 B A4 y.2.length c4 x.2 y.2 _ (h2.below hb hB).sl (h4.below hb hB).sl)
  have HP := Lib.hid (show sameP x y = ((x.1 == y.1) && (x.2 == y.2)) from rfl)
  obtain ⟨p, hp⟩ : ∃ p, (x.1 == y.1) = p := ⟨_, rfl⟩
  obtain ⟨q, hq⟩ : ∃ q, (x.2 == y.2) = q := ⟨_, rfl⟩
  rw [hp] at HE1 HP
  rw [hq] at HE2 HP
  clear hb h1 h2 h3 h4 hp hq
  cases p with
  | false =>
    go_enter Try.func25, Try.ntmps25
    go_wp2_with fail
    refine HE1.out.mono ?_
    rintro e w1 ⟨rfl, rfl⟩
    go_wp2_with fail
    go_ret
    exact ⟨ret_bool (by rw [HP.out]; rfl), HB.out⟩
  | true =>
    go_enter Try.func25, Try.ntmps25
    go_wp2_with fail
    refine HE1.out.mono ?_
    rintro e w1 ⟨rfl, rfl⟩
    go_wp2_with fail
    refine HE2.out.mono ?_
    rintro e w1 ⟨rfl, rfl⟩
    go_wp2_with fail
    go_ret
    exact ⟨ret_bool (by rw [HP.out, Bool.true_and]), HB.out⟩

set_option maxHeartbeats 1000000 in
theorem equalFunc_any (B : Nat) (l l2 : List Rws.Pair) (A A2 : Option Addr) (n c n2 c2 : Nat) (w : World) (h : SlR pairR w B A n c l) (h' : SlR pairR w B A2 n2 c2 l2) (hB : B ≤ w.heap.size) (hn : n ≤ 1000000000) :
    Calls Try.prog 24 #[.slice A n c, .slice A2 n2 c2, .func (.func 25) #[] #[]] w fun e w' => e = .returned (.bool (eqB l l2)) ∧ Below w.heap.size w w' := by
  have HL := Lib.hid h
  have HL2 := Lib.hid h'
  have HLN := Lib.hid h.len
  have HLN2 := Lib.hid h'.len
  have HB0 := Lib.hid hB
  have h1 := h.nc
  have h2 := h.cm
  have h3 := h'.nc
  have h4 := h'.cm
  clear h h' hB
  by_cases hlen : n = n2
  · subst hlen
    go_enter Try.func24, Try.ntmps24
    go_wp2_with fail
    go_loopw [17] (fun i wr => ∃ (j : Nat), j ≤ n ∧ i = .int .i64 j ∧ l.take j = l2.take j ∧ Below w.heap.size w wr) (fun i _ => n - (intOf i).toNat)
    case atStart => exact ⟨0, Nat.zero_le _, rfl, rfl, Below.refl _ _⟩
    case round =>
      obtain ⟨j, hj, rfl, hr, hbel⟩ := hrel
      have HBL := Lib.hid hbel
      by_cases hlt : j < n
      · obtain ⟨b, off, x, A1, B1, c1, d1, hA, hb, hx, p0, p1, y1, y2⟩ := pair_at (HL.out.below hbel HB0.out) hlt
        obtain ⟨b', off', y, A1', B1', c1', d1', hA', hb', hy, r0, r1, z1, z2⟩ := pair_at (HL2.out.below hbel HB0.out) hlt
        subst hA hA'
        have HTK := Lib.hid (Rws.take_eq_step hx hy hr)
        have HTN := Lib.hid (fun (hne : x ≠ y) (e : l = l2) => hne (by subst e; rw [hx] at hy; injection hy))
        have g4 : (0 : Int) ≤ (j : Int) := by omega
        have g5 : (j : Int) < (n : Int) := by omega
        have hal := ((Below.refl wr.heap.size wr).alloc (Nat.le_refl _) (.cells #[.slice A1 x.1.length c1, .slice B1 x.2.length d1] 42)).alloc (by simp) (.cells #[.slice A1' y.1.length c1', .slice B1' y.2.length d1'] 42)
        have hBw := Nat.le_trans HB0.out hbel.size
        have HSA := Lib.hid (same_any B x y A1 B1 A1' B1' c1 d1 c1' d1' _ (y1.below hal hBw) (y2.below hal hBw) (z1.below hal hBw) (z2.below hal hBw) (Nat.le_trans hBw hal.size))
        have HAL := Lib.hid (hbel.trans (hal.mono hbel.size))
        have q0 := (World.cell?_alloc_lt wr (.cells #[.slice A1 x.1.length c1, .slice B1 x.2.length d1] 42) ⟨b', off' + j * 2, none⟩ (Nat.lt_of_lt_of_le hb' hBw)).trans r0
        have q1 := (World.cell?_alloc_lt wr (.cells #[.slice A1 x.1.length c1, .slice B1 x.2.length d1] 42) ⟨b', off' + j * 2 + 1, none⟩ (Nat.lt_of_lt_of_le hb' hBw)).trans r1
        obtain ⟨sp, hsp⟩ : ∃ sp, sameP x y = sp := ⟨_, rfl⟩
        have HSP := Lib.hid hsp
        rw [hsp] at HSA
        clear hx hy y1 y2 z1 z2 hb hb' hr hal hBw hbel hsp r0 r1
        go_wp2_with fail
        refine HSA.out.mono ?_
        rintro e w1 ⟨rfl, hb1⟩
        have HB1 := Lib.hid (HAL.out.trans (hb1.mono HAL.out.size))
        clear hb1
        cases sp with
        | false =>
          have HNE := Lib.hid (show eqB l l2 = false from eqB_false (HTN.out (fun e => by have := sameP_iff.2 e; rw [HSP.out] at this; cases this)))
          go_wp2_with fail
          go_ret
          exact ⟨ret_bool HNE.out.symm, HB1.out⟩
        | true =>
          have HEQ := Lib.hid (HTK.out.2 (sameP_iff.1 HSP.out))
          go_wp2_with fail
          go_roundw
          case rel => exact ⟨j + 1, by omega, by go_num, HEQ.out, HB1.out⟩
          case measure => simp [intOf]; omega
      · have HEQ := Lib.hid (show eqB l l2 = true from eqB_true (by rw [List.take_of_length_le (by rw [HLN.out]; omega), List.take_of_length_le (by rw [HLN2.out]; omega)] at hr; exact hr))
        have g1 : ¬ ((j : Int) < (n : Int)) := by omega
        clear hr hbel
        go_wp2_with fail
        go_ret
        exact ⟨ret_bool HEQ.out.symm, HBL.out⟩
  · have HNE := Lib.hid (show eqB l l2 = false from eqB_false (fun e => hlen (by rw [← HLN.out, ← HLN2.out, e])))
    have g0 : ((n : Int) == (n2 : Int)) = false := by simp; omega
    have g1 : ((n : Int) != (n2 : Int)) = true := by simp; omega
    go_enter Try.func24, Try.ntmps24
    go_wp2_with fail
    go_ret
    exact ⟨ret_bool HNE.out.symm, Below.refl _ _⟩

end Go.Proofs.Ytniekddoaokmkaa

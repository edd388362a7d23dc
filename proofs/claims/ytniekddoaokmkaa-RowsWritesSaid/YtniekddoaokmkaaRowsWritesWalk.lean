/-
  RowsWrites, walked: what is written over the pairs from makes them to; there is no write too many, and none for the same.
-/
import Derived.Test.YtniekddoaokmkaaRowWorks
import Derived.Test.YtniekddoaokmkaaWrOver
namespace Go.Proofs.Ytniekddoaokmkaa
open Go.RowKit Go.Gab
set_option linter.unusedVariables false
attribute [local go_sem ↓] Go.wp_at_zero Go.wp_at_succ

theorem pairs_le {w : World} {B n c : Nat} {A : Option Addr} {l : List Rws.Pair} (h : SlR pairR w B A n c l) : ∀ p ∈ l, p.1.length ≤ 140737488355328 ∧ p.2.length ≤ 140737488355328 := by
  intro p hp
  obtain ⟨i, hi⟩ := List.getElem?_of_mem hp
  have hin : i < n := by have := (List.getElem?_eq_some_iff.1 hi).1; have := h.len; omega
  obtain ⟨b, off, x, A1, A2, c1, c2, _, _, hx, _, _, b1, b2⟩ := pair_at h hin
  rw [hi] at hx
  injection hx with hx
  subst hx
  exact ⟨b1.cm, b2.cm⟩

set_option maxHeartbeats 8000000 in
set_option maxRecDepth 100000 in
theorem rowsWrites_walk {a0 : Option Addr} {n0 c0 : Nat} {l0 : List Rws.Pair} {a1 : Option Addr} {n1 c1 : Nat} {l1 : List Rws.Pair} (W : World) (h0 : SlR pairR W W.heap.size a0 n0 c0 l0) (h1 : SlR pairR W W.heap.size a1 n1 c1 l1) :
    Calls Try.prog 4 #[.slice a0 n0 c0, .slice a1 n1 c1] W fun e W' => e = .returned (.bool true) ∧ Below W.heap.size W W' := by
  have H0 := Lib.hid h0
  have H1 := Lib.hid h1
  have m1 := h0.nc
  have m2 := h0.cm
  have m3 := h1.nc
  have m4 := h1.cm
  have HP0 := Lib.hid (pairs_le h0)
  have HP1 := Lib.hid (pairs_le h1)
  clear h0 h1
  by_cases hn0 : (300 : Int) < (n0 : Int)
  · go_enter Try.func4, Try.ntmps4
    go_wp2_with fail
    refine (works_any _).mono ?_
    rintro e w1 ⟨rfl, hb1⟩
    have HB1 := Lib.hid hb1
    clear hb1
    go_wp2_with fail
    go_ret
    exact ⟨rfl, HB1.out⟩
  by_cases hn1 : (300 : Int) < (n1 : Int)
  · go_enter Try.func4, Try.ntmps4
    go_wp2_with fail
    refine (works_any _).mono ?_
    rintro e w1 ⟨rfl, hb1⟩
    have HB1 := Lib.hid hb1
    clear hb1
    go_wp2_with fail
    go_ret
    exact ⟨rfl, HB1.out⟩
  have HR0 := Lib.hid (refRise_any W.heap.size l0 a0 n0 c0 W H0.out (by omega))
  have HR1 := Lib.hid (fun q => refRise_any W.heap.size l1 a1 n1 c1 (W.drewN q) (H1.out.drewN q) (by omega))
  obtain ⟨r0, hr0⟩ : ∃ r, Rws.riseB l0 = r := ⟨_, rfl⟩
  obtain ⟨r1, hr1⟩ : ∃ r, Rws.riseB l1 = r := ⟨_, rfl⟩
  rw [hr0] at HR0
  rw [hr1] at HR1
  have HE0 := Lib.hid hr0
  have HE1 := Lib.hid hr1
  clear hr0 hr1
  have d0 : decide ((300 : Int) < (n0 : Int)) = false := by simpa using hn0
  have d1 : decide ((300 : Int) < (n1 : Int)) = false := by simpa using hn1
  have HN0 := Lib.hid (show n0 ≤ 300 by omega)
  have HN1 := Lib.hid (show n1 ≤ 300 by omega)
  clear hn0 hn1
  cases r0 with
  | false =>
    go_enter Try.func4, Try.ntmps4
    go_wp2_with fail
    refine HR0.out.mono ?_
    rintro e w1 ⟨rfl, q, rfl⟩
    go_wp2_with fail
    refine (works_any _).mono ?_
    rintro e w1 ⟨rfl, hb1⟩
    have HB1 := Lib.hid ((below_drewN (Below.refl W.heap.size W) q).trans (hb1.mono (Nat.le_refl _)))
    clear hb1
    go_wp2_with fail
    go_ret
    exact ⟨rfl, HB1.out⟩
  | true =>
    cases r1 with
    | false =>
      go_enter Try.func4, Try.ntmps4
      go_wp2_with fail
      refine HR0.out.mono ?_
      rintro e w1 ⟨rfl, q, rfl⟩
      go_wp2_with fail
      refine (HR1.out _).mono ?_
      rintro e w1 ⟨rfl, q2, rfl⟩
      go_wp2_with fail
      refine (works_any _).mono ?_
      rintro e w1 ⟨rfl, hb1⟩
      have HB1 := Lib.hid ((below_drewN (Below.refl W.heap.size W) (q + q2)).trans (hb1.mono (Nat.le_refl _)))
      clear hb1
      go_wp2_with fail
      go_ret
      exact ⟨rfl, HB1.out⟩
    | true =>
      have HK0 := Lib.hid ((Rws.riseB_iff l0).1 HE0.out)
      have HK1 := Lib.hid ((Rws.riseB_iff l1).1 HE1.out)
      go_enter Try.func4, Try.ntmps4
      go_wp2_with fail
      refine HR0.out.mono ?_
      rintro e w1 ⟨rfl, q, rfl⟩
      go_wp2_with fail
      refine (HR1.out _).mono ?_
      rintro e w1 ⟨rfl, q2, hq2⟩
      have HBa := Lib.hid (show Below W.heap.size W w1 by rw [hq2]; exact below_drewN (below_drewN (Below.refl W.heap.size W) q) q2)
      clear hq2 d0 d1
      go_wp2_with fail
      refine (writes_any W.heap.size l0 l1 a0 a1 n0 c0 n1 c1 w1 (H0.out.below HBa.out (Nat.le_refl _)) (H1.out.below HBa.out (Nat.le_refl _)) HBa.out.size (by have := HN0.out; have := HN1.out; omega) HP0.out HP1.out).mono ?_
      rintro e w2 ⟨A5, c5, rfl, how, hb2⟩
      have HOW := Lib.hid (how.at_)
      have HBb := Lib.hid (HBa.out.trans (hb2.mono HBa.out.size))
      have HRI := Lib.hid (Rws.writes_ris l0 l1 HK0.out HK1.out)
      have HNE := Lib.hid (fun w hw => Rws.writes_need (w := w) HK0.out HK1.out hw)
      have HLE := Lib.hid (Rws.writes_len l0 l1)
      have HOV := Lib.hid (Rws.over_writes l0 l1 HK0.out HK1.out)
      have HSF := Lib.hid (Rws.writes_self l1 HK1.out)
      obtain ⟨ws, hws⟩ : ∃ ws, Rws.writes l0 l1 = ws := ⟨_, rfl⟩
      rw [hws] at HOW HRI HNE HLE HOV ⊢
      obtain ⟨nw, hnw⟩ : ∃ n, ws.length = n := ⟨_, rfl⟩
      rw [hnw] at HOW HLE ⊢
      have hnl : nw ≤ 600 := by
        have h1 := HLE.out
        have h2 := H0.out.len
        have h3 := H1.out.len
        have := HN0.out
        have := HN1.out
        omega
      have HNW := Lib.hid hnw
      clear how hb2 hws hnw
      go_wp2_with fail
      refine (refOver_any w2.heap.size l0 ws a0 A5 n0 c0 nw c5 w2 ((H0.out.below HBb.out (Nat.le_refl _)).more HBb.out.size) HOW.out (Nat.le_refl _) (by have := HN0.out; omega)).mono ?_
      rintro e w3 ⟨A6, c6, rfl, hrow, hb3⟩
      rw [HOV.out] at hrow ⊢
      have HL1 := Lib.hid (H1.out.len)
      rw [HL1.out] at hrow ⊢
      have HS3 := Lib.hid (show SlR pairR w3 w3.heap.size A6 n1 c6 l1 by have h := RowP.slr (w := w3) (base := w2.heap.size) (B := w2.heap.size) (A := A6) (c := c6) (ps := l1) (by rw [HL1.out]; exact hrow) hb3.size; rw [HL1.out] at h; exact h)
      have HBc := Lib.hid (HBb.out.trans (hb3.mono HBb.out.size))
      have HOW3 := Lib.hid (HOW.out.keep (fun a ha => hb3.cell ha))
      have HBx := Lib.hid hb3.size
      clear hrow hb3
      go_wp2_with fail
      refine (refSame_any w3.heap.size l1 l1 A6 a1 n1 c6 n1 c1 w3 HS3.out ((H1.out.below HBc.out (Nat.le_refl _)).more HBc.out.size) (by have := HN1.out; omega)).mono ?_
      rintro e w4 ⟨rfl, q4, hq4⟩
      rw [eqB_true rfl]
      have HB34 := Lib.hid (show Below w3.heap.size w3 w4 by rw [hq4]; exact below_drewN (Below.refl _ _) q4)
      have HBd := Lib.hid (HBc.out.trans (HB34.out.mono HBc.out.size))
      have HOW4 := Lib.hid (HOW3.out.keep (fun a ha => HB34.out.cell (Nat.lt_of_lt_of_le ha HBx.out)))
      clear hq4
      go_wp2_with fail
      refine (writes_any W.heap.size l1 l1 a1 a1 n1 c1 n1 c1 w4 (H1.out.below HBd.out (Nat.le_refl _)) (H1.out.below HBd.out (Nat.le_refl _)) HBd.out.size (by have := HN1.out; omega) HP1.out HP1.out).mono ?_
      rintro e w5 ⟨A7, c7, rfl, _, hb5⟩
      rw [HSF.out, List.length_nil]
      have HBe := Lib.hid (HBd.out.trans (hb5.mono HBd.out.size))
      have HOW5 := Lib.hid (HOW4.out.keep (fun a ha => hb5.cell (Nat.lt_of_lt_of_le ha (Nat.le_trans HBx.out HB34.out.size))))
      clear hb5
      have k1 := HOW5.out.nc
      have k2 := HOW5.out.cm
      go_wp2_with fail
      go_loopw [6] (fun i wr => ∃ (j q : Nat), j ≤ nw ∧ i = .int .i64 j ∧ wr = w5.drewN q) (fun i _ => nw - (intOf i).toNat)
      case atStart => exact ⟨0, 0, Nat.zero_le _, rfl, rfl⟩
      case round =>
        obtain ⟨j, q, hj, rfl, rfl⟩ := hrel
        by_cases hlt : j < nw
        · have g4 : (0 : Int) ≤ (j : Int) := by omega
          have g5 : (j : Int) < (nw : Int) := by omega
          obtain ⟨y, hy⟩ : ∃ y, ws[j]? = some y := ⟨_, List.getElem?_eq_getElem (by rw [HNW.out]; exact hlt)⟩
          obtain ⟨b, off, A1, A2, c1', c2', hA, hb, s0, s1, s2, y1, y2⟩ := HOW5.out.row j y hy
          have hprev : j = 0 ∨ ∃ (i : Nat) (x : Rws.Wr) (A3 : Option Addr) (c3 : Nat), i + 1 = j ∧ w5.cell? ⟨b, off + i * 3, none⟩ = some (.slice A3 x.1.length c3) ∧ BytesAt w5 w2.heap.size A3 x.1.length c3 x.1 ∧ Op.bytesLess x.1 y.1 = true := by
            cases j with
            | zero => exact .inl rfl
            | succ i =>
              obtain ⟨x, hx⟩ : ∃ x, ws[i]? = some x := ⟨_, List.getElem?_eq_getElem (by rw [HNW.out]; omega)⟩
              obtain ⟨b', off', A3, _, c3, _, hA', _, r0, _, _, z1, _⟩ := HOW5.out.row i x hx
              rw [hA] at hA'
              injection hA' with e
              injection e with e1 e2
              subst e1 e2
              refine .inr ⟨i, x, A3, c3, rfl, r0, z1, ?_⟩
              have hl : Rws.lt x.1 y.1 := HRI.out.get (show i < i + 1 by omega) hx hy
              rw [less_order]
              exact decide_eq_true hl
          subst hA
          have HNY := Lib.hid (HNE.out y (List.mem_of_getElem? hy))
          have HY1 := Lib.hid y1
          have HY2 := Lib.hid y2
          have HPV := Lib.hid hprev
          obtain ⟨gone, hgone⟩ : ∃ gone, y.2.2 = gone := ⟨_, rfl⟩
          rw [hgone] at s2
          have HGO := Lib.hid hgone
          have HS0 := Lib.hid (fun q => (show (w5.drewN q).cell? ⟨b, off + j * 3, none⟩ = some (.slice A1 y.1.length c1') from s0))
          have HS1 := Lib.hid (fun q => (show (w5.drewN q).cell? ⟨b, off + j * 3 + 1, none⟩ = some (.slice A2 y.2.1.length c2') from s1))
          have HS2 := Lib.hid (fun q => (show (w5.drewN q).cell? ⟨b, off + j * 3 + 2, none⟩ = some (.bool gone) from s2))
          clear hy hb y1 y2 hprev hgone s0 s1 s2
          rcases HPV.out with h0 | ⟨i, x, A3, c3, hij, p0, z1, hless⟩
          · have e1 : decide ((0 : Int) < (j : Int)) = false := by simp; omega
            have e2 : decide (0 < j) = false := by simp; omega
            have HJ := Lib.hid h0
            have s0 := HS0.out q
            have s1 := HS1.out q
            have s2 := HS2.out q
            obtain ⟨wq, hwq⟩ : ∃ wq, w5.drewN q = wq := ⟨_, rfl⟩
            rw [hwq] at s0 s1 s2 ⊢
            have HWQ := Lib.hid hwq
            clear h0 hwq
            cases gone with
            | true =>
              have HVL := Lib.hid (show y.2.1.length = 0 by rw [(HNY.out).1 HGO.out]; rfl)
              rw [HVL.out] at s1 HS1
              go_wp2_with fail
              go_quiet (fail)
              obtain ⟨w7, hw7⟩ : ∃ w7, wq.drewN nq = w7 := ⟨_, rfl⟩
              have HW7 := Lib.hid (show ∃ q', w7 = w5.drewN q' by rw [← hw7, ← HWQ.out]; exact ⟨q + nq, by rw [World.drewN_drewN]⟩)
              rw [hw7]
              clear hw7
              clear e1 e2 s0 s1 s2
              go_wp2_with fail
              go_loopw [7] (fun i wr => ∃ (k q : Nat), k ≤ n0 ∧ i = .int .i64 k ∧ wr = w5.drewN q) (fun i _ => n0 - (intOf i).toNat)
              case atStart =>
                obtain ⟨q', hq'⟩ := HW7.out
                exact ⟨0, q', Nat.zero_le _, rfl, hq'⟩
              case round =>
                clear HW7
                obtain ⟨k, q, hk, rfl, rfl⟩ := hrel
                by_cases hlt2 : k < n0
                · have g6 : (0 : Int) ≤ (k : Int) := by omega
                  have g7 : (k : Int) < (n0 : Int) := by omega
                  obtain ⟨b2, off2, x, B1, B2, d1, d2, hA2, hbb2, hx, r0, r1, z1, z2⟩ := pair_at ((H0.out.below HBe.out (Nat.le_refl _)).drewN q) hlt2
                  subst hA2
                  have s2 := HS2.out q
                  obtain ⟨wq, hwq⟩ : ∃ wq, w5.drewN q = wq := ⟨_, rfl⟩
                  rw [hwq] at s2 ⊢
                  have HWQ := Lib.hid hwq
                  clear hx r0 r1 z1 z2 hbb2 hwq
                  go_wp2_with fail
                  go_quiet (fail)
                  obtain ⟨w7, hw7⟩ : ∃ w7, wq.drewN nq = w7 := ⟨_, rfl⟩
                  have HW7 := Lib.hid (show ∃ q', w7 = w5.drewN q' by rw [← hw7, ← HWQ.out]; exact ⟨q + nq, by rw [World.drewN_drewN]⟩)
                  rw [hw7]
                  clear hw7
                  go_wp2_with fail
                  go_roundw
                  case rel =>
                    obtain ⟨q', hq'⟩ := HW7.out
                    exact ⟨k + 1, q', by omega, by go_num, hq'⟩
                  case measure => simp [intOf]; omega
                · have g7 : ¬ ((k : Int) < (n0 : Int)) := by omega
                  go_wp2_with fail
                  go_roundw
                  case rel => exact ⟨j + 1, q, by omega, by go_num, rfl⟩
                  case measure => simp [intOf]; omega
            | false =>
              go_wp2_with fail
              go_quiet (fail)
              obtain ⟨w7, hw7⟩ : ∃ w7, wq.drewN nq = w7 := ⟨_, rfl⟩
              have HW7 := Lib.hid (show ∃ q', w7 = w5.drewN q' by rw [← hw7, ← HWQ.out]; exact ⟨q + nq, by rw [World.drewN_drewN]⟩)
              rw [hw7]
              clear hw7
              clear e1 e2 s0 s1 s2
              go_wp2_with fail
              go_loopw [7] (fun i wr => ∃ (k q : Nat), k ≤ n0 ∧ i = .int .i64 k ∧ wr = w5.drewN q) (fun i _ => n0 - (intOf i).toNat)
              case atStart =>
                obtain ⟨q', hq'⟩ := HW7.out
                exact ⟨0, q', Nat.zero_le _, rfl, hq'⟩
              case round =>
                clear HW7
                obtain ⟨k, q, hk, rfl, rfl⟩ := hrel
                by_cases hlt2 : k < n0
                · have g6 : (0 : Int) ≤ (k : Int) := by omega
                  have g7 : (k : Int) < (n0 : Int) := by omega
                  obtain ⟨b2, off2, x, B1, B2, d1, d2, hA2, hbb2, hx, r0, r1, z1, z2⟩ := pair_at ((H0.out.below HBe.out (Nat.le_refl _)).drewN q) hlt2
                  subst hA2
                  have s0 := HS0.out q
                  have s1 := HS1.out q
                  have s2 := HS2.out q
                  have f1 := fun k => run_string_of (P := Try.prog) (dst := 9) Try.underlying40 Try.underlying5 Try.underlying9 (z1.sl.drewN k)
                  have f2 := fun k => run_string_of (P := Try.prog) (dst := 9) Try.underlying40 Try.underlying5 Try.underlying9 (z2.sl.drewN k)
                  have f3 := fun k => run_string_of (P := Try.prog) (dst := 9) Try.underlying40 Try.underlying5 Try.underlying9 ((HY1.out.sl.drewN q).drewN k)
                  have f4 := fun k => run_string_of (P := Try.prog) (dst := 9) Try.underlying40 Try.underlying5 Try.underlying9 ((HY2.out.sl.drewN q).drewN k)
                  have HNX := Lib.hid ((HNY.out).2 x (List.mem_of_getElem? hx) HGO.out)
                  obtain ⟨wq, hwq⟩ : ∃ wq, w5.drewN q = wq := ⟨_, rfl⟩
                  rw [hwq] at s0 s1 s2 f1 f2 f3 f4 r0 r1 ⊢
                  have HWQ := Lib.hid hwq
                  clear hx z1 z2 hbb2 hwq
                  cases hke : (x.1 == y.1) with
                  | false =>
                    go_wp2_with fail
                    go_quiet (fail)
                    obtain ⟨w7, hw7⟩ : ∃ w7, wq.drewN nq = w7 := ⟨_, rfl⟩
                    have HW7 := Lib.hid (show ∃ q', w7 = w5.drewN q' by rw [← hw7, ← HWQ.out]; exact ⟨q + nq, by rw [World.drewN_drewN]⟩)
                    rw [hw7]
                    clear hw7
                    go_wp2_with fail
                    go_roundw
                    case rel =>
                      obtain ⟨q', hq'⟩ := HW7.out
                      exact ⟨k + 1, q', by omega, by go_num, hq'⟩
                    case measure => simp [intOf]; omega
                  | true =>
                    have hve : (x.2 == y.2.1) = false := by
                      cases h : (x.2 == y.2.1) with
                      | false => rfl
                      | true => exact (HNX.out (by simpa using hke) (by simpa using h)).elim
                    go_wp2_with fail
                    go_quiet (fail)
                    obtain ⟨w7, hw7⟩ : ∃ w7, wq.drewN nq = w7 := ⟨_, rfl⟩
                    have HW7 := Lib.hid (show ∃ q', w7 = w5.drewN q' by rw [← hw7, ← HWQ.out]; exact ⟨q + nq, by rw [World.drewN_drewN]⟩)
                    rw [hw7]
                    clear hw7
                    go_wp2_with fail
                    go_roundw
                    case rel =>
                      obtain ⟨q', hq'⟩ := HW7.out
                      exact ⟨k + 1, q', by omega, by go_num, hq'⟩
                    case measure => simp [intOf]; omega
                · have g7 : ¬ ((k : Int) < (n0 : Int)) := by omega
                  go_wp2_with fail
                  go_roundw
                  case rel => exact ⟨j + 1, q, by omega, by go_num, rfl⟩
                  case measure => simp [intOf]; omega
          · have e1 : decide ((0 : Int) < (j : Int)) = true := by simp; omega
            have e2 : decide (0 < j) = true := by simp; omega
            have e3 : IntKind.i64.wrap ((j : Int) - 1) = (i : Int) := by rw [IntKind.wrap_i64]; omega
            have e4 : (j : Int) - 1 = (i : Int) := by omega
            have e5 : (0 : Int) ≤ (i : Int) := by omega
            have e6 : (i : Int) < (nw : Int) := by omega
            have e7 : i < nw := by omega
            have e10 : IntKind.i64.wrap (i : Int) = (i : Int) := by rw [IntKind.wrap_i64]; omega
            have HJ := Lib.hid hij
            have s0 := HS0.out q
            have s1 := HS1.out q
            have s2 := HS2.out q
            have p0 : (w5.drewN q).cell? ⟨b, off + i * 3, none⟩ = some (.slice A3 x.1.length c3) := p0
            have k1' := fun k => run_string_of (P := Try.prog) (dst := 9) Try.underlying40 Try.underlying5 Try.underlying9 ((z1.sl.drewN q).drewN k)
            have k2' := fun k => run_string_of (P := Try.prog) (dst := 9) Try.underlying40 Try.underlying5 Try.underlying9 ((HY1.out.sl.drewN q).drewN k)
            obtain ⟨wq, hwq⟩ : ∃ wq, w5.drewN q = wq := ⟨_, rfl⟩
            rw [hwq] at s0 s1 s2 p0 k1' k2' ⊢
            have HWQ := Lib.hid hwq
            clear hij hwq z1
            cases gone with
            | true =>
              have HVL := Lib.hid (show y.2.1.length = 0 by rw [(HNY.out).1 HGO.out]; rfl)
              rw [HVL.out] at s1 HS1
              go_wp2_with fail
              go_quiet (fail)
              obtain ⟨w7, hw7⟩ : ∃ w7, wq.drewN nq = w7 := ⟨_, rfl⟩
              have HW7 := Lib.hid (show ∃ q', w7 = w5.drewN q' by rw [← hw7, ← HWQ.out]; exact ⟨q + nq, by rw [World.drewN_drewN]⟩)
              rw [hw7]
              clear hw7
              clear k1' k2' p0 hless e3 e4 e5 e6 e7 e10 e1 e2 s0 s1 s2
              go_wp2_with fail
              go_loopw [7] (fun i wr => ∃ (k q : Nat), k ≤ n0 ∧ i = .int .i64 k ∧ wr = w5.drewN q) (fun i _ => n0 - (intOf i).toNat)
              case atStart =>
                obtain ⟨q', hq'⟩ := HW7.out
                exact ⟨0, q', Nat.zero_le _, rfl, hq'⟩
              case round =>
                clear HW7
                obtain ⟨k, q, hk, rfl, rfl⟩ := hrel
                by_cases hlt2 : k < n0
                · have g6 : (0 : Int) ≤ (k : Int) := by omega
                  have g7 : (k : Int) < (n0 : Int) := by omega
                  obtain ⟨b2, off2, x, B1, B2, d1, d2, hA2, hbb2, hx, r0, r1, z1, z2⟩ := pair_at ((H0.out.below HBe.out (Nat.le_refl _)).drewN q) hlt2
                  subst hA2
                  have s2 := HS2.out q
                  obtain ⟨wq, hwq⟩ : ∃ wq, w5.drewN q = wq := ⟨_, rfl⟩
                  rw [hwq] at s2 ⊢
                  have HWQ := Lib.hid hwq
                  clear hx r0 r1 z1 z2 hbb2 hwq
                  go_wp2_with fail
                  go_quiet (fail)
                  obtain ⟨w7, hw7⟩ : ∃ w7, wq.drewN nq = w7 := ⟨_, rfl⟩
                  have HW7 := Lib.hid (show ∃ q', w7 = w5.drewN q' by rw [← hw7, ← HWQ.out]; exact ⟨q + nq, by rw [World.drewN_drewN]⟩)
                  rw [hw7]
                  clear hw7
                  go_wp2_with fail
                  go_roundw
                  case rel =>
                    obtain ⟨q', hq'⟩ := HW7.out
                    exact ⟨k + 1, q', by omega, by go_num, hq'⟩
                  case measure => simp [intOf]; omega
                · have g7 : ¬ ((k : Int) < (n0 : Int)) := by omega
                  go_wp2_with fail
                  go_roundw
                  case rel => exact ⟨j + 1, q, by omega, by go_num, rfl⟩
                  case measure => simp [intOf]; omega
            | false =>
              go_wp2_with fail
              go_quiet (fail)
              obtain ⟨w7, hw7⟩ : ∃ w7, wq.drewN nq = w7 := ⟨_, rfl⟩
              have HW7 := Lib.hid (show ∃ q', w7 = w5.drewN q' by rw [← hw7, ← HWQ.out]; exact ⟨q + nq, by rw [World.drewN_drewN]⟩)
              rw [hw7]
              clear hw7
              clear k1' k2' p0 hless e3 e4 e5 e6 e7 e10 e1 e2 s0 s1 s2
              go_wp2_with fail
              go_loopw [7] (fun i wr => ∃ (k q : Nat), k ≤ n0 ∧ i = .int .i64 k ∧ wr = w5.drewN q) (fun i _ => n0 - (intOf i).toNat)
              case atStart =>
                obtain ⟨q', hq'⟩ := HW7.out
                exact ⟨0, q', Nat.zero_le _, rfl, hq'⟩
              case round =>
                clear HW7
                obtain ⟨k, q, hk, rfl, rfl⟩ := hrel
                by_cases hlt2 : k < n0
                · have g6 : (0 : Int) ≤ (k : Int) := by omega
                  have g7 : (k : Int) < (n0 : Int) := by omega
                  obtain ⟨b2, off2, x, B1, B2, d1, d2, hA2, hbb2, hx, r0, r1, z1, z2⟩ := pair_at ((H0.out.below HBe.out (Nat.le_refl _)).drewN q) hlt2
                  subst hA2
                  have s0 := HS0.out q
                  have s1 := HS1.out q
                  have s2 := HS2.out q
                  have f1 := fun k => run_string_of (P := Try.prog) (dst := 9) Try.underlying40 Try.underlying5 Try.underlying9 (z1.sl.drewN k)
                  have f2 := fun k => run_string_of (P := Try.prog) (dst := 9) Try.underlying40 Try.underlying5 Try.underlying9 (z2.sl.drewN k)
                  have f3 := fun k => run_string_of (P := Try.prog) (dst := 9) Try.underlying40 Try.underlying5 Try.underlying9 ((HY1.out.sl.drewN q).drewN k)
                  have f4 := fun k => run_string_of (P := Try.prog) (dst := 9) Try.underlying40 Try.underlying5 Try.underlying9 ((HY2.out.sl.drewN q).drewN k)
                  have HNX := Lib.hid ((HNY.out).2 x (List.mem_of_getElem? hx) HGO.out)
                  obtain ⟨wq, hwq⟩ : ∃ wq, w5.drewN q = wq := ⟨_, rfl⟩
                  rw [hwq] at s0 s1 s2 f1 f2 f3 f4 r0 r1 ⊢
                  have HWQ := Lib.hid hwq
                  clear hx z1 z2 hbb2 hwq
                  cases hke : (x.1 == y.1) with
                  | false =>
                    go_wp2_with fail
                    go_quiet (fail)
                    obtain ⟨w7, hw7⟩ : ∃ w7, wq.drewN nq = w7 := ⟨_, rfl⟩
                    have HW7 := Lib.hid (show ∃ q', w7 = w5.drewN q' by rw [← hw7, ← HWQ.out]; exact ⟨q + nq, by rw [World.drewN_drewN]⟩)
                    rw [hw7]
                    clear hw7
                    go_wp2_with fail
                    go_roundw
                    case rel =>
                      obtain ⟨q', hq'⟩ := HW7.out
                      exact ⟨k + 1, q', by omega, by go_num, hq'⟩
                    case measure => simp [intOf]; omega
                  | true =>
                    have hve : (x.2 == y.2.1) = false := by
                      cases h : (x.2 == y.2.1) with
                      | false => rfl
                      | true => exact (HNX.out (by simpa using hke) (by simpa using h)).elim
                    go_wp2_with fail
                    go_quiet (fail)
                    obtain ⟨w7, hw7⟩ : ∃ w7, wq.drewN nq = w7 := ⟨_, rfl⟩
                    have HW7 := Lib.hid (show ∃ q', w7 = w5.drewN q' by rw [← hw7, ← HWQ.out]; exact ⟨q + nq, by rw [World.drewN_drewN]⟩)
                    rw [hw7]
                    clear hw7
                    go_wp2_with fail
                    go_roundw
                    case rel =>
                      obtain ⟨q', hq'⟩ := HW7.out
                      exact ⟨k + 1, q', by omega, by go_num, hq'⟩
                    case measure => simp [intOf]; omega
                · have g7 : ¬ ((k : Int) < (n0 : Int)) := by omega
                  go_wp2_with fail
                  go_roundw
                  case rel => exact ⟨j + 1, q, by omega, by go_num, rfl⟩
                  case measure => simp [intOf]; omega
        · have g5 : ¬ ((j : Int) < (nw : Int)) := by omega
          have HBf := Lib.hid (below_drewN HBe.out q)
          generalize w5.drewN q = w8 at HBf ⊢
          go_wp2_with fail
          refine (works_any _).mono ?_
          rintro e w9 ⟨rfl, hb9⟩
          have HBg := Lib.hid (HBf.out.trans (hb9.mono HBf.out.size))
          clear hb9
          go_wp2_with fail
          go_ret
          exact ⟨rfl, HBg.out⟩

end Go.Proofs.Ytniekddoaokmkaa

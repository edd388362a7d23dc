/-
  RowsRise: whether a state is small, walked.
-/
import Derived.Test.YtniekddoaokmkaaRowSmall
import Derived.Test.YtniekddoaokmkaaRiPlain
namespace Go.Proofs.Ytniekddoaokmkaa
open Go.RowKit Go.Gab
set_option linter.unusedVariables false
attribute [local go_sem ↓] Go.wp_at_zero Go.wp_at_succ

structure RoundSmall (r : Rws.Round) : Prop where
  ids : r.ids.length ≤ 300
  edges : r.edges.length ≤ 300
  flow : r.flow.length ≤ 300
  pot : r.pot.length ≤ 300
structure StSmall (s : Rws.St) : Prop where
  accts : s.accts.length ≤ 300
  dues : s.dues.length ≤ 300
  rounds : s.rounds.length ≤ 300
  asked : s.asked.length ≤ 300
  each : ∀ r ∈ s.rounds, RoundSmall r
  asks : ∀ a ∈ s.asked, a.ask.length ≤ 300 ∧ a.reply.length ≤ 300
theorem StSmall.rows {s : Rws.St} (h : StSmall s) : (Rws.rowsOf s).length ≤ 400000 := by
  have h1 := Rws.rowsOf_len s 300 (fun r hr => by
    have h1 := (h.each r hr).ids
    have h2 := (h.each r hr).edges
    have h3 := (h.each r hr).flow
    have h4 := (h.each r hr).pot
    omega)
  have := h.accts
  have := h.dues
  have := h.rounds
  have := h.asked
  omega
def SmallTo (s : Rws.St) (w : World) (e : Ending) (w' : World) : Prop := ∃ b, e = .returned (.bool b) ∧ (b = true → StSmall s) ∧ Below w.heap.size w w'
theorem SmallTo.no {s : Rws.St} {w w' : World} (h : Below w.heap.size w w') : SmallTo s w (.returned (.bool false)) w' := ⟨false, rfl, (fun e => by cases e), h⟩
theorem SmallTo.yes {s : Rws.St} {w w' : World} (hs : StSmall s) (h : Below w.heap.size w w') : SmallTo s w (.returned (.bool true)) w' := ⟨true, rfl, fun _ => hs, h⟩

set_option maxHeartbeats 4000000 in
set_option maxRecDepth 100000 in
theorem small_any (B : Nat) (s : Rws.St) {Aa Ad Ar Aq : Option Addr} {ca cd cr cq : Nat} (w : World) (hst : StAt w B s Aa Ad Ar Aq ca cd cr cq) (hB : B ≤ w.heap.size) :
    Calls Try.prog 17 #[.agg (stC s Aa Ad Ar Aq ca cd cr cq).toArray] w (SmallTo s w) := by
  have l0 : Below w.heap.size w (w.alloc (.cells (stC s Aa Ad Ar Aq ca cd cr cq).toArray 28)) := (Below.refl _ _).alloc (Nat.le_refl _) _
  have HL := Lib.hid l0
  have HS0 := Lib.hid (hst.below l0 hB)
  have m1 := hst.accts.nc
  have m2 := hst.accts.cm
  have m3 := hst.dues.nc
  have m4 := hst.dues.cm
  have m5 := hst.rounds.nc
  have m6 := hst.rounds.cm
  have m7 := hst.asked.nc
  have m8 := hst.asked.cm
  unfold stC at HL HS0 ⊢
  clear hst l0
  by_cases t1 : (20 : Int) < s.dues.length
  · go_enter Try.func17, Try.ntmps17
    go_wp2_with fail
    go_ret
    exact SmallTo.no HL.out
  by_cases t2 : (4 : Int) < s.rounds.length
  · go_enter Try.func17, Try.ntmps17
    go_wp2_with fail
    go_ret
    exact SmallTo.no HL.out
  by_cases t3 : (16 : Int) < s.accts.length
  · go_enter Try.func17, Try.ntmps17
    go_wp2_with fail
    go_ret
    exact SmallTo.no HL.out
  by_cases t4 : (40 : Int) < s.asked.length
  · go_enter Try.func17, Try.ntmps17
    go_wp2_with fail
    go_ret
    exact SmallTo.no HL.out
  have HB1 := Lib.hid (show s.dues.length ≤ 300 ∧ s.rounds.length ≤ 300 ∧ s.accts.length ≤ 300 ∧ s.asked.length ≤ 300 by omega)
  go_enter Try.func17, Try.ntmps17
  go_wp2_with fail
  have bS := Blk.new w 28 #[.int .i64 s.day, .slice Aa s.accts.length ca, .slice Ad s.dues.length cd, .int .u64 s.next, .slice Ar s.rounds.length cr, .int .u64 s.no, .slice Aq s.asked.length cq]
  generalize w.alloc (.cells #[.int .i64 s.day, .slice Aa s.accts.length ca, .slice Ad s.dues.length cd, .int .u64 s.next, .slice Ar s.rounds.length cr, .int .u64 s.no, .slice Aq s.asked.length cq] 28) = W1 at HL HS0 bS ⊢
  generalize w.heap.size = hs at bS ⊢
  have c4 := bS.cell 4
  have c6 := bS.cell 6
  simp only [List.getElem?_toArray, List.getElem?_cons_zero, List.getElem?_cons_succ] at c4 c6
  clear bS t1 t2 t3 t4
  go_loop [3] (fun i => ∃ j : Nat, j ≤ s.rounds.length ∧ i = .int .i64 j ∧ ∀ r ∈ s.rounds.take j, RoundSmall r) (fun i => s.rounds.length - (intOf i).toNat)
  case atStart => exact ⟨0, Nat.zero_le _, rfl, by rw [List.take_zero]; intro r hr; cases hr⟩
  case round =>
    obtain ⟨j, hj, rfl, hall⟩ := hrel
    have HALL := Lib.hid hall
    clear hall
    by_cases hlt : j < s.rounds.length
    · obtain ⟨b, off, x, Ai, Ae, Af, Ap, ci, ce, cf, cp, hA, hbb, hx, hra, q0, q1, q2, q3, q4, q5, q6, q7⟩ := round_at HS0.out.rounds hlt
      subst hA
      have n1 := hra.ids.nc
      have n2 := hra.ids.cm
      have n3 := hra.edges.nc
      have n4 := hra.edges.cm
      have n5 := hra.flow.nc
      have n6 := hra.flow.cm
      have n7 := hra.pot.nc
      have n8 := hra.pot.cm
      have HTK := Lib.hid (take_succ_of hx)
      have g4 : (0 : Int) ≤ (j : Int) := by omega
      have g5 : (j : Int) < (s.rounds.length : Int) := by omega
      clear hx hra hbb q0 q1 q2 q4
      by_cases t1 : (64 : Int) < x.ids.length
      · go_wp2_with fail
        go_ret
        exact SmallTo.no HL.out
      by_cases t2 : (100 : Int) < x.edges.length
      · go_wp2_with fail
        go_ret
        exact SmallTo.no HL.out
      by_cases t3 : (100 : Int) < x.flow.length
      · go_wp2_with fail
        go_ret
        exact SmallTo.no HL.out
      by_cases t4 : (40 : Int) < x.pot.length
      · go_wp2_with fail
        go_ret
        exact SmallTo.no HL.out
      have HX := Lib.hid (show RoundSmall x from ⟨by omega, by omega, by omega, by omega⟩)
      go_wp2_with fail
      go_round
      case rel => exact ⟨j + 1, by omega, by go_num, fun r hr => by
        rw [HTK.out] at hr
        rcases List.mem_append.1 hr with h | h
        · exact HALL.out r h
        · rw [List.mem_singleton] at h
          subst h
          exact HX.out⟩
      case measure => simp [intOf]; omega
    · have g5 : ¬ ((j : Int) < (s.rounds.length : Int)) := by omega
      have HALL2 := Lib.hid (show ∀ r ∈ s.rounds, RoundSmall r by have h := HALL.out; rw [List.take_of_length_le (by omega)] at h; exact h)
      clear HALL
      go_wp2_with fail
      go_loop [4] (fun i => ∃ j : Nat, j ≤ s.asked.length ∧ i = .int .i64 j ∧ ∀ a ∈ s.asked.take j, a.ask.length ≤ 300 ∧ a.reply.length ≤ 300) (fun i => s.asked.length - (intOf i).toNat)
      case atStart => exact ⟨0, Nat.zero_le _, rfl, by rw [List.take_zero]; intro r hr; cases hr⟩
      case round =>
        clear hlt g5 hj
        obtain ⟨j, hj, rfl, hall⟩ := hrel
        have HALL := Lib.hid hall
        clear hall
        by_cases hlt : j < s.asked.length
        · obtain ⟨b, off, x, A1, A2, d1, d2, hA, hbb, hx, q0, q1, q2, q3, _, _, y1, y2⟩ := asked_at HS0.out.asked hlt
          subst hA
          have n1 := y1.sl.nc
          have n2 := y1.sl.cm
          have n3 := y2.sl.nc
          have n4 := y2.sl.cm
          have HTK := Lib.hid (take_succ_of hx)
          have g4 : (0 : Int) ≤ (j : Int) := by omega
          have g5 : (j : Int) < (s.asked.length : Int) := by omega
          clear hx hbb y1 y2 q0 q1
          by_cases t1 : (300 : Int) < x.ask.length
          · go_wp2_with fail
            go_ret
            exact SmallTo.no HL.out
          by_cases t2 : (300 : Int) < x.reply.length
          · go_wp2_with fail
            go_ret
            exact SmallTo.no HL.out
          have HX := Lib.hid (show x.ask.length ≤ 300 ∧ x.reply.length ≤ 300 by omega)
          go_wp2_with fail
          go_round
          case rel => exact ⟨j + 1, by omega, by go_num, fun r hr => by
            rw [HTK.out] at hr
            rcases List.mem_append.1 hr with h | h
            · exact HALL.out r h
            · rw [List.mem_singleton] at h
              subst h
              exact HX.out⟩
          case measure => simp [intOf]; omega
        · have g5 : ¬ ((j : Int) < (s.asked.length : Int)) := by omega
          have HASK := Lib.hid (show ∀ a ∈ s.asked, a.ask.length ≤ 300 ∧ a.reply.length ≤ 300 by have h := HALL.out; rw [List.take_of_length_le (by omega)] at h; exact h)
          go_wp2_with fail
          go_ret
          exact SmallTo.yes ⟨HB1.out.2.2.1, HB1.out.1, HB1.out.2.1, HB1.out.2.2.2, HALL2.out, HASK.out⟩ HL.out

end Go.Proofs.Ytniekddoaokmkaa

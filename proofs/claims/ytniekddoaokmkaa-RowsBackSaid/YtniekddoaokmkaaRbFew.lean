/-
  RowsBack: whether a state may be gone through, walked.
-/
import Derived.Test.YtniekddoaokmkaaRiSmall
namespace Go.Proofs.Ytniekddoaokmkaa
open Go.RowKit Go.Gab
set_option linter.unusedVariables false
attribute [local go_sem ↓] Go.wp_at_zero Go.wp_at_succ

def FewTo (l : List Rws.Round) (w : World) (e : Ending) (w' : World) : Prop := ∃ b, e = .returned (.bool b) ∧ (b = true → l.length ≤ 300 ∧ ∀ r ∈ l, RoundSmall r) ∧ w' = w
theorem FewTo.no {l : List Rws.Round} {w : World} : FewTo l w (.returned (.bool false)) w := ⟨false, rfl, (fun e => by cases e), rfl⟩
theorem FewTo.yes {l : List Rws.Round} {w : World} (h : l.length ≤ 300 ∧ ∀ r ∈ l, RoundSmall r) : FewTo l w (.returned (.bool true)) w := ⟨true, rfl, fun _ => h, rfl⟩

set_option maxHeartbeats 4000000 in
set_option maxRecDepth 100000 in
theorem few21_any (B : Nat) (l : List Rws.Round) (A : Option Addr) (n c : Nat) (w : World) (hl : SlR roundR w B A n c l) :
    Calls Try.prog 32 #[.slice A n c] w (FewTo l w) := by
  have m1 := hl.nc
  have m2 := hl.cm
  have HL := Lib.hid hl
  have HLN := Lib.hid hl.len
  clear hl
  by_cases t1 : (12 : Int) < n
  · go_enter Try.func32, Try.ntmps32
    go_wp2_with fail
    go_ret
    exact FewTo.no
  have HN := Lib.hid (show n ≤ 300 by omega)
  go_enter Try.func32, Try.ntmps32
  go_wp2_with fail
  clear t1
  go_loop [3] (fun i => ∃ j : Nat, j ≤ n ∧ i = .int .i64 j ∧ ∀ r ∈ l.take j, RoundSmall r) (fun i => n - (intOf i).toNat)
  case atStart => exact ⟨0, Nat.zero_le _, rfl, by rw [List.take_zero]; intro r hr; cases hr⟩
  case round =>
    obtain ⟨j, hj, rfl, hall⟩ := hrel
    have HALL := Lib.hid hall
    clear hall
    by_cases hlt : j < n
    · obtain ⟨b, off, x, Ai, Ae, Af, Ap, ci, ce, cf, cp, hA, hbb, hx, hra, q0, q1, q2, q3, q4, q5, q6, q7⟩ := round_at HL.out hlt
      subst hA
      have n1 := hra.ids.nc
      have n2 := hra.ids.cm
      have n3 := hra.edges.nc
      have n4 := hra.edges.cm
      have n5 := hra.flow.nc
      have n6 := hra.flow.cm
      have n7 := hra.pot.nc
      have n8 := hra.pot.cm
      have HTK := Lib.hid (take_succ_of hx)
      have g4 : (0 : Int) ≤ (j : Int) := by omega
      have g5 : (j : Int) < (n : Int) := by omega
      clear hx hra hbb q0 q1 q2
      by_cases t1 : (300 : Int) < x.edges.length
      · go_wp2_with fail
        go_ret
        exact FewTo.no
      by_cases t2 : (300 : Int) < x.flow.length
      · go_wp2_with fail
        go_ret
        exact FewTo.no
      by_cases t3 : (100 : Int) < x.pot.length
      · go_wp2_with fail
        go_ret
        exact FewTo.no
      by_cases t4 : (100 : Int) < x.ids.length
      · go_wp2_with fail
        go_ret
        exact FewTo.no
      by_cases t5 : (100 : Int) < x.n
      · go_wp2_with fail
        go_ret
        exact FewTo.no
      have HX := Lib.hid (show RoundSmall x from ⟨by omega, by omega, by omega, by omega⟩)
      go_wp2_with fail
      go_round
      case rel => exact ⟨j + 1, by omega, by go_num, fun r hr => by
        rw [HTK.out] at hr
        rcases List.mem_append.1 hr with h | h
        · exact HALL.out r h
        · rw [List.mem_singleton] at h
          subst h
          exact HX.out⟩
      case measure => simp [intOf]; omega
    · have g5 : ¬ ((j : Int) < (n : Int)) := by omega
      have HALL2 := Lib.hid (show ∀ r ∈ l, RoundSmall r by have h := HALL.out; rw [List.take_of_length_le (by rw [HLN.out]; omega)] at h; exact h)
      clear HALL
      go_wp2_with fail
      go_ret
      exact FewTo.yes ⟨by rw [HLN.out]; exact HN.out, HALL2.out⟩

structure StFew (s : Rws.St) : Prop where
  accts : s.accts.length ≤ 300
  dues : s.dues.length ≤ 300
  rounds : s.rounds.length ≤ 300
  each : ∀ r ∈ s.rounds, RoundSmall r
def Few2To (s : Rws.St) (w : World) (e : Ending) (w' : World) : Prop := ∃ b, e = .returned (.bool b) ∧ (b = true → StFew s) ∧ Below w.heap.size w w'
theorem Few2To.no {s : Rws.St} {w w' : World} (h : Below w.heap.size w w') : Few2To s w (.returned (.bool false)) w' := ⟨false, rfl, (fun e => by cases e), h⟩

set_option maxHeartbeats 4000000 in
set_option maxRecDepth 100000 in
theorem few22_any (B : Nat) (s : Rws.St) {Aa Ad Ar Aq : Option Addr} {ca cd cr cq : Nat} (w : World) (hst : StAt w B s Aa Ad Ar Aq ca cd cr cq) (hB : B ≤ w.heap.size) :
    Calls Try.prog 18 #[.agg (stC s Aa Ad Ar Aq ca cd cr cq).toArray] w (Few2To s w) := by
  have l0 : Below w.heap.size w (w.alloc (.cells (stC s Aa Ad Ar Aq ca cd cr cq).toArray 28)) := (Below.refl _ _).alloc (Nat.le_refl _) _
  have HL := Lib.hid l0
  have HF := Lib.hid (few21_any B s.rounds Ar s.rounds.length cr _ (hst.below l0 hB).rounds)
  have m1 := hst.accts.nc
  have m2 := hst.accts.cm
  have m3 := hst.dues.nc
  have m4 := hst.dues.cm
  have m5 := hst.rounds.nc
  have m6 := hst.rounds.cm
  have m7 := hst.asked.nc
  have m8 := hst.asked.cm
  unfold stC at HL HF ⊢
  clear hst l0
  by_cases t1 : (s.accts.length : Int) ≤ 40
  · by_cases t2 : (s.dues.length : Int) ≤ 100
    · have HB1 := Lib.hid (show s.accts.length ≤ 300 ∧ s.dues.length ≤ 300 by omega)
      go_enter Try.func18, Try.ntmps18
      go_wp2_with fail
      refine HF.out.mono ?_
      rintro e w2 ⟨b, rfl, hb, rfl⟩
      have HBB := Lib.hid hb
      clear hb
      go_wp2_with fail
      go_ret
      exact ⟨b, rfl, fun e => ⟨HB1.out.1, HB1.out.2, (HBB.out e).1, (HBB.out e).2⟩, HL.out⟩
    · go_enter Try.func18, Try.ntmps18
      go_wp2_with fail
      go_ret
      exact Few2To.no HL.out
  · go_enter Try.func18, Try.ntmps18
    go_wp2_with fail
    go_ret
    exact Few2To.no HL.out

set_option maxHeartbeats 4000000 in
set_option maxRecDepth 100000 in
theorem few_any (B : Nat) (s : Rws.St) {Aa Ad Ar Aq : Option Addr} {ca cd cr cq : Nat} (w : World) (hst : StAt w B s Aa Ad Ar Aq ca cd cr cq) (hB : B ≤ w.heap.size) :
    Calls Try.prog 6 #[.agg (stC s Aa Ad Ar Aq ca cd cr cq).toArray] w (SmallTo s w) := by
  have l0 : Below w.heap.size w (w.alloc (.cells (stC s Aa Ad Ar Aq ca cd cr cq).toArray 28)) := (Below.refl _ _).alloc (Nat.le_refl _) _
  have HL := Lib.hid l0
  have HB0 := Lib.hid hB
  have HS0 := Lib.hid (hst.below l0 hB)
  have HF := Lib.hid (few22_any B s _ (hst.below l0 hB) (Nat.le_trans hB l0.size))
  have bS := Blk.new w 28 (stC s Aa Ad Ar Aq ca cd cr cq).toArray
  have m1 := hst.accts.nc
  have m2 := hst.accts.cm
  have m3 := hst.dues.nc
  have m4 := hst.dues.cm
  have m5 := hst.rounds.nc
  have m6 := hst.rounds.cm
  have m7 := hst.asked.nc
  have m8 := hst.asked.cm
  unfold stC at HL HS0 HF bS ⊢
  have HBS := Lib.hid bS
  clear hst l0 bS
  go_enter Try.func6, Try.ntmps6
  go_wp2_with fail
  generalize w.alloc (.cells #[.int .i64 s.day, .slice Aa s.accts.length ca, .slice Ad s.dues.length cd, .int .u64 s.next, .slice Ar s.rounds.length cr, .int .u64 s.no, .slice Aq s.asked.length cq] 28) = W1 at HL HS0 HF HBS ⊢
  refine HF.out.mono ?_
  rintro e w1 ⟨b, rfl, hb, hb1⟩
  have HBB := Lib.hid hb
  have HL1 := Lib.hid (HL.out.trans (hb1.mono HL.out.size))
  have HS1 := Lib.hid (HS0.out.below hb1 (Nat.le_trans HB0.out HL.out.size))
  have HBS1 := Lib.hid (HBS.out.below hb1 HBS.out.lt)
  have c6 := HBS1.out.cell 6
  generalize w.heap.size = hs at c6 ⊢
  simp only [List.getElem?_toArray, List.getElem?_cons_zero, List.getElem?_cons_succ] at c6
  clear hb hb1
  cases b with
  | false =>
    go_wp2_with fail
    go_ret
    exact SmallTo.no HL1.out
  | true =>
    by_cases t1 : (40 : Int) < s.asked.length
    · go_wp2_with fail
      go_ret
      exact SmallTo.no HL1.out
    have HN := Lib.hid (show s.asked.length ≤ 300 by omega)
    go_wp2_with fail
    clear t1
    go_loop [3] (fun i => ∃ j : Nat, j ≤ s.asked.length ∧ i = .int .i64 j ∧ ∀ a ∈ s.asked.take j, a.ask.length ≤ 300 ∧ a.reply.length ≤ 300) (fun i => s.asked.length - (intOf i).toNat)
    case atStart => exact ⟨0, Nat.zero_le _, rfl, by rw [List.take_zero]; intro r hr; cases hr⟩
    case round =>
      obtain ⟨j, hj, rfl, hall⟩ := hrel
      have HALL := Lib.hid hall
      clear hall
      by_cases hlt : j < s.asked.length
      · obtain ⟨b, off, x, A1, A2, d1, d2, hA, hbb, hx, q0, q1, q2, q3, _, _, y1, y2⟩ := asked_at HS1.out.asked hlt
        subst hA
        have n1 := y1.sl.nc
        have n2 := y1.sl.cm
        have n3 := y2.sl.nc
        have n4 := y2.sl.cm
        have HTK := Lib.hid (take_succ_of hx)
        have g4 : (0 : Int) ≤ (j : Int) := by omega
        have g5 : (j : Int) < (s.asked.length : Int) := by omega
        clear hx hbb y1 y2 q0 q1
        by_cases t1 : (300 : Int) < x.ask.length
        · go_wp2_with fail
          go_ret
          exact SmallTo.no HL1.out
        by_cases t2 : (300 : Int) < x.reply.length
        · go_wp2_with fail
          go_ret
          exact SmallTo.no HL1.out
        have HX := Lib.hid (show x.ask.length ≤ 300 ∧ x.reply.length ≤ 300 by omega)
        go_wp2_with fail
        go_round
        case rel => exact ⟨j + 1, by omega, by go_num, fun r hr => by
          rw [HTK.out] at hr
          rcases List.mem_append.1 hr with h | h
          · exact HALL.out r h
          · rw [List.mem_singleton] at h
            subst h
            exact HX.out⟩
        case measure => simp [intOf]; omega
      · have g5 : ¬ ((j : Int) < (s.asked.length : Int)) := by omega
        have HASK := Lib.hid (show ∀ a ∈ s.asked, a.ask.length ≤ 300 ∧ a.reply.length ≤ 300 by have h := HALL.out; rw [List.take_of_length_le (by omega)] at h; exact h)
        have HF3 := Lib.hid (HBB.out (by first | rfl | trivial))
        go_wp2_with fail
        go_ret
        exact SmallTo.yes ⟨HF3.out.accts, HF3.out.dues, HF3.out.rounds, HN.out, HF3.out.each, HASK.out⟩ HL1.out

end Go.Proofs.Ytniekddoaokmkaa

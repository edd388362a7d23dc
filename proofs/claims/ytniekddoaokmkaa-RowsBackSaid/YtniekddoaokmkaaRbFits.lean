/-
  RowsBack: whether a state fits, by the document, walked.
-/
import Derived.Test.YtniekddoaokmkaaRbSame
import Derived.Test.YtniekddoaokmkaaRowWhole
namespace Go.Proofs.Ytniekddoaokmkaa
open Go.RowKit Go.Gab Go.Sort
set_option linter.unusedVariables false
attribute [local go_sem ↓] Go.wp_at_zero Go.wp_at_succ

theorem octet_is {x : Int} {b : Bool} (hb : Rws.within x 255 = b) (w : World) : Calls Try.prog 19 #[.int .i64 x] w fun e w' => e = .returned (.bool b) ∧ w' = w := by
  have HZ := Lib.hid (show (decide (0 ≤ x) && decide (x ≤ 255)) = b from hb)
  clear hb
  by_cases h : 0 ≤ x
  · go_enter Try.func19, Try.ntmps19
    go_wp2_with fail
    go_ret
    exact ⟨ret_bool (by rw [← HZ.out, decide_eq_true h]; rfl), rfl⟩
  · go_enter Try.func19, Try.ntmps19
    go_wp2_with fail
    go_ret
    exact ⟨ret_bool (by rw [← HZ.out, decide_eq_false (by omega)]; rfl), rfl⟩

theorem below_of_drawn2 {w w' : World} (h : Drawn w w') : Below w.heap.size w w' := h.below (Below.refl _ _)
theorem cell_below2 {b : Nat} {w w' : World} (hb : Below b w w') {p : Addr} {v : Value} (hp : p.block < b) (h : w.cell? p = some v) : w'.cell? p = some v := (hb.cell hp).trans h
def FitsTo (s : Rws.St) (w : World) (e : Ending) (w' : World) : Prop := ∃ b, e = .returned (.bool b) ∧ (b = true → Rws.whole s = true) ∧ Below w.heap.size w w'
theorem FitsTo.no {s : Rws.St} {w w' : World} (h : Below w.heap.size w w') : FitsTo s w (.returned (.bool false)) w' := ⟨false, rfl, (fun e => by cases e), h⟩
theorem FitsTo.yes {s : Rws.St} {w w' : World} (hs : Rws.whole s = true) (h : Below w.heap.size w w') : FitsTo s w (.returned (.bool true)) w' := ⟨true, rfl, fun _ => hs, h⟩

set_option maxHeartbeats 16000000 in
set_option maxRecDepth 10000 in
theorem refFits_any (B : Nat) (s : Rws.St) {Aa Ad Ar Aq : Option Addr} {ca cd cr cq : Nat} (w : World) (hst : StAt w B s Aa Ad Ar Aq ca cd cr cq) (hB : B ≤ w.heap.size) :
    Calls Try.prog 7 #[.agg (stC s Aa Ad Ar Aq ca cd cr cq).toArray] w (FitsTo s w) := by
  have HW := Lib.hid (whole_eq s)
  have bS := Blk.new w 28 (stC s Aa Ad Ar Aq ca cd cr cq).toArray
  have l0 : Below w.heap.size w (w.alloc (.cells (stC s Aa Ad Ar Aq ca cd cr cq).toArray 28)) := (Below.refl _ _).alloc (Nat.le_refl _) _
  have HS0 := Lib.hid (hst.below l0 hB)
  have m1 := hst.accts.nc
  have m2 := hst.accts.cm
  have m3 := hst.dues.nc
  have m4 := hst.dues.cm
  have m5 := hst.rounds.nc
  have m6 := hst.rounds.cm
  have m7 := hst.asked.nc
  have m8 := hst.asked.cm
  unfold stC at bS l0 HS0 ⊢
  clear hst
  by_cases h1 : (256 : Int) < s.accts.length
  · have HL := Lib.hid l0
    clear bS l0
    go_enter Try.func7, Try.ntmps7
    go_wp2_with fail
    go_ret
    exact FitsTo.no HL.out
  by_cases h2 : (65535 : Int) < s.asked.length
  · have HL := Lib.hid l0
    clear bS l0
    go_enter Try.func7, Try.ntmps7
    go_wp2_with fail
    go_ret
    exact FitsTo.no HL.out
  rw [decide_eq_true (by omega : s.accts.length ≤ 256), decide_eq_true (by omega : s.asked.length ≤ 65535), Bool.true_and, Bool.true_and] at HW
  have hn1 : decide ((256 : Int) < s.accts.length) = false := by simp; omega
  have hn2 : decide ((65535 : Int) < s.asked.length) = false := by simp; omega
  clear h1 h2
  go_enter Try.func7, Try.ntmps7
  go_wp2_with fail
  clear hn1 hn2
  generalize w.alloc (.cells [.int .i64 s.day, .slice Aa s.accts.length ca, .slice Ad s.dues.length cd, .int .u64 s.next, .slice Ar s.rounds.length cr, .int .u64 s.no, .slice Aq s.asked.length cq].toArray 28) = W1 at bS l0 HS0
  obtain ⟨hs, hhs⟩ : ∃ h, w.heap.size = h := ⟨_, rfl⟩
  have HL0 := Lib.hid l0
  have HL0b := Lib.hid (show Below w.heap.size w W1 from l0)
  rw [hhs] at bS ⊢
  have HBS1 := Lib.hid bS
  have HB1 := Lib.hid (Nat.le_trans hB l0.size)
  clear bS l0 hhs
  go_loopw [3] (fun i wr => ∃ j : Nat, j ≤ s.dues.length ∧ i = .int .i64 j ∧ okD (s.dues.take j) = true ∧ Below W1.heap.size W1 wr) (fun i _ => s.dues.length - (intOf i).toNat)
  case atStart => exact ⟨0, Nat.zero_le _, rfl, by rw [List.take_zero]; rfl, Below.refl _ _⟩
  case round =>
    obtain ⟨j, hj, rfl, hok, hbel⟩ := hrel
    have HOK := Lib.hid hok
    have HBL := Lib.hid hbel
    by_cases hlt : j < s.dues.length
    · obtain ⟨b, off, x, hA, hbb, hx, q0, q1, q2, q3, q4, q5, q6, _⟩ := due_at (HS0.out.dues.below hbel HB1.out) hlt
      have HX := Lib.hid hx
      have hbs := HBS1.out.below hbel HBS1.out.lt
      have c1 := hbs.cell 2
      have c2 := (hbs.alloc (.cells #[.int .u64 x.id, .int .i64 x.frm, .int .i64 x.to, .int .i64 x.amt, .int .i64 x.wt, .int .i64 x.til, .bool x.held] 54)).cell 2
      simp only [List.getElem?_toArray, List.getElem?_cons_zero, List.getElem?_cons_succ] at c1 c2
      have hbx := Blk.new wr 54 #[.int .u64 x.id, .int .i64 x.frm, .int .i64 x.to, .int .i64 x.amt, .int .i64 x.wt, .int .i64 x.til, .bool x.held]
      have hal := hbel.alloc hbel.size (.cells #[.int .u64 x.id, .int .i64 x.frm, .int .i64 x.to, .int .i64 x.amt, .int .i64 x.wt, .int .i64 x.til, .bool x.held] 54)
      have HFIT := Lib.hid (show Rws.dueFits x = (Rws.within x.frm 255 && Rws.within x.to 255 && (decide (0 ≤ x.wt) && decide (x.wt ≤ 65535))) from rfl)
      obtain ⟨b1, hb1⟩ : ∃ b, Rws.within x.frm 255 = b := ⟨_, rfl⟩
      obtain ⟨b2, hb2⟩ : ∃ b, Rws.within x.to 255 = b := ⟨_, rfl⟩
      have H1 := Lib.hid hb1
      have H2 := Lib.hid hb2
      -- the one ahead
      have hprev : j = 0 ∧ okD (s.dues.take (j + 1)) = Rws.dueFits x ∨ ∃ (k : Nat) (p : Rws.Due), j = k + 1 ∧ wr.cell? ⟨b, off + k * 7, none⟩ = some (.int .u64 p.id) ∧ okD (s.dues.take (j + 1)) = (Rws.dueFits x && decide (p.id < x.id)) := by
        cases j with
        | zero => exact .inl ⟨rfl, okD_first hx⟩
        | succ k =>
          obtain ⟨b', off', p, hA', _, hp, r0, _⟩ := due_at (HS0.out.dues.below hbel HB1.out) (show k < s.dues.length by omega)
          rw [hA] at hA'
          injection hA' with e
          injection e with e1 e2
          subst e1 e2
          exact .inr ⟨k, p, rfl, r0, by rw [okD_step hp hx, hok, Bool.true_and]⟩
      subst hA
      have HIX := Lib.hid hprev
      have g4 : (0 : Int) ≤ (j : Int) := by omega
      have g5 : (j : Int) < (s.dues.length : Int) := by omega
      clear hx hbb hok hbel hb1 hb2 hbs hprev
      go_wp2_with fail
      have hcb := (Below.refl wr.heap.size wr).alloc (Nat.le_refl _) (.cells #[.int .u64 x.id, .int .i64 x.frm, .int .i64 x.to, .int .i64 x.amt, .int .i64 x.wt, .int .i64 x.til, .bool x.held] 54)
      generalize wr.alloc (.cells #[.int .u64 x.id, .int .i64 x.frm, .int .i64 x.to, .int .i64 x.amt, .int .i64 x.wt, .int .i64 x.til, .bool x.held] 54) = wo at hbx hal c2 hcb ⊢
      have HCB := Lib.hid hcb
      have d0 := hbx.cell 0
      have d1 := hbx.cell 1
      have d2 := hbx.cell 2
      have d4 := hbx.cell 4
      simp only [List.getElem?_toArray, List.getElem?_cons_zero, List.getElem?_cons_succ] at d0 d1 d2 d4
      have HAL := Lib.hid hal
      have HBW := Lib.hid (HL0.out.trans (hal.mono HL0.out.size))
      generalize wr.heap.size = hx at d0 d1 d2 d4 ⊢
      clear hcb hal hbx q0 q1 q2 q3 q4 q5 q6 c1 g4 g5
      cases b1 with
      | false =>
        go_quiet (with_reducible exact Calls.quiet_of_same (octet_is H1.out _))
        go_wp2_with fail
        go_ret
        exact FitsTo.no (below_drewN HBW.out _)
      | true =>
        cases b2 with
        | false =>
          go_quiet (first | with_reducible exact Calls.quiet_of_same (octet_is H1.out _) | with_reducible exact Calls.quiet_of_same (octet_is H2.out _))
          go_wp2_with fail
          go_ret
          exact FitsTo.no (below_drewN HBW.out _)
        | true =>
          by_cases t3 : x.wt < 0
          · have e3 : decide (x.wt < 0) = true := by simp; omega
            go_quiet (first | with_reducible exact Calls.quiet_of_same (octet_is H1.out _) | with_reducible exact Calls.quiet_of_same (octet_is H2.out _))
            go_wp2_with fail
            go_ret
            exact FitsTo.no (below_drewN HBW.out _)
          have e31 : decide (x.wt < 0) = false := by simp; omega
          by_cases t4 : 65535 < x.wt
          · have e4 : decide (65535 < x.wt) = true := by simp; omega
            go_quiet (first | with_reducible exact Calls.quiet_of_same (octet_is H1.out _) | with_reducible exact Calls.quiet_of_same (octet_is H2.out _))
            go_wp2_with fail
            go_ret
            exact FitsTo.no (below_drewN HBW.out _)
          have e41 : decide (65535 < x.wt) = false := by simp; omega
          have HFX := Lib.hid (show Rws.dueFits x = true by rw [HFIT.out, H1.out, H2.out, decide_eq_true (by omega : (0 : Int) ≤ x.wt), decide_eq_true (by omega : x.wt ≤ 65535)]; rfl)
          clear t3 t4
          rcases HIX.out with ⟨hj0, h⟩ | ⟨k, p, hjk, r0, h⟩
          · rw [HFX.out] at h
            have HNX := Lib.hid h
            have e1 : decide ((0 : Int) < (j : Int)) = false := by simp; omega
            have e2 : decide (0 < j) = false := by simp; omega
            clear h
            go_quiet (first | with_reducible exact Calls.quiet_of_same (octet_is H1.out _) | with_reducible exact Calls.quiet_of_same (octet_is H2.out _))
            clear e1 e2 e31 e41
            go_wp2_with fail
            go_roundw
            case rel => exact ⟨j + 1, by omega, by go_num, HNX.out, below_drewN HAL.out _⟩
            case measure => simp [intOf]; omega
          · rw [HFX.out, Bool.true_and] at h
            have r1 := cell_below HCB.out r0
            have HJK := Lib.hid hjk
            have e1 : decide ((0 : Int) < (j : Int)) = true := by simp; omega
            have e2 : decide (0 < j) = true := by simp; omega
            have e3 : IntKind.i64.wrap ((j : Int) - 1) = (k : Int) := by rw [IntKind.wrap_i64]; omega
            have e4 : (j : Int) - 1 = (k : Int) := by omega
            have e5 : (0 : Int) ≤ (k : Int) := by omega
            have e6 : (k : Int) < (s.dues.length : Int) := by omega
            clear r0 hjk
            by_cases hlt2 : p.id < x.id
            · rw [decide_eq_true hlt2] at h
              have HNX := Lib.hid h
              have e7 : decide (x.id ≤ p.id) = false := by simp; omega
              clear h
              go_quiet (first | with_reducible exact Calls.quiet_of_same (octet_is H1.out _) | with_reducible exact Calls.quiet_of_same (octet_is H2.out _))
              clear e1 e2 e3 e4 e5 e6 e7 e31 e41
              go_wp2_with fail
              go_roundw
              case rel => exact ⟨j + 1, by omega, by go_num, HNX.out, below_drewN HAL.out _⟩
              case measure => simp [intOf]; omega
            · have e7 : decide (x.id ≤ p.id) = true := by simp; omega
              clear h
              go_quiet (first | with_reducible exact Calls.quiet_of_same (octet_is H1.out _) | with_reducible exact Calls.quiet_of_same (octet_is H2.out _))
              clear e1 e2 e3 e4 e5 e6 e7 e31 e41
              go_wp2_with fail
              go_ret
              exact FitsTo.no (below_drewN HBW.out _)
    · obtain ⟨rfl⟩ : s.dues.length = j := by omega
      have hdn : okD s.dues = true := by rw [List.take_of_length_le (Nat.le_refl _)] at hok; exact hok
      have HWD := Lib.hid (show Rws.whole s = (okR s.rounds && !(s.asked.any fun x => !decide (x.ask.length ≤ 65535))) by rw [HW.out, hdn, Bool.true_and])
      have hbs := HBS1.out.below hbel HBS1.out.lt
      have c2 := hbs.cell 2
      have c4 := hbs.cell 4
      simp only [List.getElem?_toArray, List.getElem?_cons_zero, List.getElem?_cons_succ] at c2 c4
      clear hok hdn hbs hbel HOK
      obtain ⟨wd, rfl⟩ : ∃ wd : World, wd = wr := ⟨_, rfl⟩
      go_wp2_with fail
      -- rounds
      clear c2 c4
      go_loopw [5] (fun i wr => ∃ j : Nat, j ≤ s.rounds.length ∧ i = .int .i64 j ∧ okR (s.rounds.take j) = true ∧ Below W1.heap.size W1 wr) (fun i _ => s.rounds.length - (intOf i).toNat)
      case atStart => exact ⟨0, Nat.zero_le _, rfl, by rw [List.take_zero]; rfl, HBL.out⟩
      case round =>
        clear HBL
        obtain ⟨j, hj, rfl, hok, hbel⟩ := hrel
        have HOK := Lib.hid hok
        have HBL := Lib.hid hbel
        have hbs := HBS1.out.below hbel HBS1.out.lt
        have c4 := hbs.cell 4
        have c6 := hbs.cell 6
        simp only [List.getElem?_toArray, List.getElem?_cons_zero, List.getElem?_cons_succ] at c4 c6
        by_cases hlt : j < s.rounds.length
        · obtain ⟨b, off, x, Ai, Ae, Af, Ap, ci, ce, cf, cp, hA, hbb, hx, hra, q0, q1, q2, q3, q4, q5, q6, q7⟩ := round_at (HS0.out.rounds.below hbel HB1.out) hlt
          have hbs2 := hbs.alloc (.cells #[.int .u64 x.no, .int .i64 x.day, .bool x.comp, .slice Ai x.ids.length ci, .int .i64 x.n, .slice Ae x.edges.length ce, .slice Af x.flow.length cf, .slice Ap x.pot.length cp] 64)
          have hbx := Blk.new wr 64 #[.int .u64 x.no, .int .i64 x.day, .bool x.comp, .slice Ai x.ids.length ci, .int .i64 x.n, .slice Ae x.edges.length ce, .slice Af x.flow.length cf, .slice Ap x.pot.length cp]
          have hal := hbel.alloc hbel.size (.cells #[.int .u64 x.no, .int .i64 x.day, .bool x.comp, .slice Ai x.ids.length ci, .int .i64 x.n, .slice Ae x.edges.length ce, .slice Af x.flow.length cf, .slice Ap x.pot.length cp] 64)
          have hcb := (Below.refl wr.heap.size wr).alloc (Nat.le_refl _) (.cells #[.int .u64 x.no, .int .i64 x.day, .bool x.comp, .slice Ai x.ids.length ci, .int .i64 x.n, .slice Ae x.edges.length ce, .slice Af x.flow.length cf, .slice Ap x.pot.length cp] 64)
          have hra2 := (hra.below hcb (Nat.le_trans HB1.out hbel.size)).more (show B ≤ (wr.alloc (.cells #[.int .u64 x.no, .int .i64 x.day, .bool x.comp, .slice Ai x.ids.length ci, .int .i64 x.n, .slice Ae x.edges.length ce, .slice Af x.flow.length cf, .slice Ap x.pot.length cp] 64)).heap.size from Nat.le_trans HB1.out hal.size)
          obtain ⟨b1, hb1⟩ : ∃ b, Rws.within x.n 255 = b := ⟨_, rfl⟩
          have H1 := Lib.hid hb1
          have HFIT := Lib.hid (show Rws.roundFits x = (Rws.within x.n 255 && decide (max (max (max x.edges.length x.ids.length) x.flow.length) x.pot.length ≤ 65535) && x.edges.all Rws.edgeFits) from rfl)
          have hprev : j = 0 ∧ okR (s.rounds.take (j + 1)) = Rws.roundFits x ∨ ∃ (k : Nat) (p : Rws.Round), j = k + 1 ∧ wr.cell? ⟨b, off + k * 8, none⟩ = some (.int .u64 p.no) ∧ okR (s.rounds.take (j + 1)) = (Rws.roundFits x && decide (p.no < x.no)) := by
            cases j with
            | zero => exact .inl ⟨rfl, okR_first hx⟩
            | succ k =>
              obtain ⟨b', off', p, _, _, _, _, _, _, _, _, hA', _, hp, _, r0, _⟩ := round_at (HS0.out.rounds.below hbel HB1.out) (show k < s.rounds.length by omega)
              rw [hA] at hA'
              injection hA' with e
              injection e with e1 e2
              subst e1 e2
              exact .inr ⟨k, p, rfl, r0, by rw [okR_step hp hx, hok, Bool.true_and]⟩
          subst hA
          have HIX := Lib.hid hprev
          have HOB := Lib.hid (show b < wr.heap.size from Nat.lt_of_lt_of_le hbb (Nat.le_trans HB1.out hbel.size))
          have g4 : (0 : Int) ≤ (j : Int) := by omega
          have g5 : (j : Int) < (s.rounds.length : Int) := by omega
          have n1 := hra.ids.nc
          have n2 := hra.ids.cm
          have n3 := hra.edges.nc
          have n4 := hra.edges.cm
          have n5 := hra.flow.nc
          have n6 := hra.flow.cm
          have n7 := hra.pot.nc
          have n8 := hra.pot.cm
          clear hx hra hok hb1 hprev hbel hbb hbs c6
          go_wp2_with fail
          have hob : b < wr.heap.size := HOB.out
          have hos : wr.heap.size ≤ (wr.alloc (.cells #[.int .u64 x.no, .int .i64 x.day, .bool x.comp, .slice Ai x.ids.length ci, .int .i64 x.n, .slice Ae x.edges.length ce, .slice Af x.flow.length cf, .slice Ap x.pot.length cp] 64)).heap.size := hcb.size
          generalize wr.alloc (.cells #[.int .u64 x.no, .int .i64 x.day, .bool x.comp, .slice Ai x.ids.length ci, .int .i64 x.n, .slice Ae x.edges.length ce, .slice Af x.flow.length cf, .slice Ap x.pot.length cp] 64) = wo at hbx hal hbs2 hcb hra2 hos hob ⊢
          have HCB := Lib.hid hcb
          have HBX := Lib.hid hbx
          have HAL := Lib.hid hal
          have HRA := Lib.hid hra2
          have HOS := Lib.hid hos
          have HBW := Lib.hid (HL0b.out.trans (hal.mono HL0b.out.size))
          have d0 := hbx.cell 0
          have d3 := hbx.cell 3
          have d4 := hbx.cell 4
          have d5 := hbx.cell 5
          have d6 := hbx.cell 6
          have d7 := hbx.cell 7
          have s4 := hbs2.cell 4
          simp only [List.getElem?_toArray, List.getElem?_cons_zero, List.getElem?_cons_succ] at d0 d3 d4 d5 d6 d7 s4
          have HB9 := Lib.hid hob
          clear hob HOB
          generalize wr.heap.size = hx at HB9 hbx HBX HCB HOS d0 d3 d4 d5 d6 d7 ⊢
          clear hcb hal hbx hbs2 hra2 hos q0 q1 q2 q3 q4 q5 q6 q7 c4 g4 g5
          cases b1 with
          | false =>
            go_quiet (with_reducible exact Calls.quiet_of_same (octet_is H1.out _))
            go_wp2_with fail
            go_ret
            exact FitsTo.no (below_drewN HBW.out _)
          | true =>
            by_cases t1 : (65535 : Int) < x.edges.length
            · have u1 : decide ((65535 : Int) < x.edges.length) = true := by simp; omega
              go_quiet (with_reducible exact Calls.quiet_of_same (octet_is H1.out _))
              go_wp2_with fail
              go_ret
              exact FitsTo.no (below_drewN HBW.out _)
            have u1 : decide ((65535 : Int) < x.edges.length) = false := by simp; omega
            by_cases t2 : (65535 : Int) < x.ids.length
            · have u2 : decide ((65535 : Int) < x.ids.length) = true := by simp; omega
              go_quiet (with_reducible exact Calls.quiet_of_same (octet_is H1.out _))
              go_wp2_with fail
              go_ret
              exact FitsTo.no (below_drewN HBW.out _)
            have u2 : decide ((65535 : Int) < x.ids.length) = false := by simp; omega
            by_cases t3 : (65535 : Int) < x.flow.length
            · have u3 : decide ((65535 : Int) < x.flow.length) = true := by simp; omega
              go_quiet (with_reducible exact Calls.quiet_of_same (octet_is H1.out _))
              go_wp2_with fail
              go_ret
              exact FitsTo.no (below_drewN HBW.out _)
            have u3 : decide ((65535 : Int) < x.flow.length) = false := by simp; omega
            by_cases t4 : (65535 : Int) < x.pot.length
            · have u4 : decide ((65535 : Int) < x.pot.length) = true := by simp; omega
              go_quiet (with_reducible exact Calls.quiet_of_same (octet_is H1.out _))
              go_wp2_with fail
              go_ret
              exact FitsTo.no (below_drewN HBW.out _)
            have u4 : decide ((65535 : Int) < x.pot.length) = false := by simp; omega
            have HFX := Lib.hid (show x.edges.all Rws.edgeFits = true → Rws.roundFits x = true by intro he; rw [HFIT.out, H1.out, he, decide_eq_true (by omega)]; rfl)
            clear t1 t2 t3 t4
            rcases HIX.out with ⟨hj0, h⟩ | ⟨k, p, hjk, r0, h⟩
            · have HNX := Lib.hid h
              have e1 : decide ((0 : Int) < (j : Int)) = false := by simp; omega
              have e2 : decide (0 < j) = false := by simp; omega
              clear h hj0
              go_quiet (with_reducible exact Calls.quiet_of_same (octet_is H1.out _))
              clear e1 e2 u1 u2 u3 u4 d0 d3 d4 d5 d6 d7 s4 n1 n2 n5 n6 n7 n8
              have HAL9 := Lib.hid (below_drewN HAL.out nq)
              have HBX9 := Lib.hid (HBX.out.below (below_drewN (Below.refl wo.heap.size wo) nq) HBX.out.lt)
              have HRA9 := Lib.hid (HRA.out.below (below_drewN (Below.refl wo.heap.size wo) nq) (Nat.le_refl _))
              have HBW9 := Lib.hid (below_drewN HBW.out nq)
              have HOS9 := Lib.hid (Nat.le_trans HOS.out (below_drewN (Below.refl wo.heap.size wo) nq).size)
              generalize wo.drewN nq = w9 at HAL9 HBX9 HRA9 HBW9 HOS9 ⊢
              have c5 := HBX9.out.cell 5
              simp only [List.getElem?_toArray, List.getElem?_cons_zero, List.getElem?_cons_succ] at c5
              go_wp2_with fail
              clear c5
              obtain ⟨w8, rfl⟩ : ∃ w8, w8 = wr := ⟨_, rfl⟩
              go_loopw [7] (fun i wr => ∃ (m : Nat), m ≤ x.edges.length ∧ i = .int .i64 m ∧ (x.edges.take m).all Rws.edgeFits = true ∧ Drawn w9 wr) (fun i _ => x.edges.length - (intOf i).toNat)
              case atStart => exact ⟨0, Nat.zero_le _, rfl, by rw [List.take_zero]; rfl, Drawn.refl _⟩
              case round =>
                obtain ⟨m, hm, rfl, hall, hd⟩ := hrel
                have HALL := Lib.hid hall
                have HD := Lib.hid hd
                have c5 := (HBX9.out.below (below_of_drawn2 hd) HBX9.out.lt).cell 5
                simp only [List.getElem?_toArray, List.getElem?_cons_zero, List.getElem?_cons_succ] at c5
                by_cases hlm : m < x.edges.length
                · obtain ⟨b2, off2, z, hA2, hbb2, hz, r0, r1, r2, r3, _⟩ := edge_at (hd.slr HRA9.out.edges) hlm
                  subst hA2
                  have HTK := Lib.hid (show (x.edges.take (m + 1)).all Rws.edgeFits = (Rws.within z.frm 255 && Rws.within z.to 255) by rw [take_succ_of hz, List.all_append, hall, Bool.true_and]; simp [Rws.edgeFits])
                  obtain ⟨f1, hf1⟩ : ∃ f, Rws.within z.frm 255 = f := ⟨_, rfl⟩
                  obtain ⟨f2, hf2⟩ : ∃ f, Rws.within z.to 255 = f := ⟨_, rfl⟩
                  have E1 := Lib.hid hf1
                  have E2 := Lib.hid hf2
                  have i4 : (0 : Int) ≤ (m : Int) := by omega
                  have i5 : (m : Int) < (x.edges.length : Int) := by omega
                  have HBD := Lib.hid (hd.below HBW9.out)
                  clear hz hf1 hf2 hall hd hbb2 r2 r3
                  cases f1 with
                  | false =>
                    go_wp2_with fail
                    refine (octet_is E1.out _).mono ?_
                    rintro e w5 ⟨rfl, hw⟩
                    subst hw
                    go_wp2_with fail
                    go_ret
                    exact FitsTo.no HBD.out
                  | true =>
                    cases f2 with
                    | false =>
                      go_wp2_with fail
                      refine (octet_is E1.out _).mono ?_
                      rintro e w5 ⟨rfl, hw⟩
                      subst hw
                      go_wp2_with fail
                      refine (octet_is E2.out _).mono ?_
                      rintro e w5 ⟨rfl, hw⟩
                      subst hw
                      go_wp2_with fail
                      go_ret
                      exact FitsTo.no HBD.out
                    | true =>
                      have HNXT := Lib.hid (show (x.edges.take (m + 1)).all Rws.edgeFits = true by rw [HTK.out, E1.out, E2.out]; rfl)
                      go_wp2_with fail
                      refine (octet_is E1.out _).mono ?_
                      rintro e w5 ⟨rfl, hw⟩
                      subst hw
                      go_wp2_with fail
                      refine (octet_is E2.out _).mono ?_
                      rintro e w5 ⟨rfl, hw⟩
                      subst hw
                      go_wp2_with fail
                      go_roundw
                      case rel => exact ⟨m + 1, by omega, by go_num, HNXT.out, HD.out⟩
                      case measure => simp [intOf]; omega
                · have i5 : ¬ ((m : Int) < (x.edges.length : Int)) := by omega
                  have HEF := Lib.hid (show x.edges.all Rws.edgeFits = true by have h := HALL.out; rw [List.take_of_length_le (by omega)] at h; exact h)
                  have HNX2 := Lib.hid (show okR (s.rounds.take (j + 1)) = true by rw [HNX.out, HFX.out HEF.out])
                  have HBE := Lib.hid (show Below W1.heap.size W1 wr from hd.below HAL9.out)
                  clear hall hd HALL
                  go_wp2_with fail
                  go_roundw
                  case rel => exact ⟨j + 1, by omega, by go_num, HNX2.out, HBE.out⟩
                  case measure => simp [intOf]; omega
            · have r1 := cell_below2 HCB.out HB9.out r0
              have e1 : decide ((0 : Int) < (j : Int)) = true := by simp; omega
              have e2 : decide (0 < j) = true := by simp; omega
              have e3 : IntKind.i64.wrap ((j : Int) - 1) = (k : Int) := by rw [IntKind.wrap_i64]; omega
              have e4 : (j : Int) - 1 = (k : Int) := by omega
              have e5 : (0 : Int) ≤ (k : Int) := by omega
              have e6 : (k : Int) < (s.rounds.length : Int) := by omega
              clear r0 hjk
              by_cases hlt2 : p.no < x.no
              · rw [decide_eq_true hlt2, Bool.and_true] at h
                have HNX := Lib.hid h
                have e7 : decide (x.no ≤ p.no) = false := by simp; omega
                clear h
                go_quiet (with_reducible exact Calls.quiet_of_same (octet_is H1.out _))
                clear e1 e2 e3 e4 e5 e6 e7 u1 u2 u3 u4 d0 d3 d4 d5 d6 d7 s4 r1 n1 n2 n5 n6 n7 n8
                have HAL9 := Lib.hid (below_drewN HAL.out nq)
                have HBX9 := Lib.hid (HBX.out.below (below_drewN (Below.refl wo.heap.size wo) nq) HBX.out.lt)
                have HRA9 := Lib.hid (HRA.out.below (below_drewN (Below.refl wo.heap.size wo) nq) (Nat.le_refl _))
                have HBW9 := Lib.hid (below_drewN HBW.out nq)
                have HOS9 := Lib.hid (Nat.le_trans HOS.out (below_drewN (Below.refl wo.heap.size wo) nq).size)
                generalize wo.drewN nq = w9 at HAL9 HBX9 HRA9 HBW9 HOS9 ⊢
                have c5 := HBX9.out.cell 5
                simp only [List.getElem?_toArray, List.getElem?_cons_zero, List.getElem?_cons_succ] at c5
                go_wp2_with fail
                clear c5
                obtain ⟨w8, rfl⟩ : ∃ w8, w8 = wr := ⟨_, rfl⟩
                go_loopw [7] (fun i wr => ∃ (m : Nat), m ≤ x.edges.length ∧ i = .int .i64 m ∧ (x.edges.take m).all Rws.edgeFits = true ∧ Drawn w9 wr) (fun i _ => x.edges.length - (intOf i).toNat)
                case atStart => exact ⟨0, Nat.zero_le _, rfl, by rw [List.take_zero]; rfl, Drawn.refl _⟩
                case round =>
                  obtain ⟨m, hm, rfl, hall, hd⟩ := hrel
                  have HALL := Lib.hid hall
                  have HD := Lib.hid hd
                  have c5 := (HBX9.out.below (below_of_drawn2 hd) HBX9.out.lt).cell 5
                  simp only [List.getElem?_toArray, List.getElem?_cons_zero, List.getElem?_cons_succ] at c5
                  by_cases hlm : m < x.edges.length
                  · obtain ⟨b2, off2, z, hA2, hbb2, hz, r0, r1, r2, r3, _⟩ := edge_at (hd.slr HRA9.out.edges) hlm
                    subst hA2
                    have HTK := Lib.hid (show (x.edges.take (m + 1)).all Rws.edgeFits = (Rws.within z.frm 255 && Rws.within z.to 255) by rw [take_succ_of hz, List.all_append, hall, Bool.true_and]; simp [Rws.edgeFits])
                    obtain ⟨f1, hf1⟩ : ∃ f, Rws.within z.frm 255 = f := ⟨_, rfl⟩
                    obtain ⟨f2, hf2⟩ : ∃ f, Rws.within z.to 255 = f := ⟨_, rfl⟩
                    have E1 := Lib.hid hf1
                    have E2 := Lib.hid hf2
                    have i4 : (0 : Int) ≤ (m : Int) := by omega
                    have i5 : (m : Int) < (x.edges.length : Int) := by omega
                    have HBD := Lib.hid (hd.below HBW9.out)
                    clear hz hf1 hf2 hall hd hbb2 r2 r3
                    cases f1 with
                    | false =>
                      go_wp2_with fail
                      refine (octet_is E1.out _).mono ?_
                      rintro e w5 ⟨rfl, hw⟩
                      subst hw
                      go_wp2_with fail
                      go_ret
                      exact FitsTo.no HBD.out
                    | true =>
                      cases f2 with
                      | false =>
                        go_wp2_with fail
                        refine (octet_is E1.out _).mono ?_
                        rintro e w5 ⟨rfl, hw⟩
                        subst hw
                        go_wp2_with fail
                        refine (octet_is E2.out _).mono ?_
                        rintro e w5 ⟨rfl, hw⟩
                        subst hw
                        go_wp2_with fail
                        go_ret
                        exact FitsTo.no HBD.out
                      | true =>
                        have HNXT := Lib.hid (show (x.edges.take (m + 1)).all Rws.edgeFits = true by rw [HTK.out, E1.out, E2.out]; rfl)
                        go_wp2_with fail
                        refine (octet_is E1.out _).mono ?_
                        rintro e w5 ⟨rfl, hw⟩
                        subst hw
                        go_wp2_with fail
                        refine (octet_is E2.out _).mono ?_
                        rintro e w5 ⟨rfl, hw⟩
                        subst hw
                        go_wp2_with fail
                        go_roundw
                        case rel => exact ⟨m + 1, by omega, by go_num, HNXT.out, HD.out⟩
                        case measure => simp [intOf]; omega
                  · have i5 : ¬ ((m : Int) < (x.edges.length : Int)) := by omega
                    have HEF := Lib.hid (show x.edges.all Rws.edgeFits = true by have h := HALL.out; rw [List.take_of_length_le (by omega)] at h; exact h)
                    have HNX2 := Lib.hid (show okR (s.rounds.take (j + 1)) = true by rw [HNX.out, HFX.out HEF.out])
                    have HBE := Lib.hid (show Below W1.heap.size W1 wr from hd.below HAL9.out)
                    clear hall hd HALL
                    go_wp2_with fail
                    go_roundw
                    case rel => exact ⟨j + 1, by omega, by go_num, HNX2.out, HBE.out⟩
                    case measure => simp [intOf]; omega
              · have e7 : decide (x.no ≤ p.no) = true := by simp; omega
                clear h
                go_quiet (with_reducible exact Calls.quiet_of_same (octet_is H1.out _))
                go_wp2_with fail
                go_ret
                exact FitsTo.no (below_drewN HBW.out _)
        · obtain ⟨rfl⟩ : s.rounds.length = j := by omega
          have hdn : okR s.rounds = true := by rw [List.take_of_length_le (Nat.le_refl _)] at hok; exact hok
          have HWR := Lib.hid (show Rws.whole s = !(s.asked.any fun x => !decide (x.ask.length ≤ 65535)) by rw [HWD.out, hdn, Bool.true_and])
          have HBF := Lib.hid (HL0b.out.trans (hbel.mono HL0b.out.size))
          have HSF := Lib.hid (HS0.out.asked.below hbel HB1.out)
          clear hok hdn hbs hbel HOK
          obtain ⟨wf, rfl⟩ : ∃ wf : World, wf = wr := ⟨_, rfl⟩
          go_wp2_with fail
          clear c4 hlt
          go_loop [8] (fun i => ∃ m : Nat, m ≤ s.asked.length ∧ i = .int .i64 m ∧ ∀ a ∈ s.asked.take m, a.ask.length ≤ 65535) (fun i => s.asked.length - (intOf i).toNat)
          case atStart => exact ⟨0, Nat.zero_le _, rfl, by rw [List.take_zero]; intro r hr; cases hr⟩
          case round =>
            obtain ⟨m, hm, rfl, hall⟩ := hrel
            have HALL := Lib.hid hall
            clear hall
            by_cases hlm : m < s.asked.length
            · obtain ⟨b, off, x, A1, A2, d1, d2, hA, hbb, hx, q0, q1, q2, q3, _, _, y1, y2⟩ := asked_at HSF.out hlm
              subst hA
              have n1 := y1.sl.nc
              have n2 := y1.sl.cm
              have HTK := Lib.hid (take_succ_of hx)
              have g4 : (0 : Int) ≤ (m : Int) := by omega
              have g5 : (m : Int) < (s.asked.length : Int) := by omega
              clear hx hbb y1 y2 q0 q1 q3
              by_cases t1 : (65535 : Int) < x.ask.length
              · go_wp2_with fail
                go_ret
                exact FitsTo.no HBF.out
              have HX := Lib.hid (show x.ask.length ≤ 65535 by omega)
              go_wp2_with fail
              go_round
              case rel => exact ⟨m + 1, by omega, by go_num, fun r hr => by
                rw [HTK.out] at hr
                rcases List.mem_append.1 hr with h | h
                · exact HALL.out r h
                · rw [List.mem_singleton] at h
                  subst h
                  exact HX.out⟩
              case measure => simp [intOf]; omega
            · have g5 : ¬ ((m : Int) < (s.asked.length : Int)) := by omega
              have HYES := Lib.hid (show Rws.whole s = true by
                have h := HALL.out
                rw [List.take_of_length_le (by omega)] at h
                rw [HWR.out, Bool.not_eq_true', ← Bool.not_eq_true, List.any_eq_true]
                rintro ⟨a, ha, hh⟩
                have h2 := h a ha
                rw [decide_eq_true h2] at hh
                cases hh)
              go_wp2_with fail
              go_ret
              exact FitsTo.yes HYES.out HBF.out

end Go.Proofs.Ytniekddoaokmkaa

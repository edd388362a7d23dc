/-
  Layer 31 (cascade): how accounts, dues and numbers lie in memory; the small tests, walked.
-/
import Derived.Test.YtlkbdmbfbmekaaaProg
import Derived.Test.YtlkbdmbfbmekaaaBase
import Derived.Test.YtlkbdmbfbmekaaaRep
import Derived.Test.YtlkbdmbfbmekaaaCasPlain
import Derived.Deep.CutBlock
import Derived.Deep.DeepCutAuto
namespace Go.Proofs.Ytlkbdmbfbmekaaa
open Go.RowKit Go.Gab
set_option linter.unusedVariables false

def acctR := Rep.pair (Rep.int .i64) (Rep.pair (Rep.int .i64) Rep.unit)
def dueR := Rep.pair (Rep.int .u64) (Rep.pair (Rep.int .i64) (Rep.pair (Rep.int .i64) (Rep.pair (Rep.int .i64) (Rep.pair (Rep.int .i64) (Rep.pair (Rep.int .i64) (Rep.pair Rep.bool Rep.unit))))))
abbrev AcctT := Int × Int × Unit
abbrev DueT := Int × Int × Int × Int × Int × Int × Bool × Unit
def bal (x : AcctT) : Int := x.1
def due (x : DueT) : Cas.Due := ⟨x.2.1, x.2.2.1, x.2.2.2.1, x.2.2.2.2.1, x.2.2.2.2.2.1⟩
def acctV (x : AcctT) : Value := .agg #[.int .i64 x.1, .int .i64 x.2.1]
def dueV (x : DueT) : Value := .agg #[.int .u64 x.1, .int .i64 x.2.1, .int .i64 x.2.2.1, .int .i64 x.2.2.2.1, .int .i64 x.2.2.2.2.1, .int .i64 x.2.2.2.2.2.1, .bool x.2.2.2.2.2.2.1]

/-- A number of 64 bits that has a sign, within its bounds. -/
def I64 (z : Int) : Prop := -9223372036854775808 ≤ z ∧ z ≤ 9223372036854775807
theorem i64_of_wf {z : Int} (h : (Lit.int .i64 z).wf = true) : I64 z := by
  simp [Lit.wf, IntKind.min, IntKind.max, IntKind.signed, IntKind.bits] at h
  unfold I64
  simpa using h

theorem acct_at {w : World} {B : Nat} {A : Option Addr} {n c : Nat} {xs : List AcctT} (hr : SlR acctR w B A n c xs) {i : Nat} (hi : i < n) :
    ∃ b off x, A = some ⟨b, off, none⟩ ∧ b < B ∧ xs[i]? = some x ∧ w.cell? ⟨b, off + i * 2, none⟩ = some (.int .i64 x.1) ∧ w.cell? ⟨b, off + i * 2 + 1, none⟩ = some (.int .i64 x.2.1) ∧ I64 x.1 := by
  obtain ⟨b, off, x, cs, hA, hb, hx, hrel, hl, hc⟩ := hr.row i hi
  obtain ⟨c1, r1, rfl, _, ⟨rfl, w1⟩, c2, r2, rfl, _, ⟨rfl, w2⟩, h3⟩ := hrel
  have h3' : r2 = [] := h3
  subst h3'
  exact ⟨b, off, x, hA, hb, hx, hc 0 _ rfl, hc 1 _ rfl, i64_of_wf w1⟩

theorem due_at {w : World} {B : Nat} {A : Option Addr} {n c : Nat} {xs : List DueT} (hr : SlR dueR w B A n c xs) {i : Nat} (hi : i < n) :
    ∃ b off x, A = some ⟨b, off, none⟩ ∧ b < B ∧ xs[i]? = some x ∧ w.cell? ⟨b, off + i * 7, none⟩ = some (.int .u64 x.1) ∧ w.cell? ⟨b, off + i * 7 + 1, none⟩ = some (.int .i64 x.2.1) ∧ w.cell? ⟨b, off + i * 7 + 2, none⟩ = some (.int .i64 x.2.2.1) ∧
      w.cell? ⟨b, off + i * 7 + 3, none⟩ = some (.int .i64 x.2.2.2.1) ∧ w.cell? ⟨b, off + i * 7 + 4, none⟩ = some (.int .i64 x.2.2.2.2.1) ∧ w.cell? ⟨b, off + i * 7 + 5, none⟩ = some (.int .i64 x.2.2.2.2.2.1) ∧ w.cell? ⟨b, off + i * 7 + 6, none⟩ = some (.bool x.2.2.2.2.2.2.1) ∧
      I64 x.2.1 ∧ I64 x.2.2.1 ∧ I64 x.2.2.2.1 ∧ I64 x.2.2.2.2.1 ∧ I64 x.2.2.2.2.2.1 := by
  obtain ⟨b, off, x, cs, hA, hb, hx, hrel, hl, hc⟩ := hr.row i hi
  obtain ⟨c1, r1, rfl, _, ⟨rfl, w1⟩, c2, r2, rfl, _, ⟨rfl, w2⟩, c3, r3, rfl, _, ⟨rfl, w3⟩, c4, r4, rfl, _, ⟨rfl, w4⟩, c5, r5, rfl, _, ⟨rfl, w5⟩, c6, r6, rfl, _, ⟨rfl, w6⟩, c7, r7, rfl, _, h7, h8⟩ := hrel
  have h7' : c7 = [.bool x.2.2.2.2.2.2.1] := h7
  have h8' : r7 = [] := h8
  subst h7'; subst h8'
  exact ⟨b, off, x, hA, hb, hx, hc 0 _ rfl, hc 1 _ rfl, hc 2 _ rfl, hc 3 _ rfl, hc 4 _ rfl, hc 5 _ rfl, hc 6 _ rfl, i64_of_wf w2, i64_of_wf w3, i64_of_wf w4, i64_of_wf w5, i64_of_wf w6⟩

/-- Numbers in memory, with any capacity. -/
structure SlI (w : World) (B : Nat) (A : Option Addr) (n c : Nat) (l : List Int) : Prop where
  len : l.length = n
  nc : n ≤ c
  cm : c ≤ 9223372036854775807
  row : ∀ i, i < n → ∃ b off z, A = some ⟨b, off, none⟩ ∧ b < B ∧ l[i]? = some z ∧ (Lit.int .i64 z).wf = true ∧ w.cell? ⟨b, off + i, none⟩ = some (.int .i64 z)
theorem SlI.of {w : World} {B : Nat} {A : Option Addr} {n c : Nat} {l : List Int} (h : SlR (Rep.int .i64) w B A n c l) : SlI w B A n c l :=
  ⟨h.len, h.nc, by have := h.cm; omega, fun i hi => by
    obtain ⟨b, off, z, cs, hA, hb, hx, ⟨rfl, hwf⟩, hl, hc⟩ := h.row i hi
    have := hc 0 _ rfl
    exact ⟨b, off, z, hA, hb, hx, hwf, by simpa [Rep.int] using this⟩⟩
theorem SlI.below {w w' : World} {B : Nat} {A : Option Addr} {n c : Nat} {l : List Int} (h : SlI w B A n c l) {B1 : Nat} (hb : Below B1 w w') (hB : B ≤ B1) : SlI w' B A n c l :=
  ⟨h.len, h.nc, h.cm, fun i hi => by
    obtain ⟨b, off, z, hA, hbb, hx, hwf, hc⟩ := h.row i hi
    exact ⟨b, off, z, hA, hbb, hx, hwf, (hb.cell (Nat.lt_of_lt_of_le hbb hB)).trans hc⟩⟩
theorem SlI.more {w : World} {B B' : Nat} {A : Option Addr} {n c : Nat} {l : List Int} (hB : B ≤ B') (h : SlI w B A n c l) : SlI w B' A n c l :=
  ⟨h.len, h.nc, h.cm, fun i hi => by
    obtain ⟨b, off, z, hA, hbb, hx, hwf, hc⟩ := h.row i hi
    exact ⟨b, off, z, hA, by omega, hx, hwf, hc⟩⟩

/-- A number of a slice of numbers. -/
theorem int_at' {w : World} {B : Nat} {A : Option Addr} {n c : Nat} {ls : List Int} (hr : SlI w B A n c ls) {i : Nat} (hi : i < n) :
    ∃ b off z, A = some ⟨b, off, none⟩ ∧ b < B ∧ ls[i]? = some z ∧ w.cell? ⟨b, off + i, none⟩ = some (.int .i64 z) ∧ I64 z := by
  obtain ⟨b, off, z, hA, hb, hx, hwf, hc⟩ := hr.row i hi
  exact ⟨b, off, z, hA, hb, hx, hc, i64_of_wf hwf⟩

theorem any_drop {α : Type} (l : List α) (p : α → Bool) {j : Nat} {v : α} (h : l[j]? = some v) : (l.drop j).any p = (p v || (l.drop (j + 1)).any p) := by
  obtain ⟨hj, rfl⟩ := List.getElem?_eq_some_iff.1 h
  rw [List.drop_eq_getElem_cons hj, List.any_cons]

/-! ### The tests -/
theorem begin1_any (x : AcctT) (w : World) :
    Calls Try.prog 49 #[.agg #[.int .i64 x.1, .int .i64 x.2.1]] w fun e w' => e = .returned (.bool (Cas.badBal (bal x))) ∧ Below w.heap.size w w' := by
  obtain ⟨z, r, u⟩ := x
  simp only [bal]
  have HZ := Lib.hid (show Cas.badBal z = (decide (z < 0) || decide (4503599627370496 < z)) from rfl)
  by_cases h : z < 0
  · go_enter Try.func49, Try.ntmps49
    go_wp2_with fail
    go_ret
    exact ⟨ret_bool (by rw [HZ.out, decide_eq_true h]; rfl), (Below.refl _ _).alloc (Nat.le_refl _) _⟩
  · go_enter Try.func49, Try.ntmps49
    go_wp2_with fail
    go_ret
    exact ⟨ret_bool (by rw [HZ.out, decide_eq_false (by omega : ¬ z < 0)]; rfl), (Below.refl _ _).alloc (Nat.le_refl _) _⟩

theorem begin3_any (z : Int) (g : Nat) (A0 : Option Addr) (m c0 : Nat) (w : World) (hc : w.cell? ⟨g, 0, none⟩ = some (.slice A0 m c0)) (hg : g < w.heap.size) :
    Calls Try.prog 54 #[.int .i64 z, .pointer (some ⟨g, 0, none⟩)] w fun e w' => e = .returned (.bool (Cas.noBank m z)) ∧ Below w.heap.size w w' := by
  have HZ := Lib.hid (show Cas.noBank m z = (decide (z < 0) || decide ((m : Int) ≤ z)) from rfl)
  by_cases h : z < 0
  · go_enter Try.func54, Try.ntmps54
    go_wp2_with fail
    go_ret
    exact ⟨ret_bool (by rw [HZ.out, decide_eq_true h]; rfl), Below.refl _ _⟩
  · go_enter Try.func54, Try.ntmps54
    go_wp2_with fail
    go_ret
    exact ⟨ret_bool (by rw [HZ.out, decide_eq_false (by omega : ¬ z < 0)]; rfl), Below.refl _ _⟩

theorem begin4_any (x : DueT) (g : Nat) (A0 : Option Addr) (m c0 : Nat) (w : World) (hc : w.cell? ⟨g, 0, none⟩ = some (.slice A0 m c0)) (hg : g < w.heap.size) :
    Calls Try.prog 55 #[dueV x, .pointer (some ⟨g, 0, none⟩)] w fun e w' => e = .returned (.bool (Cas.farDue m (due x))) ∧ Below w.heap.size w w' := by
  obtain ⟨i, f, t, a, q, u, h, un⟩ := x
  unfold dueV due
  simp only
  have HZ := Lib.hid (show Cas.farDue m ⟨f, t, a, q, u⟩ = (decide ((m : Int) ≤ f) || decide ((m : Int) ≤ t)) from rfl)
  have hc1 := (World.cell?_alloc_lt w (.cells #[.int .u64 i, .int .i64 f, .int .i64 t, .int .i64 a, .int .i64 q, .int .i64 u, .bool h] 75) ⟨g, 0, none⟩ hg).trans hc
  by_cases hh : (m : Int) ≤ f
  · go_enter Try.func55, Try.ntmps55
    go_wp2_with fail
    go_ret
    exact ⟨ret_bool (by rw [HZ.out, decide_eq_true hh]; rfl), (Below.refl _ _).alloc (Nat.le_refl _) _⟩
  · go_enter Try.func55, Try.ntmps55
    go_wp2_with fail
    go_ret
    exact ⟨ret_bool (by rw [HZ.out, decide_eq_false (by omega : ¬ (m : Int) ≤ f)]; rfl), (Below.refl _ _).alloc (Nat.le_refl _) _⟩

def bankB (z : Int) : Bool := decide (0 ≤ z) && decide (z < 16)
theorem fine1_any (z : Int) (w : World) :
    Calls Try.prog 63 #[.int .i64 z] w fun e w' => e = .returned (.bool (bankB z)) ∧ w = w' := by
  have HZ := Lib.hid (show bankB z = (decide (0 ≤ z) && decide (z < 16)) from rfl)
  by_cases h : z < 0
  · go_enter Try.func63, Try.ntmps63
    go_wp2_with fail
    go_ret
    exact ⟨ret_bool (by rw [HZ.out, decide_eq_false (by omega : ¬ 0 ≤ z)]; rfl), rfl⟩
  · have h' : 0 ≤ z := by omega
    go_enter Try.func63, Try.ntmps63
    go_wp2_with fail
    go_ret
    exact ⟨ret_bool (by rw [HZ.out, decide_eq_true (by omega : 0 ≤ z)]; rfl), rfl⟩

theorem fine_any (x : DueT) (w : World) :
    Calls Try.prog 52 #[dueV x] w fun e w' => e = .returned (.bool (Cas.fine (due x))) ∧ Below w.heap.size w w' := by
  obtain ⟨i, f, t, a, q, u, h, un⟩ := x
  unfold dueV due
  simp only
  have HZ := Lib.hid (show Cas.fine ⟨f, t, a, q, u⟩ = (!(f == t) && bankB f && bankB t && decide (1 ≤ a) && decide (a ≤ 4503599627370496) && decide (1 ≤ q) && decide (q ≤ 1000) && decide (0 ≤ u)) from rfl)
  generalize Cas.fine ⟨f, t, a, q, u⟩ = F at HZ ⊢
  go_enter Try.func52, Try.ntmps52
  go_wp2_with (go_at_call 63; refine (fine1_any _ _).mono ?_; rintro e w' ⟨rfl, rfl⟩)
  all_goals
    go_ret
    refine ⟨ret_bool ?_, (Below.refl _ _).alloc (Nat.le_refl _) _⟩
    rw [HZ.out]
    clear HZ
    first | (simp [*]; done) | (simp [*]; (first | omega | rfl))

theorem begin2_any (x : DueT) (w : World) :
    Calls Try.prog 51 #[dueV x] w fun e w' => e = .returned (.bool (Cas.bad (due x))) ∧ Below w.heap.size w w' := by
  have HF := Lib.hid (fine_any x (w.alloc (.cells #[.int .u64 x.1, .int .i64 x.2.1, .int .i64 x.2.2.1, .int .i64 x.2.2.2.1, .int .i64 x.2.2.2.2.1, .int .i64 x.2.2.2.2.2.1, .bool x.2.2.2.2.2.2.1] 75)))
  have HB := Lib.hid (show Cas.bad (due x) = !Cas.fine (due x) from rfl)
  generalize Cas.bad (due x) = F at HB ⊢
  generalize Cas.fine (due x) = G at HF HB
  unfold dueV at HF ⊢
  have hl : Below w.heap.size w (w.alloc (.cells #[.int .u64 x.1, .int .i64 x.2.1, .int .i64 x.2.2.1, .int .i64 x.2.2.2.1, .int .i64 x.2.2.2.2.1, .int .i64 x.2.2.2.2.2.1, .bool x.2.2.2.2.2.2.1] 75)) := (Below.refl _ _).alloc (Nat.le_refl _) _
  have HL := Lib.hid hl
  clear hl
  go_enter Try.func51, Try.ntmps51
  go_wp2_with fail
  refine HF.out.mono ?_
  rintro e w2 ⟨rfl, hb2⟩
  have HB2 := Lib.hid (HL.out.trans (hb2.mono HL.out.size))
  clear hb2
  go_wp2_with fail
  go_ret
  exact ⟨ret_bool (by rw [HB.out]), HB2.out⟩

/-! ### Containment -/

set_option maxHeartbeats 1000000 in
theorem indexAcct_any (B : Nat) (A : Option Addr) (n c : Nat) (xs : List AcctT) (w : World) (hr : SlR acctR w B A n c xs) (hB : B ≤ w.heap.size) :
    Calls Try.prog 61 #[.slice A n c, .func (.func 49) #[] #[]] w fun e w' => (∃ z, e = .returned (.int .i64 z) ∧ decide (0 ≤ z) = (xs.map bal).any Cas.badBal) ∧ Below w.heap.size w w' := by
  have hnc := hr.nc
  have hcm := hr.cm
  have HLN := Lib.hid hr.len
  go_enter Try.func61, Try.ntmps61
  go_wp2_with fail
  go_loopw [8] (fun i wr => ∃ j : Nat, j ≤ n ∧ i = .int .i64 j ∧ (xs.map bal).any Cas.badBal = ((xs.map bal).drop j).any Cas.badBal ∧ Below w.heap.size w wr) (fun i _ => n - (intOf i).toNat)
  case atStart => exact ⟨0, Nat.zero_le _, rfl, rfl, Below.refl _ _⟩
  case round =>
    obtain ⟨j, hj, rfl, hany, hbel⟩ := hrel
    by_cases hlt : j < n
    · obtain ⟨b, off, x, rfl, hb, hx, h0, h1, _⟩ := acct_at (hr.below hbel hB) hlt
      have hd := any_drop (xs.map bal) Cas.badBal (j := j) (v := (bal x)) (by simp [hx, bal])
      have HANY := Lib.hid (hany.trans hd)
      have HBEL := Lib.hid hbel
      clear hany hbel hd hx
      go_wp2_with fail
      refine (begin1_any x _).mono ?_
      rintro e w2 ⟨rfl, hb2⟩
      have HB2 := Lib.hid (HBEL.out.trans (hb2.mono HBEL.out.size))
      clear hb2
      obtain ⟨q, hq⟩ : ∃ q, Cas.badBal (bal x) = q := ⟨_, rfl⟩
      have HQ := Lib.hid hq
      first | rw [hq] | (rw [show Cas.badBal (bal x) = _ from rfl] at hq; rw [hq])
      clear hq
      cases q with
      | true =>
        go_wp2_with fail
        go_ret
        exact ⟨⟨_, rfl, by rw [HANY.out, HQ.out]; simp⟩, HB2.out⟩
      | false =>
        go_wp2_with fail
        go_roundw
        case rel => exact ⟨j + 1, by omega, by go_num, by rw [HANY.out, HQ.out, Bool.false_or], HB2.out⟩
        case measure => simp [intOf]; omega
    · obtain rfl : j = n := by omega
      have HANY := Lib.hid hany
      have HBEL := Lib.hid hbel
      clear hany hbel
      go_wp2_with fail
      go_ret
      exact ⟨⟨_, rfl, by rw [HANY.out, List.drop_of_length_le (by simp [HLN.out])]; rfl⟩, HBEL.out⟩

theorem containsAcct_any (B : Nat) (A : Option Addr) (n c : Nat) (xs : List AcctT) (w : World) (hr : SlR acctR w B A n c xs) (hB : B ≤ w.heap.size) :
    Calls Try.prog 48 #[.slice A n c, .func (.func 49) #[] #[]] w fun e w' => e = .returned (.bool ((xs.map bal).any Cas.badBal)) ∧ Below w.heap.size w w' := by
  go_enter Try.func48, Try.ntmps48
  go_wp2_with fail
  refine (indexAcct_any B A n c xs _ hr hB).mono ?_
  rintro e w2 ⟨⟨z, rfl, hz⟩, hb2⟩
  have HZ := Lib.hid hz
  have HB2 := Lib.hid hb2
  clear hz hb2
  go_wp2_with fail
  go_ret
  exact ⟨ret_bool HZ.out, HB2.out⟩

set_option maxHeartbeats 1000000 in
theorem indexFine_any (B : Nat) (A : Option Addr) (n c : Nat) (xs : List DueT) (w : World) (hr : SlR dueR w B A n c xs) (hB : B ≤ w.heap.size) :
    Calls Try.prog 62 #[.slice A n c, .func (.func 51) #[] #[]] w fun e w' => (∃ z, e = .returned (.int .i64 z) ∧ decide (0 ≤ z) = (xs.map due).any Cas.bad) ∧ Below w.heap.size w w' := by
  have hnc := hr.nc
  have hcm := hr.cm
  have HLN := Lib.hid hr.len
  go_enter Try.func62, Try.ntmps62
  go_wp2_with fail
  go_loopw [8] (fun i wr => ∃ j : Nat, j ≤ n ∧ i = .int .i64 j ∧ (xs.map due).any Cas.bad = ((xs.map due).drop j).any Cas.bad ∧ Below w.heap.size w wr) (fun i _ => n - (intOf i).toNat)
  case atStart => exact ⟨0, Nat.zero_le _, rfl, rfl, Below.refl _ _⟩
  case round =>
    obtain ⟨j, hj, rfl, hany, hbel⟩ := hrel
    by_cases hlt : j < n
    · obtain ⟨b, off, x, rfl, hb, hx, h0, h1, h2, h3, h4, h5, h6, _⟩ := due_at (hr.below hbel hB) hlt
      have hd := any_drop (xs.map due) Cas.bad (j := j) (v := (due x)) (by simp [hx])
      have HANY := Lib.hid (hany.trans hd)
      have HBEL := Lib.hid hbel
      clear hany hbel hd hx
      go_wp2_with fail
      refine (begin2_any x _).mono ?_
      rintro e w2 ⟨rfl, hb2⟩
      have HB2 := Lib.hid (HBEL.out.trans (hb2.mono HBEL.out.size))
      clear hb2
      obtain ⟨q, hq⟩ : ∃ q, Cas.bad (due x) = q := ⟨_, rfl⟩
      have HQ := Lib.hid hq
      first | rw [hq] | (rw [show Cas.bad (due x) = _ from rfl] at hq; rw [hq])
      clear hq
      cases q with
      | true =>
        go_wp2_with fail
        go_ret
        exact ⟨⟨_, rfl, by rw [HANY.out, HQ.out]; simp⟩, HB2.out⟩
      | false =>
        go_wp2_with fail
        go_roundw
        case rel => exact ⟨j + 1, by omega, by go_num, by rw [HANY.out, HQ.out, Bool.false_or], HB2.out⟩
        case measure => simp [intOf]; omega
    · obtain rfl : j = n := by omega
      have HANY := Lib.hid hany
      have HBEL := Lib.hid hbel
      clear hany hbel
      go_wp2_with fail
      go_ret
      exact ⟨⟨_, rfl, by rw [HANY.out, List.drop_of_length_le (by simp [HLN.out])]; rfl⟩, HBEL.out⟩

theorem containsFine_any (B : Nat) (A : Option Addr) (n c : Nat) (xs : List DueT) (w : World) (hr : SlR dueR w B A n c xs) (hB : B ≤ w.heap.size) :
    Calls Try.prog 50 #[.slice A n c, .func (.func 51) #[] #[]] w fun e w' => e = .returned (.bool ((xs.map due).any Cas.bad)) ∧ Below w.heap.size w w' := by
  go_enter Try.func50, Try.ntmps50
  go_wp2_with fail
  refine (indexFine_any B A n c xs _ hr hB).mono ?_
  rintro e w2 ⟨⟨z, rfl, hz⟩, hb2⟩
  have HZ := Lib.hid hz
  have HB2 := Lib.hid hb2
  clear hz hb2
  go_wp2_with fail
  go_ret
  exact ⟨ret_bool HZ.out, HB2.out⟩

set_option maxHeartbeats 1000000 in
theorem indexFar_any (B : Nat) (A : Option Addr) (n c : Nat) (xs : List DueT) (g : Nat) (A0 : Option Addr) (m c0 : Nat) (w : World) (hr : SlR dueR w B A n c xs) (hB : B ≤ w.heap.size) (hc : w.cell? ⟨g, 0, none⟩ = some (.slice A0 m c0)) (hg : g < w.heap.size) :
    Calls Try.prog 62 #[.slice A n c, .func (.func 55) #[] #[.pointer (some ⟨g, 0, none⟩)]] w fun e w' => (∃ z, e = .returned (.int .i64 z) ∧ decide (0 ≤ z) = (xs.map due).any (Cas.farDue m)) ∧ Below w.heap.size w w' := by
  have hnc := hr.nc
  have hcm := hr.cm
  have HLN := Lib.hid hr.len
  go_enter Try.func62, Try.ntmps62
  go_wp2_with fail
  go_loopw [8] (fun i wr => ∃ j : Nat, j ≤ n ∧ i = .int .i64 j ∧ (xs.map due).any (Cas.farDue m) = ((xs.map due).drop j).any (Cas.farDue m) ∧ Below w.heap.size w wr) (fun i _ => n - (intOf i).toNat)
  case atStart => exact ⟨0, Nat.zero_le _, rfl, rfl, Below.refl _ _⟩
  case round =>
    obtain ⟨j, hj, rfl, hany, hbel⟩ := hrel
    by_cases hlt : j < n
    · obtain ⟨b, off, x, rfl, hb, hx, h0, h1, h2, h3, h4, h5, h6, _⟩ := due_at (hr.below hbel hB) hlt
      have hd := any_drop (xs.map due) (Cas.farDue m) (j := j) (v := (due x)) (by simp [hx])
      have HANY := Lib.hid (hany.trans hd)
      have HBEL := Lib.hid hbel
      have hc2 := (hbel.cell (p := ⟨g, 0, none⟩) hg).trans hc
      have hz2 : g < wr.heap.size := Nat.lt_of_lt_of_le hg hbel.size
      clear hany hbel hd hx
      go_wp2_with fail
      refine (begin4_any x g A0 m c0 _ hc2 hz2).mono ?_
      rintro e w2 ⟨rfl, hb2⟩
      have HB2 := Lib.hid (HBEL.out.trans (hb2.mono HBEL.out.size))
      clear hb2
      obtain ⟨q, hq⟩ : ∃ q, (Cas.farDue m) (due x) = q := ⟨_, rfl⟩
      have HQ := Lib.hid hq
      first | rw [hq] | (rw [show (Cas.farDue m) (due x) = _ from rfl] at hq; rw [hq])
      clear hq
      cases q with
      | true =>
        go_wp2_with fail
        go_ret
        exact ⟨⟨_, rfl, by rw [HANY.out, HQ.out]; simp⟩, HB2.out⟩
      | false =>
        go_wp2_with fail
        go_roundw
        case rel => exact ⟨j + 1, by omega, by go_num, by rw [HANY.out, HQ.out, Bool.false_or], HB2.out⟩
        case measure => simp [intOf]; omega
    · obtain rfl : j = n := by omega
      have HANY := Lib.hid hany
      have HBEL := Lib.hid hbel
      clear hany hbel
      go_wp2_with fail
      go_ret
      exact ⟨⟨_, rfl, by rw [HANY.out, List.drop_of_length_le (by simp [HLN.out])]; rfl⟩, HBEL.out⟩

theorem containsFar_any (B : Nat) (A : Option Addr) (n c : Nat) (xs : List DueT) (g : Nat) (A0 : Option Addr) (m c0 : Nat) (w : World) (hr : SlR dueR w B A n c xs) (hB : B ≤ w.heap.size) (hc : w.cell? ⟨g, 0, none⟩ = some (.slice A0 m c0)) (hg : g < w.heap.size) :
    Calls Try.prog 50 #[.slice A n c, .func (.func 55) #[] #[.pointer (some ⟨g, 0, none⟩)]] w fun e w' => e = .returned (.bool ((xs.map due).any (Cas.farDue m))) ∧ Below w.heap.size w w' := by
  go_enter Try.func50, Try.ntmps50
  go_wp2_with fail
  refine (indexFar_any B A n c xs g A0 m c0 _ hr hB hc hg).mono ?_
  rintro e w2 ⟨⟨z, rfl, hz⟩, hb2⟩
  have HZ := Lib.hid hz
  have HB2 := Lib.hid hb2
  clear hz hb2
  go_wp2_with fail
  go_ret
  exact ⟨ret_bool HZ.out, HB2.out⟩

set_option maxHeartbeats 1000000 in
theorem indexBank_any (B : Nat) (A : Option Addr) (n c : Nat) (xs : List Int) (g : Nat) (A0 : Option Addr) (m c0 : Nat) (w : World) (hr : SlI w B A n c xs) (hB : B ≤ w.heap.size) (hc : w.cell? ⟨g, 0, none⟩ = some (.slice A0 m c0)) (hg : g < w.heap.size) :
    Calls Try.prog 64 #[.slice A n c, .func (.func 54) #[] #[.pointer (some ⟨g, 0, none⟩)]] w fun e w' => (∃ z, e = .returned (.int .i64 z) ∧ decide (0 ≤ z) = xs.any (Cas.noBank m)) ∧ Below w.heap.size w w' := by
  have hnc := hr.nc
  have hcm := hr.cm
  have HLN := Lib.hid hr.len
  go_enter Try.func64, Try.ntmps64
  go_wp2_with fail
  go_loopw [8] (fun i wr => ∃ j : Nat, j ≤ n ∧ i = .int .i64 j ∧ xs.any (Cas.noBank m) = (xs.drop j).any (Cas.noBank m) ∧ Below w.heap.size w wr) (fun i _ => n - (intOf i).toNat)
  case atStart => exact ⟨0, Nat.zero_le _, rfl, rfl, Below.refl _ _⟩
  case round =>
    obtain ⟨j, hj, rfl, hany, hbel⟩ := hrel
    by_cases hlt : j < n
    · obtain ⟨b, off, x, rfl, hb, hx, h0, _⟩ := int_at' (hr.below hbel hB) hlt
      have hd := any_drop xs (Cas.noBank m) (j := j) (v := x) (by simp [hx])
      have HANY := Lib.hid (hany.trans hd)
      have HBEL := Lib.hid hbel
      have hc2 := (hbel.cell (p := ⟨g, 0, none⟩) hg).trans hc
      have hz2 : g < wr.heap.size := Nat.lt_of_lt_of_le hg hbel.size
      clear hany hbel hd hx
      go_wp2_with fail
      refine (begin3_any x g A0 m c0 _ hc2 hz2).mono ?_
      rintro e w2 ⟨rfl, hb2⟩
      have HB2 := Lib.hid (HBEL.out.trans (hb2.mono HBEL.out.size))
      clear hb2
      obtain ⟨q, hq⟩ : ∃ q, (Cas.noBank m) x = q := ⟨_, rfl⟩
      have HQ := Lib.hid hq
      first | rw [hq] | (rw [show (Cas.noBank m) x = _ from rfl] at hq; rw [hq])
      clear hq
      cases q with
      | true =>
        go_wp2_with fail
        go_ret
        exact ⟨⟨_, rfl, by rw [HANY.out, HQ.out]; simp⟩, HB2.out⟩
      | false =>
        go_wp2_with fail
        go_roundw
        case rel => exact ⟨j + 1, by omega, by go_num, by rw [HANY.out, HQ.out, Bool.false_or], HB2.out⟩
        case measure => simp [intOf]; omega
    · obtain rfl : j = n := by omega
      have HANY := Lib.hid hany
      have HBEL := Lib.hid hbel
      clear hany hbel
      go_wp2_with fail
      go_ret
      exact ⟨⟨_, rfl, by rw [HANY.out, List.drop_of_length_le (by simp [HLN.out])]; rfl⟩, HBEL.out⟩

theorem containsBank_any (B : Nat) (A : Option Addr) (n c : Nat) (xs : List Int) (g : Nat) (A0 : Option Addr) (m c0 : Nat) (w : World) (hr : SlI w B A n c xs) (hB : B ≤ w.heap.size) (hc : w.cell? ⟨g, 0, none⟩ = some (.slice A0 m c0)) (hg : g < w.heap.size) :
    Calls Try.prog 53 #[.slice A n c, .func (.func 54) #[] #[.pointer (some ⟨g, 0, none⟩)]] w fun e w' => e = .returned (.bool (xs.any (Cas.noBank m))) ∧ Below w.heap.size w w' := by
  go_enter Try.func53, Try.ntmps53
  go_wp2_with fail
  refine (indexBank_any B A n c xs g A0 m c0 _ hr hB hc hg).mono ?_
  rintro e w2 ⟨⟨z, rfl, hz⟩, hb2⟩
  have HZ := Lib.hid hz
  have HB2 := Lib.hid hb2
  clear hz hb2
  go_wp2_with fail
  go_ret
  exact ⟨ret_bool HZ.out, HB2.out⟩

end Go.Proofs.Ytlkbdmbfbmekaaa

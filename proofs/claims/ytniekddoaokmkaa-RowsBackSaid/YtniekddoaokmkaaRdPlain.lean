/-
  Layer 23 (rows), plain: pairs as a state. No program in sight.
-/
import Derived.Test.YtniekddoaokmkaaRowPlain
namespace Rws

/-- Takes numbers off bytes; sh: there were too few. -/
structure Rd where
  b : List UInt8
  at_ : Nat
  sh : Bool
def Rd.take (r : Rd) (k : Nat) : Nat × Rd :=
  if r.sh || decide (r.b.length < r.at_ + k) then (0, ⟨r.b, r.at_, true⟩) else (Oct.val ((r.b.drop r.at_).take k), ⟨r.b, r.at_ + k, false⟩)
theorem Rd.take_b (r : Rd) (k : Nat) : (r.take k).2.b = r.b := by unfold Rd.take; split <;> rfl
theorem Rd.take_lt (r : Rd) (k : Nat) : (r.take k).1 < 256 ^ k := by
  unfold Rd.take
  split
  · exact Nat.pow_pos (by omega)
  · have h1 := Oct.val_lt ((r.b.drop r.at_).take k)
    exact Nat.lt_of_lt_of_le h1 (Nat.pow_le_pow_right (by omega) (by rw [List.length_take]; omega))
theorem Rd.take_at (r : Rd) (k : Nat) (h : r.at_ ≤ r.b.length) : (r.take k).2.at_ ≤ (r.take k).2.b.length := by
  unfold Rd.take
  split
  · exact h
  · rename_i h1
    simp only [Bool.or_eq_true, decide_eq_true_eq, not_or] at h1
    simp only
    omega
theorem Rd.take_8 (r : Rd) : (r.take 8).1 < 18446744073709551616 := by have := r.take_lt 8; simpa using this
theorem s64_lo (n : Nat) (h : n < 18446744073709551616) : -9223372036854775808 ≤ s64 n ∧ s64 n ≤ 9223372036854775807 := by
  unfold s64
  split <;> omega
theorem s64_small {n : Nat} (h : n < 9223372036854775808) : s64 n = (n : Int) := by unfold s64; rw [if_pos h]

def st0 : St := ⟨0, [], [], 0, [], 0, []⟩

def readHead (s : St) (v : Rd) : Option St :=
  let a := v.take 8
  let b := a.2.take 8
  let c := b.2.take 8
  if c.2.sh then none else some { s with day := s64 a.1, next := (b.1 : Int), no := (c.1 : Int) }
def readAcct (s : St) (v : Rd) : Option St :=
  let a := v.take 8
  let b := a.2.take 8
  if b.2.sh then none else some { s with accts := s.accts ++ [⟨s64 a.1, s64 b.1⟩] }
def readDue (s : St) (k v : Rd) : Option St :=
  let i := k.take 8
  let a := v.take 1
  let b := a.2.take 1
  let c := b.2.take 8
  let d := c.2.take 2
  let e := d.2.take 8
  let f := e.2.take 1
  if i.2.sh || f.2.sh then none else some { s with dues := s.dues ++ [⟨(i.1 : Int), (a.1 : Int), (b.1 : Int), s64 c.1, (d.1 : Int), s64 e.1, decide (f.1 = 1)⟩] }
def readRound (s : St) (k v : Rd) : Option St :=
  let i := k.take 8
  let a := v.take 8
  let b := a.2.take 1
  let c := b.2.take 1
  if i.2.sh || c.2.sh then none else some { s with rounds := s.rounds ++ [⟨(i.1 : Int), s64 a.1, decide (b.1 = 1), [], (c.1 : Int), [], [], []⟩] }
def readAsked (s : St) (v : Rd) : Option St :=
  let a := v.take 4
  let b := a.2.take 8
  let c := b.2.take 2
  if c.2.sh || decide (c.2.b.length < c.2.at_ + c.1) then none else some { s with asked := s.asked ++ [⟨(a.1 : Int), (b.1 : Int), (c.2.b.drop c.2.at_).take c.1, c.2.b.drop (c.2.at_ + c.1)⟩] }
/-- The place of the first round of a No. -/
def placeOf (no : Int) : List Round → Option Nat
  | [] => none
  | r :: l => if r.no = no then some 0 else (placeOf no l).map (· + 1)
def readItem (s : St) (kind : Nat) (k v : Rd) : Option St :=
  let i := k.take 8
  match placeOf (i.1 : Int) s.rounds with
  | none => none
  | some j =>
    match s.rounds[j]? with
    | none => none
    | some x =>
      if kind = 4 then
        let a := v.take 8
        if i.2.sh || a.2.sh then none else some { s with rounds := s.rounds.set j { x with ids := x.ids ++ [(a.1 : Int)] } }
      else if kind = 5 then
        let a := v.take 1
        let b := a.2.take 1
        let c := b.2.take 8
        let d := c.2.take 8
        if i.2.sh || d.2.sh then none else some { s with rounds := s.rounds.set j { x with edges := x.edges ++ [⟨(a.1 : Int), (b.1 : Int), s64 c.1, s64 d.1⟩] } }
      else if kind = 6 then
        let a := v.take 8
        if i.2.sh || a.2.sh then none else some { s with rounds := s.rounds.set j { x with flow := x.flow ++ [s64 a.1] } }
      else
        let a := v.take 8
        if i.2.sh || a.2.sh then none else some { s with rounds := s.rounds.set j { x with pot := x.pot ++ [s64 a.1] } }
def readRow (s : St) (p : Pair) : Option St :=
  match p.1 with
  | [] => none
  | kind :: kb =>
    let k : Rd := ⟨kb, 0, false⟩
    let v : Rd := ⟨p.2, 0, false⟩
    if kind = 0 then readHead s v else if kind = 1 then readAcct s v else if kind = 2 then readDue s k v else if kind = 3 then readRound s k v
    else if kind = 8 then readAsked s v else if kind < 8 then readItem s kind.toNat k v else none
def readAll (s : St) : List Pair → Option St
  | [] => some s
  | p :: l => (readRow s p).bind fun s' => readAll s' l
theorem readAll_append : ∀ (l m : List Pair) (s : St), readAll s (l ++ m) = (readAll s l).bind fun s' => readAll s' m
  | [], m, s => rfl
  | p :: l, m, s => by
    rw [List.cons_append, readAll, readAll]
    cases readRow s p with
    | none => rfl
    | some s' => exact readAll_append l m s'
theorem readAll_step {l : List Pair} {j : Nat} {p : Pair} {s s' : St} (hp : l[j]? = some p) (h : readAll s (l.take j) = some s') : readAll s (l.take (j + 1)) = readRow s' p := by
  have e : l.take (j + 1) = l.take j ++ [p] := by rw [List.take_add_one, hp]; rfl
  rw [e, readAll_append, h]
  show ((readRow s' p).bind fun s'' => readAll s'' []) = _
  cases readRow s' p <;> rfl
theorem readAll_none {l : List Pair} (j : Nat) {s : St} (h : readAll s (l.take j) = none) : readAll s l = none := by
  rw [← List.take_append_drop j l, readAll_append, h]; rfl
noncomputable def stateOf (l : List Pair) : Option St :=
  open Classical in
  match readAll st0 l with
  | none => none
  | some s => if l ≠ [] ∧ of s = l then some s else none
theorem stateOf_some {l : List Pair} {s : St} (h : readAll st0 l = some s) (h1 : l ≠ []) (h2 : of s = l) : stateOf l = some s := by
  unfold stateOf
  rw [h]
  simp only
  rw [if_pos ⟨h1, h2⟩]
theorem stateOf_none {l : List Pair} {s : St} (h : readAll st0 l = some s) (h1 : l = [] ∨ of s ≠ l) : stateOf l = none := by
  unfold stateOf
  rw [h]
  simp only
  rw [if_neg (fun hh => by rcases h1 with h1 | h1; exact hh.1 h1; exact h1 hh.2)]
theorem stateOf_stop {l : List Pair} (h : readAll st0 l = none) : stateOf l = none := by unfold stateOf; rw [h]
theorem stateOf_of {l : List Pair} {s : St} (h : stateOf l = some s) : readAll st0 l = some s ∧ l ≠ [] ∧ of s = l := by
  unfold stateOf at h
  split at h
  · cases h
  · rename_i s' hs
    split at h
    · rename_i hh
      injection h with h
      subst h
      exact ⟨hs, hh⟩
    · cases h

/-! ### The empty state with Next 1 -/
def st1 : St := ⟨0, [], [], 1, [], 0, []⟩
theorem of_st1 : of st1 = [headRow st1] := by
  unfold of
  rw [if_pos (by rfl)]
  rfl
theorem read_st1 : readAll st0 [headRow st1] = some st1 := by rfl
theorem state_st1 : stateOf [headRow st1] = some st1 := stateOf_some read_st1 (by simp) of_st1
theorem state_nil : stateOf [] = none := stateOf_none rfl (.inl rfl)

end Rws

/-
  Layer 23 (rows), plain: a state as keys and values. No program in sight.
-/
import Derived.Test.YtniekddoaokmkaaOctPlain
namespace Rws

abbrev Pair := List UInt8 × List UInt8

structure Acct where
  bal : Int
  res : Int
structure Due where
  id : Int
  frm : Int
  to : Int
  amt : Int
  wt : Int
  til : Int
  held : Bool
structure Edge where
  frm : Int
  to : Int
  cap : Int
  cost : Int
structure Round where
  no : Int
  day : Int
  comp : Bool
  ids : List Int
  n : Int
  edges : List Edge
  flow : List Int
  pot : List Int
structure Asked where
  client : Int
  seq : Int
  ask : List UInt8
  reply : List UInt8
structure St where
  day : Int
  accts : List Acct
  dues : List Due
  next : Int
  rounds : List Round
  no : Int
  asked : List Asked

/-- A number of 64 bits, one below 0 as it and 2^64. -/
def u64 (x : Int) : Nat := (x % 18446744073709551616).toNat
theorem u64_lt (x : Int) : u64 x < 18446744073709551616 := by unfold u64; omega
theorem u64_nat {n : Nat} (h : n < 18446744073709551616) : u64 (n : Int) = n := by unfold u64; omega
theorem u64_pos {x : Int} (h0 : 0 ≤ x) (h : x < 18446744073709551616) : ((u64 x : Nat) : Int) = x := by unfold u64; omega
/-- And back. -/
def s64 (n : Nat) : Int := if n < 9223372036854775808 then (n : Int) else (n : Int) - 18446744073709551616
theorem s64_u64 {x : Int} (h0 : -9223372036854775808 ≤ x) (h1 : x ≤ 9223372036854775807) : s64 (u64 x) = x := by
  unfold s64 u64
  split <;> omega

def nums (l : List (Int × Nat)) : List UInt8 := l.flatMap fun p => Oct.be (u64 p.1) p.2
def key (k : UInt8) (l : List (Int × Nat)) : List UInt8 := k :: nums l
theorem nums_nil : nums [] = [] := rfl
theorem nums_cons (p : Int × Nat) (l : List (Int × Nat)) : nums (p :: l) = Oct.be (u64 p.1) p.2 ++ nums l := rfl
theorem nums_snoc (l : List (Int × Nat)) (p : Int × Nat) : nums (l ++ [p]) = nums l ++ Oct.be (u64 p.1) p.2 := by simp [nums]
theorem nums_append (l l' : List (Int × Nat)) : nums (l ++ l') = nums l ++ nums l' := by simp [nums]
theorem nums_length (l : List (Int × Nat)) : (nums l).length = (l.map (·.2)).sum := by
  induction l with
  | nil => rfl
  | cons p l ih => rw [nums_cons, List.length_append, Oct.be_length, ih]; simp

def flagN (b : Bool) : Int := if b then 1 else 0

/-- By the index. -/
def mapI {α β : Type} (f : Nat → α → β) (l : List α) : List β := l.zipIdx.map fun p => f p.2 p.1
theorem mapI_nil {α β : Type} (f : Nat → α → β) : mapI f [] = [] := rfl
theorem mapI_snoc {α β : Type} (f : Nat → α → β) (l : List α) (x : α) : mapI f (l ++ [x]) = mapI f l ++ [f l.length x] := by
  unfold mapI
  rw [List.zipIdx_append]
  simp
theorem mapI_length {α β : Type} (f : Nat → α → β) (l : List α) : (mapI f l).length = l.length := by simp [mapI]
theorem mapI_take {α β : Type} (f : Nat → α → β) {l : List α} {j : Nat} {x : α} (h : l[j]? = some x) : mapI f (l.take (j + 1)) = mapI f (l.take j) ++ [f j x] := by
  have hj : j < l.length := (List.getElem?_eq_some_iff.1 h).1
  have e : l.take (j + 1) = l.take j ++ [x] := by rw [List.take_add_one, h]; rfl
  rw [e, mapI_snoc, List.length_take, Nat.min_eq_left (by omega)]
theorem map_take {α β : Type} (f : α → β) {l : List α} {j : Nat} {x : α} (h : l[j]? = some x) : (l.take (j + 1)).map f = (l.take j).map f ++ [f x] := by
  have e : l.take (j + 1) = l.take j ++ [x] := by rw [List.take_add_one, h]; rfl
  rw [e, List.map_append]; rfl
theorem flatMap_take {α β : Type} (f : α → List β) {l : List α} {j : Nat} {x : α} (h : l[j]? = some x) : (l.take (j + 1)).flatMap f = (l.take j).flatMap f ++ f x := by
  have e : l.take (j + 1) = l.take j ++ [x] := by rw [List.take_add_one, h]; rfl
  rw [e, List.flatMap_append]; simp
theorem mem_mapI {α β : Type} {f : Nat → α → β} {l : List α} {y : β} : y ∈ mapI f l ↔ ∃ i x, l[i]? = some x ∧ y = f i x := by
  unfold mapI
  rw [List.mem_map]
  constructor
  · rintro ⟨⟨x, i⟩, h, rfl⟩
    exact ⟨i, x, by simpa using (List.mem_zipIdx_iff_getElem?.1 h), rfl⟩
  · rintro ⟨i, x, h, rfl⟩
    exact ⟨(x, i), List.mem_zipIdx_iff_getElem?.2 (by simpa using h), rfl⟩

/-! ### What fits -/
def within (x m : Int) : Bool := decide (0 ≤ x) && decide (x ≤ m)
def edgeFits (e : Edge) : Bool := within e.frm 255 && within e.to 255
def roundFits (r : Round) : Bool := within r.n 255 && decide (max (max (max r.edges.length r.ids.length) r.flow.length) r.pot.length ≤ 65535) && r.edges.all edgeFits
def dueFits (d : Due) : Bool := within d.frm 255 && within d.to 255 && within d.wt 65535
/-- Do numbers rise? -/
def rises : List Int → Bool
  | [] => true
  | [_] => true
  | a :: b :: l => decide (a < b) && rises (b :: l)
def whole (s : St) : Bool :=
  decide (s.accts.length ≤ 256) && decide (s.asked.length ≤ 65535) && (s.dues.all dueFits && rises (s.dues.map (·.id))) && (s.rounds.all roundFits && rises (s.rounds.map (·.no))) &&
    s.asked.all fun x => decide (x.ask.length ≤ 65535)

/-! ### The rows -/
def headRow (s : St) : Pair := (key 0 [], nums [(s.day, 8), (s.next, 8), (s.no, 8), ((s.asked.length : Int), 2)])
def acctRow (i : Nat) (x : Acct) : Pair := (key 1 [((i : Int), 1)], nums [(x.bal, 8), (x.res, 8)])
def dueRow (d : Due) : Pair := (key 2 [(d.id, 8)], nums [(d.frm, 1), (d.to, 1), (d.amt, 8), (d.wt, 2), (d.til, 8), (flagN d.held, 1)])
def roundRow (r : Round) : Pair := (key 3 [(r.no, 8)], nums [(r.day, 8), (flagN r.comp, 1), (r.n, 1), ((r.edges.length : Int), 2), ((r.ids.length : Int), 2), ((r.flow.length : Int), 2), ((r.pot.length : Int), 2)])
def itemKey (k : UInt8) (no : Int) (i : Nat) : List UInt8 := key k [(no, 8), ((i : Int), 2)]
def numRow (k : UInt8) (no : Int) (i : Nat) (x : Int) : Pair := (itemKey k no i, nums [(x, 8)])
def edgeRow (no : Int) (i : Nat) (e : Edge) : Pair := (itemKey 5 no i, nums [(e.frm, 1), (e.to, 1), (e.cap, 8), (e.cost, 8)])
def items (k : Nat) (r : Round) : List Pair :=
  if k = 4 then mapI (numRow 4 r.no) r.ids else if k = 5 then mapI (edgeRow r.no) r.edges else if k = 6 then mapI (numRow 6 r.no) r.flow else if k = 7 then mapI (numRow 7 r.no) r.pot else []
def askedRow (i : Nat) (x : Asked) : Pair := (key 8 [((i : Int), 2)], nums [(x.client, 4), (x.seq, 8), ((x.ask.length : Int), 2)] ++ x.ask ++ x.reply)
def kinds : List Nat := [4, 5, 6, 7]
def rowsOf (s : St) : List Pair :=
  [headRow s] ++ mapI acctRow s.accts ++ s.dues.map dueRow ++ s.rounds.map roundRow ++ kinds.flatMap (fun k => s.rounds.flatMap (items k)) ++ mapI askedRow s.asked
def of (s : St) : List Pair := if whole s then rowsOf s else []

end Rws

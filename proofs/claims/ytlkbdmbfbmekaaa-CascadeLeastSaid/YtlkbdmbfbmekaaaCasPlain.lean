/-
  Layer 31 (cascade), plain: who fails, if some fail; how much would help. No program in sight.
-/
import Derived.WalkKit
namespace Cas

/-- What is owed. -/
structure Due where
  frm : Int
  to : Int
  amt : Int
  wt : Int
  til : Int

def most : Int := 4503599627370496
def fine (d : Due) : Bool := !(d.frm == d.to) && (decide (0 ≤ d.frm) && decide (d.frm < 16)) && (decide (0 ≤ d.to) && decide (d.to < 16)) && decide (1 ≤ d.amt) && decide (d.amt ≤ most) && decide (1 ≤ d.wt) && decide (d.wt ≤ 1000) && decide (0 ≤ d.til)
def bad (d : Due) : Bool := !fine d
def badBal (b : Int) : Bool := decide (b < 0) || decide (most < b)
def noBank (n : Nat) (k : Int) : Bool := decide (k < 0) || decide ((n : Int) ≤ k)
def farDue (n : Nat) (d : Due) : Bool := decide ((n : Int) ≤ d.frm) || decide ((n : Int) ≤ d.to)
def gross (l : List Due) : Int := (l.map (·.amt)).sum

/-- Why accounts, dues and first ones may not be. -/
def errs (bals : List Int) (l : List Due) (first : List Int) : Int :=
  if 16 < bals.length then 6 else if 64 < l.length then 6 else if 16 < first.length then 1
  else if bals.any badBal then 1 else if l.any bad then 1
  else if first.any (noBank bals.length) then 10 else if l.any (farDue bals.length) then 10
  else if most < gross l then 13 else 0

/-- Accounts and dues that may be. -/
structure Ok (bals : List Int) (l : List Due) : Prop where
  n16 : bals.length ≤ 16
  bal : ∀ b ∈ bals, 0 ≤ b ∧ b ≤ most
  due : ∀ d ∈ l, 0 ≤ d.frm ∧ d.frm < (bals.length : Int) ∧ 0 ≤ d.to ∧ d.to < (bals.length : Int) ∧ d.frm ≠ d.to ∧ 1 ≤ d.amt
  sum : gross l ≤ most
  l64 : l.length ≤ 64

theorem fine_iff {d : Due} (h : fine d = true) : 0 ≤ d.frm ∧ d.frm < 16 ∧ 0 ≤ d.to ∧ d.to < 16 ∧ d.frm ≠ d.to ∧ 1 ≤ d.amt ∧ d.amt ≤ most := by
  unfold fine at h
  simp only [Bool.and_eq_true, decide_eq_true_eq, Bool.not_eq_true', beq_eq_false_iff_ne, ne_eq] at h
  obtain ⟨⟨⟨⟨⟨⟨⟨h1, h2, h3⟩, h4, h5⟩, h6⟩, h7⟩, _⟩, _⟩, _⟩ := h
  exact ⟨h2, h3, h4, h5, h1, h6, h7⟩

theorem ok_of_errs {bals : List Int} {l : List Due} {first : List Int} (h : errs bals l first = 0) : Ok bals l ∧ first.length ≤ 16 ∧ ∀ k ∈ first, 0 ≤ k ∧ k < (bals.length : Int) := by
  unfold errs at h
  split at h
  · cases h
  split at h
  · cases h
  split at h
  · cases h
  split at h
  · cases h
  split at h
  · cases h
  split at h
  · cases h
  split at h
  · cases h
  split at h
  · cases h
  rename_i h1 h2 h3 h4 h5 h6 h7 h8
  simp only [Bool.not_eq_true, List.any_eq_false] at h4 h5 h6 h7
  refine ⟨⟨by omega, fun b hb => ?_, fun d hd => ?_, by omega, by omega⟩, by omega, fun k hk => ?_⟩
  · have := h4 b hb
    unfold badBal at this
    simp at this
    omega
  · have e1 := h5 d hd
    have e2 := h7 d hd
    unfold bad at e1
    obtain ⟨a1, a2, a3, a4, a5, a6, _⟩ := fine_iff (by simpa using e1)
    unfold farDue at e2
    simp at e2
    exact ⟨a1, by omega, a3, by omega, a5, a6⟩
  · have := h6 k hk
    unfold noBank at this
    simp at this
    omega

/-! ### How much a bank has too little -/
def term (dn : Nat → Bool) (k : Nat) (d : Due) : Int := (if d.frm = (k : Int) then d.amt else 0) - (if d.to = (k : Int) ∧ dn d.frm.toNat = false then d.amt else 0)
def owe (dn : Nat → Bool) (k : Nat) (l : List Due) : Int := (l.map (term dn k)).sum
def lack (bals : List Int) (l : List Due) (dn : Nat → Bool) (k : Nat) : Int := -(bals.getD k 0) + owe dn k l

theorem owe_nil (dn : Nat → Bool) (k : Nat) : owe dn k [] = 0 := rfl
theorem owe_cons (dn : Nat → Bool) (k : Nat) (d : Due) (l : List Due) : owe dn k (d :: l) = term dn k d + owe dn k l := by simp [owe]
theorem owe_snoc (dn : Nat → Bool) (k : Nat) (l : List Due) (d : Due) : owe dn k (l ++ [d]) = owe dn k l + term dn k d := by simp [owe]

/-- What one bank owes another one, all dues. -/
def own (l : List Due) (i j : Nat) : Int := (l.map fun d => if d.frm = (i : Int) ∧ d.to = (j : Int) then d.amt else 0).sum
theorem own_nil (i j : Nat) : own [] i j = 0 := rfl
theorem own_cons (d : Due) (l : List Due) (i j : Nat) : own (d :: l) i j = (if d.frm = (i : Int) ∧ d.to = (j : Int) then d.amt else 0) + own l i j := by simp [own]
theorem own_snoc (l : List Due) (d : Due) (i j : Nat) : own (l ++ [d]) i j = own l i j + (if d.frm = (i : Int) ∧ d.to = (j : Int) then d.amt else 0) := by simp [own]

def rowSum (l : List Due) (dn : Nat → Bool) (k : Nat) : Nat → Int
  | 0 => 0
  | j + 1 => rowSum l dn k j + own l k j - (if dn j then 0 else own l j k)

theorem rowSum_nil (dn : Nat → Bool) (k n : Nat) : rowSum [] dn k n = 0 := by
  induction n with
  | zero => rfl
  | succ n ih => rw [rowSum, ih, own_nil, own_nil]; simp

theorem rowSum_cons (d : Due) (l : List Due) (dn : Nat → Bool) (k n : Nat) :
    rowSum (d :: l) dn k n = rowSum l dn k n + (if d.frm = (k : Int) ∧ 0 ≤ d.to ∧ d.to < (n : Int) then d.amt else 0) - (if d.to = (k : Int) ∧ 0 ≤ d.frm ∧ d.frm < (n : Int) ∧ dn d.frm.toNat = false then d.amt else 0) := by
  induction n with
  | zero =>
    rw [rowSum, rowSum, if_neg (by omega), if_neg (by omega)]
    omega
  | succ n ih =>
    rw [rowSum, rowSum, ih, own_cons, own_cons]
    have e1 : (if d.frm = (k : Int) ∧ 0 ≤ d.to ∧ d.to < ((n + 1 : Nat) : Int) then d.amt else 0) = (if d.frm = (k : Int) ∧ 0 ≤ d.to ∧ d.to < (n : Int) then d.amt else 0) + (if d.frm = (k : Int) ∧ d.to = (n : Int) then d.amt else 0) := by
      by_cases h : d.frm = (k : Int)
      · by_cases h2 : d.to = (n : Int)
        · rw [if_pos (by omega), if_neg (by omega), if_pos (by omega)]; omega
        · by_cases h3 : 0 ≤ d.to ∧ d.to < (n : Int)
          · rw [if_pos (by omega), if_pos (by omega), if_neg (by omega)]; omega
          · rw [if_neg (by omega), if_neg (by omega), if_neg (by omega)]; omega
      · rw [if_neg (by omega), if_neg (by omega), if_neg (by omega)]; omega
    have e2 : (if d.to = (k : Int) ∧ 0 ≤ d.frm ∧ d.frm < ((n + 1 : Nat) : Int) ∧ dn d.frm.toNat = false then d.amt else 0) = (if d.to = (k : Int) ∧ 0 ≤ d.frm ∧ d.frm < (n : Int) ∧ dn d.frm.toNat = false then d.amt else 0) + (if dn n then 0 else if d.frm = (n : Int) ∧ d.to = (k : Int) then d.amt else 0) := by
      by_cases h2 : d.frm = (n : Int)
      · have ht : d.frm.toNat = n := by omega
        rw [ht]
        cases hd : dn n with
        | true => simp
        | false =>
          by_cases h : d.to = (k : Int)
          · rw [if_pos ⟨h, by omega, by omega, rfl⟩, if_neg (fun hh => by omega), if_neg (by decide), if_pos ⟨h2, h⟩]; omega
          · rw [if_neg (fun hh => h hh.1), if_neg (fun hh => h hh.1), if_neg (by decide), if_neg (fun hh => h hh.2)]; omega
      · have e3 : (if dn n then 0 else if d.frm = (n : Int) ∧ d.to = (k : Int) then d.amt else 0) = 0 := by
          rw [if_neg (c := d.frm = (n : Int) ∧ d.to = (k : Int)) (fun hh => h2 hh.1)]; simp
        rw [e3]
        by_cases h : d.to = (k : Int) ∧ 0 ≤ d.frm ∧ d.frm < (n : Int) ∧ dn d.frm.toNat = false
        · rw [if_pos ⟨h.1, h.2.1, by omega, h.2.2.2⟩, if_pos h]; omega
        · rw [if_neg (fun hh => h ⟨hh.1, hh.2.1, by omega, hh.2.2.2⟩), if_neg h]; omega
    rw [e1, e2]
    cases dn n <;> simp <;> omega

theorem rowSum_eq {bals : List Int} {l : List Due} (hl : ∀ d ∈ l, 0 ≤ d.frm ∧ d.frm < (bals.length : Int) ∧ 0 ≤ d.to ∧ d.to < (bals.length : Int)) (dn : Nat → Bool) (k : Nat) : rowSum l dn k bals.length = owe dn k l := by
  induction l with
  | nil => rw [rowSum_nil, owe_nil]
  | cons d l ih =>
    obtain ⟨a1, a2, a3, a4⟩ := hl d (by simp)
    rw [rowSum_cons, owe_cons, ih (fun x hx => hl x (by simp [hx]))]
    unfold term
    have e1 : (if d.frm = (k : Int) ∧ 0 ≤ d.to ∧ d.to < (bals.length : Int) then d.amt else 0) = if d.frm = (k : Int) then d.amt else 0 := by
      by_cases h : d.frm = (k : Int)
      · rw [if_pos ⟨h, a3, a4⟩, if_pos h]
      · rw [if_neg (fun hh => h hh.1), if_neg h]
    have e2 : (if d.to = (k : Int) ∧ 0 ≤ d.frm ∧ d.frm < (bals.length : Int) ∧ dn d.frm.toNat = false then d.amt else 0) = if d.to = (k : Int) ∧ dn d.frm.toNat = false then d.amt else 0 := by
      by_cases h : d.to = (k : Int) ∧ dn d.frm.toNat = false
      · rw [if_pos ⟨h.1, a1, a2, h.2⟩, if_pos h]
      · rw [if_neg (fun hh => h ⟨hh.1, hh.2.2.2⟩), if_neg h]
    rw [e1, e2]
    omega

/-- Of banks that are, it is what tells. -/
theorem owe_congr {bals : List Int} {l : List Due} (hl : ∀ d ∈ l, 0 ≤ d.frm ∧ d.frm < (bals.length : Int)) {dn dn' : Nat → Bool} (h : ∀ k, k < bals.length → dn k = dn' k) (k : Nat) : owe dn k l = owe dn' k l := by
  induction l with
  | nil => rfl
  | cons d l ih =>
    obtain ⟨a1, a2⟩ := hl d (by simp)
    rw [owe_cons, owe_cons, ih (fun x hx => hl x (by simp [hx]))]
    unfold term
    rw [h d.frm.toNat (by omega)]

/-- The more have failed the more a bank lacks. -/
theorem owe_mono {n : Nat} {l : List Due} (hl : ∀ d ∈ l, 1 ≤ d.amt ∧ 0 ≤ d.frm ∧ d.frm < (n : Int)) {dn dn' : Nat → Bool} (h : ∀ k, k < n → dn k = true → dn' k = true) (k : Nat) : owe dn k l ≤ owe dn' k l := by
  induction l with
  | nil => exact Int.le_refl _
  | cons d l ih =>
    obtain ⟨a1, a2, a3⟩ := hl d (by simp)
    have i := ih (fun x hx => hl x (by simp [hx]))
    rw [owe_cons, owe_cons]
    have : term dn k d ≤ term dn' k d := by
      unfold term
      by_cases hc : d.to = (k : Int) ∧ dn' d.frm.toNat = false
      · have : dn d.frm.toNat = false := by
          cases hd : dn d.frm.toNat with
          | false => rfl
          | true => rw [h _ (by omega) hd] at hc; exact absurd hc.2 (by decide)
        rw [if_pos hc, if_pos (show d.to = (k : Int) ∧ dn d.frm.toNat = false from ⟨hc.1, this⟩)]
        exact Int.le_refl _
      · rw [if_neg hc]
        by_cases hd : d.to = (k : Int) ∧ dn d.frm.toNat = false
        · rw [if_pos hd]; omega
        · rw [if_neg hd]; exact Int.le_refl _
    omega

/-- Bounds. -/
theorem gross_cons (d : Due) (l : List Due) : gross (d :: l) = d.amt + gross l := by simp [gross]
theorem gross_snoc (l : List Due) (d : Due) : gross (l ++ [d]) = gross l + d.amt := by simp [gross]
theorem gross_nonneg {l : List Due} (h : ∀ d ∈ l, 1 ≤ d.amt) : 0 ≤ gross l := by
  induction l with
  | nil => simp [gross]
  | cons d l ih =>
    have := h d (by simp)
    have := ih (fun x hx => h x (by simp [hx]))
    rw [gross_cons]; omega
theorem owe_bounds {l : List Due} (h : ∀ d ∈ l, 1 ≤ d.amt) (dn : Nat → Bool) (k : Nat) : -gross l ≤ owe dn k l ∧ owe dn k l ≤ gross l := by
  induction l with
  | nil => simp [gross, owe]
  | cons d l ih =>
    have h1 := h d (by simp)
    have h2 := ih (fun x hx => h x (by simp [hx]))
    rw [gross_cons, owe_cons]
    have h3 : -d.amt ≤ term dn k d ∧ term dn k d ≤ d.amt := by
      unfold term
      split <;> split <;> omega
    omega
theorem own_bounds {l : List Due} (h : ∀ d ∈ l, 1 ≤ d.amt) (i j : Nat) : 0 ≤ own l i j ∧ own l i j ≤ gross l := by
  induction l with
  | nil => simp [gross, own]
  | cons d l ih =>
    have h1 := h d (by simp)
    have h2 := ih (fun x hx => h x (by simp [hx]))
    rw [gross_cons, own_cons]
    split <;> omega

/-! ### Who fails, round by round -/
section
variable (bals : List Int) (l : List Due)

/-- Who fails next: those that had not yet and lack something, rising. -/
def next (dn : Nat → Bool) : List Nat := (List.range bals.length).filter fun k => !dn k && decide (0 < lack bals l dn k)
def mark (dn : Nat → Bool) (s : List Nat) : Nat → Bool := fun k => dn k || s.contains k
/-- How many have not failed. -/
def free (dn : Nat → Bool) : Nat := ((List.range bals.length).filter fun k => !dn k).length
def casF : Nat → (Nat → Bool) → List (List Nat)
  | 0, _ => []
  | f + 1, dn => if next bals l dn = [] then [] else next bals l dn :: casF f (mark dn (next bals l dn))
def cas (dn : Nat → Bool) : List (List Nat) := casF bals l bals.length dn
def fin (dn : Nat → Bool) (rs : List (List Nat)) : Nat → Bool := rs.foldl mark dn
/-- The first ones. -/
def firsts (dn : Nat → Bool) (first : List Int) : List Nat := (List.range bals.length).filter fun k => !dn k && first.contains (k : Int)
def none_ : Nat → Bool := fun _ => false
/-- All rounds. -/
def falls (first : List Int) : List (List Nat) :=
  let s := firsts bals none_ first
  (if s = [] then [] else [s]) ++ cas bals l (mark none_ s)
end

section
variable {bals : List Int} {l : List Due}

theorem mem_next {dn : Nat → Bool} {k : Nat} : k ∈ next bals l dn ↔ k < bals.length ∧ dn k = false ∧ 0 < lack bals l dn k := by
  simp [next]
theorem mark_iff {dn : Nat → Bool} {s : List Nat} {k : Nat} : mark dn s k = true ↔ dn k = true ∨ k ∈ s := by
  simp [mark]

theorem filter_lt {p q : Nat → Bool} {k : Nat} : ∀ (L : List Nat), (∀ x ∈ L, q x = true → p x = true) → k ∈ L → p k = true → q k = false → (L.filter q).length < (L.filter p).length
  | [], _, hk, _, _ => by cases hk
  | a :: L, h, hk, hp, hq => by
    have hle : (L.filter q).length ≤ (L.filter p).length := by
      clear hk hp hq
      induction L with
      | nil => simp
      | cons b L ih =>
        have ih' := ih (fun x hx => h x (by
          rcases List.mem_cons.1 hx with e | e
          · simp [e]
          · simp [e]))
        have hb := h b (by simp)
        simp only [List.filter_cons]
        cases hqb : q b with
        | true => rw [if_pos rfl, if_pos (hb hqb)]; simp; exact ih'
        | false =>
          rw [if_neg (by decide)]
          split
          · simp; omega
          · exact ih'
    rcases List.mem_cons.1 hk with rfl | hk'
    · simp only [List.filter_cons]
      rw [if_pos hp, hq, if_neg (by decide)]
      simp; omega
    · have ih := filter_lt L (fun x hx => h x (by simp [hx])) hk' hp hq
      have ha := h a (by simp)
      simp only [List.filter_cons]
      cases hqa : q a with
      | true => rw [if_pos rfl, if_pos (ha hqa)]; simp; exact ih
      | false =>
        rw [if_neg (by decide)]
        split
        · simp; omega
        · exact ih

theorem free_le (dn : Nat → Bool) : free bals dn ≤ bals.length := by
  unfold free
  exact Nat.le_trans (List.length_filter_le _ _) (by rw [List.length_range]; exact Nat.le_refl _)

theorem free_mark {dn : Nat → Bool} (h : next bals l dn ≠ []) : free bals (mark dn (next bals l dn)) < free bals dn := by
  obtain ⟨k, s, hs⟩ : ∃ k s, next bals l dn = k :: s := by
    cases hn : next bals l dn with
    | nil => exact absurd hn h
    | cons k s => exact ⟨k, s, rfl⟩
  have hk : k ∈ next bals l dn := by rw [hs]; simp
  obtain ⟨h1, h2, _⟩ := mem_next.1 hk
  unfold free
  refine filter_lt (k := k) _ (fun x _ hx => ?_) (List.mem_range.2 h1) (by rw [h2]; rfl) (by
    have : mark dn (next bals l dn) k = true := mark_iff.2 (.inr hk)
    rw [this]; rfl)
  cases hd : dn x with
  | false => rfl
  | true =>
    have : mark dn (next bals l dn) x = true := mark_iff.2 (.inl hd)
    rw [this] at hx
    cases hx

theorem casF_more : ∀ (f g : Nat) (dn : Nat → Bool), free bals dn ≤ f → free bals dn ≤ g → casF bals l f dn = casF bals l g dn
  | 0, g, dn, hf, hg => by
    cases g with
    | zero => rfl
    | succ g =>
      rw [casF, casF]
      by_cases hn : next bals l dn = []
      · rw [if_pos hn]
      · have := free_mark hn; omega
  | f + 1, 0, dn, hf, hg => by
    rw [casF, casF]
    by_cases hn : next bals l dn = []
    · rw [if_pos hn]
    · have := free_mark hn; omega
  | f + 1, g + 1, dn, hf, hg => by
    rw [casF, casF]
    by_cases hn : next bals l dn = []
    · rw [if_pos hn, if_pos hn]
    · have := free_mark hn
      rw [if_neg hn, if_neg hn, casF_more f g _ (by omega) (by omega)]

theorem cas_stop {dn : Nat → Bool} (h : next bals l dn = []) : cas bals l dn = [] := by
  unfold cas
  cases bals.length with
  | zero => rfl
  | succ n => rw [casF, if_pos h]

theorem cas_go {dn : Nat → Bool} (h : next bals l dn ≠ []) : cas bals l dn = next bals l dn :: cas bals l (mark dn (next bals l dn)) := by
  have hlt := free_mark h
  have hle := free_le (bals := bals) dn
  unfold cas
  have e : casF bals l bals.length dn = casF bals l (bals.length + 1) dn := casF_more _ _ _ hle (by omega)
  rw [e, casF, if_neg h]

/-- Closed: no other one fails. -/
def Closed (bals : List Int) (l : List Due) (C : Nat → Bool) : Prop := ∀ k, k < bals.length → C k = false → lack bals l C k ≤ 0
def Sub (n : Nat) (a b : Nat → Bool) : Prop := ∀ k, k < n → a k = true → b k = true

theorem fin_cons (dn : Nat → Bool) (s : List Nat) (rs : List (List Nat)) : fin dn (s :: rs) = fin (mark dn s) rs := rfl
theorem fin_append (dn : Nat → Bool) (a b : List (List Nat)) : fin dn (a ++ b) = fin (fin dn a) b := by simp [fin]

theorem fin_iff : ∀ (rs : List (List Nat)) (dn : Nat → Bool) (k : Nat), fin dn rs k = true ↔ dn k = true ∨ ∃ s ∈ rs, k ∈ s
  | [], dn, k => by simp [fin]
  | s :: rs, dn, k => by
    rw [fin_cons, fin_iff rs, mark_iff]
    constructor
    · rintro ((h | h) | ⟨t, ht, hk⟩)
      · exact .inl h
      · exact .inr ⟨s, by simp, h⟩
      · exact .inr ⟨t, by simp [ht], hk⟩
    · rintro (h | ⟨t, ht, hk⟩)
      · exact .inl (.inl h)
      · rcases List.mem_cons.1 ht with rfl | ht
        · exact .inl (.inr hk)
        · exact .inr ⟨t, ht, hk⟩

/-- In the end it is closed, and as small as may be. -/
theorem cas_all (hok : Ok bals l) : ∀ (m : Nat) (dn : Nat → Bool), free bals dn ≤ m →
    Closed bals l (fin dn (cas bals l dn)) ∧ ∀ C, Closed bals l C → Sub bals.length dn C → Sub bals.length (fin dn (cas bals l dn)) C
  | m, dn, hm => by
    by_cases hn : next bals l dn = []
    · rw [cas_stop hn]
      refine ⟨fun k hk hd => ?_, fun C _ h => h⟩
      have hd' : dn k = false := hd
      have : ¬ k ∈ next bals l dn := by rw [hn]; simp
      rw [mem_next] at this
      show lack bals l dn k ≤ 0
      by_cases h : 0 < lack bals l dn k
      · exact absurd ⟨hk, hd', h⟩ this
      · omega
    · have hlt := free_mark hn
      rw [cas_go hn, fin_cons]
      cases m with
      | zero => omega
      | succ m =>
        obtain ⟨h1, h2⟩ := cas_all hok m (mark dn (next bals l dn)) (by omega)
        refine ⟨h1, fun C hC hs => h2 C hC fun k hk hm => ?_⟩
        rcases mark_iff.1 hm with h | h
        · exact hs k hk h
        · obtain ⟨_, h3, h4⟩ := mem_next.1 h
          cases hc : C k with
          | true => rfl
          | false =>
            have h5 := hC k hk hc
            have h6 := owe_mono (n := bals.length) (l := l) (fun d hd => by have := hok.due d hd; omega) hs k
            unfold lack at h4 h5
            omega

/-! ### The first ones, and all rounds -/
theorem mark_nil (dn : Nat → Bool) : mark dn [] = dn := by
  funext k; simp [mark]
theorem mem_firsts {dn : Nat → Bool} {first : List Int} {k : Nat} : k ∈ firsts bals dn first ↔ k < bals.length ∧ dn k = false ∧ (k : Int) ∈ first := by
  simp [firsts]
/-- Who fails in the end. -/
def End (bals : List Int) (l : List Due) (first : List Int) : Nat → Bool := fin none_ (falls bals l first)

theorem End_eq (first : List Int) : End bals l first = fin (mark none_ (firsts bals none_ first)) (cas bals l (mark none_ (firsts bals none_ first))) := by
  unfold End falls
  simp only
  rw [fin_append]
  split
  · rename_i h
    rw [h]
    rfl
  · rfl

theorem End_first {first : List Int} {k : Nat} (hk : k < bals.length) (h : (k : Int) ∈ first) : End bals l first k = true := by
  rw [End_eq, fin_iff]
  exact .inl (mark_iff.2 (.inr (mem_firsts.2 ⟨hk, rfl, h⟩)))

theorem End_closed (hok : Ok bals l) (first : List Int) : Closed bals l (End bals l first) := by
  rw [End_eq]
  exact (cas_all hok _ _ (Nat.le_refl _)).1

/-- It is the least of those that are closed. -/
theorem End_least (hok : Ok bals l) {first : List Int} {C : Nat → Bool} (hC : Closed bals l C) (hf : ∀ k, k < bals.length → (k : Int) ∈ first → C k = true) : Sub bals.length (End bals l first) C := by
  rw [End_eq]
  refine (cas_all hok _ _ (Nat.le_refl _)).2 C hC fun k hk hm => ?_
  rcases mark_iff.1 hm with h | h
  · cases h
  · exact hf k hk (mem_firsts.1 h).2.2

/-- What each round is: banks that are, that had not failed yet, and lack something. -/
def Rounds (bals : List Int) (l : List Due) : (Nat → Bool) → List (List Nat) → Prop
  | _, [] => True
  | dn, s :: rs => s ≠ [] ∧ (∀ b ∈ s, b < bals.length ∧ dn b = false ∧ 0 < lack bals l dn b) ∧ Rounds bals l (mark dn s) rs

theorem cas_rounds : ∀ (m : Nat) (dn : Nat → Bool), free bals dn ≤ m → Rounds bals l dn (cas bals l dn)
  | m, dn, hm => by
    by_cases hn : next bals l dn = []
    · rw [cas_stop hn]; trivial
    · have hlt := free_mark hn
      rw [cas_go hn]
      cases m with
      | zero => omega
      | succ m => exact ⟨hn, fun b hb => mem_next.1 hb, cas_rounds m _ (by omega)⟩

theorem Rounds.lt : ∀ {rs : List (List Nat)} {dn : Nat → Bool}, Rounds bals l dn rs → ∀ s ∈ rs, ∀ b ∈ s, b < bals.length
  | [], _, _, s, hs, _, _ => by cases hs
  | t :: rs, dn, h, s, hs, b, hb => by
    rcases List.mem_cons.1 hs with rfl | hs
    · exact (h.2.1 b hb).1
    · exact Rounds.lt h.2.2 s hs b hb

theorem falls_lt (first : List Int) : ∀ s ∈ falls bals l first, ∀ b ∈ s, b < bals.length := by
  intro s hs b hb
  unfold falls at hs
  simp only [List.mem_append] at hs
  rcases hs with hs | hs
  · split at hs
    · cases hs
    · simp at hs; subst hs
      exact (mem_firsts.1 hb).1
  · exact Rounds.lt (cas_rounds _ _ (Nat.le_refl _)) s hs b hb

theorem End_lt {first : List Int} {k : Nat} (h : End bals l first k = true) : k < bals.length := by
  unfold End at h
  rw [fin_iff] at h
  rcases h with h | ⟨s, hs, hk⟩
  · cases h
  · exact falls_lt first s hs k hk

theorem End_ext {f1 f2 : List Int} (h12 : Sub bals.length (End bals l f1) (End bals l f2)) (h21 : Sub bals.length (End bals l f2) (End bals l f1)) (k : Nat) : End bals l f1 k = End bals l f2 k := by
  cases h1 : End bals l f1 k with
  | true => exact (h12 k (End_lt h1) h1).symm
  | false =>
    cases h2 : End bals l f2 k with
    | false => rfl
    | true => rw [h21 k (End_lt h2) h2] at h1; cases h1

/-! ### THE THEOREM OF STAGE 31 -/
theorem End_more (hok : Ok bals l) (first : List Int) (m : Int) : Sub bals.length (End bals l first) (End bals l (first ++ [m])) :=
  End_least hok (End_closed hok _) fun k hk h => End_first hk (by simp [h])

theorem End_same (hok : Ok bals l) {first : List Int} {m : Nat} (h : End bals l first m = true) (k : Nat) : End bals l first k = End bals l (first ++ [(m : Int)]) k := by
  refine End_ext (End_more hok first m) (End_least hok (End_closed hok _) fun j hj hm => ?_) k
  rcases List.mem_append.1 hm with hm | hm
  · exact End_first hj hm
  · simp at hm
    obtain rfl : j = m := by omega
    exact h

theorem Ok.rich {b' : List Int} (hok : Ok bals l) (hl : b'.length = bals.length) (h : ∀ b ∈ b', 0 ≤ b ∧ b ≤ most) : Ok b' l :=
  ⟨by rw [hl]; exact hok.n16, h, by rw [hl]; exact hok.due, hok.sum, hok.l64⟩

theorem End_rich (hok : Ok bals l) {b' : List Int} (hok' : Ok b' l) (hl : b'.length = bals.length) (h : ∀ k, k < bals.length → bals.getD k 0 ≤ b'.getD k 0) (first : List Int) : Sub bals.length (End b' l first) (End bals l first) := by
  have := End_least hok' (first := first) (C := End bals l first) (fun k hk hd => by
    rw [hl] at hk
    have h1 := End_closed hok first k hk hd
    have h2 := h k hk
    unfold lack at h1 ⊢
    omega) (fun k hk hm => End_first (by rw [← hl]; exact hk) hm)
  rw [hl] at this
  exact this

/-! ### How much would help -/
/-- All have failed that fail without it, and no other one. -/
structure EndEx (bals : List Int) (l : List Due) (first : List Int) (k : Nat) (P : Nat → Bool) : Prop where
  init : ∀ j, j < bals.length → (j : Int) ∈ first → P j = true
  not : P k = false
  closed : ∀ j, j < bals.length → j ≠ k → P j = false → lack bals l P j ≤ 0
  least : ∀ C : Nat → Bool, (∀ j, j < bals.length → (j : Int) ∈ first → C j = true) → (∀ j, j < bals.length → j ≠ k → C j = false → lack bals l C j ≤ 0) → Sub bals.length P C

theorem Ok.owe_mono (hok : Ok bals l) {dn dn' : Nat → Bool} (h : Sub bals.length dn dn') (k : Nat) : owe dn k l ≤ owe dn' k l :=
  Cas.owe_mono (n := bals.length) (fun d hd => by have := hok.due d hd; omega) h k

theorem EndEx.unique (hok : Ok bals l) {first : List Int} {k : Nat} {P Q : Nat → Bool} (hP : EndEx bals l first k P) (hQ : EndEx bals l first k Q) (j : Nat) : lack bals l P j = lack bals l Q j := by
  have h1 := hok.owe_mono (hP.least Q hQ.init hQ.closed) j
  have h2 := hok.owe_mono (hQ.least P hP.init hP.closed) j
  unfold lack
  omega

theorem EndEx.iff (hok : Ok bals l) {first : List Int} {k : Nat} {P : Nat → Bool} (hk : k < bals.length) (hP : EndEx bals l first k P) : End bals l first k = true ↔ 0 < lack bals l P k := by
  constructor
  · intro h
    by_cases hl : 0 < lack bals l P k
    · exact hl
    · have := End_least hok (first := first) (C := P) (fun j hj hd => by
        by_cases e : j = k
        · subst e; omega
        · exact hP.closed j hj e hd) hP.init k hk h
      rw [hP.not] at this
      cases this
  · intro hl
    cases h : End bals l first k with
    | true => rfl
    | false =>
      have h1 := hP.least (End bals l first) (fun j hj hm => End_first hj hm) (fun j hj _ hd => End_closed hok first j hj hd)
      have h2 := hok.owe_mono h1 k
      have h3 := End_closed hok first k hk h
      unfold lack at hl h3
      omega

theorem getD_set (b : List Int) (k j : Nat) (x : Int) (hk : k < b.length) : (b.set k x).getD j 0 = if j = k then x else b.getD j 0 := by
  rw [List.getD_eq_getElem?_getD, List.getD_eq_getElem?_getD, List.getElem?_set]
  by_cases h : k = j
  · subst h; simp [hk]
  · rw [if_neg h, if_neg (fun e => h e.symm)]

/-- With so much more it does not fail. -/
theorem End_help {first : List Int} {k : Nat} {P : Nat → Bool} (hk : k < bals.length) (hP : EndEx bals l first k P) {x : Int} (hx : lack bals l P k ≤ x)
    (hok' : Ok (bals.set k (bals.getD k 0 + x)) l) : End (bals.set k (bals.getD k 0 + x)) l first k = false := by
  cases h : End (bals.set k (bals.getD k 0 + x)) l first k with
  | false => rfl
  | true =>
    have := End_least hok' (first := first) (C := P) (fun j hj hd => by
      rw [List.length_set] at hj
      unfold lack
      rw [getD_set _ _ _ _ hk]
      by_cases e : j = k
      · subst e
        rw [if_pos rfl]
        unfold lack at hx
        omega
      · rw [if_neg e]
        exact hP.closed j hj e hd) (fun j hj hm => hP.init j (by rw [List.length_set] at hj; exact hj) hm) k (by rw [List.length_set]; exact hk) h
    rw [hP.not] at this
    cases this

/-- With one less it does. -/
theorem End_less (hok : Ok bals l) {first : List Int} {k : Nat} {P : Nat → Bool} (hk : k < bals.length) (hP : EndEx bals l first k P) {x : Int} (hx : x < lack bals l P k)
    (hok' : Ok (bals.set k (bals.getD k 0 + x)) l) : End (bals.set k (bals.getD k 0 + x)) l first k = true := by
  cases h : End (bals.set k (bals.getD k 0 + x)) l first k with
  | true => rfl
  | false =>
    have hlen : (bals.set k (bals.getD k 0 + x)).length = bals.length := List.length_set ..
    have hcl := End_closed hok' first
    have h1 := hP.least (End (bals.set k (bals.getD k 0 + x)) l first) (fun j hj hm => End_first (by rw [hlen]; exact hj) hm) (fun j hj e hd => by
      have := hcl j (by rw [hlen]; exact hj) hd
      unfold lack at this
      rw [getD_set _ _ _ _ hk, if_neg e] at this
      exact this)
    have h2 := hok.owe_mono h1 k
    have h3 := hcl k (by rw [hlen]; exact hk) h
    unfold lack at h3 hx
    rw [getD_set _ _ _ _ hk, if_pos rfl] at h3
    omega

/-! ### By whose failing no other one fails -/
def safe (bals : List Int) (l : List Due) : List Nat := (List.range bals.length).filter fun k => (falls bals l [(k : Int)]).length == 1

theorem firsts_one {k : Nat} (hk : k < bals.length) : firsts bals none_ [(k : Int)] = [k] := by
  unfold firsts none_
  have : ∀ n, k < n → (List.range n).filter (fun j : Nat => !false && [(k : Int)].contains (j : Int)) = [k] := by
    intro n
    induction n with
    | zero => intro h; omega
    | succ n ih =>
      intro h
      rw [List.range_succ, List.filter_append]
      by_cases e : k = n
      · subst e
        have h0 : (List.range k).filter (fun j : Nat => !false && [(k : Int)].contains (j : Int)) = [] := by
          rw [List.filter_eq_nil_iff]
          intro j hj
          have := List.mem_range.1 hj
          simp; omega
        rw [h0]; simp
      · rw [ih (by omega)]
        have : ¬ ((n : Int) = (k : Int)) := by omega
        simp [this]
  exact this _ hk

theorem falls_one {k : Nat} (hk : k < bals.length) : falls bals l [(k : Int)] = [k] :: cas bals l (mark none_ [k]) := by
  unfold falls
  simp only
  rw [firsts_one hk]
  simp

theorem safe_closed (hok : Ok bals l) {k : Nat} (hk : k < bals.length) (h : (falls bals l [(k : Int)]).length = 1) : ∀ s ∈ falls bals l [], s = [k] := by
  rw [falls_one hk] at h
  have hnil : cas bals l (mark none_ [k]) = [] := by
    cases hc : cas bals l (mark none_ [k]) with
    | nil => rfl
    | cons a b => rw [hc] at h; simp at h
  have hcl := (cas_all hok _ (mark none_ [k]) (Nat.le_refl _)).1
  rw [hnil] at hcl
  have hle := End_least hok (first := []) hcl (fun j _ hm => by cases hm)
  intro s hs
  have hr : Rounds bals l none_ (falls bals l []) := by
    have : falls bals l [] = cas bals l none_ := by
      have e : firsts bals none_ [] = [] := by
        unfold firsts
        rw [List.filter_eq_nil_iff]
        intro j _
        simp
      unfold falls
      simp only
      rw [e, mark_nil]
      simp
    rw [this]
    exact cas_rounds _ _ (Nat.le_refl _)
  have hsub : ∀ b ∈ s, b = k := by
    intro b hb
    have hE : End bals l [] b = true := by
      unfold End
      rw [fin_iff]
      exact .inr ⟨s, hs, hb⟩
    have := hle b (End_lt hE) hE
    have this : mark none_ [k] b = true := this
    rcases mark_iff.1 this with h | h
    · cases h
    · simpa using h
  have hone : ∀ (dn : Nat → Bool) (rs : List (List Nat)), Rounds bals l dn rs → s ∈ rs → s ≠ [] := by
    intro dn rs
    induction rs generalizing dn with
    | nil => intro _ h; cases h
    | cons t rs ih =>
      intro h hm
      rcases List.mem_cons.1 hm with rfl | hm
      · exact h.1
      · exact ih _ h.2.2 hm
  have hne := hone _ _ hr hs
  -- a round has no bank twice
  have hnd : s.Nodup := by
    have key : ∀ (m : Nat) (dn : Nat → Bool), free bals dn ≤ m → ∀ t ∈ cas bals l dn, t.Nodup := by
      intro m
      induction m with
      | zero =>
        intro dn hm t ht
        by_cases hn : next bals l dn = []
        · rw [cas_stop hn] at ht; cases ht
        · have := free_mark hn; omega
      | succ m ih =>
        intro dn hm t ht
        by_cases hn : next bals l dn = []
        · rw [cas_stop hn] at ht; cases ht
        · rw [cas_go hn] at ht
          rcases List.mem_cons.1 ht with rfl | ht
          · exact List.Pairwise.filter _ List.nodup_range
          · exact ih _ (by have := free_mark hn; omega) t ht
    have : falls bals l [] = cas bals l none_ := by
      have e : firsts bals none_ [] = [] := by
        unfold firsts
        rw [List.filter_eq_nil_iff]
        intro j _
        simp
      unfold falls
      simp only
      rw [e, mark_nil]
      simp
    rw [this] at hs
    exact key _ _ (Nat.le_refl _) s hs
  match s, hne, hsub, hnd with
  | [a], _, hsub, _ => rw [hsub a (by simp)]
  | a :: b :: t, _, hsub, hnd =>
    have ha := hsub a (by simp)
    have hb := hsub b (by simp)
    subst ha; subst hb
    simp at hnd

theorem safe_none (bals : List Int) (h : ∀ b ∈ bals, 0 ≤ b) : safe bals [] = List.range bals.length := by
  unfold safe
  rw [List.filter_eq_self]
  intro k hk
  have hk := List.mem_range.1 hk
  rw [falls_one hk]
  have hn : next bals [] (mark none_ [k]) = [] := by
    unfold next
    rw [List.filter_eq_nil_iff]
    intro j hj
    have hj := List.mem_range.1 hj
    have : 0 ≤ bals.getD j 0 := by
      rw [List.getD_eq_getElem?_getD, List.getElem?_eq_getElem hj]
      exact h _ (List.getElem_mem hj)
    unfold lack
    rw [owe_nil]
    simp
    intro _
    simp at this
    omega
  rw [cas_stop hn]
  rfl
end

end Cas

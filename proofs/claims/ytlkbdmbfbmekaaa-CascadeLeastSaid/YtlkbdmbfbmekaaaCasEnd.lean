/-
  Layer 31 (cascade), plain: what the laws on Fall, Safe and Help ask of the rounds. No program in sight.
-/
import Derived.Test.YtlkbdmbfbmekaaaCasPlain
namespace Cas
section
variable {bals : List Int} {l : List Due}

theorem errs_zero {first : List Int} : errs bals l first = 0 ↔ bals.length ≤ 16 ∧ l.length ≤ 64 ∧ first.length ≤ 16 ∧ bals.any badBal = false ∧ l.any bad = false ∧ first.any (noBank bals.length) = false ∧ l.any (farDue bals.length) = false ∧ gross l ≤ most := by
  unfold errs
  by_cases h1 : 16 < bals.length
  · rw [if_pos h1]; exact ⟨fun h => (by cases h), fun h => (by omega)⟩
  rw [if_neg h1]
  by_cases h2 : 64 < l.length
  · rw [if_pos h2]; exact ⟨fun h => (by cases h), fun h => (by omega)⟩
  rw [if_neg h2]
  by_cases h3 : 16 < first.length
  · rw [if_pos h3]; exact ⟨fun h => (by cases h), fun h => (by omega)⟩
  rw [if_neg h3]
  by_cases h4 : bals.any badBal = true
  · rw [if_pos h4]; exact ⟨fun h => (by cases h), fun h => (by rw [h.2.2.2.1] at h4; cases h4)⟩
  rw [if_neg h4]
  by_cases h5 : l.any bad = true
  · rw [if_pos h5]; exact ⟨fun h => (by cases h), fun h => (by rw [h.2.2.2.2.1] at h5; cases h5)⟩
  rw [if_neg h5]
  by_cases h6 : first.any (noBank bals.length) = true
  · rw [if_pos h6]; exact ⟨fun h => (by cases h), fun h => (by rw [h.2.2.2.2.2.1] at h6; cases h6)⟩
  rw [if_neg h6]
  by_cases h7 : l.any (farDue bals.length) = true
  · rw [if_pos h7]; exact ⟨fun h => (by cases h), fun h => (by rw [h.2.2.2.2.2.2.1] at h7; cases h7)⟩
  rw [if_neg h7]
  by_cases h8 : most < gross l
  · rw [if_pos h8]; exact ⟨fun h => (by cases h), fun h => (by omega)⟩
  rw [if_neg h8]
  exact ⟨fun _ => ⟨by omega, by omega, by omega, by simpa using h4, by simpa using h5, by simpa using h6, by simpa using h7, by omega⟩, fun _ => rfl⟩

theorem errs_snoc {first : List Int} (h : errs bals l first = 0) {m : Nat} (hm : m < bals.length) (hl : first.length ≤ 15) : errs bals l (first ++ [(m : Int)]) = 0 := by
  rw [errs_zero] at h ⊢
  obtain ⟨a, b, c, d, e, f, g, i⟩ := h
  refine ⟨a, b, by simp; omega, d, e, ?_, g, i⟩
  rw [List.any_append, f]
  simp [noBank]
  omega
theorem errs_of {first first' : List Int} (h : errs bals l first = 0) (hl : first'.length ≤ 16) (hf : ∀ k ∈ first', 0 ≤ k ∧ k < (bals.length : Int)) : errs bals l first' = 0 := by
  rw [errs_zero] at h ⊢
  obtain ⟨a, b, c, d, e, f, g, i⟩ := h
  refine ⟨a, b, hl, d, e, ?_, g, i⟩
  rw [List.any_eq_false]
  intro k hk
  have := hf k hk
  simp [noBank]
  omega
theorem errs_rich {first : List Int} {b' : List Int} (h : errs bals l first = 0) (hl : b'.length = bals.length) (hb : ∀ b ∈ b', 0 ≤ b ∧ b ≤ most) : errs b' l first = 0 := by
  rw [errs_zero] at h ⊢
  obtain ⟨a, b, c, d, e, f, g, i⟩ := h
  rw [hl]
  refine ⟨a, b, c, ?_, e, f, g, i⟩
  rw [List.any_eq_false]
  intro x hx
  have := hb x hx
  simp [badBal]
  omega
theorem errs_no_dues {first : List Int} (h : errs bals l first = 0) : errs bals [] first = 0 := by
  rw [errs_zero] at h ⊢
  obtain ⟨a, b, c, d, e, f, g, i⟩ := h
  exact ⟨a, by simp, c, d, rfl, f, rfl, by simp [gross, most]⟩

theorem Rounds.at_ : ∀ {rs : List (List Nat)} {dn : Nat → Bool}, Rounds bals l dn rs → ∀ (i : Nat) (s : List Nat), rs[i]? = some s → ∀ b ∈ s, b < bals.length ∧ fin dn (rs.take i) b = false ∧ 0 < lack bals l (fin dn (rs.take i)) b
  | [], _, _, i, s, hs, _, _ => by simp at hs
  | t :: rs, dn, h, 0, s, hs, b, hb => by
    simp at hs; subst hs
    exact h.2.1 b hb
  | t :: rs, dn, h, i + 1, s, hs, b, hb => by
    have := Rounds.at_ h.2.2 i s (by simpa using hs) b hb
    rw [List.take_succ_cons, fin_cons]
    exact this

theorem firsts_nil_ : firsts bals none_ [] = [] := by
  unfold firsts
  rw [List.filter_eq_nil_iff]
  intro j _
  simp
theorem falls_nil_ : falls bals l [] = cas bals l none_ := by
  unfold falls
  simp only
  rw [firsts_nil_, mark_nil]
  simp

theorem falls_cons_ {first : List Int} (hne : first ≠ []) (hf : ∀ k ∈ first, 0 ≤ k ∧ k < (bals.length : Int)) : falls bals l first = firsts bals none_ first :: cas bals l (mark none_ (firsts bals none_ first)) := by
  have hn : firsts bals none_ first ≠ [] := by
    obtain ⟨k, t, rfl⟩ : ∃ k t, first = k :: t := by
      cases first with
      | nil => exact absurd rfl hne
      | cons k t => exact ⟨k, t, rfl⟩
    obtain ⟨h1, h2⟩ := hf k (by simp)
    have : k.toNat ∈ firsts bals none_ (k :: t) := mem_firsts.2 ⟨by omega, rfl, by rw [show ((k.toNat : Nat) : Int) = k by omega]; simp⟩
    intro e
    rw [e] at this
    cases this
  unfold falls
  simp only
  rw [if_neg hn]
  rfl

/-- What each round is. -/
theorem falls_at {first : List Int} (hf : ∀ k ∈ first, 0 ≤ k ∧ k < (bals.length : Int)) {i : Nat} {s : List Nat} (hs : (falls bals l first)[i]? = some s) {b : Nat} (hb : b ∈ s) :
    b < bals.length ∧ fin none_ ((falls bals l first).take i) b = false ∧ ((0 < i ∨ first = []) → 0 < lack bals l (fin none_ ((falls bals l first).take i)) b) := by
  by_cases he : first = []
  · subst he
    rw [falls_nil_] at hs ⊢
    obtain ⟨h1, h2, h3⟩ := (cas_rounds _ none_ (Nat.le_refl _)).at_ i s hs b hb
    exact ⟨h1, h2, fun _ => h3⟩
  · rw [falls_cons_ he hf] at hs ⊢
    cases i with
    | zero =>
      simp at hs
      subst hs
      exact ⟨(mem_firsts.1 hb).1, rfl, fun h => (by
        rcases h with h | h
        · omega
        · exact absurd h he)⟩
    | succ i =>
      rw [List.take_succ_cons, fin_cons]
      obtain ⟨h1, h2, h3⟩ := (cas_rounds _ (mark none_ (firsts bals none_ first)) (Nat.le_refl _)).at_ i s (by simpa using hs) b hb
      exact ⟨h1, h2, fun _ => h3⟩

/-- Where nothing is owed all are safe. -/
theorem safe_no_dues (hb : ∀ b ∈ bals, 0 ≤ b) : safe bals [] = List.range bals.length := by
  unfold safe
  rw [List.filter_eq_self]
  intro k hk
  have hk := List.mem_range.1 hk
  rw [falls_one hk]
  have : next bals [] (mark none_ [k]) = [] := by
    unfold next
    rw [List.filter_eq_nil_iff]
    intro j hj
    have hj := List.mem_range.1 hj
    have h0 := hb (bals.getD j 0) (by rw [List.getD_eq_getElem?_getD, List.getElem?_eq_getElem hj]; exact List.getElem_mem hj)
    unfold lack
    rw [owe_nil]
    simp
    intro _
    simp at h0
    omega
  rw [cas_stop this]
  rfl

theorem getD_mem {k : Nat} (hk : k < bals.length) : bals.getD k 0 ∈ bals := by
  rw [List.getD_eq_getElem?_getD, List.getElem?_eq_getElem hk]; exact List.getElem_mem hk

theorem lack_most (hok : Ok bals l) {k : Nat} (hk : k < bals.length) (dn : Nat → Bool) : lack bals l dn k ≤ most := by
  have h1 := hok.bal _ (getD_mem hk)
  have h2 := (owe_bounds (l := l) (fun d hd => (hok.due d hd).2.2.2.2.2) dn k).2
  have h3 := hok.sum
  unfold lack
  omega
end
end Cas

/-
  Layer 23 (rows), plain: how much a state grows by a row that is taken. No program in sight.
-/
import Derived.Test.YtniekddoaokmkaaRdKindP
namespace Rws

def many (r : Round) : Nat := r.ids.length + r.edges.length + r.flow.length + r.pot.length
def tot (l : List Round) : Nat := (l.map many).sum
theorem tot_append (l m : List Round) : tot (l ++ m) = tot l + tot m := by simp [tot]
theorem tot_cons (x : Round) (m : List Round) : tot (x :: m) = many x + tot m := by simp [tot]
theorem kinds_len (l : List Round) : (kinds.flatMap fun k => l.flatMap (items k)).length = tot l := by
  induction l with
  | nil => simp [kinds, tot]
  | cons x l ih =>
    rw [tot_cons, ← ih]
    simp only [kinds, List.flatMap_cons, List.flatMap_nil, List.length_append, List.length_nil]
    simp only [items, many, mapI_length, if_true, (by decide : ¬ (5 : Nat) = 4), (by decide : ¬ (6 : Nat) = 4), (by decide : ¬ (6 : Nat) = 5), (by decide : ¬ (7 : Nat) = 4), (by decide : ¬ (7 : Nat) = 5), (by decide : ¬ (7 : Nat) = 6), if_false]
    omega
theorem rows_len (s : St) : (rowsOf s).length = 1 + s.accts.length + s.dues.length + s.rounds.length + tot s.rounds + s.asked.length := by
  unfold rowsOf
  simp only [List.length_append, kinds_len, mapI_length, List.length_map, List.length_singleton]
theorem tot_set {l : List Round} {j : Nat} {x y : Round} (h : l[j]? = some x) (hm : many y = many x + 1) : tot (l.set j y) = tot l + 1 := by
  have hj := (List.getElem?_eq_some_iff.1 h).1
  have e1 : l = l.take j ++ x :: l.drop (j + 1) := by
    have h2 : l[j] = x := (List.getElem?_eq_some_iff.1 h).2
    rw [← h2, ← List.drop_eq_getElem_cons hj, List.take_append_drop]
  have e2 : l.set j y = l.take j ++ y :: l.drop (j + 1) := by
    rw [List.set_eq_take_append_cons_drop, if_pos hj]
  rw [e2, tot_append, tot_cons, hm]
  have := congrArg tot e1
  rw [tot_append, tot_cons] at this
  omega

/-- A state behind a row that is taken: no more than one more, and what is remembered is no longer than the row. -/
structure Grown (s s' : St) (n : Nat) : Prop where
  len : (rowsOf s').length ≤ (rowsOf s).length + 1
  ask : ∀ a ∈ s'.asked, a ∈ s.asked ∨ a.ask.length ≤ n ∧ a.reply.length ≤ n
theorem grown_item {s s' : St} {k v : Rd} {K n : Nat} (hK : 4 ≤ K ∧ K ≤ 7) (h : readItem s K k v = some s') : Grown s s' n := by
  have main : ∀ (o : Round → Round), (∀ x, many (o x) = many x + 1) → ∀ (b : Bool), (if b = true then none else ((placeOf ((k.take 8).1 : Int) s.rounds).bind fun j => s.rounds[j]?.map fun x => { s with rounds := s.rounds.set j (o x) })) = some s' → Grown s s' n := by
    intro o ho b hh
    split at hh
    · cases hh
    · cases hp : placeOf ((k.take 8).1 : Int) s.rounds with
      | none => rw [hp] at hh; cases hh
      | some j =>
        rw [hp, Option.bind_some] at hh
        cases hx : s.rounds[j]? with
        | none => rw [hx] at hh; cases hh
        | some x =>
          rw [hx, Option.map_some] at hh
          injection hh with hh
          subst hh
          refine ⟨?_, fun a ha => .inl ha⟩
          rw [rows_len, rows_len]
          simp only [List.length_set, tot_set hx (ho x)]
          omega
  obtain rfl | rfl | rfl | rfl : K = 4 ∨ K = 5 ∨ K = 6 ∨ K = 7 := by omega
  · rw [readItem4] at h
    exact main _ (fun x => by simp [many]; omega) _ h
  · rw [readItem5] at h
    exact main _ (fun x => by simp [many]; omega) _ h
  · rw [readItem6] at h
    exact main _ (fun x => by simp [many]; omega) _ h
  · rw [readItem7] at h
    exact main _ (fun x => by simp [many]; omega) _ h
theorem grown_row {s s' : St} {p : Pair} (h : readRow s p = some s') (hk : ∃ k kb, p.1 = k :: kb ∧ k ≤ 8) : Grown s s' p.2.length := by
  obtain ⟨k, kb, e, hk⟩ := hk
  obtain ⟨p1, v⟩ := p
  simp only at e
  subst e
  have hk' : k = 0 ∨ k = 1 ∨ k = 2 ∨ k = 3 ∨ k = 8 ∨ k = 4 ∨ k = 5 ∨ k = 6 ∨ k = 7 := by
    have h1 : k.toNat ≤ 8 := UInt8.le_iff_toNat_le.1 hk
    have h2 : ∀ j : UInt8, k.toNat = j.toNat → k = j := fun j hj => UInt8.toNat_inj.1 hj
    have h3 : k.toNat = 0 ∨ k.toNat = 1 ∨ k.toNat = 2 ∨ k.toNat = 3 ∨ k.toNat = 8 ∨ k.toNat = 4 ∨ k.toNat = 5 ∨ k.toNat = 6 ∨ k.toNat = 7 := by omega
    rcases h3 with h3 | h3 | h3 | h3 | h3 | h3 | h3 | h3 | h3
    · exact .inl (h2 0 h3)
    · exact .inr (.inl (h2 1 h3))
    · exact .inr (.inr (.inl (h2 2 h3)))
    · exact .inr (.inr (.inr (.inl (h2 3 h3))))
    · exact .inr (.inr (.inr (.inr (.inl (h2 8 h3)))))
    · exact .inr (.inr (.inr (.inr (.inr (.inl (h2 4 h3))))))
    · exact .inr (.inr (.inr (.inr (.inr (.inr (.inl (h2 5 h3)))))))
    · exact .inr (.inr (.inr (.inr (.inr (.inr (.inr (.inl (h2 6 h3))))))))
    · exact .inr (.inr (.inr (.inr (.inr (.inr (.inr (.inr (h2 7 h3))))))))
  rcases hk' with rfl | rfl | rfl | rfl | rfl | rfl | rfl | rfl | rfl
  · have h2 : readHead s ⟨v, 0, false⟩ = some s' := h
    unfold readHead at h2
    simp only at h2
    split at h2
    · cases h2
    · injection h2 with h2
      subst h2
      exact ⟨by rw [rows_len, rows_len]; simp only; omega, fun a ha => .inl ha⟩
  · have h2 : readAcct s ⟨v, 0, false⟩ = some s' := h
    unfold readAcct at h2
    simp only at h2
    split at h2
    · cases h2
    · injection h2 with h2
      subst h2
      exact ⟨by rw [rows_len, rows_len]; simp only [List.length_append, List.length_singleton]; omega, fun a ha => .inl ha⟩
  · have h2 : readDue s ⟨kb, 0, false⟩ ⟨v, 0, false⟩ = some s' := h
    unfold readDue at h2
    simp only at h2
    split at h2
    · cases h2
    · injection h2 with h2
      subst h2
      exact ⟨by rw [rows_len, rows_len]; simp only [List.length_append, List.length_singleton]; omega, fun a ha => .inl ha⟩
  · have h2 : readRound s ⟨kb, 0, false⟩ ⟨v, 0, false⟩ = some s' := h
    unfold readRound at h2
    simp only at h2
    split at h2
    · cases h2
    · injection h2 with h2
      subst h2
      refine ⟨?_, fun a ha => .inl ha⟩
      rw [rows_len, rows_len]
      simp only [List.length_append, List.length_singleton, tot_append]
      simp [tot, many]
      omega
  · have h2 : readAsked s ⟨v, 0, false⟩ = some s' := h
    unfold readAsked at h2
    simp only at h2
    split at h2
    · cases h2
    · injection h2 with h2
      subst h2
      refine ⟨by rw [rows_len, rows_len]; simp only [List.length_append, List.length_singleton]; omega, fun a ha => ?_⟩
      rcases List.mem_append.1 ha with ha | ha
      · exact .inl ha
      · rw [List.mem_singleton] at ha
        subst ha
        right
        simp only [List.length_take, List.length_drop]
        have e : ((((⟨v, 0, false⟩ : Rd).take 4).2.take 8).2.take 2).2.b = v := by rw [Rd.take_b, Rd.take_b, Rd.take_b]
        rw [e]
        constructor <;> omega
  · exact grown_item (K := 4) (by omega) h
  · exact grown_item (K := 5) (by omega) h
  · exact grown_item (K := 6) (by omega) h
  · exact grown_item (K := 7) (by omega) h

/-- Of all of them. -/
theorem grown_all {M : Nat} : ∀ (l : List Pair) (s s' : St), readAll s l = some s' → (∀ p ∈ l, (∃ k kb, p.1 = k :: kb ∧ k ≤ 8) ∧ p.2.length ≤ M) → (∀ a ∈ s.asked, a.ask.length ≤ M ∧ a.reply.length ≤ M) →
    (rowsOf s').length ≤ (rowsOf s).length + l.length ∧ ∀ a ∈ s'.asked, a.ask.length ≤ M ∧ a.reply.length ≤ M
  | [], s, s', h, _, ha => by
    injection h with h
    subst h
    exact ⟨by simp, ha⟩
  | p :: l, s, s', h, hp, ha => by
    rw [readAll] at h
    cases hr : readRow s p with
    | none => rw [hr] at h; cases h
    | some s1 =>
      rw [hr, Option.bind_some] at h
      obtain ⟨h1, h2⟩ := grown_row hr (hp p (by simp)).1
      have hM := (hp p (by simp)).2
      obtain ⟨h3, h4⟩ := grown_all l s1 s' h (fun q hq => hp q (by simp [hq])) (fun a hs => by
        rcases h2 a hs with h5 | h5
        · exact ha a h5
        · omega)
      exact ⟨by rw [List.length_cons]; omega, h4⟩
theorem rows_st0 : (rowsOf st0).length = 1 := rfl

/-! ### The keys of rows -/
def Kinded (p : Pair) : Prop := ∃ k kb, p.1 = k :: kb ∧ k ≤ 8
theorem items_kinded (k : Nat) (x : Round) : ∀ p ∈ items k x, Kinded p := by
  intro p hp
  unfold items at hp
  split at hp
  · obtain ⟨i, z, _, rfl⟩ := mem_mapI.1 hp; exact ⟨4, _, rfl, by decide⟩
  · split at hp
    · obtain ⟨i, z, _, rfl⟩ := mem_mapI.1 hp; exact ⟨5, _, rfl, by decide⟩
    · split at hp
      · obtain ⟨i, z, _, rfl⟩ := mem_mapI.1 hp; exact ⟨6, _, rfl, by decide⟩
      · split at hp
        · obtain ⟨i, z, _, rfl⟩ := mem_mapI.1 hp; exact ⟨7, _, rfl, by decide⟩
        · cases hp
theorem rows_kinded (s : St) : ∀ p ∈ rowsOf s, Kinded p := by
  intro p hp
  unfold rowsOf at hp
  simp only [List.mem_append, List.mem_singleton, List.mem_map, List.mem_flatMap] at hp
  rcases hp with ((((rfl | hp) | ⟨d, _, rfl⟩) | ⟨r, _, rfl⟩) | ⟨k, _, x, _, hp⟩) | hp
  · exact ⟨0, _, rfl, by decide⟩
  · obtain ⟨i, z, _, rfl⟩ := mem_mapI.1 hp; exact ⟨1, _, rfl, by decide⟩
  · exact ⟨2, _, rfl, by decide⟩
  · exact ⟨3, _, rfl, by decide⟩
  · exact items_kinded k x p hp
  · obtain ⟨i, z, _, rfl⟩ := mem_mapI.1 hp; exact ⟨8, _, rfl, by decide⟩
/-- And how long rows are. -/
theorem nums_le (l : List (Int × Nat)) (n : Nat) (h : (l.map (·.2)).sum ≤ n) : (nums l).length ≤ n := by rw [nums_length]; exact h
theorem rows_short {s : St} {M : Nat} (h : ∀ a ∈ s.asked, a.ask.length + a.reply.length ≤ M) : ∀ p ∈ rowsOf s, p.1.length ≤ M + 100 ∧ p.2.length ≤ M + 100 := by
  intro p hp
  have hi : ∀ (k : Nat) (x : Round), p ∈ items k x → p.1.length ≤ M + 100 ∧ p.2.length ≤ M + 100 := by
    intro k x hp
    unfold items at hp
    split at hp
    · obtain ⟨i, z, _, rfl⟩ := mem_mapI.1 hp; simp [numRow, itemKey, key, nums_length]
    · split at hp
      · obtain ⟨i, z, _, rfl⟩ := mem_mapI.1 hp; simp [edgeRow, itemKey, key, nums_length]
      · split at hp
        · obtain ⟨i, z, _, rfl⟩ := mem_mapI.1 hp; simp [numRow, itemKey, key, nums_length]
        · split at hp
          · obtain ⟨i, z, _, rfl⟩ := mem_mapI.1 hp; simp [numRow, itemKey, key, nums_length]
          · cases hp
  unfold rowsOf at hp
  simp only [List.mem_append, List.mem_singleton, List.mem_map, List.mem_flatMap] at hp
  rcases hp with ((((rfl | hp) | ⟨d, _, rfl⟩) | ⟨r, _, rfl⟩) | ⟨k, _, x, _, hp⟩) | hp
  · simp [headRow, key, nums_length]
  · obtain ⟨i, z, _, rfl⟩ := mem_mapI.1 hp; simp [acctRow, key, nums_length]
  · simp [dueRow, key, nums_length]
  · simp [roundRow, key, nums_length]
  · exact hi k x hp
  · obtain ⟨i, z, hz, rfl⟩ := mem_mapI.1 hp
    have := h z (List.mem_of_getElem? hz)
    simp [askedRow, key, nums_length]; omega
end Rws

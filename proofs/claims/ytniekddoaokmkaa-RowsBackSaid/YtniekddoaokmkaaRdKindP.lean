/-
  Layer 23 (rows), plain: what a round's item is as a row.
-/
import Derived.Test.YtniekddoaokmkaaRdPlain
namespace Rws
theorem items_le {s : St} (h : (rowsOf s).length ≤ 1900000) (k : Nat) (hk : k ∈ kinds) (x : Round) (hx : x ∈ s.rounds) : (items k x).length ≤ 1900000 := by
  unfold rowsOf at h
  have h1 : (items k x).length ≤ (s.rounds.flatMap (items k)).length := by
    obtain ⟨a, b, e⟩ := List.append_of_mem hx
    rw [e]; simp; omega
  have h2 : (s.rounds.flatMap (items k)).length ≤ (kinds.flatMap fun k => s.rounds.flatMap (items k)).length := by
    obtain ⟨a, b, e⟩ := List.append_of_mem hk
    rw [e]; simp only [List.flatMap_append, List.flatMap_cons, List.length_append]; omega
  simp only [List.length_append] at h
  omega
theorem ids_le {s : St} (h : (rowsOf s).length ≤ 1900000) : ∀ x ∈ s.rounds, x.ids.length ≤ 1900000 := fun x hx => by
  have := items_le h 4 (by simp [kinds]) x hx
  simpa [items, mapI_length] using this
theorem edges_le {s : St} (h : (rowsOf s).length ≤ 1900000) : ∀ x ∈ s.rounds, x.edges.length ≤ 1900000 := fun x hx => by
  have := items_le h 5 (by simp [kinds]) x hx
  simpa [items, mapI_length] using this
theorem flow_le {s : St} (h : (rowsOf s).length ≤ 1900000) : ∀ x ∈ s.rounds, x.flow.length ≤ 1900000 := fun x hx => by
  have := items_le h 6 (by simp [kinds]) x hx
  simpa [items, mapI_length] using this
theorem pot_le {s : St} (h : (rowsOf s).length ≤ 1900000) : ∀ x ∈ s.rounds, x.pot.length ≤ 1900000 := fun x hx => by
  have := items_le h 7 (by simp [kinds]) x hx
  simpa [items, mapI_length] using this
theorem readItem4 (s : St) (k v : Rd) : readItem s 4 k v = if (k.take 8).2.sh || (v.take 8).2.sh then none else ((placeOf ((k.take 8).1 : Int) s.rounds).bind fun j => s.rounds[j]?.map fun x => { s with rounds := s.rounds.set j { x with ids := x.ids ++ [((v.take 8).1 : Int)] } }) := by
  unfold readItem
  simp only
  cases placeOf ((k.take 8).1 : Int) s.rounds with
  | none => simp
  | some j =>
    simp only [Option.bind_some]
    cases s.rounds[j]? with
    | none => simp
    | some x => simp
theorem readItem5 (s : St) (k v : Rd) : readItem s 5 k v = if (k.take 8).2.sh || ((((v.take 1).2.take 1).2.take 8).2.take 8).2.sh then none else ((placeOf ((k.take 8).1 : Int) s.rounds).bind fun j => s.rounds[j]?.map fun x => { s with rounds := s.rounds.set j { x with edges := x.edges ++ [(⟨((v.take 1).1 : Int), (((v.take 1).2.take 1).1 : Int), Rws.s64 (((v.take 1).2.take 1).2.take 8).1, Rws.s64 ((((v.take 1).2.take 1).2.take 8).2.take 8).1⟩ : Rws.Edge)] } }) := by
  unfold readItem
  simp only
  cases placeOf ((k.take 8).1 : Int) s.rounds with
  | none => simp
  | some j =>
    simp only [Option.bind_some]
    cases s.rounds[j]? with
    | none => simp
    | some x => simp
theorem readItem6 (s : St) (k v : Rd) : readItem s 6 k v = if (k.take 8).2.sh || (v.take 8).2.sh then none else ((placeOf ((k.take 8).1 : Int) s.rounds).bind fun j => s.rounds[j]?.map fun x => { s with rounds := s.rounds.set j { x with flow := x.flow ++ [Rws.s64 (v.take 8).1] } }) := by
  unfold readItem
  simp only
  cases placeOf ((k.take 8).1 : Int) s.rounds with
  | none => simp
  | some j =>
    simp only [Option.bind_some]
    cases s.rounds[j]? with
    | none => simp
    | some x => simp
theorem readItem7 (s : St) (k v : Rd) : readItem s 7 k v = if (k.take 8).2.sh || (v.take 8).2.sh then none else ((placeOf ((k.take 8).1 : Int) s.rounds).bind fun j => s.rounds[j]?.map fun x => { s with rounds := s.rounds.set j { x with pot := x.pot ++ [Rws.s64 (v.take 8).1] } }) := by
  unfold readItem
  simp only
  cases placeOf ((k.take 8).1 : Int) s.rounds with
  | none => simp
  | some j =>
    simp only [Option.bind_some]
    cases s.rounds[j]? with
    | none => simp
    | some x => simp
end Rws

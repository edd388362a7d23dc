/-
  Layer 23 (rows), plain: the rows of a state that fits rise; what turns pairs into others, counted. No program in sight.
-/
import Derived.Test.YtniekddoaokmkaaWrPlain
namespace Rws

/-! ### The order of keys of one kind -/
theorem order_head {a b : UInt8} {x y : List UInt8} (h : a < b) : Oct.order (a :: x) (b :: y) < 0 := by
  rw [Oct.order]
  simp [h]
theorem order_same (a : UInt8) (x y : List UInt8) : Oct.order (a :: x) (a :: y) = Oct.order x y := by
  rw [Oct.order]
  simp
theorem order_long : ∀ (x y p q : List UInt8), x.length = y.length → Oct.order x y < 0 → Oct.order (x ++ p) (y ++ q) < 0
  | [], [], p, q, _, h => by simp [Oct.order] at h
  | [], _ :: _, p, q, h, _ => by simp at h
  | _ :: _, [], p, q, h, _ => by simp at h
  | a :: x, b :: y, p, q, hl, h => by
    rw [List.cons_append, List.cons_append]
    by_cases h1 : a < b
    · exact order_head h1
    · by_cases h2 : b < a
      · rw [Oct.order] at h
        simp [h1, h2] at h
      · have e : a = b := Oct.u8_eq h1 h2
        subst e
        rw [order_same] at h ⊢
        exact order_long x y p q (by simpa using hl) h
theorem be_lt {n : Nat} {x y : Int} (h0 : 0 ≤ x) (h : x < y) (hy : y < 256 ^ n) (hn : n ≤ 8) : Oct.order (Oct.be (u64 x) n) (Oct.be (u64 y) n) < 0 := by
  have h8 : (256 : Nat) ^ n ≤ 18446744073709551616 := Nat.le_trans (Nat.pow_le_pow_right (by omega) hn) (by decide)
  have hyn : y < ((256 ^ n : Nat) : Int) := by rw [Int.natCast_pow]; exact hy
  have ex : ((u64 x : Nat) : Int) = x := u64_pos h0 (by omega)
  have ey : ((u64 y : Nat) : Int) = y := u64_pos (by omega) (by omega)
  rw [Oct.order_be n _ _ (by omega) (by omega), if_pos (by omega)]
  omega
theorem key1_lt {k : UInt8} {n : Nat} {x y : Int} (h0 : 0 ≤ x) (h : x < y) (hy : y < 256 ^ n) (hn : n ≤ 8) : lt (key k [(x, n)]) (key k [(y, n)]) := by
  unfold lt key nums
  rw [order_same]
  simpa using be_lt h0 h hy hn
theorem kind_lt {k k' : UInt8} (h : k < k') (l l' : List (Int × Nat)) : lt (key k l) (key k' l') := order_head h
theorem item_lt {k : UInt8} {a b : Int} {i j : Nat} (ha : 0 ≤ a) (hb : b < 18446744073709551616) (hj : j < 65536) (h : a < b ∨ a = b ∧ i < j) : lt (itemKey k a i) (itemKey k b j) := by
  unfold lt itemKey key nums
  rw [order_same]
  simp only [List.flatMap_cons, List.flatMap_nil, List.append_nil]
  rcases h with h | ⟨rfl, h⟩
  · exact order_long _ _ _ _ (by rw [Oct.be_length, Oct.be_length]) (be_lt ha h (by simpa using hb) (by omega))
  · rw [Oct.order_append]
    exact be_lt (by omega) (by omega) (by omega) (by omega)

/-! ### The rows of a state that fits rise -/
theorem mapI_get {α β : Type} (f : Nat → α → β) (l : List α) (i : Nat) : (mapI f l)[i]? = l[i]?.map (f i) := by
  show (l.zipIdx.map fun p => f p.2 p.1)[i]? = _
  rw [List.getElem?_map, List.getElem?_zipIdx, Option.map_map]
  cases l[i]? with
  | none => rfl
  | some x => simp
theorem mapI_ris {α : Type} (f : Nat → α → Pair) : ∀ (l : List α), (∀ (i j : Nat) (x y : α), i < j → l[i]? = some x → l[j]? = some y → lt (f i x).1 (f j y).1) → Ris keyP (mapI f l) := fun l h => by
  unfold Ris
  rw [List.pairwise_iff_getElem]
  intro i j hi hj hij
  rw [mapI_length] at hi hj
  have hget : ∀ (n : Nat) (hn : n < l.length) (hn' : n < (mapI f l).length), (mapI f l)[n] = f n l[n] := fun n hn hn' => by
    apply Option.some.inj
    rw [← List.getElem?_eq_getElem, mapI_get, List.getElem?_eq_getElem hn]
    rfl
  rw [hget i hi, hget j hj]
  exact h i j _ _ hij (List.getElem?_eq_getElem hi) (List.getElem?_eq_getElem hj)
theorem rises_ris {α : Type} (g : α → Int) : ∀ (l : List α), rises (l.map g) = true → l.Pairwise fun a b => g a < g b
  | [], _ => List.Pairwise.nil
  | [a], _ => by simp
  | a :: b :: l, h => by
    have h1 : (decide (g a < g b) && rises ((b :: l).map g)) = true := h
    rw [Bool.and_eq_true, decide_eq_true_eq] at h1
    have ih := rises_ris g (b :: l) h1.2
    refine List.pairwise_cons.2 ⟨fun x hx => ?_, ih⟩
    rcases List.mem_cons.1 hx with rfl | hx
    · exact h1.1
    · exact Int.lt_trans h1.1 ((List.pairwise_cons.1 ih).1 x hx)
theorem ris_append {l m : List Pair} (hl : Ris keyP l) (hm : Ris keyP m) (h : ∀ x ∈ l, ∀ y ∈ m, lt x.1 y.1) : Ris keyP (l ++ m) := by
  unfold Ris
  rw [List.pairwise_append]
  exact ⟨hl, hm, h⟩
/-- All keys begin with this. -/
def Kind (k : UInt8) (l : List Pair) : Prop := ∀ p ∈ l, ∃ t, p.1 = key k t
theorem kind_append {k : UInt8} {l m : List Pair} (hl : Kind k l) (hm : Kind k m) : Kind k (l ++ m) := fun p hp => by
  rcases List.mem_append.1 hp with h | h
  · exact hl p h
  · exact hm p h
theorem items_of (k : Nat) (r : Round) (hk : 4 ≤ k ∧ k ≤ 7) : ∃ (n : Nat) (v : Nat → List UInt8), items k r = (List.range n).map (fun i => (itemKey (UInt8.ofNat k) r.no i, v i)) ∧ n = (items k r).length := by
  have hm : ∀ {α : Type} (f : Nat → α → List UInt8) (l : List α) (k : UInt8), mapI (fun i x => ((itemKey k r.no i, f i x) : Pair)) l = (List.range l.length).map (fun i => (itemKey k r.no i, (l[i]?.map (f i)).getD [])) := fun f l k => by
    apply List.ext_getElem?
    intro i
    rw [mapI_get, List.getElem?_map]
    by_cases hi : i < l.length
    · rw [List.getElem?_range hi, List.getElem?_eq_getElem hi]
      simp [List.getElem?_eq_getElem hi]
    · rw [List.getElem?_eq_none (l := List.range l.length) (by simp; omega), List.getElem?_eq_none (by omega)]; rfl
  have h : k = 4 ∨ k = 5 ∨ k = 6 ∨ k = 7 := by omega
  rcases h with rfl | rfl | rfl | rfl
  · exact ⟨_, _, hm (fun _ x => nums [(x, 8)]) r.ids 4, by simp [items, mapI_length]⟩
  · exact ⟨_, _, hm (fun _ (e : Edge) => nums [(e.frm, 1), (e.to, 1), (e.cap, 8), (e.cost, 8)]) r.edges 5, by simp [items, mapI_length]⟩
  · exact ⟨_, _, hm (fun _ x => nums [(x, 8)]) r.flow 6, by simp [items, mapI_length]⟩
  · exact ⟨_, _, hm (fun _ x => nums [(x, 8)]) r.pot 7, by simp [items, mapI_length]⟩
theorem items_len (k : Nat) (r : Round) : (items k r).length ≤ max (max (max r.edges.length r.ids.length) r.flow.length) r.pot.length := by
  unfold items
  split
  · rw [mapI_length]; omega
  · split
    · rw [mapI_length]; omega
    · split
      · rw [mapI_length]; omega
      · split
        · rw [mapI_length]; omega
        · simp
theorem items_ris {k : Nat} (hk : 4 ≤ k ∧ k ≤ 7) {r : Round} (h0 : 0 ≤ r.no) (h1 : r.no < 18446744073709551616) (hl : (items k r).length ≤ 65535) : Ris keyP (items k r) := by
  obtain ⟨n, v, e, hn⟩ := items_of k r hk
  rw [e]
  unfold Ris
  rw [List.pairwise_map]
  refine List.Pairwise.imp_of_mem ?_ List.pairwise_lt_range
  intro i j hi hj hij
  exact item_lt h0 h1 (by have := List.mem_range.1 hj; omega) (.inr ⟨rfl, hij⟩)
theorem items_mem {k : Nat} (hk : 4 ≤ k ∧ k ≤ 7) {r : Round} {p : Pair} (h : p ∈ items k r) (hl : (items k r).length ≤ 65535) : ∃ i : Nat, p.1 = itemKey (UInt8.ofNat k) r.no i ∧ i < 65536 := by
  obtain ⟨n, v, e, hn⟩ := items_of k r hk
  rw [e] at h
  obtain ⟨i, hi, rfl⟩ := List.mem_map.1 h
  exact ⟨i, rfl, by have := List.mem_range.1 hi; omega⟩
theorem rounds_ris {k : Nat} (hk : 4 ≤ k ∧ k ≤ 7) : ∀ (l : List Round), (l.Pairwise fun a b => a.no < b.no) → (∀ r ∈ l, 0 ≤ r.no ∧ r.no < 18446744073709551616 ∧ (items k r).length ≤ 65535) → Ris keyP (l.flatMap (items k))
  | [], _, _ => List.Pairwise.nil
  | r :: l, h, hw => by
    rw [List.flatMap_cons]
    obtain ⟨h0, h1, h2⟩ := hw r (by simp)
    refine ris_append (items_ris hk h0 h1 h2) (rounds_ris hk l (List.pairwise_cons.1 h).2 (fun r hr => hw r (by simp [hr]))) fun x hx y hy => ?_
    obtain ⟨i, ei, _⟩ := items_mem hk hx h2
    obtain ⟨r2, hr2, hy⟩ := List.mem_flatMap.1 hy
    obtain ⟨g0, g1, g2⟩ := hw r2 (by simp [hr2])
    obtain ⟨j, ej, hj⟩ := items_mem hk hy g2
    rw [ei, ej]
    exact item_lt h0 g1 hj (.inl ((List.pairwise_cons.1 h).1 r2 hr2))
theorem rounds_kind {k : Nat} (hk : 4 ≤ k ∧ k ≤ 7) (l : List Round) : Kind (UInt8.ofNat k) (l.flatMap (items k)) := fun p hp => by
  obtain ⟨r, _, hp⟩ := List.mem_flatMap.1 hp
  obtain ⟨n, v, e, _⟩ := items_of k r hk
  rw [e] at hp
  obtain ⟨i, _, rfl⟩ := List.mem_map.1 hp
  exact ⟨_, rfl⟩
theorem ris_kinds {l m : List Pair} {k : UInt8} (hl : ∀ p ∈ l, ∃ j t, p.1 = key j t ∧ j < k) (hm : Kind k m) (rl : Ris keyP l) (rm : Ris keyP m) : Ris keyP (l ++ m) :=
  ris_append rl rm fun x hx y hy => by
    obtain ⟨j, t, ex, hj⟩ := hl x hx
    obtain ⟨t', ey⟩ := hm y hy
    rw [ex, ey]
    exact kind_lt hj _ _
theorem below_append {l m : List Pair} {k k' : UInt8} (hl : ∀ p ∈ l, ∃ j t, p.1 = key j t ∧ j < k) (hm : Kind k m) (hk : k < k') : ∀ p ∈ l ++ m, ∃ j t, p.1 = key j t ∧ j < k' := fun p hp => by
  rcases List.mem_append.1 hp with h | h
  · obtain ⟨j, t, e, hj⟩ := hl p h
    exact ⟨j, t, e, UInt8.lt_trans hj hk⟩
  · obtain ⟨t, e⟩ := hm p h
    exact ⟨k, t, e, hk⟩
/-- Numbers stand in 64 bits. -/
def Nums (s : St) : Prop := (∀ d ∈ s.dues, 0 ≤ d.id ∧ d.id < 18446744073709551616) ∧ ∀ r ∈ s.rounds, 0 ≤ r.no ∧ r.no < 18446744073709551616
theorem rowsOf_ris (s : St) (hn : Nums s) (hw : whole s = true) : Ris keyP (rowsOf s) := by
  unfold whole at hw
  simp only [Bool.and_eq_true, decide_eq_true_eq, List.all_eq_true] at hw
  obtain ⟨⟨⟨⟨w1, w2⟩, ⟨w3, w4⟩⟩, ⟨w5, w6⟩⟩, w7⟩ := hw
  have hd := rises_ris (fun d : Due => d.id) s.dues w4
  have hr := rises_ris (fun r : Round => r.no) s.rounds w6
  have hrw : ∀ k, ∀ r ∈ s.rounds, 0 ≤ r.no ∧ r.no < 18446744073709551616 ∧ (items k r).length ≤ 65535 := fun k r hr => by
    have h1 := w5 r hr
    unfold roundFits at h1
    simp only [Bool.and_eq_true, decide_eq_true_eq] at h1
    exact ⟨(hn.2 r hr).1, (hn.2 r hr).2, Nat.le_trans (items_len k r) h1.1.2⟩
  unfold rowsOf
  have e : kinds.flatMap (fun k => s.rounds.flatMap (items k)) = s.rounds.flatMap (items 4) ++ s.rounds.flatMap (items 5) ++ s.rounds.flatMap (items 6) ++ s.rounds.flatMap (items 7) := by
    simp [kinds, List.append_assoc]
  rw [e]
  simp only [← List.append_assoc]
  have r0 : Ris keyP [headRow s] := by simp [Ris]
  have b0 : ∀ p ∈ [headRow s], ∃ j t, p.1 = key j t ∧ j < 1 := fun p hp => by
    rw [List.mem_singleton] at hp
    subst hp
    exact ⟨0, [], rfl, by decide⟩
  have k1 : Kind 1 (mapI acctRow s.accts) := fun p hp => by
    obtain ⟨i, x, _, rfl⟩ := mem_mapI.1 hp
    exact ⟨_, rfl⟩
  have r1 : Ris keyP (mapI acctRow s.accts) := mapI_ris _ _ fun i j x y hij hx hy => by
    have hj := (List.getElem?_eq_some_iff.1 hy).1
    exact key1_lt (by omega) (by omega) (by omega) (by omega)
  have k2 : Kind 2 (s.dues.map dueRow) := fun p hp => by
    obtain ⟨d, _, rfl⟩ := List.mem_map.1 hp
    exact ⟨_, rfl⟩
  have r2 : Ris keyP (s.dues.map dueRow) := by
    unfold Ris
    rw [List.pairwise_map]
    refine List.Pairwise.imp_of_mem ?_ hd
    intro a b ha hb hab
    exact key1_lt (hn.1 a ha).1 hab (by have := (hn.1 b hb).2; omega) (by omega)
  have k3 : Kind 3 (s.rounds.map roundRow) := fun p hp => by
    obtain ⟨d, _, rfl⟩ := List.mem_map.1 hp
    exact ⟨_, rfl⟩
  have r3 : Ris keyP (s.rounds.map roundRow) := by
    unfold Ris
    rw [List.pairwise_map]
    refine List.Pairwise.imp_of_mem ?_ hr
    intro a b ha hb hab
    exact key1_lt (hn.2 a ha).1 hab (by have := (hn.2 b hb).2; omega) (by omega)
  have k8 : Kind 8 (mapI askedRow s.asked) := fun p hp => by
    obtain ⟨i, x, _, rfl⟩ := mem_mapI.1 hp
    exact ⟨_, rfl⟩
  have r8 : Ris keyP (mapI askedRow s.asked) := mapI_ris _ _ fun i j x y hij hx hy => by
    have hj := (List.getElem?_eq_some_iff.1 hy).1
    exact key1_lt (by omega) (by omega) (by omega) (by omega)
  have q1 := ris_kinds b0 k1 r0 r1
  have b1 := below_append b0 k1 (show (1 : UInt8) < 2 by decide)
  have q2 := ris_kinds b1 k2 q1 r2
  have b2 := below_append b1 k2 (show (2 : UInt8) < 3 by decide)
  have q3 := ris_kinds b2 k3 q2 r3
  have b3 := below_append b2 k3 (show (3 : UInt8) < 4 by decide)
  have k4 : Kind 4 (s.rounds.flatMap (items 4)) := rounds_kind (k := 4) (by omega) s.rounds
  have k5 : Kind 5 (s.rounds.flatMap (items 5)) := rounds_kind (k := 5) (by omega) s.rounds
  have k6 : Kind 6 (s.rounds.flatMap (items 6)) := rounds_kind (k := 6) (by omega) s.rounds
  have k7 : Kind 7 (s.rounds.flatMap (items 7)) := rounds_kind (k := 7) (by omega) s.rounds
  have q4 := ris_kinds b3 k4 q3 (rounds_ris (by omega) _ hr (hrw 4))
  have b4 := below_append b3 k4 (show (4 : UInt8) < 5 by decide)
  have q5 := ris_kinds b4 k5 q4 (rounds_ris (by omega) _ hr (hrw 5))
  have b5 := below_append b4 k5 (show (5 : UInt8) < 6 by decide)
  have q6 := ris_kinds b5 k6 q5 (rounds_ris (by omega) _ hr (hrw 6))
  have b6 := below_append b5 k6 (show (6 : UInt8) < 7 by decide)
  have q7 := ris_kinds b6 k7 q6 (rounds_ris (by omega) _ hr (hrw 7))
  have b7 := below_append b6 k7 (show (7 : UInt8) < 8 by decide)
  exact ris_kinds b7 k8 q7 r8
theorem of_ris (s : St) (hn : Nums s) : Ris keyP (of s) := by
  unfold of
  split
  · rename_i h; exact rowsOf_ris s hn h
  · exact List.Pairwise.nil

/-! ### How many rows -/
theorem flat_len {α β : Type} (f : α → List β) (M : Nat) : ∀ (l : List α), (∀ x ∈ l, (f x).length ≤ M) → (l.flatMap f).length ≤ l.length * M
  | [], _ => by simp
  | x :: l, h => by
    have h1 := flat_len f M l (fun y hy => h y (by simp [hy]))
    have h2 := h x (by simp)
    rw [List.flatMap_cons, List.length_append, List.length_cons, Nat.add_mul]
    omega
theorem rowsOf_len (s : St) (M : Nat) (h : ∀ r ∈ s.rounds, max (max (max r.edges.length r.ids.length) r.flow.length) r.pot.length ≤ M) :
    (rowsOf s).length ≤ 1 + s.accts.length + s.dues.length + s.rounds.length + 4 * (s.rounds.length * M) + s.asked.length := by
  have h1 := flat_len (fun k => s.rounds.flatMap (items k)) (s.rounds.length * M) kinds (fun k _ => flat_len (items k) M s.rounds fun r hr => Nat.le_trans (items_len k r) (h r hr))
  have h2 : kinds.length = 4 := rfl
  unfold rowsOf
  simp only [List.length_append, List.length_map, mapI_length, List.length_singleton]
  rw [h2] at h1
  omega

/-! ### Writes, the other way round, and how many -/
theorem writes_cc (f t : Pair) (fs ts : List Pair) : writes (f :: fs) (t :: ts) =
    if Oct.order f.1 t.1 < 0 then (f.1, [], true) :: writes fs (t :: ts)
    else if 0 < Oct.order f.1 t.1 then (t.1, t.2, false) :: writes (f :: fs) ts
    else if f.2 == t.2 then writes fs ts else (t.1, t.2, false) :: writes fs ts := by rw [writes]
theorem writes_keys : ∀ (f t : List Pair), (writes f t).map (·.1) = (writes t f).map (·.1)
  | [], [] => rfl
  | [], t :: ts => by
    rw [writes, writes, List.map_cons, List.map_cons, writes_keys [] ts]
  | f :: fs, [] => by
    rw [writes, writes, List.map_cons, List.map_cons, writes_keys fs []]
  | f :: fs, t :: ts => by
    have hs := Oct.order_swap f.1 t.1
    rw [writes_cc f t, writes_cc t f]
    by_cases h1 : Oct.order f.1 t.1 < 0
    · rw [if_pos h1, if_neg (by omega), if_pos (by omega), List.map_cons, List.map_cons, writes_keys fs (t :: ts)]
    · by_cases h2 : 0 < Oct.order f.1 t.1
      · rw [if_neg h1, if_pos h2, if_pos (by omega), List.map_cons, List.map_cons, writes_keys (f :: fs) ts]
      · have he : f.1 = t.1 := Oct.order_eq (by omega)
        have g1 : ¬ Oct.order t.1 f.1 < 0 := by omega
        have g2 : ¬ 0 < Oct.order t.1 f.1 := by omega
        rw [if_neg h1, if_neg h2]
        by_cases h3 : f.2 = t.2
        · have b1 : (f.2 == t.2) = true := by simp [h3]
          have b2 : (t.2 == f.2) = true := by simp [h3]
          rw [if_pos b1, if_neg g1, if_neg g2, if_pos b2, writes_keys fs ts]
        · have b1 : ¬ (f.2 == t.2) = true := by simp [h3]
          have b2 : ¬ (t.2 == f.2) = true := by simp; exact fun e => h3 e.symm
          rw [if_neg b1, if_neg g1, if_neg g2, if_neg b2, List.map_cons, List.map_cons, writes_keys fs ts, he]
termination_by f t => f.length + t.length

def notIn (y : List Pair) (p : Pair) : Bool := !(y.any fun q => decide (q = p))
def noKey (x : List Pair) (q : Pair) : Bool := !(x.any fun p => p.1 == q.1)
theorem notIn_iff {y : List Pair} {p : Pair} : notIn y p = true ↔ p ∉ y := by
  unfold notIn
  rw [Bool.not_eq_true', ← Bool.not_eq_true, List.any_eq_true]
  simp
theorem noKey_iff {x : List Pair} {q : Pair} : noKey x q = true ↔ ∀ p ∈ x, p.1 ≠ q.1 := by
  unfold noKey
  rw [Bool.not_eq_true', ← Bool.not_eq_true, List.any_eq_true]
  constructor
  · intro h p hp e
    exact h ⟨p, hp, by simp [e]⟩
  · rintro h ⟨p, hp, e⟩
    exact h p hp (by simpa using e)
def differ (x y : List Pair) : Nat := x.countP (notIn y) + y.countP (noKey x)
theorem countP_ext {α : Type} {l : List α} {p q : α → Bool} (h : ∀ a ∈ l, p a = q a) : l.countP p = l.countP q := List.countP_congr fun a ha => by rw [h a ha]
theorem writes_count : ∀ (x y : List Pair), Ris keyP x → Ris keyP y → (writes x y).length = differ x y
  | [], [], _, _ => by rw [writes]; rfl
  | [], t :: ts, hx, hy => by
    have ih := writes_count [] ts hx hy.tail
    rw [writes, List.length_cons, ih]
    unfold differ
    rw [List.countP_cons]
    simp [noKey]
  | f :: fs, [], hx, hy => by
    have ih := writes_count fs [] hx.tail hy
    rw [writes, List.length_cons, ih]
    unfold differ
    rw [List.countP_cons]
    simp [notIn]
  | f :: fs, t :: ts, hx, hy => by
    rw [writes]
    by_cases h1 : Oct.order f.1 t.1 < 0
    · rw [if_pos h1, List.length_cons, writes_count fs (t :: ts) hx.tail hy]
      have hlt : ∀ q ∈ t :: ts, lt f.1 q.1 := fun q hq => by
        rcases List.mem_cons.1 hq with rfl | hq
        · exact h1
        · exact lt_trans h1 (hy.head hq)
      unfold differ
      rw [List.countP_cons (a := f), if_pos (notIn_iff.2 fun hf => ne_of_lt (hlt f hf) rfl)]
      rw [countP_ext (p := noKey (f :: fs)) (q := noKey fs) (l := t :: ts) fun q hq => by
        unfold noKey
        rw [List.any_cons, beq_eq_false_iff_ne.2 (ne_of_lt (hlt q hq)), Bool.false_or]]
      omega
    · rw [if_neg h1]
      by_cases h2 : 0 < Oct.order f.1 t.1
      · have h2' := lt_of_pos h2
        rw [if_pos h2, List.length_cons, writes_count (f :: fs) ts hx hy.tail]
        have hlt : ∀ q ∈ f :: fs, lt t.1 q.1 := fun q hq => by
          rcases List.mem_cons.1 hq with rfl | hq
          · exact h2'
          · exact lt_trans h2' (hx.head hq)
        unfold differ
        rw [List.countP_cons (a := t), if_pos (noKey_iff.2 fun p hp => ne_of_gt (hlt p hp))]
        rw [countP_ext (p := notIn (t :: ts)) (q := notIn ts) (l := f :: fs) fun q hq => by
          unfold notIn
          rw [List.any_cons, decide_eq_false (fun e : t = q => ne_of_lt (hlt q hq) (by rw [e])), Bool.false_or]]
        omega
      · have he : f.1 = t.1 := Oct.order_eq (by omega)
        rw [if_neg h2]
        have hl1 : ∀ q ∈ fs, lt t.1 q.1 := fun q hq => by rw [← he]; exact hx.head hq
        have hl2 : ∀ q ∈ ts, lt t.1 q.1 := fun q hq => hy.head hq
        have e1 : fs.countP (notIn (t :: ts)) = fs.countP (notIn ts) := countP_ext fun q hq => by
          unfold notIn
          rw [List.any_cons, decide_eq_false (fun e : t = q => ne_of_lt (hl1 q hq) (by rw [e])), Bool.false_or]
        have e2 : ts.countP (noKey (f :: fs)) = ts.countP (noKey fs) := countP_ext fun q hq => by
          unfold noKey
          rw [List.any_cons, beq_eq_false_iff_ne.2 (by rw [he]; exact ne_of_lt (hl2 q hq)), Bool.false_or]
        have e3 : noKey (f :: fs) t = false := by
          cases h : noKey (f :: fs) t with
          | false => rfl
          | true => exact absurd he (noKey_iff.1 h f (by simp))
        have ih := writes_count fs ts hx.tail hy.tail
        unfold differ at ih ⊢
        rw [List.countP_cons (a := f), List.countP_cons (a := t), e1, e2, e3]
        by_cases h3 : f.2 = t.2
        · have hft : f = t := Prod.ext he h3
          have e4 : notIn (t :: ts) f = false := by
            cases h : notIn (t :: ts) f with
            | false => rfl
            | true => exact absurd (by rw [hft]; simp) (notIn_iff.1 h)
          rw [if_pos (by simp [h3]), e4, ih]
          simp
        · have e4 : notIn (t :: ts) f = true := notIn_iff.2 fun hf => by
            rcases List.mem_cons.1 hf with e | hf
            · exact h3 (by rw [e])
            · exact ne_of_lt (hl2 f hf) he.symm
          rw [if_neg (by simp [h3]), e4, List.length_cons, ih]
          simp
          omega
termination_by x y => x.length + y.length

end Rws

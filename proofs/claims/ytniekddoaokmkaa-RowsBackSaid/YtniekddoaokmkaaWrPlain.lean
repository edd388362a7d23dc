/-
  Layer 23 (rows), plain: what turns pairs into others, and what is written over pairs. No program in sight.
-/
import Derived.Test.YtniekddoaokmkaaRowPlain
namespace Rws

/-- A write: key, value, gone. -/
abbrev Wr := List UInt8 × List UInt8 × Bool

def writes : List Pair → List Pair → List Wr
  | [], [] => []
  | [], t :: ts => (t.1, t.2, false) :: writes [] ts
  | f :: fs, [] => (f.1, [], true) :: writes fs []
  | f :: fs, t :: ts =>
    if Oct.order f.1 t.1 < 0 then (f.1, [], true) :: writes fs (t :: ts)
    else if 0 < Oct.order f.1 t.1 then (t.1, t.2, false) :: writes (f :: fs) ts
    else if f.2 == t.2 then writes fs ts else (t.1, t.2, false) :: writes fs ts
termination_by f t => f.length + t.length

theorem writes_len : ∀ (f t : List Pair), (writes f t).length ≤ f.length + t.length
  | [], [] => by simp [writes]
  | [], t :: ts => by
    have := writes_len [] ts
    simp only [writes, List.length_cons, List.length_nil] at this ⊢
    omega
  | f :: fs, [] => by
    have := writes_len fs []
    simp only [writes, List.length_cons, List.length_nil] at this ⊢
    omega
  | f :: fs, t :: ts => by
    have h1 := writes_len fs (t :: ts)
    have h2 := writes_len (f :: fs) ts
    have h3 := writes_len fs ts
    rw [writes]
    simp only [List.length_cons] at h1 h2 h3 ⊢
    split
    · simp only [List.length_cons]; omega
    · split
      · simp only [List.length_cons]; omega
      · split
        · omega
        · simp only [List.length_cons]; omega
termination_by f t => f.length + t.length

/-! ### The order of keys -/
def lt (a b : List UInt8) : Prop := Oct.order a b < 0
theorem lt_trans {a b c : List UInt8} (h1 : lt a b) (h2 : lt b c) : lt a c := by
  unfold lt at *
  have h := Oct.order_trans a b c (by omega) (by omega)
  rcases Int.lt_or_eq_of_le h with h | h
  · exact h
  · have e := Oct.order_eq h
    subst e
    have := Oct.order_swap a b
    omega
theorem lt_irrefl (a : List UInt8) : ¬ lt a a := by
  unfold lt
  rw [Oct.order_self]
  omega
theorem lt_of_pos {a b : List UInt8} (h : 0 < Oct.order a b) : lt b a := by
  unfold lt
  rw [Oct.order_swap a b]
  omega
theorem tri (a b : List UInt8) : lt a b ∨ a = b ∨ lt b a := by
  unfold lt
  rcases Oct.order_range a b with h | h | h
  · left; omega
  · right; left; exact Oct.order_eq h
  · right; right; rw [Oct.order_swap a b]; omega

/-- Keys rise. -/
def Ris {α : Type} (key : α → List UInt8) (l : List α) : Prop := l.Pairwise fun a b => lt (key a) (key b)
theorem Ris.head {α : Type} {key : α → List UInt8} {a : α} {l : List α} (h : Ris key (a :: l)) {x : α} (hx : x ∈ l) : lt (key a) (key x) := (List.pairwise_cons.1 h).1 x hx
theorem Ris.tail {α : Type} {key : α → List UInt8} {a : α} {l : List α} (h : Ris key (a :: l)) : Ris key l := (List.pairwise_cons.1 h).2
theorem Ris.inj {α : Type} {key : α → List UInt8} : ∀ {l : List α}, Ris key l → ∀ {x y : α}, x ∈ l → y ∈ l → key x = key y → x = y
  | [], _, x, y, hx, _, _ => by cases hx
  | a :: l, h, x, y, hx, hy, e => by
    rcases List.mem_cons.1 hx with ex | hx
    · rcases List.mem_cons.1 hy with ey | hy
      · rw [ex, ey]
      · have := h.head hy
        rw [← e, ex] at this
        exact absurd this (lt_irrefl _)
    · rcases List.mem_cons.1 hy with ey | hy
      · have := h.head hx
        rw [e, ey] at this
        exact absurd this (lt_irrefl _)
      · exact h.tail.inj hx hy e
/-- Two rising lists of the same members are the same. -/
theorem Ris.ext {α : Type} {key : α → List UInt8} : ∀ {l m : List α}, Ris key l → Ris key m → (∀ x, x ∈ l ↔ x ∈ m) → l = m
  | [], [], _, _, _ => rfl
  | [], b :: m, _, _, h => by have := (h b).2 (by simp); cases this
  | a :: l, [], _, _, h => by have := (h a).1 (by simp); cases this
  | a :: l, b :: m, hl, hm, h => by
    have hab : a = b := by
      rcases List.mem_cons.1 ((h a).1 (by simp)) with e | ha
      · exact e
      · rcases List.mem_cons.1 ((h b).2 (by simp)) with e | hb
        · exact e.symm
        · exact absurd (lt_trans (hl.head hb) (hm.head ha)) (lt_irrefl _)
    subst hab
    congr 1
    refine hl.tail.ext hm.tail fun x => ⟨fun hx => ?_, fun hx => ?_⟩
    · rcases List.mem_cons.1 ((h x).1 (by simp [hx])) with e | hx'
      · subst e; exact absurd (hl.head hx) (lt_irrefl _)
      · exact hx'
    · rcases List.mem_cons.1 ((h x).2 (by simp [hx])) with e | hx'
      · subst e; exact absurd (hm.head hx) (lt_irrefl _)
      · exact hx'

/-! ### What writes are -/
abbrev keyP (p : Pair) : List UInt8 := p.1
abbrev keyW (w : Wr) : List UInt8 := w.1

/-- A write's key is one of either list. -/
theorem writes_key : ∀ (f t : List Pair) (w : Wr), w ∈ writes f t → (∃ p ∈ f, p.1 = w.1) ∨ (∃ p ∈ t, p.1 = w.1)
  | [], [], w, h => by simp [writes] at h
  | [], t :: ts, w, h => by
    rw [writes] at h
    rcases List.mem_cons.1 h with rfl | h
    · exact .inr ⟨t, by simp, rfl⟩
    · rcases writes_key [] ts w h with ⟨p, hp, e⟩ | ⟨p, hp, e⟩
      · cases hp
      · exact .inr ⟨p, by simp [hp], e⟩
  | f :: fs, [], w, h => by
    rw [writes] at h
    rcases List.mem_cons.1 h with rfl | h
    · exact .inl ⟨f, by simp, rfl⟩
    · rcases writes_key fs [] w h with ⟨p, hp, e⟩ | ⟨p, hp, e⟩
      · exact .inl ⟨p, by simp [hp], e⟩
      · cases hp
  | f :: fs, t :: ts, w, h => by
    have up : ∀ {a b : List Pair}, (∀ p ∈ a, p ∈ f :: fs) → (∀ p ∈ b, p ∈ t :: ts) → ((∃ p ∈ a, p.1 = w.1) ∨ (∃ p ∈ b, p.1 = w.1)) → (∃ p ∈ f :: fs, p.1 = w.1) ∨ (∃ p ∈ t :: ts, p.1 = w.1) := by
      intro a b ha hb hh
      rcases hh with ⟨p, hp, e⟩ | ⟨p, hp, e⟩
      · exact .inl ⟨p, ha p hp, e⟩
      · exact .inr ⟨p, hb p hp, e⟩
    rw [writes] at h
    split at h
    · rcases List.mem_cons.1 h with rfl | h
      · exact .inl ⟨f, by simp, rfl⟩
      · exact up (fun p hp => by simp [hp]) (fun p hp => hp) (writes_key fs (t :: ts) w h)
    · split at h
      · rcases List.mem_cons.1 h with rfl | h
        · exact .inr ⟨t, by simp, rfl⟩
        · exact up (fun p hp => hp) (fun p hp => by simp [hp]) (writes_key (f :: fs) ts w h)
      · split at h
        · exact up (fun p hp => by simp [hp]) (fun p hp => by simp [hp]) (writes_key fs ts w h)
        · rcases List.mem_cons.1 h with rfl | h
          · exact .inr ⟨t, by simp, rfl⟩
          · exact up (fun p hp => by simp [hp]) (fun p hp => by simp [hp]) (writes_key fs ts w h)
termination_by f t => f.length + t.length

theorem writes_ris : ∀ (f t : List Pair), Ris keyP f → Ris keyP t → Ris keyW (writes f t)
  | [], [], _, _ => by rw [writes]; exact List.Pairwise.nil
  | [], t :: ts, hf, ht => by
    rw [writes]
    refine List.pairwise_cons.2 ⟨fun w hw => ?_, writes_ris [] ts hf ht.tail⟩
    rcases writes_key [] ts w hw with ⟨p, hp, e⟩ | ⟨p, hp, e⟩
    · cases hp
    · show lt t.1 w.1
      rw [← e]; exact ht.head hp
  | f :: fs, [], hf, ht => by
    rw [writes]
    refine List.pairwise_cons.2 ⟨fun w hw => ?_, writes_ris fs [] hf.tail ht⟩
    rcases writes_key fs [] w hw with ⟨p, hp, e⟩ | ⟨p, hp, e⟩
    · show lt f.1 w.1
      rw [← e]; exact hf.head hp
    · cases hp
  | f :: fs, t :: ts, hf, ht => by
    rw [writes]
    split
    · rename_i h1
      refine List.pairwise_cons.2 ⟨fun w hw => ?_, writes_ris fs (t :: ts) hf.tail ht⟩
      rcases writes_key fs (t :: ts) w hw with ⟨p, hp, e⟩ | ⟨p, hp, e⟩
      · show lt f.1 w.1
        rw [← e]; exact hf.head hp
      · show lt f.1 w.1
        rw [← e]
        rcases List.mem_cons.1 hp with rfl | hp
        · exact h1
        · exact lt_trans h1 (ht.head hp)
    · rename_i h1
      split
      · rename_i h2
        have h2' := lt_of_pos h2
        refine List.pairwise_cons.2 ⟨fun w hw => ?_, writes_ris (f :: fs) ts hf ht.tail⟩
        rcases writes_key (f :: fs) ts w hw with ⟨p, hp, e⟩ | ⟨p, hp, e⟩
        · show lt t.1 w.1
          rw [← e]
          rcases List.mem_cons.1 hp with rfl | hp
          · exact h2'
          · exact lt_trans h2' (hf.head hp)
        · show lt t.1 w.1
          rw [← e]; exact ht.head hp
      · rename_i h2
        have he : f.1 = t.1 := Oct.order_eq (by omega)
        have hall : ∀ w ∈ writes fs ts, lt t.1 w.1 := fun w hw => by
          rcases writes_key fs ts w hw with ⟨p, hp, e⟩ | ⟨p, hp, e⟩
          · rw [← e, ← he]; exact hf.head hp
          · rw [← e]; exact ht.head hp
        split
        · exact writes_ris fs ts hf.tail ht.tail
        · exact List.pairwise_cons.2 ⟨hall, writes_ris fs ts hf.tail ht.tail⟩
termination_by f t => f.length + t.length

/-- Just these: of each key of the first that the second has not one that is gone; of each pair of the second that the first has not it. -/
def IsWrite (f t : List Pair) (w : Wr) : Prop :=
  (w.2.2 = true ∧ w.2.1 = [] ∧ (∃ p ∈ f, p.1 = w.1) ∧ ∀ q ∈ t, q.1 ≠ w.1) ∨ (w.2.2 = false ∧ (w.1, w.2.1) ∈ t ∧ (w.1, w.2.1) ∉ f)

theorem ne_of_lt {a b : List UInt8} (h : lt a b) : a ≠ b := fun e => by subst e; exact lt_irrefl _ h
theorem ne_of_gt {a b : List UInt8} (h : lt b a) : a ≠ b := fun e => by subst e; exact lt_irrefl _ h

theorem writes_mem : ∀ (f t : List Pair), Ris keyP f → Ris keyP t → ∀ (w : Wr), w ∈ writes f t ↔ IsWrite f t w
  | [], [], _, _, w => by simp [writes, IsWrite]
  | [], t :: ts, hf, ht, w => by
    rw [writes, List.mem_cons, writes_mem [] ts hf ht.tail w]
    obtain ⟨k, v, g⟩ := w
    obtain ⟨tk, tv⟩ := t
    simp only [IsWrite, List.not_mem_nil, false_and, exists_false, and_false, not_false_eq_true, and_true, false_or, List.mem_cons, Prod.mk.injEq]
    constructor
    · rintro (⟨rfl, rfl, rfl⟩ | ⟨h1, h2⟩)
      · exact ⟨rfl, .inl ⟨rfl, rfl⟩⟩
      · exact ⟨h1, .inr h2⟩
    · rintro ⟨h1, (⟨rfl, rfl⟩ | h2)⟩
      · exact .inl ⟨rfl, rfl, h1⟩
      · exact .inr ⟨h1, h2⟩
  | f :: fs, [], hf, ht, w => by
    rw [writes, List.mem_cons, writes_mem fs [] hf.tail ht w]
    obtain ⟨k, v, g⟩ := w
    obtain ⟨fk, fv⟩ := f
    simp only [IsWrite, List.not_mem_nil, false_and, and_false, or_false, List.mem_cons, Prod.mk.injEq, exists_eq_or_imp, false_implies, implies_true, and_true]
    constructor
    · rintro (⟨rfl, rfl, rfl⟩ | ⟨h1, h2, h3⟩)
      · exact ⟨rfl, rfl, .inl rfl⟩
      · exact ⟨h1, h2, .inr h3⟩
    · rintro ⟨h1, h2, (h3 | h3)⟩
      · exact .inl ⟨h3.symm, h2, h1⟩
      · exact .inr ⟨h1, h2, h3⟩
  | f :: fs, t :: ts, hf, ht, w => by
    rw [writes]
    split
    · rename_i h1
      rw [List.mem_cons, writes_mem fs (t :: ts) hf.tail ht w]
      have hlt : ∀ q ∈ t :: ts, lt f.1 q.1 := fun q hq => by
        rcases List.mem_cons.1 hq with rfl | hq
        · exact h1
        · exact lt_trans h1 (ht.head hq)
      constructor
      · rintro (rfl | h)
        · exact .inl ⟨rfl, rfl, ⟨f, by simp, rfl⟩, fun q hq => (ne_of_gt (hlt q hq))⟩
        · rcases h with ⟨a, b, ⟨p, hp, e⟩, d⟩ | ⟨a, b, c⟩
          · exact .inl ⟨a, b, ⟨p, by simp [hp], e⟩, d⟩
          · refine .inr ⟨a, b, fun hh => ?_⟩
            rcases List.mem_cons.1 hh with e | hh
            · exact ne_of_lt (hlt _ b) (by rw [← e])
            · exact c hh
      · rintro (⟨a, b, ⟨p, hp, e⟩, d⟩ | ⟨a, b, c⟩)
        · rcases List.mem_cons.1 hp with rfl | hp
          · obtain ⟨k, v, g⟩ := w
            simp only at a b e
            subst a b e
            exact .inl rfl
          · exact .inr (.inl ⟨a, b, ⟨p, hp, e⟩, d⟩)
        · exact .inr (.inr ⟨a, b, fun hh => c (by simp [hh])⟩)
    · rename_i h1
      split
      · rename_i h2
        have h2' := lt_of_pos h2
        have hlt : ∀ q ∈ f :: fs, lt t.1 q.1 := fun q hq => by
          rcases List.mem_cons.1 hq with rfl | hq
          · exact h2'
          · exact lt_trans h2' (hf.head hq)
        rw [List.mem_cons, writes_mem (f :: fs) ts hf ht.tail w]
        constructor
        · rintro (rfl | h)
          · exact .inr ⟨rfl, by simp, fun hh => ne_of_lt (hlt _ hh) rfl⟩
          · rcases h with ⟨a, b, ⟨p, hp, e⟩, d⟩ | ⟨a, b, c⟩
            · refine .inl ⟨a, b, ⟨p, hp, e⟩, fun q hq => ?_⟩
              rcases List.mem_cons.1 hq with rfl | hq
              · rw [← e]; exact ne_of_lt (hlt p hp)
              · exact d q hq
            · exact .inr ⟨a, by simp [b], c⟩
        · rintro (⟨a, b, ⟨p, hp, e⟩, d⟩ | ⟨a, b, c⟩)
          · exact .inr (.inl ⟨a, b, ⟨p, hp, e⟩, fun q hq => d q (by simp [hq])⟩)
          · rcases List.mem_cons.1 b with e | b
            · obtain ⟨k, v, g⟩ := w
              simp only at a e
              subst a
              rw [← e]
              exact .inl rfl
            · exact .inr (.inr ⟨a, b, c⟩)
      · rename_i h2
        have he : f.1 = t.1 := Oct.order_eq (by omega)
        have ih := writes_mem fs ts hf.tail ht.tail w
        have hl1 : ∀ q ∈ fs, lt t.1 q.1 := fun q hq => by rw [← he]; exact hf.head hq
        have hl2 : ∀ q ∈ ts, lt t.1 q.1 := fun q hq => ht.head hq
        -- of the rest
        have hrest : ∀ (hne : t.1 ≠ w.1), IsWrite (f :: fs) (t :: ts) w ↔ IsWrite fs ts w := by
          intro hne
          unfold IsWrite
          constructor
          · rintro (⟨a, b, ⟨p, hp, e⟩, d⟩ | ⟨a, b, c⟩)
            · rcases List.mem_cons.1 hp with rfl | hp
              · exact absurd (he.symm.trans e) hne
              · exact .inl ⟨a, b, ⟨p, hp, e⟩, fun q hq => d q (by simp [hq])⟩
            · rcases List.mem_cons.1 b with e | b
              · exact absurd (by rw [← e]) hne
              · exact .inr ⟨a, b, fun hh => c (by simp [hh])⟩
          · rintro (⟨a, b, ⟨p, hp, e⟩, d⟩ | ⟨a, b, c⟩)
            · refine .inl ⟨a, b, ⟨p, by simp [hp], e⟩, fun q hq => ?_⟩
              rcases List.mem_cons.1 hq with rfl | hq
              · exact hne
              · exact d q hq
            · refine .inr ⟨a, by simp [b], fun hh => ?_⟩
              rcases List.mem_cons.1 hh with e | hh
              · exact hne (by rw [← he, ← e])
              · exact c hh
        have hin : IsWrite fs ts w → t.1 ≠ w.1 := by
          rintro (⟨_, _, ⟨p, hp, e⟩, _⟩ | ⟨_, b, _⟩)
          · rw [← e]; exact ne_of_lt (hl1 p hp)
          · exact ne_of_lt (hl2 _ b)
        split
        · rename_i h3
          have hv : f.2 = t.2 := by simpa using h3
          have hft : f = t := Prod.ext he hv
          rw [ih]
          constructor
          · intro h; exact (hrest (hin h)).2 h
          · intro h
            refine (hrest fun hk => ?_).1 h
            rcases h with ⟨a, b, _, d⟩ | ⟨a, b, c⟩
            · exact d t (by simp) hk
            · rcases List.mem_cons.1 b with e | b
              · exact c (by rw [hft, ← e]; simp)
              · exact ne_of_lt (hl2 _ b) hk
        · rename_i h3
          have hv : f.2 ≠ t.2 := by simpa using h3
          rw [List.mem_cons, ih]
          constructor
          · rintro (rfl | h)
            · refine .inr ⟨rfl, by simp, fun hh => ?_⟩
              rcases List.mem_cons.1 hh with e | hh
              · exact hv (by rw [← e])
              · exact ne_of_lt (hl1 _ hh) rfl
            · exact (hrest (hin h)).2 h
          · intro h
            by_cases hk : t.1 = w.1
            · rcases h with ⟨a, b, _, d⟩ | ⟨a, b, c⟩
              · exact absurd hk (d t (by simp))
              · rcases List.mem_cons.1 b with e | b
                · obtain ⟨k, v, g⟩ := w
                  simp only at a e
                  subst a
                  rw [← e]
                  exact .inl rfl
                · exact absurd hk (ne_of_lt (hl2 _ b))
            · exact .inr ((hrest hk).1 h)
termination_by f t => f.length + t.length

theorem writes_self (t : List Pair) (ht : Ris keyP t) : writes t t = [] := by
  rcases h : writes t t with _ | ⟨w, ws⟩
  · rfl
  · have := (writes_mem t t ht ht w).1 (by rw [h]; simp)
    rcases this with ⟨_, _, ⟨p, hp, e⟩, d⟩ | ⟨_, b, c⟩
    · exact absurd e (d p hp)
    · exact absurd b c

/-! ### Over -/
/-- Where one is put: behind the last whose key is not above. -/
def slot (out : List Pair) (k : List UInt8) : Nat → Nat
  | 0 => 0
  | j + 1 => match out[j]? with
    | some p => if 0 < Oct.order p.1 k then slot out k j else j + 1
    | none => j + 1
theorem slot_le (out : List Pair) (k : List UInt8) : ∀ j, slot out k j ≤ j
  | 0 => Nat.le_refl _
  | j + 1 => by
    unfold slot
    split
    · split
      · exact Nat.le_trans (slot_le out k j) (Nat.le_succ _)
      · exact Nat.le_refl _
    · exact Nat.le_refl _
def ins (out : List Pair) (p : Pair) : List Pair := out.take (slot out p.1 out.length) ++ [p] ++ out.drop (slot out p.1 out.length)
def insW (out : List Pair) (w : Wr) : List Pair := if w.2.2 then out else ins out (w.1, w.2.1)
def keep (l : List Pair) (ws : List Wr) : List Pair := l.filter fun p => !(ws.any fun w => w.1 == p.1)
def over (l : List Pair) (ws : List Wr) : List Pair := ws.foldl insW (keep l ws)

theorem slot_above (out : List Pair) (k : List UInt8) : ∀ (j : Nat), j ≤ out.length → ∀ i p, slot out k j ≤ i → i < j → out[i]? = some p → lt k p.1
  | 0, _, i, p, _, h, _ => by omega
  | j + 1, hj, i, p, h1, h2, h3 => by
    have hg : out[j]? = some out[j] := List.getElem?_eq_getElem (by omega)
    unfold slot at h1
    rw [hg] at h1
    simp only at h1
    split at h1
    · rename_i h4
      by_cases hi : i = j
      · subst hi
        rw [hg] at h3
        injection h3 with h3
        rw [← h3]
        exact lt_of_pos h4
      · exact slot_above out k j (by omega) i p h1 (by omega) h3
    · omega
theorem slot_below (out : List Pair) (k : List UInt8) : ∀ (j : Nat), j ≤ out.length → ∀ i p, slot out k j = i + 1 → out[i]? = some p → ¬ lt k p.1
  | 0, _, i, p, h, _ => by simp [slot] at h
  | j + 1, hj, i, p, h1, h3 => by
    have hg : out[j]? = some out[j] := List.getElem?_eq_getElem (by omega)
    unfold slot at h1
    rw [hg] at h1
    simp only at h1
    split at h1
    · exact slot_below out k j (by omega) i p h1 h3
    · rename_i h4
      have : i = j := by omega
      subst this
      rw [hg] at h3
      injection h3 with h3
      rw [← h3]
      intro hl
      unfold lt at hl
      rw [Oct.order_swap] at hl
      omega

theorem Ris.get {α : Type} {key : α → List UInt8} {l : List α} (h : Ris key l) {i j : Nat} {x y : α} (hij : i < j) (hx : l[i]? = some x) (hy : l[j]? = some y) : lt (key x) (key y) := by
  obtain ⟨hi, rfl⟩ := List.getElem?_eq_some_iff.1 hx
  obtain ⟨hj, rfl⟩ := List.getElem?_eq_some_iff.1 hy
  exact List.pairwise_iff_getElem.1 h i j hi hj hij

theorem ins_mem (out : List Pair) (p x : Pair) : x ∈ ins out p ↔ x = p ∨ x ∈ out := by
  unfold ins
  generalize slot out p.1 out.length = a
  rw [List.mem_append, List.mem_append, List.mem_singleton]
  conv => rhs; rw [← List.take_append_drop a out, List.mem_append]
  constructor
  · rintro ((h | h) | h)
    · exact .inr (.inl h)
    · exact .inl h
    · exact .inr (.inr h)
  · rintro (h | h | h)
    · exact .inl (.inr h)
    · exact .inl (.inl h)
    · exact .inr h
theorem ins_ris (out : List Pair) (p : Pair) (h : Ris keyP out) (hn : ∀ q ∈ out, q.1 ≠ p.1) : Ris keyP (ins out p) := by
  have ha := slot_above out p.1 out.length (Nat.le_refl _)
  have hb := slot_below out p.1 out.length (Nat.le_refl _)
  have hle := slot_le out p.1 out.length
  unfold ins
  generalize slot out p.1 out.length = a at ha hb hle
  have h1 : ∀ q ∈ out.take a, lt q.1 p.1 := fun q hq => by
    obtain ⟨i, hi⟩ := List.getElem?_of_mem hq
    rw [List.getElem?_take] at hi
    split at hi
    · rename_i hia
      obtain ⟨b, rfl⟩ : ∃ b, a = b + 1 := ⟨a - 1, by omega⟩
      have hbl : b < out.length := by omega
      have hlast := hb b out[b] rfl (List.getElem?_eq_getElem hbl)
      have hl : lt out[b].1 p.1 := by
        rcases tri out[b].1 p.1 with h1 | h1 | h1
        · exact h1
        · exact absurd h1 (hn _ (List.getElem_mem hbl))
        · exact absurd h1 hlast
      by_cases hib : i = b
      · subst hib
        rw [List.getElem?_eq_getElem hbl] at hi
        injection hi with hi
        rw [← hi]; exact hl
      · exact lt_trans (h.get (show i < b by omega) hi (List.getElem?_eq_getElem hbl)) hl
    · cases hi
  have h2 : ∀ q ∈ out.drop a, lt p.1 q.1 := fun q hq => by
    obtain ⟨i, hi⟩ := List.getElem?_of_mem hq
    rw [List.getElem?_drop] at hi
    exact ha (a + i) q (by omega) (List.getElem?_eq_some_iff.1 hi).1 hi
  have ht : Ris keyP (out.take a) := List.Pairwise.sublist (List.take_sublist _ _) h
  have hd : Ris keyP (out.drop a) := List.Pairwise.sublist (List.drop_sublist _ _) h
  unfold Ris
  rw [List.append_assoc, List.pairwise_append]
  refine ⟨ht, List.pairwise_cons.2 ⟨h2, hd⟩, fun x hx y hy => ?_⟩
  rcases List.mem_cons.1 hy with rfl | hy
  · exact h1 x hx
  · exact lt_trans (h1 x hx) (h2 y hy)

theorem fold_ins : ∀ (ws : List Wr) (out : List Pair), Ris keyP out → Ris keyW ws → (∀ w ∈ ws, ∀ q ∈ out, q.1 ≠ w.1) →
    Ris keyP (ws.foldl insW out) ∧ ∀ x, x ∈ ws.foldl insW out ↔ x ∈ out ∨ (x.1, x.2, false) ∈ ws
  | [], out, ho, _, _ => ⟨ho, fun x => by simp⟩
  | w :: ws, out, ho, hw, hn => by
    obtain ⟨k, v, g⟩ := w
    cases g with
    | true =>
      have e : insW out (k, v, true) = out := rfl
      rw [List.foldl_cons, e]
      obtain ⟨h1, h2⟩ := fold_ins ws out ho hw.tail (fun w hw' => hn w (by simp [hw']))
      refine ⟨h1, fun x => ?_⟩
      rw [h2 x, List.mem_cons]
      simp
    | false =>
      have e : insW out (k, v, false) = ins out (k, v) := rfl
      rw [List.foldl_cons, e]
      obtain ⟨h1, h2⟩ := fold_ins ws (ins out (k, v)) (ins_ris out (k, v) ho (fun q hq => hn (k, v, false) (by simp) q hq)) hw.tail (fun w hw' q hq => by
        rcases (ins_mem out (k, v) q).1 hq with rfl | hq
        · exact ne_of_lt (hw.head hw')
        · exact hn w (by simp [hw']) q hq)
      refine ⟨h1, fun x => ?_⟩
      rw [h2 x, ins_mem, List.mem_cons]
      obtain ⟨xk, xv⟩ := x
      simp only [Prod.mk.injEq, and_true]
      constructor
      · rintro ((h | h) | h)
        · exact .inr (.inl h)
        · exact .inl h
        · exact .inr (.inr h)
      · rintro (h | h | h)
        · exact .inl (.inr h)
        · exact .inl (.inl h)
        · exact .inr h

theorem mem_keep {l : List Pair} {ws : List Wr} {x : Pair} : x ∈ keep l ws ↔ x ∈ l ∧ ∀ w ∈ ws, w.1 ≠ x.1 := by
  unfold keep
  rw [List.mem_filter]
  simp

/-- What is written over the pairs makes them to. -/
theorem over_writes (f t : List Pair) (hf : Ris keyP f) (ht : Ris keyP t) : over f (writes f t) = t := by
  have hm := writes_mem f t hf ht
  have hk : Ris keyP (keep f (writes f t)) := List.Pairwise.sublist List.filter_sublist hf
  obtain ⟨h1, h2⟩ := fold_ins (writes f t) (keep f (writes f t)) hk (writes_ris f t hf ht) (fun w hw q hq => (((mem_keep.1 hq).2 w hw)).symm)
  refine Ris.ext h1 ht fun x => ?_
  unfold over at *
  rw [h2 x, mem_keep, hm]
  constructor
  · rintro (⟨hx, hno⟩ | h)
    · by_cases hex : ∃ y ∈ t, y.1 = x.1
      · obtain ⟨y, hy, e⟩ := hex
        by_cases hyf : y ∈ f
        · rw [← hf.inj hyf hx e]; exact hy
        · exact absurd e (hno (y.1, y.2, false) ((hm _).2 (.inr ⟨rfl, hy, hyf⟩)))
      · exact absurd rfl (hno (x.1, [], true) ((hm _).2 (.inl ⟨rfl, rfl, ⟨x, hx, rfl⟩, fun q hq e => hex ⟨q, hq, e⟩⟩)))
    · rcases h with ⟨h, _⟩ | ⟨_, h, _⟩
      · cases h
      · exact h
  · intro hx
    by_cases hxf : x ∈ f
    · refine .inl ⟨hxf, fun w hw e => ?_⟩
      rcases (hm w).1 hw with ⟨_, _, _, d⟩ | ⟨_, b, c⟩
      · exact d x hx e.symm
      · have := ht.inj b hx e
        rw [this] at c
        exact c hxf
    · exact .inr (.inr ⟨rfl, hx, hxf⟩)

/-- A write that is not gone is of no pair of the first. -/
theorem writes_need {f t : List Pair} (hf : Ris keyP f) (ht : Ris keyP t) {w : Wr} (hw : w ∈ writes f t) :
    (w.2.2 = true → w.2.1 = []) ∧ ∀ p ∈ f, w.2.2 = false → p.1 = w.1 → p.2 = w.2.1 → False := by
  rcases (writes_mem f t hf ht w).1 hw with ⟨a, b, _, _⟩ | ⟨a, b, c⟩
  · exact ⟨fun _ => b, fun p _ h => absurd h (by rw [a]; decide)⟩
  · exact ⟨fun h => absurd h (by rw [a]; decide), fun p hp _ h1 h2 => c (by rw [← h1, ← h2]; exact hp)⟩

theorem take_snoc {α : Type} {l : List α} {j : Nat} {x : α} (h : l[j]? = some x) : l.take (j + 1) = l.take j ++ [x] := by rw [List.take_add_one, h]; rfl
theorem keep_step {l : List Pair} {ws : List Wr} {j : Nat} {x : Pair} (h : l[j]? = some x) : keep (l.take (j + 1)) ws = keep (l.take j) ws ++ (if ws.any (fun w => w.1 == x.1) then [] else [x]) := by
  rw [take_snoc h]
  unfold keep
  rw [List.filter_append]
  congr 1
  cases h2 : ws.any (fun w => w.1 == x.1) with
  | false => rw [List.filter_cons_of_pos (by rw [h2]; rfl), List.filter_nil]; rfl
  | true => rw [List.filter_cons_of_neg (by rw [h2]; decide), List.filter_nil]; rfl
theorem any_step {ws : List Wr} {k : Nat} {y : Wr} (f : Wr → Bool) (h : ws[k]? = some y) : (ws.take (k + 1)).any f = ((ws.take k).any f || f y) := by
  rw [take_snoc h, List.any_append]; simp
theorem fold_step {ws : List Wr} {k : Nat} {y : Wr} (out : List Pair) (h : ws[k]? = some y) : (ws.take (k + 1)).foldl insW out = insW ((ws.take k).foldl insW out) y := by
  rw [take_snoc h, List.foldl_append]; rfl
theorem keep_len (l : List Pair) (ws : List Wr) : (keep l ws).length ≤ l.length := List.length_filter_le _ _
theorem ins_len (out : List Pair) (p : Pair) : (ins out p).length = out.length + 1 := by
  have := slot_le out p.1 out.length
  unfold ins
  simp only [List.length_append, List.length_take, List.length_drop, List.length_singleton]
  omega
theorem fold_len : ∀ (ws : List Wr) (out : List Pair), (ws.foldl insW out).length ≤ out.length + ws.length
  | [], out => by simp
  | w :: ws, out => by
    have h := fold_len ws (insW out w)
    have h2 : (insW out w).length ≤ out.length + 1 := by
      unfold insW
      split
      · omega
      · rw [ins_len]; omega
    rw [List.foldl_cons, List.length_cons]
    omega
/-- One put at a place. -/
def mid (out : List Pair) (a : Nat) (h : Pair) : List Pair := out.take a ++ [h] ++ out.drop a
theorem mid_len {out : List Pair} {a : Nat} (ha : a ≤ out.length) (h : Pair) : (mid out a h).length = out.length + 1 := by
  unfold mid
  simp only [List.length_append, List.length_take, List.length_drop, List.length_singleton]
  omega
theorem mid_last (out : List Pair) (h : Pair) : out ++ [h] = mid out out.length h := by simp [mid]
theorem mid_ahead {out : List Pair} {a : Nat} {h x : Pair} (hx : out[a]? = some x) : (mid out (a + 1) h)[a]? = some x := by
  have ha := (List.getElem?_eq_some_iff.1 hx).1
  unfold mid
  rw [List.append_assoc, List.getElem?_append_left (by rw [List.length_take]; omega), List.getElem?_take, if_pos (by omega)]
  exact hx
theorem mid_set {out : List Pair} {a : Nat} (ha : a ≤ out.length) (h p : Pair) : (mid out a h).set a p = mid out a p := by
  unfold mid
  rw [List.append_assoc, List.append_assoc, List.set_append_right _ _ (by rw [List.length_take]; omega), List.length_take, Nat.min_eq_left ha, Nat.sub_self]
  rfl
theorem mid_shift {out : List Pair} {a : Nat} {h x : Pair} (hx : out[a]? = some x) : (mid out (a + 1) h).set (a + 1) x = mid out a x := by
  have ha := (List.getElem?_eq_some_iff.1 hx).1
  rw [mid_set (by omega)]
  unfold mid
  rw [take_snoc hx, List.drop_eq_getElem_cons ha, (List.getElem?_eq_some_iff.1 hx).2]
  simp
theorem slot_up {out : List Pair} {a : Nat} {x : Pair} {k : List UInt8} (hx : out[a]? = some x) (h : 0 < Oct.order x.1 k) : slot out k (a + 1) = slot out k a := by
  rw [slot, hx]
  simp [h]
theorem slot_stop {out : List Pair} {a : Nat} {x : Pair} {k : List UInt8} (hx : out[a]? = some x) (h : ¬ 0 < Oct.order x.1 k) : slot out k (a + 1) = a + 1 := by
  rw [slot, hx]
  simp [h]
theorem insW_put {out : List Pair} {w : Wr} {a : Nat} (hg : w.2.2 = false) (h : slot out w.1 out.length = a) : insW out w = mid out a (w.1, w.2.1) := by
  unfold insW ins mid
  rw [hg, ← h]
  rfl
theorem insW_gone {out : List Pair} {w : Wr} (hg : w.2.2 = true) : insW out w = out := by unfold insW; rw [hg]; rfl

/-! ### As they are checked -/
def riseB : List Pair → Bool
  | [] => true
  | [_] => true
  | a :: b :: l => decide (Oct.order a.1 b.1 < 0) && riseB (b :: l)
theorem riseB_iff : ∀ (l : List Pair), riseB l = true ↔ Ris keyP l
  | [] => by simp [riseB, Ris]
  | [a] => by simp [riseB, Ris]
  | a :: b :: l => by
    have ih := riseB_iff (b :: l)
    rw [riseB, Bool.and_eq_true, decide_eq_true_eq, ih]
    constructor
    · rintro ⟨h1, h2⟩
      refine List.pairwise_cons.2 ⟨fun x hx => ?_, h2⟩
      rcases List.mem_cons.1 hx with rfl | hx
      · exact h1
      · exact lt_trans h1 (h2.head hx)
    · intro h
      exact ⟨h.head (by simp), h.tail⟩
theorem riseB_snoc : ∀ (l : List Pair) (a b : Pair), riseB (l ++ [a, b]) = (riseB (l ++ [a]) && decide (Oct.order a.1 b.1 < 0))
  | [], a, b => by simp [riseB]
  | [c], a, b => by simp [riseB]
  | c :: d :: l, a, b => by
    have ih := riseB_snoc (d :: l) a b
    simp only [List.cons_append, riseB] at ih ⊢
    rw [ih, Bool.and_assoc]
theorem riseB_step {l : List Pair} {j : Nat} {p x : Pair} (hp : l[j]? = some p) (hx : l[j + 1]? = some x) : riseB (l.take (j + 2)) = (riseB (l.take (j + 1)) && decide (Oct.order p.1 x.1 < 0)) := by
  have e1 : l.take (j + 1) = l.take j ++ [p] := by rw [List.take_add_one, hp]; rfl
  have e2 : l.take (j + 2) = l.take (j + 1) ++ [x] := by rw [List.take_add_one, hx]; rfl
  rw [e2, e1, List.append_assoc]
  exact riseB_snoc _ _ _
theorem riseB_take (l : List Pair) (j : Nat) (h : riseB l = true) : riseB (l.take j) = true := by
  rw [riseB_iff] at h ⊢
  exact List.Pairwise.sublist (List.take_sublist _ _) h
theorem riseB_one (l : List Pair) : riseB (l.take 1) = true := by
  cases l with
  | nil => rfl
  | cons a l => simp [riseB]
def sameB (a b : List Pair) : Bool := decide (a = b)
theorem take_eq_step {a b : List Pair} {j : Nat} {x y : Pair} (hx : a[j]? = some x) (hy : b[j]? = some y) (h : a.take j = b.take j) : a.take (j + 1) = b.take (j + 1) ↔ x = y := by
  rw [List.take_add_one, List.take_add_one, hx, hy, h]
  simp

end Rws

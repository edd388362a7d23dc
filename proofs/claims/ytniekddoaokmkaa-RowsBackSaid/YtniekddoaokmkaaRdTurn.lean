/-
  Layer 23 (rows): a state that the call itself makes, where a list of one of its rounds grows.
-/
import Derived.Test.YtniekddoaokmkaaRdPush
namespace Go.Proofs.Ytniekddoaokmkaa
open Go.RowKit Go.Gab
set_option linter.unusedVariables false

theorem idsAt_set {rs : List Rws.Round} {j : Nat} {x x' : Rws.Round} (hx : rs[j]? = some x) (i : Nat) : idsAt (rs.set j x') i = if i = j then x'.ids else idsAt rs i := by
  have hj := (List.getElem?_eq_some_iff.1 hx).1
  unfold idsAt
  rw [List.getElem?_set]
  by_cases h : j = i
  · subst h; rw [if_pos rfl, if_pos hj, if_pos rfl]
  · rw [if_neg h, if_neg (Ne.symm h)]
theorem edgesAt_set {rs : List Rws.Round} {j : Nat} {x x' : Rws.Round} (hx : rs[j]? = some x) (i : Nat) : edgesAt (rs.set j x') i = if i = j then x'.edges else edgesAt rs i := by
  have hj := (List.getElem?_eq_some_iff.1 hx).1
  unfold edgesAt
  rw [List.getElem?_set]
  by_cases h : j = i
  · subst h; rw [if_pos rfl, if_pos hj, if_pos rfl]
  · rw [if_neg h, if_neg (Ne.symm h)]
theorem numsOf_set {rs : List Rws.Round} {j : Nat} {x x' : Rws.Round} (hx : rs[j]? = some x) (i : Nat) : numsOf (rs.set j x') i = if i / 2 = j then (if i % 2 = 0 then x'.flow else x'.pot) else numsOf rs i := by
  have hj := (List.getElem?_eq_some_iff.1 hx).1
  unfold numsOf
  rw [List.getElem?_set]
  by_cases h : j = i / 2
  · subst h; rw [if_pos rfl, if_pos hj, if_pos rfl]
  · rw [if_neg h, if_neg (Ne.symm h)]
theorem idsAt_of {rs : List Rws.Round} {j : Nat} {x : Rws.Round} (hx : rs[j]? = some x) : idsAt rs j = x.ids := by unfold idsAt; rw [hx]
theorem edgesAt_of {rs : List Rws.Round} {j : Nat} {x : Rws.Round} (hx : rs[j]? = some x) : edgesAt rs j = x.edges := by unfold edgesAt; rw [hx]
theorem flowAt_of {rs : List Rws.Round} {j : Nat} {x : Rws.Round} (hx : rs[j]? = some x) : numsOf rs (2 * j) = x.flow := by unfold numsOf; rw [show 2 * j / 2 = j by omega, hx]; simp
theorem potAt_of {rs : List Rws.Round} {j : Nat} {x : Rws.Round} (hx : rs[j]? = some x) : numsOf rs (2 * j + 1) = x.pot := by unfold numsOf; rw [show (2 * j + 1) / 2 = j by omega, hx]; simp

section
variable {w w1 : World} {base g : Nat} {s : Rws.St} {Aa Ad Ar Aq : Option Addr} {ca cd cr cq : Nat}
/-- The rounds' row behind a store into one of its cells. -/
theorem RoundsIn.turn {w2 : World} {cells : List Value} {rs : List Rws.Round} {fI fE fN gI gE gN : Nat → Value} {j k : Nat} {x x' : Rws.Round} {v' : Value} (hc : ∀ i y, rs[i]? = some y → ∀ j v, (roundV y (fI i) (fE i) (fN (2 * i)) (fN (2 * i + 1)))[j]? = some v → cells[i * 8 + j]? = some v)
    (hx : rs[j]? = some x) (hk : k < 8) (hlen : j * 8 + k < cells.length)
    (h1 : RowsF w2 base 24 1 gI (fun i => (idsAt (rs.set j x') i).length) (fun i => (idsAt (rs.set j x') i).map (Value.int .u64)))
    (h2 : RowsF w2 base 66 4 gE (fun i => (edgesAt (rs.set j x') i).length) (fun i => (edgesAt (rs.set j x') i).flatMap edgeC))
    (h3 : RowsF w2 base 2 1 gN (fun i => (numsOf (rs.set j x') i).length) (fun i => (numsOf (rs.set j x') i).map (Value.int .i64)))
    (hf : ∀ i, i ≠ j → gI i = fI i ∧ gE i = fE i ∧ gN (2 * i) = fN (2 * i) ∧ gN (2 * i + 1) = fN (2 * i + 1))
    (hcur : ∀ l v, (roundV x' (gI j) (gE j) (gN (2 * j)) (gN (2 * j + 1)))[l]? = some v → (l = k ∧ v = v') ∨ (l ≠ k ∧ (roundV x (fI j) (fE j) (fN (2 * j)) (fN (2 * j + 1)))[l]? = some v)) :
    RoundsIn w2 base (cells.set (j * 8 + k) v') (rs.set j x') gI gE gN := by
  refine ⟨h1, h2, h3, fun i y hy l v hv => ?_⟩
  have hl : l < 8 := (List.getElem?_eq_some_iff.1 hv).1
  rw [List.getElem?_set] at hy
  by_cases hij : j = i
  · subst hij
    rw [if_pos rfl, if_pos (List.getElem?_eq_some_iff.1 hx).1] at hy
    injection hy with hy
    subst hy
    rcases hcur l v hv with ⟨rfl, rfl⟩ | ⟨hne, ho⟩
    · rw [List.getElem?_set_self hlen]
    · rw [List.getElem?_set_ne (by omega)]
      exact hc j x hx l v ho
  · rw [if_neg hij] at hy
    obtain ⟨e1, e2, e3, e4⟩ := hf i (Ne.symm hij)
    rw [e1, e2, e3, e4] at hv
    rw [List.getElem?_set_ne (by omega)]
    exact hc i y hy l v hv

/-- A list of a round has grown, and its cell is stored. -/
theorem StInX.roundTurn (h : StInX w base g s Aa Ad Ar Aq ca cd cr cq) {cells : List Value} (hr : w.ownsRow base 64 8 (.slice Ar s.rounds.length cr) s.rounds.length cells) {q : Option Nat} (hg : w.grownBy w1 q)
    (hq : ∀ k, q = some k → ∃ t cs, Blk w k t cs ∧ (t = 24 ∨ t = 66 ∨ t = 2)) {bR : Nat} (hA : Ar = some ⟨bR, 0, none⟩) {o : Nat} {v' : Value} {rs' : List Rws.Round} (hl : rs'.length = s.rounds.length)
    (hin : ∀ w2, w1.grownBy w2 (some bR) → (∃ cs, Blk w1 bR 64 cs) → ∃ gI gE gN, RoundsIn w2 base (cells.set o v') rs' gI gE gN) (hwf : ∀ r ∈ rs', RoundWf r) : StIn (w1.setCell ⟨bR, o, none⟩ v') base g { s with rounds := rs' } := by
  subst hA
  obtain ⟨cells2, h5, h6⟩ := h.asked
  have f : ∀ {e : TypeId}, e ≠ 24 → e ≠ 66 → e ≠ 2 → ∀ k, q = some k → ∃ t cs, Blk w k t cs ∧ e ≠ t := fun e1 e2 e3 k hk => by
    obtain ⟨t, cs, hb, ht⟩ := hq k hk
    refine ⟨t, cs, hb, ?_⟩
    rcases ht with rfl | rfl | rfl
    · exact e1
    · exact e2
    · exact e3
  have hr1 := own_kept hr hg (f (by decide) (by decide) (by decide))
  obtain ⟨hr2, hs⟩ := hr1.stored o v'
  obtain ⟨cs, hbR⟩ := own_blk hr1 bR rfl
  have f2 : ∀ {e : TypeId}, e ≠ 64 → _ := fun he => far_blk hbR he
  have hb1 : Blk w1 g 28 _ := h.blk.grown hg (fun e => by
    obtain ⟨t, cs, hb, ht⟩ := hq g e.symm
    rcases ht with rfl | rfl | rfl <;> exact Blk.ne_ h.blk hb (by decide) rfl)
  have hb2 := hb1.grown hs (fun e => by injection e with e; subst e; exact Blk.ne_ hb1 hbR (by decide) rfl)
  obtain ⟨gI, gE, gN, hI⟩ := hin _ hs ⟨cs, hbR⟩
  refine ⟨h.low, Nat.le_trans h.size (Nat.le_trans hg.size hs.size), ⟨h.wf.day, h.wf.next, h.wf.no, h.wf.accts, h.wf.dues, hwf, h.wf.asked⟩, Aa, Ad, some ⟨bR, 0, none⟩, Aq, ca, cd, cr, cq, ?_, own_kept (own_kept h.accts hg (f (by decide) (by decide) (by decide))) hs (f2 (by decide)),
    own_kept (own_kept h.dues hg (f (by decide) (by decide) (by decide))) hs (f2 (by decide)), ⟨cells.set o v', gI, gE, gN, ?_, hI⟩, cells2, own_kept (own_kept h5 hg (f (by decide) (by decide) (by decide))) hs (f2 (by decide)),
    (h6.map fun v bs hv => hv.kept' hg (f (by decide) (by decide) (by decide))).map fun v bs hv => hv.kept' hs (f2 (by decide))⟩
  · unfold stC at hb2 ⊢
    simp only [hl]
    exact hb2
  · simp only [hl]
    exact hr2

theorem wf_set {rs : List Rws.Round} {j : Nat} {x' : Rws.Round} (h : ∀ r ∈ rs, RoundWf r) (hx' : RoundWf x') : ∀ r ∈ rs.set j x', RoundWf r := fun r hr => by
  rcases List.mem_or_eq_of_mem_set hr with hr | hr
  · exact h r hr
  · rw [hr]; exact hx'

/-- One Id more. -/
theorem StInX.idsPush (h : StInX w base g s Aa Ad Ar Aq ca cd cr cq) {cells : List Value} {fI fE fN : Nat → Value} (hr : w.ownsRow base 64 8 (.slice Ar s.rounds.length cr) s.rounds.length cells) (hi : RoundsIn w base cells s.rounds fI fE fN)
    {bR : Nat} (hA : Ar = some ⟨bR, 0, none⟩) {j : Nat} {x : Rws.Round} (hx : s.rounds[j]? = some x) {v' : Value} {z : Int} (hz : U64 z) (hg : w.grownBy w1 (fI j).ownBlock)
    (ho : w1.ownsRow base 24 1 v' (x.ids.length + 1) (x.ids.map (Value.int .u64) ++ [.int .u64 z])) (hb : v'.ownBlock = (fI j).ownBlock ∨ v'.ownBlock = some w.heap.size) :
    StIn (w1.setCell ⟨bR, j * 8 + 3, none⟩ v') base g { s with rounds := s.rounds.set j { x with ids := x.ids ++ [z] } } := by
  have hj := (List.getElem?_eq_some_iff.1 hx).1
  have hcl := hr.1
  have f : ∀ {e : TypeId}, e ≠ 24 → _ := fun he => far_of (hi.ids.own j) he
  have hwx := h.wf.rounds x (List.mem_of_getElem? hx)
  refine h.roundTurn hr hg (fun k hk => ?_) hA (by simp) (fun w2 hs hbR => ?_) (wf_set h.wf.rounds ⟨hwx.no, hwx.day, hwx.n, fun y hy => ?_, hwx.edges, hwx.flow, hwx.pot⟩)
  · obtain ⟨cs, hbk⟩ := own_blk (hi.ids.own j) k hk
    exact ⟨_, cs, hbk, .inl rfl⟩
  · obtain ⟨cs, hbR⟩ := hbR
    have f2 : ∀ {e : TypeId}, e ≠ 64 → _ := fun he => far_blk hbR he
    refine ⟨fun i => if i = j then v' else fI i, fE, fN, RoundsIn.turn hi.cells hx (by omega) (by omega) ?_ ?_ ?_ (fun i hij => ⟨by rw [if_neg hij], rfl, rfl, rfl⟩) ?_⟩
    · refine ((hi.ids.upd hg ho hb).kept hs (f2 (by decide))).eq (fun _ => rfl) (fun i => ?_) (fun i => ?_)
      · rw [idsAt_set hx]; by_cases hij : i = j <;> simp [hij]
      · rw [idsAt_set hx]; by_cases hij : i = j <;> simp [hij]
    · refine ((hi.edges.kept hg (f (by decide))).kept hs (f2 (by decide))).eq (fun _ => rfl) (fun i => ?_) (fun i => ?_)
      · rw [edgesAt_set hx]; by_cases hij : i = j <;> simp [hij, edgesAt_of hx]
      · rw [edgesAt_set hx]; by_cases hij : i = j <;> simp [hij, edgesAt_of hx]
    · have e : ∀ i, numsOf (s.rounds.set j { x with ids := x.ids ++ [z] }) i = numsOf s.rounds i := fun i => by
        rw [numsOf_set hx]
        by_cases hij : i / 2 = j
        · subst hij; rw [if_pos rfl]; unfold numsOf; rw [hx]
        · rw [if_neg hij]
      exact ((hi.nums.kept hg (f (by decide))).kept hs (f2 (by decide))).eq (fun _ => rfl) (fun i => by rw [e]) (fun i => by rw [e])
    · intro l v hv
      simp only [if_true] at hv
      match l, hv with
      | 0, hv => exact .inr ⟨by omega, hv⟩
      | 1, hv => exact .inr ⟨by omega, hv⟩
      | 2, hv => exact .inr ⟨by omega, hv⟩
      | 3, hv => exact .inl ⟨rfl, by injection hv with hv; exact hv.symm⟩
      | 4, hv => exact .inr ⟨by omega, hv⟩
      | 5, hv => exact .inr ⟨by omega, hv⟩
      | 6, hv => exact .inr ⟨by omega, hv⟩
      | 7, hv => exact .inr ⟨by omega, hv⟩
      | l + 8, hv => simp [roundV] at hv
  · rcases List.mem_append.1 hy with hy | hy
    · exact hwx.ids y hy
    · rw [List.mem_singleton] at hy
      subst hy
      exact hz
/-- One edge more. -/
theorem StInX.edgePush (h : StInX w base g s Aa Ad Ar Aq ca cd cr cq) {cells : List Value} {fI fE fN : Nat → Value} (hr : w.ownsRow base 64 8 (.slice Ar s.rounds.length cr) s.rounds.length cells) (hi : RoundsIn w base cells s.rounds fI fE fN)
    {bR : Nat} (hA : Ar = some ⟨bR, 0, none⟩) {j : Nat} {x : Rws.Round} (hx : s.rounds[j]? = some x) {v' : Value} {z : Rws.Edge} (hz : EdgeWf z) (hg : w.grownBy w1 (fE j).ownBlock)
    (ho : w1.ownsRow base 66 4 v' (x.edges.length + 1) (x.edges.flatMap edgeC ++ edgeC z)) (hb : v'.ownBlock = (fE j).ownBlock ∨ v'.ownBlock = some w.heap.size) :
    StIn (w1.setCell ⟨bR, j * 8 + 5, none⟩ v') base g { s with rounds := s.rounds.set j { x with edges := x.edges ++ [z] } } := by
  have hj := (List.getElem?_eq_some_iff.1 hx).1
  have hcl := hr.1
  have f : ∀ {e : TypeId}, e ≠ 66 → _ := fun he => far_of (hi.edges.own j) he
  have hwx := h.wf.rounds x (List.mem_of_getElem? hx)
  refine h.roundTurn hr hg (fun k hk => ?_) hA (by simp) (fun w2 hs hbR => ?_) (wf_set h.wf.rounds ⟨hwx.no, hwx.day, hwx.n, hwx.ids, fun y hy => ?_, hwx.flow, hwx.pot⟩)
  · obtain ⟨cs, hbk⟩ := own_blk (hi.edges.own j) k hk
    exact ⟨_, cs, hbk, .inr (.inl rfl)⟩
  · obtain ⟨cs, hbR⟩ := hbR
    have f2 : ∀ {e : TypeId}, e ≠ 64 → _ := fun he => far_blk hbR he
    refine ⟨fI, fun i => if i = j then v' else fE i, fN, RoundsIn.turn hi.cells hx (by omega) (by omega) ?_ ?_ ?_ (fun i hij => ⟨rfl, by rw [if_neg hij], rfl, rfl⟩) ?_⟩
    · refine ((hi.ids.kept hg (f (by decide))).kept hs (f2 (by decide))).eq (fun _ => rfl) (fun i => ?_) (fun i => ?_)
      · rw [idsAt_set hx]; by_cases hij : i = j <;> simp [hij, idsAt_of hx]
      · rw [idsAt_set hx]; by_cases hij : i = j <;> simp [hij, idsAt_of hx]
    · refine ((hi.edges.upd hg ho hb).kept hs (f2 (by decide))).eq (fun _ => rfl) (fun i => ?_) (fun i => ?_)
      · rw [edgesAt_set hx]; by_cases hij : i = j <;> simp [hij]
      · rw [edgesAt_set hx]; by_cases hij : i = j <;> simp [hij]
    · have e : ∀ i, numsOf (s.rounds.set j { x with edges := x.edges ++ [z] }) i = numsOf s.rounds i := fun i => by
        rw [numsOf_set hx]
        by_cases hij : i / 2 = j
        · subst hij; rw [if_pos rfl]; unfold numsOf; rw [hx]
        · rw [if_neg hij]
      exact ((hi.nums.kept hg (f (by decide))).kept hs (f2 (by decide))).eq (fun _ => rfl) (fun i => by rw [e]) (fun i => by rw [e])
    · intro l v hv
      simp only [if_true] at hv
      match l, hv with
      | 0, hv => exact .inr ⟨by omega, hv⟩
      | 1, hv => exact .inr ⟨by omega, hv⟩
      | 2, hv => exact .inr ⟨by omega, hv⟩
      | 3, hv => exact .inr ⟨by omega, hv⟩
      | 4, hv => exact .inr ⟨by omega, hv⟩
      | 5, hv => exact .inl ⟨rfl, by injection hv with hv; exact hv.symm⟩
      | 6, hv => exact .inr ⟨by omega, hv⟩
      | 7, hv => exact .inr ⟨by omega, hv⟩
      | l + 8, hv => simp [roundV] at hv
  · rcases List.mem_append.1 hy with hy | hy
    · exact hwx.edges y hy
    · rw [List.mem_singleton] at hy
      subst hy
      exact hz
/-- One number of Flow (d 0) or Pot (d 1) more. -/
theorem StInX.numPush (h : StInX w base g s Aa Ad Ar Aq ca cd cr cq) {cells : List Value} {fI fE fN : Nat → Value} (hr : w.ownsRow base 64 8 (.slice Ar s.rounds.length cr) s.rounds.length cells) (hi : RoundsIn w base cells s.rounds fI fE fN)
    {bR : Nat} (hA : Ar = some ⟨bR, 0, none⟩) {j : Nat} {x x' : Rws.Round} (hx : s.rounds[j]? = some x) {v' : Value} {z : Int} (hz : I64 z) {d : Nat} (hd : d = 0 ∧ x' = { x with flow := x.flow ++ [z] } ∨ d = 1 ∧ x' = { x with pot := x.pot ++ [z] }) (hg : w.grownBy w1 (fN (2 * j + d)).ownBlock)
    (ho : w1.ownsRow base 2 1 v' ((numsOf s.rounds (2 * j + d)).length + 1) ((numsOf s.rounds (2 * j + d)).map (Value.int .i64) ++ [.int .i64 z])) (hb : v'.ownBlock = (fN (2 * j + d)).ownBlock ∨ v'.ownBlock = some w.heap.size) :
    StIn (w1.setCell ⟨bR, j * 8 + (6 + d), none⟩ v') base g { s with rounds := s.rounds.set j x' } := by
  have hj := (List.getElem?_eq_some_iff.1 hx).1
  have hcl := hr.1
  have f : ∀ {e : TypeId}, e ≠ 2 → _ := fun he => far_of (hi.nums.own (2 * j + d)) he
  have hwx := h.wf.rounds x (List.mem_of_getElem? hx)
  have hd1 : d ≤ 1 := by omega
  have hsame : x'.ids = x.ids ∧ x'.edges = x.edges ∧ RoundWf x' ∧ x'.no = x.no ∧ x'.day = x.day ∧ x'.comp = x.comp ∧ x'.n = x.n := by
    rcases hd with ⟨_, rfl⟩ | ⟨_, rfl⟩
    · refine ⟨rfl, rfl, ⟨hwx.no, hwx.day, hwx.n, hwx.ids, hwx.edges, fun y hy => ?_, hwx.pot⟩, rfl, rfl, rfl, rfl⟩
      rcases List.mem_append.1 hy with hy | hy
      · exact hwx.flow y hy
      · rw [List.mem_singleton] at hy
        subst hy
        exact hz
    · refine ⟨rfl, rfl, ⟨hwx.no, hwx.day, hwx.n, hwx.ids, hwx.edges, hwx.flow, fun y hy => ?_⟩, rfl, rfl, rfl, rfl⟩
      rcases List.mem_append.1 hy with hy | hy
      · exact hwx.pot y hy
      · rw [List.mem_singleton] at hy
        subst hy
        exact hz
  have hnum : ∀ i, numsOf (s.rounds.set j x') i = if i = 2 * j + d then numsOf s.rounds (2 * j + d) ++ [z] else numsOf s.rounds i := fun i => by
    rw [numsOf_set hx]
    rcases hd with ⟨rfl, rfl⟩ | ⟨rfl, rfl⟩
    · by_cases h1 : i = 2 * j + 0
      · subst h1
        rw [if_pos (by omega), if_pos (by omega), if_pos rfl]
        simp only [Nat.add_zero, flowAt_of hx]
      · rw [if_neg h1]
        by_cases h2 : i / 2 = j
        · have h3 : i = 2 * j + 1 := by omega
          subst h3
          rw [if_pos h2, if_neg (by omega), potAt_of hx]
        · rw [if_neg h2]
    · by_cases h1 : i = 2 * j + 1
      · subst h1
        rw [if_pos (by omega), if_neg (by omega), if_pos rfl, potAt_of hx]
      · rw [if_neg h1]
        by_cases h2 : i / 2 = j
        · have h3 : i = 2 * j := by omega
          subst h3
          rw [if_pos h2, if_pos (by omega), flowAt_of hx]
        · rw [if_neg h2]
  refine h.roundTurn hr hg (fun k hk => ?_) hA (by simp) (fun w2 hs hbR => ?_) (wf_set h.wf.rounds hsame.2.2.1)
  · obtain ⟨cs, hbk⟩ := own_blk (hi.nums.own (2 * j + d)) k hk
    exact ⟨_, cs, hbk, .inr (.inr rfl)⟩
  · obtain ⟨cs, hbR⟩ := hbR
    have f2 : ∀ {e : TypeId}, e ≠ 64 → _ := fun he => far_blk hbR he
    refine ⟨fI, fE, fun i => if i = 2 * j + d then v' else fN i, RoundsIn.turn hi.cells hx (by omega) (by omega) ?_ ?_ ?_ (fun i hij => ⟨rfl, rfl, by rw [if_neg (by omega)], by rw [if_neg (by omega)]⟩) ?_⟩
    · refine ((hi.ids.kept hg (f (by decide))).kept hs (f2 (by decide))).eq (fun _ => rfl) (fun i => ?_) (fun i => ?_)
      · rw [idsAt_set hx]; by_cases hij : i = j <;> simp [hij, idsAt_of hx, hsame.1]
      · rw [idsAt_set hx]; by_cases hij : i = j <;> simp [hij, idsAt_of hx, hsame.1]
    · refine ((hi.edges.kept hg (f (by decide))).kept hs (f2 (by decide))).eq (fun _ => rfl) (fun i => ?_) (fun i => ?_)
      · rw [edgesAt_set hx]; by_cases hij : i = j <;> simp [hij, edgesAt_of hx, hsame.2.1]
      · rw [edgesAt_set hx]; by_cases hij : i = j <;> simp [hij, edgesAt_of hx, hsame.2.1]
    · refine ((hi.nums.upd hg ho hb).kept hs (f2 (by decide))).eq (fun _ => rfl) (fun i => ?_) (fun i => ?_)
      · rw [hnum]; by_cases hij : i = 2 * j + d <;> simp [hij]
      · rw [hnum]; by_cases hij : i = 2 * j + d <;> simp [hij]
    · have e4 := hsame.2.2.2
      intro l v hv
      rcases hd with ⟨rfl, rfl⟩ | ⟨rfl, rfl⟩
      · rw [show (if 2 * j = 2 * j + 0 then v' else fN (2 * j)) = v' from if_pos rfl, show (if 2 * j + 1 = 2 * j + 0 then v' else fN (2 * j + 1)) = fN (2 * j + 1) from if_neg (by omega)] at hv
        match l, hv with
        | 0, hv => exact .inr ⟨by omega, hv⟩
        | 1, hv => exact .inr ⟨by omega, hv⟩
        | 2, hv => exact .inr ⟨by omega, hv⟩
        | 3, hv => exact .inr ⟨by omega, hv⟩
        | 4, hv => exact .inr ⟨by omega, hv⟩
        | 5, hv => exact .inr ⟨by omega, hv⟩
        | 6, hv => exact .inl ⟨rfl, by injection hv with hv; exact hv.symm⟩
        | 7, hv => exact .inr ⟨by omega, hv⟩
        | l + 8, hv => simp [roundV] at hv
      · rw [show (if 2 * j = 2 * j + 1 then v' else fN (2 * j)) = fN (2 * j) from if_neg (by omega), show (if 2 * j + 1 = 2 * j + 1 then v' else fN (2 * j + 1)) = v' from if_pos rfl] at hv
        match l, hv with
        | 0, hv => exact .inr ⟨by omega, hv⟩
        | 1, hv => exact .inr ⟨by omega, hv⟩
        | 2, hv => exact .inr ⟨by omega, hv⟩
        | 3, hv => exact .inr ⟨by omega, hv⟩
        | 4, hv => exact .inr ⟨by omega, hv⟩
        | 5, hv => exact .inr ⟨by omega, hv⟩
        | 6, hv => exact .inr ⟨by omega, hv⟩
        | 7, hv => exact .inl ⟨rfl, by injection hv with hv; exact hv.symm⟩
        | l + 8, hv => simp [roundV] at hv
end

end Go.Proofs.Ytniekddoaokmkaa

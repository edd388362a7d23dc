/-
  Layer 23 (rows): a state that the call itself makes, in memory.
-/
import Derived.Test.YtniekddoaokmkaaRowTell
import Derived.Test.YtniekddoaokmkaaRdPlain
namespace Go.Proofs.Ytniekddoaokmkaa
open Go.RowKit Go.Gab
set_option linter.unusedVariables false

/-! ### Rows of one type, apart -/
structure RowsF (w : World) (base : Nat) (e : TypeId) (size : Nat) (V : Nat → Value) (N : Nat → Nat) (X : Nat → List Value) : Prop where
  own : ∀ i, w.ownsRow base e size (V i) (N i) (X i)
  apart : ∀ i j, i ≠ j → (V i).ownBlock = none ∨ (V i).ownBlock ≠ (V j).ownBlock
section
variable {w w' : World} {base : Nat} {e : TypeId} {size : Nat} {V : Nat → Value} {N : Nat → Nat} {X : Nat → List Value}
theorem RowsF.nil_ (w : World) (base : Nat) (e : TypeId) (size : Nat) : RowsF w base e size (fun _ => .slice none 0 0) (fun _ => 0) (fun _ => []) :=
  ⟨fun _ => World.ownsRow_nil _ _ _ _, fun _ _ _ => .inl rfl⟩
/-- A change of a block that is none of these. -/
theorem RowsF.kept {q : Option Nat} (h : RowsF w base e size V N X) (hg : w.grownBy w' q) (hq : ∀ k, q = some k → ∃ t cs, Blk w k t cs ∧ e ≠ t) : RowsF w' base e size V N X :=
  ⟨fun i => (h.own i).kept hg (by
    rcases q with _ | k
    · rcases hv : (V i).ownBlock with _ | _
      · exact .inl rfl
      · exact .inr (by simp)
    · obtain ⟨t, cs, hb, hne⟩ := hq k rfl
      exact .inr (own_blk_ne (h.own i) hb hne)), h.apart⟩
theorem RowsF.below (h : RowsF w base e size V N X) (hb : Below w.heap.size w w') : RowsF w' base e size V N X := ⟨fun i => own_below (h.own i) hb, h.apart⟩
/-- One of them grows. -/
theorem RowsF.upd (h : RowsF w base e size V N X) {k : Nat} {v' : Value} {n' : Nat} {x' : List Value} (hg : w.grownBy w' (V k).ownBlock) (ho : w'.ownsRow base e size v' n' x') (hb : v'.ownBlock = (V k).ownBlock ∨ v'.ownBlock = some w.heap.size) :
    RowsF w' base e size (fun i => if i = k then v' else V i) (fun i => if i = k then n' else N i) (fun i => if i = k then x' else X i) := by
  refine ⟨fun i => ?_, fun i j hij => ?_⟩
  · by_cases hi : i = k
    · subst hi; simp only [if_true]; exact ho
    · simp only [if_neg hi]
      exact (h.own i).kept hg (h.apart i k hi)
  · by_cases hi : i = k
    · subst hi
      simp only [if_true, if_neg (Ne.symm hij)]
      rcases hb with hb | hb
      · rw [hb]; exact h.apart i j hij
      · right
        rw [hb]
        intro he
        have := ((h.own j).lt _ he.symm).2
        omega
    · simp only [if_neg hi]
      by_cases hj : j = k
      · subst hj
        simp only [if_true]
        rcases hb with hb | hb
        · rw [hb]; exact h.apart i j hij
        · right
          rw [hb]
          intro he
          have := ((h.own i).lt _ he).2
          omega
      · simp only [if_neg hj]
        exact h.apart i j hij
theorem RowsF.eq {V' : Nat → Value} {N' : Nat → Nat} {X' : Nat → List Value} (h : RowsF w base e size V N X) (h1 : ∀ i, V i = V' i) (h2 : ∀ i, N i = N' i) (h3 : ∀ i, X i = X' i) : RowsF w base e size V' N' X' := by
  have e1 : V = V' := funext h1
  have e2 : N = N' := funext h2
  have e3 : X = X' := funext h3
  subst e1 e2 e3
  exact h
end

/-! ### A state's parts as cells -/
def acctC (x : Rws.Acct) : List Value := [.int .i64 x.bal, .int .i64 x.res]
def edgeC (x : Rws.Edge) : List Value := [.int .i64 x.frm, .int .i64 x.to, .int .i64 x.cap, .int .i64 x.cost]
def dueC (x : Rws.Due) : List Value := [.int .u64 x.id, .int .i64 x.frm, .int .i64 x.to, .int .i64 x.amt, .int .i64 x.wt, .int .i64 x.til, .bool x.held]
def roundV (x : Rws.Round) (a b c d : Value) : List Value := [.int .u64 x.no, .int .i64 x.day, .bool x.comp, a, .int .i64 x.n, b, c, d]
def idsAt (rs : List Rws.Round) (i : Nat) : List Int := match rs[i]? with | some x => x.ids | none => []
def edgesAt (rs : List Rws.Round) (i : Nat) : List Rws.Edge := match rs[i]? with | some x => x.edges | none => []
def numsOf (rs : List Rws.Round) (i : Nat) : List Int := match rs[i / 2]? with | some x => if i % 2 = 0 then x.flow else x.pot | none => []

structure AcctWf (x : Rws.Acct) : Prop where
  bal : I64 x.bal
  res : I64 x.res
structure EdgeWf (x : Rws.Edge) : Prop where
  frm : I64 x.frm
  tow : I64 x.to
  cap : I64 x.cap
  cost : I64 x.cost
structure DueWf (x : Rws.Due) : Prop where
  id : U64 x.id
  frm : I64 x.frm
  tow : I64 x.to
  amt : I64 x.amt
  wt : I64 x.wt
  til : I64 x.til
structure RoundWf (x : Rws.Round) : Prop where
  no : U64 x.no
  day : I64 x.day
  n : I64 x.n
  ids : ∀ z ∈ x.ids, U64 z
  edges : ∀ z ∈ x.edges, EdgeWf z
  flow : ∀ z ∈ x.flow, I64 z
  pot : ∀ z ∈ x.pot, I64 z
structure StWf (s : Rws.St) : Prop where
  day : I64 s.day
  next : U64 s.next
  no : U64 s.no
  accts : ∀ x ∈ s.accts, AcctWf x
  dues : ∀ x ∈ s.dues, DueWf x
  rounds : ∀ x ∈ s.rounds, RoundWf x
  asked : ∀ x ∈ s.asked, U32 x.client ∧ U64 x.seq

/-- Rounds, whose lists are rows of the call's own. -/
structure RoundsIn (w : World) (base : Nat) (cells : List Value) (rs : List Rws.Round) (fI fE fN : Nat → Value) : Prop where
  ids : RowsF w base 24 1 fI (fun i => (idsAt rs i).length) (fun i => (idsAt rs i).map (Value.int .u64))
  edges : RowsF w base 66 4 fE (fun i => (edgesAt rs i).length) (fun i => (edgesAt rs i).flatMap edgeC)
  nums : RowsF w base 2 1 fN (fun i => (numsOf rs i).length) (fun i => (numsOf rs i).map (Value.int .i64))
  cells : ∀ i x, rs[i]? = some x → ∀ j v, (roundV x (fI i) (fE i) (fN (2 * i)) (fN (2 * i + 1)))[j]? = some v → cells[i * 8 + j]? = some v
/-- What is remembered. -/
def AskedIn (w : World) (base : Nat) (cells : List Value) (l : List Rws.Asked) : Prop :=
  ∀ i x, l[i]? = some x → ∃ v1 v2, OwnB w base v1 x.ask ∧ OwnB w base v2 x.reply ∧ ∀ j v, ([.int .u32 x.client, .int .u64 x.seq, v1, v2] : List Value)[j]? = some v → cells[i * 4 + j]? = some v

/-- A state in memory that the call itself made. -/
structure StIn (w : World) (base g : Nat) (s : Rws.St) : Prop where
  low : base ≤ g
  size : base ≤ w.heap.size
  wf : StWf s
  head : ∃ Aa Ad Ar Aq ca cd cr cq, Blk w g 28 (stC s Aa Ad Ar Aq ca cd cr cq).toArray ∧
    w.ownsRow base 92 2 (.slice Aa s.accts.length ca) s.accts.length (s.accts.flatMap acctC) ∧
    w.ownsRow base 54 7 (.slice Ad s.dues.length cd) s.dues.length (s.dues.flatMap dueC) ∧
    (∃ cells fI fE fN, w.ownsRow base 64 8 (.slice Ar s.rounds.length cr) s.rounds.length cells ∧ RoundsIn w base cells s.rounds fI fE fN) ∧
    (∃ cells, w.ownsRow base 52 4 (.slice Aq s.asked.length cq) s.asked.length cells ∧ AskedIn w base cells s.asked)

/-- A type that is none of a state's. -/
def Far (t : TypeId) : Prop := 28 ≠ t ∧ 92 ≠ t ∧ 54 ≠ t ∧ 64 ≠ t ∧ 52 ≠ t ∧ 24 ≠ t ∧ 66 ≠ t ∧ 2 ≠ t ∧ 5 ≠ t
instance (t : TypeId) : Decidable (Far t) := by unfold Far; infer_instance

section
variable {w w' : World} {base g : Nat} {s : Rws.St}
theorem own_kept {e : TypeId} {size n : Nat} {v : Value} {xs : List Value} {q : Option Nat} (h : w.ownsRow base e size v n xs) (hg : w.grownBy w' q) (hq : ∀ k, q = some k → ∃ t cs, Blk w k t cs ∧ e ≠ t) : w'.ownsRow base e size v n xs :=
  h.kept hg (by
    rcases q with _ | k
    · rcases hv : v.ownBlock with _ | _
      · exact .inl rfl
      · exact .inr (by simp)
    · obtain ⟨t, cs, hb, hne⟩ := hq k rfl
      exact .inr (own_blk_ne h hb hne))
theorem OwnB.kept' {v : Value} {bs : List UInt8} {q : Option Nat} (h : OwnB w base v bs) (hg : w.grownBy w' q) (hq : ∀ k, q = some k → ∃ t cs, Blk w k t cs ∧ 5 ≠ t) : OwnB w' base v bs := by
  obtain ⟨A, c, rfl, h2, h3⟩ := h
  exact ⟨A, c, rfl, own_kept h2 hg hq, h3⟩
theorem AskedIn.map {cells : List Value} {l : List Rws.Asked} (h : AskedIn w base cells l) (hk : ∀ v bs, OwnB w base v bs → OwnB w' base v bs) : AskedIn w' base cells l := fun i x hx => by
  obtain ⟨v1, v2, b1, b2, hc⟩ := h i x hx
  exact ⟨v1, v2, hk _ _ b1, hk _ _ b2, hc⟩
theorem RoundsIn.kept {cells : List Value} {rs : List Rws.Round} {fI fE fN : Nat → Value} {q : Option Nat} (h : RoundsIn w base cells rs fI fE fN) (hg : w.grownBy w' q)
    (hq : ∀ k, q = some k → ∃ t cs, Blk w k t cs ∧ 24 ≠ t ∧ 66 ≠ t ∧ 2 ≠ t) : RoundsIn w' base cells rs fI fE fN :=
  ⟨h.ids.kept hg fun k hk => by obtain ⟨t, cs, hb, h1, h2, h3⟩ := hq k hk; exact ⟨t, cs, hb, h1⟩, h.edges.kept hg fun k hk => by obtain ⟨t, cs, hb, h1, h2, h3⟩ := hq k hk; exact ⟨t, cs, hb, h2⟩,
    h.nums.kept hg fun k hk => by obtain ⟨t, cs, hb, h1, h2, h3⟩ := hq k hk; exact ⟨t, cs, hb, h3⟩, h.cells⟩
theorem RoundsIn.below {cells : List Value} {rs : List Rws.Round} {fI fE fN : Nat → Value} (h : RoundsIn w base cells rs fI fE fN) (hb : Below w.heap.size w w') : RoundsIn w' base cells rs fI fE fN :=
  ⟨h.ids.below hb, h.edges.below hb, h.nums.below hb, h.cells⟩
/-- A change of a block that is none of the state's. -/
theorem StIn.kept {q : Option Nat} (h : StIn w base g s) (hg : w.grownBy w' q) (hq : ∀ k, q = some k → ∃ t cs, Blk w k t cs ∧ Far t) : StIn w' base g s := by
  obtain ⟨Aa, Ad, Ar, Aq, ca, cd, cr, cq, hb, h1, h2, ⟨cells, fI, fE, fN, h3, h4⟩, cells2, h5, h6⟩ := h.head
  refine ⟨h.low, Nat.le_trans h.size hg.size, h.wf, Aa, Ad, Ar, Aq, ca, cd, cr, cq, hb.grown hg ?_, own_kept h1 hg ?_, own_kept h2 hg ?_, ⟨cells, fI, fE, fN, own_kept h3 hg ?_, h4.kept hg ?_⟩, cells2, own_kept h5 hg ?_, h6.map fun v bs hv => hv.kept' hg ?_⟩
  · intro e
    obtain ⟨t, cs, hk, hf⟩ := hq g e.symm
    exact Blk.ne_ hb hk hf.1 rfl
  all_goals
    intro k hk
    obtain ⟨t, cs, hb, f0, f1, f2, f3, f4, f5, f6, f7, f8⟩ := hq k hk
  · exact ⟨t, cs, hb, f1⟩
  · exact ⟨t, cs, hb, f2⟩
  · exact ⟨t, cs, hb, f3⟩
  · exact ⟨t, cs, hb, f5, f6, f7⟩
  · exact ⟨t, cs, hb, f4⟩
  · exact ⟨t, cs, hb, f8⟩
theorem StIn.below (h : StIn w base g s) (hb : Below w.heap.size w w') : StIn w' base g s := h.kept (only_of_below hb none) (fun k hk => by cases hk)
theorem StIn.drewN (h : StIn w base g s) (n : Nat) : StIn (w.drewN n) base g s := h.below (below_drewN (Below.refl _ _) n)
theorem StIn.lt (h : StIn w base g s) : g < w.heap.size := by
  obtain ⟨_, _, _, _, _, _, _, _, hb, _⟩ := h.head
  exact hb.lt
/-- The empty state in a block that has just been laid. -/
theorem StIn.zero {base g : Nat} {w : World} (hb : base ≤ g) (hB : Blk w g 28 #[.int .i64 0, .slice none 0 0, .slice none 0 0, .int .u64 0, .slice none 0 0, .int .u64 0, .slice none 0 0]) : StIn w base g Rws.st0 :=
  ⟨hb, Nat.le_trans hb (Nat.le_of_lt hB.lt), ⟨by simp [Rws.st0, I64], by simp [Rws.st0, U64], by simp [Rws.st0, U64], by simp [Rws.st0], by simp [Rws.st0], by simp [Rws.st0], by simp [Rws.st0]⟩,
    none, none, none, none, 0, 0, 0, 0, hB, World.ownsRow_nil _ _ _ _, World.ownsRow_nil _ _ _ _,
    ⟨[], fun _ => .slice none 0 0, fun _ => .slice none 0 0, fun _ => .slice none 0 0, World.ownsRow_nil _ _ _ _, RowsF.nil_ _ _ _ _, RowsF.nil_ _ _ _ _, RowsF.nil_ _ _ _ _, fun i x h => by simp [Rws.st0] at h⟩,
    [], World.ownsRow_nil _ _ _ _, fun i x h => by simp [Rws.st0] at h⟩
end

/-! ### As it is read -/
theorem flatMap_at {α : Type} (C : α → List Value) (k : Nat) : ∀ (l : List α), (∀ x ∈ l, (C x).length = k) → ∀ (i : Nat) (x : α), l[i]? = some x → ∀ j v, (C x)[j]? = some v → (l.flatMap C)[i * k + j]? = some v
  | [], _, i, x, h, _, _, _ => by simp at h
  | y :: l, hk, 0, x, h, j, v, hv => by
    simp at h
    subst h
    rw [Nat.zero_mul, Nat.zero_add, List.flatMap_cons, List.getElem?_append_left (List.getElem?_eq_some_iff.1 hv).1]
    exact hv
  | y :: l, hk, i + 1, x, h, j, v, hv => by
    have h1 := hk y (by simp)
    rw [List.flatMap_cons, List.getElem?_append_right (by rw [h1, Nat.add_mul]; omega), h1, show (i + 1) * k + j - k = i * k + j by rw [Nat.add_mul]; omega]
    exact flatMap_at C k l (fun z hz => hk z (by simp [hz])) i x (by simpa using h) j v hv
theorem own_slr {α : Type} {r : Rep α} {w : World} {base : Nat} {e : TypeId} {A : Option Addr} {n c : Nat} {l : List α} {cells : List Value} (C : Nat → α → List Value) (hl : l.length = n) (hC : ∀ i x, l[i]? = some x → r.rel w w.heap.size (C i x) x ∧ (C i x).length = r.size ∧ ∀ j v, (C i x)[j]? = some v → cells[i * r.size + j]? = some v)
    (h : w.ownsRow base e r.size (.slice A n c) n cells) : SlR r w w.heap.size A n c l := by
  have s := Sl.of_own h
  refine ⟨hl, s.nc, s.cm, fun i hi => ?_⟩
  have hx : l[i]? = some l[i] := List.getElem?_eq_getElem (by omega)
  obtain ⟨h1, h2, h3⟩ := hC i _ hx
  rcases h.2 with ⟨_, h0⟩ | ⟨g, cap, cur, hv, hb, hh, hnc, hm, hs, ht⟩
  · omega
  · have hA : A = some ⟨g, 0, none⟩ := by injection hv
    refine ⟨g, 0, l[i], C i l[i], hA, ?_, hx, h1, h2, fun j v hjv => ?_⟩
    · have hk : Blk w g e cur := hh
      exact hk.lt
    · have h4 := h3 j v hjv
      have hcell := h.cells (g := g) (by rw [hv]; rfl) _ v h4
      have hadd : (⟨g, 0, none⟩ : Addr).add (i * r.size + j) = ⟨g, 0 + (i * r.size + j), none⟩ := by
        unfold Addr.add
        split
        · rename_i h0
          have : i * r.size + j = 0 := by simpa using h0
          rw [this]
        · rfl
      rw [← hadd]
      exact hcell

theorem StIn.at_ {w : World} {base g : Nat} {s : Rws.St} (h : StIn w base g s) : ∃ Aa Ad Ar Aq ca cd cr cq, Blk w g 28 (stC s Aa Ad Ar Aq ca cd cr cq).toArray ∧ StAt w w.heap.size s Aa Ad Ar Aq ca cd cr cq := by
  obtain ⟨Aa, Ad, Ar, Aq, ca, cd, cr, cq, hb, h1, h2, ⟨cells, fI, fE, fN, h3, h4⟩, cells2, h5, h6⟩ := h.head
  refine ⟨Aa, Ad, Ar, Aq, ca, cd, cr, cq, hb, h.wf.day, h.wf.next, h.wf.no, ?_, ?_, ?_, ?_⟩
  · refine own_slr (r := acctR) (fun _ x => acctC x) rfl (fun i x hx => ?_) h1
    have hw := h.wf.accts x (List.mem_of_getElem? hx)
    exact ⟨acct_mk hw.bal hw.res, rfl, flatMap_at acctC 2 s.accts (fun _ _ => rfl) i x hx⟩
  · refine own_slr (r := dueR) (fun _ x => dueC x) rfl (fun i x hx => ?_) h2
    have hw := h.wf.dues x (List.mem_of_getElem? hx)
    exact ⟨due_mk hw.id hw.frm hw.tow hw.amt hw.wt hw.til, rfl, flatMap_at dueC 7 s.dues (fun _ _ => rfl) i x hx⟩
  · refine own_slr (r := roundR) (fun i x => roundV x (fI i) (fE i) (fN (2 * i)) (fN (2 * i + 1))) rfl (fun i x hx => ?_) h3
    have hw := h.wf.rounds x (List.mem_of_getElem? hx)
    have e1 : idsAt s.rounds i = x.ids := by unfold idsAt; rw [hx]
    have e2 : edgesAt s.rounds i = x.edges := by unfold edgesAt; rw [hx]
    have e3 : numsOf s.rounds (2 * i) = x.flow := by unfold numsOf; rw [show 2 * i / 2 = i by omega, hx]; simp
    have e4 : numsOf s.rounds (2 * i + 1) = x.pot := by unfold numsOf; rw [show (2 * i + 1) / 2 = i by omega, hx]; simp
    have o1 := h4.ids.own i
    have o2 := h4.edges.own i
    have o3 := h4.nums.own (2 * i)
    have o4 := h4.nums.own (2 * i + 1)
    simp only [e1, e2, e3, e4] at o1 o2 o3 o4
    obtain ⟨Ai, ci, ev1⟩ := own_slice o1
    obtain ⟨Ae, ce, ev2⟩ := own_slice o2
    obtain ⟨Af, cf, ev3⟩ := own_slice o3
    obtain ⟨Ap, cp, ev4⟩ := own_slice o4
    have hcl := h4.cells i x hx
    rw [ev1] at o1
    rw [ev2] at o2
    rw [ev3] at o3
    rw [ev4] at o4
    refine ⟨?_, rfl, fun j v hv => hcl j v hv⟩
    rw [ev1, ev2, ev3, ev4]
    have map_at : ∀ (k : IntKind) (l : List Int) (i : Nat) (z : Int), l[i]? = some z → ∀ j v, ([.int k z] : List Value)[j]? = some v → (l.map (Value.int k))[i * 1 + j]? = some v := fun k l i z hz j v hv => by
      match j, hv with
      | 0, hv =>
        injection hv with hv
        subst hv
        rw [Nat.mul_one, Nat.add_zero, List.getElem?_map, hz]
        rfl
    refine round_mk ⟨hw.no, hw.day, hw.n, ?_, ?_, ?_, ?_⟩
    · exact own_slr (r := Rep.int .u64) (fun _ z => [.int .u64 z]) rfl (fun i z hz => ⟨⟨rfl, wf_u64 (hw.ids z (List.mem_of_getElem? hz))⟩, rfl, map_at .u64 _ i z hz⟩) o1
    · exact own_slr (r := edgeR) (fun _ z => edgeC z) rfl (fun i z hz => ⟨by have := hw.edges z (List.mem_of_getElem? hz); exact edge_mk this.frm this.tow this.cap this.cost, rfl, flatMap_at edgeC 4 x.edges (fun _ _ => rfl) i z hz⟩) o2
    · exact own_slr (r := Rep.int .i64) (fun _ z => [.int .i64 z]) rfl (fun i z hz => ⟨⟨rfl, wf_i64 (hw.flow z (List.mem_of_getElem? hz))⟩, rfl, map_at .i64 _ i z hz⟩) o3
    · exact own_slr (r := Rep.int .i64) (fun _ z => [.int .i64 z]) rfl (fun i z hz => ⟨⟨rfl, wf_i64 (hw.pot z (List.mem_of_getElem? hz))⟩, rfl, map_at .i64 _ i z hz⟩) o4
  · have hs := Sl.of_own h5
    refine own_slr (r := askedR) (fun i x => [.int .u32 x.client, .int .u64 x.seq, cells2.getD (i * 4 + 2) undef, cells2.getD (i * 4 + 3) undef]) rfl (fun i x hx => ?_) h5
    have hw := h.wf.asked x (List.mem_of_getElem? hx)
    obtain ⟨v1, v2, b1, b2, hc⟩ := h6 i x hx
    have e1 : cells2.getD (i * 4 + 2) undef = v1 := by rw [List.getD_eq_getElem?_getD, hc 2 v1 rfl]; rfl
    have e2 : cells2.getD (i * 4 + 3) undef = v2 := by rw [List.getD_eq_getElem?_getD, hc 3 v2 rfl]; rfl
    simp only [e1, e2]
    obtain ⟨A1, c1, rfl, B1⟩ := b1.bytesAt
    obtain ⟨A2, c2, rfl, B2⟩ := b2.bytesAt
    exact ⟨asked_mk hw.1 hw.2 B1 B2, rfl, hc⟩

end Go.Proofs.Ytniekddoaokmkaa

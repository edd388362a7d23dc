/-
  Layer 23 (rows): a state that the call itself makes, where one of its lists grows.
-/
import Derived.Test.YtniekddoaokmkaaRdState
namespace Go.Proofs.Ytniekddoaokmkaa
open Go.RowKit Go.Gab
set_option linter.unusedVariables false

theorem own_blk {w : World} {base : Nat} {e : TypeId} {size n : Nat} {v : Value} {xs : List Value} (h : w.ownsRow base e size v n xs) : ∀ k, v.ownBlock = some k → ∃ cs, Blk w k e cs := by
  intro k hk
  rcases h.2 with ⟨rfl, _⟩ | ⟨g, cap, cur, rfl, _, hh, _⟩
  · cases hk
  · have e1 : g = k := by simpa [Value.ownBlock] using hk
    subst e1
    exact ⟨cur, hh⟩
theorem only_undrew {w w' : World} {q : Option Nat} (h : w.drew.grownBy w' q) : w.grownBy w' q := ⟨h.os, h.tape, h.output, h.size, h.block⟩
/-- Of these types none. -/
theorem far_of {w : World} {base : Nat} {e e' : TypeId} {size n : Nat} {v : Value} {xs : List Value} (h : w.ownsRow base e size v n xs) (hne : e' ≠ e) : ∀ k, v.ownBlock = some k → ∃ t cs, Blk w k t cs ∧ e' ≠ t := fun k hk => by
  obtain ⟨cs, hb⟩ := own_blk h k hk
  exact ⟨e, cs, hb, hne⟩
theorem far_blk {w : World} {g : Nat} {t e' : TypeId} {cs : Array Value} (h : Blk w g t cs) (hne : e' ≠ t) : ∀ k, some g = some k → ∃ t cs, Blk w k t cs ∧ e' ≠ t := fun k hk => by
  injection hk with hk
  subst hk
  exact ⟨t, cs, h, hne⟩
theorem RoundsIn.kept1 {w w' : World} {base : Nat} {cells : List Value} {rs : List Rws.Round} {fI fE fN : Nat → Value} {q : Option Nat} (h : RoundsIn w base cells rs fI fE fN) (hg : w.grownBy w' q)
    (h1 : ∀ k, q = some k → ∃ t cs, Blk w k t cs ∧ 24 ≠ t) (h2 : ∀ k, q = some k → ∃ t cs, Blk w k t cs ∧ 66 ≠ t) (h3 : ∀ k, q = some k → ∃ t cs, Blk w k t cs ∧ 2 ≠ t) : RoundsIn w' base cells rs fI fE fN :=
  ⟨h.ids.kept hg h1, h.edges.kept hg h2, h.nums.kept hg h3, h.cells⟩

/-- A state in memory, its slices named. -/
structure StInX (w : World) (base g : Nat) (s : Rws.St) (Aa Ad Ar Aq : Option Addr) (ca cd cr cq : Nat) : Prop where
  low : base ≤ g
  size : base ≤ w.heap.size
  wf : StWf s
  blk : Blk w g 28 (stC s Aa Ad Ar Aq ca cd cr cq).toArray
  accts : w.ownsRow base 92 2 (.slice Aa s.accts.length ca) s.accts.length (s.accts.flatMap acctC)
  dues : w.ownsRow base 54 7 (.slice Ad s.dues.length cd) s.dues.length (s.dues.flatMap dueC)
  rounds : ∃ cells fI fE fN, w.ownsRow base 64 8 (.slice Ar s.rounds.length cr) s.rounds.length cells ∧ RoundsIn w base cells s.rounds fI fE fN
  asked : ∃ cells, w.ownsRow base 52 4 (.slice Aq s.asked.length cq) s.asked.length cells ∧ AskedIn w base cells s.asked
theorem StIn.open_ {w : World} {base g : Nat} {s : Rws.St} (h : StIn w base g s) : ∃ Aa Ad Ar Aq ca cd cr cq, StInX w base g s Aa Ad Ar Aq ca cd cr cq := by
  obtain ⟨Aa, Ad, Ar, Aq, ca, cd, cr, cq, hb, h1, h2, h3, h4⟩ := h.head
  exact ⟨Aa, Ad, Ar, Aq, ca, cd, cr, cq, h.low, h.size, h.wf, hb, h1, h2, h3, h4⟩
section
variable {w w1 : World} {base g : Nat} {s : Rws.St} {Aa Ad Ar Aq : Option Addr} {ca cd cr cq : Nat}
theorem StInX.shut (h : StInX w base g s Aa Ad Ar Aq ca cd cr cq) : StIn w base g s := ⟨h.low, h.size, h.wf, Aa, Ad, Ar, Aq, ca, cd, cr, cq, h.blk, h.accts, h.dues, h.rounds, h.asked⟩
theorem StInX.kept {q : Option Nat} (h : StInX w base g s Aa Ad Ar Aq ca cd cr cq) (hg : w.grownBy w1 q) (hq : ∀ k, q = some k → ∃ t cs, Blk w k t cs ∧ Far t) : StInX w1 base g s Aa Ad Ar Aq ca cd cr cq := by
  obtain ⟨cells, fI, fE, fN, h3, h4⟩ := h.rounds
  obtain ⟨cells2, h5, h6⟩ := h.asked
  have f : ∀ {e : TypeId}, (∀ t, Far t → e ≠ t) → ∀ k, q = some k → ∃ t cs, Blk w k t cs ∧ e ≠ t := fun he k hk => by
    obtain ⟨t, cs, hb, hf⟩ := hq k hk
    exact ⟨t, cs, hb, he t hf⟩
  refine ⟨h.low, Nat.le_trans h.size hg.size, h.wf, h.blk.grown hg ?_, own_kept h.accts hg (f fun t hf => hf.2.1), own_kept h.dues hg (f fun t hf => hf.2.2.1), ⟨cells, fI, fE, fN, own_kept h3 hg (f fun t hf => hf.2.2.2.1), h4.kept1 hg (f fun t hf => hf.2.2.2.2.2.1) (f fun t hf => hf.2.2.2.2.2.2.1) (f fun t hf => hf.2.2.2.2.2.2.2.1)⟩,
    cells2, own_kept h5 hg (f fun t hf => hf.2.2.2.2.1), h6.map fun v bs hv => hv.kept' hg (f fun t hf => hf.2.2.2.2.2.2.2.2)⟩
  intro e
  obtain ⟨t, cs, hk, hf⟩ := hq g e.symm
  exact Blk.ne_ h.blk hk hf.1 rfl
theorem StInX.below (h : StInX w base g s Aa Ad Ar Aq ca cd cr cq) (hb : Below w.heap.size w w1) : StInX w1 base g s Aa Ad Ar Aq ca cd cr cq := h.kept (only_of_below hb none) (fun k hk => by cases hk)
theorem StInX.took {h : Nat} {t : TypeId} {cs : Array Value} (hs : StInX w base g s Aa Ad Ar Aq ca cd cr cq) (hb : Blk w h t cs) (hf : Far t) (hg : w.grownBy w1 (some h)) : StInX w1 base g s Aa Ad Ar Aq ca cd cr cq :=
  hs.kept hg fun k e => by
    injection e with e
    subst e
    exact ⟨_, _, hb, hf⟩
/-- The state's own block behind an append to a row of another type, and a store into it. -/
theorem blk_grown {e : TypeId} {size n : Nat} {v : Value} {xs : List Value} {cs : Array Value} (hb : Blk w g 28 cs) (ho : w.ownsRow base e size v n xs) (hne : e ≠ 28) (hg : w.grownBy w1 v.ownBlock) : Blk w1 g 28 cs :=
  hb.grown hg (fun he => own_blk_ne ho hb hne he.symm)

/-- One account more. -/
theorem StInX.acctPush (h : StInX w base g s Aa Ad Ar Aq ca cd cr cq) {A' : Option Addr} {c' : Nat} {x : Rws.Acct} (hg : w.grownBy w1 (Value.slice Aa s.accts.length ca).ownBlock)
    (ho : w1.ownsRow base 92 2 (.slice A' (s.accts.length + 1) c') (s.accts.length + 1) (s.accts.flatMap acctC ++ acctC x)) (hx : AcctWf x) :
    StIn (w1.setCell ⟨g, 1, none⟩ (.slice A' (s.accts.length + 1) c')) base g { s with accts := s.accts ++ [x] } := by
  obtain ⟨cells, fI, fE, fN, h3, h4⟩ := h.rounds
  obtain ⟨cells2, h5, h6⟩ := h.asked
  have hb1 := blk_grown h.blk h.accts (by decide) hg
  have hs := only_setCell (World.grownBy.refl w1 (some g)) (p := ⟨g, 1, none⟩) (.inl rfl) (.slice A' (s.accts.length + 1) c')
  have f : ∀ {e : TypeId}, e ≠ 92 → _ := fun he => far_of h.accts he
  have f2 : ∀ {e : TypeId}, e ≠ 28 → _ := fun he => far_blk hb1 he
  refine ⟨h.low, Nat.le_trans h.size (Nat.le_trans hg.size hs.size), ⟨h.wf.day, h.wf.next, h.wf.no, fun y hy => ?_, h.wf.dues, h.wf.rounds, h.wf.asked⟩, A', Ad, Ar, Aq, c', cd, cr, cq, ?_, ?_,
    own_kept (own_kept h.dues hg (f (by decide))) hs (f2 (by decide)), ⟨cells, fI, fE, fN, own_kept (own_kept h3 hg (f (by decide))) hs (f2 (by decide)), (h4.kept1 hg (f (by decide)) (f (by decide)) (f (by decide))).kept1 hs (f2 (by decide)) (f2 (by decide)) (f2 (by decide))⟩,
    cells2, own_kept (own_kept h5 hg (f (by decide))) hs (f2 (by decide)), (h6.map fun v bs hv => hv.kept' hg (f (by decide))).map fun v bs hv => hv.kept' hs (f2 (by decide))⟩
  · rcases List.mem_append.1 hy with hy | hy
    · exact h.wf.accts y hy
    · rw [List.mem_singleton] at hy
      subst hy
      exact hx
  · have hb2 := hb1.set_ 1 (.slice A' (s.accts.length + 1) c')
    have e : (s.accts ++ [x]).length = s.accts.length + 1 := by simp
    unfold stC at hb2 ⊢
    simp only [e]
    exact hb2
  · have e : (s.accts ++ [x]).length = s.accts.length + 1 := by simp
    simp only [e, List.flatMap_append, List.flatMap_cons, List.flatMap_nil, List.append_nil]
    exact own_kept ho hs (f2 (by decide))

/-- One due more. -/
theorem StInX.duePush (h : StInX w base g s Aa Ad Ar Aq ca cd cr cq) {A' : Option Addr} {c' : Nat} {x : Rws.Due} (hg : w.grownBy w1 (Value.slice Ad s.dues.length cd).ownBlock)
    (ho : w1.ownsRow base 54 7 (.slice A' (s.dues.length + 1) c') (s.dues.length + 1) (s.dues.flatMap dueC ++ dueC x)) (hx : DueWf x) :
    StIn (w1.setCell ⟨g, 2, none⟩ (.slice A' (s.dues.length + 1) c')) base g { s with dues := s.dues ++ [x] } := by
  obtain ⟨cells, fI, fE, fN, h3, h4⟩ := h.rounds
  obtain ⟨cells2, h5, h6⟩ := h.asked
  have hb1 := blk_grown h.blk h.dues (by decide) hg
  have hs := only_setCell (World.grownBy.refl w1 (some g)) (p := ⟨g, 2, none⟩) (.inl rfl) (.slice A' (s.dues.length + 1) c')
  have f : ∀ {e : TypeId}, e ≠ 54 → _ := fun he => far_of h.dues he
  have f2 : ∀ {e : TypeId}, e ≠ 28 → _ := fun he => far_blk hb1 he
  refine ⟨h.low, Nat.le_trans h.size (Nat.le_trans hg.size hs.size), ⟨h.wf.day, h.wf.next, h.wf.no, h.wf.accts, fun y hy => ?_, h.wf.rounds, h.wf.asked⟩, Aa, A', Ar, Aq, ca, c', cr, cq, ?_, own_kept (own_kept h.accts hg (f (by decide))) hs (f2 (by decide)), ?_,
    ⟨cells, fI, fE, fN, own_kept (own_kept h3 hg (f (by decide))) hs (f2 (by decide)), (h4.kept1 hg (f (by decide)) (f (by decide)) (f (by decide))).kept1 hs (f2 (by decide)) (f2 (by decide)) (f2 (by decide))⟩,
    cells2, own_kept (own_kept h5 hg (f (by decide))) hs (f2 (by decide)), (h6.map fun v bs hv => hv.kept' hg (f (by decide))).map fun v bs hv => hv.kept' hs (f2 (by decide))⟩
  · rcases List.mem_append.1 hy with hy | hy
    · exact h.wf.dues y hy
    · rw [List.mem_singleton] at hy
      subst hy
      exact hx
  · have hb2 := hb1.set_ 2 (.slice A' (s.dues.length + 1) c')
    have e : (s.dues ++ [x]).length = s.dues.length + 1 := by simp
    unfold stC at hb2 ⊢
    simp only [e]
    exact hb2
  · have e : (s.dues ++ [x]).length = s.dues.length + 1 := by simp
    simp only [e, List.flatMap_append, List.flatMap_cons, List.flatMap_nil, List.append_nil]
    exact own_kept ho hs (f2 (by decide))

/-- One that is remembered more. -/
theorem StInX.askedPush (h : StInX w base g s Aa Ad Ar Aq ca cd cr cq) {A' : Option Addr} {c' : Nat} {x : Rws.Asked} {cells : List Value} {v1 v2 : Value} (hown : w.ownsRow base 52 4 (.slice Aq s.asked.length cq) s.asked.length cells) (hin : AskedIn w base cells s.asked)
    (hg : w.grownBy w1 (Value.slice Aq s.asked.length cq).ownBlock) (ho : w1.ownsRow base 52 4 (.slice A' (s.asked.length + 1) c') (s.asked.length + 1) (cells ++ [.int .u32 x.client, .int .u64 x.seq, v1, v2]))
    (hx : U32 x.client ∧ U64 x.seq) (hv1 : OwnB w base v1 x.ask) (hv2 : OwnB w base v2 x.reply) :
    StIn (w1.setCell ⟨g, 6, none⟩ (.slice A' (s.asked.length + 1) c')) base g { s with asked := s.asked ++ [x] } := by
  obtain ⟨cells1, fI, fE, fN, h3, h4⟩ := h.rounds
  have hb1 := blk_grown h.blk hown (by decide) hg
  have hs := only_setCell (World.grownBy.refl w1 (some g)) (p := ⟨g, 6, none⟩) (.inl rfl) (.slice A' (s.asked.length + 1) c')
  have f : ∀ {e : TypeId}, e ≠ 52 → _ := fun he => far_of hown he
  have f2 : ∀ {e : TypeId}, e ≠ 28 → _ := fun he => far_blk hb1 he
  have e : (s.asked ++ [x]).length = s.asked.length + 1 := by simp
  have kb : ∀ v bs, OwnB w base v bs → OwnB (w1.setCell ⟨g, 6, none⟩ (.slice A' (s.asked.length + 1) c')) base v bs := fun v bs hv => (hv.kept' hg (f (by decide))).kept' hs (f2 (by decide))
  refine ⟨h.low, Nat.le_trans h.size (Nat.le_trans hg.size hs.size), ⟨h.wf.day, h.wf.next, h.wf.no, h.wf.accts, h.wf.dues, h.wf.rounds, fun y hy => ?_⟩, Aa, Ad, Ar, A', ca, cd, cr, c', ?_, own_kept (own_kept h.accts hg (f (by decide))) hs (f2 (by decide)), own_kept (own_kept h.dues hg (f (by decide))) hs (f2 (by decide)),
    ⟨cells1, fI, fE, fN, own_kept (own_kept h3 hg (f (by decide))) hs (f2 (by decide)), (h4.kept1 hg (f (by decide)) (f (by decide)) (f (by decide))).kept1 hs (f2 (by decide)) (f2 (by decide)) (f2 (by decide))⟩,
    cells ++ [.int .u32 x.client, .int .u64 x.seq, v1, v2], ?_, fun i y hy => ?_⟩
  · rcases List.mem_append.1 hy with hy | hy
    · exact h.wf.asked y hy
    · rw [List.mem_singleton] at hy
      subst hy
      exact hx
  · have hb2 := hb1.set_ 6 (.slice A' (s.asked.length + 1) c')
    unfold stC at hb2 ⊢
    simp only [e]
    exact hb2
  · simp only [e]
    exact own_kept ho hs (f2 (by decide))
  · have hcl := hown.1
    by_cases hi : i < s.asked.length
    · have hy' : s.asked[i]? = some y := by rw [← hy]; exact (List.getElem?_append_left hi).symm
      obtain ⟨u1, u2, b1, b2, hc⟩ := hin i y hy'
      refine ⟨u1, u2, kb _ _ b1, kb _ _ b2, fun j v hv => ?_⟩
      have h7 := hc j v hv
      rw [List.getElem?_append_left (List.getElem?_eq_some_iff.1 h7).1]
      exact h7
    · have hil : i < (s.asked ++ [x]).length := (List.getElem?_eq_some_iff.1 hy).1
      have hin2 : i = s.asked.length := by omega
      subst hin2
      have hyx : y = x := by simpa using hy.symm
      subst hyx
      refine ⟨v1, v2, kb _ _ hv1, kb _ _ hv2, fun j v hv => ?_⟩
      rw [List.getElem?_append_right (by omega), hcl, show s.asked.length * 4 + j - s.asked.length * 4 = j by omega]
      exact hv

theorem idsAt_snoc (rs : List Rws.Round) {x : Rws.Round} (hx : x.ids = []) (i : Nat) : idsAt (rs ++ [x]) i = idsAt rs i := by
  unfold idsAt
  by_cases hi : i < rs.length
  · rw [List.getElem?_append_left hi]
  · rw [List.getElem?_append_right (by omega), List.getElem?_eq_none (l := rs) (by omega)]
    by_cases h0 : i - rs.length = 0
    · rw [h0]; simp [hx]
    · rw [List.getElem?_eq_none (by simp; omega)]
theorem edgesAt_snoc (rs : List Rws.Round) {x : Rws.Round} (hx : x.edges = []) (i : Nat) : edgesAt (rs ++ [x]) i = edgesAt rs i := by
  unfold edgesAt
  by_cases hi : i < rs.length
  · rw [List.getElem?_append_left hi]
  · rw [List.getElem?_append_right (by omega), List.getElem?_eq_none (l := rs) (by omega)]
    by_cases h0 : i - rs.length = 0
    · rw [h0]; simp [hx]
    · rw [List.getElem?_eq_none (by simp; omega)]
theorem numsOf_snoc (rs : List Rws.Round) {x : Rws.Round} (hx : x.flow = []) (hy : x.pot = []) (i : Nat) : numsOf (rs ++ [x]) i = numsOf rs i := by
  unfold numsOf
  by_cases hi : i / 2 < rs.length
  · rw [List.getElem?_append_left hi]
  · rw [List.getElem?_append_right (by omega), List.getElem?_eq_none (l := rs) (by omega)]
    by_cases h0 : i / 2 - rs.length = 0
    · rw [h0]; simp [hx, hy]
    · rw [List.getElem?_eq_none (by simp; omega)]
/-- Rows of which some are the nil slice now: they were of no length. -/
theorem RowsF.nils {e : TypeId} {size : Nat} {V : Nat → Value} {N : Nat → Nat} {X : Nat → List Value} (h : RowsF w base e size V N X) (p : Nat → Bool) (hp : ∀ i, p i = true → N i = 0 ∧ X i = []) : RowsF w base e size (fun i => if p i then .slice none 0 0 else V i) N X := by
  refine ⟨fun i => ?_, fun i j hij => ?_⟩
  · cases hi : p i with
    | true =>
      obtain ⟨h1, h2⟩ := hp i hi
      simp only [if_true, h1, h2]
      exact World.ownsRow_nil _ _ _ _
    | false => simpa using h.own i
  · cases hi : p i with
    | true => exact .inl rfl
    | false =>
      cases hj : p j with
      | true =>
        rcases hv : (V i).ownBlock with _ | k
        · left
          rw [if_neg (by decide)]
          exact hv
        · right
          rw [if_neg (by decide), if_pos rfl, hv]
          exact fun he => by cases he
      | false => simpa using h.apart i j hij

/-- One round more, of no lists. -/
theorem StInX.roundPush (h : StInX w base g s Aa Ad Ar Aq ca cd cr cq) {A' : Option Addr} {c' : Nat} {x : Rws.Round} {cells : List Value} {fI fE fN : Nat → Value} (hown : w.ownsRow base 64 8 (.slice Ar s.rounds.length cr) s.rounds.length cells) (hin : RoundsIn w base cells s.rounds fI fE fN)
    (hg : w.grownBy w1 (Value.slice Ar s.rounds.length cr).ownBlock) (ho : w1.ownsRow base 64 8 (.slice A' (s.rounds.length + 1) c') (s.rounds.length + 1) (cells ++ roundV x (.slice none 0 0) (.slice none 0 0) (.slice none 0 0) (.slice none 0 0)))
    (hx : RoundWf x) (e1 : x.ids = []) (e2 : x.edges = []) (e3 : x.flow = []) (e4 : x.pot = []) :
    StIn (w1.setCell ⟨g, 4, none⟩ (.slice A' (s.rounds.length + 1) c')) base g { s with rounds := s.rounds ++ [x] } := by
  obtain ⟨cells2, h5, h6⟩ := h.asked
  have hb1 := blk_grown h.blk hown (by decide) hg
  have hs := only_setCell (World.grownBy.refl w1 (some g)) (p := ⟨g, 4, none⟩) (.inl rfl) (.slice A' (s.rounds.length + 1) c')
  have f : ∀ {e : TypeId}, e ≠ 64 → _ := fun he => far_of hown he
  have f2 : ∀ {e : TypeId}, e ≠ 28 → _ := fun he => far_blk hb1 he
  have e : (s.rounds ++ [x]).length = s.rounds.length + 1 := by simp
  have h4 := (hin.kept1 hg (f (by decide)) (f (by decide)) (f (by decide))).kept1 hs (f2 (by decide)) (f2 (by decide)) (f2 (by decide))
  refine ⟨h.low, Nat.le_trans h.size (Nat.le_trans hg.size hs.size), ⟨h.wf.day, h.wf.next, h.wf.no, h.wf.accts, h.wf.dues, fun y hy => ?_, h.wf.asked⟩, Aa, Ad, A', Aq, ca, cd, c', cq, ?_, own_kept (own_kept h.accts hg (f (by decide))) hs (f2 (by decide)), own_kept (own_kept h.dues hg (f (by decide))) hs (f2 (by decide)),
    ⟨cells ++ roundV x (.slice none 0 0) (.slice none 0 0) (.slice none 0 0) (.slice none 0 0), fun i => if decide (i = s.rounds.length) then .slice none 0 0 else fI i, fun i => if decide (i = s.rounds.length) then .slice none 0 0 else fE i, fun i => if decide (i / 2 = s.rounds.length) then .slice none 0 0 else fN i, ?_, ?_, ?_, ?_, ?_⟩,
    cells2, own_kept (own_kept h5 hg (f (by decide))) hs (f2 (by decide)), (h6.map fun v bs hv => hv.kept' hg (f (by decide))).map fun v bs hv => hv.kept' hs (f2 (by decide))⟩
  · rcases List.mem_append.1 hy with hy | hy
    · exact h.wf.rounds y hy
    · rw [List.mem_singleton] at hy
      subst hy
      exact hx
  · have hb2 := hb1.set_ 4 (.slice A' (s.rounds.length + 1) c')
    unfold stC at hb2 ⊢
    simp only [e]
    exact hb2
  · simp only [e]
    exact own_kept ho hs (f2 (by decide))
  · refine (h4.ids.nils (fun i => decide (i = s.rounds.length)) fun i hi => ?_).eq (fun _ => rfl) (fun i => by rw [idsAt_snoc _ e1]) (fun i => by rw [idsAt_snoc _ e1])
    have : i = s.rounds.length := of_decide_eq_true hi
    subst this
    simp [idsAt]
  · refine (h4.edges.nils (fun i => decide (i = s.rounds.length)) fun i hi => ?_).eq (fun _ => rfl) (fun i => by rw [edgesAt_snoc _ e2]) (fun i => by rw [edgesAt_snoc _ e2])
    have : i = s.rounds.length := of_decide_eq_true hi
    subst this
    simp [edgesAt]
  · refine (h4.nums.nils (fun i => decide (i / 2 = s.rounds.length)) fun i hi => ?_).eq (fun _ => rfl) (fun i => by rw [numsOf_snoc _ e3 e4]) (fun i => by rw [numsOf_snoc _ e3 e4])
    have : i / 2 = s.rounds.length := of_decide_eq_true hi
    simp [numsOf, this]
  · have hcl := hown.1
    intro i y hy j v hv
    by_cases hi : i < s.rounds.length
    · have hy' : s.rounds[i]? = some y := by rw [← hy]; exact (List.getElem?_append_left hi).symm
      have n1 : decide (i = s.rounds.length) = false := by simp; omega
      have n2 : decide (2 * i / 2 = s.rounds.length) = false := by simp; omega
      have n3 : decide ((2 * i + 1) / 2 = s.rounds.length) = false := by simp; omega
      simp only [n1, n2, n3] at hv
      have h7 := hin.cells i y hy' j v (by simpa using hv)
      rw [List.getElem?_append_left (List.getElem?_eq_some_iff.1 h7).1]
      exact h7
    · have hil : i < (s.rounds ++ [x]).length := (List.getElem?_eq_some_iff.1 hy).1
      have hin2 : i = s.rounds.length := by omega
      subst hin2
      have hyx : y = x := by simpa using hy.symm
      subst hyx
      have n1 : decide (s.rounds.length = s.rounds.length) = true := by simp
      have n2 : decide (2 * s.rounds.length / 2 = s.rounds.length) = true := by simp
      have n3 : decide ((2 * s.rounds.length + 1) / 2 = s.rounds.length) = true := by simp; omega
      simp only [n2, n3, if_true] at hv
      rw [List.getElem?_append_right (by omega), hcl, show s.rounds.length * 8 + j - s.rounds.length * 8 = j by omega]
      exact hv
end

end Go.Proofs.Ytniekddoaokmkaa

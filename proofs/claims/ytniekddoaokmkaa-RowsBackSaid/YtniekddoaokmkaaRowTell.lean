/-
  Layer 23 (rows): rows that are told, walked.
-/
import Derived.Test.YtniekddoaokmkaaRowSmall
namespace Go.Proofs.Ytniekddoaokmkaa
open Go.RowKit Go.Gab
set_option linter.unusedVariables false
attribute [local go_sem ↓] Go.wp_at_zero Go.wp_at_succ

theorem own_own_ne {w : World} {b1 b2 : Nat} {e1 e2 : TypeId} {s1 s2 n1 n2 : Nat} {v1 v2 : Value} {x1 x2 : List Value} (h1 : w.ownsRow b1 e1 s1 v1 n1 x1) (h2 : w.ownsRow b2 e2 s2 v2 n2 x2) (hne : e1 ≠ e2) :
    v1.ownBlock = none ∨ v1.ownBlock ≠ v2.ownBlock := by
  rcases h1.2 with ⟨rfl, _⟩ | ⟨g1, cap1, cur1, rfl, _, hh1, _⟩
  · exact .inl rfl
  · rcases h2.2 with ⟨rfl, _⟩ | ⟨g2, cap2, cur2, rfl, _, hh2, _⟩
    · right; simp [Value.ownBlock]
    · right
      intro he
      have : g1 = g2 := by simpa [Value.ownBlock] using he
      subst this
      rw [hh1] at hh2
      injection hh2 with hh2
      injection hh2 with _ ht
      exact hne ht

/-- A byte string in a row of the call's own. -/
def OwnB (w : World) (base : Nat) (v : Value) (bs : List UInt8) : Prop := ∃ A c, v = .slice A bs.length c ∧ w.ownsRow base 5 1 (.slice A bs.length c) bs.length (bs.map byteV) ∧ bs.length ≤ 140737488355328
section
variable {w w' : World} {base base' : Nat} {v : Value} {bs : List UInt8}
theorem OwnB.below (h : OwnB w base v bs) (hb : Below w.heap.size w w') : OwnB w' base v bs := by
  obtain ⟨A, c, h1, h2, h3⟩ := h
  exact ⟨A, c, h1, own_below h2 hb, h3⟩
theorem OwnB.low (h : OwnB w base v bs) (hb : base' ≤ base) : OwnB w base' v bs := by
  obtain ⟨A, c, h1, h2, h3⟩ := h
  exact ⟨A, c, h1, own_low h2 hb, h3⟩
theorem OwnB.kept {row : Option Nat} (h : OwnB w base v bs) (hg : w.grownBy w' row) (hne : v.ownBlock = none ∨ v.ownBlock ≠ row) : OwnB w' base v bs := by
  obtain ⟨A, c, rfl, h2, h3⟩ := h
  exact ⟨A, c, rfl, h2.kept hg hne, h3⟩
theorem OwnB.alloc (h : OwnB w base v bs) (o : Obj) : OwnB (w.alloc o) base v bs := by
  obtain ⟨A, c, rfl, h2, h3⟩ := h
  exact ⟨A, c, rfl, h2.alloc o, h3⟩
theorem OwnB.drew (h : OwnB w base v bs) : OwnB w.drew base v bs := by
  obtain ⟨A, c, rfl, h2, h3⟩ := h
  exact ⟨A, c, rfl, h2.drew, h3⟩
theorem OwnB.ne {base2 : Nat} {e : TypeId} {s n : Nat} {v2 : Value} {xs : List Value} (h : OwnB w base v bs) (h2 : w.ownsRow base2 e s v2 n xs) (hne : 5 ≠ e) : v.ownBlock = none ∨ v.ownBlock ≠ v2.ownBlock := by
  obtain ⟨A, c, rfl, h1, _⟩ := h
  exact own_own_ne h1 h2 hne
theorem OwnB.neBlk {g : Nat} {t : TypeId} {cs : Array Value} (h : OwnB w base v bs) (h2 : Blk w g t cs) (hne : 5 ≠ t) : v.ownBlock = none ∨ v.ownBlock ≠ some g := by
  obtain ⟨A, c, rfl, h1, _⟩ := h
  exact .inr (own_blk_ne h1 h2 hne)
theorem OwnB.bytesAt (h : OwnB w base v bs) : ∃ A c, v = .slice A bs.length c ∧ BytesAt w w.heap.size A bs.length c bs := by
  obtain ⟨A, c, h1, h2, h3⟩ := h
  exact ⟨A, c, h1, Sl.of_own h2, h3⟩
theorem OwnB.one (h : OwnB w base v bs) : v.oneCell' = true := by
  obtain ⟨A, c, rfl, _⟩ := h
  rfl
theorem OwnB.of {A : Option Addr} {c : Nat} (h : w.ownsRow base 5 1 (.slice A bs.length c) bs.length (bs.map byteV)) (hl : bs.length ≤ 140737488355328) : OwnB w base (.slice A bs.length c) bs := ⟨A, c, rfl, h, hl⟩
end

/-- Pairs in a row of the call's own. -/
def OwnPairs (w : World) (base : Nat) (v : Value) (ps : List Rws.Pair) : Prop :=
  ∃ cells : List Value, w.ownsRow base 42 2 v ps.length cells ∧ ∀ (i : Nat) (p : Rws.Pair), ps[i]? = some p → ∃ v1 v2, cells[i * 2]? = some v1 ∧ cells[i * 2 + 1]? = some v2 ∧ OwnB w base v1 p.1 ∧ OwnB w base v2 p.2
section
variable {w w' : World} {base base' : Nat} {v : Value} {ps : List Rws.Pair}
theorem OwnPairs.nil_ (w : World) (base : Nat) : OwnPairs w base (.slice none 0 0) [] := ⟨[], World.ownsRow_nil _ _ _ _, fun i p h => by simp at h⟩
theorem OwnPairs.below (h : OwnPairs w base v ps) (hb : Below w.heap.size w w') : OwnPairs w' base v ps := by
  obtain ⟨cells, h1, h2⟩ := h
  refine ⟨cells, own_below h1 hb, fun i p hp => ?_⟩
  obtain ⟨v1, v2, e1, e2, b1, b2⟩ := h2 i p hp
  exact ⟨v1, v2, e1, e2, b1.below hb, b2.below hb⟩
theorem OwnPairs.low (h : OwnPairs w base v ps) (hb : base' ≤ base) : OwnPairs w base' v ps := by
  obtain ⟨cells, h1, h2⟩ := h
  refine ⟨cells, own_low h1 hb, fun i p hp => ?_⟩
  obtain ⟨v1, v2, e1, e2, b1, b2⟩ := h2 i p hp
  exact ⟨v1, v2, e1, e2, b1.low hb, b2.low hb⟩
/-- A store into a block of another type. -/
theorem OwnPairs.keptBlk {g : Nat} {t : TypeId} {cs : Array Value} (h : OwnPairs w base v ps) (hg : w.grownBy w' (some g)) (hb : Blk w g t cs) (h1 : 42 ≠ t) (h2 : 5 ≠ t) : OwnPairs w' base v ps := by
  obtain ⟨cells, o, hc⟩ := h
  refine ⟨cells, o.kept hg (.inr (own_blk_ne o hb h1)), fun i p hp => ?_⟩
  obtain ⟨v1, v2, e1, e2, b1, b2⟩ := hc i p hp
  exact ⟨v1, v2, e1, e2, b1.kept hg (b1.neBlk hb h2), b2.kept hg (b2.neBlk hb h2)⟩
theorem OwnPairs.alloc (h : OwnPairs w base v ps) (o : Obj) : OwnPairs (w.alloc o) base v ps := h.below ((Below.refl _ _).alloc (Nat.le_refl _) o)
theorem OwnPairs.slice_ (h : OwnPairs w base v ps) : ∃ A c, v = .slice A ps.length c := by
  obtain ⟨cells, o, _⟩ := h
  exact own_slice o
/-- As it is read. -/
theorem OwnPairs.slr {A : Option Addr} {c : Nat} (h : OwnPairs w base (.slice A ps.length c) ps) : SlR pairR w w.heap.size A ps.length c ps := by
  obtain ⟨cells, o, hc⟩ := h
  have s := Sl.of_own o
  refine ⟨rfl, s.nc, s.cm, fun i hi => ?_⟩
  obtain ⟨b, off, hA, hb, hcell⟩ := s.rd.place (by omega) (by omega : 0 < ps.length)
  obtain ⟨v1, v2, e1, e2, b1, b2⟩ := hc i ps[i] (List.getElem?_eq_getElem hi)
  obtain ⟨A1, c1, rfl, B1⟩ := b1.bytesAt
  obtain ⟨A2, c2, rfl, B2⟩ := b2.bytesAt
  refine ⟨b, off, ps[i], _, hA, hb, List.getElem?_eq_getElem hi, pair_mk B1 B2, rfl, fun j v hv => ?_⟩
  match j, hv with
  | 0, hv =>
    injection hv with hv
    subst hv
    exact hcell _ _ e1
  | 1, hv =>
    injection hv with hv
    subst hv
    exact hcell _ _ e2
end

theorem only_trans_alloc {a c : World} {row : Option Nat} {o : Obj} (k : (a.alloc o).grownBy c row) : a.grownBy c row :=
  (World.grownBy_alloc a o row).trans k
theorem infoPair : (Try.prog.info? 42).map (fun i => (i.zero, i.size, i.bytes)) = some (some (.agg #[.slice none 0 0, .slice none 0 0]), 2, 48) := by kernel_rfl

/-- What is told: pairs that lie in a variable. -/
structure Told (w : World) (base g : Nat) (ps : List Rws.Pair) : Prop where
  low : base ≤ g
  size : base ≤ w.heap.size
  few : ps.length ≤ 2000000
  rows : ∃ v, Blk w g 32 #[v] ∧ OwnPairs w base v ps
/-- One more. -/
def TellTo (base g : Nat) (ps : List Rws.Pair) (w : World) (e : Ending) (w' : World) : Prop :=
  e = .returned (.tuple #[]) ∧ Told w' base g ps ∧ ∃ w1 q, w.grownBy w1 q ∧ (∀ k, q = some k → base ≤ k ∧ ∃ cs, Blk w k 42 cs) ∧ w1.grownBy w' (some g)

theorem Told.lt {w : World} {base g : Nat} {ps : List Rws.Pair} (h : Told w base g ps) : g < w.heap.size := by
  obtain ⟨v, hb, _⟩ := h.rows
  exact hb.lt

set_option maxHeartbeats 1000000 in
set_option maxRecDepth 10000 in
theorem tell_any (base g : Nat) (ps : List Rws.Pair) (v1 v2 : Value) (p : Rws.Pair) (w : World) (ht : Told w base g ps) (h1 : OwnB w base v1 p.1) (h2 : OwnB w base v2 p.2) (hl : ps.length < 2000000) :
    Calls Try.prog 22 #[v1, v2, .pointer (some ⟨g, 0, none⟩)] w (TellTo base g (ps ++ [p]) w) := by
  obtain ⟨v, hb, ho⟩ := ht.rows
  obtain ⟨A, c, hv⟩ := ho.slice_
  subst hv
  have H1 := Lib.hid h1
  have H2 := Lib.hid h2
  obtain ⟨A1, c1, hv1, _⟩ := h1
  obtain ⟨A2, c2, hv2, _⟩ := h2
  obtain ⟨l1, hl1⟩ : ∃ n, p.1.length = n := ⟨_, rfl⟩
  obtain ⟨l2, hl2⟩ : ∃ n, p.2.length = n := ⟨_, rfl⟩
  rw [hl1] at hv1
  rw [hl2] at hv2
  subst hv1 hv2
  have hg := ht.low
  have hsz := ht.size
  have HG := Lib.hid hg
  have HSZ := Lib.hid hsz
  have HB := Lib.hid hb
  have hlt : g < w.heap.size := hb.lt
  have k0 := hb.cell 0
  have f0 := hb.frozen 0
  simp only [List.getElem?_toArray, List.getElem?_cons_zero] at k0
  obtain ⟨i0, hi0, hz0, hz1, hz2⟩ := info_parts infoPair
  have HOP := Lib.hid ho
  obtain ⟨cells, hown, hcells⟩ := ho
  have HCE := Lib.hid hcells
  obtain ⟨n, hn⟩ : ∃ n, ps.length = n := ⟨_, rfl⟩
  rw [hn] at k0 hown hl
  have HN := Lib.hid hn
  have HOW := Lib.hid hown
  have HCL := Lib.hid (show cells.length = n * 2 from hown.1)
  have HLT := Lib.hid hl
  clear hl ht hb hg hsz hcells hown hn hl1 hl2
  go_enter Try.func22, Try.ntmps22
  go_wp2_with (at_builtin
               refine wpList_append_any _ rfl _ _ _ rfl base 42 i0 _ 2 48 Try.underlying32 hi0 hz0 hz1 hz2 rfl (by omega) (.slice A n c) n cells rfl (HOW.out.alloc _) (w.heap.size + 1) (some ⟨w.heap.size, 0, none⟩) 1 1 [.slice A1 l1 c1, .slice A2 l2 c2] rfl (by exact (Sl.lit (size := 2) (k := 1) (cap := 1) _ _ _ _ _ _ rfl rfl rfl (by omega) (by omega)).rd) (by simp [Value.oneCell']) (by have := HLT.out; simp only [maxLen]; omega) (by have := HLT.out; omega) (by have := HSZ.out; simp; omega) ?_
               intro v' w1 hown1 hgr hblk
               obtain ⟨A3, c3, rfl⟩ := own_slice hown1
               have HB1 := Lib.hid ((HB.out.alloc (.cells #[.slice A1 l1 c1, .slice A2 l2 c2] 42)).grown hgr (fun he => own_blk_ne HOW.out HB.out (by decide) he.symm))
               have HO1 := Lib.hid hown1
               have HGR := Lib.hid hgr
               have k1 := HB1.out.cell 0
               have f1 := HB1.out.frozen 0
               have hlt1 : g < w1.heap.size := HB1.out.lt
               simp only [List.getElem?_toArray, List.getElem?_cons_zero] at k1
               clear hown1 hgr hblk)
  have hbf := HB1.out.set_ 0 (.slice A3 (n + 1) c3)
  have hgf := only_setCell (World.grownBy.refl w1 (some g)) (p := ⟨g, 0, none⟩) (.inl rfl) (.slice A3 (n + 1) c3)
  have hkeep : ∀ (v : Value) (bs : List UInt8), OwnB w base v bs → OwnB (w1.setCell ⟨g, 0, none⟩ (.slice A3 (n + 1) c3)) base v bs := fun v bs hv => by
    have h3 := (hv.alloc (.cells #[.slice A1 l1 c1, .slice A2 l2 c2] 42)).kept HGR.out (hv.ne HOW.out (by decide))
    exact h3.kept hgf (h3.neBlk HB1.out (by decide))
  refine bodyPost_end (v := .tuple #[]) (by simp [results, Try.results22, go_sem]) rfl ⟨rfl, ⟨HG.out, ?_, ?_, .slice A3 (n + 1) c3, ?_, ?_⟩, w1, (Value.slice A n c).ownBlock, ?_, ?_, hgf⟩
  · have h1 := HGR.out.size
    have h2 := HSZ.out
    simp at h1 ⊢
    omega
  · have h1 := HN.out
    have h2 := HLT.out
    rw [List.length_append, List.length_singleton]
    omega
  · exact hbf
  · refine ⟨cells ++ [.slice A1 l1 c1, .slice A2 l2 c2], ?_, fun i q hq => ?_⟩
    · rw [List.length_append, List.length_singleton, HN.out]
      exact HO1.out.kept hgf (.inr (own_blk_ne HO1.out HB1.out (by decide)))
    · have hcl := HCL.out
      by_cases hi : i < n
      · rw [List.getElem?_append_left (by rw [HN.out]; exact hi)] at hq
        obtain ⟨u1, u2, e1, e2, b1, b2⟩ := HCE.out i q hq
        exact ⟨u1, u2, by rw [List.getElem?_append_left (by omega)]; exact e1, by rw [List.getElem?_append_left (by omega)]; exact e2, hkeep _ _ b1, hkeep _ _ b2⟩
      · rw [List.getElem?_append_right (by rw [HN.out]; omega)] at hq
        have hi0 : i - ps.length = 0 := by
          have := (List.getElem?_eq_some_iff.1 hq).1
          simp at this
          omega
        rw [hi0] at hq
        simp at hq
        subst hq
        have hin : i = n := by have := HN.out; omega
        subst hin
        refine ⟨.slice A1 l1 c1, .slice A2 l2 c2, ?_, ?_, hkeep _ _ H1.out, hkeep _ _ H2.out⟩
        · rw [List.getElem?_append_right (by omega), hcl, Nat.sub_self]; rfl
        · rw [List.getElem?_append_right (by omega), hcl, show i * 2 + 1 - i * 2 = 1 by omega]; rfl
  · exact only_trans_alloc HGR.out
  · intro k hk
    rcases HOW.out.2 with ⟨h3, _⟩ | ⟨g2, cap2, cur2, h3, h4, h5, _⟩
    · rw [h3] at hk
      cases hk
    · rw [h3] at hk
      have : g2 = k := by simpa [Value.ownBlock] using hk
      subst this
      exact ⟨h4, cur2, h5⟩

end Go.Proofs.Ytniekddoaokmkaa

/-
  A struct in a block of its own, read and written whole: laws for the walk, also where a region draws its order; and results of which one lies in such a block.
-/
import Derived.Test.YtniekddoaokmkaaBase
import Derived.StillTailTactics
import Derived.Deep.MidRow
import Derived.Laws.Rows
namespace Go.Gab
open Go.RowKit

section
variable {w w' : World} {g : Nat} {t : TypeId} {cs : Array Value}

theorem Blk.setCells_ : ∀ (vs : List Value) (o : Nat) (w : World) (cs : Array Value), Blk w g t cs → ∃ cs', Blk (w.setCells g o vs) g t cs' ∧ cs'.size = cs.size
  | [], _, _, cs, h => ⟨cs, h, rfl⟩
  | v :: vs, o, w, cs, h => by
    obtain ⟨cs', h1, h2⟩ := Blk.setCells_ vs (o + 1) (w.setCell ⟨g, o, none⟩ v) _ (h.set_ o v)
    exact ⟨cs', h1, by rw [h2]; simp⟩

theorem Blk.there (h : Blk w g t cs) : w.there g 0 cs.size := fun j hj => by
  rw [h.cell, h.frozen]
  simp [hj]

theorem Blk.setAll (h : Blk w g t cs) (vs : Array Value) (hv : vs.size = cs.size) : Blk (w.setCells g 0 vs.toList) g t vs := by
  obtain ⟨cs', h1, h2⟩ := Blk.setCells_ vs.toList 0 w cs h
  have hr := World.rangeAt_setCells_same w g 0 vs.toList (by rw [Array.length_toList, hv]; exact h.there)
  have : cs' = vs := by
    apply Array.ext
    · omega
    · intro i hi1 hi2
      have := hr i vs[i] (by rw [Array.getElem?_toList]; exact Array.getElem?_eq_getElem hi2)
      rw [h1.cell, Nat.zero_add, Array.getElem?_eq_getElem hi1] at this
      exact Option.some.inj this
  rw [this] at h1
  exact h1

theorem only_setCells {a : World} (g : Nat) : ∀ (vs : List Value) (o : Nat) (w : World), a.grownBy w (some g) → a.grownBy (w.setCells g o vs) (some g)
  | [], _, _, h => h
  | v :: vs, o, w, h => only_setCells g vs (o + 1) (w.setCell ⟨g, o, none⟩ v) (only_setCell h (.inl rfl) v)

theorem Blk.rangeAll (h : Blk w g t cs) : w.rangeAt g 0 cs.toList := fun j v hj => by
  rw [h.cell, Nat.zero_add, ← hj, Array.getElem?_toList]

theorem wpStill_load_blk {P : Program} {ops : Array Oper} {Q : Act → Prop} {a : Act} {o : Oper} {rest : List Oper} (hgd : o.guard = none) (ty : TypeId) (x : Operand) (ho : o.op = .load ty x)
    (hx : a.eval x = .pointer (some ⟨g, 0, none⟩)) (hB : Blk w g t cs) (d : TypeDesc) (hu : P.underlying ty = some d) (hd : d.isRow = true) (hi : (P.info? ty).map (·.size) = some cs.size)
    (h : wpStill P ops w Q rest (a.put o.dst (.agg cs))) : wpStill P ops w Q (o :: rest) a := by
  have hrun := run_loadAt_mid (P := P) w g 0 ty cs.toList d hB.rangeAll hu hd (by rw [hi, Array.length_toList])
  rw [Array.toArray_toList] at hrun
  refine wpStill_step fun K hK => ?_
  rw [if_pos (by simp [Region.wanted, hgd])]
  unfold Oper.still execOp
  simp only [ho, hx, Sem.run_bind, hrun, Result.andThen_ok, Sem.run_pure, Oper.stillUpon]
  exact ⟨trivial, hK _ h⟩

theorem wpList_store_blk {P : Program} {ops : Array Oper} {rest : List Oper} {op : Oper} {a : Act} {Q : Exit → Act → World → Prop} (hgd : op.guard = none) (ty : TypeId) (x y : Operand) (ho : op.op = .store ty x y)
    (cells : Array Value) (hx : a.eval x = .pointer (some ⟨g, 0, none⟩)) (hy : a.eval y = .agg cells) (hB : Blk w g t cs) (hsz : cells.size = cs.size)
    (hi : (P.info? ty).map (·.size) = some cells.size) (h1 : cells.all (·.oneCell') = true)
    (h : ∀ w', Blk w' g t cells → w.grownBy w' (some g) → wpList P ops Q rest (a.put op.dst undef) w') : wpList P ops Q (op :: rest) a w :=
  wpList_store_mid hgd ty x y ho g 0 cells hx hy (by rw [hsz]; exact hB.there) hi h1 (h _ (hB.setAll cells hsz) (only_setCells g _ _ _ (World.grownBy.refl w _)))

theorem results_ttct {P : Program} {fn : Func} {p q r s : Tmp} {ty : TypeId} (h : fn.results = #[.tmp p, .tmp q, .cell r ty, .tmp s]) (tmps : Array Value)
    (hp : tmps.getD r undef = .pointer (some ⟨g, 0, none⟩)) (hB : Blk w g t cs) (d : TypeDesc) (hu : P.underlying ty = some d) (hd : d.isRow = true) (hi : (P.info? ty).map (·.size) = some cs.size) :
    (results fn tmps).run P w = .ok (.tuple #[tmps.getD p undef, tmps.getD q undef, .agg cs, tmps.getD s undef]) w := by
  have hp' : tmps[r]?.getD undef = .pointer (some ⟨g, 0, none⟩) := by simpa using hp
  have hrun := run_loadVar_row (P := P) w g t ty cs (0, 0) d hB hu (by cases d <;> simp_all [TypeDesc.isRow]) hi
  simp [results, h, hp', asAddr, hrun]
end
end Go.Gab

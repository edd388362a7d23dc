/-
  Rows of bools and of integers that a call made and writes.
-/
import Derived.Test.YtlkbdmbfbmekaaaRep
namespace Go.Gab
open Go.RowKit Go.WideShapes Go.ChangeShapes
set_option linter.unusedVariables false

def boolsA (bs : List Bool) : Array Value := (bs.map Value.bool).toArray
theorem boolsA_get (bs : List Bool) (i : Nat) : (boolsA bs)[i]? = bs[i]?.map Value.bool := by simp [boolsA]
theorem boolsA_set (bs : List Bool) (i : Nat) (v : Bool) : (boolsA bs).setIfInBounds i (.bool v) = boolsA (bs.set i v) := by simp [boolsA, List.map_set]

theorem run_make_bools {P : Program} {t e : TypeId} {i : TypeInfo} (ht : P.underlying t = some (.slice e)) (hi : P.info? e = some i) (hz : i.zero = some (.bool false)) (hs : i.size = 1) (hb : i.bytes = 1)
    (n : Nat) (hn : n ≤ 281474976710656) (w : World) :
    (Instr.makeSlice t (.int .i64 (n : Int)) (.int .i64 (n : Int))).run P w = .ok (.slice (some ⟨w.heap.size, 0, none⟩) n n) (w.alloc (.cells (boolsA (List.replicate n false)) e)) := by
  rw [run_make_rowN t e i _ ht hi hz .i64 .i64 n n (Nat.le_refl _) (by rw [hb]; omega) (by omega) w]
  have : madeCells (Value.bool false).cells (n * i.size) = boolsA (List.replicate n false) := by
    rw [hs, Nat.mul_one]
    unfold boolsA
    apply Array.ext
    · simp [madeCells, Value.cells]
    · intro j h1 h2
      simp [madeCells, Value.cells, Nat.mod_one]
  rw [this]

section
variable {w : World} {g : Nat} {t : TypeId} {bs : List Bool}
theorem Blk.boolAt (h : Blk w g t (boolsA bs)) {i : Nat} {v : Bool} (hv : bs[i]? = some v) : w.cell? ⟨g, i, none⟩ = some (.bool v) := by
  rw [h.cell, boolsA_get, hv]; rfl
theorem Blk.setBool (h : Blk w g t (boolsA bs)) (i : Nat) (v : Bool) : Blk (w.setCell ⟨g, i, none⟩ (.bool v)) g t (boolsA (bs.set i v)) := by
  have := h.set_ i (.bool v)
  rw [boolsA_set] at this
  exact this
end

end Go.Gab

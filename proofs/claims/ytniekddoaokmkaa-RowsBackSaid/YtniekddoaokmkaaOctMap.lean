/-
  octet.right: a map of four numbers that the call makes, and one look-up in it: a size may be 1, 2, 4 or 8.
-/
import Derived.Test.YtniekddoaokmkaaProg
import Derived.Test.YtniekddoaokmkaaBase
import Derived.MapKept
namespace Go.Proofs.Ytniekddoaokmkaa
open Go.RowKit Go.Gab
set_option linter.unusedVariables false

theorem run_insert_new {P : Program} {t k e : TypeId} (ht : P.underlying t = some (.map k e)) (hk : P.underlying k = some (.int .i64)) (w : World) (es : Array MapEntry) (clock h : Nat) (key : Int) (v : Value) (hh : h = w.heap.size)
    (hnew : Instr.findNow (.int .i64) (.int .i64 key) es.toList 0 = some none) :
    (Instr.mapUpdate t (.map (some h)) (.int .i64 key) v).run P (w.alloc (.map es clock)) = .ok () (w.alloc (.map (es.push { key := .int .i64 key, val := v, born := clock }) (clock + 1))) := by
  subst hh
  have hget : (w.alloc (.map es clock)).heap[w.heap.size]? = some (.map es clock) := heap_alloc_new w _
  have hset : ∀ (o o' : Obj), ({ w.alloc o with heap := (w.alloc o).heap.setIfInBounds w.heap.size o' } : World) = w.alloc o' := by
    intro o o'
    have : (w.heap.push o).setIfInBounds w.heap.size o' = w.heap.push o' := by
      apply Array.ext
      · simp
      · intro i h1 h2
        by_cases hi : w.heap.size = i
        · subst hi; simp
        · have h3 : i < w.heap.size := by simp at h2; omega
          rw [Array.getElem_setIfInBounds_ne (by simp; omega) hi]
          simp [Array.getElem_push, h3]
    show ({ w with heap := (w.heap.push o).setIfInBounds w.heap.size o' } : World) = { w with heap := w.heap.push o' }
    rw [this]
  have hck : (Instr.checkKey false 10000 k (.int .i64 key)).run P (w.alloc (.map es clock)) = .ok () (w.alloc (.map es clock)) := MapKept.run_checkKey hk (show MapKept.IsKey (.int .i64) (.int .i64 key) from rfl) false 9999
  simp only [Instr.mapUpdate, Sem.run_bind, run_underlying ht, Result.andThen_ok, MapKept.run_getObj_map hget, hck, MapKept.run_findKey hk hnew, MapKept.run_setObj_map _ hget, hset]

theorem run_lookup_new {P : Program} {t k e : TypeId} (ht : P.underlying t = some (.map k e)) (hk : P.underlying k = some (.int .i64)) (w : World) (es : Array MapEntry) (clock h : Nat) (key : Int) (z v : Value) (hh : h = w.heap.size)
    (hz : ∀ w : World, (zeroValue e).run P w = .ok z w) (hv : Instr.findNow (.int .i64) (.int .i64 key) es.toList 0 = some none ∧ v = z ∨ ∃ i, Instr.findNow (.int .i64) (.int .i64 key) es.toList 0 = some (some (i, v))) :
    (Instr.lookup t (.map (some h)) (.int .i64 key) false).run P (w.alloc (.map es clock)) = .ok v (w.alloc (.map es clock)) := by
  subst hh
  have hget : (w.alloc (.map es clock)).heap[w.heap.size]? = some (.map es clock) := heap_alloc_new w _
  have hck : (Instr.checkKey es.isEmpty 10000 k (.int .i64 key)).run P (w.alloc (.map es clock)) = .ok () (w.alloc (.map es clock)) := MapKept.run_checkKey hk (show MapKept.IsKey (.int .i64) (.int .i64 key) from rfl) _ 9999
  rcases hv with ⟨hv, rfl⟩ | ⟨i, hv⟩ <;>
    simp only [Instr.lookup, Sem.run_bind, Sem.run_pure, run_underlying ht, Result.andThen_ok, MapKept.run_getObj_map hget, hck, MapKept.run_findKey hk hv, hz] <;> rfl

/-- Which sizes may be. -/
def isSize (k : Int) : Bool := k == 1 || k == 2 || k == 4 || k == 8

/-- The map that octet.right makes. -/
def sizes : Array MapEntry := #[{ key := .int .i64 1, val := .int .i64 8, born := 0 }, { key := .int .i64 2, val := .int .i64 16, born := 1 }, { key := .int .i64 4, val := .int .i64 32, born := 2 }, { key := .int .i64 8, val := .int .i64 64, born := 3 }]

theorem sizes_look (k : Int) : ∃ v : Int, (Instr.findNow (.int .i64) (.int .i64 k) sizes.toList 0 = some none ∧ Value.int .i64 v = .int .i64 0 ∨ ∃ i, Instr.findNow (.int .i64) (.int .i64 k) sizes.toList 0 = some (some (i, .int .i64 v))) ∧ (decide ((0 : Int) < v)) = isSize k := by
  by_cases h1 : k = 1
  · subst h1; exact ⟨8, .inr ⟨0, rfl⟩, rfl⟩
  by_cases h2 : k = 2
  · subst h2; exact ⟨16, .inr ⟨1, rfl⟩, rfl⟩
  by_cases h4 : k = 4
  · subst h4; exact ⟨32, .inr ⟨2, rfl⟩, rfl⟩
  by_cases h8 : k = 8
  · subst h8; exact ⟨64, .inr ⟨3, rfl⟩, rfl⟩
  refine ⟨0, .inl ⟨?_, rfl⟩, ?_⟩
  · have e1 : (k == 1) = false := by simpa using h1
    have e2 : (k == 2) = false := by simpa using h2
    have e4 : (k == 4) = false := by simpa using h4
    have e8 : (k == 8) = false := by simpa using h8
    simp [sizes, Instr.findNow, Instr.sameNow, e1, e2, e4, e8]
  · simp [isSize, h1, h2, h4, h8]

set_option maxHeartbeats 400000 in
theorem right_any (k : Int) (w : World) :
    Calls Try.prog 69 #[.int .i64 k] w fun e w' => e = .returned (.bool (isSize k)) ∧ Below w.heap.size w w' := by
  obtain ⟨v, hv, hd⟩ := sizes_look k
  have hmm := @run_makeMap Try.prog
  have hz : ∀ w : World, (zeroValue 3).run Try.prog w = .ok (.int .i64 0) w := fun w => by kernel_rfl
  have i1 := fun (w : World) (h : Nat) (hh : h = w.heap.size) => run_insert_new (v := .int .i64 8) Try.underlying122 Try.underlying3 w #[] 0 h 1 hh (by kernel_rfl)
  have i2 := fun (w : World) (h : Nat) (hh : h = w.heap.size) => run_insert_new (v := .int .i64 16) Try.underlying122 Try.underlying3 w #[{ key := .int .i64 1, val := .int .i64 8, born := 0 }] 1 h 2 hh (by kernel_rfl)
  have i4 := fun (w : World) (h : Nat) (hh : h = w.heap.size) => run_insert_new (v := .int .i64 32) Try.underlying122 Try.underlying3 w #[{ key := .int .i64 1, val := .int .i64 8, born := 0 }, { key := .int .i64 2, val := .int .i64 16, born := 1 }] 2 h 4 hh (by kernel_rfl)
  have i8 := fun (w : World) (h : Nat) (hh : h = w.heap.size) => run_insert_new (v := .int .i64 64) Try.underlying122 Try.underlying3 w #[{ key := .int .i64 1, val := .int .i64 8, born := 0 }, { key := .int .i64 2, val := .int .i64 16, born := 1 }, { key := .int .i64 4, val := .int .i64 32, born := 2 }] 3 h 8 hh (by kernel_rfl)
  have il := fun (w : World) (h : Nat) (hh : h = w.heap.size) => run_lookup_new Try.underlying122 Try.underlying3 w sizes 4 h k (.int .i64 0) (.int .i64 v) hh hz hv
  unfold sizes at il
  simp only [List.push_toArray, List.nil_append, List.cons_append, Nat.zero_add, Nat.reduceAdd] at i1 i2 i4 i8
  have HD := Lib.hid hd
  clear hd hv hz
  go_enter Try.func69, Try.ntmps69
  go_wp2_with fail
  go_ret
  exact ⟨ret_bool HD.out, (Below.refl _ _).alloc (Nat.le_refl _) _⟩

end Go.Proofs.Ytniekddoaokmkaa

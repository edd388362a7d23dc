/-
  What the rows of this seat share: a slice of bytes, of byte strings, of integers that came in, as the walks take it.
-/
import Derived.Test.YtjnchbadefggjaaRows
import Derived.Test.YtjnchbadefggjaaBase
import Derived.ProofKit
import Derived.OpenShut
import Derived.ShutString
import Derived.ChangeOld
import Derived.Below
import Derived.Deep.Slices
namespace Go.Proofs.Ytjnchbadefggjaa
open Go.ChangeShapes Go.WideShapes Go.ChangeAt Go.RowKit Go.Gab

theorem own : ownKnob Try.prog.godebug = none := by kernel_rfl
theorem laidOut : laidOutB Try.prog = true := by kernel_rfl

/-- A slice of bytes that came in, as the walks take it. -/
theorem sl_of_bytes {H : Type} {enc : TypeId × Value → H} {W : World} {base : Nat} {held : Bool} {a : Option Addr} {len cap : Nat} {d : DataW H} {p : List MemPlace}
    (h : DataW.Trod enc Try.prog W base (fun _ => true) held 22 (.slice a len cap) d p) : ∃ bs : List UInt8, Sl W W.heap.size 1 a len cap (bs.map byteV) := by
  obtain ⟨fuel, hf⟩ := h
  rcases open_ints Try.underlying22 Try.underlying5 (by kernel_rfl) hf with ⟨hcs, _⟩ | ⟨x, l, c, zs, hcs, _, hl, hm, hz, _, hcell, hwz⟩
  · simp [Value.cells] at hcs
    obtain ⟨rfl, rfl, rfl⟩ := hcs
    exact ⟨[], Sl.nil_⟩
  · simp [Value.cells] at hcs
    obtain ⟨rfl, rfl, rfl⟩ := hcs
    exact sl_of_row hl hm (by simpa using hz) hcell hwz

/-- A slice of byte strings that came in. -/
theorem sl_of_rows {H : Type} {enc : TypeId × Value → H} {W : World} {base : Nat} {held : Bool} {a : Option Addr} {len cap : Nat} {d : DataW H} {p : List MemPlace}
    (h : DataW.Trod enc Try.prog W base (fun _ => true) held 30 (.slice a len cap) d p) : ∃ ls : List (List UInt8), Bss W W.heap.size a len cap ls := by
  obtain ⟨fuel, hf⟩ := h
  rcases Deep.open_slice1 Try.underlying30 (by kernel_rfl) hf with ⟨hcs, _⟩ | ⟨x, l, c, m, n, V, D, Pl, hcs, _, hl, hm, hmm, _, hi⟩
  · simp [Value.cells] at hcs
    obtain ⟨rfl, rfl, rfl⟩ := hcs
    exact ⟨[], rfl, Nat.le_refl _, by omega, fun i hi => absurd hi (by omega)⟩
  · simp [Value.cells] at hcs
    obtain ⟨rfl, rfl, rfl⟩ := hcs
    have hml : len ≤ m := by rw [hmm]; simpa using hl
    have key : ∀ i, i < len → ∃ y : Option Addr × Nat × Nat × List UInt8, W.cell? (x.add i) = some (.slice y.1 y.2.1 y.2.2.1) ∧ Sl W W.heap.size 1 y.1 y.2.1 y.2.2.1 (y.2.2.2.map byteV) := by
      intro i hil
      obtain ⟨hc, ht⟩ := hi i (by omega)
      have hshape : ∃ A n' c', V i = .slice A n' c' := by
        rcases DataW.trod_slice Try.underlying22 ht with ⟨e1, _⟩ | ⟨a1, l1, c1, _, _, _, _, e1, _⟩
        · simp only [List.cons.injEq, and_true] at e1; exact ⟨_, _, _, e1⟩
        · simp only [List.cons.injEq, and_true] at e1; exact ⟨_, _, _, e1⟩
      obtain ⟨A, n', c', hV⟩ := hshape
      rw [hV] at hc ht
      obtain ⟨bs, hs⟩ := sl_of_bytes (a := A) (len := n') (cap := c') ⟨n, by simpa [Value.cells] using ht⟩
      exact ⟨(A, n', c', bs), hc, hs⟩
    obtain ⟨f, hf'⟩ := Deep.choose_lt (α := Option Addr × Nat × Nat × List UInt8) key
    refine ⟨(List.range len).map fun i => (f i).2.2.2, by simp, hl, by simpa [maxLen] using hm, fun i hil => ?_⟩
    obtain ⟨hc, hs⟩ := hf' i hil
    obtain ⟨b, off, spot⟩ := x
    have hspot : spot = none := by simpa [Addr.add] using World.cell?_spot (hf' 0 (by omega)).1
    subst hspot
    refine ⟨b, off, _, _, _, (f i).2.2.2, rfl, ?_, by simp [hil], ?_, hs⟩
    · exact World.block_lt_of_cell? W _ (hf' 0 (by omega)).1
    · by_cases h0 : i = 0
      · subst h0; simpa [Addr.add] using hc
      · simpa [Addr.add, h0] using hc

end Go.Proofs.Ytjnchbadefggjaa

/-
  What the rows of this seat share: a slice of bytes, of byte strings, of integers that came in, as the walks take it.
-/
import Derived.Test.YtniekddoaokmkaaRows
import Derived.Test.YtniekddoaokmkaaRep
import Derived.ProofKit
import Derived.OpenShut
import Derived.ShutString
import Derived.ChangeOld
import Derived.Below
namespace Go.Proofs.Ytniekddoaokmkaa
open Go.ChangeShapes Go.WideShapes Go.ChangeAt Go.RowKit Go.Gab

theorem own : ownKnob Try.prog.godebug = none := by kernel_rfl
theorem laidOut : laidOutB Try.prog = true := by kernel_rfl

/-- A slice of bytes that came in, as the walks take it. -/
theorem sl_of_bytes {H : Type} {enc : TypeId × Value → H} {W : World} {base : Nat} {held : Bool} {a : Option Addr} {len cap : Nat} {d : DataW H} {p : List MemPlace}
    (h : DataW.Trod enc Try.prog W base (fun _ => true) held 40 (.slice a len cap) d p) : ∃ bs : List UInt8, Sl W W.heap.size 1 a len cap (bs.map byteV) := by
  obtain ⟨fuel, hf⟩ := h
  rcases open_ints Try.underlying40 Try.underlying5 (by kernel_rfl) hf with ⟨hcs, _⟩ | ⟨x, l, c, zs, hcs, _, hl, hm, hz, _, hcell, hwz⟩
  · simp [Value.cells] at hcs
    obtain ⟨rfl, rfl, rfl⟩ := hcs
    exact ⟨[], Sl.nil_⟩
  · simp [Value.cells] at hcs
    obtain ⟨rfl, rfl, rfl⟩ := hcs
    exact sl_of_row hl hm (by simpa using hz) hcell hwz

/-- The types that the laws of this seat take. -/
theorem bytes_of : Rep.bytes.Of Try.prog 40 :=
  Rep.of_bytes Try.underlying40 (by kernel_rfl) Try.underlying5 (by kernel_rfl) (by rw [show Try.prog.bytesOf 5 = 1 from by kernel_rfl]; omega)
theorem rows_of : (Rep.slice Rep.bytes).Of Try.prog 113 :=
  Rep.of_slice Try.underlying113 (by kernel_rfl) (by rw [show Try.prog.bytesOf 40 = 24 from by kernel_rfl]; omega) (by decide) bytes_of

end Go.Proofs.Ytniekddoaokmkaa

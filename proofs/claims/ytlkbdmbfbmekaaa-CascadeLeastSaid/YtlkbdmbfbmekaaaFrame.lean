/-
  What the rows of this seat share: a slice of bytes, of byte strings, of integers that came in, as the walks take it.
-/
import Derived.Test.YtlkbdmbfbmekaaaRows
import Derived.Test.YtlkbdmbfbmekaaaRep
import Derived.ProofKit
import Derived.OpenShut
import Derived.ShutString
import Derived.ChangeOld
import Derived.Below
namespace Go.Proofs.Ytlkbdmbfbmekaaa
open Go.ChangeShapes Go.WideShapes Go.ChangeAt Go.RowKit Go.Gab

theorem own : ownKnob Try.prog.godebug = none := by kernel_rfl
theorem laidOut : laidOutB Try.prog = true := by kernel_rfl

/-- A slice of bytes that came in, as the walks take it. -/
theorem sl_of_bytes {H : Type} {enc : TypeId × Value → H} {W : World} {base : Nat} {held : Bool} {a : Option Addr} {len cap : Nat} {d : DataW H} {p : List MemPlace}
    (h : DataW.Trod enc Try.prog W base (fun _ => true) held 33 (.slice a len cap) d p) : ∃ bs : List UInt8, Sl W W.heap.size 1 a len cap (bs.map byteV) := by
  obtain ⟨fuel, hf⟩ := h
  rcases open_ints Try.underlying33 Try.underlying5 (by kernel_rfl) hf with ⟨hcs, _⟩ | ⟨x, l, c, zs, hcs, _, hl, hm, hz, _, hcell, hwz⟩
  · simp [Value.cells] at hcs
    obtain ⟨rfl, rfl, rfl⟩ := hcs
    exact ⟨[], Sl.nil_⟩
  · simp [Value.cells] at hcs
    obtain ⟨rfl, rfl, rfl⟩ := hcs
    exact sl_of_row hl hm (by simpa using hz) hcell hwz

/-- The types that the laws of this seat take. -/
theorem bytes_of : Rep.bytes.Of Try.prog 33 :=
  Rep.of_bytes Try.underlying33 (by kernel_rfl) Try.underlying5 (by kernel_rfl) (by rw [show Try.prog.bytesOf 5 = 1 from by kernel_rfl]; omega)

end Go.Proofs.Ytlkbdmbfbmekaaa

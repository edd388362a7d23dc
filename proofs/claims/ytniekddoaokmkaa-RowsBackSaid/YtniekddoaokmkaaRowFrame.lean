/-
  What the rows of layer 23 take.
-/
import Derived.Test.YtniekddoaokmkaaFrame
import Derived.Test.YtniekddoaokmkaaRowRep
namespace Go.Proofs.Ytniekddoaokmkaa
open Go.ChangeShapes Go.WideShapes Go.ChangeAt Go.RowKit Go.Gab

theorem pair_of : pairR.Of Try.prog 42 :=
  Rep.of_map _ (Rep.of_struct Try.underlying42 (by kernel_rfl) (FieldsOf.cons_ rfl (bytesR_of bytes_of) (FieldsOf.cons_ rfl (bytesR_of bytes_of) FieldsOf.nil_)))
theorem pairs_of : (Rep.slice pairR).Of Try.prog 32 :=
  Rep.of_slice Try.underlying32 (by kernel_rfl) (by rw [show Try.prog.bytesOf 42 = 48 from by kernel_rfl]; omega) (by decide) pair_of

end Go.Proofs.Ytniekddoaokmkaa

/-
  What the rows of layer 6 take.
-/
import Derived.Test.YtlkbdmbfbmekaaaFrame
namespace Go.Proofs.Ytlkbdmbfbmekaaa
open Go.ChangeShapes Go.WideShapes Go.ChangeAt Go.RowKit Go.Gab

def stepRep : Rep (Int × Int × Unit) := Rep.pair (Rep.int .i64) (Rep.pair (Rep.int .i64) Rep.unit)
theorem step_of : stepRep.Of Try.prog 37 :=
  Rep.of_struct Try.underlying37 (by kernel_rfl) (FieldsOf.cons_ rfl (Rep.of_int Try.underlying3 (by kernel_rfl)) (FieldsOf.cons_ rfl (Rep.of_int Try.underlying3 (by kernel_rfl)) FieldsOf.nil_))
theorem steps_of : (Rep.slice stepRep).Of Try.prog 34 :=
  Rep.of_slice Try.underlying34 (by kernel_rfl) (by rw [show Try.prog.bytesOf 37 = 16 from by kernel_rfl]; omega) (by decide) step_of

end Go.Proofs.Ytlkbdmbfbmekaaa

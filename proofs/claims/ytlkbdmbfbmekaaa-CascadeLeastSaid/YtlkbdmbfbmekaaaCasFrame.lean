/-
  What the rows of layer 31 take.
-/
import Derived.Test.YtlkbdmbfbmekaaaFrame
import Derived.Test.YtlkbdmbfbmekaaaCasSmall
namespace Go.Proofs.Ytlkbdmbfbmekaaa
open Go.ChangeShapes Go.WideShapes Go.ChangeAt Go.RowKit Go.Gab

theorem acct_of : acctR.Of Try.prog 63 :=
  Rep.of_struct Try.underlying63 (by kernel_rfl) (FieldsOf.cons_ rfl (Rep.of_int Try.underlying2 (by kernel_rfl)) (FieldsOf.cons_ rfl (Rep.of_int Try.underlying2 (by kernel_rfl)) FieldsOf.nil_))
theorem accts_of : (Rep.slice acctR).Of Try.prog 45 :=
  Rep.of_slice Try.underlying45 (by kernel_rfl) (by rw [show Try.prog.bytesOf 63 = 16 from by kernel_rfl]; omega) (by decide) acct_of
theorem due_of : dueR.Of Try.prog 75 :=
  Rep.of_struct Try.underlying75 (by kernel_rfl) (FieldsOf.cons_ rfl (Rep.of_int Try.underlying73 (by kernel_rfl)) (FieldsOf.cons_ rfl (Rep.of_int Try.underlying3 (by kernel_rfl)) (FieldsOf.cons_ rfl (Rep.of_int Try.underlying3 (by kernel_rfl))
    (FieldsOf.cons_ rfl (Rep.of_int Try.underlying2 (by kernel_rfl)) (FieldsOf.cons_ rfl (Rep.of_int Try.underlying2 (by kernel_rfl)) (FieldsOf.cons_ rfl (Rep.of_int Try.underlying2 (by kernel_rfl)) (FieldsOf.cons_ rfl (Rep.of_bool Try.underlying4 (by kernel_rfl)) FieldsOf.nil_)))))))
theorem dues_of : (Rep.slice dueR).Of Try.prog 46 :=
  Rep.of_slice Try.underlying46 (by kernel_rfl) (by rw [show Try.prog.bytesOf 75 = 56 from by kernel_rfl]; omega) (by decide) due_of
theorem ints_of : (Rep.slice (Rep.int .i64)).Of Try.prog 47 :=
  Rep.of_slice Try.underlying47 (by kernel_rfl) (by rw [show Try.prog.bytesOf 3 = 8 from by kernel_rfl]; omega) (by decide) (Rep.of_int Try.underlying3 (by kernel_rfl))

end Go.Proofs.Ytlkbdmbfbmekaaa

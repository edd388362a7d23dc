/-
  What the rows of layer 23 take: a state.
-/
import Derived.Test.YtniekddoaokmkaaRowFrame
namespace Go.Proofs.Ytniekddoaokmkaa
open Go.ChangeShapes Go.WideShapes Go.ChangeAt Go.RowKit Go.Gab

theorem u64_of : (Rep.int .u64).Of Try.prog 24 := Rep.of_int Try.underlying24 (by kernel_rfl)
theorem i64_of : (Rep.int .i64).Of Try.prog 2 := Rep.of_int Try.underlying2 (by kernel_rfl)
theorem int_of : (Rep.int .i64).Of Try.prog 3 := Rep.of_int Try.underlying3 (by kernel_rfl)
theorem u32_of : (Rep.int .u32).Of Try.prog 50 := Rep.of_int Try.underlying50 (by kernel_rfl)
theorem bool_of : Rep.bool.Of Try.prog 4 := Rep.of_bool Try.underlying4 (by kernel_rfl)
theorem acct_of : acctR.Of Try.prog 92 :=
  Rep.of_map _ (Rep.of_struct Try.underlying92 (by kernel_rfl) (FieldsOf.cons_ rfl i64_of (FieldsOf.cons_ rfl i64_of FieldsOf.nil_)))
theorem edge_of : edgeR.Of Try.prog 66 :=
  Rep.of_map _ (Rep.of_struct Try.underlying66 (by kernel_rfl) (FieldsOf.cons_ rfl int_of (FieldsOf.cons_ rfl int_of (FieldsOf.cons_ rfl i64_of (FieldsOf.cons_ rfl i64_of FieldsOf.nil_)))))
theorem due_of : dueR.Of Try.prog 54 :=
  Rep.of_map _ (Rep.of_struct Try.underlying54 (by kernel_rfl) (FieldsOf.cons_ rfl u64_of (FieldsOf.cons_ rfl int_of (FieldsOf.cons_ rfl int_of (FieldsOf.cons_ rfl i64_of (FieldsOf.cons_ rfl i64_of (FieldsOf.cons_ rfl i64_of (FieldsOf.cons_ rfl bool_of FieldsOf.nil_))))))))
theorem asked_of : askedR.Of Try.prog 52 :=
  Rep.of_map _ (Rep.of_struct Try.underlying52 (by kernel_rfl) (FieldsOf.cons_ rfl u32_of (FieldsOf.cons_ rfl u64_of (FieldsOf.cons_ rfl (bytesR_of bytes_of) (FieldsOf.cons_ rfl (bytesR_of bytes_of) FieldsOf.nil_)))))
theorem accts_of : (Rep.slice acctR).Of Try.prog 22 := Rep.of_slice Try.underlying22 (by kernel_rfl) (of_decide_eq_true (by kernel_rfl)) (by decide) acct_of
theorem edges_of : (Rep.slice edgeR).Of Try.prog 57 := Rep.of_slice Try.underlying57 (by kernel_rfl) (of_decide_eq_true (by kernel_rfl)) (by decide) edge_of
theorem dues_of : (Rep.slice dueR).Of Try.prog 23 := Rep.of_slice Try.underlying23 (by kernel_rfl) (of_decide_eq_true (by kernel_rfl)) (by decide) due_of
theorem askeds_of : (Rep.slice askedR).Of Try.prog 26 := Rep.of_slice Try.underlying26 (by kernel_rfl) (of_decide_eq_true (by kernel_rfl)) (by decide) asked_of
theorem ids_of : (Rep.slice (Rep.int .u64)).Of Try.prog 56 := Rep.of_slice Try.underlying56 (by kernel_rfl) (of_decide_eq_true (by kernel_rfl)) (by decide) u64_of
theorem i64s_of : (Rep.slice (Rep.int .i64)).Of Try.prog 60 := Rep.of_slice Try.underlying60 (by kernel_rfl) (of_decide_eq_true (by kernel_rfl)) (by decide) i64_of
theorem net_of : netR.Of Try.prog 59 := Rep.of_struct Try.underlying59 (by kernel_rfl) (FieldsOf.cons_ rfl int_of (FieldsOf.cons_ rfl edges_of FieldsOf.nil_))
theorem cert_of : certR.Of Try.prog 62 := Rep.of_struct Try.underlying62 (by kernel_rfl) (FieldsOf.cons_ rfl i64s_of (FieldsOf.cons_ rfl i64s_of FieldsOf.nil_))
theorem round_of : roundR.Of Try.prog 64 :=
  Rep.of_map _ (Rep.of_struct Try.underlying64 (by kernel_rfl) (FieldsOf.cons_ rfl u64_of (FieldsOf.cons_ rfl i64_of (FieldsOf.cons_ rfl bool_of (FieldsOf.cons_ rfl ids_of (FieldsOf.cons_ rfl net_of (FieldsOf.cons_ rfl cert_of FieldsOf.nil_)))))))
theorem rounds_of : (Rep.slice roundR).Of Try.prog 25 := Rep.of_slice Try.underlying25 (by kernel_rfl) (of_decide_eq_true (by kernel_rfl)) (by decide) round_of
theorem st_of : stR.Of Try.prog 28 :=
  Rep.of_map _ (Rep.of_struct Try.underlying28 (by kernel_rfl) (FieldsOf.cons_ rfl i64_of (FieldsOf.cons_ rfl accts_of (FieldsOf.cons_ rfl dues_of (FieldsOf.cons_ rfl u64_of (FieldsOf.cons_ rfl rounds_of (FieldsOf.cons_ rfl u64_of (FieldsOf.cons_ rfl askeds_of FieldsOf.nil_))))))))
theorem st_in {W : World} {B : Nat} {cs : Array Value} {s : Rws.St} (h : stR.rel W B cs.toList s) : ∃ Aa Ad Ar Aq ca cd cr cq, cs = (stC s Aa Ad Ar Aq ca cd cr cq).toArray ∧ StAt W B s Aa Ad Ar Aq ca cd cr cq := by
  obtain ⟨Aa, Ad, Ar, Aq, ca, cd, cr, cq, e, h⟩ := st_rel h
  exact ⟨Aa, Ad, Ar, Aq, ca, cd, cr, cq, Array.toList_inj.1 (by rw [e]), h⟩

end Go.Proofs.Ytniekddoaokmkaa

/-
  What the rows of layer 24 take.
-/
import Derived.Test.YtbfcfhfnkpklkaaFrame
import Derived.Test.YtbfcfhfnkpklkaaFraPlaysWalk
namespace Go.Proofs.Ytbfcfhfnkpklkaa
open Go.ChangeShapes Go.WideShapes Go.ChangeAt Go.RowKit Go.Gab

def askRep := Rep.pair (Rep.int .u8) (Rep.pair (Rep.int .i64) (Rep.pair (Rep.int .i64) (Rep.pair (Rep.int .i64) (Rep.pair (Rep.int .i64) (Rep.pair (Rep.int .i64) (Rep.pair (Rep.int .u64) Rep.unit))))))
def replyRep := Rep.pair (Rep.int .i64) (Rep.pair (Rep.slice (Rep.int .i64)) Rep.unit)

theorem i64s_of : (Rep.slice (Rep.int .i64)).Of Try.prog 56 :=
  Rep.of_slice Try.underlying56 (by kernel_rfl) (by rw [show Try.prog.bytesOf 2 = 8 from by kernel_rfl]; omega) (by decide) (Rep.of_int Try.underlying2 (by kernel_rfl))
theorem ask_of : askRep.Of Try.prog 55 :=
  Rep.of_struct Try.underlying55 (by kernel_rfl)
    (FieldsOf.cons_ rfl (Rep.of_int Try.underlying5 (by kernel_rfl)) (FieldsOf.cons_ rfl (Rep.of_int Try.underlying3 (by kernel_rfl)) (FieldsOf.cons_ rfl (Rep.of_int Try.underlying3 (by kernel_rfl)) (FieldsOf.cons_ rfl (Rep.of_int Try.underlying2 (by kernel_rfl))
      (FieldsOf.cons_ rfl (Rep.of_int Try.underlying2 (by kernel_rfl)) (FieldsOf.cons_ rfl (Rep.of_int Try.underlying2 (by kernel_rfl)) (FieldsOf.cons_ rfl (Rep.of_int Try.underlying37 (by kernel_rfl)) FieldsOf.nil_)))))))
theorem reply_of : replyRep.Of Try.prog 58 :=
  Rep.of_struct Try.underlying58 (by kernel_rfl) (FieldsOf.cons_ rfl (Rep.of_int Try.underlying39 (by kernel_rfl)) (FieldsOf.cons_ rfl i64s_of FieldsOf.nil_))

theorem ask_in {W : World} {B : Nat} {cs : Array Value} {x} (h : askRep.rel W B cs.toList x) : ∃ d : Fra.Ask, d.Ok ∧ Value.agg cs = askV d := by
  obtain ⟨k, a, b, x, w, u, i, un⟩ := x
  obtain ⟨c0, r0, e0, _, ⟨rfl, h0⟩, c1, r1, rfl, _, ⟨rfl, h1⟩, c2, r2, rfl, _, ⟨rfl, h2⟩, c3, r3, rfl, _, ⟨rfl, h3⟩, c4, r4, rfl, _, ⟨rfl, h4⟩, c5, r5, rfl, _, ⟨rfl, h5⟩, c6, r6, rfl, _, ⟨rfl, h6⟩, h7⟩ := h
  have h7' : r6 = [] := h7
  subst h7'
  simp only at *
  have hk : 0 ≤ k ∧ k ≤ 255 := by
    simp [Lit.wf, IntKind.min, IntKind.max, IntKind.signed, IntKind.bits] at h0
    simpa using h0
  have hi : 0 ≤ i ∧ i ≤ 18446744073709551615 := by
    simp [Lit.wf, IntKind.min, IntKind.max, IntKind.signed, IntKind.bits] at h6
    simpa using h6
  refine ⟨⟨UInt8.ofNat k.toNat, a, b, x, w, u, i.toNat⟩, ⟨i64_of_wf h1, i64_of_wf h2, i64_of_wf h3, i64_of_wf h4, i64_of_wf h5, ?_⟩, ?_⟩
  · simp only; omega
  · have ek : ((UInt8.ofNat k.toNat).toNat : Int) = k := by
      rw [Fra.u8_toNat_ofNat (by omega)]; omega
    have ei : ((i.toNat : Nat) : Int) = i := by omega
    unfold askV
    simp only [ek, ei]
    congr 1
    exact Array.toList_inj.1 (by rw [e0]; rfl)

theorem reply_in {W : World} {B : Nat} {cs : Array Value} {x} (h : replyRep.rel W B cs.toList x) : ∃ (E : Int) (l : List Int) (A : Option Addr) (n cap : Nat), Fra.I64 E ∧ SlR (Rep.int .i64) W B A n cap l ∧ Value.agg cs = .agg #[.int .i64 E, .slice A n cap] := by
  obtain ⟨e, l, un⟩ := x
  obtain ⟨c0, r0, e0, _, ⟨rfl, h0⟩, c1, r1, rfl, _, ⟨A, n, cap, rfl, hs⟩, h7⟩ := h
  have h7' : r1 = [] := h7
  subst h7'
  exact ⟨e, l, A, n, cap, i64_of_wf h0, hs, by congr 1; exact Array.toList_inj.1 (by rw [e0]; rfl)⟩

theorem u32_of_wf {z : Int} (h : (Lit.int .u32 z).wf = true) : ∃ x : Nat, z = (x : Int) ∧ x < 4294967296 := by
  have h2 : 0 ≤ z ∧ z ≤ 4294967295 := by
    simp [Lit.wf, IntKind.min, IntKind.max, IntKind.signed, IntKind.bits] at h
    simpa using h
  exact ⟨z.toNat, by omega, by omega⟩
theorem u64_of_wf' {z : Int} (h : (Lit.int .u64 z).wf = true) : ∃ x : Nat, z = (x : Int) ∧ x < 18446744073709551616 := by
  have h2 : 0 ≤ z ∧ z ≤ 18446744073709551615 := by
    simp [Lit.wf, IntKind.min, IntKind.max, IntKind.signed, IntKind.bits] at h
    simpa using h
  exact ⟨z.toNat, by omega, by omega⟩

/-- As the row hands it. -/
theorem framesPlays_walkF (W : World) {c s : Int} {a3 a4 : Array Value} {b3 b4} {A2 : Option Addr} {n2 c2 : Nat} {bs : List UInt8} (hc : (Lit.int .u32 c).wf = true) (hs : (Lit.int .u64 s).wf = true)
    (h3 : askRep.rel W W.heap.size a3.toList b3) (h4 : replyRep.rel W W.heap.size a4.toList b4) (h2 : Sl W W.heap.size 1 A2 n2 c2 (bs.map byteV)) :
    Calls Try.prog 14 #[.int .u32 c, .int .u64 s, .agg a3, .agg a4, .slice A2 n2 c2] W fun e w' => e = .returned (.bool true) ∧ Below W.heap.size W w' := by
  obtain ⟨c, rfl, hc2⟩ := u32_of_wf hc
  obtain ⟨s, rfl, hs2⟩ := u64_of_wf' hs
  obtain ⟨d, hd, e3⟩ := ask_in h3
  obtain ⟨E, l, A, n, cap, hE, hr, e4⟩ := reply_in h4
  rw [e3, e4]
  exact framesPlays_walk W c s hc2 hs2 d hd E l hr h2

end Go.Proofs.Ytbfcfhfnkpklkaa

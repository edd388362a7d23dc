/-
  Layer 23 (rows): the taking of whatever row has a key of a kind that there is.
-/
import Derived.Test.YtniekddoaokmkaaRdLoop
import Derived.Test.YtniekddoaokmkaaRdTwo
import Derived.Test.YtniekddoaokmkaaRdThree
import Derived.Test.YtniekddoaokmkaaRdKind4
import Derived.Test.YtniekddoaokmkaaRdKind5
import Derived.Test.YtniekddoaokmkaaRdKind6
import Derived.Test.YtniekddoaokmkaaRdKind7
import Derived.Test.YtniekddoaokmkaaRdKind8
import Derived.Test.YtniekddoaokmkaaRbBound
namespace Go.Proofs.Ytniekddoaokmkaa
open Go.RowKit Go.Gab
set_option linter.unusedVariables false

theorem reads_of {base g B : Nat} (hB : B ≤ base) {p : Rws.Pair} (hp : Rws.Kinded p) (h1 : p.1.length ≤ 274877906944) (h2 : p.2.length ≤ 274877906944) : ReadsOf base g B p := by
  intro s w A1 A2 c1 c2 hst hcn hb1 hb2
  obtain ⟨p1, v⟩ := p
  obtain ⟨k, kb, e, hk⟩ := hp
  simp only at e
  subst e
  have hkl : kb.length ≤ 274877906944 := by simp at h1; omega
  have hvl : v.length ≤ 274877906944 := h2
  have hcn' : (Rws.rowsOf s).length ≤ 1900000 := hcn
  have hk' : k = 0 ∨ k = 1 ∨ k = 2 ∨ k = 3 ∨ k = 4 ∨ k = 5 ∨ k = 6 ∨ k = 7 ∨ k = 8 := by
    have h1 : k.toNat ≤ 8 := UInt8.le_iff_toNat_le.1 hk
    have h2 : ∀ j : UInt8, k.toNat = j.toNat → k = j := fun j hj => UInt8.toNat_inj.1 hj
    have h3 : k.toNat = 0 ∨ k.toNat = 1 ∨ k.toNat = 2 ∨ k.toNat = 3 ∨ k.toNat = 4 ∨ k.toNat = 5 ∨ k.toNat = 6 ∨ k.toNat = 7 ∨ k.toNat = 8 := by omega
    rcases h3 with h3 | h3 | h3 | h3 | h3 | h3 | h3 | h3 | h3
    · exact .inl (h2 0 h3)
    · exact .inr (.inl (h2 1 h3))
    · exact .inr (.inr (.inl (h2 2 h3)))
    · exact .inr (.inr (.inr (.inl (h2 3 h3))))
    · exact .inr (.inr (.inr (.inr (.inl (h2 4 h3)))))
    · exact .inr (.inr (.inr (.inr (.inr (.inl (h2 5 h3))))))
    · exact .inr (.inr (.inr (.inr (.inr (.inr (.inl (h2 6 h3)))))))
    · exact .inr (.inr (.inr (.inr (.inr (.inr (.inr (.inl (h2 7 h3))))))))
    · exact .inr (.inr (.inr (.inr (.inr (.inr (.inr (.inr (h2 8 h3))))))))
  simp only at hb1 hb2
  rcases hk' with rfl | rfl | rfl | rfl | rfl | rfl | rfl | rfl | rfl
  · exact read0_any B base g s kb v A1 A2 _ c1 c2 w hst hB hb1 hb2 hkl hvl
  · exact read1_any B base g s kb v A1 A2 _ c1 c2 w hst hB hb1 hb2 hcn' hkl hvl
  · exact read2_any B base g s kb v A1 A2 _ c1 c2 w hst hB hb1 hb2 hcn' hkl hvl
  · exact read3_any B base g s kb v A1 A2 _ c1 c2 w hst hB hb1 hb2 hcn' hkl hvl
  · exact read4_any B base g s kb v A1 A2 _ c1 c2 w hst hB hb1 hb2 hcn' hkl hvl
  · exact read5_any B base g s kb v A1 A2 _ c1 c2 w hst hB hb1 hb2 hcn' hkl hvl
  · exact read6_any B base g s kb v A1 A2 _ c1 c2 w hst hB hb1 hb2 hcn' hkl hvl
  · exact read7_any B base g s kb v A1 A2 _ c1 c2 w hst hB hb1 hb2 hcn' hkl hvl
  · exact read8_any B base g s kb v A1 A2 _ c1 c2 w hst hB hb1 hb2 hcn' hkl hvl

/-- Pairs as a state: of any whose keys are of kinds that there are. -/
theorem state_is (B M : Nat) (l : List Rws.Pair) (A : Option Addr) (n c : Nat) (w : World) (hl : SlR pairR w B A n c l) (hB : B ≤ w.heap.size) (hn : n ≤ 1000000) (hk : ∀ p ∈ l, Rws.Kinded p ∧ p.1.length ≤ M ∧ p.2.length ≤ M) (hM : M ≤ 274877906944) :
    Calls Try.prog 10 #[.slice A n c] w (StateTo l w) := by
  refine state_any B l A n c w hl hB hn (fun p hp => reads_of (by omega) (hk p hp).1 (by have := (hk p hp).2.1; omega) (by have := (hk p hp).2.2; omega)) (fun j s hj => ?_) (fun s hs a ha => ?_)
  · have h := Rws.grown_all (M := M) (l.take j) Rws.st0 s hj (fun p hp => ⟨(hk p (List.mem_of_mem_take hp)).1, (hk p (List.mem_of_mem_take hp)).2.2⟩) (fun a ha => by simp [Rws.st0] at ha)
    have h1 := h.1
    rw [Rws.rows_st0, List.length_take] at h1
    have := hl.len
    unfold cnt
    omega
  · have h := Rws.grown_all (M := M) l Rws.st0 s hs (fun p hp => ⟨(hk p hp).1, (hk p hp).2.2⟩) (fun a ha => by simp [Rws.st0] at ha)
    have := h.2 a ha
    omega
end Go.Proofs.Ytniekddoaokmkaa

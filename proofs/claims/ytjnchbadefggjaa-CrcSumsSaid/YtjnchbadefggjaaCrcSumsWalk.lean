/-
  CrcSums, walked: whatever the bytes and the word, the law returns true and writes nothing that was there.
-/
import Derived.Test.YtjnchbadefggjaaCrcWalks
namespace Go.Proofs.Ytjnchbadefggjaa
open Go.RowKit Go.Gab
set_option linter.unusedVariables false

theorem u32_of_wf {z : Int} (h : (Lit.int .u32 z).wf = true) : ∃ s : BitVec 32, z = (s.toNat : Int) := by
  have h2 : 0 ≤ z ∧ z ≤ 4294967295 := by
    simp [Lit.wf, IntKind.min, IntKind.max, IntKind.signed, IntKind.bits] at h
    simpa using h
  refine ⟨BitVec.ofNat 32 z.toNat, ?_⟩
  rw [BitVec.toNat_ofNat, Nat.mod_eq_of_lt (by omega)]
  omega

set_option maxHeartbeats 400000 in
theorem crcSums_walk {a : Option Addr} {n c : Nat} {bs : List UInt8} {z : Int} (W : World) (hr : Sl W W.heap.size 1 a n c (bs.map byteV)) (hz : (Lit.int .u32 z).wf = true) :
    Calls Try.prog 3 #[.slice a n c, .int .u32 z] W fun e w' => e = .returned (.bool true) ∧ Below W.heap.size W w' := by
  obtain ⟨s, rfl⟩ := u32_of_wf hz
  clear hz
  have hnc := hr.nc
  have hcm := hr.cm
  have hlen := hr.lenB
  by_cases hv : (8192 : Int) < n
  · have hv' : decide ((8192 : Int) < n) = true := by simpa using hv
    clear hlen
    go_enter Try.func3, Try.ntmps3
    go_wp2_with (first | (go_at_call 14; refine (vast02_any _ _ _ _ (by omega)).mono ?_; rintro e w' ⟨rfl, rfl⟩) | (go_at_call 15; refine (works02_any _).mono ?_; rintro e w' ⟨rfl, hb⟩))
    go_ret
    exact ⟨rfl, hb⟩
  · have hv' : decide ((8192 : Int) < n) = false := by simpa using hv
    have Hlen := Lib.hid hlen
    clear hlen
    go_enter Try.func3, Try.ntmps3
    go_wp2_with fail
    refine (vast02_any _ _ _ _ (by omega)).mono ?_
    rintro e w' ⟨rfl, rfl⟩
    go_wp2_with fail
    refine (copied02_any _ _ _ _ _ _ hr (Nat.le_refl _) (by omega)).mono ?_
    rintro e w1 ⟨A1, c1, rfl, hown1, hb1⟩
    rw [Hlen.out] at hown1 ⊢
    have hs1 := Sl.of_own hown1
    have hr1 := hr.below hb1
    go_wp2_with (first
      | (go_at_call 17; refine (crcSum_any _ _ _ _ bs _ hs1).mono ?_; rintro e w' ⟨rfl, rfl⟩)
      | (go_at_call 18; refine (refSum02_any _ _ _ _ bs _ hr1).mono ?_; rintro e w' ⟨rfl, rfl⟩)
      | (go_at_call 19; refine (crcMore_any _ s rfl _ _ _ _ bs _ hs1).mono ?_; rintro e w' ⟨rfl, rfl⟩)
      | (go_at_call 20; refine (refMore_any _ s rfl _ _ _ _ bs _ hr1).mono ?_; rintro e w' ⟨rfl, rfl⟩)
      | (go_at_call 21; refine (crcRight_any _ _ _ _ bs _ hs1).mono ?_; rintro e w' ⟨rfl, rfl⟩))
    refine (refRight_any _ _ _ _ bs _ hr1).mono ?_
    rintro e w' ⟨rfl, q, rfl⟩
    have hst1 := fun q => run_string_of Try.underlying22 Try.underlying5 Try.underlying9 (hs1.drewN q)
    have hst2 := fun q => run_string_of Try.underlying22 Try.underlying5 Try.underlying9 (hr1.drewN q)
    go_wp2_with (go_at_call 15; refine (works02_any _).mono ?_; rintro e w' ⟨rfl, hb⟩)
    go_ret
    exact ⟨rfl, (below_drewN hb1 q).trans (hb.mono hb1.size)⟩

end Go.Proofs.Ytjnchbadefggjaa

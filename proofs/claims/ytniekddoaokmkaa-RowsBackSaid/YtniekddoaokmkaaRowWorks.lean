/-
  Layer 23 (rows): the law's anchor (works), walked.
-/
import Derived.Test.YtniekddoaokmkaaRdLoop
namespace Go.Proofs.Ytniekddoaokmkaa
open Go.RowKit Go.Gab
set_option linter.unusedVariables false
attribute [local go_sem ↓] Go.wp_at_zero Go.wp_at_succ

theorem slr_nil {α : Type} (r : Rep α) (w : World) (B : Nat) : SlR r w B none 0 0 [] := ⟨rfl, Nat.le_refl _, by omega, fun i hi => absurd hi (by omega)⟩
theorem st1_at (w : World) : StAt w 0 Rws.st1 none none none none 0 0 0 0 :=
  ⟨by simp [Rws.st1, I64], by simp [Rws.st1, U64], by simp [Rws.st1, U64], slr_nil _ _ _, slr_nil _ _ _, slr_nil _ _ _, slr_nil _ _ _⟩
def val1 : List UInt8 := Rws.nums [(0, 8), (1, 8), (0, 8), (0, 2)]
theorem head1 : Rws.headRow Rws.st1 = ([0], val1) := rfl
theorem val1_len : val1.length = 26 := rfl
theorem val1_15 : val1[15]? = some 1 := rfl
theorem of1 : Rws.of Rws.st1 = [([0], val1)] := Rws.of_st1.trans (by rw [head1])
theorem state1 : Rws.stateOf [([0], val1)] = some Rws.st1 := by rw [← head1]; exact Rws.state_st1
theorem cnt_st0 : cnt Rws.st0 = 1 := rfl
theorem cnt_st1 : cnt Rws.st1 = 1 := rfl
theorem reads1 (h B : Nat) (hB : B ≤ h) : ReadsOf h h B ([0], val1) := fun s w A1 A2 c1 c2 hst _ b1 b2 => by
  have := read0_any B h h s [] val1 A1 A2 1 c1 c2 w hst hB b1 b2 (by simp) (by rw [val1_len]; omega)
  exact this
theorem cnts1 (j : Nat) (s : Rws.St) (h : Rws.readAll Rws.st0 ([([0], val1)].take j) = some s) : cnt s ≤ 1900000 := by
  match j with
  | 0 =>
    rw [List.take_zero] at h
    injection h with h
    subst h
    rw [cnt_st0]; omega
  | j + 1 =>
    have e : [(([0] : List UInt8), val1)].take (j + 1) = [([0], val1)] := by simp
    rw [e, ← head1, Rws.read_st1] at h
    injection h with h
    subst h
    rw [cnt_st1]; omega
theorem asks1 (s : Rws.St) (h : Rws.readAll Rws.st0 [([0], val1)] = some s) : ∀ a ∈ s.asked, a.ask.length ≤ 274877906944 ∧ a.reply.length ≤ 274877906944 := by
  rw [← head1, Rws.read_st1] at h
  injection h with h
  subst h
  intro a ha
  cases ha

set_option maxHeartbeats 4000000 in
set_option maxRecDepth 100000 in
theorem works_any (w : World) : Calls Try.prog 8 #[] w fun e w' => e = .returned (.bool true) ∧ Below w.heap.size w w' := by
  have HOF := Lib.hid (of_any 0 Rws.st1 w (st1_at w) (Nat.zero_le _) (by have := cnt_st1; unfold cnt at this; omega) (fun a ha => by cases ha))
  rw [of1] at HOF
  unfold stC at HOF
  simp only [Rws.st1, List.length_nil] at HOF
  go_enter Try.func8, Try.ntmps8
  go_wp2_with fail
  refine HOF.out.mono ?_
  rintro e w1 ⟨A1, c1, rfl, hown, hb1⟩
  have HB1 := Lib.hid hb1
  have HS1 := Lib.hid (hown.slr)
  have HLE := Lib.hid (show [(([0] : List UInt8), val1)].length = 1 from rfl)
  rw [HLE.out] at HS1 ⊢
  have HSS := Lib.hid (state_any w1.heap.size [([0], val1)] A1 1 c1 w1 HS1.out (Nat.le_refl _) (by omega) (fun p hp => by
    rw [List.mem_singleton] at hp
    subst hp
    exact reads1 _ _ (Nat.le_succ _)) cnts1 asks1)
  clear hown hb1
  go_wp2_with fail
  refine HSS.out.mono ?_
  rintro e w2 ⟨hy, _, hb2⟩
  obtain ⟨Aa, Ad, Ar, Aq, ca, cd, cr, cq, rfl, hat⟩ := hy _ state1
  have HB2 := Lib.hid hb2
  unfold stC
  clear hy hat hb2
  go_wp2_with fail
  have hbt := Blk.new w2 28 #[.int .i64 Rws.st1.day, .slice Aa Rws.st1.accts.length ca, .slice Ad Rws.st1.dues.length cd, .int .u64 Rws.st1.next, .slice Ar Rws.st1.rounds.length cr, .int .u64 Rws.st1.no, .slice Aq Rws.st1.asked.length cq]
  have hal := (Below.refl w2.heap.size w2).alloc (Nat.le_refl _) (.cells #[.int .i64 Rws.st1.day, .slice Aa Rws.st1.accts.length ca, .slice Ad Rws.st1.dues.length cd, .int .u64 Rws.st1.next, .slice Ar Rws.st1.rounds.length cr, .int .u64 Rws.st1.no, .slice Aq Rws.st1.asked.length cq] 28)
  generalize w2.alloc (.cells #[.int .i64 Rws.st1.day, .slice Aa Rws.st1.accts.length ca, .slice Ad Rws.st1.dues.length cd, .int .u64 Rws.st1.next, .slice Ar Rws.st1.rounds.length cr, .int .u64 Rws.st1.no, .slice Aq Rws.st1.asked.length cq] 28) = w2' at hbt hal ⊢
  obtain ⟨ht, hht⟩ : ∃ h, w2.heap.size = h := ⟨_, rfl⟩
  rw [hht] at hbt ⊢
  have HBT := Lib.hid hbt
  have HB3 := Lib.hid ((HB1.out.trans (HB2.out.mono HB1.out.size)).trans (hal.mono (HB1.out.trans (HB2.out.mono HB1.out.size)).size))
  have HB3' := Lib.hid (HB2.out.trans (hal.mono HB2.out.size))
  clear hbt hal hht
  refine (state_any 0 [] none 0 0 _ (slr_nil _ _ _) (Nat.zero_le _) (by omega) (fun p hp => by cases hp) (fun j s h => by
    rw [List.take_nil] at h
    injection h with h
    subst h
    rw [cnt_st0]; omega) (fun s h => by
    injection h with h
    subst h
    intro a ha
    cases ha)).mono ?_
  rintro e w3 ⟨_, hn, hb3⟩
  have he := hn Rws.state_nil
  subst he
  have HB4 := Lib.hid (HB3.out.trans (hb3.mono HB3.out.size))
  have HB4' := Lib.hid (HB3'.out.trans (hb3.mono HB3'.out.size))
  have HBT4 := Lib.hid (HBT.out.below hb3 HBT.out.lt)
  have hal := (Below.refl w3.heap.size w3).alloc (Nat.le_refl _) (.cells #[.int .i64 0, .slice none 0 0, .slice none 0 0, .int .u64 0, .slice none 0 0, .int .u64 0, .slice none 0 0] 28)
  obtain ⟨b, off, x, A3, A4, c3, c4, hA, hb, hx, q0, q1, y1, y2⟩ := pair_at (HS1.out.below (HB4'.out.trans (hal.mono HB4'.out.size)) (Nat.le_refl _)) (show 0 < 1 by omega)
  simp at hx
  subst hx
  subst hA
  obtain ⟨b5, o5, u, hA5, _, hu, q5, _⟩ := y2.sl.byte (k := 15) (by rw [val1_len]; omega)
  subst hA5
  rw [val1_15] at hu
  injection hu with hu
  subst hu
  have q3 := (HBT4.out.below hal HBT4.out.lt).cell 3
  simp only [List.getElem?_toArray, List.getElem?_cons_zero, List.getElem?_cons_succ] at q3
  have HB5 := Lib.hid (HB4.out.trans (hal.mono HB4.out.size))
  have e1 : ([0] : List UInt8).length = 1 := rfl
  have m2 := y2.sl.nc
  have m3 := y2.sl.cm
  rw [e1] at q0
  rw [val1_len] at q1 m2
  have q0' : (w3.alloc (.cells #[.int .i64 0, .slice none 0 0, .slice none 0 0, .int .u64 0, .slice none 0 0, .int .u64 0, .slice none 0 0] 28)).cell? ⟨b, off, none⟩ = some (.slice A3 1 c3) := by simpa using q0
  have q1' : (w3.alloc (.cells #[.int .i64 0, .slice none 0 0, .slice none 0 0, .int .u64 0, .slice none 0 0, .int .u64 0, .slice none 0 0] 28)).cell? ⟨b, off + 1, none⟩ = some (.slice (some ⟨b5, o5, none⟩) 26 c4) := by simpa using q1
  unfold zeroSt
  clear hn hb3 y1 y2 hb q0 q1 e1
  go_upto_region 4 with (fail)
  generalize w3.alloc (.cells #[.int .i64 0, .slice none 0 0, .slice none 0 0, .int .u64 0, .slice none 0 0, .int .u64 0, .slice none 0 0] 28) = w4 at q0' q1' q3 q5 hal HB5 ⊢
  clear hal
  go_wp2_with fail
  go_ret
  exact ⟨rfl, HB5.out⟩

end Go.Proofs.Ytniekddoaokmkaa

/-
  Layer 23 (rows): the rows of any state that lies in memory, in new memory; of one that does not fit none.
-/
import Derived.Test.YtniekddoaokmkaaRowAll
import Derived.Test.YtniekddoaokmkaaRowWhole
namespace Go.Proofs.Ytniekddoaokmkaa
open Go.RowKit Go.Gab
set_option linter.unusedVariables false
attribute [local go_sem ↓] Go.wp_at_zero Go.wp_at_succ

/-- Pairs in new memory. -/
def PairsTo (ps : List Rws.Pair) (w : World) (e : Ending) (w' : World) : Prop :=
  ∃ A c, e = .returned (.slice A ps.length c) ∧ OwnPairs w' w.heap.size (.slice A ps.length c) ps ∧ Below w.heap.size w w'

set_option maxHeartbeats 1000000 in
theorem of_any (B : Nat) (s : Rws.St) {Aa Ad Ar Aq : Option Addr} {ca cd cr cq : Nat} (w : World) (hst : StAt w B s Aa Ad Ar Aq ca cd cr cq) (hB : B ≤ w.heap.size)
    (hfew : (Rws.rowsOf s).length ≤ 1900000) (hask : ∀ a ∈ s.asked, a.ask.length ≤ 274877906944 ∧ a.reply.length ≤ 274877906944) :
    Calls Try.prog 9 #[.agg (stC s Aa Ad Ar Aq ca cd cr cq).toArray] w (PairsTo (Rws.of s) w) := by
  have HFEW := Lib.hid hfew
  have HASK := Lib.hid hask
  have HBB := Lib.hid hB
  have l0 : Below w.heap.size w (w.alloc (.cells (stC s Aa Ad Ar Aq ca cd cr cq).toArray 28)) := (Below.refl _ _).alloc (Nat.le_refl _) _
  have l1 := l0.alloc l0.size (.cells #[.slice none 0 0] 32)
  have bS := (Blk.new w 28 (stC s Aa Ad Ar Aq ca cd cr cq).toArray).alloc (.cells #[.slice none 0 0] 32)
  have bO := Blk.new (w.alloc (.cells (stC s Aa Ad Ar Aq ca cd cr cq).toArray 28)) 32 #[.slice none 0 0]
  have HST := Lib.hid (hst.below l1 hB)
  have hsz : (w.alloc (.cells (stC s Aa Ad Ar Aq ca cd cr cq).toArray 28)).heap.size = w.heap.size + 1 := by simp
  rw [hsz] at bO
  unfold stC at l1 bS bO HST ⊢
  clear hst hfew hask l0 hB hsz
  go_enter Try.func9, Try.ntmps9
  go_wp2_with fail
  generalize (w.alloc (.cells #[.int .i64 s.day, .slice Aa s.accts.length ca, .slice Ad s.dues.length cd, .int .u64 s.next, .slice Ar s.rounds.length cr, .int .u64 s.no, .slice Aq s.asked.length cq] 28)).alloc (.cells #[.slice none 0 0] 32) = W1 at l1 bS bO HST ⊢
  have HL1 := Lib.hid l1
  have HBS := Lib.hid bS
  have HBO := Lib.hid bO
  obtain ⟨b, hb⟩ : ∃ b, Rws.whole s = b := ⟨_, rfl⟩
  have HWB := Lib.hid hb
  obtain ⟨hz, hhz⟩ : ∃ h, w.heap.size = h := ⟨_, rfl⟩
  have HHZ := Lib.hid hhz
  have HW := Lib.hid (whole_any B s W1 HST.out (Nat.le_trans HBB.out HL1.out.size))
  rw [hb] at HW
  rw [hhz] at HBS HBO ⊢
  unfold stC at HW
  clear l1 bS bO hb hhz
  refine HW.out.mono ?_
  rintro e w2 ⟨rfl, hb2⟩
  have HB2 := Lib.hid hb2
  have HBS2 := Lib.hid (HBS.out.below hb2 HBS.out.lt)
  have HBO2 := Lib.hid (HBO.out.below hb2 HBO.out.lt)
  have HL2 := Lib.hid (HL1.out.trans (hb2.mono HL1.out.size))
  have hlt2 : hz + 1 < w2.heap.size := HBO2.out.lt
  have c0 := HBS2.out.cell 0
  have c1 := HBS2.out.cell 1
  have c2 := HBS2.out.cell 2
  have c3 := HBS2.out.cell 3
  have c4 := HBS2.out.cell 4
  have c5 := HBS2.out.cell 5
  have c6 := HBS2.out.cell 6
  have k0 := HBO2.out.cell 0
  have f0 := HBO2.out.frozen 0
  simp only [List.getElem?_toArray, List.getElem?_cons_zero, List.getElem?_cons_succ] at c0 c1 c2 c3 c4 c5 c6 k0
  clear hb2
  cases b with
  | false =>
    have HE := Lib.hid (show Rws.of s = [] by unfold Rws.of; rw [HWB.out]; rfl)
    go_wp2_with fail
    refine bodyPost_ret (v := .slice none 0 0) (by simp [results, Try.results9, go_sem, k0]) rfl ?_
    rw [HE.out]
    refine ⟨none, 0, rfl, OwnPairs.nil_ _ _, HL2.out.setCell (p := ⟨hz + 1, 0, none⟩) ?_ _⟩
    have := HHZ.out
    simp; omega
  | true =>
    have HE := Lib.hid (show Rws.of s = Rws.rowsOf s by unfold Rws.of; rw [HWB.out]; rfl)
    have HST2 := Lib.hid (HST.out.below HB2.out (Nat.le_trans HBB.out HL1.out.size))
    have HTO := Lib.hid (show Told w2 hz (hz + 1) [] from ⟨Nat.le_succ _, by omega, by simp, .slice none 0 0, HBO2.out, OwnPairs.nil_ _ _⟩)
    have HRO := Lib.hid (rows_any hz (hz + 1) B s w2 (by rw [← HHZ.out]; exact HBB.out) HTO.out HST2.out HFEW.out HASK.out)
    unfold stC tellV at HRO
    go_wp2_with fail
    refine HRO.out.mono ?_
    rintro e w3 ⟨rfl, ht3, hs3⟩
    obtain ⟨v, hbv, hov⟩ := ht3.rows
    obtain ⟨A, c, rfl⟩ := hov.slice_
    have HOV := Lib.hid hov
    have HBV := Lib.hid hbv
    have HL3 := Lib.hid (HL2.out.trans (hs3.bel.mono (by rw [HHZ.out]; exact Nat.le_refl _)))
    have k3 := HBV.out.cell 0
    have f3 := HBV.out.frozen 0
    have hlt3 : hz + 1 < w3.heap.size := HBV.out.lt
    simp only [List.getElem?_toArray, List.getElem?_cons_zero] at k3
    clear ht3 hs3 hbv hov c0 c1 c2 c3 c4 c5 c6 k0 f0
    go_wp2_with fail
    refine bodyPost_ret (v := .slice A (Rws.rowsOf s).length c) (by simp [results, Try.results9, go_sem, k3]) rfl ?_
    rw [HE.out]
    have hgf := only_setCell (World.grownBy.refl w3 (some (hz + 1))) (p := ⟨hz + 1, 0, none⟩) (.inl rfl) (.slice A (Rws.rowsOf s).length c)
    refine ⟨A, c, rfl, (HOV.out.keptBlk hgf HBV.out (by decide) (by decide)).low (by rw [HHZ.out]; exact Nat.le_refl _), HL3.out.setCell (p := ⟨hz + 1, 0, none⟩) ?_ _⟩
    have := HHZ.out
    simp; omega

end Go.Proofs.Ytniekddoaokmkaa

/-
  Layer 23 (rows): numbers taken off bytes, walked.
-/
import Derived.Test.YtniekddoaokmkaaRdState
import Derived.Lib.QuietBelow
namespace Go.Proofs.Ytniekddoaokmkaa
open Go.RowKit Go.Gab Go.Sort
set_option linter.unusedVariables false
attribute [local go_sem ↓] Go.wp_at_zero Go.wp_at_succ

def rdC (r : Rws.Rd) (A : Option Addr) (c : Nat) : Array Value := #[.slice A r.b.length c, .int .i64 (r.at_ : Int), .bool r.sh]
/-- A reader in memory. -/
structure RdAt (w : World) (h B : Nat) (r : Rws.Rd) (A : Option Addr) (c : Nat) : Prop where
  blk : Blk w h 99 (rdC r A c)
  bytes : BytesAt w B A r.b.length c r.b
  at_ : r.at_ ≤ r.b.length
  len : r.b.length ≤ 274877906944
  low : B ≤ h
section
variable {w w' : World} {h B : Nat} {r : Rws.Rd} {A : Option Addr} {c : Nat}
theorem RdAt.below (hr : RdAt w h B r A c) (hb : Below w.heap.size w w') : RdAt w' h B r A c :=
  ⟨hr.blk.below hb hr.blk.lt, hr.bytes.below hb (Nat.le_trans hr.low (Nat.le_of_lt hr.blk.lt)), hr.at_, hr.len, hr.low⟩
/-- Another block has turned. -/
theorem RdAt.kept {q : Option Nat} (hr : RdAt w h B r A c) (hg : w.grownBy w' q) (hq : ∀ k, q = some k → k ≠ h ∧ B ≤ k) : RdAt w' h B r A c :=
  ⟨hr.blk.grown hg (fun e => (hq h e.symm).1 rfl), ⟨hr.bytes.sl.keep fun a ha => World.cell?_of_block (hg.block a.block (Nat.lt_of_lt_of_le ha (Nat.le_trans hr.low (Nat.le_of_lt hr.blk.lt))) (fun e => by have := (hq _ e.symm).2; omega)), hr.bytes.cm⟩, hr.at_, hr.len, hr.low⟩
theorem RdAt.drew (hr : RdAt w h B r A c) : RdAt w.drew h B r A c := hr.below ((Below.refl _ _).drew)
end
/-- One has been taken: just the reader's block has turned. -/
def TakeTo (h B : Nat) (A : Option Addr) (c : Nat) (v : Value) (r' : Rws.Rd) (w : World) (e : Ending) (w' : World) : Prop :=
  e = .returned v ∧ RdAt w' h B r' A c ∧ w.grownBy w' (some h)

theorem oct_take (b : List UInt8) (a k : Nat) (ha : a ≤ b.length) (hk : Oct.size (k : Int) = true) : Oct.take b (a : Int) (k : Int) = if b.length < a + k then (0, 0, 5) else (Oct.val ((b.drop a).take k), (a : Int) + (k : Int), 0) := by
  unfold Oct.take
  have h1 : ¬ (Oct.size (k : Int) = false ∨ (a : Int) < 0 ∨ (b.length : Int) < (a : Int)) := by rw [hk]; simp; omega
  by_cases h2 : b.length < a + k
  · rw [if_pos h2]
    split
    · rename_i h3; exact absurd h3 (by first | exact h1 | simpa using h1)
    · rw [if_pos (by omega)]
  · rw [if_neg h2]
    split
    · rename_i h3; exact absurd h3 (by first | exact h1 | simpa using h1)
    · rw [if_neg (by omega)]; simp

set_option maxHeartbeats 1000000 in
set_option maxRecDepth 100000 in
theorem rtake_any (h B : Nat) (r : Rws.Rd) (k : Nat) (A : Option Addr) (c : Nat) (w : World) (hr : RdAt w h B r A c) (hk : Oct.size (k : Int) = true) :
    Calls Try.prog 48 #[.pointer (some ⟨h, 0, none⟩), .int .i64 (k : Int)] w (TakeTo h B A c (.int .u64 ((r.take k).1 : Int)) (r.take k).2 w) := by
  have hB := hr.blk
  have HR := Lib.hid hr
  have g0 : ∀ d os, (grow (redrawn w d) os).cell? ⟨h, 0, none⟩ = some (.slice A r.b.length c) := fun d os => cell_regrown (hB.cell 0) (w := w) d os
  have g1 : ∀ d os, (grow (redrawn w d) os).cell? ⟨h, 1, none⟩ = some (.int .i64 (r.at_ : Int)) := fun d os => cell_regrown (hB.cell 1) (w := w) d os
  have hlt : h < w.heap.size := hB.lt
  have HTK := Lib.hid (oct_take r.b r.at_ k hr.at_ hk)
  have HCT := Lib.hid (fun d os => Calls.regrown_of (d := d) (os := os) (take_any w.heap.size A r.b.length c r.b (r.at_ : Int) (k : Int) (grow (redrawn w d) os) ((hr.bytes.more (Nat.le_trans hr.low (Nat.le_of_lt hlt))).below (below_regrown w d os) (Nat.le_refl _)).sl (below_regrown w d os).size (by have := hr.len; omega)))
  have HSZ := Lib.hid hk
  clear hr hB hk
  obtain ⟨b, a, sh⟩ := r
  simp only at HTK HCT g0 g1
  by_cases hs : sh = true
  · subst hs
    have HRT := Lib.hid (show (⟨b, a, true⟩ : Rws.Rd).take k = (0, ⟨b, a, true⟩) by unfold Rws.Rd.take; rw [if_pos (by rfl)])
    obtain ⟨⟨x, nx, er⟩, hx⟩ : ∃ x, Oct.take b (a : Int) (k : Int) = x := ⟨_, rfl⟩
    rw [hx] at HCT
    unfold takeV at HCT
    clear hx
    go_enter Try.func48, Try.ntmps48
    go_wp2_with fail
    refine wp_region_quiet_below (by kernel_rfl) (by kernel_rfl) ?_
    repeat (go_big_quiet_step (with_reducible exact HCT.out _ _))
    refine wpQuiet_nil ?_
    intro w2 hw2
    have HB := Lib.hid (show Below w.heap.size w w2 by obtain ⟨q, rfl⟩ := hw2; exact below_regrown _ _ _)
    have HR2 := Lib.hid (HR.out.below HB.out)
    have hlt2 : h < w2.heap.size := HR2.out.blk.lt
    have c1 := HR2.out.blk.cell 1
    have c2 := HR2.out.blk.cell 2
    have f1 := HR2.out.blk.frozen 1
    have f2 := HR2.out.blk.frozen 2
    have HG := Lib.hid (only_setCell (only_of_below HB.out (some h)) (p := ⟨h, 2, none⟩) (.inl rfl) (.bool true))
    have HBS := Lib.hid (HR2.out.blk.set_ 2 (.bool true))
    have HBY := Lib.hid (HR2.out.bytes.sl.setCell (p := ⟨h, 2, none⟩) HR2.out.low (.bool true))
    simp only [rdC, List.getElem?_toArray, List.getElem?_cons_zero, List.getElem?_cons_succ] at c1 c2
    clear hw2 g0 g1
    go_wp2_with fail
    go_ret
    rw [HRT.out]
    exact ⟨rfl, ⟨HBS.out, ⟨HBY.out, HR2.out.bytes.cm⟩, HR.out.at_, HR.out.len, HR.out.low⟩, HG.out⟩
  · rw [Bool.not_eq_true] at hs
    subst hs
    by_cases hf : b.length < a + k
    · have HRT := Lib.hid (show (⟨b, a, false⟩ : Rws.Rd).take k = (0, ⟨b, a, true⟩) by unfold Rws.Rd.take; rw [if_pos (by simp [hf])])
      rw [HTK.out, if_pos hf] at HCT
      unfold takeV at HCT
      clear hf
      go_enter Try.func48, Try.ntmps48
      go_wp2_with fail
      refine wp_region_quiet_below (by kernel_rfl) (by kernel_rfl) ?_
      repeat (go_big_quiet_step (with_reducible exact HCT.out _ _))
      refine wpQuiet_nil ?_
      intro w2 hw2
      have HB := Lib.hid (show Below w.heap.size w w2 by obtain ⟨q, rfl⟩ := hw2; exact below_regrown _ _ _)
      have HR2 := Lib.hid (HR.out.below HB.out)
      have hlt2 : h < w2.heap.size := HR2.out.blk.lt
      have c1 := HR2.out.blk.cell 1
      have c2 := HR2.out.blk.cell 2
      have f1 := HR2.out.blk.frozen 1
      have f2 := HR2.out.blk.frozen 2
      have HG := Lib.hid (only_setCell (only_of_below HB.out (some h)) (p := ⟨h, 2, none⟩) (.inl rfl) (.bool true))
      have HBS := Lib.hid (HR2.out.blk.set_ 2 (.bool true))
      have HBY := Lib.hid (HR2.out.bytes.sl.setCell (p := ⟨h, 2, none⟩) HR2.out.low (.bool true))
      simp only [rdC, List.getElem?_toArray, List.getElem?_cons_zero, List.getElem?_cons_succ] at c1 c2
      clear hw2 g0 g1
      go_wp2_with fail
      go_ret
      rw [HRT.out]
      exact ⟨rfl, ⟨HBS.out, ⟨HBY.out, HR2.out.bytes.cm⟩, HR.out.at_, HR.out.len, HR.out.low⟩, HG.out⟩
    · have HRT := Lib.hid (show (⟨b, a, false⟩ : Rws.Rd).take k = (Oct.val ((b.drop a).take k), ⟨b, a + k, false⟩) by unfold Rws.Rd.take; rw [if_neg (by simp; omega)])
      have HF := Lib.hid hf
      rw [HTK.out, if_neg hf] at HCT
      unfold takeV at HCT
      obtain ⟨x, hx⟩ : ∃ x, Oct.val ((b.drop a).take k) = x := ⟨_, rfl⟩
      rw [hx] at HCT HRT
      clear hf hx
      go_enter Try.func48, Try.ntmps48
      go_wp2_with fail
      refine wp_region_quiet_below (by kernel_rfl) (by kernel_rfl) ?_
      repeat (go_big_quiet_step (with_reducible exact HCT.out _ _))
      refine wpQuiet_nil ?_
      intro w2 hw2
      have HB := Lib.hid (show Below w.heap.size w w2 by obtain ⟨q, rfl⟩ := hw2; exact below_regrown _ _ _)
      have HR2 := Lib.hid (HR.out.below HB.out)
      have hlt2 : h < w2.heap.size := HR2.out.blk.lt
      have c1 := HR2.out.blk.cell 1
      have c2 := HR2.out.blk.cell 2
      have f1 := HR2.out.blk.frozen 1
      have f2 := HR2.out.blk.frozen 2
      have HG := Lib.hid (only_setCell (only_of_below HB.out (some h)) (p := ⟨h, 2, none⟩) (.inl rfl) (.bool false))
      have HBS := Lib.hid (HR2.out.blk.set_ 2 (.bool false))
      have HBY := Lib.hid (HR2.out.bytes.sl.setCell (p := ⟨h, 2, none⟩) HR2.out.low (.bool false))
      simp only [rdC, List.getElem?_toArray, List.getElem?_cons_zero, List.getElem?_cons_succ] at c1 c2
      clear hw2 g0 g1
      go_wp2_with fail
      have HB3 := Lib.hid (HBS.out.set_ 1 (.int .i64 ((a : Int) + (k : Int))))
      have HG3 := Lib.hid (only_setCell HG.out (p := ⟨h, 1, none⟩) (.inl rfl) (.int .i64 ((a : Int) + (k : Int))))
      have HY3 := Lib.hid (HBY.out.setCell (p := ⟨h, 1, none⟩) HR2.out.low (.int .i64 ((a : Int) + (k : Int))))
      go_ret
      rw [HRT.out]
      exact ⟨rfl, ⟨HB3.out, ⟨HY3.out, HR2.out.bytes.cm⟩, by have := HF.out; simp only; omega, HR.out.len, HR.out.low⟩, HG3.out⟩

end Go.Proofs.Ytniekddoaokmkaa

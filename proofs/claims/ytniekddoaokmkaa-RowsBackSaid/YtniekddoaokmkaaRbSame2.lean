/-
  RowsBack: the same rounds, walked: of what is the same they say so.
  Behind it: the same states.
-/
import Derived.Test.YtniekddoaokmkaaRbSame
import Derived.Test.YtniekddoaokmkaaRowWhole
namespace Go.Proofs.Ytniekddoaokmkaa
open Go.RowKit Go.Gab Go.Sort
set_option linter.unusedVariables false
attribute [local go_sem ↓] Go.wp_at_zero Go.wp_at_succ

def SameB (w : World) (e : Ending) (w' : World) : Prop := e = .returned (.bool true) ∧ Below w.heap.size w w'

set_option maxHeartbeats 4000000 in
set_option maxRecDepth 100000 in
theorem sameNet_any (B : Nat) (l : List Rws.Edge) (z : Int) (A A2 : Option Addr) (n c c2 : Nat) (w : World) (h : SlR edgeR w B A n c l) (h' : SlR edgeR w B A2 n c2 l) (hB : B ≤ w.heap.size) :
    Calls Try.prog 66 #[.agg #[.int .i64 z, .slice A n c], .agg #[.int .i64 z, .slice A2 n c2]] w (SameB w) := by
  have l0 : Below w.heap.size w (w.alloc (.cells #[.int .i64 z, .slice A n c] 59)) := (Below.refl _ _).alloc (Nat.le_refl _) _
  have l1 := l0.alloc l0.size (.cells #[.int .i64 z, .slice A2 n c2] 59)
  have bR := (Blk.new w 59 #[.int .i64 z, .slice A n c]).alloc (.cells #[.int .i64 z, .slice A2 n c2] 59)
  have bS := Blk.new (w.alloc (.cells #[.int .i64 z, .slice A n c] 59)) 59 #[.int .i64 z, .slice A2 n c2]
  rw [show (w.alloc (.cells #[.int .i64 z, .slice A n c] 59)).heap.size = w.heap.size + 1 by simp] at bS
  have HL := Lib.hid (h.below l1 hB)
  have HL2 := Lib.hid (h'.below l1 hB)
  have h1 := h.nc
  have h2 := h.cm
  have h3 := h'.nc
  have h4 := h'.cm
  clear h h'
  go_enter Try.func66, Try.ntmps66
  go_wp2_with fail
  generalize (w.alloc (.cells #[.int .i64 z, .slice A n c] 59)).alloc (.cells #[.int .i64 z, .slice A2 n c2] 59) = W1 at l1 bR bS HL HL2 ⊢
  have HW1 := Lib.hid l1
  obtain ⟨h0, hh0⟩ : ∃ h, w.heap.size = h := ⟨_, rfl⟩
  rw [hh0] at bR bS HW1 ⊢
  have HBR := Lib.hid bR
  have HBS := Lib.hid bS
  clear l0 l1 bR bS hB
  go_loopw [5] (fun i wr => ∃ (j : Nat), j ≤ n ∧ i = .int .i64 j ∧ Drawn W1 wr) (fun i _ => n - (intOf i).toNat)
  case atStart => exact ⟨0, Nat.zero_le _, rfl, Drawn.refl _⟩
  case round =>
    obtain ⟨j, hj, rfl, hd⟩ := hrel
    have HD := Lib.hid hd
    have c0 := (HBR.out.below (hd.below (Below.refl _ _)) HBR.out.lt).cell 1
    have c1 := (HBS.out.below (hd.below (Below.refl _ _)) HBS.out.lt).cell 1
    simp only [List.getElem?_toArray, List.getElem?_cons_zero, List.getElem?_cons_succ] at c0 c1
    by_cases hlt : j < n
    · have t1 := edge_at (hd.slr HL.out) hlt
      have t2 := edge_at (hd.slr HL2.out) hlt
      clear hd
      obtain ⟨b, off, x, hA, hb, hx, p0, p1, p2, p3, _⟩ := t1
      obtain ⟨b', off', y, hA', hb', hy, r0, r1, r2, r3, _⟩ := t2
      subst hA hA'
      obtain rfl : x = y := by rw [hx] at hy; injection hy
      have g4 : (0 : Int) ≤ (j : Int) := by omega
      have g5 : (j : Int) < (n : Int) := by omega
      clear hx hy hb hb'
      go_wp2_with fail
      go_quiet (fail)
      have HD2 := Lib.hid (HD.out.drewN nq)
      generalize wr.drewN nq = w2 at HD2 ⊢
      go_wp2_with fail
      go_roundw
      case rel => exact ⟨j + 1, by omega, by go_num, HD2.out⟩
      case measure => simp [intOf]; omega
    · have g1 : ¬ ((j : Int) < (n : Int)) := by omega
      go_wp2_with fail
      go_ret
      exact ⟨rfl, by rw [hh0]; exact HD.out.below HW1.out⟩

theorem below_of_drawn {w w' : World} (h : Drawn w w') : Below w.heap.size w w' := h.below (Below.refl _ _)

set_option maxHeartbeats 8000000 in
set_option maxRecDepth 100000 in
theorem same20_any (B : Nat) (x : Rws.Round) {Ai Ae Af Ap Bi Be Bf Bp : Option Addr} {ci ce cf cp di de df dp : Nat} (w : World) (h : RoundAt w B x Ai Ae Af Ap ci ce cf cp) (h' : RoundAt w B x Bi Be Bf Bp di de df dp) (hB : B ≤ w.heap.size) :
    Calls Try.prog 52 #[.agg (roundC x Ai Ae Af Ap ci ce cf cp).toArray, .agg (roundC x Bi Be Bf Bp di de df dp).toArray] w (SameB w) := by
  have l0 : Below w.heap.size w (w.alloc (.cells (roundC x Ai Ae Af Ap ci ce cf cp).toArray 64)) := (Below.refl _ _).alloc (Nat.le_refl _) _
  have l1 := l0.alloc l0.size (.cells (roundC x Bi Be Bf Bp di de df dp).toArray 64)
  have bR := (Blk.new w 64 (roundC x Ai Ae Af Ap ci ce cf cp).toArray).alloc (.cells (roundC x Bi Be Bf Bp di de df dp).toArray 64)
  have bS := Blk.new (w.alloc (.cells (roundC x Ai Ae Af Ap ci ce cf cp).toArray 64)) 64 (roundC x Bi Be Bf Bp di de df dp).toArray
  rw [show (w.alloc (.cells (roundC x Ai Ae Af Ap ci ce cf cp).toArray 64)).heap.size = w.heap.size + 1 by simp] at bS
  have HR := Lib.hid (h.below l1 hB)
  have HR2 := Lib.hid (h'.below l1 hB)
  have HN := Lib.hid (sameNet_any B x.edges x.n Ae Be x.edges.length ce de _ (h.below l1 hB).edges (h'.below l1 hB).edges (Nat.le_trans hB l1.size))
  have m1 := h.ids.nc
  have m2 := h.ids.cm
  have m3 := h.edges.nc
  have m4 := h.edges.cm
  have m5 := h.flow.nc
  have m6 := h.flow.cm
  have m7 := h.pot.nc
  have m8 := h.pot.cm
  have n1 := h'.ids.nc
  have n2 := h'.ids.cm
  have n3 := h'.edges.nc
  have n4 := h'.edges.cm
  have n5 := h'.flow.nc
  have n6 := h'.flow.cm
  have n7 := h'.pot.nc
  have n8 := h'.pot.cm
  have HB0 := Lib.hid hB
  unfold roundC at l1 bR bS HR HR2 HN ⊢
  clear h h' l0 hB
  go_enter Try.func52, Try.ntmps52
  go_wp2_with fail
  generalize (w.alloc (.cells #[.int .u64 x.no, .int .i64 x.day, .bool x.comp, .slice Ai x.ids.length ci, .int .i64 x.n, .slice Ae x.edges.length ce, .slice Af x.flow.length cf, .slice Ap x.pot.length cp] 64)).alloc (.cells #[.int .u64 x.no, .int .i64 x.day, .bool x.comp, .slice Bi x.ids.length di, .int .i64 x.n, .slice Be x.edges.length de, .slice Bf x.flow.length df, .slice Bp x.pot.length dp] 64) = W1 at l1 bR bS HR HR2 HN ⊢
  have HW1 := Lib.hid l1
  obtain ⟨h0, hh0⟩ : ∃ h, w.heap.size = h := ⟨_, rfl⟩
  rw [hh0] at bR bS HW1 HB0 ⊢
  have HBR := Lib.hid bR
  have HBS := Lib.hid bS
  clear l1 bR bS
  refine HN.out.mono ?_
  rintro e w2 ⟨rfl, hb2⟩
  have hsz : h0 ≤ W1.heap.size := by rw [← hh0]; exact HW1.out.size
  have HW2 := Lib.hid (HW1.out.trans (hb2.mono hsz))
  have HR1 := Lib.hid (HR.out.below hb2 (Nat.le_trans HB0.out hsz))
  have HR3 := Lib.hid (HR2.out.below hb2 (Nat.le_trans HB0.out hsz))
  have HBR1 := Lib.hid (HBR.out.below hb2 HBR.out.lt)
  have HBS1 := Lib.hid (HBS.out.below hb2 HBS.out.lt)
  have HKR := Lib.hid (fun wr (hd : Drawn w2 wr) => HBR1.out.below (below_of_drawn hd) HBR1.out.lt)
  have HKS := Lib.hid (fun wr (hd : Drawn w2 wr) => HBS1.out.below (below_of_drawn hd) HBS1.out.lt)
  have HC := Lib.hid (fun wr (hd : Drawn w2 wr) => (show (wr.cell? ⟨h0, 3, none⟩ = some (.slice Ai x.ids.length ci) ∧ wr.cell? ⟨h0, 6, none⟩ = some (.slice Af x.flow.length cf) ∧ wr.cell? ⟨h0, 7, none⟩ = some (.slice Ap x.pot.length cp)) ∧ wr.cell? ⟨h0 + 1, 3, none⟩ = some (.slice Bi x.ids.length di) ∧ wr.cell? ⟨h0 + 1, 6, none⟩ = some (.slice Bf x.flow.length df) ∧ wr.cell? ⟨h0 + 1, 7, none⟩ = some (.slice Bp x.pot.length dp) by
    have a3 := (HKR.out wr hd).cell 3
    have a6 := (HKR.out wr hd).cell 6
    have a7 := (HKR.out wr hd).cell 7
    have b3 := (HKS.out wr hd).cell 3
    have b6 := (HKS.out wr hd).cell 6
    have b7 := (HKS.out wr hd).cell 7
    simp only [List.getElem?_toArray, List.getElem?_cons_zero, List.getElem?_cons_succ] at a3 a6 a7 b3 b6 b7
    exact ⟨⟨a3, a6, a7⟩, b3, b6, b7⟩))
  obtain ⟨⟨a3, a6, a7⟩, b3, b6, b7⟩ := HC.out w2 (Drawn.refl _)
  clear hb2 hsz
  go_wp2_with fail
  clear a3 a6 a7 b3 b6 b7
  go_loopw [5] (fun i wr => ∃ (j : Nat), j ≤ x.ids.length ∧ i = .int .i64 j ∧ Drawn w2 wr) (fun i _ => x.ids.length - (intOf i).toNat)
  case atStart => exact ⟨0, Nat.zero_le _, rfl, Drawn.refl _⟩
  case round =>
    obtain ⟨j, hj, rfl, hd⟩ := hrel
    have HD := Lib.hid hd
    obtain ⟨⟨a3, a6, a7⟩, b3, b6, b7⟩ := HC.out wr hd
    by_cases hlt : j < x.ids.length
    · have t1 := int_at (hd.slr HR1.out.ids) hlt
      have t2 := int_at (hd.slr HR3.out.ids) hlt
      clear hd
      obtain ⟨b, off, z, hA, hb, hx, p0, _⟩ := t1
      obtain ⟨b', off', y, hA', hb', hy, r0, _⟩ := t2
      subst hA hA'
      obtain rfl : z = y := by rw [hx] at hy; injection hy
      have g4 : (0 : Int) ≤ (j : Int) := by omega
      have g5 : (j : Int) < (x.ids.length : Int) := by omega
      clear hx hy hb hb'
      go_wp2_with fail
      go_quiet (fail)
      have HD2 := Lib.hid (HD.out.drewN nq)
      generalize wr.drewN nq = w3 at HD2 ⊢
      go_wp2_with fail
      go_roundw
      case rel => exact ⟨j + 1, by omega, by go_num, HD2.out⟩
      case measure => simp [intOf]; omega
    · have g1 : ¬ ((j : Int) < (x.ids.length : Int)) := by omega
      obtain ⟨w4, rfl⟩ : ∃ w4, w4 = wr := ⟨_, rfl⟩
      go_wp2_with fail
      clear g1 a3 a6 a7 b3 b6 b7 hlt hj
      go_loopw [6] (fun i wr => ∃ (j : Nat), j ≤ x.flow.length ∧ i = .int .i64 j ∧ Drawn w2 wr) (fun i _ => x.flow.length - (intOf i).toNat)
      case atStart => exact ⟨0, Nat.zero_le _, rfl, HD.out⟩
      case round =>
        clear hd HD
        obtain ⟨j, hj, rfl, hd⟩ := hrel
        have HD := Lib.hid hd
        obtain ⟨⟨a3, a6, a7⟩, b3, b6, b7⟩ := HC.out wr hd
        by_cases hlt : j < x.flow.length
        · have t1 := int_at (hd.slr HR1.out.flow) hlt
          have t2 := int_at (hd.slr HR3.out.flow) hlt
          clear hd
          obtain ⟨b, off, z, hA, hb, hx, p0, _⟩ := t1
          obtain ⟨b', off', y, hA', hb', hy, r0, _⟩ := t2
          subst hA hA'
          obtain rfl : z = y := by rw [hx] at hy; injection hy
          have g4 : (0 : Int) ≤ (j : Int) := by omega
          have g5 : (j : Int) < (x.flow.length : Int) := by omega
          clear hx hy hb hb'
          go_wp2_with fail
          go_quiet (fail)
          have HD2 := Lib.hid (HD.out.drewN nq)
          generalize wr.drewN nq = w3 at HD2 ⊢
          go_wp2_with fail
          go_roundw
          case rel => exact ⟨j + 1, by omega, by go_num, HD2.out⟩
          case measure => simp [intOf]; omega
        · have g1 : ¬ ((j : Int) < (x.flow.length : Int)) := by omega
          obtain ⟨w5, rfl⟩ : ∃ w5, w5 = wr := ⟨_, rfl⟩
          go_wp2_with fail
          clear g1 a3 a6 a7 b3 b6 b7 hlt hj
          go_loopw [7] (fun i wr => ∃ (j : Nat), j ≤ x.pot.length ∧ i = .int .i64 j ∧ Drawn w2 wr) (fun i _ => x.pot.length - (intOf i).toNat)
          case atStart => exact ⟨0, Nat.zero_le _, rfl, HD.out⟩
          case round =>
            clear hd HD
            obtain ⟨j, hj, rfl, hd⟩ := hrel
            have HD := Lib.hid hd
            obtain ⟨⟨a3, a6, a7⟩, b3, b6, b7⟩ := HC.out wr hd
            by_cases hlt : j < x.pot.length
            · have t1 := int_at (hd.slr HR1.out.pot) hlt
              have t2 := int_at (hd.slr HR3.out.pot) hlt
              clear hd
              obtain ⟨b, off, z, hA, hb, hx, p0, _⟩ := t1
              obtain ⟨b', off', y, hA', hb', hy, r0, _⟩ := t2
              subst hA hA'
              obtain rfl : z = y := by rw [hx] at hy; injection hy
              have g4 : (0 : Int) ≤ (j : Int) := by omega
              have g5 : (j : Int) < (x.pot.length : Int) := by omega
              clear hx hy hb hb'
              go_wp2_with fail
              go_quiet (fail)
              have HD2 := Lib.hid (HD.out.drewN nq)
              generalize wr.drewN nq = w3 at HD2 ⊢
              go_wp2_with fail
              go_roundw
              case rel => exact ⟨j + 1, by omega, by go_num, HD2.out⟩
              case measure => simp [intOf]; omega
            · have g1 : ¬ ((j : Int) < (x.pot.length : Int)) := by omega
              go_wp2_with fail
              go_ret
              exact ⟨rfl, by rw [hh0]; exact HD.out.below HW2.out⟩

theorem same20_is (B : Nat) (x : Rws.Round) {Ai Ae Af Ap Bi Be Bf Bp : Option Addr} {ci ce cf cp di de df dp : Nat} (w : World) (h : RoundAt w B x Ai Ae Af Ap ci ce cf cp) (h' : RoundAt w B x Bi Be Bf Bp di de df dp) (hB : B ≤ w.heap.size) :
    Calls Try.prog 52 #[.agg (roundC x Ai Ae Af Ap ci ce cf cp).toArray, .agg (roundC x Bi Be Bf Bp di de df dp).toArray] w (fun e w' => e = .returned (.bool true) ∧ Below w.heap.size w w') := same20_any B x w h h' hB

set_option maxHeartbeats 4000000 in
set_option maxRecDepth 100000 in
theorem same21_any (B : Nat) (l : List Rws.Round) (A A2 : Option Addr) (n c c2 : Nat) (w : World) (h : SlR roundR w B A n c l) (h' : SlR roundR w B A2 n c2 l) (hB : B ≤ w.heap.size) :
    Calls Try.prog 28 #[.slice A n c, .slice A2 n c2] w (SameB w) := by
  have HL := Lib.hid h
  have HL2 := Lib.hid h'
  have h1 := h.nc
  have h2 := h.cm
  have h3 := h'.nc
  have h4 := h'.cm
  have HB0 := Lib.hid hB
  clear h h' hB
  go_enter Try.func28, Try.ntmps28
  go_wp2_with fail
  go_loopw [5] (fun i wr => ∃ (j : Nat), j ≤ n ∧ i = .int .i64 j ∧ Below w.heap.size w wr) (fun i _ => n - (intOf i).toNat)
  case atStart => exact ⟨0, Nat.zero_le _, rfl, Below.refl _ _⟩
  case round =>
    obtain ⟨j, hj, rfl, hd⟩ := hrel
    have HD := Lib.hid hd
    by_cases hlt : j < n
    · obtain ⟨b, off, x, Ai, Ae, Af, Ap, ci, ce, cf, cp, hA, hbb, hx, hra, p0, p1, p2, p3, p4, p5, p6, p7⟩ := round_at (HL.out.below hd HB0.out) hlt
      obtain ⟨b', off', y, Bi, Be, Bf, Bp, di, de, df, dp, hA', hbb', hy, hrb, r0, r1, r2, r3, r4, r5, r6, r7⟩ := round_at (HL2.out.below hd HB0.out) hlt
      subst hA hA'
      obtain rfl : x = y := by rw [hx] at hy; injection hy
      have HS := Lib.hid (fun d os => Calls.regrown_of (d := d) (os := os) (same20_is wr.heap.size x (grow (redrawn wr d) os) ((hra.more (Nat.le_trans HB0.out hd.size)).below (below_regrown wr d os) (Nat.le_refl _)) ((hrb.more (Nat.le_trans HB0.out hd.size)).below (below_regrown wr d os) (Nat.le_refl _)) (below_regrown wr d os).size))
      unfold roundC at HS
      have g4 : (0 : Int) ≤ (j : Int) := by omega
      have g5 : (j : Int) < (n : Int) := by omega
      have k0 := fun d os => cell_regrown p0 d os
      have k1 := fun d os => cell_regrown p1 d os
      have k2 := fun d os => cell_regrown p2 d os
      have k3 := fun d os => cell_regrown p3 d os
      have k4 := fun d os => cell_regrown p4 d os
      have k5 := fun d os => cell_regrown p5 d os
      have k6 := fun d os => cell_regrown p6 d os
      have k7 := fun d os => cell_regrown p7 d os
      have e0 := fun d os => cell_regrown r0 d os
      have e1 := fun d os => cell_regrown r1 d os
      have e2 := fun d os => cell_regrown r2 d os
      have e3 := fun d os => cell_regrown r3 d os
      have e4 := fun d os => cell_regrown r4 d os
      have e5 := fun d os => cell_regrown r5 d os
      have e6 := fun d os => cell_regrown r6 d os
      have e7 := fun d os => cell_regrown r7 d os
      clear hx hy hbb hbb' hra hrb hd p0 p1 p2 p3 p4 p5 p6 p7 r0 r1 r2 r3 r4 r5 r6 r7
      go_wp2_with fail
      refine wp_region_quiet_below (by kernel_rfl) (by kernel_rfl) ?_
      repeat (go_big_quiet_step (with_reducible exact HS.out _ _))
      refine wpQuiet_nil ?_
      intro w2 hw2
      have HB := Lib.hid (show Below wr.heap.size wr w2 by obtain ⟨q, rfl⟩ := hw2; exact below_regrown _ _ _)
      clear hw2 k0 k1 k2 k3 k4 k5 k6 k7 e0 e1 e2 e3 e4 e5 e6 e7
      go_wp2_with fail
      go_roundw
      case rel => exact ⟨j + 1, by omega, by go_num, HD.out.trans (HB.out.mono HD.out.size)⟩
      case measure => simp [intOf]; omega
    · have g1 : ¬ ((j : Int) < (n : Int)) := by omega
      go_wp2_with fail
      go_ret
      exact ⟨rfl, HD.out⟩

end Go.Proofs.Ytniekddoaokmkaa

namespace Go.Proofs.Ytniekddoaokmkaa
open Go.RowKit Go.Gab Go.Sort
set_option linter.unusedVariables false
attribute [local go_sem ↓] Go.wp_at_zero Go.wp_at_succ

set_option maxHeartbeats 4000000 in
set_option maxRecDepth 100000 in
theorem sameState_any (B : Nat) (s : Rws.St) {Aa Ad Ar Aq Ba Bd Br Bq : Option Addr} {ca cd cr cq da dd dr dq : Nat} (w : World) (h : StAt w B s Aa Ad Ar Aq ca cd cr cq) (h' : StAt w B s Ba Bd Br Bq da dd dr dq) (hB : B ≤ w.heap.size) :
    Calls Try.prog 11 #[.agg (stC s Aa Ad Ar Aq ca cd cr cq).toArray, .agg (stC s Ba Bd Br Bq da dd dr dq).toArray] w (SameB w) := by
  have l0 : Below w.heap.size w (w.alloc (.cells (stC s Aa Ad Ar Aq ca cd cr cq).toArray 28)) := (Below.refl _ _).alloc (Nat.le_refl _) _
  have l1 := l0.alloc l0.size (.cells (stC s Ba Bd Br Bq da dd dr dq).toArray 28)
  have bR := (Blk.new w 28 (stC s Aa Ad Ar Aq ca cd cr cq).toArray).alloc (.cells (stC s Ba Bd Br Bq da dd dr dq).toArray 28)
  have bS := Blk.new (w.alloc (.cells (stC s Aa Ad Ar Aq ca cd cr cq).toArray 28)) 28 (stC s Ba Bd Br Bq da dd dr dq).toArray
  rw [show (w.alloc (.cells (stC s Aa Ad Ar Aq ca cd cr cq).toArray 28)).heap.size = w.heap.size + 1 by simp] at bS
  have HS := Lib.hid (h.below l1 hB)
  have HS2 := Lib.hid (h'.below l1 hB)
  have m1 := h.accts.nc
  have m2 := h.accts.cm
  have m3 := h.dues.nc
  have m4 := h.dues.cm
  have m5 := h.rounds.nc
  have m6 := h.rounds.cm
  have m7 := h.asked.nc
  have m8 := h.asked.cm
  have n1 := h'.accts.nc
  have n2 := h'.accts.cm
  have n3 := h'.dues.nc
  have n4 := h'.dues.cm
  have n5 := h'.rounds.nc
  have n6 := h'.rounds.cm
  have n7 := h'.asked.nc
  have n8 := h'.asked.cm
  have HB0 := Lib.hid hB
  unfold stC at l1 bR bS HS HS2 ⊢
  clear h h' l0 hB
  go_enter Try.func11, Try.ntmps11
  go_wp2_with fail
  generalize (w.alloc (.cells #[.int .i64 s.day, .slice Aa s.accts.length ca, .slice Ad s.dues.length cd, .int .u64 s.next, .slice Ar s.rounds.length cr, .int .u64 s.no, .slice Aq s.asked.length cq] 28)).alloc (.cells #[.int .i64 s.day, .slice Ba s.accts.length da, .slice Bd s.dues.length dd, .int .u64 s.next, .slice Br s.rounds.length dr, .int .u64 s.no, .slice Bq s.asked.length dq] 28) = W1 at l1 bR bS HS HS2 ⊢
  have HW1 := Lib.hid l1
  obtain ⟨h0, hh0⟩ : ∃ h, w.heap.size = h := ⟨_, rfl⟩
  rw [hh0] at bR bS HW1 HB0 ⊢
  have hsz : h0 ≤ W1.heap.size := by rw [← hh0]; exact HW1.out.size
  have HSZ := Lib.hid hsz
  have HBR := Lib.hid bR
  have HBS := Lib.hid bS
  have HC := Lib.hid (fun wr (hb : Below W1.heap.size W1 wr) => (show (wr.cell? ⟨h0, 2, none⟩ = some (.slice Ad s.dues.length cd) ∧ wr.cell? ⟨h0, 4, none⟩ = some (.slice Ar s.rounds.length cr)) ∧ wr.cell? ⟨h0 + 1, 2, none⟩ = some (.slice Bd s.dues.length dd) ∧ wr.cell? ⟨h0 + 1, 4, none⟩ = some (.slice Br s.rounds.length dr) by
    have a2 := (HBR.out.below hb HBR.out.lt).cell 2
    have a4 := (HBR.out.below hb HBR.out.lt).cell 4
    have b2 := (HBS.out.below hb HBS.out.lt).cell 2
    have b4 := (HBS.out.below hb HBS.out.lt).cell 4
    simp only [List.getElem?_toArray, List.getElem?_cons_zero, List.getElem?_cons_succ] at a2 a4 b2 b4
    exact ⟨⟨a2, a4⟩, b2, b4⟩))
  clear l1 bR bS hsz
  refine (same17_any B s.accts Aa Ba s.accts.length ca da W1 HS.out.accts HS2.out.accts).mono ?_
  rintro e w2 ⟨rfl, hd2⟩
  have HD2 := Lib.hid hd2
  obtain ⟨⟨a2, a4⟩, b2, b4⟩ := HC.out w2 (below_of_drawn hd2)
  clear hd2
  go_wp2_with fail
  refine (same18_any B s.dues Ad Bd s.dues.length cd dd w2 (HD2.out.slr HS.out.dues) (HD2.out.slr HS2.out.dues)).mono ?_
  rintro e w3 ⟨rfl, hd3⟩
  clear a2 a4 b2 b4
  have HD3 := Lib.hid (HD2.out.trans hd3)
  obtain ⟨⟨a2, a4⟩, b2, b4⟩ := HC.out w3 (below_of_drawn HD3.out)
  clear hd3
  go_wp2_with fail
  refine (same21_any B s.rounds Ar Br s.rounds.length cr dr w3 (HD3.out.slr HS.out.rounds) (HD3.out.slr HS2.out.rounds) (Nat.le_trans HB0.out (Nat.le_trans HSZ.out (below_of_drawn HD3.out).size))).mono ?_
  rintro e w4 ⟨rfl, hb4⟩
  have HB4 := Lib.hid ((HD3.out.below HW1.out).trans (hb4.mono (Nat.le_trans HSZ.out (below_of_drawn HD3.out).size)))
  clear hb4 a2 a4 b2 b4
  go_wp2_with fail
  go_ret
  exact ⟨rfl, by rw [hh0]; exact HB4.out⟩

end Go.Proofs.Ytniekddoaokmkaa

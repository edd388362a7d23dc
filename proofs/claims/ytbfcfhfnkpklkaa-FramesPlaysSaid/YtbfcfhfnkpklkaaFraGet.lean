/-
  Layer 24 (frames): what bytes ask, walked.
-/
import Derived.Test.YtbfcfhfnkpklkaaFraAsk
import Derived.Test.YtbfcfhfnkpklkaaRowOps
import Derived.Deep.DeepCutAuto
namespace Go.Proofs.Ytbfcfhfnkpklkaa
open Go.RowKit Go.Gab
set_option linter.unusedVariables false
attribute [local go_sem ↓] Go.wp_at_zero Go.wp_at_succ

theorem askV_agg (d : Fra.Ask) : askV d = .agg #[.int .u8 (d.kind.toNat : Int), .int .i64 d.a, .int .i64 d.b, .int .i64 d.x, .int .i64 d.w, .int .i64 d.u, .int .u64 (d.id : Int)] := rfl

/-- Client, number, ask, error, as a value. -/
def gotV (r : Nat × Nat × Fra.Ask × Int) : Value := .tuple #[.int .u32 (r.1 : Int), .int .u64 (r.2.1 : Int), askV r.2.2.1, .int .i64 r.2.2.2]

theorem RdAt.far {w : World} {h : Nat} {A : Option Addr} {n c : Nat} {bs : List UInt8} {p : Nat} (hr : RdAt w h A n c bs p) {q : Addr} (hq : h ≠ q.block) (hA : ∀ a, A = some a → a.block ≠ q.block) (v : Value) : RdAt (w.setCell q v) h A n c bs p := by
  refine ⟨hr.obj.far hq v, ⟨⟨hr.sl.rd.1, fun hn => ?_⟩, hr.sl.nc, hr.sl.cm⟩, hr.small⟩
  obtain ⟨ad, e, hb, hc⟩ := hr.sl.rd.2 hn
  exact ⟨ad, e, hb, fun j u hu => (World.cell?_setCell_other w q _ v (fun he => by have := hA ad e; rw [he, block_of_add] at this; exact this rfl)).trans (hc j u hu)⟩

theorem getAsk_no (A : Option Addr) (n c : Nat) (bs : List UInt8) (w : World) (hs : Sl w w.heap.size 1 A n c (bs.map byteV)) (hn : (n : Int) ≠ 42) (hm : n ≤ 1000000) :
    Calls Try.prog 49 #[.slice A n c] w fun e w' => e = .returned (gotV (0, 0, Fra.zeroAsk, 5)) ∧ Below w.heap.size w w' := by
  go_enter Try.func49, Try.ntmps49
  go_wp2_with fail
  exact bodyPost_ret (v := gotV (0, 0, Fra.zeroAsk, 5)) (by simp [results, Try.results49, go_sem, gotV, askV, Fra.zeroAsk]) rfl ⟨rfl, (Below.refl _ _).alloc (Nat.le_refl _) _⟩

theorem wrap_s16 (n : Nat) : wrap64 (IntKind.i16.wrap (n : Int)) = Fra.s16 n := by
  unfold Fra.s16 wrap64
  simp [IntKind.wrap, IntKind.bits, IntKind.signed]
  omega
theorem wrap_s64 (n : Nat) : wrap64 (n : Int) = Fra.s64 n := by
  unfold Fra.s64 wrap64
  rfl
theorem askInfo : (Try.prog.info? 55).map (·.size) = some 7 := by kernel_rfl
theorem kindOk_iff {x : Nat} (h : x < 256) : Fra.kindOk (UInt8.ofNat x) = true ↔ 1 ≤ x ∧ x ≤ 15 := by
  unfold Fra.kindOk
  rw [Fra.u8_toNat_ofNat h]
  simp
theorem num_split (bs : List UInt8) (p k : Nat) : ∃ x : Nat, Fra.num bs p k = x ∧ x < 256 ^ k := ⟨_, rfl, Fra.num_lt bs p k⟩

set_option maxHeartbeats 1000000 in
set_option maxRecDepth 10000 in
theorem getAsk_yes (A : Option Addr) (c : Nat) (bs : List UInt8) (w : World) (hs : Sl w w.heap.size 1 A 42 c (bs.map byteV)) :
    Calls Try.prog 49 #[.slice A 42 c] w fun e w' => e = .returned (gotV (Fra.getAsk bs)) ∧ Below w.heap.size w w' := by
  have hnc := hs.nc
  have hcm := hs.cm
  have hlen := hs.lenB
  obtain ⟨x0, hx0, hl0⟩ := num_split bs 0 4
  obtain ⟨x1, hx1, hl1⟩ := num_split bs 4 8
  obtain ⟨x2, hx2, hl2⟩ := num_split bs 12 1
  obtain ⟨x3, hx3, hl3⟩ := num_split bs 13 1
  obtain ⟨x4, hx4, hl4⟩ := num_split bs 14 2
  obtain ⟨x5, hx5, hl5⟩ := num_split bs 16 8
  obtain ⟨x6, hx6, hl6⟩ := num_split bs 24 2
  obtain ⟨x7, hx7, hl7⟩ := num_split bs 26 8
  obtain ⟨x8, hx8, hl8⟩ := num_split bs 34 8
  have HG := Lib.hid (show Fra.getAsk bs = if Fra.kindOk (UInt8.ofNat x2) = true then (x0, x1, ⟨UInt8.ofNat x2, x3, Fra.s16 x4, Fra.s64 x5, x6, Fra.s64 x7, x8⟩, 0) else (0, 0, Fra.zeroAsk, 5) by
    unfold Fra.getAsk Fra.askOf
    rw [hx0, hx1, hx2, hx3, hx4, hx5, hx6, hx7, hx8]
    simp only [hlen, true_and])
  have X0 := Lib.hid hx0
  have X1 := Lib.hid hx1
  have X2 := Lib.hid hx2
  have X3 := Lib.hid hx3
  have X4 := Lib.hid hx4
  have X5 := Lib.hid hx5
  have X6 := Lib.hid hx6
  have X7 := Lib.hid hx7
  have X8 := Lib.hid hx8
  clear hx0 hx1 hx2 hx3 hx4 hx5 hx6 hx7 hx8 hlen
  replace hl0 : x0 < 4294967296 := hl0
  replace hl2 : x2 < 256 := hl2
  replace hl3 : x3 < 256 := hl3
  replace hl4 : x4 < 65536 := hl4
  replace hl6 : x6 < 65536 := hl6
  have HL5 := Lib.hid hl5
  have HL7 := Lib.hid hl7
  clear hl1 hl5 hl7 hl8
  have hA : ∀ a, A = some a → a.block ≠ w.heap.size := by
    intro a ha
    obtain ⟨ad, e, hb, _⟩ := hs.rd.2 (by omega)
    rw [ha] at e; cases e; omega
  have hrow : ∀ q, some (w.heap.size + 1) = some q → w.heap.size ≤ q := by intro q hq; cases hq; omega
  go_enter Try.func49, Try.ntmps49
  go_wp2_with fail
  generalize hZ : (#[Value.int .u8 0, .int .i64 0, .int .i64 0, .int .i64 0, .int .i64 0, .int .i64 0, .int .u64 0] : Array Value) = Z
  have B0 := (Blk.new w 55 Z).alloc (.cells #[.slice A 42 c, .int .i64 0] 101)
  have b2 := Blk.new (w.alloc (.cells Z 55)) 101 #[.slice A 42 c, .int .i64 ((0 : Nat) : Int)]
  have hz1 : (w.alloc (.cells Z 55)).heap.size = w.heap.size + 1 := by simp
  rw [hz1] at b2
  have R0 : RdAt ((w.alloc (.cells Z 55)).alloc (.cells #[.slice A 42 c, .int .i64 0] 101)) (w.heap.size + 1) A 42 c bs 0 :=
    ⟨b2, ((hs.alloc (Nat.le_refl _) _).alloc (by simp) _).more (by omega), by omega⟩
  have L0 := Lib.hid (show Below w.heap.size w ((w.alloc (.cells Z 55)).alloc (.cells #[.slice A 42 c, .int .i64 0] 101)) from ((Below.refl _ _).alloc (Nat.le_refl _) _).alloc (by simp) _)
  have hne : w.heap.size ≠ w.heap.size + 1 := by omega
  clear b2 hz1 hs
  obtain ⟨h1, hh1⟩ : ∃ h1, h1 = w.heap.size := ⟨_, rfl⟩
  rw [← hh1] at hA B0 R0 hne ⊢
  obtain ⟨h2, hh2⟩ : ∃ h2, h2 = h1 + 1 := ⟨_, rfl⟩
  rw [← hh2] at R0 hne ⊢
  replace hrow : ∀ q, some h2 = some q → w.heap.size ≤ q := by intro q hq; cases hq; omega
  have HH := Lib.hid (show w.heap.size ≤ h1 by omega)
  clear hh1 hh2
  generalize (w.alloc (.cells Z 55)).alloc (.cells #[.slice A 42 c, .int .i64 0] 101) = w0 at B0 R0 L0 ⊢
  refine (fraTake h2 A 42 c bs 0 4 _ R0 rfl (by omega)).mono ?_
  rintro e w1 ⟨rfl, R1, g1⟩
  rw [X0.out]
  have B1 := B0.grown g1 (by simpa using hne)
  have L1 := Lib.hid (L0.out.grown g1 L0.out.size hrow)
  clear R0 B0 L0 g1
  go_wp2_with fail
  refine (fraTake h2 A 42 c bs 4 8 _ R1 rfl (by omega)).mono ?_
  rintro e w2 ⟨rfl, R2, g2⟩
  rw [X1.out]
  have B2 := B1.grown g2 (by simpa using hne)
  have L2 := Lib.hid (L1.out.grown g2 L1.out.size hrow)
  clear R1 B1 L1 g2
  go_wp2_with fail
  refine (fraTake h2 A 42 c bs 12 1 _ R2 rfl (by omega)).mono ?_
  rintro e w3 ⟨rfl, R3, g3⟩
  rw [X2.out]
  have B3 := B2.grown g3 (by simpa using hne)
  have L3 := Lib.hid (L2.out.grown g3 L2.out.size hrow)
  clear R2 B2 L2 g3
  go_wp2_with fail
  refine (fraTake h2 A 42 c bs 13 1 _ R3 rfl (by omega)).mono ?_
  rintro e w4 ⟨rfl, R4, g4⟩
  rw [X3.out]
  have B4 := B3.grown g4 (by simpa using hne)
  have L4 := Lib.hid (L3.out.grown g4 L3.out.size hrow)
  clear R3 B3 L3 g4
  go_wp2_with fail
  refine (fraTake h2 A 42 c bs 14 2 _ R4 rfl (by omega)).mono ?_
  rintro e w5 ⟨rfl, R5, g5⟩
  rw [X4.out]
  have B5 := B4.grown g5 (by simpa using hne)
  have L5 := Lib.hid (L4.out.grown g5 L4.out.size hrow)
  clear R4 B4 L4 g5
  subst hZ
  have q0 := B5.cell 0
  have q1 := B5.cell 1
  have q2 := B5.cell 2
  have f0 := B5.frozen 0
  have f1 := B5.frozen 1
  have f2 := B5.frozen 2
  simp only [List.getElem?_toArray, List.getElem?_cons_zero, List.getElem?_cons_succ] at q0 q1 q2
  go_wp2_with fail
  rw [wrap_s16]
  have B6 := ((B5.set_ 0 (.int .u8 (x2 : Int))).set_ 1 (.int .i64 (x3 : Int))).set_ 2 (.int .i64 (Fra.s16 x4))
  have R6 := ((R5.far (q := ⟨h1, 0, none⟩) (Ne.symm hne) hA (.int .u8 (x2 : Int))).far (q := ⟨h1, 1, none⟩) (Ne.symm hne) hA (.int .i64 (x3 : Int))).far (q := ⟨h1, 2, none⟩) (Ne.symm hne) hA (.int .i64 (Fra.s16 x4))
  have L6 := Lib.hid (((L5.out.setCell (p := ⟨h1, 0, none⟩) HH.out (.int .u8 (x2 : Int))).setCell (p := ⟨h1, 1, none⟩) HH.out (.int .i64 (x3 : Int))).setCell (p := ⟨h1, 2, none⟩) HH.out (.int .i64 (Fra.s16 x4)))
  generalize ((w5.setCell ⟨h1, 0, none⟩ (.int .u8 (x2 : Int))).setCell ⟨h1, 1, none⟩ (.int .i64 (x3 : Int))).setCell ⟨h1, 2, none⟩ (.int .i64 (Fra.s16 x4)) = w6 at B6 R6 L6 ⊢
  simp only [List.setIfInBounds_toArray, List.set_cons_zero, List.set_cons_succ] at B6
  generalize Fra.s16 x4 = y4 at B6 HG ⊢
  clear B5 R5 L5 q0 q1 q2 f0 f1 f2 X0 X1 X2 X3 X4
  refine (fraTake h2 A 42 c bs 16 8 _ R6 rfl (by omega)).mono ?_
  rintro e w7 ⟨rfl, R7, g7⟩
  rw [X5.out]
  have B7 := B6.grown g7 (by simpa using hne)
  have L7 := Lib.hid (L6.out.grown g7 L6.out.size hrow)
  clear R6 B6 L6 g7
  go_wp2_with fail
  refine (fraTake h2 A 42 c bs 24 2 _ R7 rfl (by omega)).mono ?_
  rintro e w8 ⟨rfl, R8, g8⟩
  rw [X6.out]
  have B8 := B7.grown g8 (by simpa using hne)
  have L8 := Lib.hid (L7.out.grown g8 L7.out.size hrow)
  clear R7 B7 L7 g8
  go_wp2_with fail
  refine (fraTake h2 A 42 c bs 26 8 _ R8 rfl (by omega)).mono ?_
  rintro e w9 ⟨rfl, R9, g9⟩
  rw [X7.out]
  have B9 := B8.grown g9 (by simpa using hne)
  have L9 := Lib.hid (L8.out.grown g9 L8.out.size hrow)
  clear R8 B8 L8 g9
  go_wp2_with fail
  refine (fraTake h2 A 42 c bs 34 8 _ R9 rfl (by omega)).mono ?_
  rintro e w10 ⟨rfl, R10, g10⟩
  rw [X8.out]
  have B10 := B9.grown g10 (by simpa using hne)
  have L10 := Lib.hid (L9.out.grown g10 L9.out.size hrow)
  clear R9 B9 L9 g10
  have q0 := B10.cell 0
  have q3 := B10.cell 3
  have q4 := B10.cell 4
  have q5 := B10.cell 5
  have q6 := B10.cell 6
  have f3 := B10.frozen 3
  have f4 := B10.frozen 4
  have f5 := B10.frozen 5
  have f6 := B10.frozen 6
  simp only [List.getElem?_toArray, List.getElem?_cons_zero, List.getElem?_cons_succ] at q0 q3 q4 q5 q6
  go_upto_region 7 with (fail)
  rw [wrap_s64, wrap_s64]
  have B11 := (((B10.set_ 3 (.int .i64 (Fra.s64 x5))).set_ 4 (.int .i64 (x6 : Int))).set_ 5 (.int .i64 (Fra.s64 x7))).set_ 6 (.int .u64 (x8 : Int))
  have L11 := Lib.hid ((((L10.out.setCell (p := ⟨h1, 3, none⟩) HH.out (.int .i64 (Fra.s64 x5))).setCell (p := ⟨h1, 4, none⟩) HH.out (.int .i64 (x6 : Int))).setCell (p := ⟨h1, 5, none⟩) HH.out (.int .i64 (Fra.s64 x7))).setCell (p := ⟨h1, 6, none⟩) HH.out (.int .u64 (x8 : Int)))
  generalize (((w10.setCell ⟨h1, 3, none⟩ (.int .i64 (Fra.s64 x5))).setCell ⟨h1, 4, none⟩ (.int .i64 (x6 : Int))).setCell ⟨h1, 5, none⟩ (.int .i64 (Fra.s64 x7))).setCell ⟨h1, 6, none⟩ (.int .u64 (x8 : Int)) = w11 at B11 L11 ⊢
  simp only [List.setIfInBounds_toArray, List.set_cons_zero, List.set_cons_succ] at B11
  generalize Fra.s64 x5 = y5 at B11 HG ⊢
  generalize Fra.s64 x7 = y7 at B11 HG ⊢
  clear q0 q3 q4 q5 q6 f3 f4 f5 f6 B10 R10 L10
  have q0 := B11.cell 0
  simp only [List.getElem?_toArray, List.getElem?_cons_zero] at q0
  obtain ⟨cs, hcs⟩ : ∃ cs : Array Value, cs = #[.int .u8 (x2 : Int), .int .i64 (x3 : Int), .int .i64 y4, .int .i64 y5, .int .i64 (x6 : Int), .int .i64 y7, .int .u64 (x8 : Int)] := ⟨_, rfl⟩
  have hi : (Try.prog.info? 55).map (·.size) = some cs.size := by rw [hcs]; exact askInfo
  have hoc : cs.all (·.oneCell') = true := by rw [hcs]; simp [Value.oneCell']
  rw [← hcs] at B11
  have hu := Try.underlying55
  have HCS := Lib.hid hcs
  have HB11 := Lib.hid B11
  have HI := Lib.hid hi
  have HOC := Lib.hid hoc
  have HU := Lib.hid hu
  clear B11 hcs hi hoc hu
  by_cases hk : 1 ≤ x2 ∧ x2 ≤ 15
  · obtain ⟨hk1, hk2⟩ := hk
    go_wp2_with fail
    refine wp_region_still_tail 5 (by kernel_rfl) (by kernel_rfl) ?_
    simp only [List.take_succ_cons, List.take_zero, List.drop_succ_cons, List.drop_zero]
    still_step
    still_step
    change wpStill _ _ w11.drew _ _ _
    refine wpStill_load_blk (w := w11.drew) rfl _ _ rfl rfl HB11.out.drew _ HU.out rfl HI.out ?_
    still_step
    still_step
    refine wpStill_nil ?_
    change wpList _ _ _ _ _ w11.drew
    refine wpList_store_blk rfl _ _ _ rfl _ rfl rfl HB11.out.drew rfl HI.out HOC.out ?_
    intro w13 B13 g13
    have HB13 := Lib.hid B13
    have HL13 := Lib.hid (L11.out.drew.grown g13 L11.out.drew.size (fun q hq => by cases hq; exact HH.out))
    clear B13 g13
    go_wp2_with fail
    refine bodyPost_ret (results_ttct rfl _ rfl HB13.out _ HU.out rfl HI.out) rfl ⟨?_, HL13.out⟩
    rw [HG.out, if_pos (by rw [kindOk_iff hl2]; exact ⟨hk1, hk2⟩), HCS.out]
    unfold gotV askV
    simp only
    rw [Fra.u8_toNat_ofNat hl2]
    rfl
  · have hkn : (x2 : Int) < 1 ∨ (15 : Int) < (x2 : Int) := by omega
    have hko : ¬ (1 ≤ x2 ∧ x2 ≤ 15) := hk
    have HKO := Lib.hid hko
    clear hk hko
    rcases hkn with hkn | hkn
    · have hkd : decide ((x2 : Int) < 1) = true := by simpa using hkn
      clear hkn
      go_upto_region 8 with (fail)
      clear hkd
      go_wp2_with (refine wpList_store_blk rfl 55 _ _ rfl _ rfl rfl HB11.out (by rw [HCS.out]; rfl) askInfo (by simp [Value.oneCell']) ?_; intro w13 B13 g13)
      rw [HG.out, if_neg (by rw [kindOk_iff hl2]; exact HKO.out)]
      exact bodyPost_ret (results_ttct rfl _ rfl B13 _ HU.out rfl askInfo) rfl ⟨rfl, L11.out.grown g13 L11.out.size (fun q hq => by cases hq; exact HH.out)⟩
    · go_upto_region 8 with (fail)
      clear hkn
      go_wp2_with (refine wpList_store_blk rfl 55 _ _ rfl _ rfl rfl HB11.out (by rw [HCS.out]; rfl) askInfo (by simp [Value.oneCell']) ?_; intro w13 B13 g13)
      rw [HG.out, if_neg (by rw [kindOk_iff hl2]; exact HKO.out)]
      exact bodyPost_ret (results_ttct rfl _ rfl B13 _ HU.out rfl askInfo) rfl ⟨rfl, L11.out.grown g13 L11.out.size (fun q hq => by cases hq; exact HH.out)⟩

/-- GetAsk. -/
theorem fraGetAsk (A : Option Addr) (n c : Nat) (bs : List UInt8) (w : World) (hs : Sl w w.heap.size 1 A n c (bs.map byteV)) (hm : n ≤ 1000000) :
    Calls Try.prog 49 #[.slice A n c] w fun e w' => e = .returned (gotV (Fra.getAsk bs)) ∧ Below w.heap.size w w' := by
  by_cases hn : n = 42
  · subst hn
    exact getAsk_yes A c bs w hs
  · rw [Fra.getAsk_len (by rw [hs.lenB]; exact hn)]
    exact getAsk_no A n c bs w hs (by omega) hm

end Go.Proofs.Ytbfcfhfnkpklkaa

/-
  The document's answer of layer 24 (frames): what bytes reply, walked.
-/
import Derived.Test.YtbfcfhfnkpklkaaFraRefGet
import Derived.Test.YtbfcfhfnkpklkaaFraGetRep
namespace Go.Proofs.Ytbfcfhfnkpklkaa
open Go.RowKit Go.Gab
set_option linter.unusedVariables false
attribute [local go_sem ↓] Go.wp_at_zero Go.wp_at_succ

/-- The tests that tell bytes that are no reply. -/
theorem getReply_of {bs : List UInt8} {n x3 : Nat} (hl : bs.length = n) (h3 : Fra.num bs 13 1 = x3) :
    Fra.getReply bs = if 14 ≤ n ∧ x3 ≤ 29 ∧ n = 14 + 8 * x3 then (Fra.num bs 0 4, Fra.num bs 4 8, ⟨(Fra.num bs 12 1 : Int), Fra.numsOf bs x3⟩, 0) else (0, 0, Fra.zeroReply, 5) := by
  unfold Fra.getReply Fra.replyOk
  rw [h3, hl]
  by_cases hh : 14 ≤ n ∧ x3 ≤ 29 ∧ n = 14 + 8 * x3
  · rw [if_pos hh, if_pos (by simp; omega)]
  · rw [if_neg hh, if_neg (by simp; omega)]

set_option maxHeartbeats 1000000 in
set_option maxRecDepth 10000 in
theorem refGetReply_short (A : Option Addr) (n c : Nat) (bs : List UInt8) (w : World) (hs : Sl w w.heap.size 1 A n c (bs.map byteV)) (hn : (n : Int) < 14) :
    Calls Try.prog 52 #[.slice A n c] w (GotReply w (0, 0, Fra.zeroReply, 5)) := by
  have hd : decide ((n : Int) < 14) = true := by simpa using hn
  clear hn
  go_enter Try.func52, Try.ntmps52
  go_upto_region 1 with (fail)
  have B0 := Blk.new w 58 #[.int .i64 0, .slice none 0 0]
  have L0 := Lib.hid (show Below w.heap.size w (w.alloc (.cells #[.int .i64 0, .slice none 0 0] 58)) from (Below.refl _ _).alloc (Nat.le_refl _) _)
  generalize w.alloc (.cells #[.int .i64 0, .slice none 0 0] 58) = W at B0 L0 ⊢
  have HB0 := Lib.hid B0
  clear B0
  go_wp2_with (refine wpList_store_blk rfl 58 _ _ rfl _ rfl rfl HB0.out rfl replyInfo (by simp [Value.oneCell']) ?_; intro w13 B13 g13)
  refine bodyPost_ret (results_ttct rfl _ rfl B13 _ Try.underlying58 rfl replyInfo) rfl ?_
  exact GotReply.zero (L0.out.grown g13 L0.out.size (fun q hq => by cases hq; exact Nat.le_refl _))

set_option maxHeartbeats 1000000 in
set_option maxRecDepth 10000 in
theorem refGetReply_no (A : Option Addr) (n c : Nat) (bs : List UInt8) (w : World) (hs : Sl w w.heap.size 1 A n c (bs.map byteV)) (hn : (14 : Int) ≤ n) {a : UInt8} (ha : bs[13]? = some a) (hbad : ¬ (a.toNat ≤ 29 ∧ n = 14 + 8 * a.toNat)) (hm : n ≤ 1000000) :
    Calls Try.prog 52 #[.slice A n c] w (GotReply w (0, 0, Fra.zeroReply, 5)) := by
  have hnc := hs.nc
  have hcm := hs.cm
  obtain ⟨b, off, a', rfl, hbb, ha', hcell, hal⟩ := hs.byte (k := 13) (by omega)
  rw [ha] at ha'
  obtain rfl : a = a' := by injection ha'
  have hd : decide ((n : Int) < 14) = false := by simpa using hn
  have hj : (13 : Int) < (n : Int) := by omega
  have hcase : (29 : Int) < (a.toNat : Int) ∨ ((a.toNat : Int) ≤ 29 ∧ (n : Int) ≠ 14 + 8 * (a.toNat : Int)) := by omega
  clear ha ha' hbad hn
  rcases hcase with h | ⟨h, h'⟩
  · have he : decide ((29 : Int) < (a.toNat : Int)) = true := by simpa using h
    clear h
    go_enter Try.func52, Try.ntmps52
    go_upto_region 1 with (fail)
    have B0 := Blk.new w 58 #[.int .i64 0, .slice none 0 0]
    have L0 := Lib.hid (show Below w.heap.size w (w.alloc (.cells #[.int .i64 0, .slice none 0 0] 58)) from (Below.refl _ _).alloc (Nat.le_refl _) _)
    have k0 := (World.cell?_alloc_lt w (.cells #[.int .i64 0, .slice none 0 0] 58) ⟨b, off + 13, none⟩ hbb).trans hcell
    generalize w.alloc (.cells #[.int .i64 0, .slice none 0 0] 58) = W at B0 L0 k0 ⊢
    have HB0 := Lib.hid B0
    clear B0
    go_wp2_with (refine wpList_store_blk rfl 58 _ _ rfl _ rfl rfl HB0.out rfl replyInfo (by simp [Value.oneCell']) ?_; intro w13 B13 g13)
    refine bodyPost_ret (results_ttct rfl _ rfl B13 _ Try.underlying58 rfl replyInfo) rfl ?_
    exact GotReply.zero (L0.out.grown g13 L0.out.size (fun q hq => by cases hq; exact Nat.le_refl _))
  · have he : decide ((29 : Int) < (a.toNat : Int)) = false := by simpa using h
    have hf : ((n : Int) != 14 + 8 * (a.toNat : Int)) = true := by simpa using h'
    clear h'
    go_enter Try.func52, Try.ntmps52
    go_upto_region 1 with (fail)
    have B0 := Blk.new w 58 #[.int .i64 0, .slice none 0 0]
    have L0 := Lib.hid (show Below w.heap.size w (w.alloc (.cells #[.int .i64 0, .slice none 0 0] 58)) from (Below.refl _ _).alloc (Nat.le_refl _) _)
    have k0 := (World.cell?_alloc_lt w (.cells #[.int .i64 0, .slice none 0 0] 58) ⟨b, off + 13, none⟩ hbb).trans hcell
    generalize w.alloc (.cells #[.int .i64 0, .slice none 0 0] 58) = W at B0 L0 k0 ⊢
    have HB0 := Lib.hid B0
    clear B0
    go_wp2_with (refine wpList_store_blk rfl 58 _ _ rfl _ rfl rfl HB0.out rfl replyInfo (by simp [Value.oneCell']) ?_; intro w13 B13 g13)
    refine bodyPost_ret (results_ttct rfl _ rfl B13 _ Try.underlying58 rfl replyInfo) rfl ?_
    exact GotReply.zero (L0.out.grown g13 L0.out.size (fun q hq => by cases hq; exact Nat.le_refl _))

/-- One number more. -/
theorem ref_step {w w6 w8 : World} {h1 h2 j d d8 y x2 : Nat} {A1 A8 : Option Addr} {bs : List UInt8}
    (HB8 : Blk w8 h2 58 #[.int .i64 (x2 : Int), .slice A1 j d])
    (HO6 : w6.ownsRow w.heap.size 2 1 (.slice A1 j d) j (intsV (Fra.numsOf bs j)))
    (HR6 : Blk w6 h1 58 #[.int .i64 0, .slice none 0 0]) (HL6 : Below w.heap.size w w6)
    (HO8 : w8.ownsRow w.heap.size 2 1 (.slice A8 (j + 1) d8) (j + 1) (intsV (Fra.numsOf bs j) ++ [.int .i64 (IntKind.i64.wrap (y : Int))]))
    (G8 : (w6.alloc (.cells #[.int .i64 (IntKind.i64.wrap (y : Int))] 2)).grownBy w8 (Value.slice A1 j d).ownBlock)
    (HY : Fra.num bs (14 + 8 * j) 8 = y) (hne : h1 ≠ h2) (HH : w.heap.size ≤ h2) :
    Blk (w8.setCell ⟨h2, 1, none⟩ (.slice A8 (j + 1) d8)) h2 58 #[.int .i64 (x2 : Int), .slice A8 (j + 1) d8] ∧
    (w8.setCell ⟨h2, 1, none⟩ (.slice A8 (j + 1) d8)).ownsRow w.heap.size 2 1 (.slice A8 (j + 1) d8) (j + 1) (intsV (Fra.numsOf bs (j + 1))) ∧
    Blk (w8.setCell ⟨h2, 1, none⟩ (.slice A8 (j + 1) d8)) h1 58 #[.int .i64 0, .slice none 0 0] ∧ Below w.heap.size w (w8.setCell ⟨h2, 1, none⟩ (.slice A8 (j + 1) d8)) := by
  have hlow : ∀ q, (Value.slice A1 j d).ownBlock = some q → w.heap.size ≤ q := fun q hq => (HO6.lt q hq).1
  have hL8 : Below w.heap.size w w8 := (HL6.alloc HL6.size _).grown G8 (by have := HL6.size; simp; omega) hlow
  refine ⟨?_, ?_, ?_, hL8.setCell HH _⟩
  · have := HB8.set_ 1 (.slice A8 (j + 1) d8)
    simpa using this
  · have e : intsV (Fra.numsOf bs j) ++ [.int .i64 (IntKind.i64.wrap (y : Int))] = intsV (Fra.numsOf bs (j + 1)) := by
      rw [Fra.numsOf_succ, HY]
      unfold intsV
      rw [List.map_append, IntKind.wrap_i64]
      rfl
    rw [e] at HO8
    exact HO8.kept (only_setCell (World.grownBy.refl w8 (some h2)) (.inl rfl) _) (.inr (own_blk_ne HO8 HB8 (by decide)))
  · have hr := (HR6.alloc (.cells #[.int .i64 (IntKind.i64.wrap (y : Int))] 2)).grown G8 (fun he => own_blk_ne HO6 HR6 (by decide) he.symm)
    exact hr.far (p := ⟨h2, 1, none⟩) hne _

set_option maxHeartbeats 4000000 in
set_option maxRecDepth 10000 in
theorem refGetReply_yes (A : Option Addr) (n c : Nat) (bs : List UInt8) (w : World) (hs : Sl w w.heap.size 1 A n c (bs.map byteV)) {a : UInt8} (ha : bs[13]? = some a) (h29 : a.toNat ≤ 29) (hfit : n = 14 + 8 * a.toNat) :
    Calls Try.prog 52 #[.slice A n c] w (GotReply w (Fra.getReply bs)) := by
  have hnc := hs.nc
  have hcm := hs.cm
  have hlen := hs.lenB
  obtain ⟨b, off, a', rfl, hbb, ha', hcell, hal⟩ := hs.byte (k := 13) (by omega)
  rw [ha] at ha'
  obtain rfl : a = a' := by injection ha'
  obtain ⟨_, _, E, hA, _, hE, hcellE, hEl⟩ := hs.byte (k := 12) (by omega)
  cases hA
  have e2 := num_byte hE
  have e3 := num_byte ha
  obtain ⟨x0, hx0, hl0⟩ := num_split bs 0 4
  obtain ⟨x1, hx1, hl1⟩ := num_split bs 4 8
  have HG := Lib.hid (show Fra.getReply bs = (x0, x1, ⟨(E.toNat : Int), Fra.numsOf bs a.toNat⟩, 0) by
    rw [getReply_of hlen e3, if_pos ⟨by omega, h29, hfit⟩, hx0, hx1, e2])
  generalize hx3 : a.toNat = x3 at *
  have X0 := Lib.hid hx0
  have X1 := Lib.hid hx1
  have HFIT := Lib.hid hfit
  have hd1 : decide ((n : Int) < 14) = false := by simp; omega
  have hd2 : decide ((29 : Int) < (x3 : Int)) = false := by simp; omega
  have hd3 : ((n : Int) != 14 + 8 * (x3 : Int)) = false := by simp; omega
  have hn14 : (14 : Int) ≤ (n : Int) := by omega
  have hnm : (n : Int) ≤ 246 := by omega
  replace hl0 : x0 < 4294967296 := hl0
  clear hx0 hx1 hlen e2 e3 ha ha' hE hl1 hfit hx3
  obtain ⟨i0, hi0, hz0, hz1, hz2⟩ := info_parts infoI64
  go_enter Try.func52, Try.ntmps52
  go_upto_region 1 with (fail)
  have l0 : Below w.heap.size w (w.alloc (.cells #[.int .i64 0, .slice none 0 0] 58)) := (Below.refl _ _).alloc (Nat.le_refl _) _
  have B0 := Blk.new w 58 #[.int .i64 0, .slice none 0 0]
  have k0 := (World.cell?_alloc_lt w (.cells #[.int .i64 0, .slice none 0 0] 58) ⟨b, off + 12, none⟩ hbb).trans hcellE
  have k1 := (World.cell?_alloc_lt w (.cells #[.int .i64 0, .slice none 0 0] 58) ⟨b, off + 13, none⟩ hbb).trans hcell
  have hWz : w.heap.size ≤ w.heap.size := Nat.le_refl _
  generalize w.alloc (.cells #[.int .i64 0, .slice none 0 0] 58) = W at B0 l0 k0 k1 ⊢
  have HB0 := Lib.hid B0
  have L0 := Lib.hid l0
  clear B0 l0
  have hcz := Lib.hid hcell
  clear hcell hcellE
  go_upto_region 4 with (fail)
  have hne : w.heap.size ≠ W.heap.size := by have := HB0.out.lt; omega
  have HH := Lib.hid (show w.heap.size ≤ W.heap.size from L0.out.size)
  have C0 := HB0.out.alloc (.cells #[.int .i64 (E.toNat : Int), .slice none 0 0] 58)
  have C1 := Blk.new W 58 #[.int .i64 (E.toNat : Int), .slice none 0 0]
  have L1 : Below w.heap.size w (W.alloc (.cells #[.int .i64 (E.toNat : Int), .slice none 0 0] 58)) := L0.out.alloc L0.out.size _
  generalize W.alloc (.cells #[.int .i64 (E.toNat : Int), .slice none 0 0] 58) = w2 at C0 C1 L1 ⊢
  generalize W.heap.size = h2 at hne HH C0 C1 ⊢
  obtain ⟨h1, hh1⟩ : ∃ h1, h1 = w.heap.size := ⟨_, rfl⟩
  rw [← hh1] at hne C0 ⊢
  have HH1 := Lib.hid (show w.heap.size ≤ h1 by omega)
  have HK := Lib.hid hs
  have HBB := Lib.hid hbb
  clear hh1 hd1 hd2 hd3 k0 k1 HB0 L0 hs hbb hWz
  generalize hE2 : E.toNat = x2 at HG hEl C1 ⊢
  clear hE2
  go_wp2_with fail
  go_loopw [7] (fun i wr => ∃ (j d : Nat) (A1 : Option Addr), j ≤ x3 ∧ i = .int .i64 j ∧ Blk wr h2 58 #[.int .i64 (x2 : Int), .slice A1 j d] ∧ wr.ownsRow w.heap.size 2 1 (.slice A1 j d) j (intsV (Fra.numsOf bs j)) ∧ Blk wr h1 58 #[.int .i64 0, .slice none 0 0] ∧ Below w.heap.size w wr) (fun i _ => x3 - (intOf i).toNat)
  case atStart => exact ⟨0, 0, none, Nat.zero_le _, rfl, C1, World.ownsRow_nil _ _ _ _, C0, L1⟩
  case round =>
    clear C0 C1 L1
    obtain ⟨j, d, A1, hj, rfl, B, O, R, L⟩ := hrel
    have k1 : wr.cell? ⟨b, off + 13, none⟩ = some (.int .u8 (x3 : Int)) := (L.cell (p := ⟨b, off + 13, none⟩) HBB.out).trans hcz.out
    by_cases hlt : j < x3
    · have hq1 := B.cell 1
      have hf1 := B.frozen 1
      simp only [List.getElem?_toArray, List.getElem?_cons_zero, List.getElem?_cons_succ] at hq1
      obtain ⟨y, hy⟩ : ∃ y, Fra.num bs (14 + 8 * j) 8 = y := ⟨_, rfl⟩
      have HY := Lib.hid hy
      have HY2 := Lib.hid (show Fra.num bs (14 + 8 * (j : Int)).toNat (Int.toNat 8) = y by rw [show (14 + 8 * (j : Int)).toNat = 14 + 8 * j by omega]; exact hy)
      have p0 : (0 : Int) ≤ 14 + 8 * (j : Int) := by omega
      have p8 : 14 + 8 * (j : Int) + 8 ≤ (n : Int) := by have := HFIT.out; omega
      have P0 := Lib.hid p0
      have P8 := Lib.hid p8
      have HSw := Lib.hid (HK.out.below L).drew
      have hnm2 : n ≤ 1000000 := by omega
      have w1 : IntKind.i64.wrap (8 * (j : Int)) = 8 * (j : Int) := by rw [IntKind.wrap_i64]; omega
      have w2 : IntKind.i64.wrap (14 + 8 * (j : Int)) = 14 + 8 * (j : Int) := by rw [IntKind.wrap_i64]; omega
      clear p0 p8
      have HB := Lib.hid B
      have HO := Lib.hid O
      have HR := Lib.hid R
      have HL := Lib.hid L
      clear B O R L hy
      go_wp2_with fail
      go_region_law (first
        | ((refine step_append_any _ rfl _ _ 56 rfl w.heap.size 2 i0 (.int .i64 0) 1 8 Try.underlying56 hi0 hz0 hz1 hz2 rfl (by omega) _ _ _ (by rfl) (HO6.out.alloc _) _ _ 1 1 [.int .i64 (IntKind.i64.wrap (y : Int))] (by rfl) (by exact (Sl.lit (k := 1) (cap := 1) _ _ _ _ _ _ rfl rfl rfl (by omega) (by omega)).rd) (by simp [Value.oneCell']) (by simp only [maxLen]; omega) (by omega) (by have := HL6.out.size; simp; omega) ?_; intro v8 w8 O8 g8 a8; obtain ⟨A8, d8, rfl⟩ := own_slice O8; have B8 := (HB6.out.alloc (.cells #[.int .i64 (IntKind.i64.wrap (y : Int))] 2)).grown g8 (fun he => own_blk_ne HO6.out HB6.out (by decide) he.symm); have q8 := B8.cell 1; have f8 := B8.frozen 1; have HB8 := Lib.hid B8; have HO8 := Lib.hid O8; have G8 := Lib.hid g8; simp only [List.getElem?_toArray, List.getElem?_cons_zero, List.getElem?_cons_succ] at q8; clear B8 O8 g8))
        | (go_simp; go_at_call 81; refine (refNumI w.heap.size (some ⟨b, off, none⟩) n c bs (14 + 8 * (j : Int)) 8 _ HSw.out P0.out (by decide) (by decide) P8.out hnm2).mono ?_; rintro e w6 ⟨rfl, hw6⟩; rw [HY2.out]; have B6 : Blk w6 h2 58 #[.int .i64 (x2 : Int), .slice A1 j d] := by rw [← hw6]; exact HB.out.drew
           have R6 : Blk w6 h1 58 #[.int .i64 0, .slice none 0 0] := by rw [← hw6]; exact HR.out.drew
           have O6 : w6.ownsRow w.heap.size 2 1 (.slice A1 j d) j (intsV (Fra.numsOf bs j)) := by rw [← hw6]; exact HO.out.drew
           have L6 : Below w.heap.size w w6 := by rw [← hw6]; exact HL.out.drew
           have hq6 := B6.cell 1; have hq7 := (B6.alloc (.cells #[.int .i64 (IntKind.i64.wrap (y : Int))] 2)).cell 1; have HB6 := Lib.hid B6; have HO6 := Lib.hid O6; have HL6 := Lib.hid L6; have HR6 := Lib.hid R6; simp only [List.getElem?_toArray, List.getElem?_cons_zero, List.getElem?_cons_succ] at hq6 hq7; clear R6 B6 O6 L6 hw6))
      all_goals
        have T := Lib.hid (ref_step HB8.out HO6.out HR6.out HL6.out HO8.out G8.out HY.out hne HH.out)
        clear hq6 hq7 q8 f8 hq1 hf1 w1 w2
        go_wp2_with fail
        go_roundw
        case rel => exact ⟨j + 1, d8, A8, by omega, by go_num, T.out.1, T.out.2.1, T.out.2.2.1, T.out.2.2.2⟩
        case measure => simp [intOf]; omega
    · obtain rfl : j = x3 := by omega
      obtain ⟨cs, hcs⟩ : ∃ cs : Array Value, cs = #[.int .i64 (x2 : Int), .slice A1 j d] := ⟨_, rfl⟩
      have hi : (Try.prog.info? 58).map (·.size) = some cs.size := by rw [hcs]; exact replyInfo
      have hoc : cs.all (·.oneCell') = true := by rw [hcs]; simp [Value.oneCell']
      rw [← hcs] at B
      have HCZ := Lib.hid (show cs.size = 2 by rw [hcs]; rfl)
      have HCS := Lib.hid hcs
      have HB := Lib.hid B
      have HI := Lib.hid hi
      have HOC := Lib.hid hoc
      have HO := Lib.hid O
      have HL := Lib.hid L
      have HRR := Lib.hid R
      have HSw := Lib.hid (HK.out.below L).drew
      have HNE := Lib.hid (own_blk_ne O R (by decide))
      have hnm2 : n ≤ 1000000 := by omega
      clear B O L R hcs hi hoc
      go_wp2_with fail
      refine wp_region_still_tail 8 (by kernel_rfl) (by kernel_rfl) ?_
      simp only [List.take_succ_cons, List.take_zero, List.drop_succ_cons, List.drop_zero]
      change wpStill _ _ wr.drew _ _ _
      still_step
      still_call (refNum w.heap.size (some ⟨b, off, none⟩) n c bs 0 4 _ HSw.out (by omega) (by omega) hnm2)
      rw [show Fra.num bs 0 4 = x0 from X0.out]
      still_step
      still_step
      still_call (refNum w.heap.size (some ⟨b, off, none⟩) n c bs 4 8 _ HSw.out (by omega) (by omega) hnm2)
      rw [show Fra.num bs 4 8 = x1 from X1.out]
      refine wpStill_load_blk (w := wr.drew) rfl _ _ rfl rfl HB.out.drew _ Try.underlying58 rfl HI.out ?_
      still_step
      still_step
      refine wpStill_nil ?_
      change wpList _ _ _ _ _ wr.drew
      refine wpList_store_blk rfl _ _ _ rfl _ rfl rfl HRR.out.drew (by rw [HCZ.out]; rfl) HI.out HOC.out ?_
      intro w13 B13 g13
      have HB13 := Lib.hid B13
      have HL13 := Lib.hid (HL.out.drew.grown g13 HL.out.drew.size (fun q hq => by cases hq; exact HH1.out))
      have HO13 := Lib.hid (HO.out.drew.kept g13 (.inr HNE.out))
      clear B13 g13
      go_wp2_with fail
      refine bodyPost_ret (results_ttct rfl _ rfl HB13.out _ Try.underlying58 rfl HI.out) rfl ?_
      rw [HG.out, HCS.out]
      have hnl : (Fra.numsOf bs j).length = j := by simp [Fra.numsOf]
      refine ⟨A1, d, ?_, ?_, HL13.out⟩
      · simp only [hnl]
        rfl
      · simp only [hnl]
        exact HO13.out

/-- GetReply of the document. -/
theorem refGetReply (A : Option Addr) (n c : Nat) (bs : List UInt8) (w : World) (hs : Sl w w.heap.size 1 A n c (bs.map byteV)) (hm : n ≤ 1000000) :
    Calls Try.prog 52 #[.slice A n c] w (GotReply w (Fra.getReply bs)) := by
  by_cases hn : n < 14
  · have : Fra.getReply bs = (0, 0, Fra.zeroReply, 5) := by
      rw [getReply_of hs.lenB rfl, if_neg (by omega)]
    rw [this]
    exact refGetReply_short A n c bs w hs (by omega)
  · have hl := hs.lenB
    have ha : bs[13]? = some (bs[13]'(by omega)) := List.getElem?_eq_getElem (by omega)
    by_cases hok : (bs[13]'(by omega)).toNat ≤ 29 ∧ n = 14 + 8 * (bs[13]'(by omega)).toNat
    · exact refGetReply_yes A n c bs w hs ha hok.1 hok.2
    · have : Fra.getReply bs = (0, 0, Fra.zeroReply, 5) := by
        rw [getReply_of hl (num_byte ha), if_neg (fun h => hok h.2)]
      rw [this]
      exact refGetReply_no A n c bs w hs (by omega) ha hok hm

end Go.Proofs.Ytbfcfhfnkpklkaa

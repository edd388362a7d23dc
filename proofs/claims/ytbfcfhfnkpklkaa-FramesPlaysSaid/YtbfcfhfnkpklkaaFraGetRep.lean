/-
  Layer 24 (frames): what bytes reply, walked.
-/
import Derived.Test.YtbfcfhfnkpklkaaFraRep
import Derived.Deep.DeepCutAuto
import Derived.Deep.RegionLaw
namespace Go.Proofs.Ytbfcfhfnkpklkaa
open Go.RowKit Go.Gab
set_option linter.unusedVariables false
attribute [local go_sem ↓] Go.wp_at_zero Go.wp_at_succ

/-- Client, number, reply, error; the reply's numbers lie in memory that is new. -/
def GotReply (w : World) (r : Nat × Nat × Fra.Reply × Int) (e : Ending) (w' : World) : Prop :=
  ∃ A c, e = .returned (.tuple #[.int .u32 (r.1 : Int), .int .u64 (r.2.1 : Int), .agg #[.int .i64 r.2.2.1.e, .slice A r.2.2.1.n.length c], .int .i64 r.2.2.2]) ∧
    w'.ownsRow w.heap.size 2 1 (.slice A r.2.2.1.n.length c) r.2.2.1.n.length (intsV r.2.2.1.n) ∧ Below w.heap.size w w'

theorem GotReply.zero {w w' : World} (hb : Below w.heap.size w w') : GotReply w (0, 0, Fra.zeroReply, 5) (.returned (.tuple #[.int .u32 0, .int .u64 0, .agg #[.int .i64 0, .slice none 0 0], .int .i64 5])) w' :=
  ⟨none, 0, rfl, World.ownsRow_nil _ _ _ _, hb⟩

theorem infoI64 : (Try.prog.info? 2).map (fun i => (i.zero, i.size, i.bytes)) = some (some (.int .i64 0), 1, 8) := by kernel_rfl
theorem RdAt.drew {w : World} {h : Nat} {A : Option Addr} {n c : Nat} {bs : List UInt8} {p : Nat} (hr : RdAt w h A n c bs p) : RdAt w.drew h A n c bs p := ⟨hr.obj.drew, hr.sl.drew, hr.small⟩
theorem RdAt.alloc {w : World} {h : Nat} {A : Option Addr} {n c : Nat} {bs : List UInt8} {p : Nat} (hr : RdAt w h A n c bs p) (o : Obj) : RdAt (w.alloc o) h A n c bs p := ⟨hr.obj.alloc o, hr.sl.alloc (Nat.le_of_lt hr.obj.lt) o, hr.small⟩
/-- What is written lies elsewhere. -/
theorem RdAt.grown {w w' : World} {h : Nat} {A : Option Addr} {n c : Nat} {bs : List UInt8} {p : Nat} (hr : RdAt w h A n c bs p) {row : Option Nat} (hg : w.grownBy w' row) (hh : some h ≠ row) (hA : ∀ a, A = some a → some a.block ≠ row) : RdAt w' h A n c bs p := by
  refine ⟨hr.obj.grown hg hh, ⟨⟨hr.sl.rd.1, fun hn => ?_⟩, hr.sl.nc, hr.sl.cm⟩, hr.small⟩
  obtain ⟨ad, e, hb, hc⟩ := hr.sl.rd.2 hn
  exact ⟨ad, e, hb, fun j u hu => (World.cell?_of_block (hg.block _ (by rw [block_of_add]; have := hr.obj.lt; omega) (by rw [block_of_add]; exact hA ad e))).trans (hc j u hu)⟩

theorem replyInfo : (Try.prog.info? 58).map (·.size) = some 2 := by kernel_rfl

set_option maxHeartbeats 600000 in
set_option maxRecDepth 10000 in
theorem getReply_short (A : Option Addr) (n c : Nat) (bs : List UInt8) (w : World) (hs : Sl w w.heap.size 1 A n c (bs.map byteV)) (hn : (n : Int) < 14) :
    Calls Try.prog 51 #[.slice A n c] w (GotReply w (0, 0, Fra.zeroReply, 5)) := by
  go_enter Try.func51, Try.ntmps51
  go_wp2_with fail
  have B := Blk.new w 58 #[.int .i64 0, .slice none 0 0]
  have L : Below w.heap.size w (w.alloc (.cells #[.int .i64 0, .slice none 0 0] 58)) := (Below.refl _ _).alloc (Nat.le_refl _) _
  generalize w.alloc (.cells #[.int .i64 0, .slice none 0 0] 58) = W at B L ⊢
  have HH : w.heap.size ≤ w.heap.size := Nat.le_refl _
  have HB := Lib.hid B
  have HL := Lib.hid L
  clear B L
  refine wp_region_still_tail 3 (by kernel_rfl) (by kernel_rfl) ?_
  simp only [List.take_succ_cons, List.take_zero, List.drop_succ_cons, List.drop_zero]
  change wpStill _ _ W.drew _ _ _
  refine wpStill_load_blk (w := W.drew) rfl _ _ rfl rfl HB.out.drew _ Try.underlying58 rfl replyInfo ?_
  still_step
  still_step
  refine wpStill_nil ?_
  change wpList _ _ _ _ _ W.drew
  refine wpList_store_blk rfl _ _ _ rfl _ rfl rfl HB.out.drew rfl replyInfo (by simp [Value.oneCell']) ?_
  intro w13 B13 g13
  have HB13 := Lib.hid B13
  have HL13 := Lib.hid (HL.out.drew.grown g13 HL.out.drew.size (fun q hq => by cases hq; exact HH))
  clear B13 g13
  go_wp2_with fail
  refine bodyPost_ret (results_ttct rfl _ rfl HB13.out _ Try.underlying58 rfl replyInfo) rfl ?_
  exact GotReply.zero HL13.out

/-- One number more. -/
theorem reply_step {w w6 w8 : World} {h1 h2 j d d8 n c y x2 : Nat} {A A1 A8 : Option Addr} {bs : List UInt8}
    (HB8 : Blk w8 h1 58 #[.int .i64 (x2 : Int), .slice A1 j d])
    (HO6 : w6.ownsRow w.heap.size 2 1 (.slice A1 j d) j (intsV (Fra.numsOf bs j)))
    (HB6 : Blk w6 h1 58 #[.int .i64 (x2 : Int), .slice A1 j d])
    (HR6 : RdAt w6 h2 A n c bs (14 + 8 * j + 8)) (HL6 : Below w.heap.size w w6)
    (HO8 : w8.ownsRow w.heap.size 2 1 (.slice A8 (j + 1) d8) (j + 1) (intsV (Fra.numsOf bs j) ++ [.int .i64 (IntKind.i64.wrap (y : Int))]))
    (G8 : (w6.alloc (.cells #[.int .i64 (IntKind.i64.wrap (y : Int))] 2)).grownBy w8 (Value.slice A1 j d).ownBlock)
    (HY : Fra.num bs (14 + 8 * j) 8 = y) (hne : h1 ≠ h2) (HH : w.heap.size ≤ h1) (hA : ∀ a, A = some a → a.block ≠ h1) (hAW : ∀ a, A = some a → a.block < w.heap.size) :
    Blk (w8.setCell ⟨h1, 1, none⟩ (.slice A8 (j + 1) d8)) h1 58 #[.int .i64 (x2 : Int), .slice A8 (j + 1) d8] ∧
    (w8.setCell ⟨h1, 1, none⟩ (.slice A8 (j + 1) d8)).ownsRow w.heap.size 2 1 (.slice A8 (j + 1) d8) (j + 1) (intsV (Fra.numsOf bs (j + 1))) ∧
    RdAt (w8.setCell ⟨h1, 1, none⟩ (.slice A8 (j + 1) d8)) h2 A n c bs (14 + 8 * (j + 1)) ∧ Below w.heap.size w (w8.setCell ⟨h1, 1, none⟩ (.slice A8 (j + 1) d8)) := by
  have hlow : ∀ q, (Value.slice A1 j d).ownBlock = some q → w.heap.size ≤ q := fun q hq => (HO6.lt q hq).1
  have hL8 : Below w.heap.size w w8 := (HL6.alloc HL6.size _).grown G8 (by have := HL6.size; simp; omega) hlow
  refine ⟨?_, ?_, ?_, hL8.setCell HH _⟩
  · have := HB8.set_ 1 (.slice A8 (j + 1) d8)
    simpa using this
  · have e : intsV (Fra.numsOf bs j) ++ [.int .i64 (IntKind.i64.wrap (y : Int))] = intsV (Fra.numsOf bs (j + 1)) := by
      rw [Fra.numsOf_succ, HY]
      unfold intsV
      rw [List.map_append, IntKind.wrap_i64]
      rfl
    rw [e] at HO8
    exact HO8.kept (only_setCell (World.grownBy.refl w8 (some h1)) (.inl rfl) _) (.inr (own_blk_ne HO8 HB8 (by decide)))
  · have hr : RdAt w8 h2 A n c bs (14 + 8 * j + 8) := (HR6.alloc _).grown G8 (fun he => own_blk_ne HO6 HR6.obj (by decide) he.symm) (fun a ha he => by
      have h1 := hlow a.block he.symm
      have h2 := hAW a ha
      omega)
    have hr2 := hr.far (q := ⟨h1, 1, none⟩) (Ne.symm hne) hA (.slice A8 (j + 1) d8)
    rw [show 14 + 8 * (j + 1) = 14 + 8 * j + 8 by omega]
    exact hr2

set_option maxHeartbeats 2000000 in
set_option maxRecDepth 10000 in
theorem getReply_long (A : Option Addr) (n c : Nat) (bs : List UInt8) (w : World) (hs : Sl w w.heap.size 1 A n c (bs.map byteV)) (hn : (14 : Int) ≤ n) (hm : n ≤ 1000000) :
    Calls Try.prog 51 #[.slice A n c] w (GotReply w (Fra.getReply bs)) := by
  have hnc := hs.nc
  have hcm := hs.cm
  have hlen := hs.lenB
  obtain ⟨x0, hx0, hl0⟩ := num_split bs 0 4
  obtain ⟨x1, hx1, hl1⟩ := num_split bs 4 8
  obtain ⟨x2, hx2, hl2⟩ := num_split bs 12 1
  obtain ⟨x3, hx3, hl3⟩ := num_split bs 13 1
  have HG := Lib.hid (show Fra.getReply bs = if x3 ≤ 29 ∧ n = 14 + 8 * x3 then (x0, x1, ⟨(x2 : Int), Fra.numsOf bs x3⟩, 0) else (0, 0, Fra.zeroReply, 5) by
    unfold Fra.getReply Fra.replyOk
    rw [hx0, hx1, hx2, hx3, hlen]
    by_cases hh : x3 ≤ 29 ∧ n = 14 + 8 * x3
    · rw [if_pos hh, if_pos (by simp; omega)]
    · rw [if_neg hh, if_neg (by simp; omega)])
  have X0 := Lib.hid hx0
  have X1 := Lib.hid hx1
  have X2 := Lib.hid hx2
  have X3 := Lib.hid hx3
  clear hx0 hx1 hx2 hx3 hlen
  replace hl0 : x0 < 4294967296 := hl0
  replace hl2 : x2 < 256 := hl2
  replace hl3 : x3 < 256 := hl3
  clear hl1
  have hA : ∀ a, A = some a → a.block ≠ w.heap.size := by
    intro a ha
    obtain ⟨ad, e, hb, _⟩ := hs.rd.2 (by omega)
    rw [ha] at e; cases e; omega
  have hAW : ∀ a, A = some a → a.block < w.heap.size := by
    intro a ha
    obtain ⟨ad, e, hb, _⟩ := hs.rd.2 (by omega)
    rw [ha] at e; cases e; omega
  go_enter Try.func51, Try.ntmps51
  go_wp2_with fail
  have B0 := (Blk.new w 58 #[.int .i64 0, .slice none 0 0]).alloc (.cells #[.slice A n c, .int .i64 0] 101)
  have b2 := Blk.new (w.alloc (.cells #[.int .i64 0, .slice none 0 0] 58)) 101 #[.slice A n c, .int .i64 ((0 : Nat) : Int)]
  have hz1 : (w.alloc (.cells #[.int .i64 0, .slice none 0 0] 58)).heap.size = w.heap.size + 1 := by simp
  rw [hz1] at b2
  have R0 : RdAt ((w.alloc (.cells #[.int .i64 0, .slice none 0 0] 58)).alloc (.cells #[.slice A n c, .int .i64 0] 101)) (w.heap.size + 1) A n c bs 0 :=
    ⟨b2, ((hs.alloc (Nat.le_refl _) _).alloc (by simp) _).more (by omega), hm⟩
  have L0 := Lib.hid (show Below w.heap.size w ((w.alloc (.cells #[.int .i64 0, .slice none 0 0] 58)).alloc (.cells #[.slice A n c, .int .i64 0] 101)) from ((Below.refl _ _).alloc (Nat.le_refl _) _).alloc (by simp) _)
  have hne : w.heap.size ≠ w.heap.size + 1 := by omega
  clear b2 hz1 hs
  have HAW := Lib.hid hAW
  clear hAW
  obtain ⟨h1, hh1⟩ : ∃ h1, h1 = w.heap.size := ⟨_, rfl⟩
  rw [← hh1] at hA B0 R0 hne ⊢
  obtain ⟨h2, hh2⟩ : ∃ h2, h2 = h1 + 1 := ⟨_, rfl⟩
  rw [← hh2] at R0 hne ⊢
  have hrow : ∀ q, some h2 = some q → w.heap.size ≤ q := by intro q hq; cases hq; omega
  have HH := Lib.hid (show w.heap.size ≤ h1 by omega)
  clear hh1 hh2
  generalize (w.alloc (.cells #[.int .i64 0, .slice none 0 0] 58)).alloc (.cells #[.slice A n c, .int .i64 0] 101) = w0 at B0 R0 L0 ⊢
  refine (fraTake h2 A n c bs 0 4 _ R0 rfl (by omega)).mono ?_
  rintro e w1 ⟨rfl, R1, g1⟩
  rw [X0.out]
  have B1 := B0.grown g1 (by simpa using hne)
  have L1 := Lib.hid (L0.out.grown g1 L0.out.size hrow)
  clear R0 B0 L0 g1
  go_wp2_with fail
  refine (fraTake h2 A n c bs 4 8 _ R1 rfl (by omega)).mono ?_
  rintro e w2 ⟨rfl, R2, g2⟩
  rw [X1.out]
  have B2 := B1.grown g2 (by simpa using hne)
  have L2 := Lib.hid (L1.out.grown g2 L1.out.size hrow)
  clear R1 B1 L1 g2
  go_wp2_with fail
  refine (fraTake h2 A n c bs 12 1 _ R2 rfl (by omega)).mono ?_
  rintro e w3 ⟨rfl, R3, g3⟩
  rw [X2.out]
  have B3 := B2.grown g3 (by simpa using hne)
  have L3 := Lib.hid (L2.out.grown g3 L2.out.size hrow)
  clear R2 B2 L2 g3
  have q0 := B3.cell 0
  have f0 := B3.frozen 0
  simp only [List.getElem?_toArray, List.getElem?_cons_zero] at q0
  go_wp2_with fail
  have B4 := B3.set_ 0 (.int .i64 (x2 : Int))
  have R4 := R3.far (q := ⟨h1, 0, none⟩) (Ne.symm hne) hA (.int .i64 (x2 : Int))
  have L4 := Lib.hid (L3.out.setCell (p := ⟨h1, 0, none⟩) HH.out (.int .i64 (x2 : Int)))
  generalize w3.setCell ⟨h1, 0, none⟩ (.int .i64 (x2 : Int)) = w4 at B4 R4 L4 ⊢
  simp only [List.setIfInBounds_toArray, List.set_cons_zero] at B4
  clear q0 f0 B3 R3 L3 X0 X1 X2
  refine (fraTake h2 A n c bs 13 1 _ R4 rfl (by omega)).mono ?_
  rintro e w5 ⟨rfl, R5, g5⟩
  rw [X3.out]
  have B5 := B4.grown g5 (by simpa using hne)
  have L5 := Lib.hid (L4.out.grown g5 L4.out.size hrow)
  clear R4 B4 L4 g5
  by_cases h29 : (29 : Int) < x3
  · clear X3
    go_upto_region 8 with (fail)
    have HB5 := Lib.hid B5
    clear B5
    go_wp2_with (refine wpList_store_blk rfl 58 _ _ rfl _ rfl rfl HB5.out rfl replyInfo (by simp [Value.oneCell']) ?_; intro w13 B13 g13)
    rw [HG.out, if_neg (by omega)]
    refine bodyPost_ret (results_ttct rfl _ rfl B13 _ Try.underlying58 rfl replyInfo) rfl ?_
    exact GotReply.zero (L5.out.grown g13 L5.out.size (fun q hq => by cases hq; exact HH.out))
  by_cases hnn : (n : Int) ≠ 14 + 8 * (x3 : Int)
  · have hnd : ((n : Int) != 14 + 8 * (x3 : Int)) = true := by simpa using hnn
    clear X3
    go_upto_region 8 with (fail)
    have HB5 := Lib.hid B5
    clear B5
    go_wp2_with (refine wpList_store_blk rfl 58 _ _ rfl _ rfl rfl HB5.out rfl replyInfo (by simp [Value.oneCell']) ?_; intro w13 B13 g13)
    rw [HG.out, if_neg (by omega)]
    refine bodyPost_ret (results_ttct rfl _ rfl B13 _ Try.underlying58 rfl replyInfo) rfl ?_
    exact GotReply.zero (L5.out.grown g13 L5.out.size (fun q hq => by cases hq; exact HH.out))
  obtain ⟨i0, hi0, hz0, hz1, hz2⟩ := info_parts infoI64
  have hfit : n = 14 + 8 * x3 := by omega
  have HFIT := Lib.hid hfit
  have hnd : ((n : Int) != 14 + 8 * (x3 : Int)) = false := by simp; omega
  have hx29 : x3 ≤ 29 := by omega
  clear hnn hfit X3
  go_wp2_with fail
  go_loopw [39] (fun i wr => ∃ (j d : Nat) (A1 : Option Addr), j ≤ x3 ∧ i = .int .i64 j ∧ Blk wr h1 58 #[.int .i64 (x2 : Int), .slice A1 j d] ∧ wr.ownsRow w.heap.size 2 1 (.slice A1 j d) j (intsV (Fra.numsOf bs j)) ∧ RdAt wr h2 A n c bs (14 + 8 * j) ∧ Below w.heap.size w wr) (fun i _ => x3 - (intOf i).toNat)
  case atStart => exact ⟨0, 0, none, Nat.zero_le _, rfl, B5, World.ownsRow_nil _ _ _ _, R5, L5.out⟩
  case round =>
    clear B5 R5 L5
    obtain ⟨j, d, A1, hj, rfl, B, O, R, L⟩ := hrel
    by_cases hlt : j < x3
    · have hq1 := B.cell 1
      have hf1 := B.frozen 1
      simp only [List.getElem?_toArray, List.getElem?_cons_zero, List.getElem?_cons_succ] at hq1
      obtain ⟨y, hy⟩ : ∃ y, Fra.num bs (14 + 8 * j) 8 = y := ⟨_, rfl⟩
      have HY := Lib.hid hy
      have HB := Lib.hid B
      have HO := Lib.hid O
      have HR := Lib.hid R
      have HL := Lib.hid L
      clear B O R L hy
      go_wp2_with fail
      go_region_law (first
        | ((refine step_append_any _ rfl _ _ 56 rfl w.heap.size 2 i0 (.int .i64 0) 1 8 Try.underlying56 hi0 hz0 hz1 hz2 rfl (by omega) _ _ _ (by rfl) (HO6.out.alloc _) _ _ 1 1 [.int .i64 (IntKind.i64.wrap (y : Int))] (by rfl) (by exact (Sl.lit (k := 1) (cap := 1) _ _ _ _ _ _ rfl rfl rfl (by omega) (by omega)).rd) (by simp [Value.oneCell']) (by simp only [maxLen]; omega) (by omega) (by have := HL6.out.size; simp; omega) ?_; intro v8 w8 O8 g8 a8; obtain ⟨A8, d8, rfl⟩ := own_slice O8; have B8 := (HB6.out.alloc (.cells #[.int .i64 (IntKind.i64.wrap (y : Int))] 2)).grown g8 (fun he => own_blk_ne HO6.out HB6.out (by decide) he.symm); have q8 := B8.cell 1; have f8 := B8.frozen 1; have HB8 := Lib.hid B8; have HO8 := Lib.hid O8; have G8 := Lib.hid g8; simp only [List.getElem?_toArray, List.getElem?_cons_zero, List.getElem?_cons_succ] at q8; clear B8 O8 g8))
        | (go_simp; go_at_call 80; refine (fraTake h2 A n c bs (14 + 8 * j) 8 _ HR.out.drew rfl (by have := HFIT.out; omega)).mono ?_; rintro e w6 ⟨rfl, R6, g6⟩; rw [HY.out]; have HR6 := Lib.hid R6; have B6 := HB.out.drew.grown g6 (by simpa using hne); have hq6 := B6.cell 1; have hq7 := (B6.alloc (.cells #[.int .i64 (IntKind.i64.wrap (y : Int))] 2)).cell 1; have HB6 := Lib.hid B6; have HO6 := Lib.hid (HO.out.drew.kept g6 (.inr (own_blk_ne HO.out HR.out.obj (by decide)))); have HL6 := Lib.hid (HL.out.drew.grown g6 HL.out.drew.size hrow); simp only [List.getElem?_toArray, List.getElem?_cons_zero, List.getElem?_cons_succ] at hq6 hq7; clear R6 B6 g6))
      all_goals
        have T := Lib.hid (reply_step HB8.out HO6.out HB6.out HR6.out HL6.out HO8.out G8.out HY.out hne HH.out hA HAW.out)
        clear hq6 hq7 q8 f8 hq1 hf1
        go_wp2_with fail
        go_roundw
        case rel => exact ⟨j + 1, d8, A8, by omega, by go_num, T.out.1, T.out.2.1, T.out.2.2.1, T.out.2.2.2⟩
        case measure => simp [intOf]; omega
    · obtain rfl : j = x3 := by omega
      obtain ⟨cs, hcs⟩ : ∃ cs : Array Value, cs = #[.int .i64 (x2 : Int), .slice A1 j d] := ⟨_, rfl⟩
      have hi : (Try.prog.info? 58).map (·.size) = some cs.size := by rw [hcs]; exact replyInfo
      have hoc : cs.all (·.oneCell') = true := by rw [hcs]; simp [Value.oneCell']
      rw [← hcs] at B
      have HCS := Lib.hid hcs
      have HB := Lib.hid B
      have HI := Lib.hid hi
      have HOC := Lib.hid hoc
      have HO := Lib.hid O
      have HL := Lib.hid L
      have HNE := Lib.hid (own_blk_ne O B (by decide))
      clear B O L R hcs hi hoc
      go_wp2_with fail
      refine wp_region_still_tail 5 (by kernel_rfl) (by kernel_rfl) ?_
      simp only [List.take_succ_cons, List.take_zero, List.drop_succ_cons, List.drop_zero]
      still_step
      still_step
      change wpStill _ _ wr.drew _ _ _
      refine wpStill_load_blk (w := wr.drew) rfl _ _ rfl rfl HB.out.drew _ Try.underlying58 rfl HI.out ?_
      still_step
      still_step
      refine wpStill_nil ?_
      change wpList _ _ _ _ _ wr.drew
      refine wpList_store_blk rfl _ _ _ rfl _ rfl rfl HB.out.drew rfl HI.out HOC.out ?_
      intro w13 B13 g13
      have HB13 := Lib.hid B13
      have HL13 := Lib.hid (HL.out.drew.grown g13 HL.out.drew.size (fun q hq => by cases hq; exact HH.out))
      have HO13 := Lib.hid (HO.out.drew.kept g13 (.inr HNE.out))
      clear B13 g13
      go_wp2_with fail
      refine bodyPost_ret (results_ttct rfl _ rfl HB13.out _ Try.underlying58 rfl HI.out) rfl ?_
      rw [HG.out, if_pos ⟨hx29, HFIT.out⟩, HCS.out]
      have hnl : (Fra.numsOf bs j).length = j := by simp [Fra.numsOf]
      refine ⟨A1, d, ?_, ?_, HL13.out⟩
      · simp only [hnl]
        rfl
      · simp only [hnl]
        exact HO13.out

/-- GetReply. -/
theorem fraGetReply (A : Option Addr) (n c : Nat) (bs : List UInt8) (w : World) (hs : Sl w w.heap.size 1 A n c (bs.map byteV)) (hm : n ≤ 1000000) :
    Calls Try.prog 51 #[.slice A n c] w (GotReply w (Fra.getReply bs)) := by
  by_cases hn : n < 14
  · have : Fra.getReply bs = (0, 0, Fra.zeroReply, 5) := by
      unfold Fra.getReply Fra.replyOk
      rw [if_neg (by rw [hs.lenB]; simp; omega)]
    rw [this]
    exact getReply_short A n c bs w hs (by omega)
  · exact getReply_long A n c bs w hs (by omega) hm

end Go.Proofs.Ytbfcfhfnkpklkaa

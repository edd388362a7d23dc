/-
  The document's answer of layer 24 (frames): what bytes ask, walked.
-/
import Derived.Test.YtbfcfhfnkpklkaaFraRefRep
import Derived.StillTailTactics
namespace Go.Proofs.Ytbfcfhfnkpklkaa
open Go.RowKit Go.Gab
set_option linter.unusedVariables false
attribute [local go_sem ↓] Go.wp_at_zero Go.wp_at_succ

theorem num_byte {bs : List UInt8} {p : Nat} {b : UInt8} (h : bs[p]? = some b) : Fra.num bs p 1 = b.toNat := by
  have := num_succ (bs := bs) (p := p) (j := 0) (b := b) (by simpa using h)
  simpa [Fra.num, Oct.val] using this

/-- A number, at any place. -/
theorem refNumI (B : Nat) (A : Option Addr) (n c : Nat) (bs : List UInt8) (p k : Int) (w : World) (hr : Sl w B 1 A n c (bs.map byteV)) (hp0 : 0 ≤ p) (hk0 : 0 ≤ k) (hk : k ≤ 8) (hp : p + k ≤ n) (hm : n ≤ 1000000) :
    Calls Try.prog 81 #[.slice A n c, .int .i64 p, .int .i64 k] w fun e w' => e = .returned (.int .u64 (Fra.num bs p.toNat k.toNat : Int)) ∧ w = w' := by
  obtain ⟨p', rfl⟩ := Int.eq_ofNat_of_zero_le hp0
  obtain ⟨k', rfl⟩ := Int.eq_ofNat_of_zero_le hk0
  exact refNumber B A n c bs p' k' w hr (by omega) (by omega) hm

/-- A number, where calls leave the world alone. -/
theorem refNum (B : Nat) (A : Option Addr) (n c : Nat) (bs : List UInt8) (p k : Nat) (w : World) (hr : Sl w B 1 A n c (bs.map byteV)) (hk : k ≤ 8) (hp : p + k ≤ n) (hm : n ≤ 1000000) :
    Calls Try.prog 81 #[.slice A n c, .int .i64 (p : Int), .int .i64 (k : Int)] w fun e w' => e = .returned (.int .u64 (Fra.num bs p k : Int)) ∧ w' = w :=
  (refNumber B A n c bs p k w hr hk hp hm).mono fun _ _ ⟨h1, h2⟩ => ⟨h1, h2.symm⟩

set_option maxHeartbeats 1000000 in
set_option maxRecDepth 10000 in
theorem refGetAsk_no (A : Option Addr) (n c : Nat) (bs : List UInt8) (w : World) (hs : Sl w w.heap.size 1 A n c (bs.map byteV)) (hn : (n : Int) ≠ 42) (hm : n ≤ 1000000) :
    Calls Try.prog 50 #[.slice A n c] w fun e w' => e = .returned (gotV (0, 0, Fra.zeroAsk, 5)) ∧ Below w.heap.size w w' := by
  have hnb : ((n : Int) != 42) = true := by simpa using hn
  clear hn
  go_enter Try.func50, Try.ntmps50
  go_upto_region 1 with (fail)
  have B0 := Blk.new w 55 #[.int .u8 0, .int .i64 0, .int .i64 0, .int .i64 0, .int .i64 0, .int .i64 0, .int .u64 0]
  have L0 := Lib.hid (show Below w.heap.size w (w.alloc (.cells #[.int .u8 0, .int .i64 0, .int .i64 0, .int .i64 0, .int .i64 0, .int .i64 0, .int .u64 0] 55)) from (Below.refl _ _).alloc (Nat.le_refl _) _)
  generalize w.alloc (.cells #[.int .u8 0, .int .i64 0, .int .i64 0, .int .i64 0, .int .i64 0, .int .i64 0, .int .u64 0] 55) = W at B0 L0 ⊢
  have HB0 := Lib.hid B0
  clear B0
  go_wp2_with (refine wpList_store_blk rfl 55 _ _ rfl _ rfl rfl HB0.out rfl askInfo (by simp [Value.oneCell']) ?_; intro w13 B13 g13)
  exact bodyPost_ret (results_ttct rfl _ rfl B13 _ Try.underlying55 rfl askInfo) rfl ⟨rfl, L0.out.grown g13 L0.out.size (fun q hq => by cases hq; exact Nat.le_refl _)⟩

set_option maxHeartbeats 1000000 in
set_option maxRecDepth 10000 in
theorem refGetAsk_kind (A : Option Addr) (c : Nat) (bs : List UInt8) (w : World) (hs : Sl w w.heap.size 1 A 42 c (bs.map byteV)) {k : UInt8} (hk : bs[12]? = some k) (hbad : Fra.kindOk k = false) :
    Calls Try.prog 50 #[.slice A 42 c] w fun e w' => e = .returned (gotV (0, 0, Fra.zeroAsk, 5)) ∧ Below w.heap.size w w' := by
  have hnc := hs.nc
  have hcm := hs.cm
  obtain ⟨b, off, k', rfl, hbb, hk', hcell, hkl⟩ := hs.byte (k := 12) (by omega)
  rw [hk] at hk'
  obtain rfl : k = k' := by injection hk'
  have hkb : ¬ (1 ≤ k.toNat ∧ k.toNat ≤ 15) := by
    intro h
    unfold Fra.kindOk at hbad
    simp at hbad
    omega
  have hkc : (k.toNat : Int) < 1 ∨ (15 : Int) < (k.toNat : Int) := by omega
  clear hk hk' hbad hkb
  rcases hkc with h | h
  all_goals
    go_enter Try.func50, Try.ntmps50
    go_upto_region 1 with (fail)
    have B0 := Blk.new w 55 #[.int .u8 0, .int .i64 0, .int .i64 0, .int .i64 0, .int .i64 0, .int .i64 0, .int .u64 0]
    have L0 := Lib.hid (show Below w.heap.size w (w.alloc (.cells #[.int .u8 0, .int .i64 0, .int .i64 0, .int .i64 0, .int .i64 0, .int .i64 0, .int .u64 0] 55)) from (Below.refl _ _).alloc (Nat.le_refl _) _)
    have k0 := (World.cell?_alloc_lt w (.cells #[.int .u8 0, .int .i64 0, .int .i64 0, .int .i64 0, .int .i64 0, .int .i64 0, .int .u64 0] 55) ⟨b, off + 12, none⟩ hbb).trans hcell
    generalize w.alloc (.cells #[.int .u8 0, .int .i64 0, .int .i64 0, .int .i64 0, .int .i64 0, .int .i64 0, .int .u64 0] 55) = W at B0 L0 k0 ⊢
    have HB0 := Lib.hid B0
    clear B0
    go_wp2_with (refine wpList_store_blk rfl 55 _ _ rfl _ rfl rfl HB0.out rfl askInfo (by simp [Value.oneCell']) ?_; intro w13 B13 g13)
    exact bodyPost_ret (results_ttct rfl _ rfl B13 _ Try.underlying55 rfl askInfo) rfl ⟨rfl, L0.out.grown g13 L0.out.size (fun q hq => by cases hq; exact Nat.le_refl _)⟩

theorem ask_wraps (k a x4 x5 x6 x7 x8 : Nat) (ha : a < 256) (h6 : x6 < 65536) :
    (#[.int .u8 (k : Int), .int .i64 (IntKind.i64.wrap (a : Int)), .int .i64 (IntKind.i64.wrap (IntKind.i16.wrap (x4 : Int))), .int .i64 (IntKind.i64.wrap (x5 : Int)), .int .i64 (IntKind.i64.wrap (x6 : Int)), .int .i64 (IntKind.i64.wrap (x7 : Int)), .int .u64 (x8 : Int)] : Array Value) =
    #[.int .u8 (k : Int), .int .i64 (a : Int), .int .i64 (Fra.s16 x4), .int .i64 (Fra.s64 x5), .int .i64 (x6 : Int), .int .i64 (Fra.s64 x7), .int .u64 (x8 : Int)] := by
  have e1 : IntKind.i64.wrap (a : Int) = a := by rw [IntKind.wrap_i64]; omega
  have e6 : IntKind.i64.wrap (x6 : Int) = x6 := by rw [IntKind.wrap_i64]; omega
  have e4 : IntKind.i64.wrap (IntKind.i16.wrap (x4 : Int)) = Fra.s16 x4 := by rw [IntKind.wrap_i64]; have := wrap_s16 x4; unfold wrap64 at this; exact this
  have e5 : IntKind.i64.wrap (x5 : Int) = Fra.s64 x5 := by rw [IntKind.wrap_i64]; rfl
  have e7 : IntKind.i64.wrap (x7 : Int) = Fra.s64 x7 := by rw [IntKind.wrap_i64]; rfl
  rw [e1, e4, e5, e6, e7]

set_option maxHeartbeats 4000000 in
set_option maxRecDepth 10000 in
theorem refGetAsk_yes (A : Option Addr) (c : Nat) (bs : List UInt8) (w : World) (hs : Sl w w.heap.size 1 A 42 c (bs.map byteV)) {k : UInt8} (hk : bs[12]? = some k) (hok : Fra.kindOk k = true) :
    Calls Try.prog 50 #[.slice A 42 c] w fun e w' => e = .returned (gotV (Fra.getAsk bs)) ∧ Below w.heap.size w w' := by
  have hnc := hs.nc
  have hcm := hs.cm
  have hlen := hs.lenB
  obtain ⟨b, off, k', rfl, hbb, hk', hcell, hkl⟩ := hs.byte (k := 12) (by omega)
  rw [hk] at hk'
  obtain rfl : k = k' := by injection hk'
  obtain ⟨_, _, a, hA, _, ha, hcella, hal⟩ := hs.byte (k := 13) (by omega)
  cases hA
  have hkb : 1 ≤ k.toNat ∧ k.toNat ≤ 15 := by
    unfold Fra.kindOk at hok
    simp at hok
    omega
  obtain ⟨hk1, hk2⟩ := hkb
  have hk1' : (1 : Int) ≤ (k.toNat : Int) := by omega
  have hk2' : (k.toNat : Int) ≤ 15 := by omega
  have e2 := num_byte hk
  have e3 := num_byte ha
  obtain ⟨x0, hx0, hl0⟩ := num_split bs 0 4
  obtain ⟨x1, hx1, hl1⟩ := num_split bs 4 8
  obtain ⟨x4, hx4, hl4⟩ := num_split bs 14 2
  obtain ⟨x5, hx5, hl5⟩ := num_split bs 16 8
  obtain ⟨x6, hx6, hl6⟩ := num_split bs 24 2
  obtain ⟨x7, hx7, hl7⟩ := num_split bs 26 8
  obtain ⟨x8, hx8, hl8⟩ := num_split bs 34 8
  have HG := Lib.hid (show Fra.getAsk bs = (x0, x1, ⟨k, (a.toNat : Int), Fra.s16 x4, Fra.s64 x5, x6, Fra.s64 x7, x8⟩, 0) by
    unfold Fra.getAsk Fra.askOf
    rw [hx0, hx1, e2, e3, hx4, hx5, hx6, hx7, hx8]
    have : UInt8.ofNat k.toNat = k := by simp
    rw [this, if_pos ⟨hlen, hok⟩])
  have X0 := Lib.hid (show Fra.num bs (Int.toNat 0) (Int.toNat 4) = x0 from hx0)
  have X1 := Lib.hid (show Fra.num bs (Int.toNat 4) (Int.toNat 8) = x1 from hx1)
  have X4 := Lib.hid (show Fra.num bs (Int.toNat 14) (Int.toNat 2) = x4 from hx4)
  have X5 := Lib.hid (show Fra.num bs (Int.toNat 16) (Int.toNat 8) = x5 from hx5)
  have X6 := Lib.hid (show Fra.num bs (Int.toNat 24) (Int.toNat 2) = x6 from hx6)
  have X7 := Lib.hid (show Fra.num bs (Int.toNat 26) (Int.toNat 8) = x7 from hx7)
  have X8 := Lib.hid (show Fra.num bs (Int.toNat 34) (Int.toNat 8) = x8 from hx8)
  clear hx0 hx1 hx4 hx5 hx6 hx7 hx8 hlen e2 e3 hk hk' ha hok
  replace hl0 : x0 < 4294967296 := hl0
  replace hl4 : x4 < 65536 := hl4
  replace hl6 : x6 < 65536 := hl6
  clear hl1 hl5 hl7 hl8 hk1 hk2
  go_enter Try.func50, Try.ntmps50
  go_upto_region 1 with (fail)
  have B0 := Blk.new w 55 #[.int .u8 0, .int .i64 0, .int .i64 0, .int .i64 0, .int .i64 0, .int .i64 0, .int .u64 0]
  have l0 : Below w.heap.size w (w.alloc (.cells #[.int .u8 0, .int .i64 0, .int .i64 0, .int .i64 0, .int .i64 0, .int .i64 0, .int .u64 0] 55)) := (Below.refl _ _).alloc (Nat.le_refl _) _
  have L0 := Lib.hid l0
  have k0 := (World.cell?_alloc_lt w (.cells #[.int .u8 0, .int .i64 0, .int .i64 0, .int .i64 0, .int .i64 0, .int .i64 0, .int .u64 0] 55) ⟨b, off + 12, none⟩ hbb).trans hcell
  have k1 := (World.cell?_alloc_lt w (.cells #[.int .u8 0, .int .i64 0, .int .i64 0, .int .i64 0, .int .i64 0, .int .i64 0, .int .u64 0] 55) ⟨b, off + 13, none⟩ hbb).trans hcella
  have hs1 := Lib.hid ((hs.below l0).more l0.size)
  generalize w.alloc (.cells #[.int .u8 0, .int .i64 0, .int .i64 0, .int .i64 0, .int .i64 0, .int .i64 0, .int .u64 0] 55) = W at B0 L0 k0 k1 l0 hs1 ⊢
  have HB0 := Lib.hid B0
  clear B0 hs l0 hcell hcella hbb
  have A0 := Lib.hid (show W.heap.size ≥ w.heap.size from L0.out.size)
  have hkd1 : decide ((k.toNat : Int) < 1) = false := by simpa using hk1'
  have hkd2 : decide ((15 : Int) < (k.toNat : Int)) = false := by simpa using hk2'
  clear hk1' hk2'
  go_upto_region 3 with (fail)
  clear hkd1 hkd2
  go_cut [6] (fun p wx => ∃ g, p = .pointer (some ⟨g, 0, none⟩) ∧ Blk wx g 55 #[.int .u8 (k.toNat : Int), .int .i64 (a.toNat : Int), .int .i64 (Fra.s16 x4), .int .i64 (Fra.s64 x5), .int .i64 (x6 : Int), .int .i64 (Fra.s64 x7), .int .u64 (x8 : Int)] ∧ Below W.heap.size W wx)
  case first =>
    have n0 := World.new_ne W _ k0
    have n1 := World.new_ne W _ k1
    go_region_held3 (fun w' => w'.cell? ⟨b, off + 12, none⟩ = some (.int .u8 (k.toNat : Int)) ∧ w'.cell? ⟨b, off + 13, none⟩ = some (.int .u8 (a.toNat : Int))) (go_keep)
      ((go_at_call 81; refine (refNumI W.heap.size (some ⟨b, off, none⟩) 42 c bs _ _ _ ?_ (by omega) (by omega) (by omega) (by omega) (by omega)).mono ?_; (first | exact hs1.out.drew | exact (hs1.out.alloc (Nat.le_refl _) _).drew); rintro e w' ⟨rfl, rfl⟩; first | rw [X4.out] | rw [X5.out] | rw [X6.out] | rw [X7.out] | rw [X8.out]))
    all_goals
      go_wp2_with fail
      go_meet
      case rel =>
        refine ⟨W.heap.size, rfl, ?_, ((Below.refl _ _).alloc (Nat.le_refl _) _).drew⟩
        have e := ask_wraps k.toNat a.toNat x4 x5 x6 x7 x8 hal hl6
        have := (Blk.new W 55 #[.int .u8 (k.toNat : Int), .int .i64 (IntKind.i64.wrap (a.toNat : Int)), .int .i64 (IntKind.i64.wrap (IntKind.i16.wrap (x4 : Int))), .int .i64 (IntKind.i64.wrap (x5 : Int)), .int .i64 (IntKind.i64.wrap (x6 : Int)), .int .i64 (IntKind.i64.wrap (x7 : Int)), .int .u64 (x8 : Int)]).drew
        rw [← e]
        exact this
  case rest =>
    obtain ⟨g, rfl, hB, hbel⟩ := hcut
    have hz := HB0.out.lt
    have HR := Lib.hid (HB0.out.below hbel hz)
    have HS := Lib.hid (hs1.out.below hbel)
    have HBW := Lib.hid (show W.heap.size ≤ wc.heap.size from hbel.size)
    have HL := Lib.hid (L0.out.trans (hbel.mono L0.out.size))
    obtain ⟨cs, hcs⟩ : ∃ cs : Array Value, cs = #[.int .u8 (k.toNat : Int), .int .i64 (a.toNat : Int), .int .i64 (Fra.s16 x4), .int .i64 (Fra.s64 x5), .int .i64 (x6 : Int), .int .i64 (Fra.s64 x7), .int .u64 (x8 : Int)] := ⟨_, rfl⟩
    have hi : (Try.prog.info? 55).map (·.size) = some cs.size := by rw [hcs]; exact askInfo
    have hoc : cs.all (·.oneCell') = true := by rw [hcs]; simp [Value.oneCell']
    rw [← hcs] at hB
    have HCZ := Lib.hid (show cs.size = 7 by rw [hcs]; rfl)
    have HCS := Lib.hid hcs
    have HB := Lib.hid hB
    have HI := Lib.hid hi
    have HOC := Lib.hid hoc
    clear hB hbel hcs hi hoc hz
    go_wp2_with fail
    refine wp_region_still_tail 8 (by kernel_rfl) (by kernel_rfl) ?_
    simp only [List.take_succ_cons, List.take_zero, List.drop_succ_cons, List.drop_zero]
    change wpStill _ _ wc.drew _ _ _
    still_step
    still_call (refNum W.heap.size (some ⟨b, off, none⟩) 42 c bs 0 4 _ HS.out.drew (by omega) (by omega) (by omega))
    rw [show Fra.num bs 0 4 = x0 from X0.out]
    still_step
    still_step
    still_call (refNum W.heap.size (some ⟨b, off, none⟩) 42 c bs 4 8 _ HS.out.drew (by omega) (by omega) (by omega))
    rw [show Fra.num bs 4 8 = x1 from X1.out]
    refine wpStill_load_blk (w := wc.drew) rfl _ _ rfl rfl HB.out.drew _ Try.underlying55 rfl HI.out ?_
    still_step
    still_step
    refine wpStill_nil ?_
    change wpList _ _ _ _ _ wc.drew
    refine wpList_store_blk rfl _ _ _ rfl _ rfl rfl HR.out.drew (by rw [HCZ.out]; rfl) HI.out HOC.out ?_
    intro w13 B13 g13
    have HB13 := Lib.hid B13
    have HL13 := Lib.hid (HL.out.drew.grown g13 HL.out.drew.size (fun q hq => by cases hq; exact Nat.le_refl _))
    clear B13 g13
    go_wp2_with fail
    refine bodyPost_ret (results_ttct rfl _ rfl HB13.out _ Try.underlying55 rfl HI.out) rfl ⟨?_, HL13.out⟩
    rw [HG.out, HCS.out]
    rfl

/-- GetAsk of the document. -/
theorem refGetAsk (A : Option Addr) (n c : Nat) (bs : List UInt8) (w : World) (hs : Sl w w.heap.size 1 A n c (bs.map byteV)) (hm : n ≤ 1000000) :
    Calls Try.prog 50 #[.slice A n c] w fun e w' => e = .returned (gotV (Fra.getAsk bs)) ∧ Below w.heap.size w w' := by
  by_cases hn : n = 42
  · subst hn
    have hl := hs.lenB
    have hk : bs[12]? = some (bs[12]'(by omega)) := List.getElem?_eq_getElem (by omega)
    cases hok : Fra.kindOk (bs[12]'(by omega)) with
    | true => exact refGetAsk_yes A c bs w hs hk hok
    | false =>
      have : Fra.getAsk bs = (0, 0, Fra.zeroAsk, 5) := by
        unfold Fra.getAsk
        rw [num_byte hk, if_neg]
        intro h
        have e : UInt8.ofNat (bs[12]'(by omega)).toNat = bs[12]'(by omega) := by simp
        rw [e, hok] at h
        exact absurd h.2 (by decide)
      rw [this]
      exact refGetAsk_kind A c bs w hs hk hok
  · rw [Fra.getAsk_len (by rw [hs.lenB]; exact hn)]
    exact refGetAsk_no A n c bs w hs (by omega) hm

end Go.Proofs.Ytbfcfhfnkpklkaa

/-
  Layer 23 (rows): a row taken into a state, walked: of no key, and of the first kind.
-/
import Derived.Test.YtniekddoaokmkaaRdTake
namespace Go.Proofs.Ytniekddoaokmkaa
open Go.RowKit Go.Gab Go.Sort
set_option linter.unusedVariables false
attribute [local go_sem ↓] Go.wp_at_zero Go.wp_at_succ

theorem i64_wrap_nat {n : Nat} (h : n < 18446744073709551616) : IntKind.i64.wrap (n : Int) = Rws.s64 n := by
  rw [IntKind.wrap_i64]
  unfold Rws.s64
  split <;> omega
theorem rlong_any (h B : Nat) (r : Rws.Rd) (A : Option Addr) (c : Nat) (w : World) (hr : RdAt w h B r A c) :
    Calls Try.prog 47 #[.pointer (some ⟨h, 0, none⟩)] w (TakeTo h B A c (.int .i64 (Rws.s64 (r.take 8).1)) (r.take 8).2 w) := by
  have HW := Lib.hid (show wrap64 ((r.take 8).1 : Int) = Rws.s64 (r.take 8).1 by rw [← IntWalk.i64_left]; exact i64_wrap_nat r.take_8)
  go_enter Try.func47, Try.ntmps47
  go_wp2_with fail
  refine (rtake_any h B r 8 A c w hr rfl).mono ?_
  rintro e w2 ⟨rfl, h2, h3⟩
  have H2 := Lib.hid h2
  have H3 := Lib.hid h3
  obtain ⟨x, hx⟩ : ∃ x : Nat, (r.take 8).1 = x := ⟨_, rfl⟩
  have HX := Lib.hid hx
  rw [hx] at HW ⊢
  clear h2 h3 hx
  go_wp2_with fail
  go_ret
  exact ⟨ret_int (by rw [HX.out]; exact HW.out), H2.out, H3.out⟩
theorem rint_any (h B : Nat) (r : Rws.Rd) (k : Nat) (A : Option Addr) (c : Nat) (w : World) (hr : RdAt w h B r A c) (hk : k = 1 ∨ k = 2) :
    Calls Try.prog 49 #[.pointer (some ⟨h, 0, none⟩), .int .i64 (k : Int)] w (TakeTo h B A c (.int .i64 ((r.take k).1 : Int)) (r.take k).2 w) := by
  have hlt : (r.take k).1 < 65536 := by
    have h1 := r.take_lt k
    rcases hk with rfl | rfl
    · omega
    · omega
  have HW := Lib.hid (show IntKind.i64.wrap ((r.take k).1 : Int) = ((r.take k).1 : Int) by rw [IntKind.wrap_i64]; omega)
  have HK := Lib.hid (show Oct.size (k : Int) = true by rcases hk with rfl | rfl <;> rfl)
  clear hk
  go_enter Try.func49, Try.ntmps49
  go_wp2_with fail
  refine (rtake_any h B r k A c w hr HK.out).mono ?_
  rintro e w2 ⟨rfl, h2, h3⟩
  have H2 := Lib.hid h2
  have H3 := Lib.hid h3
  obtain ⟨x, hx⟩ : ∃ x : Nat, (r.take k).1 = x := ⟨_, rfl⟩
  have HX := Lib.hid hx
  rw [hx] at HW hlt ⊢
  clear h2 h3 hx
  go_wp2_with fail
  go_ret
  exact ⟨ret_int (by rw [HX.out]), H2.out, H3.out⟩

/-- What a row that is taken answers. -/
def ReadTo (base g : Nat) (o : Option Rws.St) (w : World) (e : Ending) (w' : World) : Prop :=
  (∀ s, o = some s → e = .returned (.bool true) ∧ StIn w' base g s) ∧ (o = none → e = .returned (.bool false)) ∧ Below base w w'
theorem ReadTo.yes {base g : Nat} {s : Rws.St} {w w' : World} (h1 : StIn w' base g s) (h2 : Below base w w') : ReadTo base g (some s) w (.returned (.bool true)) w' :=
  ⟨fun s' e => by
    injection e with e
    subst e
    exact ⟨rfl, h1⟩, (fun e => nomatch e), h2⟩
theorem ReadTo.no {base g : Nat} {w w' : World} (h2 : Below base w w') : ReadTo base g none w (.returned (.bool false)) w' :=
  ⟨(fun s' e => nomatch e), fun _ => rfl, h2⟩
def pairV (A1 A2 : Option Addr) (n1 c1 n2 c2 : Nat) : Value := .agg #[.slice A1 n1 c1, .slice A2 n2 c2]

theorem readNil_any (B base g : Nat) (s : Rws.St) (v : List UInt8) (A1 A2 : Option Addr) (c1 n2 c2 : Nat) (w : World) (hst : StIn w base g s) :
    Calls Try.prog 23 #[.pointer (some ⟨g, 0, none⟩), pairV A1 A2 0 c1 n2 c2] w (ReadTo base g (Rws.readRow s ([], v)) w) := by
  have HB := Lib.hid ((Below.refl base w).alloc hst.size (.cells #[.slice A1 0 c1, .slice A2 n2 c2] 42))
  have HR := Lib.hid (show Rws.readRow s ([], v) = none from rfl)
  unfold pairV
  clear hst
  go_enter Try.func23, Try.ntmps23
  go_wp2_with fail
  go_ret
  rw [HR.out]
  exact ReadTo.no HB.out

/-! ### The readers that a row is read by -/
theorem Sl.tail1 {w : World} {B n c : Nat} {A : Option Addr} {x : UInt8} {bs : List UInt8} (h : Sl w B 1 A n c ((x :: bs).map byteV)) : ∃ A', Sl w B 1 A' (n - 1) (c - 1) (bs.map byteV) ∧ A' = (if c = 1 then A else A.map (·.add (1 * 1))) := by
  have hl := h.lenB
  simp at hl
  have h2 := h.cut (k := 1) (by omega)
  refine ⟨_, ?_, rfl⟩
  simpa using h2
theorem sliceRunB {A : Option Addr} {n c : Nat} (hn : 1 ≤ n) (w : World) {A' : Option Addr} (hA : A' = (if c = 1 then A else A.map (·.add (1 * 1)))) :
    (Instr.slice 40 (.slice A n c) (some (.int .i64 1)) none none).run Try.prog w = .ok (.slice A' (n - 1) (c - 1)) w := by
  have he : Try.prog.elem 40 = 5 := by kernel_rfl
  have hz : (sizeOf 5).run Try.prog w = .ok 1 w := by kernel_rfl
  rw [run_slice_l (P := Try.prog) w 40 A n c (by rw [he]; exact Try.underlying40) .i64 1 (by omega) (by omega), he, hz]
  simp only [Result.andThen, sliced]
  rw [hA]
  rfl
theorem reader_far : Far 99 := by decide
theorem pair_far : Far 42 := by decide

/-- The readers of a row, laid; the row's box. -/
structure Laid (w : World) (base g hp hk hv B : Nat) (s : Rws.St) (k : UInt8) (kb v : List UInt8) (A1 A2 A3 : Option Addr) (n1 c1 c2 c3 : Nat) : Prop where
  st : StIn w base g s
  box : Blk w hp 42 #[.slice A1 n1 c1, .slice A2 v.length c2]
  key : Sl w B 1 A1 n1 c1 ((k :: kb).map byteV)
  rk : RdAt w hk B ⟨kb, 0, false⟩ A3 c3
  rv : RdAt w hv B ⟨v, 0, false⟩ A2 c2
  ne : hk ≠ hv
  lk : base ≤ hk
  lv : base ≤ hv

theorem laid_mk {w wx : World} {base g hp hk hv B : Nat} {s : Rws.St} {k : UInt8} {kb v : List UInt8} {A1 A2 A3 : Option Addr} {n1 c1 c2 c3 : Nat} (hst : StIn w base g s) (hB : B ≤ base) (hkey : Sl w B 1 A1 n1 c1 ((k :: kb).map byteV))
    (hs3 : Sl w B 1 A3 kb.length c3 (kb.map byteV)) (hbv : BytesAt w B A2 v.length c2 v) (hkl : kb.length ≤ 274877906944) (hvl : v.length ≤ 274877906944) (hb : Below w.heap.size w wx)
    (h1 : Blk wx hp 42 #[.slice A1 n1 c1, .slice A2 v.length c2]) (h2 : Blk wx hk 99 #[.slice A3 kb.length c3, .int .i64 0, .bool false]) (h3 : Blk wx hv 99 #[.slice A2 v.length c2, .int .i64 0, .bool false])
    (hne : hk ≠ hv) (lk : w.heap.size ≤ hk) (lv : w.heap.size ≤ hv) : Laid wx base g hp hk hv B s k kb v A1 A2 A3 n1 c1 c2 c3 :=
  have hBw : B ≤ w.heap.size := Nat.le_trans hB hst.size
  ⟨hst.below hb, h1, hkey.below' hb hBw, ⟨h2, ⟨hs3.below' hb hBw, by show kb.length ≤ _; omega⟩, Nat.zero_le _, hkl, by omega⟩, ⟨h3, hbv.below hb hBw, Nat.zero_le _, hvl, by omega⟩, hne, by have := hst.size; omega, by have := hst.size; omega⟩

section
variable {w w' : World} {base g hp hk hv B : Nat} {s : Rws.St} {k : UInt8} {kb v : List UInt8} {A1 A2 A3 : Option Addr} {n1 c1 c2 c3 : Nat}
/-- Where one reader has gone on. -/
theorem StIn.took {h : Nat} {r : Rws.Rd} {A : Option Addr} {c : Nat} (hs : StIn w base g s) (hr : RdAt w h B r A c) (hg : w.grownBy w' (some h)) : StIn w' base g s :=
  hs.kept hg fun k e => by
    injection e with e
    subst e
    exact ⟨_, _, hr.blk, reader_far⟩
theorem RdAt.took {h h2 : Nat} {r r2 : Rws.Rd} {A A2 : Option Addr} {c c2 : Nat} (hr2 : RdAt w h2 B r2 A2 c2) (hr : RdAt w h B r A c) (hne : h2 ≠ h) (hg : w.grownBy w' (some h)) : RdAt w' h2 B r2 A2 c2 :=
  hr2.kept hg fun k e => by
    injection e with e
    subst e
    exact ⟨fun e => hne e.symm, hr.low⟩
theorem Below.took {a : World} (hb : Below base a w) (hs : base ≤ w.heap.size) {h : Nat} (hl : base ≤ h) (hg : w.grownBy w' (some h)) : Below base a w' :=
  hb.grown hg hs fun k e => by
    injection e with e
    subst e
    exact hl
end

/-- Day, Next and No are stored. -/
theorem StIn.setHead {w : World} {base g : Nat} {s : Rws.St} (h : StIn w base g s) {a b c : Int} (ha : I64 a) (hb : U64 b) (hc : U64 c) :
    StIn (((w.setCell ⟨g, 0, none⟩ (.int .i64 a)).setCell ⟨g, 3, none⟩ (.int .u64 b)).setCell ⟨g, 5, none⟩ (.int .u64 c)) base g { s with day := a, next := b, no := c } := by
  have hg : w.grownBy (((w.setCell ⟨g, 0, none⟩ (.int .i64 a)).setCell ⟨g, 3, none⟩ (.int .u64 b)).setCell ⟨g, 5, none⟩ (.int .u64 c)) (some g) :=
    only_setCell (only_setCell (only_setCell (World.grownBy.refl w (some g)) (.inl rfl) _) (.inl rfl) _) (.inl rfl) _
  obtain ⟨Aa, Ad, Ar, Aq, ca, cd, cr, cq, hbk, h1, h2, ⟨cells, fI, fE, fN, h3, h4⟩, cells2, h5, h6⟩ := h.head
  have hq : ∀ {e : TypeId}, e ≠ 28 → ∀ k, some g = some k → ∃ t cs, Blk w k t cs ∧ e ≠ t := fun hne k e => by
    injection e with e
    subst e
    exact ⟨_, _, hbk, hne⟩
  refine ⟨h.low, Nat.le_trans h.size hg.size, ⟨ha, hb, hc, h.wf.accts, h.wf.dues, h.wf.rounds, h.wf.asked⟩, Aa, Ad, Ar, Aq, ca, cd, cr, cq, ((hbk.set_ 0 (.int .i64 a)).set_ 3 (.int .u64 b)).set_ 5 (.int .u64 c), own_kept h1 hg (hq (by decide)), own_kept h2 hg (hq (by decide)), ⟨cells, fI, fE, fN, own_kept h3 hg (hq (by decide)), h4.kept hg fun k e => ?_⟩,
    cells2, own_kept h5 hg (hq (by decide)), h6.map fun v bs hv => hv.kept' hg (hq (by decide))⟩
  injection e with e
  subst e
  exact ⟨_, _, hbk, by decide, by decide, by decide⟩

set_option maxHeartbeats 4000000 in
set_option maxRecDepth 100000 in
theorem read0_any (B base g : Nat) (s : Rws.St) (kb v : List UInt8) (A1 A2 : Option Addr) (n1 c1 c2 : Nat) (w : World) (hst : StIn w base g s) (hB : B ≤ base) (hk : BytesAt w B A1 n1 c1 (0 :: kb)) (hv : BytesAt w B A2 v.length c2 v)
    (hkl : kb.length ≤ 274877906944) (hvl : v.length ≤ 274877906944) :
    Calls Try.prog 23 #[.pointer (some ⟨g, 0, none⟩), pairV A1 A2 n1 c1 v.length c2] w (ReadTo base g (Rws.readRow s (0 :: kb, v)) w) := by
  have hn1 := hk.sl.lenB
  simp at hn1
  obtain ⟨A3, hs3, hA3⟩ := Sl.tail1 hk.sl
  have hsl := sliceRunB (n := n1) (c := c1) (by omega) (hA := hA3)
  obtain ⟨b1, o1, x1, rfl, hb1, hx1, hc1, _⟩ := hk.sl.byte (k := 0) (by omega)
  have HST := Lib.hid hst
  have HS3 := Lib.hid hs3
  have HK := Lib.hid hk
  have HV := Lib.hid hv
  have hpos : 0 < n1 := by omega
  have hn0 : ((n1 : Int) == 0) = false := by simp; omega
  have HN1 := Lib.hid hn1
  clear hst hs3 hA3 hk hv hn1
  unfold pairV
  go_enter Try.func23, Try.ntmps23
  go_wp2_with fail
  go_cut [5, 6] (fun x y wx => ∃ hk hv, x = .pointer (some ⟨hk, 0, none⟩) ∧ y = .pointer (some ⟨hv, 0, none⟩) ∧ Laid wx base g w.heap.size hk hv B s 0 kb v (some ⟨b1, o1, none⟩) A2 A3 n1 c1 c2 (c1 - 1) ∧ Below base w wx)
  case first =>
    have HSZ := Lib.hid (show n1 - 1 = kb.length by have := HN1.out; omega)
    rw [HSZ.out] at hsl
    go_region
    all_goals
      have hs3 := HS3.out
      rw [HSZ.out] at hs3
    · go_wp2_with fail
      go_meet
      case rel =>
        have d1 := (((Blk.new w 42 #[.slice (some ⟨b1, o1, none⟩) n1 c1, .slice A2 v.length c2]).alloc (.cells #[.slice A3 kb.length (c1 - 1), .int .i64 0, .bool false] 99)).alloc (.cells #[.slice A2 v.length c2, .int .i64 0, .bool false] 99)).drew
        have d2 := ((Blk.new (w.alloc (.cells #[.slice (some ⟨b1, o1, none⟩) n1 c1, .slice A2 v.length c2] 42)) 99 #[.slice A3 kb.length (c1 - 1), .int .i64 0, .bool false]).alloc (.cells #[.slice A2 v.length c2, .int .i64 0, .bool false] 99)).drew
        have d3 := (Blk.new ((w.alloc (.cells #[.slice (some ⟨b1, o1, none⟩) n1 c1, .slice A2 v.length c2] 42)).alloc (.cells #[.slice A3 kb.length (c1 - 1), .int .i64 0, .bool false] 99)) 99 #[.slice A2 v.length c2, .int .i64 0, .bool false]).drew
        have hb := ((((Below.refl w.heap.size w).alloc (Nat.le_refl _) (.cells #[.slice (some ⟨b1, o1, none⟩) n1 c1, .slice A2 v.length c2] 42)).alloc (by simp) (.cells #[.slice A3 kb.length (c1 - 1), .int .i64 0, .bool false] 99)).alloc (by simp; omega) (.cells #[.slice A2 v.length c2, .int .i64 0, .bool false] 99)).drew
        rw [show (w.alloc (.cells #[.slice (some ⟨b1, o1, none⟩) n1 c1, .slice A2 v.length c2] 42)).heap.size = w.heap.size + 1 by simp] at d2
        rw [show ((w.alloc (.cells #[.slice (some ⟨b1, o1, none⟩) n1 c1, .slice A2 v.length c2] 42)).alloc (.cells #[.slice A3 kb.length (c1 - 1), .int .i64 0, .bool false] 99)).heap.size = w.heap.size + 1 + 1 by simp] at d3
        exact ⟨w.heap.size + 1, w.heap.size + 1 + 1, rfl, rfl, laid_mk HST.out hB HK.out.sl hs3 HV.out hkl hvl hb d1 d2 d3 (by omega) (by omega) (by omega), hb.mono HST.out.size⟩
    · go_wp2_with fail
      go_meet
      case rel =>
        have d1 := (((Blk.new w 42 #[.slice (some ⟨b1, o1, none⟩) n1 c1, .slice A2 v.length c2]).alloc (.cells #[.slice A2 v.length c2, .int .i64 0, .bool false] 99)).alloc (.cells #[.slice A3 kb.length (c1 - 1), .int .i64 0, .bool false] 99)).drew
        have d2 := ((Blk.new (w.alloc (.cells #[.slice (some ⟨b1, o1, none⟩) n1 c1, .slice A2 v.length c2] 42)) 99 #[.slice A2 v.length c2, .int .i64 0, .bool false]).alloc (.cells #[.slice A3 kb.length (c1 - 1), .int .i64 0, .bool false] 99)).drew
        have d3 := (Blk.new ((w.alloc (.cells #[.slice (some ⟨b1, o1, none⟩) n1 c1, .slice A2 v.length c2] 42)).alloc (.cells #[.slice A2 v.length c2, .int .i64 0, .bool false] 99)) 99 #[.slice A3 kb.length (c1 - 1), .int .i64 0, .bool false]).drew
        have hb := ((((Below.refl w.heap.size w).alloc (Nat.le_refl _) (.cells #[.slice (some ⟨b1, o1, none⟩) n1 c1, .slice A2 v.length c2] 42)).alloc (by simp) (.cells #[.slice A2 v.length c2, .int .i64 0, .bool false] 99)).alloc (by simp; omega) (.cells #[.slice A3 kb.length (c1 - 1), .int .i64 0, .bool false] 99)).drew
        rw [show (w.alloc (.cells #[.slice (some ⟨b1, o1, none⟩) n1 c1, .slice A2 v.length c2] 42)).heap.size = w.heap.size + 1 by simp] at d2
        rw [show ((w.alloc (.cells #[.slice (some ⟨b1, o1, none⟩) n1 c1, .slice A2 v.length c2] 42)).alloc (.cells #[.slice A2 v.length c2, .int .i64 0, .bool false] 99)).heap.size = w.heap.size + 1 + 1 by simp] at d3
        exact ⟨w.heap.size + 1 + 1, w.heap.size + 1, rfl, rfl, laid_mk HST.out hB HK.out.sl hs3 HV.out hkl hvl hb d1 d3 d2 (by omega) (by omega) (by omega), hb.mono HST.out.size⟩
  case rest =>
    obtain ⟨hk, hv, rfl, rfl, L, hb⟩ := hcut
    clear hsl HST HS3 HK HV hc1
    obtain ⟨b2, o2, y2, hA2, _, hy2, kc, _⟩ := L.key.byte (k := 0) (by omega)
    obtain ⟨rfl, rfl⟩ : b1 = b2 ∧ o1 = o2 := by injection hA2 with e; injection e with e1 e2; exact ⟨e1, e2⟩
    have hy3 : y2 = 0 := by simpa using hy2.symm
    subst hy3
    have hx3 : x1 = 0 := by simpa using hx1.symm
    subst hx3
    rw [Nat.add_zero] at kc
    have hb0 := L.box.cell 0
    simp only [List.getElem?_toArray, List.getElem?_cons_zero] at hb0
    have HLA := Lib.hid L
    have HBL := Lib.hid hb
    have HNE := Lib.hid L.ne
    have HRK := Lib.hid L.rk
    have HLV := Lib.hid L.lv
    clear L hb hA2 hy2 hx1
    obtain ⟨⟨xa, ra⟩, ha⟩ : ∃ q, (⟨v, 0, false⟩ : Rws.Rd).take 8 = q := ⟨_, rfl⟩
    obtain ⟨⟨xb, rb⟩, hb⟩ : ∃ q, ra.take 8 = q := ⟨_, rfl⟩
    obtain ⟨⟨xc, rc⟩, hc⟩ : ∃ q, rb.take 8 = q := ⟨_, rfl⟩
    have hra := (⟨v, 0, false⟩ : Rws.Rd).take_8
    have hrb := ra.take_8
    have hrc := rb.take_8
    have HRD := Lib.hid (show Rws.readRow s (0 :: kb, v) = if rc.sh then none else some { s with day := Rws.s64 xa, next := (xb : Int), no := (xc : Int) } by
      show Rws.readHead s ⟨v, 0, false⟩ = _
      unfold Rws.readHead
      rw [ha]
      simp only
      rw [hb]
      simp only
      rw [hc])
    have HCA := Lib.hid (fun w hr => rlong_any hv B ⟨v, 0, false⟩ A2 c2 w hr)
    have HCB := Lib.hid (fun w hr => rtake_any hv B ra 8 A2 c2 w hr rfl)
    have HCC := Lib.hid (fun w hr => rtake_any hv B rb 8 A2 c2 w hr rfl)
    rw [ha] at HCA hra
    rw [hb] at HCB hrb
    rw [hc] at HCC hrc
    simp only at hra hrb hrc
    have HIA := Lib.hid (Rws.s64_lo xa hra)
    clear ha hb hc
    go_wp2_with fail
    refine (HCA.out _ HLA.out.rv).mono ?_
    rintro e w1 ⟨rfl, rv1, g1⟩
    have HS1 := Lib.hid (HLA.out.st.took HLA.out.rv g1)
    have HK1 := Lib.hid (HLA.out.rk.took HLA.out.rv HNE.out g1)
    have HB1 := Lib.hid (Below.took HBL.out HLA.out.st.size HLV.out g1)
    have HV1 := Lib.hid rv1
    clear rv1 g1
    obtain ⟨ya, hya⟩ : ∃ y, Rws.s64 xa = y := ⟨_, rfl⟩
    rw [hya] at HRD HIA ⊢
    clear hya
    go_wp2_with fail
    refine (HCB.out _ HV1.out).mono ?_
    rintro e w2 ⟨rfl, rv2, g2⟩
    have HS2 := Lib.hid (HS1.out.took HV1.out g2)
    have HK2 := Lib.hid (HK1.out.took HV1.out HNE.out g2)
    have HB2 := Lib.hid (Below.took HB1.out HS1.out.size HLV.out g2)
    have HV2 := Lib.hid rv2
    clear rv2 g2
    go_wp2_with fail
    refine (HCC.out _ HV2.out).mono ?_
    rintro e w3 ⟨rfl, rv3, g3⟩
    have HS3 := Lib.hid (HS2.out.took HV2.out g3)
    have HK3 := Lib.hid (HK2.out.took HV2.out HNE.out g3)
    have HB3 := Lib.hid (Below.took HB2.out HS2.out.size HLV.out g3)
    have HV3 := Lib.hid rv3
    obtain ⟨Aa, Ad, Ar, Aq, ca, cd, cr, cq, hbk, _⟩ := HS3.out.head
    have hgl : g < w3.heap.size := hbk.lt
    have s0 := hbk.cell 0
    have s3 := hbk.cell 3
    have s5 := hbk.cell 5
    have f0 := hbk.frozen 0
    have f3 := hbk.frozen 3
    have f5 := hbk.frozen 5
    simp only [stC, List.getElem?_toArray, List.getElem?_cons_zero, List.getElem?_cons_succ] at s0 s3 s5
    have HW := Lib.hid (HS3.out.setHead (a := ya) (b := (xb : Int)) (c := (xc : Int)) HIA.out ⟨by omega, by omega⟩ ⟨by omega, by omega⟩)
    have HGK : g ≠ hk := Blk.ne_ hbk HK3.out.blk (by decide)
    have HGV : g ≠ hv := Blk.ne_ hbk HV3.out.blk (by decide)
    have kk := (((HK3.out.blk.far (p := ⟨g, 0, none⟩) (Ne.symm HGK) (.int .i64 ya)).far (p := ⟨g, 3, none⟩) (Ne.symm HGK) (.int .u64 (xb : Int))).far (p := ⟨g, 5, none⟩) (Ne.symm HGK) (.int .u64 (xc : Int))).cell 2
    have kv := (((HV3.out.blk.far (p := ⟨g, 0, none⟩) (Ne.symm HGV) (.int .i64 ya)).far (p := ⟨g, 3, none⟩) (Ne.symm HGV) (.int .u64 (xb : Int))).far (p := ⟨g, 5, none⟩) (Ne.symm HGV) (.int .u64 (xc : Int))).cell 2
    simp only [rdC, List.getElem?_toArray, List.getElem?_cons_zero, List.getElem?_cons_succ] at kk kv
    have HBF := Lib.hid (((HB3.out.setCell (p := ⟨g, 0, none⟩) HS3.out.low (.int .i64 ya)).setCell (p := ⟨g, 3, none⟩) HS3.out.low (.int .u64 (xb : Int))).setCell (p := ⟨g, 5, none⟩) HS3.out.low (.int .u64 (xc : Int)))
    clear rv3 g3 hbk HGK HGV hra hrb hrc
    obtain ⟨sh, hsh⟩ : ∃ sh, rc.sh = sh := ⟨_, rfl⟩
    rw [hsh] at HRD kv
    clear hsh
    cases sh with
    | true =>
      go_wp2_with fail
      go_ret
      rw [HRD.out]
      exact ReadTo.no HBF.out
    | false =>
      go_wp2_with fail
      go_ret
      rw [HRD.out]
      exact ReadTo.yes HW.out HBF.out

end Go.Proofs.Ytniekddoaokmkaa

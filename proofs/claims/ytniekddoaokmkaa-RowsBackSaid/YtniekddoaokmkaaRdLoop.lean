/-
  Layer 23 (rows): pairs as a state, walked; of whatever rows whose taking is known.
-/
import Derived.Test.YtniekddoaokmkaaRdZero
import Derived.Test.YtniekddoaokmkaaRdSame
import Derived.Test.YtniekddoaokmkaaRowOf
namespace Go.Proofs.Ytniekddoaokmkaa
open Go.RowKit Go.Gab
set_option linter.unusedVariables false
attribute [local go_sem ↓] Go.wp_at_zero Go.wp_at_succ

theorem results_ct {P : Program} {fn : Func} {r s : Tmp} {ty : TypeId} {w : World} {g : Nat} {t : TypeId} {cs : Array Value} (h : fn.results = #[.cell r ty, .tmp s]) (tmps : Array Value)
    (hp : tmps.getD r undef = .pointer (some ⟨g, 0, none⟩)) (hB : Blk w g t cs) (d : TypeDesc) (hu : P.underlying ty = some d) (hd : d.isRow = true) (hi : (P.info? ty).map (·.size) = some cs.size) :
    (results fn tmps).run P w = .ok (.tuple #[.agg cs, tmps.getD s undef]) w := by
  have hp' : tmps[r]?.getD undef = .pointer (some ⟨g, 0, none⟩) := by simpa using hp
  have hrun := run_loadVar_row (P := P) w g t ty cs (0, 0) d hB hu (by cases d <;> simp_all [TypeDesc.isRow]) hi
  simp [results, h, hp', asAddr, hrun]
theorem stInfo : (Try.prog.info? 28).map (·.size) = some 7 := by kernel_rfl

/-- How many rows a state has. -/
def cnt (s : Rws.St) : Nat := (Rws.rowsOf s).length
/-- The taking of a row is known. -/
def ReadsOf (base g B : Nat) (p : Rws.Pair) : Prop :=
  ∀ (s : Rws.St) (w : World) (A1 A2 : Option Addr) (c1 c2 : Nat), StIn w base g s → cnt s ≤ 1900000 → BytesAt w B A1 p.1.length c1 p.1 → BytesAt w B A2 p.2.length c2 p.2 →
    Calls Try.prog 23 #[.pointer (some ⟨g, 0, none⟩), .agg #[.slice A1 p.1.length c1, .slice A2 p.2.length c2]] w (ReadTo base g (Rws.readRow s p) w)

/-- Another state's block has turned. -/
theorem StIn.keptSt {w w' : World} {base g k : Nat} {s : Rws.St} {cs : Array Value} (h : StIn w base g s) (hg : w.grownBy w' (some k)) (hk : Blk w k 28 cs) (hne : g ≠ k) : StIn w' base g s := by
  obtain ⟨Aa, Ad, Ar, Aq, ca, cd, cr, cq, hb, h1, h2, ⟨cells, fI, fE, fN, h3, h4⟩, cells2, h5, h6⟩ := h.head
  have hq : ∀ {e : TypeId}, e ≠ 28 → ∀ k', some k = some k' → ∃ t cs, Blk w k' t cs ∧ e ≠ t := fun hne k e => by
    injection e with e
    subst e
    exact ⟨_, _, hk, hne⟩
  refine ⟨h.low, Nat.le_trans h.size hg.size, h.wf, Aa, Ad, Ar, Aq, ca, cd, cr, cq, hb.grown hg (fun e => by injection e with e; exact hne e), own_kept h1 hg (hq (by decide)), own_kept h2 hg (hq (by decide)), ⟨cells, fI, fE, fN, own_kept h3 hg (hq (by decide)), h4.kept hg fun k e => ?_⟩,
    cells2, own_kept h5 hg (hq (by decide)), h6.map fun v bs hv => hv.kept' hg (hq (by decide))⟩
  injection e with e
  subst e
  exact ⟨_, _, hk, by decide, by decide, by decide⟩
def zeroSt : List Value := [.int .i64 0, .slice none 0 0, .slice none 0 0, .int .u64 0, .slice none 0 0, .int .u64 0, .slice none 0 0]
/-- What pairs are as a state. -/
def StateTo (l : List Rws.Pair) (w : World) (e : Ending) (w' : World) : Prop :=
  (∀ s, Rws.stateOf l = some s → ∃ Aa Ad Ar Aq ca cd cr cq, e = .returned (.tuple #[.agg (stC s Aa Ad Ar Aq ca cd cr cq).toArray, .int .i64 0]) ∧ StAt w' w'.heap.size s Aa Ad Ar Aq ca cd cr cq) ∧
  (Rws.stateOf l = none → e = .returned (.tuple #[.agg zeroSt.toArray, .int .i64 5])) ∧ Below w.heap.size w w'
theorem StateTo.no {l : List Rws.Pair} {w w' : World} (h : Rws.stateOf l = none) (hb : Below w.heap.size w w') : StateTo l w (.returned (.tuple #[.agg zeroSt.toArray, .int .i64 5])) w' :=
  ⟨(fun s e => by rw [h] at e; cases e), fun _ => rfl, hb⟩
theorem StateTo.yes {l : List Rws.Pair} {w w' : World} {s : Rws.St} (h : Rws.stateOf l = some s) (hb : Below w.heap.size w w') {Aa Ad Ar Aq : Option Addr} {ca cd cr cq : Nat} (ha : StAt w' w'.heap.size s Aa Ad Ar Aq ca cd cr cq) :
    StateTo l w (.returned (.tuple #[.agg (stC s Aa Ad Ar Aq ca cd cr cq).toArray, .int .i64 0])) w' :=
  ⟨(fun s' e => by
    rw [h] at e
    injection e with e
    subst e
    exact ⟨_, _, _, _, _, _, _, _, rfl, ha⟩), (fun e => by rw [h] at e; cases e), hb⟩

set_option maxHeartbeats 4000000 in
set_option maxRecDepth 100000 in
theorem state_any (B : Nat) (l : List Rws.Pair) (A : Option Addr) (n c : Nat) (w : World) (hl : SlR pairR w B A n c l) (hB : B ≤ w.heap.size) (hn : n ≤ 1000000) (hread : ∀ p ∈ l, ReadsOf (w.heap.size + 1) (w.heap.size + 1) B p)
    (hcnt : ∀ j s, Rws.readAll Rws.st0 (l.take j) = some s → cnt s ≤ 1900000) (hask : ∀ s, Rws.readAll Rws.st0 l = some s → ∀ a ∈ s.asked, a.ask.length ≤ 274877906944 ∧ a.reply.length ≤ 274877906944) :
    Calls Try.prog 10 #[.slice A n c] w (StateTo l w) := by
  have HL := Lib.hid hl
  have HLN := Lib.hid hl.len
  have HB0 := Lib.hid hB
  have h1 := hl.nc
  have h2 := hl.cm
  have HRD := Lib.hid hread
  have HCN := Lib.hid hcnt
  have HAS := Lib.hid hask
  have HN := Lib.hid hn
  have l0 : Below w.heap.size w (w.alloc (.cells zeroSt.toArray 28)) := (Below.refl _ _).alloc (Nat.le_refl _) _
  have l1 := l0.alloc l0.size (.cells zeroSt.toArray 28)
  have bR := (Blk.new w 28 zeroSt.toArray).alloc (.cells zeroSt.toArray 28)
  have bS := Blk.new (w.alloc (.cells zeroSt.toArray 28)) 28 zeroSt.toArray
  rw [show (w.alloc (.cells zeroSt.toArray 28)).heap.size = w.heap.size + 1 by simp] at bS
  unfold zeroSt at l1 bR bS
  clear hl hB hread hcnt hask l0
  go_enter Try.func10, Try.ntmps10
  go_wp2_with fail
  generalize (w.alloc (.cells #[.int .i64 0, .slice none 0 0, .slice none 0 0, .int .u64 0, .slice none 0 0, .int .u64 0, .slice none 0 0] 28)).alloc (.cells #[.int .i64 0, .slice none 0 0, .slice none 0 0, .int .u64 0, .slice none 0 0, .int .u64 0, .slice none 0 0] 28) = W1 at l1 bR bS ⊢
  obtain ⟨h0, hh0⟩ : ∃ h, w.heap.size = h := ⟨_, rfl⟩
  have HH := Lib.hid hh0
  rw [hh0] at bR bS HRD ⊢
  have HL1 := Lib.hid l1
  have HBR := Lib.hid bR
  have HST := Lib.hid (StIn.zero (base := h0 + 1) (Nat.le_refl _) bS)
  clear l1 bR bS hh0
  go_loopw [9] (fun i wr => ∃ (j : Nat) (s : Rws.St), j ≤ n ∧ i = .int .i64 j ∧ Rws.readAll Rws.st0 (l.take j) = some s ∧ StIn wr (h0 + 1) (h0 + 1) s ∧ Below (h0 + 1) W1 wr) (fun i _ => n - (intOf i).toNat)
  case atStart => exact ⟨0, Rws.st0, Nat.zero_le _, rfl, by rw [List.take_zero]; rfl, HST.out, Below.refl _ _⟩
  case round =>
    obtain ⟨j, s, hj, rfl, hra, hst, hbel⟩ := hrel
    have HS := Lib.hid hst
    have HBL := Lib.hid hbel
    have HRA := Lib.hid hra
    have HBW := Lib.hid (HL1.out.trans (hbel.mono (show w.heap.size ≤ h0 + 1 by rw [HH.out]; omega)))
    clear hst hbel hra
    by_cases hlt : j < n
    · obtain ⟨b, off, x, A1, B1, c1, d1, hA, hb, hx, p0, p1, y1, y2⟩ := pair_at (HL.out.below HBW.out HB0.out) hlt
      subst hA
      have hal := (Below.refl wr.heap.size wr).alloc (Nat.le_refl _) (.cells #[.slice A1 x.1.length c1, .slice B1 x.2.length d1] 42)
      have hBw : B ≤ wr.heap.size := Nat.le_trans HB0.out HBW.out.size
      have HSA := Lib.hid (HS.out.below hal)
      have HCA := Lib.hid (HRD.out x (List.mem_of_getElem? hx) s _ A1 B1 c1 d1 HSA.out (HCN.out j s HRA.out) (y1.below hal hBw) (y2.below hal hBw))
      have HSTEP := Lib.hid (Rws.readAll_step hx HRA.out)
      have HBA := Lib.hid (HBL.out.alloc (Nat.le_trans HS.out.size (Nat.le_refl _)) (.cells #[.slice A1 x.1.length c1, .slice B1 x.2.length d1] 42))
      have g4 : (0 : Int) ≤ (j : Int) := by omega
      have g5 : (j : Int) < (n : Int) := by omega
      obtain ⟨o, ho⟩ : ∃ o, Rws.readRow s x = o := ⟨_, rfl⟩
      rw [ho] at HCA HSTEP
      clear hx y1 y2 hb hal hBw ho
      go_wp2_with fail
      refine HCA.out.mono ?_
      rintro e w2 ⟨hsome, hnone, hb2⟩
      have HB2 := Lib.hid (HBA.out.trans hb2)
      clear hb2
      cases o with
      | none =>
        have he := hnone rfl
        subst he
        have HNO := Lib.hid (Rws.stateOf_stop (Rws.readAll_none (j + 1) HSTEP.out))
        have HBR2 := Lib.hid (HBR.out.below HB2.out (by omega))
        have HBW2 := Lib.hid (HL1.out.trans (HB2.out.mono (show w.heap.size ≤ h0 + 1 by rw [HH.out]; omega)))
        have f0 := HBR2.out.frozen 0
        have f1 := HBR2.out.frozen 1
        have f2 := HBR2.out.frozen 2
        have f3 := HBR2.out.frozen 3
        have f4 := HBR2.out.frozen 4
        have f5 := HBR2.out.frozen 5
        have f6 := HBR2.out.frozen 6
        have k0 := HBR2.out.cell 0
        have k1 := HBR2.out.cell 1
        have k2 := HBR2.out.cell 2
        have k3 := HBR2.out.cell 3
        have k4 := HBR2.out.cell 4
        have k5 := HBR2.out.cell 5
        have k6 := HBR2.out.cell 6
        have hlt2 : h0 < w2.heap.size := HBR2.out.lt
        simp only [List.getElem?_toArray, List.getElem?_cons_zero, List.getElem?_cons_succ] at k0 k1 k2 k3 k4 k5 k6
        clear hsome hnone
        go_wp2_with fail
        refine bodyPost_ret (results_ct rfl _ rfl (show Blk _ h0 28 zeroSt.toArray from (((((((HBR2.out.set_ 0 (.int .i64 0)).set_ 1 (.slice none 0 0)).set_ 2 (.slice none 0 0)).set_ 3 (.int .u64 0)).set_ 4 (.slice none 0 0)).set_ 5 (.int .u64 0)).set_ 6 (.slice none 0 0))) _ Try.underlying28 rfl stInfo) rfl ?_
        exact StateTo.no HNO.out (((((((HBW2.out.setCell (p := ⟨h0, 0, none⟩) (by rw [HH.out]; exact Nat.le_refl _) (.int .i64 0)).setCell (p := ⟨h0, 1, none⟩) (by rw [HH.out]; exact Nat.le_refl _) (.slice none 0 0)).setCell (p := ⟨h0, 2, none⟩) (by rw [HH.out]; exact Nat.le_refl _) (.slice none 0 0)).setCell (p := ⟨h0, 3, none⟩) (by rw [HH.out]; exact Nat.le_refl _) (.int .u64 0)).setCell (p := ⟨h0, 4, none⟩) (by rw [HH.out]; exact Nat.le_refl _) (.slice none 0 0)).setCell (p := ⟨h0, 5, none⟩) (by rw [HH.out]; exact Nat.le_refl _) (.int .u64 0)).setCell (p := ⟨h0, 6, none⟩) (by rw [HH.out]; exact Nat.le_refl _) (.slice none 0 0))
      | some s2 =>
        obtain ⟨he, hs2⟩ := hsome s2 rfl
        subst he
        have HS2 := Lib.hid hs2
        clear hsome hnone hs2
        go_wp2_with fail
        go_roundw
        case rel => exact ⟨j + 1, s2, by omega, by go_num, HSTEP.out, HS2.out, HB2.out⟩
        case measure => simp [intOf]; omega
    · have g5 : ¬ ((j : Int) < (n : Int)) := by omega
      have HRF := Lib.hid (show Rws.readAll Rws.st0 l = some s by have h := HRA.out; rw [List.take_of_length_le (by rw [HLN.out]; omega)] at h; exact h)
      by_cases hn0 : n = 0
      · subst hn0
        have HNO := Lib.hid (show Rws.stateOf l = none from Rws.stateOf_none HRF.out (.inl (List.eq_nil_of_length_eq_zero HLN.out)))
        obtain ⟨wz, rfl⟩ : ∃ wz, wz = wr := ⟨_, rfl⟩
        have HBR2 := Lib.hid (HBR.out.below HBL.out (by omega))
        have HBW2 := Lib.hid HBW.out
        have f0 := HBR2.out.frozen 0
        have f1 := HBR2.out.frozen 1
        have f2 := HBR2.out.frozen 2
        have f3 := HBR2.out.frozen 3
        have f4 := HBR2.out.frozen 4
        have f5 := HBR2.out.frozen 5
        have f6 := HBR2.out.frozen 6
        have k0 := HBR2.out.cell 0
        have k1 := HBR2.out.cell 1
        have k2 := HBR2.out.cell 2
        have k3 := HBR2.out.cell 3
        have k4 := HBR2.out.cell 4
        have k5 := HBR2.out.cell 5
        have k6 := HBR2.out.cell 6
        have hlt2 : h0 < wz.heap.size := HBR2.out.lt
        simp only [List.getElem?_toArray, List.getElem?_cons_zero, List.getElem?_cons_succ] at k0 k1 k2 k3 k4 k5 k6
        go_wp2_with fail
        refine bodyPost_ret (results_ct rfl _ rfl (show Blk _ h0 28 zeroSt.toArray from (((((((HBR2.out.set_ 0 (.int .i64 0)).set_ 1 (.slice none 0 0)).set_ 2 (.slice none 0 0)).set_ 3 (.int .u64 0)).set_ 4 (.slice none 0 0)).set_ 5 (.int .u64 0)).set_ 6 (.slice none 0 0))) _ Try.underlying28 rfl stInfo) rfl ?_
        exact StateTo.no HNO.out (((((((HBW2.out.setCell (p := ⟨h0, 0, none⟩) (by rw [HH.out]; exact Nat.le_refl _) (.int .i64 0)).setCell (p := ⟨h0, 1, none⟩) (by rw [HH.out]; exact Nat.le_refl _) (.slice none 0 0)).setCell (p := ⟨h0, 2, none⟩) (by rw [HH.out]; exact Nat.le_refl _) (.slice none 0 0)).setCell (p := ⟨h0, 3, none⟩) (by rw [HH.out]; exact Nat.le_refl _) (.int .u64 0)).setCell (p := ⟨h0, 4, none⟩) (by rw [HH.out]; exact Nat.le_refl _) (.slice none 0 0)).setCell (p := ⟨h0, 5, none⟩) (by rw [HH.out]; exact Nat.le_refl _) (.int .u64 0)).setCell (p := ⟨h0, 6, none⟩) (by rw [HH.out]; exact Nat.le_refl _) (.slice none 0 0))
      · have e1 : ((n : Int) == 0) = false := by simp; omega
        obtain ⟨Aa, Ad, Ar, Aq, ca, cd, cr, cq, hbk, hat⟩ := HS.out.at_
        have HOF := Lib.hid (of_any wr.heap.size s wr hat (Nat.le_refl _) (by have h := HCN.out n s (by rw [List.take_of_length_le (by rw [HLN.out]; omega)]; exact HRF.out); exact h) (HAS.out s HRF.out))
        have HBK := Lib.hid hbk
        have HAT := Lib.hid hat
        unfold stC at hbk HOF
        have c0 := hbk.cell 0
        have c1 := hbk.cell 1
        have c2 := hbk.cell 2
        have c3 := hbk.cell 3
        have c4 := hbk.cell 4
        have c5 := hbk.cell 5
        have c6 := hbk.cell 6
        simp only [List.getElem?_toArray, List.getElem?_cons_zero, List.getElem?_cons_succ] at c0 c1 c2 c3 c4 c5 c6
        have m1 := hat.accts.nc
        have m2 := hat.accts.cm
        have m3 := hat.dues.nc
        have m4 := hat.dues.cm
        have m5 := hat.rounds.nc
        have m6 := hat.rounds.cm
        have m7 := hat.asked.nc
        have m8 := hat.asked.cm
        clear hat hbk
        go_wp2_with fail
        refine HOF.out.mono ?_
        rintro e w2 ⟨A6, c7, rfl, how, hb2⟩
        have HE2 := Lib.hid (equalFunc_any w2.heap.size (Rws.of s) l A6 A (Rws.of s).length c7 n c w2 (how.slr) ((HL.out.below (HBW.out.trans (hb2.mono HBW.out.size)) HB0.out).more (Nat.le_trans HB0.out (Nat.le_trans HBW.out.size hb2.size))) (Nat.le_refl _) (by
          have h := HCN.out n s (by rw [List.take_of_length_le (by rw [HLN.out]; omega)]; exact HRF.out)
          unfold cnt at h
          unfold Rws.of
          split
          · omega
          · simp))
        have HB2 := Lib.hid hb2
        obtain ⟨k9, hk9⟩ : ∃ k, (Rws.of s).length = k := ⟨_, rfl⟩
        rw [hk9] at HE2 ⊢
        obtain ⟨eb, heb⟩ : ∃ eb, eqB (Rws.of s) l = eb := ⟨_, rfl⟩
        have HEB := Lib.hid heb
        rw [heb] at HE2
        clear how hb2 hk9 heb c0 c1 c2 c3 c4 c5 c6
        go_wp2_with fail
        refine HE2.out.mono ?_
        rintro e wz ⟨rfl, hbz⟩
        have HBZ := Lib.hid (HB2.out.trans (hbz.mono HB2.out.size))
        have HBL2 := Lib.hid (HBL.out.trans (HBZ.out.mono HS.out.size))
        have HBR2 := Lib.hid (HBR.out.below HBL2.out (by omega))
        have HBW2 := Lib.hid (HBW.out.trans (HBZ.out.mono HBW.out.size))
        have f0 := HBR2.out.frozen 0
        have f1 := HBR2.out.frozen 1
        have f2 := HBR2.out.frozen 2
        have f3 := HBR2.out.frozen 3
        have f4 := HBR2.out.frozen 4
        have f5 := HBR2.out.frozen 5
        have f6 := HBR2.out.frozen 6
        have k0 := HBR2.out.cell 0
        have k1 := HBR2.out.cell 1
        have k2 := HBR2.out.cell 2
        have k3 := HBR2.out.cell 3
        have k4 := HBR2.out.cell 4
        have k5 := HBR2.out.cell 5
        have k6 := HBR2.out.cell 6
        have hlt2 : h0 < wz.heap.size := HBR2.out.lt
        simp only [List.getElem?_toArray, List.getElem?_cons_zero, List.getElem?_cons_succ] at k0 k1 k2 k3 k4 k5 k6
        have HSZ := Lib.hid (HS.out.below HBZ.out)
        have HBKZ := Lib.hid (HBK.out.below HBZ.out HBK.out.lt)
        have d0 := HBKZ.out.cell 0
        have d1 := HBKZ.out.cell 1
        have d2 := HBKZ.out.cell 2
        have d3 := HBKZ.out.cell 3
        have d4 := HBKZ.out.cell 4
        have d5 := HBKZ.out.cell 5
        have d6 := HBKZ.out.cell 6
        simp only [stC, List.getElem?_toArray, List.getElem?_cons_zero, List.getElem?_cons_succ] at d0 d1 d2 d3 d4 d5 d6
        clear hbz
        cases eb with
        | false =>
          have HNO := Lib.hid (show Rws.stateOf l = none from Rws.stateOf_none HRF.out (.inr (fun e => by have h := HEB.out; rw [eqB_true e] at h; cases h)))
          go_wp2_with fail
          refine bodyPost_ret (results_ct rfl _ rfl (show Blk _ h0 28 zeroSt.toArray from (((((((HBR2.out.set_ 0 (.int .i64 0)).set_ 1 (.slice none 0 0)).set_ 2 (.slice none 0 0)).set_ 3 (.int .u64 0)).set_ 4 (.slice none 0 0)).set_ 5 (.int .u64 0)).set_ 6 (.slice none 0 0))) _ Try.underlying28 rfl stInfo) rfl ?_
          exact StateTo.no HNO.out (((((((HBW2.out.setCell (p := ⟨h0, 0, none⟩) (by rw [HH.out]; exact Nat.le_refl _) (.int .i64 0)).setCell (p := ⟨h0, 1, none⟩) (by rw [HH.out]; exact Nat.le_refl _) (.slice none 0 0)).setCell (p := ⟨h0, 2, none⟩) (by rw [HH.out]; exact Nat.le_refl _) (.slice none 0 0)).setCell (p := ⟨h0, 3, none⟩) (by rw [HH.out]; exact Nat.le_refl _) (.int .u64 0)).setCell (p := ⟨h0, 4, none⟩) (by rw [HH.out]; exact Nat.le_refl _) (.slice none 0 0)).setCell (p := ⟨h0, 5, none⟩) (by rw [HH.out]; exact Nat.le_refl _) (.int .u64 0)).setCell (p := ⟨h0, 6, none⟩) (by rw [HH.out]; exact Nat.le_refl _) (.slice none 0 0))
        | true =>
          have HYES := Lib.hid (show Rws.stateOf l = some s from Rws.stateOf_some HRF.out (fun e => hn0 (by have h := HLN.out; rw [e] at h; exact h.symm)) (by have h := HEB.out; unfold eqB at h; simpa using h))
          have HFIN := Lib.hid (HSZ.out.keptSt (only_setCell (only_setCell (only_setCell (only_setCell (only_setCell (only_setCell (only_setCell (World.grownBy.refl wz (some h0)) (p := ⟨h0, 0, none⟩) (.inl rfl) (.int .i64 s.day)) (p := ⟨h0, 1, none⟩) (.inl rfl) (.slice Aa s.accts.length ca)) (p := ⟨h0, 2, none⟩) (.inl rfl) (.slice Ad s.dues.length cd)) (p := ⟨h0, 3, none⟩) (.inl rfl) (.int .u64 s.next)) (p := ⟨h0, 4, none⟩) (.inl rfl) (.slice Ar s.rounds.length cr)) (p := ⟨h0, 5, none⟩) (.inl rfl) (.int .u64 s.no)) (p := ⟨h0, 6, none⟩) (.inl rfl) (.slice Aq s.asked.length cq)) HBR2.out (by omega))
          go_wp2_with fail
          obtain ⟨Ba, Bd, Br, Bq, da, dd, dr, dq, hbf, haf⟩ := HFIN.out.at_
          have hsame := (((((((HBKZ.out.far (p := ⟨h0, 0, none⟩) (by simp) (.int .i64 s.day)).far (p := ⟨h0, 1, none⟩) (by simp) (.slice Aa s.accts.length ca)).far (p := ⟨h0, 2, none⟩) (by simp) (.slice Ad s.dues.length cd)).far (p := ⟨h0, 3, none⟩) (by simp) (.int .u64 s.next)).far (p := ⟨h0, 4, none⟩) (by simp) (.slice Ar s.rounds.length cr)).far (p := ⟨h0, 5, none⟩) (by simp) (.int .u64 s.no)).far (p := ⟨h0, 6, none⟩) (by simp) (.slice Aq s.asked.length cq))
          unfold Blk at hsame hbf
          rw [hsame] at hbf
          simp [stC] at hbf
          obtain ⟨⟨rfl, rfl⟩, ⟨rfl, rfl⟩, ⟨rfl, rfl⟩, rfl, rfl⟩ := hbf
          refine bodyPost_ret (results_ct rfl _ rfl (show Blk _ h0 28 (stC s Aa Ad Ar Aq ca cd cr cq).toArray from (((((((HBR2.out.set_ 0 (.int .i64 s.day)).set_ 1 (.slice Aa s.accts.length ca)).set_ 2 (.slice Ad s.dues.length cd)).set_ 3 (.int .u64 s.next)).set_ 4 (.slice Ar s.rounds.length cr)).set_ 5 (.int .u64 s.no)).set_ 6 (.slice Aq s.asked.length cq))) _ Try.underlying28 rfl stInfo) rfl ?_
          exact StateTo.yes HYES.out (((((((HBW2.out.setCell (p := ⟨h0, 0, none⟩) (by rw [HH.out]; exact Nat.le_refl _) (.int .i64 s.day)).setCell (p := ⟨h0, 1, none⟩) (by rw [HH.out]; exact Nat.le_refl _) (.slice Aa s.accts.length ca)).setCell (p := ⟨h0, 2, none⟩) (by rw [HH.out]; exact Nat.le_refl _) (.slice Ad s.dues.length cd)).setCell (p := ⟨h0, 3, none⟩) (by rw [HH.out]; exact Nat.le_refl _) (.int .u64 s.next)).setCell (p := ⟨h0, 4, none⟩) (by rw [HH.out]; exact Nat.le_refl _) (.slice Ar s.rounds.length cr)).setCell (p := ⟨h0, 5, none⟩) (by rw [HH.out]; exact Nat.le_refl _) (.int .u64 s.no)).setCell (p := ⟨h0, 6, none⟩) (by rw [HH.out]; exact Nat.le_refl _) (.slice Aq s.asked.length cq)) haf

end Go.Proofs.Ytniekddoaokmkaa

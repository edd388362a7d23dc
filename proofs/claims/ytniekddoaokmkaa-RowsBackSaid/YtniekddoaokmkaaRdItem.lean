/-
  Layer 23 (rows): an item of a round's lists taken, walked.
-/
import Derived.Test.YtniekddoaokmkaaRdFind
import Derived.Test.YtniekddoaokmkaaRdZero
namespace Go.Proofs.Ytniekddoaokmkaa
open Go.RowKit Go.Gab
set_option linter.unusedVariables false
attribute [local go_sem ↓] Go.wp_at_zero Go.wp_at_succ

/-- What the taking of an item answers. -/
def ItemTo (base g hk hv B : Nat) (A3 A2 : Option Addr) (c3 c2 : Nat) (o : Option Rws.St) (rk rv : Rws.Rd) (w : World) (e : Ending) (w' : World) : Prop :=
  (∀ s', o = some s' → e = .returned (.bool true) ∧ StIn w' base g s' ∧ RdAt w' hk B rk A3 c3 ∧ RdAt w' hv B rv A2 c2) ∧ (o = none → e = .returned (.bool false)) ∧ Below base w w'
theorem ItemTo.yes {base g hk hv B : Nat} {A3 A2 : Option Addr} {c3 c2 : Nat} {s' : Rws.St} {rk rv : Rws.Rd} {w w' : World} (h1 : StIn w' base g s') (h2 : RdAt w' hk B rk A3 c3) (h3 : RdAt w' hv B rv A2 c2) (h4 : Below base w w') : ItemTo base g hk hv B A3 A2 c3 c2 (some s') rk rv w (.returned (.bool true)) w' :=
  ⟨(fun s e => by injection e with e; subst e; exact ⟨rfl, h1, h2, h3⟩), (fun e => nomatch e), h4⟩
theorem ItemTo.no {base g hk hv B : Nat} {A3 A2 : Option Addr} {c3 c2 : Nat} {rk rv : Rws.Rd} {w w' : World} (h4 : Below base w w') : ItemTo base g hk hv B A3 A2 c3 c2 none rk rv w (.returned (.bool false)) w' :=
  ⟨(fun s e => nomatch e), fun _ => rfl, h4⟩
theorem roundCell {w : World} {base bR n cr : Nat} {cells : List Value} {rs : List Rws.Round} {fI fE fN : Nat → Value} (hr : w.ownsRow base 64 8 (.slice (some ⟨bR, 0, none⟩) rs.length cr) rs.length cells) (hi : RoundsIn w base cells rs fI fE fN) {j : Nat} {x : Rws.Round} (hx : rs[j]? = some x)
    {k : Nat} {v : Value} (hv : (roundV x (fI j) (fE j) (fN (2 * j)) (fN (2 * j + 1)))[k]? = some v) : w.cell? ⟨bR, j * 8 + k, none⟩ = some v := by
  have hj := (List.getElem?_eq_some_iff.1 hx).1
  have hk : k < 8 := (List.getElem?_eq_some_iff.1 hv).1
  rw [hr.cellAt (j * 8 + k) (by omega)]
  exact hi.cells j x hx k v hv
theorem infoU64 : (Try.prog.info? 24).map (fun i => (i.zero, i.size, i.bytes)) = some (some (.int .u64 0), 1, 8) := by kernel_rfl
theorem infoI64' : (Try.prog.info? 2).map (fun i => (i.zero, i.size, i.bytes)) = some (some (.int .i64 0), 1, 8) := by kernel_rfl
theorem infoEdge : (Try.prog.info? 66).map (fun i => (i.zero, i.size, i.bytes)) = some (some (.agg #[.int .i64 0, .int .i64 0, .int .i64 0, .int .i64 0]), 4, 32) := by kernel_rfl

set_option maxHeartbeats 4000000 in
set_option maxRecDepth 100000 in
theorem item4_any (B base g hk hv : Nat) (s : Rws.St) (rk0 rv0 : Rws.Rd) (A3 A2 : Option Addr) (c3 c2 : Nat) (w : World) (hst : StIn w base g s) (hrk : RdAt w hk B rk0 A3 c3) (hrv : RdAt w hv B rv0 A2 c2) (hBb : B ≤ base) (hne : hk ≠ hv) (hlk : base ≤ hk) (hlv : base ≤ hv) (hcn : ∀ x ∈ s.rounds, x.ids.length ≤ 1900000) :
    Calls Try.prog 51 #[.pointer (some ⟨g, 0, none⟩), .int .u8 4, .pointer (some ⟨hk, 0, none⟩), .pointer (some ⟨hv, 0, none⟩)] w
      (ItemTo base g hk hv B A3 A2 c3 c2 ((Rws.placeOf ((rk0.take 8).1 : Int) s.rounds).bind fun j => s.rounds[j]?.map fun x => { s with rounds := s.rounds.set j { x with ids := x.ids ++ [((rv0.take 8).1 : Int)] } }) (rk0.take 8).2 (rv0.take 8).2 w) := by
  obtain ⟨⟨xi, ri⟩, hi⟩ : ∃ q, rk0.take 8 = q := ⟨_, rfl⟩
  have hri := rk0.take_8
  have HCI := Lib.hid (fun w hr => rtake_any hk B rk0 8 A3 c3 w hr rfl)
  rw [hi] at HCI hri ⊢
  simp only at hri
  obtain ⟨⟨xa, ra⟩, ha⟩ : ∃ q, rv0.take 8 = q := ⟨_, rfl⟩
  have hra := rv0.take_lt 8
  have HCA := Lib.hid (fun w hr => rtake_any hv B rv0 8 A2 c2 w hr rfl)
  rw [ha] at HCA hra ⊢
  simp only at hra
  have HIS := Lib.hid (show xi < 18446744073709551616 ∧ xa < 18446744073709551616 by omega)
  simp only
  obtain ⟨Aa, Ad, Ar, Aq, ca, cd, cr, cq, hX⟩ := hst.open_
  have HX := Lib.hid hX
  have HK := Lib.hid hrk
  have HV := Lib.hid hrv
  have HNE := Lib.hid hne
  have HLK := Lib.hid hlk
  have HLV := Lib.hid hlv
  have HB := Lib.hid (Below.refl base w)
  have HCN := Lib.hid hcn
  clear hst hX hrk hrv hne hlk hlv hcn hi hri ha hra
  go_enter Try.func51, Try.ntmps51
  go_wp2_with fail
  refine (HCI.out _ HK.out).mono ?_
  rintro e w1 ⟨rfl, rv, gg⟩
  have HV := Lib.hid (HV.out.took HK.out (Ne.symm HNE.out) gg)
  have HB := Lib.hid (Below.took HB.out HX.out.size HLK.out gg)
  have HX := Lib.hid (HX.out.took HK.out.blk reader_far gg)
  have HK := Lib.hid rv
  clear rv gg
  go_wp2_with fail
  refine (round_any base g s (xi : Int) w1 HX.out).mono ?_
  rintro e w2 ⟨hsome, hnone, hw2⟩
  subst hw2
  obtain ⟨o, ho⟩ : ∃ o, Rws.placeOf (xi : Int) s.rounds = o := ⟨_, rfl⟩
  rw [ho] at hsome hnone
  have HHO := Lib.hid ho
  cases o with
  | none =>
    have he := hnone rfl
    subst he
    clear hsome hnone ho
    go_wp2_with fail
    go_ret
    rw [HHO.out]
    exact ItemTo.no HB.out
  | some j =>
    obtain ⟨x, hx, _⟩ := placeOf_at ho
    obtain ⟨bR, hA, he⟩ := hsome j rfl
    subst he
    subst hA
    have HGOAL := Lib.hid (show ((some j).bind fun j => s.rounds[j]?.map fun x => { s with rounds := s.rounds.set j { x with ids := x.ids ++ [(xa : Int)] } }) = some { s with rounds := s.rounds.set j { x with ids := x.ids ++ [(xa : Int)] } } by
      rw [Option.bind_some, hx]; rfl)
    have hlx := HCN.out x (List.mem_of_getElem? hx)
    have hj := (List.getElem?_eq_some_iff.1 hx).1
    obtain ⟨cells, fI, fE, fN, hr1, hr2⟩ := HX.out.rounds
    have HR1 := Lib.hid hr1
    have HR2 := Lib.hid hr2
    have HXJ := Lib.hid hx
    obtain ⟨Ax, cx, hfx⟩ := own_slice (hr2.ids.own j)
    have e0 := idsAt_of hx
    have hfx : fI j = .slice Ax x.ids.length cx := by rw [hfx]; simp only [e0]
    have HFX := Lib.hid hfx
    obtain ⟨i0, hi0, hz0, hz1, hz2⟩ := info_parts infoU64
    obtain ⟨m, hm⟩ : ∃ m, x.ids.length = m := ⟨_, rfl⟩
    have HM := Lib.hid hm
    -- the list's cell, and its row, in each world that has the rounds' row
    have HCEL := Lib.hid (fun w' (h1 : w'.ownsRow base 64 8 (.slice (some ⟨bR, 0, none⟩) s.rounds.length cr) s.rounds.length cells) (h2 : RoundsIn w' base cells s.rounds fI fE fN) => (show w'.cell? ⟨bR, j * 8 + 3, none⟩ = some (.slice Ax m cx) by
      rw [← hm, ← hfx]
      exact roundCell (n := 0) (k := 3) h1 h2 hx rfl))
    have HOO := Lib.hid (fun w' (h2 : RoundsIn w' base cells s.rounds fI fE fN) => (show w'.ownsRow base 24 1 (.slice Ax m cx) m (x.ids.map (Value.int .u64)) by
      have h := h2.ids.own j
      simp only [e0] at h
      rw [hfx, hm] at h
      exact h))
    rw [hm] at hlx
    have q0 := HCEL.out _ hr1 hr2
    clear hsome hnone ho hx hr1 hr2 hfx e0 hm
    have HJ := Lib.hid hj
    clear hj
    go_wp2_with fail
    go_region_law (first
      | ((refine step_append_any _ rfl _ _ 56 rfl base 24 i0 (.int .u64 0) 1 8 Try.underlying56 hi0 hz0 hz1 hz2 rfl (by omega) _ _ _ (by rfl) (HOO.out _ HRbA.out) _ _ 1 1 [.int .u64 (xa : Int)] (by rfl) (by exact (Sl.lit (size := 1) (k := 1) (cap := 1) _ _ _ _ _ _ rfl rfl rfl (by omega) (by omega)).rd) (by simp [Value.oneCell']) (by simp only [maxLen]; omega) (by omega) HXA.out.size ?_; intro v9 w9 hown9 hgr9 hblk9; obtain ⟨A9, d9, rfl⟩ := own_slice hown9; have HO9 := Lib.hid hown9; have HG9 := Lib.hid hgr9; have HN9 := Lib.hid hblk9; have HRa9 := Lib.hid (own_kept HRaA.out HG9.out (far_of (HOO.out _ HRbA.out) (by decide))); have q9 := HRa9.out.cellAt (j * 8 + 3) (by have := HJ.out; omega); have f9 := HRa9.out.frozenAt (j * 8 + 3); obtain ⟨u9, hu9⟩ : ∃ u, cells[j * 8 + 3]? = some u := ⟨_, List.getElem?_eq_getElem (by have h1 := HRa9.out.1; have h2 := HJ.out; omega)⟩; rw [hu9] at q9; clear hown9 hgr9 hblk9 hu9))
      | (go_simp; go_at_call 48; (refine (HCA.out _ HV.out.drew).mono ?_); rintro e w10 ⟨rfl, rv, gg⟩; have HRa10 := Lib.hid (own_kept (w := w1.drew) (HR1.out.drew) gg (fun k e => by injection e with e; subst e; exact ⟨_, _, HV.out.drew.blk, by decide⟩)); have HRb10 := Lib.hid (RoundsIn.kept1 (w := w1.drew) (HR2.out.below ((Below.refl _ _).drew)) gg (fun k e => by injection e with e; subst e; exact ⟨_, _, HV.out.drew.blk, by decide⟩) (fun k e => by injection e with e; subst e; exact ⟨_, _, HV.out.drew.blk, by decide⟩) (fun k e => by injection e with e; subst e; exact ⟨_, _, HV.out.drew.blk, by decide⟩)); have HX10 := Lib.hid ((HX.out.below ((Below.refl _ _).drew)).took HV.out.drew.blk reader_far gg); have HK10 := Lib.hid (HK.out.drew.took HV.out.drew HNE.out gg); have HB10 := Lib.hid (Below.took HB.out.drew HX.out.size HLV.out gg); have HV10 := Lib.hid rv; have q10 := HCEL.out _ HRa10.out HRb10.out; clear rv gg; have HXA := Lib.hid (HX10.out.below ((Below.refl w10.heap.size w10).alloc (Nat.le_refl _) (.cells #[.int .u64 (xa : Int)] 24))); have HRaA := Lib.hid (own_below HRa10.out ((Below.refl w10.heap.size w10).alloc (Nat.le_refl _) (.cells #[.int .u64 (xa : Int)] 24))); have HRbA := Lib.hid (HRb10.out.below ((Below.refl w10.heap.size w10).alloc (Nat.le_refl _) (.cells #[.int .u64 (xa : Int)] 24))); have HKA := Lib.hid (HK10.out.below ((Below.refl w10.heap.size w10).alloc (Nat.le_refl _) (.cells #[.int .u64 (xa : Int)] 24))); have HVA := Lib.hid (HV10.out.below ((Below.refl w10.heap.size w10).alloc (Nat.le_refl _) (.cells #[.int .u64 (xa : Int)] 24))); have HBA := Lib.hid (HB10.out.alloc HX10.out.size (.cells #[.int .u64 (xa : Int)] 24)); have qA := HCEL.out _ HRaA.out HRbA.out))
    all_goals
      clear q0 qA q10
      have HFIN := Lib.hid (show StIn (w9.setCell ⟨bR, j * 8 + 3, none⟩ (.slice A9 (m + 1) d9)) base g { s with rounds := s.rounds.set j { x with ids := x.ids ++ [(xa : Int)] } } from HXA.out.idsPush HRaA.out HRbA.out rfl HXJ.out (z := (xa : Int)) (v' := .slice A9 (m + 1) d9) ⟨by have := HIS.out; omega, by have := HIS.out; omega⟩ (by rw [show fI j = .slice Ax x.ids.length cx from HFX.out, HM.out]; exact HG9.out) (by rw [HM.out]; exact HO9.out) (by rw [show fI j = .slice Ax x.ids.length cx from HFX.out, HM.out]; exact HN9.out))
      have HFR := Lib.hid (fun (hh : Nat) (r : Rws.Rd) (A : Option Addr) (c : Nat) (h : RdAt (w10.alloc (.cells #[.int .u64 (xa : Int)] 24)) hh B r A c) (hl : B ≤ base) => (show RdAt (w9.setCell ⟨bR, j * 8 + 3, none⟩ (.slice A9 (m + 1) d9)) hh B r A c from
        (h.kept HG9.out (fun k e => ⟨fun e2 => own_blk_ne (HOO.out _ HRbA.out) h.blk (by decide) (by rw [← e2]; exact e), by have h1 := ((HOO.out _ HRbA.out).lt k e).1; omega⟩)).kept (only_setCell (World.grownBy.refl w9 (some bR)) (p := ⟨bR, j * 8 + 3, none⟩) (.inl rfl) (.slice A9 (m + 1) d9)) (fun k e => by
          injection e with e
          subst e
          refine ⟨fun e2 => own_blk_ne HRaA.out h.blk (by decide) (by rw [← e2]; rfl), ?_⟩
          have h1 := (HRaA.out.lt bR rfl).1
          omega)))
      have HBF := Lib.hid ((HBA.out.grown HG9.out HXA.out.size (fun q hq => ((HOO.out _ HRbA.out).lt q hq).1)).setCell (p := ⟨bR, j * 8 + 3, none⟩) ((HRaA.out.lt bR rfl).1) (.slice A9 (m + 1) d9))
      go_wp2_with fail
      go_ret
      rw [HHO.out, HGOAL.out]
      exact ItemTo.yes HFIN.out (HFR.out _ _ _ _ HKA.out hBb) (HFR.out _ _ _ _ HVA.out hBb) HBF.out

set_option maxHeartbeats 4000000 in
set_option maxRecDepth 100000 in
theorem item5_any (B base g hk hv : Nat) (s : Rws.St) (rk0 rv0 : Rws.Rd) (A3 A2 : Option Addr) (c3 c2 : Nat) (w : World) (hst : StIn w base g s) (hrk : RdAt w hk B rk0 A3 c3) (hrv : RdAt w hv B rv0 A2 c2) (hBb : B ≤ base) (hne : hk ≠ hv) (hlk : base ≤ hk) (hlv : base ≤ hv) (hcn : ∀ x ∈ s.rounds, x.edges.length ≤ 1900000) :
    Calls Try.prog 51 #[.pointer (some ⟨g, 0, none⟩), .int .u8 5, .pointer (some ⟨hk, 0, none⟩), .pointer (some ⟨hv, 0, none⟩)] w
      (ItemTo base g hk hv B A3 A2 c3 c2 ((Rws.placeOf ((rk0.take 8).1 : Int) s.rounds).bind fun j => s.rounds[j]?.map fun x => { s with rounds := s.rounds.set j { x with edges := x.edges ++ [(⟨((rv0.take 1).1 : Int), (((rv0.take 1).2.take 1).1 : Int), Rws.s64 (((rv0.take 1).2.take 1).2.take 8).1, Rws.s64 ((((rv0.take 1).2.take 1).2.take 8).2.take 8).1⟩ : Rws.Edge)] } }) (rk0.take 8).2 ((((rv0.take 1).2.take 1).2.take 8).2.take 8).2 w) := by
  obtain ⟨⟨xi, ri⟩, hi⟩ : ∃ q, rk0.take 8 = q := ⟨_, rfl⟩
  have hri := rk0.take_8
  have HCI := Lib.hid (fun w hr => rtake_any hk B rk0 8 A3 c3 w hr rfl)
  rw [hi] at HCI hri ⊢
  simp only at hri
  obtain ⟨⟨xa, ra⟩, ha⟩ : ∃ q, rv0.take 1 = q := ⟨_, rfl⟩
  have hra := rv0.take_lt 1
  have HCA := Lib.hid (fun w hr => rint_any hv B rv0 1 A2 c2 w hr (.inl rfl))
  rw [ha] at HCA hra ⊢
  simp only at hra
  obtain ⟨⟨xb, rb⟩, hb⟩ : ∃ q, ra.take 1 = q := ⟨_, rfl⟩
  have hrb := ra.take_lt 1
  have HCB := Lib.hid (fun w hr => rint_any hv B ra 1 A2 c2 w hr (.inl rfl))
  rw [hb] at HCB hrb ⊢
  simp only at hrb
  obtain ⟨⟨xc, rc⟩, hc⟩ : ∃ q, rb.take 8 = q := ⟨_, rfl⟩
  have hrc := rb.take_lt 8
  have HCC := Lib.hid (fun w hr => rlong_any hv B rb A2 c2 w hr)
  rw [hc] at HCC hrc ⊢
  simp only at hrc
  obtain ⟨⟨xd, rd⟩, hd⟩ : ∃ q, rc.take 8 = q := ⟨_, rfl⟩
  have hrd := rc.take_lt 8
  have HCD := Lib.hid (fun w hr => rlong_any hv B rc A2 c2 w hr)
  rw [hd] at HCD hrd ⊢
  simp only at hrd
  have HIC := Lib.hid (Rws.s64_lo xc (by omega))
  obtain ⟨yc, hyc⟩ : ∃ y, Rws.s64 xc = y := ⟨_, rfl⟩
  rw [hyc] at HIC HCC ⊢
  clear hyc
  have HID := Lib.hid (Rws.s64_lo xd (by omega))
  obtain ⟨yd, hyd⟩ : ∃ y, Rws.s64 xd = y := ⟨_, rfl⟩
  rw [hyd] at HID HCD ⊢
  clear hyd
  have HIS := Lib.hid (show xi < 18446744073709551616 ∧ xa < 256 ∧ xb < 256 by omega)
  simp only
  obtain ⟨Aa, Ad, Ar, Aq, ca, cd, cr, cq, hX⟩ := hst.open_
  have HX := Lib.hid hX
  have HK := Lib.hid hrk
  have HV := Lib.hid hrv
  have HNE := Lib.hid hne
  have HLK := Lib.hid hlk
  have HLV := Lib.hid hlv
  have HB := Lib.hid (Below.refl base w)
  have HCN := Lib.hid hcn
  clear hst hX hrk hrv hne hlk hlv hcn hi hri ha hra hb hrb hc hrc hd hrd
  go_enter Try.func51, Try.ntmps51
  go_wp2_with fail
  refine (HCI.out _ HK.out).mono ?_
  rintro e w1 ⟨rfl, rv, gg⟩
  have HV := Lib.hid (HV.out.took HK.out (Ne.symm HNE.out) gg)
  have HB := Lib.hid (Below.took HB.out HX.out.size HLK.out gg)
  have HX := Lib.hid (HX.out.took HK.out.blk reader_far gg)
  have HK := Lib.hid rv
  clear rv gg
  go_wp2_with fail
  refine (round_any base g s (xi : Int) w1 HX.out).mono ?_
  rintro e w2 ⟨hsome, hnone, hw2⟩
  subst hw2
  obtain ⟨o, ho⟩ : ∃ o, Rws.placeOf (xi : Int) s.rounds = o := ⟨_, rfl⟩
  rw [ho] at hsome hnone
  have HHO := Lib.hid ho
  cases o with
  | none =>
    have he := hnone rfl
    subst he
    clear hsome hnone ho
    go_wp2_with fail
    go_ret
    rw [HHO.out]
    exact ItemTo.no HB.out
  | some j =>
    obtain ⟨x, hx, _⟩ := placeOf_at ho
    obtain ⟨bR, hA, he⟩ := hsome j rfl
    subst he
    subst hA
    have HGOAL := Lib.hid (show ((some j).bind fun j => s.rounds[j]?.map fun x => { s with rounds := s.rounds.set j { x with edges := x.edges ++ [(⟨(xa : Int), (xb : Int), yc, yd⟩ : Rws.Edge)] } }) = some { s with rounds := s.rounds.set j { x with edges := x.edges ++ [(⟨(xa : Int), (xb : Int), yc, yd⟩ : Rws.Edge)] } } by
      rw [Option.bind_some, hx]; rfl)
    have hlx := HCN.out x (List.mem_of_getElem? hx)
    have hj := (List.getElem?_eq_some_iff.1 hx).1
    obtain ⟨cells, fI, fE, fN, hr1, hr2⟩ := HX.out.rounds
    have HR1 := Lib.hid hr1
    have HR2 := Lib.hid hr2
    have HXJ := Lib.hid hx
    obtain ⟨Ax, cx, hfx⟩ := own_slice (hr2.edges.own j)
    have e0 := edgesAt_of hx
    have hfx : fE j = .slice Ax x.edges.length cx := by rw [hfx]; simp only [e0]
    have HFX := Lib.hid hfx
    obtain ⟨i0, hi0, hz0, hz1, hz2⟩ := info_parts infoEdge
    obtain ⟨m, hm⟩ : ∃ m, x.edges.length = m := ⟨_, rfl⟩
    have HM := Lib.hid hm
    -- the list's cell, and its row, in each world that has the rounds' row
    have HCEL := Lib.hid (fun w' (h1 : w'.ownsRow base 64 8 (.slice (some ⟨bR, 0, none⟩) s.rounds.length cr) s.rounds.length cells) (h2 : RoundsIn w' base cells s.rounds fI fE fN) => (show w'.cell? ⟨bR, j * 8 + 4 + 1, none⟩ = some (.slice Ax m cx) by
      rw [← hm, ← hfx]
      exact roundCell (n := 0) (k := 5) h1 h2 hx rfl))
    have HOO := Lib.hid (fun w' (h2 : RoundsIn w' base cells s.rounds fI fE fN) => (show w'.ownsRow base 66 4 (.slice Ax m cx) m (x.edges.flatMap edgeC) by
      have h := h2.edges.own j
      simp only [e0] at h
      rw [hfx, hm] at h
      exact h))
    rw [hm] at hlx
    have q0 := HCEL.out _ hr1 hr2
    clear hsome hnone ho hx hr1 hr2 hfx e0 hm
    have HJ := Lib.hid hj
    clear hj
    go_wp2_with fail
    go_region_law (first
      | ((refine step_append_any _ rfl _ _ 57 rfl base 66 i0 (.agg #[.int .i64 0, .int .i64 0, .int .i64 0, .int .i64 0]) 4 32 Try.underlying57 hi0 hz0 hz1 hz2 rfl (by omega) _ _ _ (by rfl) (HOO.out _ HRbA.out) _ _ 1 1 [.int .i64 (xa : Int), .int .i64 (xb : Int), .int .i64 yc, .int .i64 yd] (by rfl) (by exact (Sl.lit (size := 4) (k := 1) (cap := 1) _ _ _ _ _ _ rfl rfl rfl (by omega) (by omega)).rd) (by simp [Value.oneCell']) (by simp only [maxLen]; omega) (by omega) HXA.out.size ?_; intro v9 w9 hown9 hgr9 hblk9; obtain ⟨A9, d9, rfl⟩ := own_slice hown9; have HO9 := Lib.hid hown9; have HG9 := Lib.hid hgr9; have HN9 := Lib.hid hblk9; have HRa9 := Lib.hid (own_kept HRaA.out HG9.out (far_of (HOO.out _ HRbA.out) (by decide))); have q9 := HRa9.out.cellAt (j * 8 + 4 + 1) (by have := HJ.out; omega); have f9 := HRa9.out.frozenAt (j * 8 + 4 + 1); obtain ⟨u9, hu9⟩ : ∃ u, cells[j * 8 + 4 + 1]? = some u := ⟨_, List.getElem?_eq_getElem (by have h1 := HRa9.out.1; have h2 := HJ.out; omega)⟩; rw [hu9] at q9; clear hown9 hgr9 hblk9 hu9))
      | (go_simp; go_at_call 49; (refine (HCA.out _ HV.out.drew).mono ?_); rintro e w10 ⟨rfl, rv, gg⟩; have HRa10 := Lib.hid (own_kept (w := w1.drew) (HR1.out.drew) gg (fun k e => by injection e with e; subst e; exact ⟨_, _, HV.out.drew.blk, by decide⟩)); have HRb10 := Lib.hid (RoundsIn.kept1 (w := w1.drew) (HR2.out.below ((Below.refl _ _).drew)) gg (fun k e => by injection e with e; subst e; exact ⟨_, _, HV.out.drew.blk, by decide⟩) (fun k e => by injection e with e; subst e; exact ⟨_, _, HV.out.drew.blk, by decide⟩) (fun k e => by injection e with e; subst e; exact ⟨_, _, HV.out.drew.blk, by decide⟩)); have HX10 := Lib.hid ((HX.out.below ((Below.refl _ _).drew)).took HV.out.drew.blk reader_far gg); have HK10 := Lib.hid (HK.out.drew.took HV.out.drew HNE.out gg); have HB10 := Lib.hid (Below.took HB.out.drew HX.out.size HLV.out gg); have HV10 := Lib.hid rv; have q10 := HCEL.out _ HRa10.out HRb10.out; clear rv gg)
      | (go_simp; go_at_call 49; (refine (HCB.out _ HV10.out).mono ?_); rintro e w11 ⟨rfl, rv, gg⟩; have HRa11 := Lib.hid (own_kept HRa10.out gg (fun k e => by injection e with e; subst e; exact ⟨_, _, HV10.out.blk, by decide⟩)); have HRb11 := Lib.hid (HRb10.out.kept1 gg (fun k e => by injection e with e; subst e; exact ⟨_, _, HV10.out.blk, by decide⟩) (fun k e => by injection e with e; subst e; exact ⟨_, _, HV10.out.blk, by decide⟩) (fun k e => by injection e with e; subst e; exact ⟨_, _, HV10.out.blk, by decide⟩)); have HX11 := Lib.hid (HX10.out.took HV10.out.blk reader_far gg); have HK11 := Lib.hid (HK10.out.took HV10.out HNE.out gg); have HB11 := Lib.hid (Below.took HB10.out HX10.out.size HLV.out gg); have HV11 := Lib.hid rv; have q11 := HCEL.out _ HRa11.out HRb11.out; clear rv gg)
      | (go_simp; go_at_call 47; (refine (HCC.out _ HV11.out).mono ?_); rintro e w12 ⟨rfl, rv, gg⟩; have HRa12 := Lib.hid (own_kept HRa11.out gg (fun k e => by injection e with e; subst e; exact ⟨_, _, HV11.out.blk, by decide⟩)); have HRb12 := Lib.hid (HRb11.out.kept1 gg (fun k e => by injection e with e; subst e; exact ⟨_, _, HV11.out.blk, by decide⟩) (fun k e => by injection e with e; subst e; exact ⟨_, _, HV11.out.blk, by decide⟩) (fun k e => by injection e with e; subst e; exact ⟨_, _, HV11.out.blk, by decide⟩)); have HX12 := Lib.hid (HX11.out.took HV11.out.blk reader_far gg); have HK12 := Lib.hid (HK11.out.took HV11.out HNE.out gg); have HB12 := Lib.hid (Below.took HB11.out HX11.out.size HLV.out gg); have HV12 := Lib.hid rv; have q12 := HCEL.out _ HRa12.out HRb12.out; clear rv gg)
      | (go_simp; go_at_call 47; (refine (HCD.out _ HV12.out).mono ?_); rintro e w13 ⟨rfl, rv, gg⟩; have HRa13 := Lib.hid (own_kept HRa12.out gg (fun k e => by injection e with e; subst e; exact ⟨_, _, HV12.out.blk, by decide⟩)); have HRb13 := Lib.hid (HRb12.out.kept1 gg (fun k e => by injection e with e; subst e; exact ⟨_, _, HV12.out.blk, by decide⟩) (fun k e => by injection e with e; subst e; exact ⟨_, _, HV12.out.blk, by decide⟩) (fun k e => by injection e with e; subst e; exact ⟨_, _, HV12.out.blk, by decide⟩)); have HX13 := Lib.hid (HX12.out.took HV12.out.blk reader_far gg); have HK13 := Lib.hid (HK12.out.took HV12.out HNE.out gg); have HB13 := Lib.hid (Below.took HB12.out HX12.out.size HLV.out gg); have HV13 := Lib.hid rv; have q13 := HCEL.out _ HRa13.out HRb13.out; clear rv gg; have HXA := Lib.hid (HX13.out.below ((Below.refl w13.heap.size w13).alloc (Nat.le_refl _) (.cells #[.int .i64 (xa : Int), .int .i64 (xb : Int), .int .i64 yc, .int .i64 yd] 66))); have HRaA := Lib.hid (own_below HRa13.out ((Below.refl w13.heap.size w13).alloc (Nat.le_refl _) (.cells #[.int .i64 (xa : Int), .int .i64 (xb : Int), .int .i64 yc, .int .i64 yd] 66))); have HRbA := Lib.hid (HRb13.out.below ((Below.refl w13.heap.size w13).alloc (Nat.le_refl _) (.cells #[.int .i64 (xa : Int), .int .i64 (xb : Int), .int .i64 yc, .int .i64 yd] 66))); have HKA := Lib.hid (HK13.out.below ((Below.refl w13.heap.size w13).alloc (Nat.le_refl _) (.cells #[.int .i64 (xa : Int), .int .i64 (xb : Int), .int .i64 yc, .int .i64 yd] 66))); have HVA := Lib.hid (HV13.out.below ((Below.refl w13.heap.size w13).alloc (Nat.le_refl _) (.cells #[.int .i64 (xa : Int), .int .i64 (xb : Int), .int .i64 yc, .int .i64 yd] 66))); have HBA := Lib.hid (HB13.out.alloc HX13.out.size (.cells #[.int .i64 (xa : Int), .int .i64 (xb : Int), .int .i64 yc, .int .i64 yd] 66)); have qA := HCEL.out _ HRaA.out HRbA.out))
    all_goals
      clear q0 qA q10 q11 q12 q13
      have HFIN := Lib.hid (show StIn (w9.setCell ⟨bR, j * 8 + 4 + 1, none⟩ (.slice A9 (m + 1) d9)) base g { s with rounds := s.rounds.set j { x with edges := x.edges ++ [(⟨(xa : Int), (xb : Int), yc, yd⟩ : Rws.Edge)] } } from HXA.out.edgePush HRaA.out HRbA.out rfl HXJ.out (z := ⟨(xa : Int), (xb : Int), yc, yd⟩) (v' := .slice A9 (m + 1) d9) ⟨⟨by have := HIS.out; simp only; omega, by have := HIS.out; simp only; omega⟩, ⟨by have := HIS.out; simp only; omega, by have := HIS.out; simp only; omega⟩, HIC.out, HID.out⟩ (by rw [show fE j = .slice Ax x.edges.length cx from HFX.out, HM.out]; exact HG9.out) (by rw [HM.out]; exact HO9.out) (by rw [show fE j = .slice Ax x.edges.length cx from HFX.out, HM.out]; exact HN9.out))
      have HFR := Lib.hid (fun (hh : Nat) (r : Rws.Rd) (A : Option Addr) (c : Nat) (h : RdAt (w13.alloc (.cells #[.int .i64 (xa : Int), .int .i64 (xb : Int), .int .i64 yc, .int .i64 yd] 66)) hh B r A c) (hl : B ≤ base) => (show RdAt (w9.setCell ⟨bR, j * 8 + 4 + 1, none⟩ (.slice A9 (m + 1) d9)) hh B r A c from
        (h.kept HG9.out (fun k e => ⟨fun e2 => own_blk_ne (HOO.out _ HRbA.out) h.blk (by decide) (by rw [← e2]; exact e), by have h1 := ((HOO.out _ HRbA.out).lt k e).1; omega⟩)).kept (only_setCell (World.grownBy.refl w9 (some bR)) (p := ⟨bR, j * 8 + 4 + 1, none⟩) (.inl rfl) (.slice A9 (m + 1) d9)) (fun k e => by
          injection e with e
          subst e
          refine ⟨fun e2 => own_blk_ne HRaA.out h.blk (by decide) (by rw [← e2]; rfl), ?_⟩
          have h1 := (HRaA.out.lt bR rfl).1
          omega)))
      have HBF := Lib.hid ((HBA.out.grown HG9.out HXA.out.size (fun q hq => ((HOO.out _ HRbA.out).lt q hq).1)).setCell (p := ⟨bR, j * 8 + 4 + 1, none⟩) ((HRaA.out.lt bR rfl).1) (.slice A9 (m + 1) d9))
      go_wp2_with fail
      go_ret
      rw [HHO.out, HGOAL.out]
      exact ItemTo.yes HFIN.out (HFR.out _ _ _ _ HKA.out hBb) (HFR.out _ _ _ _ HVA.out hBb) HBF.out

set_option maxHeartbeats 4000000 in
set_option maxRecDepth 100000 in
theorem item6_any (B base g hk hv : Nat) (s : Rws.St) (rk0 rv0 : Rws.Rd) (A3 A2 : Option Addr) (c3 c2 : Nat) (w : World) (hst : StIn w base g s) (hrk : RdAt w hk B rk0 A3 c3) (hrv : RdAt w hv B rv0 A2 c2) (hBb : B ≤ base) (hne : hk ≠ hv) (hlk : base ≤ hk) (hlv : base ≤ hv) (hcn : ∀ x ∈ s.rounds, x.flow.length ≤ 1900000) :
    Calls Try.prog 51 #[.pointer (some ⟨g, 0, none⟩), .int .u8 6, .pointer (some ⟨hk, 0, none⟩), .pointer (some ⟨hv, 0, none⟩)] w
      (ItemTo base g hk hv B A3 A2 c3 c2 ((Rws.placeOf ((rk0.take 8).1 : Int) s.rounds).bind fun j => s.rounds[j]?.map fun x => { s with rounds := s.rounds.set j { x with flow := x.flow ++ [Rws.s64 (rv0.take 8).1] } }) (rk0.take 8).2 (rv0.take 8).2 w) := by
  obtain ⟨⟨xi, ri⟩, hi⟩ : ∃ q, rk0.take 8 = q := ⟨_, rfl⟩
  have hri := rk0.take_8
  have HCI := Lib.hid (fun w hr => rtake_any hk B rk0 8 A3 c3 w hr rfl)
  rw [hi] at HCI hri ⊢
  simp only at hri
  obtain ⟨⟨xa, ra⟩, ha⟩ : ∃ q, rv0.take 8 = q := ⟨_, rfl⟩
  have hra := rv0.take_lt 8
  have HCA := Lib.hid (fun w hr => rlong_any hv B rv0 A2 c2 w hr)
  rw [ha] at HCA hra ⊢
  simp only at hra
  have HIA := Lib.hid (Rws.s64_lo xa (by omega))
  obtain ⟨ya, hya⟩ : ∃ y, Rws.s64 xa = y := ⟨_, rfl⟩
  rw [hya] at HIA HCA ⊢
  clear hya
  have HIS := Lib.hid (show xi < 18446744073709551616 by omega)
  simp only
  obtain ⟨Aa, Ad, Ar, Aq, ca, cd, cr, cq, hX⟩ := hst.open_
  have HX := Lib.hid hX
  have HK := Lib.hid hrk
  have HV := Lib.hid hrv
  have HNE := Lib.hid hne
  have HLK := Lib.hid hlk
  have HLV := Lib.hid hlv
  have HB := Lib.hid (Below.refl base w)
  have HCN := Lib.hid hcn
  clear hst hX hrk hrv hne hlk hlv hcn hi hri ha hra
  go_enter Try.func51, Try.ntmps51
  go_wp2_with fail
  refine (HCI.out _ HK.out).mono ?_
  rintro e w1 ⟨rfl, rv, gg⟩
  have HV := Lib.hid (HV.out.took HK.out (Ne.symm HNE.out) gg)
  have HB := Lib.hid (Below.took HB.out HX.out.size HLK.out gg)
  have HX := Lib.hid (HX.out.took HK.out.blk reader_far gg)
  have HK := Lib.hid rv
  clear rv gg
  go_wp2_with fail
  refine (round_any base g s (xi : Int) w1 HX.out).mono ?_
  rintro e w2 ⟨hsome, hnone, hw2⟩
  subst hw2
  obtain ⟨o, ho⟩ : ∃ o, Rws.placeOf (xi : Int) s.rounds = o := ⟨_, rfl⟩
  rw [ho] at hsome hnone
  have HHO := Lib.hid ho
  cases o with
  | none =>
    have he := hnone rfl
    subst he
    clear hsome hnone ho
    go_wp2_with fail
    go_ret
    rw [HHO.out]
    exact ItemTo.no HB.out
  | some j =>
    obtain ⟨x, hx, _⟩ := placeOf_at ho
    obtain ⟨bR, hA, he⟩ := hsome j rfl
    subst he
    subst hA
    have HGOAL := Lib.hid (show ((some j).bind fun j => s.rounds[j]?.map fun x => { s with rounds := s.rounds.set j { x with flow := x.flow ++ [ya] } }) = some { s with rounds := s.rounds.set j { x with flow := x.flow ++ [ya] } } by
      rw [Option.bind_some, hx]; rfl)
    have hlx := HCN.out x (List.mem_of_getElem? hx)
    have hj := (List.getElem?_eq_some_iff.1 hx).1
    obtain ⟨cells, fI, fE, fN, hr1, hr2⟩ := HX.out.rounds
    have HR1 := Lib.hid hr1
    have HR2 := Lib.hid hr2
    have HXJ := Lib.hid hx
    obtain ⟨Ax, cx, hfx⟩ := own_slice (hr2.nums.own (2 * j))
    have e0 := flowAt_of hx
    have hfx : fN (2 * j) = .slice Ax x.flow.length cx := by rw [hfx]; simp only [e0]
    have HFX := Lib.hid hfx
    obtain ⟨i0, hi0, hz0, hz1, hz2⟩ := info_parts infoI64'
    obtain ⟨m, hm⟩ : ∃ m, x.flow.length = m := ⟨_, rfl⟩
    have HM := Lib.hid hm
    -- the list's cell, and its row, in each world that has the rounds' row
    have HCEL := Lib.hid (fun w' (h1 : w'.ownsRow base 64 8 (.slice (some ⟨bR, 0, none⟩) s.rounds.length cr) s.rounds.length cells) (h2 : RoundsIn w' base cells s.rounds fI fE fN) => (show w'.cell? ⟨bR, j * 8 + 6, none⟩ = some (.slice Ax m cx) by
      rw [← hm, ← hfx]
      exact roundCell (n := 0) (k := 6) h1 h2 hx rfl))
    have HOO := Lib.hid (fun w' (h2 : RoundsIn w' base cells s.rounds fI fE fN) => (show w'.ownsRow base 2 1 (.slice Ax m cx) m (x.flow.map (Value.int .i64)) by
      have h := h2.nums.own (2 * j)
      simp only [e0] at h
      rw [hfx, hm] at h
      exact h))
    rw [hm] at hlx
    have q0 := HCEL.out _ hr1 hr2
    clear hsome hnone ho hx hr1 hr2 hfx e0 hm
    have HJ := Lib.hid hj
    clear hj
    go_wp2_with fail
    go_region_law (first
      | ((refine step_append_any _ rfl _ _ 60 rfl base 2 i0 (.int .i64 0) 1 8 Try.underlying60 hi0 hz0 hz1 hz2 rfl (by omega) _ _ _ (by rfl) (HOO.out _ HRbA.out) _ _ 1 1 [.int .i64 ya] (by rfl) (by exact (Sl.lit (size := 1) (k := 1) (cap := 1) _ _ _ _ _ _ rfl rfl rfl (by omega) (by omega)).rd) (by simp [Value.oneCell']) (by simp only [maxLen]; omega) (by omega) HXA.out.size ?_; intro v9 w9 hown9 hgr9 hblk9; obtain ⟨A9, d9, rfl⟩ := own_slice hown9; have HO9 := Lib.hid hown9; have HG9 := Lib.hid hgr9; have HN9 := Lib.hid hblk9; have HRa9 := Lib.hid (own_kept HRaA.out HG9.out (far_of (HOO.out _ HRbA.out) (by decide))); have q9 := HRa9.out.cellAt (j * 8 + 6) (by have := HJ.out; omega); have f9 := HRa9.out.frozenAt (j * 8 + 6); obtain ⟨u9, hu9⟩ : ∃ u, cells[j * 8 + 6]? = some u := ⟨_, List.getElem?_eq_getElem (by have h1 := HRa9.out.1; have h2 := HJ.out; omega)⟩; rw [hu9] at q9; clear hown9 hgr9 hblk9 hu9))
      | (go_simp; go_at_call 47; (refine (HCA.out _ HV.out.drew).mono ?_); rintro e w10 ⟨rfl, rv, gg⟩; have HRa10 := Lib.hid (own_kept (w := w1.drew) (HR1.out.drew) gg (fun k e => by injection e with e; subst e; exact ⟨_, _, HV.out.drew.blk, by decide⟩)); have HRb10 := Lib.hid (RoundsIn.kept1 (w := w1.drew) (HR2.out.below ((Below.refl _ _).drew)) gg (fun k e => by injection e with e; subst e; exact ⟨_, _, HV.out.drew.blk, by decide⟩) (fun k e => by injection e with e; subst e; exact ⟨_, _, HV.out.drew.blk, by decide⟩) (fun k e => by injection e with e; subst e; exact ⟨_, _, HV.out.drew.blk, by decide⟩)); have HX10 := Lib.hid ((HX.out.below ((Below.refl _ _).drew)).took HV.out.drew.blk reader_far gg); have HK10 := Lib.hid (HK.out.drew.took HV.out.drew HNE.out gg); have HB10 := Lib.hid (Below.took HB.out.drew HX.out.size HLV.out gg); have HV10 := Lib.hid rv; have q10 := HCEL.out _ HRa10.out HRb10.out; clear rv gg; have HXA := Lib.hid (HX10.out.below ((Below.refl w10.heap.size w10).alloc (Nat.le_refl _) (.cells #[.int .i64 ya] 2))); have HRaA := Lib.hid (own_below HRa10.out ((Below.refl w10.heap.size w10).alloc (Nat.le_refl _) (.cells #[.int .i64 ya] 2))); have HRbA := Lib.hid (HRb10.out.below ((Below.refl w10.heap.size w10).alloc (Nat.le_refl _) (.cells #[.int .i64 ya] 2))); have HKA := Lib.hid (HK10.out.below ((Below.refl w10.heap.size w10).alloc (Nat.le_refl _) (.cells #[.int .i64 ya] 2))); have HVA := Lib.hid (HV10.out.below ((Below.refl w10.heap.size w10).alloc (Nat.le_refl _) (.cells #[.int .i64 ya] 2))); have HBA := Lib.hid (HB10.out.alloc HX10.out.size (.cells #[.int .i64 ya] 2)); have qA := HCEL.out _ HRaA.out HRbA.out))
    all_goals
      clear q0 qA q10
      have HFIN := Lib.hid (show StIn (w9.setCell ⟨bR, j * 8 + 6, none⟩ (.slice A9 (m + 1) d9)) base g { s with rounds := s.rounds.set j { x with flow := x.flow ++ [ya] } } from HXA.out.numPush HRaA.out HRbA.out rfl HXJ.out (z := ya) (v' := .slice A9 (m + 1) d9) HIA.out (d := 0) (.inl ⟨rfl, rfl⟩) (by rw [show fN (2 * j + 0) = .slice Ax x.flow.length cx from HFX.out, HM.out]; exact HG9.out) (by rw [show numsOf s.rounds (2 * j + 0) = x.flow from flowAt_of HXJ.out, HM.out]; exact HO9.out) (by rw [show fN (2 * j + 0) = .slice Ax x.flow.length cx from HFX.out, HM.out]; exact HN9.out))
      have HFR := Lib.hid (fun (hh : Nat) (r : Rws.Rd) (A : Option Addr) (c : Nat) (h : RdAt (w10.alloc (.cells #[.int .i64 ya] 2)) hh B r A c) (hl : B ≤ base) => (show RdAt (w9.setCell ⟨bR, j * 8 + 6, none⟩ (.slice A9 (m + 1) d9)) hh B r A c from
        (h.kept HG9.out (fun k e => ⟨fun e2 => own_blk_ne (HOO.out _ HRbA.out) h.blk (by decide) (by rw [← e2]; exact e), by have h1 := ((HOO.out _ HRbA.out).lt k e).1; omega⟩)).kept (only_setCell (World.grownBy.refl w9 (some bR)) (p := ⟨bR, j * 8 + 6, none⟩) (.inl rfl) (.slice A9 (m + 1) d9)) (fun k e => by
          injection e with e
          subst e
          refine ⟨fun e2 => own_blk_ne HRaA.out h.blk (by decide) (by rw [← e2]; rfl), ?_⟩
          have h1 := (HRaA.out.lt bR rfl).1
          omega)))
      have HBF := Lib.hid ((HBA.out.grown HG9.out HXA.out.size (fun q hq => ((HOO.out _ HRbA.out).lt q hq).1)).setCell (p := ⟨bR, j * 8 + 6, none⟩) ((HRaA.out.lt bR rfl).1) (.slice A9 (m + 1) d9))
      go_wp2_with fail
      go_ret
      rw [HHO.out, HGOAL.out]
      exact ItemTo.yes HFIN.out (HFR.out _ _ _ _ HKA.out hBb) (HFR.out _ _ _ _ HVA.out hBb) HBF.out

set_option maxHeartbeats 4000000 in
set_option maxRecDepth 100000 in
theorem item7_any (B base g hk hv : Nat) (s : Rws.St) (rk0 rv0 : Rws.Rd) (A3 A2 : Option Addr) (c3 c2 : Nat) (w : World) (hst : StIn w base g s) (hrk : RdAt w hk B rk0 A3 c3) (hrv : RdAt w hv B rv0 A2 c2) (hBb : B ≤ base) (hne : hk ≠ hv) (hlk : base ≤ hk) (hlv : base ≤ hv) (hcn : ∀ x ∈ s.rounds, x.pot.length ≤ 1900000) :
    Calls Try.prog 51 #[.pointer (some ⟨g, 0, none⟩), .int .u8 7, .pointer (some ⟨hk, 0, none⟩), .pointer (some ⟨hv, 0, none⟩)] w
      (ItemTo base g hk hv B A3 A2 c3 c2 ((Rws.placeOf ((rk0.take 8).1 : Int) s.rounds).bind fun j => s.rounds[j]?.map fun x => { s with rounds := s.rounds.set j { x with pot := x.pot ++ [Rws.s64 (rv0.take 8).1] } }) (rk0.take 8).2 (rv0.take 8).2 w) := by
  obtain ⟨⟨xi, ri⟩, hi⟩ : ∃ q, rk0.take 8 = q := ⟨_, rfl⟩
  have hri := rk0.take_8
  have HCI := Lib.hid (fun w hr => rtake_any hk B rk0 8 A3 c3 w hr rfl)
  rw [hi] at HCI hri ⊢
  simp only at hri
  obtain ⟨⟨xa, ra⟩, ha⟩ : ∃ q, rv0.take 8 = q := ⟨_, rfl⟩
  have hra := rv0.take_lt 8
  have HCA := Lib.hid (fun w hr => rlong_any hv B rv0 A2 c2 w hr)
  rw [ha] at HCA hra ⊢
  simp only at hra
  have HIA := Lib.hid (Rws.s64_lo xa (by omega))
  obtain ⟨ya, hya⟩ : ∃ y, Rws.s64 xa = y := ⟨_, rfl⟩
  rw [hya] at HIA HCA ⊢
  clear hya
  have HIS := Lib.hid (show xi < 18446744073709551616 by omega)
  simp only
  obtain ⟨Aa, Ad, Ar, Aq, ca, cd, cr, cq, hX⟩ := hst.open_
  have HX := Lib.hid hX
  have HK := Lib.hid hrk
  have HV := Lib.hid hrv
  have HNE := Lib.hid hne
  have HLK := Lib.hid hlk
  have HLV := Lib.hid hlv
  have HB := Lib.hid (Below.refl base w)
  have HCN := Lib.hid hcn
  clear hst hX hrk hrv hne hlk hlv hcn hi hri ha hra
  go_enter Try.func51, Try.ntmps51
  go_wp2_with fail
  refine (HCI.out _ HK.out).mono ?_
  rintro e w1 ⟨rfl, rv, gg⟩
  have HV := Lib.hid (HV.out.took HK.out (Ne.symm HNE.out) gg)
  have HB := Lib.hid (Below.took HB.out HX.out.size HLK.out gg)
  have HX := Lib.hid (HX.out.took HK.out.blk reader_far gg)
  have HK := Lib.hid rv
  clear rv gg
  go_wp2_with fail
  refine (round_any base g s (xi : Int) w1 HX.out).mono ?_
  rintro e w2 ⟨hsome, hnone, hw2⟩
  subst hw2
  obtain ⟨o, ho⟩ : ∃ o, Rws.placeOf (xi : Int) s.rounds = o := ⟨_, rfl⟩
  rw [ho] at hsome hnone
  have HHO := Lib.hid ho
  cases o with
  | none =>
    have he := hnone rfl
    subst he
    clear hsome hnone ho
    go_wp2_with fail
    go_ret
    rw [HHO.out]
    exact ItemTo.no HB.out
  | some j =>
    obtain ⟨x, hx, _⟩ := placeOf_at ho
    obtain ⟨bR, hA, he⟩ := hsome j rfl
    subst he
    subst hA
    have HGOAL := Lib.hid (show ((some j).bind fun j => s.rounds[j]?.map fun x => { s with rounds := s.rounds.set j { x with pot := x.pot ++ [ya] } }) = some { s with rounds := s.rounds.set j { x with pot := x.pot ++ [ya] } } by
      rw [Option.bind_some, hx]; rfl)
    have hlx := HCN.out x (List.mem_of_getElem? hx)
    have hj := (List.getElem?_eq_some_iff.1 hx).1
    obtain ⟨cells, fI, fE, fN, hr1, hr2⟩ := HX.out.rounds
    have HR1 := Lib.hid hr1
    have HR2 := Lib.hid hr2
    have HXJ := Lib.hid hx
    obtain ⟨Ax, cx, hfx⟩ := own_slice (hr2.nums.own (2 * j + 1))
    have e0 := potAt_of hx
    have hfx : fN (2 * j + 1) = .slice Ax x.pot.length cx := by rw [hfx]; simp only [e0]
    have HFX := Lib.hid hfx
    obtain ⟨i0, hi0, hz0, hz1, hz2⟩ := info_parts infoI64'
    obtain ⟨m, hm⟩ : ∃ m, x.pot.length = m := ⟨_, rfl⟩
    have HM := Lib.hid hm
    -- the list's cell, and its row, in each world that has the rounds' row
    have HCEL := Lib.hid (fun w' (h1 : w'.ownsRow base 64 8 (.slice (some ⟨bR, 0, none⟩) s.rounds.length cr) s.rounds.length cells) (h2 : RoundsIn w' base cells s.rounds fI fE fN) => (show w'.cell? ⟨bR, j * 8 + 7, none⟩ = some (.slice Ax m cx) by
      rw [← hm, ← hfx]
      exact roundCell (n := 0) (k := 7) h1 h2 hx rfl))
    have HOO := Lib.hid (fun w' (h2 : RoundsIn w' base cells s.rounds fI fE fN) => (show w'.ownsRow base 2 1 (.slice Ax m cx) m (x.pot.map (Value.int .i64)) by
      have h := h2.nums.own (2 * j + 1)
      simp only [e0] at h
      rw [hfx, hm] at h
      exact h))
    rw [hm] at hlx
    have q0 := HCEL.out _ hr1 hr2
    clear hsome hnone ho hx hr1 hr2 hfx e0 hm
    have HJ := Lib.hid hj
    clear hj
    go_wp2_with fail
    go_region_law (first
      | ((refine step_append_any _ rfl _ _ 60 rfl base 2 i0 (.int .i64 0) 1 8 Try.underlying60 hi0 hz0 hz1 hz2 rfl (by omega) _ _ _ (by rfl) (HOO.out _ HRbA.out) _ _ 1 1 [.int .i64 ya] (by rfl) (by exact (Sl.lit (size := 1) (k := 1) (cap := 1) _ _ _ _ _ _ rfl rfl rfl (by omega) (by omega)).rd) (by simp [Value.oneCell']) (by simp only [maxLen]; omega) (by omega) HXA.out.size ?_; intro v9 w9 hown9 hgr9 hblk9; obtain ⟨A9, d9, rfl⟩ := own_slice hown9; have HO9 := Lib.hid hown9; have HG9 := Lib.hid hgr9; have HN9 := Lib.hid hblk9; have HRa9 := Lib.hid (own_kept HRaA.out HG9.out (far_of (HOO.out _ HRbA.out) (by decide))); have q9 := HRa9.out.cellAt (j * 8 + 7) (by have := HJ.out; omega); have f9 := HRa9.out.frozenAt (j * 8 + 7); obtain ⟨u9, hu9⟩ : ∃ u, cells[j * 8 + 7]? = some u := ⟨_, List.getElem?_eq_getElem (by have h1 := HRa9.out.1; have h2 := HJ.out; omega)⟩; rw [hu9] at q9; clear hown9 hgr9 hblk9 hu9))
      | (go_simp; go_at_call 47; (refine (HCA.out _ HV.out.drew).mono ?_); rintro e w10 ⟨rfl, rv, gg⟩; have HRa10 := Lib.hid (own_kept (w := w1.drew) (HR1.out.drew) gg (fun k e => by injection e with e; subst e; exact ⟨_, _, HV.out.drew.blk, by decide⟩)); have HRb10 := Lib.hid (RoundsIn.kept1 (w := w1.drew) (HR2.out.below ((Below.refl _ _).drew)) gg (fun k e => by injection e with e; subst e; exact ⟨_, _, HV.out.drew.blk, by decide⟩) (fun k e => by injection e with e; subst e; exact ⟨_, _, HV.out.drew.blk, by decide⟩) (fun k e => by injection e with e; subst e; exact ⟨_, _, HV.out.drew.blk, by decide⟩)); have HX10 := Lib.hid ((HX.out.below ((Below.refl _ _).drew)).took HV.out.drew.blk reader_far gg); have HK10 := Lib.hid (HK.out.drew.took HV.out.drew HNE.out gg); have HB10 := Lib.hid (Below.took HB.out.drew HX.out.size HLV.out gg); have HV10 := Lib.hid rv; have q10 := HCEL.out _ HRa10.out HRb10.out; clear rv gg; have HXA := Lib.hid (HX10.out.below ((Below.refl w10.heap.size w10).alloc (Nat.le_refl _) (.cells #[.int .i64 ya] 2))); have HRaA := Lib.hid (own_below HRa10.out ((Below.refl w10.heap.size w10).alloc (Nat.le_refl _) (.cells #[.int .i64 ya] 2))); have HRbA := Lib.hid (HRb10.out.below ((Below.refl w10.heap.size w10).alloc (Nat.le_refl _) (.cells #[.int .i64 ya] 2))); have HKA := Lib.hid (HK10.out.below ((Below.refl w10.heap.size w10).alloc (Nat.le_refl _) (.cells #[.int .i64 ya] 2))); have HVA := Lib.hid (HV10.out.below ((Below.refl w10.heap.size w10).alloc (Nat.le_refl _) (.cells #[.int .i64 ya] 2))); have HBA := Lib.hid (HB10.out.alloc HX10.out.size (.cells #[.int .i64 ya] 2)); have qA := HCEL.out _ HRaA.out HRbA.out))
    all_goals
      clear q0 qA q10
      have HFIN := Lib.hid (show StIn (w9.setCell ⟨bR, j * 8 + 7, none⟩ (.slice A9 (m + 1) d9)) base g { s with rounds := s.rounds.set j { x with pot := x.pot ++ [ya] } } from HXA.out.numPush HRaA.out HRbA.out rfl HXJ.out (z := ya) (v' := .slice A9 (m + 1) d9) HIA.out (d := 1) (.inr ⟨rfl, rfl⟩) (by rw [show fN (2 * j + 1) = .slice Ax x.pot.length cx from HFX.out, HM.out]; exact HG9.out) (by rw [show numsOf s.rounds (2 * j + 1) = x.pot from potAt_of HXJ.out, HM.out]; exact HO9.out) (by rw [show fN (2 * j + 1) = .slice Ax x.pot.length cx from HFX.out, HM.out]; exact HN9.out))
      have HFR := Lib.hid (fun (hh : Nat) (r : Rws.Rd) (A : Option Addr) (c : Nat) (h : RdAt (w10.alloc (.cells #[.int .i64 ya] 2)) hh B r A c) (hl : B ≤ base) => (show RdAt (w9.setCell ⟨bR, j * 8 + 7, none⟩ (.slice A9 (m + 1) d9)) hh B r A c from
        (h.kept HG9.out (fun k e => ⟨fun e2 => own_blk_ne (HOO.out _ HRbA.out) h.blk (by decide) (by rw [← e2]; exact e), by have h1 := ((HOO.out _ HRbA.out).lt k e).1; omega⟩)).kept (only_setCell (World.grownBy.refl w9 (some bR)) (p := ⟨bR, j * 8 + 7, none⟩) (.inl rfl) (.slice A9 (m + 1) d9)) (fun k e => by
          injection e with e
          subst e
          refine ⟨fun e2 => own_blk_ne HRaA.out h.blk (by decide) (by rw [← e2]; rfl), ?_⟩
          have h1 := (HRaA.out.lt bR rfl).1
          omega)))
      have HBF := Lib.hid ((HBA.out.grown HG9.out HXA.out.size (fun q hq => ((HOO.out _ HRbA.out).lt q hq).1)).setCell (p := ⟨bR, j * 8 + 7, none⟩) ((HRaA.out.lt bR rfl).1) (.slice A9 (m + 1) d9))
      go_wp2_with fail
      go_ret
      rw [HHO.out, HGOAL.out]
      exact ItemTo.yes HFIN.out (HFR.out _ _ _ _ HKA.out hBb) (HFR.out _ _ _ _ HVA.out hBb) HBF.out

end Go.Proofs.Ytniekddoaokmkaa

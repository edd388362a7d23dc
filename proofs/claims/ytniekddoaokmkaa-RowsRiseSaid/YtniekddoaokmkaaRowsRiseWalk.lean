/-
  RowsRise, walked: the keys of a state's rows rise; writes are as few as may be, and done the other way round they lead back.
-/
import Derived.Test.YtniekddoaokmkaaRowWorks
import Derived.Test.YtniekddoaokmkaaWrOver
import Derived.Test.YtniekddoaokmkaaRiSmall
namespace Go.Proofs.Ytniekddoaokmkaa
open Go.RowKit Go.Gab
set_option linter.unusedVariables false
attribute [local go_sem ↓] Go.wp_at_zero Go.wp_at_succ

theorem nums_of {w : World} {B : Nat} {s : Rws.St} {Aa Ad Ar Aq : Option Addr} {ca cd cr cq : Nat} (h : StAt w B s Aa Ad Ar Aq ca cd cr cq) : Rws.Nums s := by
  refine ⟨fun d hd => ?_, fun r hr => ?_⟩
  · obtain ⟨i, hi⟩ := List.getElem?_of_mem hd
    obtain ⟨_, _, x, _, _, hx, _, _, _, _, _, _, _, hu, _⟩ := due_at h.dues (List.getElem?_eq_some_iff.1 hi).1
    rw [hi] at hx
    injection hx with hx
    subst hx
    exact hu
  · obtain ⟨i, hi⟩ := List.getElem?_of_mem hr
    obtain ⟨_, _, x, _, _, _, _, _, _, _, _, _, _, hx, hra, _⟩ := round_at h.rounds (List.getElem?_eq_some_iff.1 hi).1
    rw [hi] at hx
    injection hx with hx
    subst hx
    exact hra.no
theorem st_asks {s : Rws.St} (h : StSmall s) : ∀ a ∈ s.asked, a.ask.length ≤ 274877906944 ∧ a.reply.length ≤ 274877906944 := fun a ha => by
  have := h.asks a ha
  omega
theorem pairs_le' {w : World} {B n c : Nat} {A : Option Addr} {l : List Rws.Pair} (h : SlR pairR w B A n c l) : ∀ p ∈ l, p.1.length ≤ 140737488355328 ∧ p.2.length ≤ 140737488355328 := by
  intro p hp
  obtain ⟨i, hi⟩ := List.getElem?_of_mem hp
  have hin : i < n := by have := (List.getElem?_eq_some_iff.1 hi).1; have := h.len; omega
  obtain ⟨b, off, x, A1, A2, c1, c2, _, _, hx, _, _, b1, b2⟩ := pair_at h hin
  rw [hi] at hx
  injection hx with hx
  subst hx
  exact ⟨b1.cm, b2.cm⟩
theorem countP_step {α : Type} {l : List α} {i : Nat} {x : α} (p : α → Bool) (h : l[i]? = some x) : (l.take (i + 1)).countP p = (l.take i).countP p + (if p x then 1 else 0) := by
  rw [take_succ_of h, List.countP_append, List.countP_singleton]
/-- There, and the same, behind one more. -/
theorem there_step {Y : List Rws.Pair} {k : Nat} {y : Rws.Pair} (x : Rws.Pair) (h : Y[k]? = some y) : ((Y.take (k + 1)).any fun q => x.1 == q.1) = (((Y.take k).any fun q => x.1 == q.1) || (x.1 == y.1)) := by
  rw [take_succ_of h, List.any_append]; simp
theorem same_hit {Y : List Rws.Pair} (hr : Rws.Ris Rws.keyP Y) {k : Nat} {y x : Rws.Pair} (h : Y[k]? = some y) (he : x.1 = y.1) : ((Y.take (k + 1)).any fun q => decide (q = x)) = (x.2 == y.2) := by
  have h0 : ((Y.take k).any fun q => decide (q = x)) = false := by
    rw [← Bool.not_eq_true, List.any_eq_true]
    rintro ⟨q, hq, e⟩
    have e' : q = x := by simpa using e
    subst e'
    obtain ⟨i, hi⟩ := List.getElem?_of_mem hq
    rw [List.getElem?_take] at hi
    split at hi
    · rename_i hik
      exact Rws.ne_of_lt (hr.get hik hi h) he
    · cases hi
  rw [take_succ_of h, List.any_append, h0]
  simp only [List.any_cons, List.any_nil, Bool.or_false, Bool.false_or]
  by_cases e : y = x
  · subst e; simp
  · rw [decide_eq_false e]
    symm
    rw [beq_eq_false_iff_ne]
    intro h2
    exact e (Prod.ext he.symm h2.symm)
theorem same_miss {Y : List Rws.Pair} {k : Nat} {y x : Rws.Pair} (h : Y[k]? = some y) (he : (x.1 == y.1) = false) : ((Y.take (k + 1)).any fun q => decide (q = x)) = ((Y.take k).any fun q => decide (q = x)) := by
  rw [take_succ_of h, List.any_append]
  have e : decide (y = x) = false := decide_eq_false fun e => by subst e; simp at he
  simp [e]
theorem same_there {Y : List Rws.Pair} {x : Rws.Pair} (h : (Y.any fun q => x.1 == q.1) = false) : (Y.any fun q => decide (q = x)) = false := by
  rw [← Bool.not_eq_true, List.any_eq_true] at h ⊢
  rintro ⟨q, hq, e⟩
  exact h ⟨q, hq, by rw [of_decide_eq_true e]; simp⟩
theorem noKey_eq (X : List Rws.Pair) (y : Rws.Pair) : Rws.noKey X y = !(X.any fun p => p.1 == y.1) := rfl
theorem notIn_eq (Y : List Rws.Pair) (x : Rws.Pair) : Rws.notIn Y x = !(Y.any fun q => decide (q = x)) := rfl
theorem keys_at {x y : List Rws.Pair} {i : Nat} {w v : Rws.Wr} (hw : (Rws.writes x y)[i]? = some w) (hv : (Rws.writes y x)[i]? = some v) : w.1 = v.1 := by
  have h := congrArg (fun l => l[i]?) (Rws.writes_keys x y)
  simp only [List.getElem?_map, hw, hv, Option.map_some] at h
  exact Option.some.inj h
theorem writes_len2 (x y : List Rws.Pair) : (Rws.writes y x).length = (Rws.writes x y).length := by
  have h := congrArg List.length (Rws.writes_keys x y)
  simpa using h.symm

set_option maxHeartbeats 16000000 in
set_option maxRecDepth 100000 in
theorem rowsRise_walk (B : Nat) (sa sb : Rws.St) {Aa Ad Ar Aq Ba Bd Br Bq : Option Addr} {ca cd cr cq da dd dr dq : Nat} (W : World) (ha : StAt W B sa Aa Ad Ar Aq ca cd cr cq) (hb : StAt W B sb Ba Bd Br Bq da dd dr dq) (hB : B ≤ W.heap.size) :
    Calls Try.prog 5 #[.agg (stC sa Aa Ad Ar Aq ca cd cr cq).toArray, .agg (stC sb Ba Bd Br Bq da dd dr dq).toArray] W fun e W' => e = .returned (.bool true) ∧ Below W.heap.size W W' := by
  have l0 : Below W.heap.size W (W.alloc (.cells (stC sa Aa Ad Ar Aq ca cd cr cq).toArray 28)) := (Below.refl _ _).alloc (Nat.le_refl _) _
  have l1 := l0.alloc l0.size (.cells (stC sb Ba Bd Br Bq da dd dr dq).toArray 28)
  have b1 := (Blk.new W 28 (stC sa Aa Ad Ar Aq ca cd cr cq).toArray).alloc (.cells (stC sb Ba Bd Br Bq da dd dr dq).toArray 28)
  have b2 := Blk.new (W.alloc (.cells (stC sa Aa Ad Ar Aq ca cd cr cq).toArray 28)) 28 (stC sb Ba Bd Br Bq da dd dr dq).toArray
  rw [show (W.alloc (.cells (stC sa Aa Ad Ar Aq ca cd cr cq).toArray 28)).heap.size = W.heap.size + 1 by simp] at b2
  have HSA := Lib.hid (ha.below l1 hB)
  have HSB := Lib.hid (hb.below l1 hB)
  have HB0 := Lib.hid hB
  have m1 := ha.accts.nc
  have m2 := ha.accts.cm
  have m3 := ha.dues.nc
  have m4 := ha.dues.cm
  have m5 := ha.rounds.nc
  have m6 := ha.rounds.cm
  have m7 := ha.asked.nc
  have m8 := ha.asked.cm
  have n1 := hb.accts.nc
  have n2 := hb.accts.cm
  have n3 := hb.dues.nc
  have n4 := hb.dues.cm
  have n5 := hb.rounds.nc
  have n6 := hb.rounds.cm
  have n7 := hb.asked.nc
  have n8 := hb.asked.cm
  have HSM := Lib.hid (fun w => small_any B sa (Aa := Aa) (Ad := Ad) (Ar := Ar) (Aq := Aq) (ca := ca) (cd := cd) (cr := cr) (cq := cq) w)
  have HSN := Lib.hid (fun w => small_any B sb (Aa := Ba) (Ad := Bd) (Ar := Br) (Aq := Bq) (ca := da) (cd := dd) (cr := dr) (cq := dq) w)
  have HOA := Lib.hid (fun w => of_any B sa (Aa := Aa) (Ad := Ad) (Ar := Ar) (Aq := Aq) (ca := ca) (cd := cd) (cr := cr) (cq := cq) w)
  have HOB := Lib.hid (fun w => of_any B sb (Aa := Ba) (Ad := Bd) (Ar := Br) (Aq := Bq) (ca := da) (cd := dd) (cr := dr) (cq := dq) w)
  have HNA := Lib.hid (nums_of ha)
  have HNB := Lib.hid (nums_of hb)
  unfold stC at l1 b1 b2 HSA HSB HSM HSN HOA HOB ⊢
  clear ha hb hB l0
  go_enter Try.func5, Try.ntmps5
  go_wp2_with fail
  generalize (W.alloc (.cells #[.int .i64 sa.day, .slice Aa sa.accts.length ca, .slice Ad sa.dues.length cd, .int .u64 sa.next, .slice Ar sa.rounds.length cr, .int .u64 sa.no, .slice Aq sa.asked.length cq] 28)).alloc (.cells #[.int .i64 sb.day, .slice Ba sb.accts.length da, .slice Bd sb.dues.length dd, .int .u64 sb.next, .slice Br sb.rounds.length dr, .int .u64 sb.no, .slice Bq sb.asked.length dq] 28) = W1 at l1 b1 b2 HSA HSB ⊢
  obtain ⟨ga, hga⟩ : ∃ h, W.heap.size = h := ⟨_, rfl⟩
  rw [hga] at b1 b2 ⊢
  have HL1 := Lib.hid l1
  have HBA := Lib.hid b1
  have HBB := Lib.hid b2
  clear l1 b1 b2 hga
  refine (HSM.out W1 HSA.out (Nat.le_trans HB0.out HL1.out.size)).mono ?_
  rintro e w1 ⟨s1, rfl, hs1, hb1⟩
  have HB1 := Lib.hid (HL1.out.trans (hb1.mono HL1.out.size))
  have HBA1 := Lib.hid (HBA.out.below hb1 HBA.out.lt)
  have HBB1 := Lib.hid (HBB.out.below hb1 HBB.out.lt)
  have HS1 := Lib.hid hs1
  have HSA1 := Lib.hid (HSA.out.below hb1 (Nat.le_trans HB0.out HL1.out.size))
  have HSB1 := Lib.hid (HSB.out.below hb1 (Nat.le_trans HB0.out HL1.out.size))
  clear hb1 hs1
  cases s1 with
  | false =>
    go_wp2_with fail
    refine (works_any _).mono ?_
    rintro e w9 ⟨rfl, hb9⟩
    have HBg := Lib.hid (HB1.out.trans (hb9.mono HB1.out.size))
    clear hb9
    go_wp2_with fail
    go_ret
    exact ⟨rfl, HBg.out⟩
  | true =>
    have b0 := HBB1.out.cell 0
    have b1 := HBB1.out.cell 1
    have b2 := HBB1.out.cell 2
    have b3 := HBB1.out.cell 3
    have b4 := HBB1.out.cell 4
    have b5 := HBB1.out.cell 5
    have b6 := HBB1.out.cell 6
    simp only [List.getElem?_toArray, List.getElem?_cons_zero, List.getElem?_cons_succ] at b0 b1 b2 b3 b4 b5 b6
    go_wp2_with fail
    refine (HSN.out w1 HSB1.out (Nat.le_trans HB0.out HB1.out.size)).mono ?_
    rintro e w2 ⟨s2, rfl, hs2, hb2⟩
    have HB2 := Lib.hid (HB1.out.trans (hb2.mono HB1.out.size))
    have HBA2 := Lib.hid (HBA1.out.below hb2 HBA1.out.lt)
    have HBB2 := Lib.hid (HBB1.out.below hb2 HBB1.out.lt)
    have HS2 := Lib.hid hs2
    have HSA2 := Lib.hid (HSA1.out.below hb2 (Nat.le_trans HB0.out HB1.out.size))
    have HSB2 := Lib.hid (HSB1.out.below hb2 (Nat.le_trans HB0.out HB1.out.size))
    clear hb2 hs2 b0 b1 b2 b3 b4 b5 b6
    cases s2 with
    | false =>
      go_wp2_with fail
      refine (works_any _).mono ?_
      rintro e w9 ⟨rfl, hb9⟩
      have HBg := Lib.hid (HB2.out.trans (hb9.mono HB2.out.size))
      clear hb9
      go_wp2_with fail
      go_ret
      exact ⟨rfl, HBg.out⟩
    | true =>
      have a0 := HBA2.out.cell 0
      have a1 := HBA2.out.cell 1
      have a2 := HBA2.out.cell 2
      have a3 := HBA2.out.cell 3
      have a4 := HBA2.out.cell 4
      have a5 := HBA2.out.cell 5
      have a6 := HBA2.out.cell 6
      simp only [List.getElem?_toArray, List.getElem?_cons_zero, List.getElem?_cons_succ] at a0 a1 a2 a3 a4 a5 a6
      go_wp2_with fail
      refine (HOA.out w2 HSA2.out (Nat.le_trans HB0.out HB2.out.size) (Nat.le_trans (HS1.out (by trivial)).rows (by omega)) (st_asks (HS1.out (by trivial)))).mono ?_
      rintro e w3 ⟨AX, cX, rfl, hown, hb3⟩
      have HB3 := Lib.hid (HB2.out.trans (hb3.mono HB2.out.size))
      have HBB3 := Lib.hid (HBB2.out.below hb3 HBB2.out.lt)
      have HSB3 := Lib.hid (HSB2.out.below hb3 (Nat.le_trans HB0.out HB2.out.size))
      have HX3 := Lib.hid (hown.slr)
      have HRX := Lib.hid (Rws.of_ris sa HNA.out)
      have HLX := Lib.hid (show (Rws.of sa).length ≤ 400000 by
        have h := (HS1.out (by trivial)).rows
        unfold Rws.of
        split
        · exact h
        · simp)
      obtain ⟨X, hX⟩ : ∃ X, Rws.of sa = X := ⟨_, rfl⟩
      rw [hX] at HX3 HRX HLX ⊢
      obtain ⟨nx, hnx⟩ : ∃ n, X.length = n := ⟨_, rfl⟩
      rw [hnx] at HX3 HLX ⊢
      clear hb3 hown hX a0 a1 a2 a3 a4 a5 a6
      have b0 := HBB3.out.cell 0
      have b1 := HBB3.out.cell 1
      have b2 := HBB3.out.cell 2
      have b3 := HBB3.out.cell 3
      have b4 := HBB3.out.cell 4
      have b5 := HBB3.out.cell 5
      have b6 := HBB3.out.cell 6
      simp only [List.getElem?_toArray, List.getElem?_cons_zero, List.getElem?_cons_succ] at b0 b1 b2 b3 b4 b5 b6
      go_wp2_with fail
      refine (HOB.out w3 HSB3.out (Nat.le_trans HB0.out HB3.out.size) (Nat.le_trans (HS2.out (by trivial)).rows (by omega)) (st_asks (HS2.out (by trivial)))).mono ?_
      rintro e w5 ⟨AY, cY, rfl, hown, hb5⟩
      have HB5 := Lib.hid (HB3.out.trans (hb5.mono HB3.out.size))
      have HX5 := Lib.hid ((HX3.out.below hb5 (Nat.le_refl _)).more hb5.size)
      have HY5 := Lib.hid (hown.slr)
      have HRY := Lib.hid (Rws.of_ris sb HNB.out)
      have HLY := Lib.hid (show (Rws.of sb).length ≤ 400000 by
        have h := (HS2.out (by trivial)).rows
        unfold Rws.of
        split
        · exact h
        · simp)
      obtain ⟨Y, hY⟩ : ∃ Y, Rws.of sb = Y := ⟨_, rfl⟩
      rw [hY] at HY5 HRY HLY ⊢
      obtain ⟨ny, hny⟩ : ∃ n, Y.length = n := ⟨_, rfl⟩
      rw [hny] at HY5 HLY ⊢
      have hxl : nx ≤ 400000 := HLX.out
      have hyl : ny ≤ 400000 := HLY.out
      have HNX := Lib.hid hnx
      have HNY := Lib.hid hny
      have xc := HX5.out.nc
      have xm := HX5.out.cm
      have yc := HY5.out.nc
      have ym := HY5.out.cm
      clear hb5 hown hY hnx hny b0 b1 b2 b3 b4 b5 b6
      go_wp2_with fail
      go_loopw [7] (fun i wr => ∃ (j q : Nat), (j + 1 ≤ nx ∨ j = 0) ∧ i = .int .i64 (j + 1 : Nat) ∧ wr = w5.drewN q) (fun i _ => nx - (intOf i).toNat)
      case atStart => exact ⟨0, 0, .inr rfl, rfl, rfl⟩
      case round =>
        obtain ⟨j, q, hj, rfl, rfl⟩ := hrel
        by_cases hlt : j + 1 < nx
        · obtain ⟨b, off, x, A1, A2, c1, c2, hA, hb, hx, p0, p1, y1, y2⟩ := pair_at (HX5.out.drewN q) (show j < nx by omega)
          obtain ⟨b', off', y, A1', A2', c1', c2', hA', _, hy, r0, r1, z1, z2⟩ := pair_at (HX5.out.drewN q) (show j + 1 < nx by omega)
          rw [hA] at hA'
          injection hA' with e
          injection e with e1 e2
          subst e1 e2
          subst hA
          have hless : Op.bytesLess x.1 y.1 = true := by rw [less_order]; exact decide_eq_true (HRX.out.get (show j < j + 1 by omega) hx hy)
          have k1 := fun k => run_string_of (P := Try.prog) (dst := 9) Try.underlying40 Try.underlying5 Try.underlying9 (y1.sl.drewN k)
          have k2 := fun k => run_string_of (P := Try.prog) (dst := 9) Try.underlying40 Try.underlying5 Try.underlying9 (z1.sl.drewN k)
          have g1 : (j : Int) + 1 < (nx : Int) := by omega
          have g2 : IntKind.i64.wrap (j : Int) = (j : Int) := by rw [IntKind.wrap_i64]; omega
          have g3 : ((j + 1 : Nat) : Int) - 1 = (j : Int) := by omega
          have g4 : (0 : Int) ≤ (j : Int) := by omega
          have g5 : (j : Int) < (nx : Int) := by omega
          clear hx hy y1 y2 z1 z2 p1 r1 hb
          obtain ⟨wq, hwq⟩ : ∃ wq, w5.drewN q = wq := ⟨_, rfl⟩
          rw [hwq] at k1 k2 p0 r0 ⊢
          have HWQ := Lib.hid hwq
          clear hwq
          go_wp2_with fail
          go_quiet (fail)
          obtain ⟨w7, hw7⟩ : ∃ w7, wq.drewN nq = w7 := ⟨_, rfl⟩
          have HW7 := Lib.hid (show ∃ q', w7 = w5.drewN q' by rw [← hw7, ← HWQ.out]; exact ⟨q + nq, by rw [World.drewN_drewN]⟩)
          rw [hw7]
          clear hw7
          go_wp2_with fail
          go_roundw
          case rel =>
            obtain ⟨q', hq'⟩ := HW7.out
            exact ⟨j + 1, q', .inl (by omega), by go_num, hq'⟩
          case measure => simp [intOf]; omega
        · have g1 : ¬ ((j : Int) + 1 < (nx : Int)) := by omega
          have HB6 := Lib.hid (below_drewN HB5.out q)
          have HX6 := Lib.hid (HX5.out.drewN q)
          have HY6 := Lib.hid (HY5.out.drewN q)
          have HZ6 := Lib.hid (show w5.heap.size ≤ (w5.drewN q).heap.size from Nat.le_refl _)
          generalize w5.drewN q = w6 at HB6 HX6 HY6 HZ6 ⊢
          by_cases hx0 : nx = 0
          · have z0 : ((nx : Int) == 0) = true := by simp; omega
            subst hx0
            go_wp2_with fail
            refine (works_any _).mono ?_
            rintro e w9 ⟨rfl, hb9⟩
            have HBg := Lib.hid (HB6.out.trans (hb9.mono HB6.out.size))
            clear hb9
            go_wp2_with fail
            go_ret
            exact ⟨rfl, HBg.out⟩
          by_cases hy0 : ny = 0
          · have z0 : ((nx : Int) == 0) = false := by simp; omega
            have z1 : ((ny : Int) == 0) = true := by simp; omega
            subst hy0
            go_wp2_with fail
            refine (works_any _).mono ?_
            rintro e w9 ⟨rfl, hb9⟩
            have HBg := Lib.hid (HB6.out.trans (hb9.mono HB6.out.size))
            clear hb9
            go_wp2_with fail
            go_ret
            exact ⟨rfl, HBg.out⟩
          have z0 : ((nx : Int) == 0) = false := by simp; omega
          have z1 : ((ny : Int) == 0) = false := by simp; omega
          go_wp2_with fail
          refine (writes_any w5.heap.size X Y AX AY nx cX ny cY w6 HX6.out HY6.out HZ6.out (by omega) (pairs_le' HX6.out) (pairs_le' HY6.out)).mono ?_
          rintro e wa ⟨AW, cW, rfl, how, hba⟩
          have HBa := Lib.hid (HB6.out.trans (hba.mono HB6.out.size))
          have HXa := Lib.hid (HX6.out.below hba HZ6.out)
          have HYa := Lib.hid (HY6.out.below hba HZ6.out)
          have HZa := Lib.hid (Nat.le_trans HZ6.out hba.size)
          have HWa := Lib.hid how.at_
          clear how hba z0 z1 g1
          go_wp2_with fail
          refine (writes_any w5.heap.size Y X AY AX ny cY nx cX wa HYa.out HXa.out HZa.out (by omega) (pairs_le' HYa.out) (pairs_le' HXa.out)).mono ?_
          rintro e wb ⟨AV, cV, rfl, how, hbb⟩
          have HBb := Lib.hid (HBa.out.trans (hbb.mono HBa.out.size))
          have HXb := Lib.hid (HXa.out.below hbb HZa.out)
          have HYb := Lib.hid (HYa.out.below hbb HZa.out)
          have HZb := Lib.hid (Nat.le_trans HZa.out hbb.size)
          have HWb := Lib.hid (HWa.out.keep (fun a ha => hbb.cell ha))
          have HVb := Lib.hid how.at_
          have HKA := Lib.hid (fun i w v hw hv => keys_at (x := X) (y := Y) (i := i) (w := w) (v := v) hw hv)
          have HCT := Lib.hid (Rws.writes_count X Y HRX.out HRY.out)
          have HRW := Lib.hid (Rws.writes_ris X Y HRX.out HRY.out)
          have HWL := Lib.hid (Rws.writes_len X Y)
          have HL2 := Lib.hid (writes_len2 X Y)
          have HSF := Lib.hid (Rws.writes_self X HRX.out)
          obtain ⟨ws, hws⟩ : ∃ ws, Rws.writes X Y = ws := ⟨_, rfl⟩
          obtain ⟨vs, hvs⟩ : ∃ vs, Rws.writes Y X = vs := ⟨_, rfl⟩
          have HZZ := Lib.hid (Nat.le_trans (show wa.heap.size ≤ wb.heap.size from hbb.size) (Nat.le_refl _))
          rw [hws] at HWb HKA HCT HRW HWL HL2 ⊢
          rw [hvs] at HVb HKA HL2 ⊢
          obtain ⟨nw, hnw⟩ : ∃ n, ws.length = n := ⟨_, rfl⟩
          rw [hnw] at HWb HCT HWL HL2 ⊢
          rw [HL2.out] at HVb ⊢
          have HNW := Lib.hid hnw
          have hnwl : nw ≤ 1800000 := by
            have h1 := HWL.out
            have h2 := HNX.out
            have h3 := HNY.out
            omega
          clear how hbb hws hvs hnw
          go_wp2_with fail
          refine (writes_any w5.heap.size X X AX AX nx cX nx cX wb HXb.out HXb.out HZb.out (by omega) (pairs_le' HXb.out) (pairs_le' HXb.out)).mono ?_
          rintro e wz ⟨A7, c7, rfl, _, hbz⟩
          rw [HSF.out, List.length_nil]
          have HBz := Lib.hid (HBb.out.trans (hbz.mono HBb.out.size))
          have HXz := Lib.hid (HXb.out.below hbz HZb.out)
          have HYz := Lib.hid (HYb.out.below hbz HZb.out)
          have HWz := Lib.hid (HWb.out.keep (fun a ha => hbz.cell (Nat.lt_of_lt_of_le ha HZZ.out)))
          have HVz := Lib.hid (HVb.out.keep (fun a ha => hbz.cell ha))
          have wc := HWz.out.nc
          have wm := HWz.out.cm
          have vc := HVz.out.nc
          have vm := HVz.out.cm
          clear hbz
          go_wp2_with fail
          go_loopw [10, 11] (fun d i wr => ∃ (j q : Nat), j ≤ nx ∧ i = .int .i64 j ∧ d = .int .i64 ((X.take j).countP (Rws.notIn Y) : Nat) ∧ wr = wz.drewN q) (fun _ i _ => nx - (intOf i).toNat)
          case atStart => exact ⟨0, 0, Nat.zero_le _, rfl, rfl, rfl⟩
          case round =>
            clear hj
            obtain ⟨j, q, hj, rfl, rfl, rfl⟩ := hrel
            by_cases hlt : j < nx
            · have g4 : (0 : Int) ≤ (j : Int) := by omega
              have g5 : (j : Int) < (nx : Int) := by omega
              obtain ⟨b, off, x, A1, A2, c1, c2, hA, hb, hx, p0, p1, y1, y2⟩ := pair_at HXz.out hlt
              subst hA
              have HP0 := Lib.hid (fun q => (show (wz.drewN q).cell? ⟨b, off + j * 2, none⟩ = some (.slice A1 x.1.length c1) from p0))
              have HP1 := Lib.hid (fun q => (show (wz.drewN q).cell? ⟨b, off + j * 2 + 1, none⟩ = some (.slice A2 x.2.length c2) from p1))
              have HY1 := Lib.hid y1
              have HY2 := Lib.hid y2
              have HCP := Lib.hid (countP_step (Rws.notIn Y) hx)
              obtain ⟨d, hd⟩ : ∃ d, (X.take j).countP (Rws.notIn Y) = d := ⟨_, rfl⟩
              have hdl : d ≤ 400000 := by
                have := List.countP_le_length (p := Rws.notIn Y) (l := X.take j)
                rw [hd, List.length_take] at this
                omega
              rw [hd] at HCP ⊢
              clear hx hb p0 p1 y1 y2 hd
              go_wp2_with fail
              go_loopw [12, 13, 14] (fun sm th i wr => ∃ (k q : Nat), k ≤ ny ∧ i = .int .i64 k ∧ th = .bool ((Y.take k).any fun q => x.1 == q.1) ∧ sm = .bool ((Y.take k).any fun q => decide (q = x)) ∧ wr = wz.drewN q) (fun _ _ i _ => ny - (intOf i).toNat)
              case atStart => exact ⟨0, q, Nat.zero_le _, rfl, rfl, rfl, rfl⟩
              case round =>
                obtain ⟨k, q, hk, rfl, rfl, rfl, rfl⟩ := hrel
                by_cases hlt2 : k < ny
                · have g6 : (0 : Int) ≤ (k : Int) := by omega
                  have g7 : (k : Int) < (ny : Int) := by omega
                  obtain ⟨b2, off2, y, B1, B2, d1, d2, hA2, hb2, hy, r0, r1, z1, z2⟩ := pair_at HYz.out hlt2
                  subst hA2
                  have r0 : (wz.drewN q).cell? ⟨b2, off2 + k * 2, none⟩ = some (.slice B1 y.1.length d1) := r0
                  have HR1 := Lib.hid r1
                  have HF4 := Lib.hid (fun q' => fun k => run_string_of (P := Try.prog) (dst := 9) Try.underlying40 Try.underlying5 Try.underlying9 ((z2.sl.drewN q').drewN k))
                  have p0 := HP0.out q
                  have p1 := HP1.out q
                  have f1 := fun k => run_string_of (P := Try.prog) (dst := 9) Try.underlying40 Try.underlying5 Try.underlying9 ((HY1.out.sl.drewN q).drewN k)
                  have f2 := fun k => run_string_of (P := Try.prog) (dst := 9) Try.underlying40 Try.underlying5 Try.underlying9 ((HY2.out.sl.drewN q).drewN k)
                  have f3 := fun k => run_string_of (P := Try.prog) (dst := 9) Try.underlying40 Try.underlying5 Try.underlying9 ((z1.sl.drewN q).drewN k)
                  have HTH := Lib.hid (there_step x hy)
                  have HHI := Lib.hid (fun e => same_hit HRY.out (x := x) hy e)
                  have HMI := Lib.hid (fun e => same_miss (x := x) hy e)
                  obtain ⟨th, hth⟩ : ∃ t, ((Y.take k).any fun q => x.1 == q.1) = t := ⟨_, rfl⟩
                  obtain ⟨sm, hsm⟩ : ∃ t, ((Y.take k).any fun q => decide (q = x)) = t := ⟨_, rfl⟩
                  rw [hth] at HTH ⊢
                  rw [hsm] at HMI ⊢
                  obtain ⟨wq, hwq⟩ : ∃ wq, wz.drewN q = wq := ⟨_, rfl⟩
                  rw [hwq] at p0 p1 r0 f1 f2 f3 ⊢
                  have HWQ := Lib.hid hwq
                  clear hwq
                  clear hy z1 z2 hb2 hth hsm r1
                  cases hke : (x.1 == y.1) with
                  | false =>
                    have HT2 := Lib.hid (show ((Y.take (k + 1)).any fun q => x.1 == q.1) = th by rw [HTH.out, hke, Bool.or_false])
                    have HS2 := Lib.hid (HMI.out hke)
                    go_wp2_with fail
                    go_quiet (fail)
                    obtain ⟨w7, hw7⟩ : ∃ w7, wq.drewN nq = w7 := ⟨_, rfl⟩
                    have HW7 := Lib.hid (show ∃ q', w7 = wz.drewN q' by rw [← hw7, ← HWQ.out]; exact ⟨q + nq, by rw [World.drewN_drewN]⟩)
                    rw [hw7]
                    clear hw7
                    clear hke
                    go_wp2_with fail
                    go_roundw
                    case rel =>
                      obtain ⟨q', hq'⟩ := HW7.out
                      exact ⟨k + 1, q', by omega, by go_num, by rw [HT2.out], by rw [HS2.out], hq'⟩
                    case measure => simp [intOf]; omega
                  | true =>
                    have HT2 := Lib.hid (show ((Y.take (k + 1)).any fun q => x.1 == q.1) = true by rw [HTH.out, hke, Bool.or_true])
                    have HS2 := Lib.hid (HHI.out (by simpa using hke))
                    obtain ⟨ve, hve⟩ : ∃ t, (x.2 == y.2) = t := ⟨_, rfl⟩
                    rw [hve] at HS2
                    go_wp2_with fail
                    go_quiet (fail)
                    obtain ⟨w7, hw7⟩ : ∃ w7, wq.drewN nq = w7 := ⟨_, rfl⟩
                    have HW7 := Lib.hid (show ∃ q', w7 = wz.drewN q' by rw [← hw7, ← HWQ.out]; exact ⟨q + nq, by rw [World.drewN_drewN]⟩)
                    rw [hw7]
                    clear hw7
                    go_wp2_with fail
                    obtain ⟨q2, hq2⟩ := HW7.out
                    have p1 := HP1.out q2
                    have r1' : (wz.drewN q2).cell? ⟨b2, off2 + k * 2 + 1, none⟩ = some (.slice B2 y.2.length d2) := HR1.out
                    have f2 := fun k => run_string_of (P := Try.prog) (dst := 9) Try.underlying40 Try.underlying5 Try.underlying9 ((HY2.out.sl.drewN q2).drewN k)
                    have f4' : ∀ k, (convert 40 9 (.slice B2 y.2.length d2)).run Try.prog ((wz.drewN q2).drewN k) = .ok (.string ⟨y.2.toArray⟩) ((wz.drewN q2).drewN k) := HF4.out q2
                    rw [← hq2] at p1 r1' f2 f4'
                    have HQ2 := Lib.hid hq2
                    clear f1 f3 p0 r0 hke hq2
                    go_quiet (fail)
                    obtain ⟨w8, hw8⟩ : ∃ w8, w7.drewN nq = w8 := ⟨_, rfl⟩
                    have HW8 := Lib.hid (show ∃ q', w8 = wz.drewN q' by rw [← hw8, HQ2.out]; exact ⟨q2 + nq, by rw [World.drewN_drewN]⟩)
                    rw [hw8]
                    clear hw8
                    go_wp2_with fail
                    go_roundw
                    case rel =>
                      obtain ⟨q', hq'⟩ := HW8.out
                      exact ⟨k + 1, q', by omega, by go_num, by rw [HT2.out], by rw [HS2.out], hq'⟩
                    case measure => simp [intOf]; omega
                · have g7 : ¬ ((k : Int) < (ny : Int)) := by omega
                  rw [List.take_of_length_le (show Y.length ≤ k by rw [HNY.out]; omega)]
                  have HNI := Lib.hid (notIn_eq Y x)
                  have HST := Lib.hid (fun h => same_there (Y := Y) (x := x) h)
                  obtain ⟨th, hth⟩ : ∃ t, (Y.any fun q => x.1 == q.1) = t := ⟨_, rfl⟩
                  obtain ⟨sm, hsm⟩ : ∃ t, (Y.any fun q => decide (q = x)) = t := ⟨_, rfl⟩
                  rw [hth] at HST ⊢
                  rw [hsm] at HST HNI ⊢
                  clear hth hsm
                  cases th with
                  | false =>
                    obtain rfl : sm = false := HST.out rfl
                    go_wp2_with fail
                    go_roundw
                    case rel => exact ⟨j + 1, q, by omega, by go_num, by rw [HCP.out, HNI.out]; simp, rfl⟩
                    case measure => simp [intOf]; omega
                  | true =>
                    cases sm with
                    | false =>
                      go_wp2_with fail
                      go_roundw
                      case rel => exact ⟨j + 1, q, by omega, by go_num, by rw [HCP.out, HNI.out]; simp, rfl⟩
                      case measure => simp [intOf]; omega
                    | true =>
                      go_wp2_with fail
                      go_roundw
                      case rel => exact ⟨j + 1, q, by omega, by go_num, by rw [HCP.out, HNI.out]; simp, rfl⟩
                      case measure => simp [intOf]; omega
            · have g5 : ¬ ((j : Int) < (nx : Int)) := by omega
              rw [List.take_of_length_le (show X.length ≤ j by rw [HNX.out]; omega)]
              obtain ⟨dx, hdx⟩ : ∃ d, X.countP (Rws.notIn Y) = d := ⟨_, rfl⟩
              have hdxl : dx ≤ 400000 := by
                have := List.countP_le_length (p := Rws.notIn Y) (l := X)
                rw [hdx, HNX.out] at this
                omega
              rw [hdx]
              have HDX := Lib.hid hdx
              clear hdx
              go_wp2_with fail
              clear g5 hlt
              go_loopw [10, 15] (fun d i wr => ∃ (j q : Nat), j ≤ ny ∧ i = .int .i64 j ∧ d = .int .i64 (dx + (Y.take j).countP (Rws.noKey X) : Nat) ∧ wr = wz.drewN q) (fun _ i _ => ny - (intOf i).toNat)
              case atStart => exact ⟨0, q, Nat.zero_le _, rfl, rfl, rfl⟩
              case round =>
                clear hj
                obtain ⟨j, q, hj, rfl, rfl, rfl⟩ := hrel
                by_cases hlt : j < ny
                · have g4 : (0 : Int) ≤ (j : Int) := by omega
                  have g5 : (j : Int) < (ny : Int) := by omega
                  obtain ⟨b, off, y, A1, A2, c1, c2, hA, hb, hy, p0, _, y1, _⟩ := pair_at HYz.out hlt
                  subst hA
                  have HP0 := Lib.hid (fun q => (show (wz.drewN q).cell? ⟨b, off + j * 2, none⟩ = some (.slice A1 y.1.length c1) from p0))
                  have HY1 := Lib.hid y1
                  have HCP := Lib.hid (countP_step (Rws.noKey X) hy)
                  obtain ⟨d, hd⟩ : ∃ d, (Y.take j).countP (Rws.noKey X) = d := ⟨_, rfl⟩
                  have hdl : d ≤ 400000 := by
                    have := List.countP_le_length (p := Rws.noKey X) (l := Y.take j)
                    rw [hd, List.length_take] at this
                    omega
                  rw [hd] at HCP ⊢
                  clear hy hb p0 y1 hd
                  go_wp2_with fail
                  go_loopw [16, 17] (fun th i wr => ∃ (k q : Nat), k ≤ nx ∧ i = .int .i64 k ∧ th = .bool ((X.take k).any fun p => p.1 == y.1) ∧ wr = wz.drewN q) (fun _ i _ => nx - (intOf i).toNat)
                  case atStart => exact ⟨0, q, Nat.zero_le _, rfl, rfl, rfl⟩
                  case round =>
                    obtain ⟨k, q, hk, rfl, rfl, rfl⟩ := hrel
                    by_cases hlt2 : k < nx
                    · have g6 : (0 : Int) ≤ (k : Int) := by omega
                      have g7 : (k : Int) < (nx : Int) := by omega
                      obtain ⟨b2, off2, x, B1, B2, d1, d2, hA2, hb2, hx, r0, _, z1, _⟩ := pair_at (HXz.out.drewN q) hlt2
                      subst hA2
                      have p0 := HP0.out q
                      have f1 := fun k => run_string_of (P := Try.prog) (dst := 9) Try.underlying40 Try.underlying5 Try.underlying9 ((HY1.out.sl.drewN q).drewN k)
                      have f3 := fun k => run_string_of (P := Try.prog) (dst := 9) Try.underlying40 Try.underlying5 Try.underlying9 (z1.sl.drewN k)
                      have HTH := Lib.hid (show ((X.take (k + 1)).any fun p => p.1 == y.1) = (((X.take k).any fun p => p.1 == y.1) || (x.1 == y.1)) by rw [take_succ_of hx, List.any_append]; simp)
                      obtain ⟨th, hth⟩ : ∃ t, ((X.take k).any fun p => p.1 == y.1) = t := ⟨_, rfl⟩
                      rw [hth] at HTH ⊢
                      obtain ⟨wq, hwq⟩ : ∃ wq, wz.drewN q = wq := ⟨_, rfl⟩
                      rw [hwq] at p0 r0 f1 f3 ⊢
                      have HWQ := Lib.hid hwq
                      clear hwq
                      clear hx z1 hb2 hth
                      cases th with
                      | false =>
                        go_wp2_with fail
                        go_quiet (fail)
                        obtain ⟨w7, hw7⟩ : ∃ w7, wq.drewN nq = w7 := ⟨_, rfl⟩
                        have HW7 := Lib.hid (show ∃ q', w7 = wz.drewN q' by rw [← hw7, ← HWQ.out]; exact ⟨q + nq, by rw [World.drewN_drewN]⟩)
                        rw [hw7]
                        clear hw7
                        go_wp2_with fail
                        go_roundw
                        case rel =>
                          obtain ⟨q', hq'⟩ := HW7.out
                          exact ⟨k + 1, q', by omega, by go_num, by rw [HTH.out, Bool.false_or], hq'⟩
                        case measure => simp [intOf]; omega
                      | true =>
                        go_wp2_with fail
                        go_quiet (fail)
                        obtain ⟨w7, hw7⟩ : ∃ w7, wq.drewN nq = w7 := ⟨_, rfl⟩
                        have HW7 := Lib.hid (show ∃ q', w7 = wz.drewN q' by rw [← hw7, ← HWQ.out]; exact ⟨q + nq, by rw [World.drewN_drewN]⟩)
                        rw [hw7]
                        clear hw7
                        go_wp2_with fail
                        go_roundw
                        case rel =>
                          obtain ⟨q', hq'⟩ := HW7.out
                          exact ⟨k + 1, q', by omega, by go_num, by rw [HTH.out, Bool.true_or], hq'⟩
                        case measure => simp [intOf]; omega
                    · have g7 : ¬ ((k : Int) < (nx : Int)) := by omega
                      rw [List.take_of_length_le (show X.length ≤ k by rw [HNX.out]; omega)]
                      have HNI := Lib.hid (noKey_eq X y)
                      obtain ⟨th, hth⟩ : ∃ t, (X.any fun p => p.1 == y.1) = t := ⟨_, rfl⟩
                      rw [hth] at HNI ⊢
                      clear hth
                      cases th with
                      | false =>
                        go_wp2_with fail
                        go_roundw
                        case rel => exact ⟨j + 1, q, by omega, by go_num, by rw [HCP.out, HNI.out]; simp; omega, rfl⟩
                        case measure => simp [intOf]; omega
                      | true =>
                        go_wp2_with fail
                        go_roundw
                        case rel => exact ⟨j + 1, q, by omega, by go_num, by rw [HCP.out, HNI.out]; simp, rfl⟩
                        case measure => simp [intOf]; omega
                · have g5 : ¬ ((j : Int) < (ny : Int)) := by omega
                  rw [List.take_of_length_le (show Y.length ≤ j by rw [HNY.out]; omega)]
                  have HDY := Lib.hid (show dx + Y.countP (Rws.noKey X) = nw by rw [HCT.out, ← HDX.out]; rfl)
                  rw [HDY.out]
                  go_wp2_with fail
                  clear g5 hlt
                  go_loopw [18] (fun i wr => ∃ (j q : Nat), j ≤ nw ∧ i = .int .i64 j ∧ wr = wz.drewN q) (fun i _ => nw - (intOf i).toNat)
                  case atStart => exact ⟨0, q, Nat.zero_le _, rfl, rfl⟩
                  case round =>
                    clear hj
                    obtain ⟨j, q, hj, rfl, rfl⟩ := hrel
                    by_cases hlt : j < nw
                    · have g4 : (0 : Int) ≤ (j : Int) := by omega
                      have g5 : (j : Int) < (nw : Int) := by omega
                      obtain ⟨y, hy⟩ : ∃ y, ws[j]? = some y := ⟨_, List.getElem?_eq_getElem (by rw [HNW.out]; exact hlt)⟩
                      obtain ⟨v, hv⟩ : ∃ v, vs[j]? = some v := ⟨_, List.getElem?_eq_getElem (by rw [HL2.out]; exact hlt)⟩
                      obtain ⟨b, off, A1, A2, c1, c2, hA, hb, s0, _, _, y1, _⟩ := HWz.out.row j y hy
                      obtain ⟨b3, off3, A3, A4, c3, c4, hA3, hb3, t0, _, _, v1, _⟩ := HVz.out.row j v hv
                      have hke := HKA.out j y v hy hv
                      have hprev : j = 0 ∨ ∃ (i : Nat) (x : Rws.Wr) (A5 : Option Addr) (c5 : Nat), i + 1 = j ∧ wz.cell? ⟨b, off + i * 3, none⟩ = some (.slice A5 x.1.length c5) ∧ BytesAt wz wa.heap.size A5 x.1.length c5 x.1 ∧ Op.bytesLess x.1 y.1 = true := by
                        cases j with
                        | zero => exact .inl rfl
                        | succ i =>
                          obtain ⟨x, hx⟩ : ∃ x, ws[i]? = some x := ⟨_, List.getElem?_eq_getElem (by rw [HNW.out]; omega)⟩
                          obtain ⟨b', off', A5, _, c5, _, hA', _, r0, _, _, z1, _⟩ := HWz.out.row i x hx
                          rw [hA] at hA'
                          injection hA' with e
                          injection e with e1 e2
                          subst e1 e2
                          refine .inr ⟨i, x, A5, c5, rfl, r0, z1, ?_⟩
                          rw [less_order]
                          exact decide_eq_true (HRW.out.get (show i < i + 1 by omega) hx hy)
                      subst hA hA3
                      have HPV := Lib.hid hprev
                      have s0 : (wz.drewN q).cell? ⟨b, off + j * 3, none⟩ = some (.slice A1 y.1.length c1) := s0
                      have t0 : (wz.drewN q).cell? ⟨b3, off3 + j * 3, none⟩ = some (.slice A3 v.1.length c3) := t0
                      have f1 := fun k => run_string_of (P := Try.prog) (dst := 9) Try.underlying40 Try.underlying5 Try.underlying9 ((y1.sl.drewN q).drewN k)
                      have f2 := fun k => run_string_of (P := Try.prog) (dst := 9) Try.underlying40 Try.underlying5 Try.underlying9 ((v1.sl.drewN q).drewN k)
                      have ke1 : (y.1 == v.1) = true := by simp [hke]
                      have ke2 : (y.1 != v.1) = false := by rw [bne, ke1]; rfl
                      clear hy hv hb hb3 y1 v1 hke hprev
                      rcases HPV.out with h0 | ⟨i, x, A5, c5, hij, p0, z1, hless⟩
                      · have e1 : decide ((0 : Int) < (j : Int)) = false := by simp; omega
                        have e2 : decide (0 < j) = false := by simp; omega
                        have HJ := Lib.hid h0
                        obtain ⟨wq, hwq⟩ : ∃ wq, wz.drewN q = wq := ⟨_, rfl⟩
                        rw [hwq] at s0 t0 f1 f2 ⊢
                        have HWQ := Lib.hid hwq
                        clear hwq
                        clear h0
                        go_wp2_with fail
                        go_quiet (fail)
                        obtain ⟨w7, hw7⟩ : ∃ w7, wq.drewN nq = w7 := ⟨_, rfl⟩
                        have HW7 := Lib.hid (show ∃ q', w7 = wz.drewN q' by rw [← hw7, ← HWQ.out]; exact ⟨q + nq, by rw [World.drewN_drewN]⟩)
                        rw [hw7]
                        clear hw7
                        clear e1 e2
                        go_wp2_with fail
                        go_roundw
                        case rel =>
                          obtain ⟨q', hq'⟩ := HW7.out
                          exact ⟨j + 1, q', by omega, by go_num, hq'⟩
                        case measure => simp [intOf]; omega
                      · have e1 : decide ((0 : Int) < (j : Int)) = true := by simp; omega
                        have e2 : decide (0 < j) = true := by simp; omega
                        have e3 : IntKind.i64.wrap ((j : Int) - 1) = (i : Int) := by rw [IntKind.wrap_i64]; omega
                        have e4 : (j : Int) - 1 = (i : Int) := by omega
                        have e5 : (0 : Int) ≤ (i : Int) := by omega
                        have e6 : (i : Int) < (nw : Int) := by omega
                        have e7 : i < nw := by omega
                        have e10 : IntKind.i64.wrap (i : Int) = (i : Int) := by rw [IntKind.wrap_i64]; omega
                        have HJ := Lib.hid hij
                        have p0 : (wz.drewN q).cell? ⟨b, off + i * 3, none⟩ = some (.slice A5 x.1.length c5) := p0
                        have f3 := fun k => run_string_of (P := Try.prog) (dst := 9) Try.underlying40 Try.underlying5 Try.underlying9 ((z1.sl.drewN q).drewN k)
                        obtain ⟨wq, hwq⟩ : ∃ wq, wz.drewN q = wq := ⟨_, rfl⟩
                        rw [hwq] at s0 t0 p0 f1 f2 f3 ⊢
                        have HWQ := Lib.hid hwq
                        clear hwq
                        clear hij z1
                        go_wp2_with fail
                        go_quiet (fail)
                        obtain ⟨w7, hw7⟩ : ∃ w7, wq.drewN nq = w7 := ⟨_, rfl⟩
                        have HW7 := Lib.hid (show ∃ q', w7 = wz.drewN q' by rw [← hw7, ← HWQ.out]; exact ⟨q + nq, by rw [World.drewN_drewN]⟩)
                        rw [hw7]
                        clear hw7
                        clear e1 e2 e3 e4 e5 e6 e7 e10 p0 hless
                        go_wp2_with fail
                        go_roundw
                        case rel =>
                          obtain ⟨q', hq'⟩ := HW7.out
                          exact ⟨j + 1, q', by omega, by go_num, hq'⟩
                        case measure => simp [intOf]; omega
                    · have g5 : ¬ ((j : Int) < (nw : Int)) := by omega
                      have HBf := Lib.hid (below_drewN HBz.out q)
                      generalize wz.drewN q = w8 at HBf ⊢
                      go_wp2_with fail
                      refine (works_any _).mono ?_
                      rintro e w9 ⟨rfl, hb9⟩
                      have HBg := Lib.hid (HBf.out.trans (hb9.mono HBf.out.size))
                      clear hb9
                      go_wp2_with fail
                      go_ret
                      exact ⟨rfl, HBg.out⟩

end Go.Proofs.Ytniekddoaokmkaa

/-
  The reference of layer 6 (gabletref06), walked: two rows of bools stand for one row of states.
-/
import Derived.Test.YtlkbdmbfbmekaaaPagKeepWalk
namespace Go.Proofs.Ytlkbdmbfbmekaaa
open Go.RowKit Go.Gab
set_option linter.unusedVariables false

def nowOf (s : UInt8) : Bool := s == 1 || s == 2

/-- The reference's pages as they lie. -/
structure RefAt (w : World) (hq ht hn : Nat) (st : List UInt8) : Prop where
  obj : Blk w hq 72 #[.slice (some ⟨ht, 0, none⟩) st.length st.length, .slice (some ⟨hn, 0, none⟩) st.length st.length]
  th : Blk w ht 4 (boolsA (st.map thenOf))
  nw : Blk w hn 4 (boolsA (st.map nowOf))
  ne : ht ≠ hn
  small : st.length ≤ 4096
  le3 : ∀ s ∈ st, s ≤ 3

section
variable {w w' : World} {hq ht hn : Nat} {st st' : List UInt8}
theorem RefAt.drew (h : RefAt w hq ht hn st) : RefAt w.drew hq ht hn st := ⟨h.obj.drew, h.th.drew, h.nw.drew, h.ne, h.small, h.le3⟩
theorem RefAt.drewN (h : RefAt w hq ht hn st) (m : Nat) : RefAt (w.drewN m) hq ht hn st := ⟨h.obj.drewN m, h.th.drewN m, h.nw.drewN m, h.ne, h.small, h.le3⟩
theorem RefAt.thenAt (h : RefAt w hq ht hn st) {i : Nat} {v : UInt8} (hv : st[i]? = some v) : w.cell? ⟨ht, i, none⟩ = some (.bool (thenOf v)) := h.th.boolAt (by rw [List.getElem?_map, hv]; rfl)
theorem RefAt.nowAt (h : RefAt w hq ht hn st) {i : Nat} {v : UInt8} (hv : st[i]? = some v) : w.cell? ⟨hn, i, none⟩ = some (.bool (nowOf v)) := h.nw.boolAt (by rw [List.getElem?_map, hv]; rfl)

/-- What the reference's pages are turned to; nothing else is written. -/
def RefTurn (w : World) (hq ht hn : Nat) (st' : List UInt8) (w' : World) : Prop := RefAt w' hq ht hn st' ∧ ∃ w1, w.grownBy w1 (some ht) ∧ w1.grownBy w' (some hn)

theorem RefTurn.none_ (h : RefAt w hq ht hn st) : RefTurn w hq ht hn st w := ⟨h, w, World.grownBy.refl w _, World.grownBy.refl w _⟩

theorem RefAt.setNow (h : RefAt w hq ht hn st) {i : Nat} {v x : UInt8} {b : Bool} (hv : st[i]? = some v) (hx : x ≤ 3) (hf : thenOf x = thenOf v) (hb : nowOf x = b) : RefAt (w.setCell ⟨hn, i, none⟩ (.bool b)) hq ht hn (st.set i x) := by
  have n1 := h.nw.ne_ h.obj (by decide)
  refine ⟨?_, ?_, ?_, h.ne, by rw [List.length_set]; exact h.small, mem_set_ h.le3 hx⟩
  · rw [List.length_set]; exact h.obj.far (Ne.symm n1) _
  · rw [map_set_same thenOf hv hf]; exact h.th.far (p := ⟨hn, i, none⟩) h.ne _
  · rw [List.map_set, hb]; exact h.nw.setBool i b
theorem RefAt.setThen (h : RefAt w hq ht hn st) {i : Nat} {v x : UInt8} {b : Bool} (hv : st[i]? = some v) (hx : x ≤ 3) (hf : nowOf x = nowOf v) (hb : thenOf x = b) : RefAt (w.setCell ⟨ht, i, none⟩ (.bool b)) hq ht hn (st.set i x) := by
  have n1 := h.th.ne_ h.obj (by decide)
  refine ⟨?_, ?_, ?_, h.ne, by rw [List.length_set]; exact h.small, mem_set_ h.le3 hx⟩
  · rw [List.length_set]; exact h.obj.far (Ne.symm n1) _
  · rw [List.map_set, hb]; exact h.th.setBool i b
  · rw [map_set_same nowOf hv hf]; exact h.nw.far (p := ⟨ht, i, none⟩) (Ne.symm h.ne) _
theorem RefTurn.now (h : RefAt w hq ht hn st) {i : Nat} {v x : UInt8} {b : Bool} (hv : st[i]? = some v) (hx : x ≤ 3) (hf : thenOf x = thenOf v) (hb : nowOf x = b) : RefTurn w hq ht hn (st.set i x) (w.setCell ⟨hn, i, none⟩ (.bool b)) :=
  ⟨h.setNow hv hx hf hb, w, World.grownBy.refl w _, only_setCell (World.grownBy.refl w _) (.inl rfl) _⟩
end

theorem getD_at {st : List UInt8} {j : Nat} {v : UInt8} (h : st[j]? = some v) : st.getD j 0 = v := by rw [List.getD_eq_getElem?_getD, h]; rfl

set_option maxHeartbeats 400000 in
theorem refState06_any (hq ht hn : Nat) (st : List UInt8) (k : Int) (w : World) (h : RefAt w hq ht hn st) :
    Calls Try.prog 28 #[ptr hq, .int .i64 k] w fun e w' => e = .returned (.int .u8 ((pagState st k).toNat : Int)) ∧ w = w' := by
  have hc0 := h.obj.cell 0
  have hc1 := h.obj.cell 1
  have hs := h.small
  simp only [List.getElem?_toArray, List.getElem?_cons_zero, List.getElem?_cons_succ] at hc0 hc1
  by_cases hk : 0 ≤ k ∧ k < st.length
  · obtain ⟨j, rfl⟩ := Int.eq_ofNat_of_zero_le hk.1
    have hj : j < st.length := by omega
    have hsq : st[j]? = some st[j] := List.getElem?_eq_getElem hj
    have hle := u8_le3 (h.le3 _ (List.getElem_mem hj))
    generalize st[j] = s at hsq hle
    have hth := h.thenAt hsq
    have hnw := h.nowAt hsq
    have HM := Lib.hid (pagState_at hsq)
    clear hk hsq h
    rcases hle with rfl | rfl | rfl | rfl
    all_goals
      first | rw [show thenOf 0 = false from rfl, show nowOf 0 = false from rfl] at * | rw [show thenOf 1 = true from rfl, show nowOf 1 = true from rfl] at * | rw [show thenOf 2 = false from rfl, show nowOf 2 = true from rfl] at * | rw [show thenOf 3 = true from rfl, show nowOf 3 = false from rfl] at *
      go_enter Try.func28, Try.ntmps28
      unfold ptr
      go_wp2_with fail
      go_ret
      exact ⟨ret_int (by rw [HM.out]; rfl), rfl⟩
  · have HM := Lib.hid (show pagState st k = 0 by unfold pagState; rw [if_neg hk])
    by_cases h0 : k < 0
    · clear hk
      go_enter Try.func28, Try.ntmps28
      unfold ptr
      go_wp2_with fail
      go_ret
      exact ⟨ret_int (by rw [HM.out]; rfl), rfl⟩
    · have h1 : (st.length : Int) ≤ k := by omega
      clear hk
      go_enter Try.func28, Try.ntmps28
      unfold ptr
      go_wp2_with fail
      go_ret
      exact ⟨ret_int (by rw [HM.out]; rfl), rfl⟩

set_option maxHeartbeats 400000 in
theorem refFree06_any (hq ht hn : Nat) (st : List UInt8) (w : World) (h : RefAt w hq ht hn st) :
    Calls Try.prog 27 #[ptr hq] w fun e w' => e = .returned (.int .i64 (pagFree st : Int)) ∧ w = w' := by
  have hc0 := h.obj.cell 0
  have hc1 := h.obj.cell 1
  have hs := h.small
  simp only [List.getElem?_toArray, List.getElem?_cons_zero, List.getElem?_cons_succ] at hc0 hc1
  go_enter Try.func27, Try.ntmps27
  unfold ptr
  go_wp2_with fail
  go_loop [3, 4] (fun c i => ∃ j : Nat, j ≤ st.length ∧ i = .int .i64 j ∧ c = .int .i64 (pagFree (st.take j) : Int)) (fun _ i => st.length - (intOf i).toNat)
  case atStart => exact ⟨0, Nat.zero_le _, rfl, rfl⟩
  case round =>
    obtain ⟨j, hj, rfl, rfl⟩ := hrel
    by_cases hlt : j < st.length
    · have hg : st[j]? = some st[j] := List.getElem?_eq_getElem hlt
      have hle : pagFree (st.take j) ≤ j := Nat.le_trans (pagFree_le _) (by rw [List.length_take]; omega)
      have HS := Lib.hid (pagFree_succ hg)
      have HST := Lib.hid (pagState_at hg)
      generalize st[j] = v at HST HS
      generalize pagFree (st.take j) = q at hle HS ⊢
      clear hg
      go_wp2_with fail
      refine (refState06_any hq ht hn st j _ h).mono ?_
      rintro e w5 ⟨rfl, rfl⟩
      rw [HST.out]
      by_cases h0 : v = 0
      · subst h0
        go_wp2_with fail
        go_round
        case rel => exact ⟨j + 1, by omega, by go_num, by rw [HS.out, if_pos trivial]; go_num⟩
        case measure => simp [intOf]; omega
      · have hv0 : ¬ v.toNat = 0 := fun h1 => h0 (UInt8.toNat_inj.1 h1)
        go_wp2_with fail
        go_round
        case rel => exact ⟨j + 1, by omega, by go_num, by rw [HS.out, if_neg h0]; rfl⟩
        case measure => simp [intOf]; omega
    · obtain rfl : j = st.length := by omega
      have HT := Lib.hid (show st.take st.length = st from List.take_length)
      have hle := pagFree_le (st.take st.length)
      rw [HT.out] at hle ⊢
      go_wp2_with fail
      go_ret
      exact ⟨rfl, rfl⟩

set_option maxHeartbeats 400000 in
theorem refTake06_any (hq ht hn : Nat) (st : List UInt8) (w : World) (h : RefAt w hq ht hn st) :
    Calls Try.prog 21 #[ptr hq] w fun e w' => e = .returned (pairI (pagTake st).2.1 (pagTake st).2.2) ∧ RefTurn w hq ht hn (pagTake st).1 w' := by
  have hc0 := h.obj.cell 0
  have hc1 := h.obj.cell 1
  have hs := h.small
  simp only [List.getElem?_toArray, List.getElem?_cons_zero, List.getElem?_cons_succ] at hc0 hc1
  go_enter Try.func21, Try.ntmps21
  unfold ptr
  go_wp2_with fail
  go_loop [4] (fun i => ∃ j : Nat, j ≤ st.length ∧ i = .int .i64 j ∧ ∀ i, i < j → st.getD i 0 ≠ 0) (fun i => st.length - (intOf i).toNat)
  case atStart => exact ⟨0, Nat.zero_le _, rfl, fun i hi => absurd hi (by omega)⟩
  case round =>
    obtain ⟨j, hj, rfl, hb⟩ := hrel
    have HB := Lib.hid hb
    clear hb
    by_cases hlt : j < st.length
    · have hg : st[j]? = some st[j] := List.getElem?_eq_getElem hlt
      have HST := Lib.hid (pagState_at hg)
      generalize st[j] = v at HST hg
      have hnw := h.nowAt hg
      have HG := Lib.hid hg
      have hfz := h.nw.frozen j
      clear hg
      go_wp2_with fail
      refine (refState06_any hq ht hn st j _ h).mono ?_
      rintro e w5 ⟨rfl, rfl⟩
      rw [HST.out]
      by_cases h0 : v = 0
      · subst h0
        have HT := Lib.hid (show pagTake st = (st.set j 2, (j : Int), 0) by unfold pagTake; rw [pagLeast_at hlt (getD_at HG.out) HB.out])
        go_wp2_with fail
        go_ret2
        rw [HT.out]
        exact ⟨rfl, RefTurn.now h HG.out (by decide) (by decide) (by decide)⟩
      · have hv0 : ¬ v.toNat = 0 := fun h1 => h0 (UInt8.toNat_inj.1 h1)
        go_wp2_with fail
        go_round
        case rel =>
          refine ⟨j + 1, by omega, by go_num, fun i hi => ?_⟩
          by_cases hij : i = j
          · subst hij; rw [getD_at HG.out]; exact h0
          · exact HB.out i (by omega)
        case measure => simp [intOf]; omega
    · obtain rfl : j = st.length := by omega
      have HT := Lib.hid (show pagTake st = (st, 0, 7) by unfold pagTake; rw [pagLeast_none HB.out])
      go_wp2_with fail
      go_ret2
      rw [HT.out]
      exact ⟨rfl, RefTurn.none_ h⟩

theorem RefTurn.trans_now {w w1 : World} {hq ht hn : Nat} {st st' : List UInt8} (h : RefAt w hq ht hn st) (hg : w.grownBy w1 (some ht)) (h1 : RefAt w1 hq ht hn st') {i : Nat} {v x : UInt8} {b : Bool} (hv : st'[i]? = some v) (hx : x ≤ 3) (hf : thenOf x = thenOf v) (hb : nowOf x = b) : RefTurn w hq ht hn (st'.set i x) (w1.setCell ⟨hn, i, none⟩ (.bool b)) :=
  ⟨h1.setNow hv hx hf hb, w1, hg, only_setCell (World.grownBy.refl w1 _) (.inl rfl) _⟩

theorem set_set_ {α : Type} (l : List α) (i : Nat) (x y : α) : (l.set i x).set i y = l.set i y := by simp

set_option maxHeartbeats 400000 in
theorem refUse06_any (hq ht hn : Nat) (st : List UInt8) (k : Int) (w : World) (h : RefAt w hq ht hn st) :
    Calls Try.prog 22 #[ptr hq, .int .i64 k] w fun e w' => e = .returned (.int .i64 (pagUse st k).2) ∧ RefTurn w hq ht hn (pagUse st k).1 w' := by
  have hc0 := h.obj.cell 0
  have hc1 := h.obj.cell 1
  have hs := h.small
  simp only [List.getElem?_toArray, List.getElem?_cons_zero, List.getElem?_cons_succ] at hc0 hc1
  by_cases hk : 0 ≤ k ∧ k < st.length
  · obtain ⟨j, rfl⟩ := Int.eq_ofNat_of_zero_le hk.1
    have hj : j < st.length := by omega
    have hg : st[j]? = some st[j] := List.getElem?_eq_getElem hj
    have HST := Lib.hid (pagState_at hg)
    generalize st[j] = v at HST hg
    have hth := h.thenAt hg
    have hnw := h.nowAt hg
    have hfz := h.nw.frozen j
    have hfz2 := h.th.frozen j
    have hne := h.ne
    by_cases h0 : v = 0
    · subst h0
      have HU := Lib.hid (pagUse_free hg)
      have HG := Lib.hid hg
      clear hk hg
      have hA := h.setThen (x := 3) HG.out (by decide) (by decide) (show thenOf 3 = true from rfl)
      have hA0 := hA.obj.cell 0
      have hA1 := hA.obj.cell 1
      have hAn := hA.nowAt (i := j) (v := 3) (by rw [List.getElem?_set_self hj])
      have hAf := hA.nw.frozen j
      simp only [List.getElem?_toArray, List.getElem?_cons_zero, List.getElem?_cons_succ, List.length_set] at hA0 hA1
      have HA := Lib.hid hA
      clear hA
      go_enter Try.func22, Try.ntmps22
      unfold ptr
      go_wp2_with fail
      refine (refState06_any hq ht hn st j _ h).mono ?_
      rintro e w5 ⟨rfl, rfl⟩
      rw [HST.out]
      go_wp2_with fail
      go_ret
      rw [HU.out]
      refine ⟨rfl, ?_⟩
      have := RefTurn.trans_now h (only_setCell (World.grownBy.refl w _) (.inl rfl) _) HA.out (i := j) (v := 3) (x := 1) (b := true) (by rw [List.getElem?_set_self hj]) (by decide) (by decide) (by decide)
      rw [set_set_] at this
      exact this
    · have HU := Lib.hid (pagUse_held hg h0)
      have hv0 : ¬ v.toNat = 0 := fun h1 => h0 (UInt8.toNat_inj.1 h1)
      clear hk hg
      go_enter Try.func22, Try.ntmps22
      unfold ptr
      go_wp2_with fail
      refine (refState06_any hq ht hn st j _ h).mono ?_
      rintro e w5 ⟨rfl, rfl⟩
      rw [HST.out]
      go_wp2_with fail
      go_ret
      rw [HU.out]
      exact ⟨rfl, RefTurn.none_ h⟩
  · have HU := Lib.hid (show pagUse st k = (st, 1) by unfold pagUse; rw [if_neg hk])
    by_cases h0 : k < 0
    · clear hk
      go_enter Try.func22, Try.ntmps22
      unfold ptr
      go_wp2_with fail
      go_ret
      rw [HU.out]
      exact ⟨rfl, RefTurn.none_ h⟩
    · have h1 : (st.length : Int) ≤ k := by omega
      clear hk
      go_enter Try.func22, Try.ntmps22
      unfold ptr
      go_wp2_with fail
      go_ret
      rw [HU.out]
      exact ⟨rfl, RefTurn.none_ h⟩

theorem pagDrop_at {st : List UInt8} {j : Nat} {v : UInt8} (h : st[j]? = some v) : pagDrop st (j : Int) = if v = 1 then (st.set j 3, 0) else if v = 2 then (st.set j 0, 0) else (st, 3) := by
  have hj := (List.getElem?_eq_some_iff.1 h).1
  unfold pagDrop
  rw [if_pos (by omega), Int.toNat_natCast, getD_at h]

set_option maxHeartbeats 400000 in
theorem refDrop06_any (hq ht hn : Nat) (st : List UInt8) (k : Int) (w : World) (h : RefAt w hq ht hn st) :
    Calls Try.prog 23 #[ptr hq, .int .i64 k] w fun e w' => e = .returned (.int .i64 (pagDrop st k).2) ∧ RefTurn w hq ht hn (pagDrop st k).1 w' := by
  have hc0 := h.obj.cell 0
  have hc1 := h.obj.cell 1
  have hs := h.small
  simp only [List.getElem?_toArray, List.getElem?_cons_zero, List.getElem?_cons_succ] at hc0 hc1
  by_cases hk : 0 ≤ k ∧ k < st.length
  · obtain ⟨j, rfl⟩ := Int.eq_ofNat_of_zero_le hk.1
    have hj : j < st.length := by omega
    have hg : st[j]? = some st[j] := List.getElem?_eq_getElem hj
    have hle := u8_le3 (h.le3 _ (List.getElem_mem hj))
    generalize st[j] = v at hle hg
    have hnw := h.nowAt hg
    have hfz := h.nw.frozen j
    have HU := Lib.hid (pagDrop_at hg)
    have HG := Lib.hid hg
    clear hk hg
    rcases hle with rfl | rfl | rfl | rfl
    · rw [show nowOf 0 = false from rfl] at hnw
      go_enter Try.func23, Try.ntmps23
      unfold ptr
      go_wp2_with fail
      go_ret
      rw [HU.out]
      exact ⟨rfl, RefTurn.none_ h⟩
    · rw [show nowOf 1 = true from rfl] at hnw
      go_enter Try.func23, Try.ntmps23
      unfold ptr
      go_wp2_with fail
      go_ret
      rw [HU.out]
      exact ⟨rfl, RefTurn.now h HG.out (by decide) (by decide) (by decide)⟩
    · rw [show nowOf 2 = true from rfl] at hnw
      go_enter Try.func23, Try.ntmps23
      unfold ptr
      go_wp2_with fail
      go_ret
      rw [HU.out]
      exact ⟨rfl, RefTurn.now h HG.out (by decide) (by decide) (by decide)⟩
    · rw [show nowOf 3 = false from rfl] at hnw
      go_enter Try.func23, Try.ntmps23
      unfold ptr
      go_wp2_with fail
      go_ret
      rw [HU.out]
      exact ⟨rfl, RefTurn.none_ h⟩
  · have HU := Lib.hid (show pagDrop st k = (st, 1) by unfold pagDrop; rw [if_neg hk])
    by_cases h0 : k < 0
    · clear hk
      go_enter Try.func23, Try.ntmps23
      unfold ptr
      go_wp2_with fail
      go_ret
      rw [HU.out]
      exact ⟨rfl, RefTurn.none_ h⟩
    · have h1 : (st.length : Int) ≤ k := by omega
      clear hk
      go_enter Try.func23, Try.ntmps23
      unfold ptr
      go_wp2_with fail
      go_ret
      rw [HU.out]
      exact ⟨rfl, RefTurn.none_ h⟩

set_option maxHeartbeats 400000 in
theorem refSettle06_any (hq ht hn : Nat) (st : List UInt8) (w : World) (h : RefAt w hq ht hn st) :
    Calls Try.prog 24 #[ptr hq] w fun e w' => e = .returned (.tuple #[]) ∧ RefTurn w hq ht hn (st.map setOne) w' := by
  have hc0 := h.obj.cell 0
  have hc1 := h.obj.cell 1
  have hs := h.small
  simp only [List.getElem?_toArray, List.getElem?_cons_zero, List.getElem?_cons_succ] at hc0 hc1
  go_enter Try.func24, Try.ntmps24
  unfold ptr
  go_wp2_with fail
  go_loopw [2] (fun i wr => ∃ j : Nat, j ≤ st.length ∧ i = .int .i64 j ∧ RefAt wr hq ht hn (upTo setOne st j) ∧ w.grownBy wr (some ht)) (fun i _ => st.length - (intOf i).toNat)
  case atStart => exact ⟨0, Nat.zero_le _, rfl, by rw [upTo_zero]; exact h, World.grownBy.refl w _⟩
  case round =>
    clear hc0 hc1
    obtain ⟨j, hj, rfl, hk, hg⟩ := hrel
    have hc0 := hk.obj.cell 0
    have hc1 := hk.obj.cell 1
    simp only [List.getElem?_toArray, List.getElem?_cons_zero, List.getElem?_cons_succ, upTo_length] at hc0 hc1
    by_cases hlt : j < st.length
    · have hv : (upTo setOne st j)[j]? = some st[j] := upTo_at setOne hlt
      have hle := u8_le3 (h.le3 _ (List.getElem_mem hlt))
      have HS := Lib.hid (upTo_succ setOne hlt)
      generalize st[j] = v at hv HS hle
      have hth := hk.thenAt hv
      have hnw := hk.nowAt hv
      have hfz := hk.th.frozen j
      have hj0 : (0 : Int) ≤ (j : Int) := by omega
      have hj1 : (j : Int) < (st.length : Int) := by omega
      have hx : setOne v ≤ 3 ∧ nowOf (setOne v) = nowOf v ∧ thenOf (setOne v) = nowOf v := by
        rcases hle with rfl | rfl | rfl | rfl <;> decide
      have hset := hk.setThen (b := nowOf v) hv hx.1 hx.2.1 hx.2.2
      have T := Lib.hid (And.intro hset (only_setCell (p := ⟨ht, j, none⟩) hg (.inl rfl) (.bool (nowOf v))))
      have hd0 := hset.obj.cell 0
      have hd1 := hset.obj.cell 1
      simp only [List.getElem?_toArray, List.getElem?_cons_zero, List.getElem?_cons_succ, List.length_set, upTo_length] at hd0 hd1
      have hd2 : (wr.setCell ⟨ht, j, none⟩ (.bool (nowOf v))).cell? ⟨hn, j, none⟩ = some (.bool (nowOf v)) := by
        rw [World.cell?_setCell_other _ _ _ _ (by intro he; injection he with he; first | exact h.ne he | exact h.ne he.symm)]; assumption
      have HD := Lib.hid (And.intro hd0 (And.intro hd1 hd2))
      generalize nowOf v = b at hnw T HD
      clear hv hle hx hk hg hset hd0 hd1 hd2
      go_wp2_with fail
      go_region_held3 (fun w' => w'.cell? ⟨hq, 0, none⟩ = some (.slice (some ⟨ht, 0, none⟩) st.length st.length) ∧ w'.cell? ⟨hq, 1, none⟩ = some (.slice (some ⟨hn, 0, none⟩) st.length st.length) ∧ w'.cell? ⟨hn, j, none⟩ = some (.bool b)) (first | exact ⟨hc0, hc1, hnw⟩ | exact HD.out) (fail)
      go_wp2_with fail
      go_roundw
      case rel => exact ⟨j + 1, by omega, by go_num, by rw [HS.out]; exact T.out.1.drew, only_drew T.out.2⟩
      case measure => simp [intOf]; omega
    · obtain rfl : j = st.length := by omega
      rw [upTo_all] at hk
      have HK := Lib.hid (And.intro hk hg)
      clear hk hg
      go_wp2_with fail
      go_end0
      exact ⟨rfl, HK.out.1, _, HK.out.2, World.grownBy.refl _ _⟩

set_option maxHeartbeats 400000 in
theorem refBack06_any (hq ht hn : Nat) (st : List UInt8) (w : World) (h : RefAt w hq ht hn st) :
    Calls Try.prog 25 #[ptr hq] w fun e w' => e = .returned (.tuple #[]) ∧ RefTurn w hq ht hn (st.map backOne) w' := by
  have hc0 := h.obj.cell 0
  have hc1 := h.obj.cell 1
  have hs := h.small
  simp only [List.getElem?_toArray, List.getElem?_cons_zero, List.getElem?_cons_succ] at hc0 hc1
  go_enter Try.func25, Try.ntmps25
  unfold ptr
  go_wp2_with fail
  go_loopw [2] (fun i wr => ∃ j : Nat, j ≤ st.length ∧ i = .int .i64 j ∧ RefAt wr hq ht hn (upTo backOne st j) ∧ w.grownBy wr (some hn)) (fun i _ => st.length - (intOf i).toNat)
  case atStart => exact ⟨0, Nat.zero_le _, rfl, by rw [upTo_zero]; exact h, World.grownBy.refl w _⟩
  case round =>
    clear hc0 hc1
    obtain ⟨j, hj, rfl, hk, hg⟩ := hrel
    have hc0 := hk.obj.cell 0
    have hc1 := hk.obj.cell 1
    simp only [List.getElem?_toArray, List.getElem?_cons_zero, List.getElem?_cons_succ, upTo_length] at hc0 hc1
    by_cases hlt : j < st.length
    · have hv : (upTo backOne st j)[j]? = some st[j] := upTo_at backOne hlt
      have hle := u8_le3 (h.le3 _ (List.getElem_mem hlt))
      have HS := Lib.hid (upTo_succ backOne hlt)
      generalize st[j] = v at hv HS hle
      have hth := hk.thenAt hv
      have hnw := hk.nowAt hv
      have hfz := hk.nw.frozen j
      have hj0 : (0 : Int) ≤ (j : Int) := by omega
      have hj1 : (j : Int) < (st.length : Int) := by omega
      have hx : backOne v ≤ 3 ∧ thenOf (backOne v) = thenOf v ∧ nowOf (backOne v) = thenOf v := by
        rcases hle with rfl | rfl | rfl | rfl <;> decide
      have hset := hk.setNow (b := thenOf v) hv hx.1 hx.2.1 hx.2.2
      have T := Lib.hid (And.intro hset (only_setCell (p := ⟨hn, j, none⟩) hg (.inl rfl) (.bool (thenOf v))))
      have hd0 := hset.obj.cell 0
      have hd1 := hset.obj.cell 1
      simp only [List.getElem?_toArray, List.getElem?_cons_zero, List.getElem?_cons_succ, List.length_set, upTo_length] at hd0 hd1
      have hd2 : (wr.setCell ⟨hn, j, none⟩ (.bool (thenOf v))).cell? ⟨ht, j, none⟩ = some (.bool (thenOf v)) := by
        rw [World.cell?_setCell_other _ _ _ _ (by intro he; injection he with he; first | exact h.ne he | exact h.ne he.symm)]; assumption
      have HD := Lib.hid (And.intro hd0 (And.intro hd1 hd2))
      generalize thenOf v = b at hth T HD
      clear hv hle hx hk hg hset hd0 hd1 hd2
      go_wp2_with fail
      go_region_held3 (fun w' => w'.cell? ⟨hq, 0, none⟩ = some (.slice (some ⟨ht, 0, none⟩) st.length st.length) ∧ w'.cell? ⟨hq, 1, none⟩ = some (.slice (some ⟨hn, 0, none⟩) st.length st.length) ∧ w'.cell? ⟨ht, j, none⟩ = some (.bool b)) (first | exact ⟨hc0, hc1, hth⟩ | exact HD.out) (fail)
      go_wp2_with fail
      go_roundw
      case rel => exact ⟨j + 1, by omega, by go_num, by rw [HS.out]; exact T.out.1.drew, only_drew T.out.2⟩
      case measure => simp [intOf]; omega
    · obtain rfl : j = st.length := by omega
      rw [upTo_all] at hk
      have HK := Lib.hid (And.intro hk hg)
      clear hk hg
      go_wp2_with fail
      go_end0
      exact ⟨rfl, HK.out.1, w, World.grownBy.refl _ _, HK.out.2⟩

/-- New pages of the reference. -/
def RefNew (k : Nat) (w : World) (e : Ending) (w' : World) : Prop :=
  ∃ hq ht hn, e = .returned (.tuple #[ptr hq, .int .i64 0]) ∧ w.heap.size ≤ hq ∧ w.heap.size ≤ ht ∧ w.heap.size ≤ hn ∧ RefAt w' hq ht hn (List.replicate k 0) ∧ Below w.heap.size w w'

theorem refNew06_no (n : Int) (w : World) (h : n < 1 ∨ 4096 < n) :
    Calls Try.prog 20 #[.int .i64 n] w fun e w' => e = .returned (.tuple #[.pointer none, .int .i64 1]) ∧ w = w' := by
  rcases h with h | h
  · go_enter Try.func20, Try.ntmps20
    go_wp2_with fail
    go_ret2
    exact ⟨rfl, rfl⟩
  · have h1 : ¬ n < 1 := by omega
    go_enter Try.func20, Try.ntmps20
    go_wp2_with fail
    go_ret2
    exact ⟨rfl, rfl⟩

theorem refNew_mk (k : Nat) (w : World) (h2 : k ≤ 4096) {ht hn : Nat} (h : (ht = w.heap.size ∧ hn = w.heap.size + 1) ∨ (hn = w.heap.size ∧ ht = w.heap.size + 1)) {w3 : World}
    (he : w3 = ((w.alloc (.cells (boolsA (List.replicate k false)) 4)).alloc (.cells (boolsA (List.replicate k false)) 4)).alloc (.cells #[.slice (some ⟨ht, 0, none⟩) k k, .slice (some ⟨hn, 0, none⟩) k k] 72)) :
    RefAt w3 (w.heap.size + 1 + 1) ht hn (List.replicate k 0) ∧ Below w.heap.size w w3 := by
  subst he
  have e1 : (List.replicate k (0 : UInt8)).map thenOf = List.replicate k false := by rw [List.map_replicate]; rfl
  have e2 : (List.replicate k (0 : UInt8)).map nowOf = List.replicate k false := by rw [List.map_replicate]; rfl
  generalize List.replicate k false = F at e1 e2 ⊢
  have b1 := ((Blk.new w 4 (boolsA F)).alloc (.cells (boolsA F) 4)).alloc (.cells #[.slice (some ⟨ht, 0, none⟩) k k, .slice (some ⟨hn, 0, none⟩) k k] 72)
  have b2 := (Blk.new (w.alloc (.cells (boolsA F) 4)) 4 (boolsA F)).alloc (.cells #[.slice (some ⟨ht, 0, none⟩) k k, .slice (some ⟨hn, 0, none⟩) k k] 72)
  have b3 := Blk.new ((w.alloc (.cells (boolsA F) 4)).alloc (.cells (boolsA F) 4)) 72 #[.slice (some ⟨ht, 0, none⟩) k k, .slice (some ⟨hn, 0, none⟩) k k]
  have z1 : (w.alloc (.cells (boolsA F) 4)).heap.size = w.heap.size + 1 := by simp
  have z2 : ((w.alloc (.cells (boolsA F) 4)).alloc (.cells (boolsA F) 4)).heap.size = w.heap.size + 1 + 1 := by simp
  rw [z1] at b2
  rw [z2] at b3
  refine ⟨⟨by rw [List.length_replicate]; exact b3, ?_, ?_, by omega, by rw [List.length_replicate]; exact h2, fun s hs => by rw [List.mem_replicate] at hs; rw [hs.2]; decide⟩, (((Below.refl _ _).alloc (Nat.le_refl _) _).alloc (by simp) _).alloc (by simp; omega) _⟩
  · rw [e1]
    rcases h with ⟨rfl, rfl⟩ | ⟨rfl, rfl⟩
    · exact b1
    · exact b2
  · rw [e2]
    rcases h with ⟨rfl, rfl⟩ | ⟨rfl, rfl⟩
    · exact b2
    · exact b1

theorem refNew06_yes (k : Nat) (w : World) (h1 : 1 ≤ k) (h2 : k ≤ 4096) :
    Calls Try.prog 20 #[.int .i64 k] w fun e w' => RefNew k w e w' := by
  obtain ⟨i0, hi0, hz0, hz1, hz2⟩ := info_parts infoBool
  have hmk := fun w => run_make_bools (P := Try.prog) (t := 35) (e := 4) Try.underlying35 hi0 hz0 hz1 hz2 k (by omega) w
  go_enter Try.func20, Try.ntmps20
  go_wp2_with fail
  go_region
  all_goals
    go_wp2_with fail
    go_ret2
  · have h := refNew_mk k w h2 (.inl ⟨rfl, rfl⟩) rfl
    exact ⟨_, _, _, rfl, by omega, by omega, by omega, h.1.drew, h.2.drew⟩
  · have h := refNew_mk k w h2 (.inr ⟨rfl, rfl⟩) rfl
    exact ⟨_, _, _, rfl, by omega, by omega, by omega, h.1.drew, h.2.drew⟩

end Go.Proofs.Ytlkbdmbfbmekaaa

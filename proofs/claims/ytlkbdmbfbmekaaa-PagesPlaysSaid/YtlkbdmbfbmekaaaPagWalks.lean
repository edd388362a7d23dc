/-
  The functions of layer 6 (pages), walked: pages are a block with one row of states; each function tells of the states, or turns them, and writes nothing else.
-/
import Derived.Test.YtlkbdmbfbmekaaaProg
import Derived.Test.YtlkbdmbfbmekaaaBase
import Derived.Lib.Hide
namespace Go.Proofs.Ytlkbdmbfbmekaaa
open Go.RowKit Go.Gab
set_option linter.unusedVariables false

/-- Pages as they lie: the one block, and the row of states. -/
structure PagesAt (w : World) (hp hr : Nat) (st : List UInt8) : Prop where
  obj : Blk w hp 69 #[.slice (some ⟨hr, 0, none⟩) st.length st.length]
  row : Blk w hr 70 (bytesA st)
  small : st.length ≤ 4096

def ptr (h : Nat) : Value := .pointer (some ⟨h, 0, none⟩)

set_option maxHeartbeats 400000 in
theorem pagHas_any (hp hr : Nat) (st : List UInt8) (k : Int) (w : World) (h : PagesAt w hp hr st) :
    Calls Try.prog 41 #[ptr hp, .int .i64 k] w fun e w' => e = .returned (.bool (decide (0 ≤ k ∧ k < st.length))) ∧ w = w' := by
  have hc := h.obj.cell 0
  have hs := h.small
  simp only [List.getElem?_toArray, List.getElem?_cons_zero] at hc
  unfold ptr
  by_cases h0 : 0 ≤ k
  · by_cases h1 : k < st.length
    · have hd : decide (0 ≤ k ∧ k < st.length) = true := by simp; omega
      rw [hd]
      clear hd
      go_enter Try.func41, Try.ntmps41
      go_wp2_with fail
      go_ret
      exact ⟨rfl, rfl⟩
    · have hd : decide (0 ≤ k ∧ k < st.length) = false := by simp; omega
      rw [hd]
      clear hd
      go_enter Try.func41, Try.ntmps41
      go_wp2_with fail
      go_ret
      exact ⟨rfl, rfl⟩
  · have hd : decide (0 ≤ k ∧ k < st.length) = false := by simp; omega
    rw [hd]
    clear hd
    go_enter Try.func41, Try.ntmps41
    go_wp2_with fail
    go_ret
    exact ⟨rfl, rfl⟩

theorem PagesAt.ne {w : World} {hp hr : Nat} {st : List UInt8} (h : PagesAt w hp hr st) : hp ≠ hr := h.obj.ne_ h.row (by decide)

/-- One state is turned. -/
theorem PagesAt.set {w : World} {hp hr : Nat} {st : List UInt8} (h : PagesAt w hp hr st) (i : Nat) (v : UInt8) : PagesAt (w.setCell ⟨hr, i, none⟩ (.int .u8 (v.toNat : Int))) hp hr (st.set i v) := by
  refine ⟨?_, h.row.setByte i v, by rw [List.length_set]; exact h.small⟩
  rw [List.length_set]
  exact h.obj.far h.ne _

def pagState (st : List UInt8) (k : Int) : UInt8 := if 0 ≤ k ∧ k < st.length then st.getD k.toNat 0 else 0

def pagMay (st : List UInt8) (k : Int) : Int := if 0 ≤ k ∧ k < st.length then 0 else 1

theorem pagMay_any (hp hr : Nat) (st : List UInt8) (k : Int) (w : World) (h : PagesAt w hp hr st) :
    Calls Try.prog 40 #[ptr hp, .int .i64 k] w fun e w' => e = .returned (.int .i64 (pagMay st k)) ∧ w = w' := by
  by_cases hk : 0 ≤ k ∧ k < st.length
  · have hd : decide (0 ≤ k ∧ k < (st.length : Int)) = true := by simpa using hk
    have HM := Lib.hid (show pagMay st k = 0 by unfold pagMay; rw [if_pos hk])
    clear hk
    go_enter Try.func40, Try.ntmps40
    unfold ptr
    go_wp2_with fail
    refine (pagHas_any hp hr st k _ h).mono ?_
    rintro e w' ⟨rfl, rfl⟩
    rw [hd]
    go_wp2_with fail
    go_ret
    exact ⟨ret_int HM.out.symm, rfl⟩
  · have hd : decide (0 ≤ k ∧ k < (st.length : Int)) = false := by simpa using hk
    have HM := Lib.hid (show pagMay st k = 1 by unfold pagMay; rw [if_neg hk])
    clear hk
    go_enter Try.func40, Try.ntmps40
    unfold ptr
    go_wp2_with fail
    refine (pagHas_any hp hr st k _ h).mono ?_
    rintro e w' ⟨rfl, rfl⟩
    rw [hd]
    go_wp2_with fail
    go_ret
    exact ⟨ret_int HM.out.symm, rfl⟩

theorem pagState_any (hp hr : Nat) (st : List UInt8) (k : Int) (w : World) (h : PagesAt w hp hr st) :
    Calls Try.prog 18 #[ptr hp, .int .i64 k] w fun e w' => e = .returned (.int .u8 ((pagState st k).toNat : Int)) ∧ w = w' := by
  have hc := h.obj.cell 0
  have hs := h.small
  simp only [List.getElem?_toArray, List.getElem?_cons_zero] at hc
  by_cases hk : 0 ≤ k ∧ k < st.length
  · have hd : decide (0 ≤ k ∧ k < (st.length : Int)) = true := by simpa using hk
    have HM := Lib.hid (show pagState st k = st.getD k.toNat 0 by unfold pagState; rw [if_pos hk])
    obtain ⟨j, rfl⟩ := Int.eq_ofNat_of_zero_le hk.1
    have hj : j < st.length := by omega
    have hv := h.row.byte (i := j) (v := st.getD j 0) (by rw [List.getD_eq_getElem?_getD, List.getElem?_eq_getElem hj]; rfl)
    clear hk
    go_enter Try.func18, Try.ntmps18
    unfold ptr
    go_wp2_with fail
    refine (pagHas_any hp hr st j _ h).mono ?_
    rintro e w' ⟨rfl, rfl⟩
    rw [hd]
    go_wp2_with fail
    go_ret
    exact ⟨ret_int (by rw [HM.out, Int.toNat_natCast, List.getD_eq_getElem?_getD, List.getElem?_eq_getElem hj]; rfl), rfl⟩
  · have hd : decide (0 ≤ k ∧ k < (st.length : Int)) = false := by simpa using hk
    have HM := Lib.hid (show pagState st k = 0 by unfold pagState; rw [if_neg hk])
    clear hk
    go_enter Try.func18, Try.ntmps18
    unfold ptr
    go_wp2_with fail
    refine (pagHas_any hp hr st k _ h).mono ?_
    rintro e w' ⟨rfl, rfl⟩
    rw [hd]
    go_wp2_with fail
    go_ret
    exact ⟨ret_int (by rw [HM.out]; rfl), rfl⟩

/-- What the pages are turned to, and nothing else is written but what is new. -/
def PagTurn (w : World) (hp hr : Nat) (st' : List UInt8) (w' : World) : Prop := PagesAt w' hp hr st' ∧ w.grownBy w' (some hr)

theorem PagTurn.none_ {w : World} {hp hr : Nat} {st : List UInt8} (h : PagesAt w hp hr st) : PagTurn w hp hr st w := ⟨h, only_of_below (Below.refl _ _) _⟩

theorem PagTurn.one {w : World} {hp hr : Nat} {st : List UInt8} (h : PagesAt w hp hr st) (i : Nat) (v : UInt8) : PagTurn w hp hr (st.set i v) (w.setCell ⟨hr, i, none⟩ (.int .u8 (v.toNat : Int))) :=
  ⟨h.set i v, only_setCell (only_of_below (Below.refl _ _) _) (.inl rfl) _⟩

def pagUse (st : List UInt8) (k : Int) : List UInt8 × Int :=
  if 0 ≤ k ∧ k < st.length then (if st.getD k.toNat 0 = 0 then (st.set k.toNat 1, 0) else (st, 3)) else (st, 1)

theorem pagUse_any (hp hr : Nat) (st : List UInt8) (k : Int) (w : World) (h : PagesAt w hp hr st) :
    Calls Try.prog 17 #[ptr hp, .int .i64 k] w fun e w' => e = .returned (.int .i64 (pagUse st k).2) ∧ PagTurn w hp hr (pagUse st k).1 w' := by
  have hc := h.obj.cell 0
  have hs := h.small
  simp only [List.getElem?_toArray, List.getElem?_cons_zero] at hc
  by_cases hk : 0 ≤ k ∧ k < st.length
  · have HMy := Lib.hid (show pagMay st k = 0 by unfold pagMay; rw [if_pos hk])
    have HU := Lib.hid (show pagUse st k = if st.getD k.toNat 0 = 0 then (st.set k.toNat 1, 0) else (st, 3) by unfold pagUse; rw [if_pos hk])
    obtain ⟨j, rfl⟩ := Int.eq_ofNat_of_zero_le hk.1
    have hj : j < st.length := by omega
    have hv := h.row.byte (i := j) (v := st.getD j 0) (by rw [List.getD_eq_getElem?_getD, List.getElem?_eq_getElem hj]; rfl)
    have hfz := h.row.frozen j
    rw [Int.toNat_natCast] at HU
    generalize st.getD j 0 = v at hv HU
    clear hk
    by_cases h0 : v = 0
    · subst h0
      rw [if_pos rfl] at HU
      go_enter Try.func17, Try.ntmps17
      unfold ptr
      go_wp2_with fail
      refine (pagMay_any hp hr st j _ h).mono ?_
      rintro e w' ⟨rfl, rfl⟩
      rw [HMy.out]
      go_wp2_with fail
      go_ret
      rw [HU.out]
      exact ⟨rfl, PagTurn.one h j 1⟩
    · rw [if_neg h0] at HU
      have hv0 : ¬ v.toNat = 0 := fun h1 => h0 (UInt8.toNat_inj.1 h1)
      go_enter Try.func17, Try.ntmps17
      unfold ptr
      go_wp2_with fail
      refine (pagMay_any hp hr st j _ h).mono ?_
      rintro e w' ⟨rfl, rfl⟩
      rw [HMy.out]
      go_wp2_with fail
      go_ret
      rw [HU.out]
      exact ⟨rfl, PagTurn.none_ h⟩
  · have HMy := Lib.hid (show pagMay st k = 1 by unfold pagMay; rw [if_neg hk])
    have HU := Lib.hid (show pagUse st k = (st, 1) by unfold pagUse; rw [if_neg hk])
    clear hk
    go_enter Try.func17, Try.ntmps17
    unfold ptr
    go_wp2_with fail
    refine (pagMay_any hp hr st k _ h).mono ?_
    rintro e w' ⟨rfl, rfl⟩
    rw [HMy.out]
    go_wp2_with fail
    go_ret
    rw [HU.out]
    exact ⟨rfl, PagTurn.none_ h⟩

def pagDrop (st : List UInt8) (k : Int) : List UInt8 × Int :=
  if 0 ≤ k ∧ k < st.length then (if st.getD k.toNat 0 = 1 then (st.set k.toNat 3, 0) else if st.getD k.toNat 0 = 2 then (st.set k.toNat 0, 0) else (st, 3)) else (st, 1)

theorem pagDrop_any (hp hr : Nat) (st : List UInt8) (k : Int) (w : World) (h : PagesAt w hp hr st) :
    Calls Try.prog 15 #[ptr hp, .int .i64 k] w fun e w' => e = .returned (.int .i64 (pagDrop st k).2) ∧ PagTurn w hp hr (pagDrop st k).1 w' := by
  have hc := h.obj.cell 0
  have hs := h.small
  simp only [List.getElem?_toArray, List.getElem?_cons_zero] at hc
  by_cases hk : 0 ≤ k ∧ k < st.length
  · have HMy := Lib.hid (show pagMay st k = 0 by unfold pagMay; rw [if_pos hk])
    have HU := Lib.hid (show pagDrop st k = if st.getD k.toNat 0 = 1 then (st.set k.toNat 3, 0) else if st.getD k.toNat 0 = 2 then (st.set k.toNat 0, 0) else (st, 3) by unfold pagDrop; rw [if_pos hk])
    obtain ⟨j, rfl⟩ := Int.eq_ofNat_of_zero_le hk.1
    have hj : j < st.length := by omega
    have hv := h.row.byte (i := j) (v := st.getD j 0) (by rw [List.getD_eq_getElem?_getD, List.getElem?_eq_getElem hj]; rfl)
    have hfz := h.row.frozen j
    rw [Int.toNat_natCast] at HU
    generalize st.getD j 0 = v at hv HU
    clear hk
    by_cases h1 : v = 1
    · subst h1
      rw [if_pos rfl] at HU
      go_enter Try.func15, Try.ntmps15
      unfold ptr
      go_wp2_with fail
      refine (pagMay_any hp hr st j _ h).mono ?_
      rintro e w' ⟨rfl, rfl⟩
      rw [HMy.out]
      go_wp2_with fail
      go_ret
      rw [HU.out]
      exact ⟨rfl, PagTurn.one h j 3⟩
    · rw [if_neg h1] at HU
      have hv1 : ¬ v.toNat = 1 := fun h2 => h1 (UInt8.toNat_inj.1 h2)
      by_cases h2 : v = 2
      · subst h2
        rw [if_pos rfl] at HU
        go_enter Try.func15, Try.ntmps15
        unfold ptr
        go_wp2_with fail
        refine (pagMay_any hp hr st j _ h).mono ?_
        rintro e w' ⟨rfl, rfl⟩
        rw [HMy.out]
        go_wp2_with fail
        go_ret
        rw [HU.out]
        exact ⟨rfl, PagTurn.one h j 0⟩
      · rw [if_neg h2] at HU
        have hv2 : ¬ v.toNat = 2 := fun h3 => h2 (UInt8.toNat_inj.1 h3)
        go_enter Try.func15, Try.ntmps15
        unfold ptr
        go_wp2_with fail
        refine (pagMay_any hp hr st j _ h).mono ?_
        rintro e w' ⟨rfl, rfl⟩
        rw [HMy.out]
        go_wp2_with fail
        go_ret
        rw [HU.out]
        exact ⟨rfl, PagTurn.none_ h⟩
  · have HMy := Lib.hid (show pagMay st k = 1 by unfold pagMay; rw [if_neg hk])
    have HU := Lib.hid (show pagDrop st k = (st, 1) by unfold pagDrop; rw [if_neg hk])
    clear hk
    go_enter Try.func15, Try.ntmps15
    unfold ptr
    go_wp2_with fail
    refine (pagMay_any hp hr st k _ h).mono ?_
    rintro e w' ⟨rfl, rfl⟩
    rw [HMy.out]
    go_wp2_with fail
    go_ret
    rw [HU.out]
    exact ⟨rfl, PagTurn.none_ h⟩

/-- The least free page, from a place on. -/
def pagLeast (st : List UInt8) : Option Nat := st.findIdx? (· == 0)

def pagTake (st : List UInt8) : List UInt8 × Int × Int :=
  match pagLeast st with
  | some k => (st.set k 2, (k : Int), 0)
  | none => (st, 0, 7)

theorem pagLeast_at {st : List UInt8} {j : Nat} (hj : j < st.length) (h0 : st.getD j 0 = 0) (hb : ∀ i, i < j → st.getD i 0 ≠ 0) : pagLeast st = some j := by
  unfold pagLeast
  rw [List.findIdx?_eq_some_iff_getElem]
  refine ⟨hj, ?_, fun i hi => ?_⟩
  · rw [List.getD_eq_getElem?_getD, List.getElem?_eq_getElem hj] at h0
    simpa using h0
  · have := hb i hi
    rw [List.getD_eq_getElem?_getD, List.getElem?_eq_getElem (by omega)] at this
    simpa using this

theorem pagLeast_none {st : List UInt8} (hb : ∀ i, i < st.length → st.getD i 0 ≠ 0) : pagLeast st = none := by
  unfold pagLeast
  rw [List.findIdx?_eq_none_iff]
  intro v hv
  obtain ⟨i, hi, rfl⟩ := List.mem_iff_getElem.1 hv
  have := hb i hi
  rw [List.getD_eq_getElem?_getD, List.getElem?_eq_getElem hi] at this
  simpa using this

def pairI (a b : Int) : Value := .tuple #[.int .i64 a, .int .i64 b]

set_option maxHeartbeats 400000 in
theorem pagTake_any (hp hr : Nat) (st : List UInt8) (w : World) (h : PagesAt w hp hr st) :
    Calls Try.prog 12 #[ptr hp] w fun e w' => e = .returned (pairI (pagTake st).2.1 (pagTake st).2.2) ∧ PagTurn w hp hr (pagTake st).1 w' := by
  have hc := h.obj.cell 0
  have hs := h.small
  simp only [List.getElem?_toArray, List.getElem?_cons_zero] at hc
  go_enter Try.func12, Try.ntmps12
  unfold ptr
  go_wp2_with fail
  go_loop [13] (fun i => ∃ j : Nat, j ≤ st.length ∧ i = .int .i64 j ∧ ∀ i, i < j → st.getD i 0 ≠ 0) (fun i => st.length - (intOf i).toNat)
  case atStart => exact ⟨0, Nat.zero_le _, rfl, fun i hi => absurd hi (by omega)⟩
  case round =>
    obtain ⟨j, hj, rfl, hb⟩ := hrel
    have HB := Lib.hid hb
    clear hb
    by_cases hlt : j < st.length
    · have hv := h.row.byte (i := j) (v := st.getD j 0) (by rw [List.getD_eq_getElem?_getD, List.getElem?_eq_getElem hlt]; rfl)
      have hfz := h.row.frozen j
      obtain ⟨v, hvd⟩ : ∃ v, st.getD j 0 = v := ⟨_, rfl⟩
      rw [hvd] at hv
      have HV := Lib.hid hvd
      clear hvd
      by_cases h0 : v = 0
      · subst h0
        have HT := Lib.hid (show pagTake st = (st.set j 2, (j : Int), 0) by unfold pagTake; rw [pagLeast_at hlt HV.out HB.out])
        go_wp2_with fail
        go_ret2
        rw [HT.out]
        exact ⟨rfl, PagTurn.one h j 2⟩
      · have hv0 : ¬ v.toNat = 0 := fun h1 => h0 (UInt8.toNat_inj.1 h1)
        go_wp2_with fail
        go_round
        case rel =>
          refine ⟨j + 1, by omega, by go_num, fun i hi => ?_⟩
          by_cases hij : i = j
          · subst hij; rw [HV.out]; exact h0
          · exact HB.out i (by omega)
        case measure => simp [intOf]; omega
    · obtain rfl : j = st.length := by omega
      have HT := Lib.hid (show pagTake st = (st, 0, 7) by unfold pagTake; rw [pagLeast_none HB.out])
      go_wp2_with fail
      go_ret2
      rw [HT.out]
      exact ⟨rfl, PagTurn.none_ h⟩

def setOne (s : UInt8) : UInt8 := if s = 2 then 1 else if s = 3 then 0 else s
def backOne (s : UInt8) : UInt8 := if s = 2 then 0 else if s = 3 then 1 else s

/-- The first j states turned by f. -/
def upTo (f : UInt8 → UInt8) (st : List UInt8) (j : Nat) : List UInt8 := (st.take j).map f ++ st.drop j

theorem upTo_length (f : UInt8 → UInt8) (st : List UInt8) (j : Nat) : (upTo f st j).length = st.length := by
  unfold upTo; simp; omega
theorem upTo_zero (f : UInt8 → UInt8) (st : List UInt8) : upTo f st 0 = st := by simp [upTo]
theorem upTo_all (f : UInt8 → UInt8) (st : List UInt8) : upTo f st st.length = st.map f := by simp [upTo]
theorem upTo_at (f : UInt8 → UInt8) {st : List UInt8} {j : Nat} (hj : j < st.length) : (upTo f st j)[j]? = some (st[j]) := by
  unfold upTo
  have hl : ((st.take j).map f).length = j := by rw [List.length_map, List.length_take]; omega
  rw [List.getElem?_append_right (by omega), List.getElem?_drop]
  have : j + (j - ((st.take j).map f).length) = j := by omega
  rw [this, List.getElem?_eq_getElem hj]
theorem upTo_succ (f : UInt8 → UInt8) {st : List UInt8} {j : Nat} (hj : j < st.length) : upTo f st (j + 1) = (upTo f st j).set j (f st[j]) := by
  unfold upTo
  have hl : ((st.take j).map f).length = j := by rw [List.length_map, List.length_take]; omega
  rw [List.set_append_right _ _ (by omega)]
  have : j - ((st.take j).map f).length = 0 := by omega
  rw [this, List.drop_eq_getElem_cons hj, List.set_cons_zero, List.take_succ_eq_append_getElem hj, List.map_append, List.append_assoc]
  rfl
theorem upTo_same (f : UInt8 → UInt8) {st : List UInt8} {j : Nat} (hj : j < st.length) (h : f st[j] = st[j]) : upTo f st (j + 1) = upTo f st j := by
  rw [upTo_succ f hj, h]
  have := upTo_at f hj
  apply List.ext_getElem?
  intro i
  by_cases hi : i = j
  · subst hi; rw [List.getElem?_set_self (by rw [upTo_length]; exact hj), this]
  · rw [List.getElem?_set_ne (by omega)]

set_option maxHeartbeats 400000 in
theorem pagSettle_any (hp hr : Nat) (st : List UInt8) (w : World) (h : PagesAt w hp hr st) :
    Calls Try.prog 14 #[ptr hp] w fun e w' => e = .returned (.int .i64 0) ∧ PagTurn w hp hr (st.map setOne) w' := by
  have hc := h.obj.cell 0
  have hs := h.small
  simp only [List.getElem?_toArray, List.getElem?_cons_zero] at hc
  go_enter Try.func14, Try.ntmps14
  unfold ptr
  go_wp2_with fail
  go_loopw [12] (fun i wr => ∃ j : Nat, j ≤ st.length ∧ i = .int .i64 j ∧ PagTurn w hp hr (upTo setOne st j) wr) (fun i _ => st.length - (intOf i).toNat)
  case atStart => exact ⟨0, Nat.zero_le _, rfl, by rw [upTo_zero]; exact PagTurn.none_ h⟩
  case round =>
    obtain ⟨j, hj, rfl, hk, hg⟩ := hrel
    by_cases hlt : j < st.length
    · have hc2 := hk.obj.cell 0
      simp only [List.getElem?_toArray, List.getElem?_cons_zero, upTo_length] at hc2
      have hv := hk.row.byte (i := j) (v := st[j]) (upTo_at setOne hlt)
      have hfz := hk.row.frozen j
      have HK := Lib.hid hk
      have HG := Lib.hid hg
      obtain ⟨v, hvd⟩ : ∃ v, st[j] = v := ⟨_, rfl⟩
      rw [hvd] at hv
      have HV := Lib.hid hvd
      clear hvd hk hg hc
      by_cases h2 : v = 2
      · subst h2
        go_wp2_with fail
        go_roundw
        case rel =>
          refine ⟨j + 1, by omega, by go_num, ?_⟩
          rw [upTo_succ _ hlt, HV.out]
          exact ⟨HK.out.set j 1, only_setCell HG.out (.inl rfl) _⟩
        case measure => simp [intOf]; omega
      · have hv2 : ¬ v.toNat = 2 := fun h1 => h2 (UInt8.toNat_inj.1 h1)
        by_cases h3 : v = 3
        · subst h3
          go_wp2_with fail
          go_roundw
          case rel =>
            refine ⟨j + 1, by omega, by go_num, ?_⟩
            rw [upTo_succ _ hlt, HV.out]
            exact ⟨HK.out.set j 0, only_setCell HG.out (.inl rfl) _⟩
          case measure => simp [intOf]; omega
        · have hv3 : ¬ v.toNat = 3 := fun h1 => h3 (UInt8.toNat_inj.1 h1)
          go_wp2_with fail
          go_roundw
          case rel =>
            refine ⟨j + 1, by omega, by go_num, ?_⟩
            rw [upTo_same _ hlt (by rw [HV.out]; unfold setOne; rw [if_neg h2, if_neg h3])]
            exact ⟨HK.out, HG.out⟩
          case measure => simp [intOf]; omega
    · obtain rfl : j = st.length := by omega
      rw [upTo_all] at hk
      have HK := Lib.hid (And.intro hk hg)
      clear hk hg
      go_wp2_with fail
      go_ret
      exact ⟨rfl, HK.out⟩

set_option maxHeartbeats 400000 in
theorem pagBack_any (hp hr : Nat) (st : List UInt8) (w : World) (h : PagesAt w hp hr st) :
    Calls Try.prog 19 #[ptr hp] w fun e w' => e = .returned (.int .i64 0) ∧ PagTurn w hp hr (st.map backOne) w' := by
  have hc := h.obj.cell 0
  have hs := h.small
  simp only [List.getElem?_toArray, List.getElem?_cons_zero] at hc
  go_enter Try.func19, Try.ntmps19
  unfold ptr
  go_wp2_with fail
  go_loopw [12] (fun i wr => ∃ j : Nat, j ≤ st.length ∧ i = .int .i64 j ∧ PagTurn w hp hr (upTo backOne st j) wr) (fun i _ => st.length - (intOf i).toNat)
  case atStart => exact ⟨0, Nat.zero_le _, rfl, by rw [upTo_zero]; exact PagTurn.none_ h⟩
  case round =>
    obtain ⟨j, hj, rfl, hk, hg⟩ := hrel
    by_cases hlt : j < st.length
    · have hc2 := hk.obj.cell 0
      simp only [List.getElem?_toArray, List.getElem?_cons_zero, upTo_length] at hc2
      have hv := hk.row.byte (i := j) (v := st[j]) (upTo_at backOne hlt)
      have hfz := hk.row.frozen j
      have HK := Lib.hid hk
      have HG := Lib.hid hg
      obtain ⟨v, hvd⟩ : ∃ v, st[j] = v := ⟨_, rfl⟩
      rw [hvd] at hv
      have HV := Lib.hid hvd
      clear hvd hk hg hc
      by_cases h2 : v = 2
      · subst h2
        go_wp2_with fail
        go_roundw
        case rel =>
          refine ⟨j + 1, by omega, by go_num, ?_⟩
          rw [upTo_succ _ hlt, HV.out]
          exact ⟨HK.out.set j 0, only_setCell HG.out (.inl rfl) _⟩
        case measure => simp [intOf]; omega
      · have hv2 : ¬ v.toNat = 2 := fun h1 => h2 (UInt8.toNat_inj.1 h1)
        by_cases h3 : v = 3
        · subst h3
          go_wp2_with fail
          go_roundw
          case rel =>
            refine ⟨j + 1, by omega, by go_num, ?_⟩
            rw [upTo_succ _ hlt, HV.out]
            exact ⟨HK.out.set j 1, only_setCell HG.out (.inl rfl) _⟩
          case measure => simp [intOf]; omega
        · have hv3 : ¬ v.toNat = 3 := fun h1 => h3 (UInt8.toNat_inj.1 h1)
          go_wp2_with fail
          go_roundw
          case rel =>
            refine ⟨j + 1, by omega, by go_num, ?_⟩
            rw [upTo_same _ hlt (by rw [HV.out]; unfold backOne; rw [if_neg h2, if_neg h3])]
            exact ⟨HK.out, HG.out⟩
          case measure => simp [intOf]; omega
    · obtain rfl : j = st.length := by omega
      rw [upTo_all] at hk
      have HK := Lib.hid (And.intro hk hg)
      clear hk hg
      go_wp2_with fail
      go_ret
      exact ⟨rfl, HK.out⟩

end Go.Proofs.Ytlkbdmbfbmekaaa

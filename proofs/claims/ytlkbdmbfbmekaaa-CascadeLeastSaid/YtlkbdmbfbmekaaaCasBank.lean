/-
  Layer 31 (cascade): the object of banks in memory; what is handed in looked at, walked.
-/
import Derived.Test.YtlkbdmbfbmekaaaCasSmall
import Derived.Deep.RegionHeld3
import Derived.StillTailTactics
import Derived.Deep.DrawnRows
import Derived.Deep.MidRow
namespace Go.Proofs.Ytlkbdmbfbmekaaa
open Go.RowKit Go.Gab
set_option linter.unusedVariables false
attribute [local go_sem ↓] Go.wp_at_zero Go.wp_at_succ

/-- The cells of an object of banks: the accounts, what they owe each other, who failed. -/
def bankC (v : Value) (o : Nat → Nat → Int) (d : Nat → Bool) : Array Value :=
  (v :: ((List.range 256).map (fun i => Value.int .i64 (o (i / 16) (i % 16))) ++ (List.range 16).map fun k => Value.bool (d k))).toArray

section
variable (v : Value) (o : Nat → Nat → Int) (d : Nat → Bool)
theorem bank_v : (bankC v o d)[0]? = some v := rfl
theorem bank_o {i j : Nat} (hi : i < 16) (hj : j < 16) : (bankC v o d)[1 + i * 16 + j]? = some (.int .i64 (o i j)) := by
  unfold bankC
  rw [List.getElem?_toArray, show 1 + i * 16 + j = (i * 16 + j) + 1 by omega, List.getElem?_cons_succ, List.getElem?_append_left (by rw [List.length_map, List.length_range]; omega), List.getElem?_map, List.getElem?_range (by omega)]
  simp only [Option.map_some]
  rw [show (i * 16 + j) / 16 = i by omega, show (i * 16 + j) % 16 = j by omega]
theorem bank_d {k : Nat} (hk : k < 16) : (bankC v o d)[257 + k]? = some (.bool (d k)) := by
  unfold bankC
  rw [List.getElem?_toArray, show 257 + k = (256 + k) + 1 by omega, List.getElem?_cons_succ, List.getElem?_append_right (by rw [List.length_map, List.length_range]; omega), List.length_map, List.length_range, show 256 + k - 256 = k by omega, List.getElem?_map, List.getElem?_range hk]
  rfl
theorem bank_size : (bankC v o d).size = 273 := by
  unfold bankC
  simp
/-- A number and a mark, written. -/
def updO (o : Nat → Nat → Int) (i j : Nat) (x : Int) : Nat → Nat → Int := fun a b => if a = i ∧ b = j then x else o a b
def updD (d : Nat → Bool) (k : Nat) (x : Bool) : Nat → Bool := fun a => if a = k then x else d a
theorem bank_get (n : Nat) : (bankC v o d)[n]? = if n = 0 then some v else if n < 257 then some (.int .i64 (o ((n - 1) / 16) ((n - 1) % 16))) else if n < 273 then some (.bool (d (n - 257))) else none := by
  by_cases h0 : n = 0
  · subst h0; rfl
  rw [if_neg h0]
  by_cases h1 : n < 257
  · rw [if_pos h1]
    have := bank_o v o d (i := (n - 1) / 16) (j := (n - 1) % 16) (by omega) (by omega)
    rw [show 1 + (n - 1) / 16 * 16 + (n - 1) % 16 = n by omega] at this
    exact this
  rw [if_neg h1]
  by_cases h2 : n < 273
  · rw [if_pos h2]
    have := bank_d v o d (k := n - 257) (by omega)
    rw [show 257 + (n - 257) = n by omega] at this
    exact this
  · rw [if_neg h2]
    exact Array.getElem?_eq_none (by rw [bank_size]; omega)
theorem bank_setO {i j : Nat} (hi : i < 16) (hj : j < 16) (x : Int) : (bankC v o d).setIfInBounds (1 + i * 16 + j) (.int .i64 x) = bankC v (updO o i j x) d := by
  apply Array.ext_getElem?
  intro n
  rw [Array.getElem?_setIfInBounds, bank_get, bank_get, bank_size]
  by_cases h : 1 + i * 16 + j = n
  · subst h
    rw [if_pos rfl, if_pos (by omega), if_neg (by omega), if_pos (by omega)]
    unfold updO
    rw [if_pos (by omega)]
  · rw [if_neg h]
    split
    · rfl
    · split
      · unfold updO
        rw [if_neg (by omega)]
      · rfl
theorem bank_setD {k : Nat} (hk : k < 16) (x : Bool) : (bankC v o d).setIfInBounds (257 + k) (.bool x) = bankC v o (updD d k x) := by
  apply Array.ext_getElem?
  intro n
  rw [Array.getElem?_setIfInBounds, bank_get, bank_get, bank_size]
  by_cases h : 257 + k = n
  · subst h
    rw [if_pos rfl, if_pos (by omega), if_neg (by omega), if_neg (by omega), if_pos (by omega)]
    unfold updD
    rw [if_pos (by omega)]
  · rw [if_neg h]
    split
    · rfl
    · split
      · rfl
      · split
        · unfold updD
          rw [if_neg (by omega)]
        · rfl
end

/-- Nothing is owed, and none has failed. -/
def owe0 : Nat → Nat → Int := fun _ _ => 0

/-- What begin answers. -/
def BeginTo (w : World) (A : Option Addr) (n c : Nat) (bals : List Int) (l : List Cas.Due) (first : List Int) (e : Ending) (w' : World) : Prop :=
  (∃ p, e = .returned (.tuple #[.pointer p, .int .i64 (Cas.errs bals l first)]) ∧ (Cas.errs bals l first = 0 → ∃ g, p = some ⟨g, 0, none⟩ ∧ w.heap.size ≤ g ∧ Blk w' g 84 (bankC (.slice A n c) (Cas.own l) Cas.none_))) ∧ Below w.heap.size w w'

theorem zero_bank (v : Value) : Try.zeroCells84.setIfInBounds 0 v = bankC v owe0 Cas.none_ := by kernel_rfl
theorem own_none : Cas.own [] = owe0 := by funext i j; rfl
theorem own_take {l : List Cas.Due} {j : Nat} {d : Cas.Due} (h : l[j]? = some d) {f t : Nat} (hf : d.frm = (f : Int)) (ht : d.to = (t : Int)) :
    updO (Cas.own (l.take j)) f t (Cas.own (l.take j) f t + d.amt) = Cas.own (l.take (j + 1)) := by
  rw [take_succ_of h]
  funext a b
  rw [Cas.own_snoc]
  unfold updO
  by_cases e : a = f ∧ b = t
  · obtain ⟨rfl, rfl⟩ := e
    rw [if_pos ⟨rfl, rfl⟩, if_pos ⟨hf, ht⟩]
  · rw [if_neg e, if_neg (by rw [hf, ht]; omega)]
    omega
theorem gross_take {l : List Cas.Due} {j : Nat} {d : Cas.Due} (h : l[j]? = some d) : Cas.gross (l.take (j + 1)) = Cas.gross (l.take j) + d.amt := by
  rw [take_succ_of h, Cas.gross_snoc]
theorem gross_part {l : List Cas.Due} (h : ∀ d ∈ l, Cas.fine d = true) (j : Nat) : Cas.gross (l.take j) ≤ Cas.gross l := by
  have e : Cas.gross l = Cas.gross (l.take j) + Cas.gross (l.drop j) := by
    conv => lhs; rw [← List.take_append_drop j l]
    unfold Cas.gross
    rw [List.map_append, List.sum_append]
  have := Cas.gross_nonneg (l := l.drop j) (fun d hd => (Cas.fine_iff (h d (List.mem_of_mem_drop hd))).2.2.2.2.2.1)
  omega

theorem BeginTo.no {w w' : World} {A : Option Addr} {n c : Nat} {bals : List Int} {l : List Cas.Due} {first : List Int} {z : Int} (hb : Below w.heap.size w w') (hz : Cas.errs bals l first = z) (hne : z ≠ 0) :
    BeginTo w A n c bals l first (.returned (.tuple #[.pointer none, .int .i64 z])) w' := by
  refine ⟨⟨none, by rw [hz], fun h => ?_⟩, hb⟩
  rw [hz] at h
  exact absurd h hne

set_option maxHeartbeats 4000000 in
set_option maxRecDepth 20000 in
theorem begin_any (B : Nat) (A : Option Addr) (n c : Nat) (xs : List AcctT) (A1 : Option Addr) (n1 c1 : Nat) (ys : List DueT) (A2 : Option Addr) (n2 c2 : Nat) (zs : List Int) (w : World) (hB : B ≤ w.heap.size)
    (hr : SlR acctR w B A n c xs) (hr1 : SlR dueR w B A1 n1 c1 ys) (hr2 : SlI w B A2 n2 c2 zs) :
    Calls Try.prog 42 #[.slice A n c, .slice A1 n1 c1, .slice A2 n2 c2] w (BeginTo w A n c (xs.map bal) (ys.map due) zs) := by
  have hnc := hr.nc
  have hcm := hr.cm
  have hnc1 := hr1.nc
  have hcm1 := hr1.cm
  have hnc2 := hr2.nc
  have hcm2 := hr2.cm
  have HLN := Lib.hid (show (xs.map bal).length = n by rw [List.length_map, hr.len])
  have HLN1 := Lib.hid (show (ys.map due).length = n1 by rw [List.length_map, hr1.len])
  have HLN2 := Lib.hid hr2.len
  by_cases h1 : (16 : Int) < n
  · have HE := Lib.hid (show Cas.errs (xs.map bal) (ys.map due) zs = 6 by unfold Cas.errs; rw [if_pos (by rw [HLN.out]; omega)])
    go_enter Try.func42, Try.ntmps42
    go_wp2_with fail
    go_ret2
    exact BeginTo.no ((Below.refl _ _).alloc (Nat.le_refl _) _) HE.out (by decide)
  by_cases h2 : (64 : Int) < n1
  · have HE := Lib.hid (show Cas.errs (xs.map bal) (ys.map due) zs = 6 by unfold Cas.errs; rw [if_neg (by rw [HLN.out]; omega), if_pos (by rw [HLN1.out]; omega)])
    go_enter Try.func42, Try.ntmps42
    go_wp2_with fail
    go_ret2
    exact BeginTo.no ((Below.refl _ _).alloc (Nat.le_refl _) _) HE.out (by decide)
  by_cases h3 : (16 : Int) < n2
  · have HE := Lib.hid (show Cas.errs (xs.map bal) (ys.map due) zs = 1 by unfold Cas.errs; rw [if_neg (by rw [HLN.out]; omega), if_neg (by rw [HLN1.out]; omega), if_pos (by rw [HLN2.out]; omega)])
    go_enter Try.func42, Try.ntmps42
    go_wp2_with fail
    go_ret2
    exact BeginTo.no ((Below.refl _ _).alloc (Nat.le_refl _) _) HE.out (by decide)
  have hn : (n : Int) ≤ 16 := by omega
  have hn1 : (n1 : Int) ≤ 64 := by omega
  have hn2 : (n2 : Int) ≤ 16 := by omega
  clear h1 h2 h3
  have HE := Lib.hid (show Cas.errs (xs.map bal) (ys.map due) zs = if (xs.map bal).any Cas.badBal then 1 else if (ys.map due).any Cas.bad then 1 else if zs.any (Cas.noBank n) then 10 else if (ys.map due).any (Cas.farDue n) then 10 else if Cas.most < Cas.gross (ys.map due) then 13 else 0 by
    unfold Cas.errs
    rw [if_neg (by rw [HLN.out]; omega), if_neg (by rw [HLN1.out]; omega), if_neg (by rw [HLN2.out]; omega), HLN.out])
  go_enter Try.func42, Try.ntmps42
  go_wp2_with fail
  have hbx := Blk.new w 45 #[.slice A n c]
  have l0 : Below w.heap.size w (w.alloc (.cells #[.slice A n c] 45)) := (Below.refl _ _).alloc (Nat.le_refl _) _
  generalize w.alloc (.cells #[.slice A n c] 45) = W at hbx l0 ⊢
  obtain ⟨g, hg⟩ : ∃ g, g = w.heap.size := ⟨_, rfl⟩
  rw [← hg] at hbx ⊢
  have HGG := Lib.hid (show w.heap.size ≤ g by omega)
  have HBX := Lib.hid hbx
  have HL0 := Lib.hid l0
  have HR := Lib.hid hr
  have HR1 := Lib.hid hr1
  have HR2 := Lib.hid hr2
  clear hg hbx l0 hr hr1 hr2
  refine (containsAcct_any B A n c xs _ (HR.out.below HL0.out hB) (by have := HL0.out.size; omega)).mono ?_
  rintro e w1 ⟨rfl, hb1⟩
  have HB1 := Lib.hid (HL0.out.trans (hb1.mono HL0.out.size))
  have HX1 := Lib.hid (HBX.out.below hb1 HBX.out.lt)
  clear hb1
  cases hp4 : (xs.map bal).any Cas.badBal with
  | true =>
    have HE1 := Lib.hid (show Cas.errs (xs.map bal) (ys.map due) zs = 1 by rw [HE.out, if_pos hp4])
    clear hp4
    go_wp2_with fail
    go_ret2
    exact BeginTo.no HB1.out HE1.out (by decide)
  | false =>
  have HE4 := Lib.hid (HE.out.trans (if_neg (by rw [hp4]; decide)))
  clear hp4
  go_wp2_with fail
  refine (containsFine_any B A1 n1 c1 ys _ (HR1.out.below HB1.out hB) (by have := HB1.out.size; omega)).mono ?_
  rintro e w2 ⟨rfl, hb2⟩
  have HB2 := Lib.hid (HB1.out.trans (hb2.mono HB1.out.size))
  have HX2 := Lib.hid (HX1.out.below hb2 HX1.out.lt)
  clear hb2 HX1
  cases hp5 : (ys.map due).any Cas.bad with
  | true =>
    have HE1 := Lib.hid (show Cas.errs (xs.map bal) (ys.map due) zs = 1 by rw [HE4.out, if_pos hp5])
    clear hp5
    go_wp2_with fail
    go_ret2
    exact BeginTo.no HB2.out HE1.out (by decide)
  | false =>
  have HE5 := Lib.hid (HE4.out.trans (if_neg (by rw [hp5]; decide)))
  have HFine := Lib.hid (show ∀ d ∈ ys.map due, Cas.fine d = true from fun d hd => by
    rw [List.any_eq_false] at hp5
    have := hp5 d hd
    unfold Cas.bad at this
    simpa using this)
  clear hp5
  go_wp2_with fail
  refine (containsBank_any B A2 n2 c2 zs g A n c _ (HR2.out.below HB2.out hB) (by have := HB2.out.size; omega) (HX2.out.cell 0) HX2.out.lt).mono ?_
  rintro e w3 ⟨rfl, hb3⟩
  have HB3 := Lib.hid (HB2.out.trans (hb3.mono HB2.out.size))
  have HX3 := Lib.hid (HX2.out.below hb3 HX2.out.lt)
  clear hb3 HX2
  cases hp6 : zs.any (Cas.noBank n) with
  | true =>
    have HE1 := Lib.hid (show Cas.errs (xs.map bal) (ys.map due) zs = 10 by rw [HE5.out, if_pos hp6])
    clear hp6
    go_wp2_with fail
    go_ret2
    exact BeginTo.no HB3.out HE1.out (by decide)
  | false =>
  have HE6 := Lib.hid (HE5.out.trans (if_neg (by rw [hp6]; decide)))
  clear hp6
  go_wp2_with fail
  refine (containsFar_any B A1 n1 c1 ys g A n c _ (HR1.out.below HB3.out hB) (by have := HB3.out.size; omega) (HX3.out.cell 0) HX3.out.lt).mono ?_
  rintro e w4 ⟨rfl, hb4⟩
  have HB4 := Lib.hid (HB3.out.trans (hb4.mono HB3.out.size))
  have HX4 := Lib.hid (HX3.out.below hb4 HX3.out.lt)
  clear hb4 HX3
  cases hp7 : (ys.map due).any (Cas.farDue n) with
  | true =>
    have HE1 := Lib.hid (show Cas.errs (xs.map bal) (ys.map due) zs = 10 by rw [HE6.out, if_pos hp7])
    clear hp7
    go_wp2_with fail
    go_ret2
    exact BeginTo.no HB4.out HE1.out (by decide)
  | false =>
  have HE7 := Lib.hid (HE6.out.trans (if_neg (by rw [hp7]; decide)))
  have HFar := Lib.hid (show ∀ d ∈ ys.map due, d.frm < (n : Int) ∧ d.to < (n : Int) from fun d hd => by
    rw [List.any_eq_false] at hp7
    have := hp7 d hd
    unfold Cas.farDue at this
    simp at this
    omega)
  clear hp7
  have q4 := HX4.out.cell 0
  simp only [List.getElem?_toArray, List.getElem?_cons_zero] at q4
  go_upto_region 15 with (fail)
  rw [zero_bank]
  have hbk := Blk.new w4 84 (bankC (.slice A n c) owe0 Cas.none_)
  have l4 : Below w.heap.size w (w4.alloc (.cells (bankC (.slice A n c) owe0 Cas.none_) 84)) := HB4.out.alloc HB4.out.size _
  generalize w4.alloc (.cells (bankC (.slice A n c) owe0 Cas.none_) 84) = w5 at hbk l4 ⊢
  have HG2 := Lib.hid (show w.heap.size ≤ w4.heap.size from HB4.out.size)
  generalize w4.heap.size = g2 at hbk HG2 ⊢
  have HBK := Lib.hid hbk
  have HL4 := Lib.hid l4
  clear hbk l4 q4
  have HMOST := Lib.hid (show Cas.most = 4503599627370496 from rfl)
  go_wp2_with fail
  go_loopw [9, 42] (fun v i wr => ∃ (j : Nat) (z : Int), j ≤ n1 ∧ i = .int .i64 j ∧ v = .int .i64 z ∧ z = Cas.most - Cas.gross ((ys.map due).take j) ∧ 0 ≤ z ∧ z ≤ 4503599627370496 ∧ Blk wr g2 84 (bankC (.slice A n c) (Cas.own ((ys.map due).take j)) Cas.none_) ∧ Below w.heap.size w wr) (fun _ i _ => n1 - (intOf i).toNat)
  case atStart =>
    refine ⟨0, _, Nat.zero_le _, rfl, rfl, by simp [Cas.gross, Cas.most], by decide, by decide, ?_, HL4.out⟩
    rw [List.take_zero, own_none]
    exact HBK.out
  case round =>
    obtain ⟨j, z, hj, rfl, rfl, hz, hz0, hz1, hBk, hbel⟩ := hrel
    have HZ := Lib.hid hz
    have HB := Lib.hid hBk
    have HBEL := Lib.hid hbel
    by_cases hlt : j < n1
    · obtain ⟨b, off, x, rfl, hb, hx, k0, k1, k2, k3, k4, k5, k6, _⟩ := due_at (HR1.out.below hbel hB) hlt
      obtain ⟨i0, fr, tt, am, wt, til, he, un⟩ := x
      simp only at k0 k1 k2 k3 k4 k5 k6
      have hxd : (ys.map due)[j]? = some ⟨fr, tt, am, wt, til⟩ := by rw [List.getElem?_map, hx]; rfl
      have hmem := List.mem_of_getElem? hxd
      obtain ⟨a1, a2, a3, a4, a5, a6, a7⟩ := Cas.fine_iff (HFine.out _ hmem)
      simp only at a1 a2 a3 a4 a5 a6 a7
      obtain ⟨f, rfl⟩ := Int.eq_ofNat_of_zero_le a1
      obtain ⟨t, rfl⟩ := Int.eq_ofNat_of_zero_le a3
      have am2 : am ≤ 4503599627370496 := a7
      have HXD := Lib.hid hxd
      clear hx hmem a5 hz hBk hbel hxd a7
      by_cases hgr : z < am
      · have HFIN := Lib.hid (show Cas.errs (xs.map bal) (ys.map due) zs = 13 by
          rw [HE7.out, if_pos]
          have h1 := gross_take HXD.out
          have h2 := gross_part HFine.out (j + 1)
          have h3 := HZ.out
          simp only at h1
          omega)
        go_wp2_with fail
        go_ret2
        exact BeginTo.no (HBEL.out.alloc HBEL.out.size _) HFIN.out (by decide)
      · have hgr' : am ≤ z := by omega
        clear hgr
        go_upto_region 22 with (fail)
        have bd := Blk.new wr 75 #[.int .u64 i0, .int .i64 (f : Int), .int .i64 (t : Int), .int .i64 am, .int .i64 wt, .int .i64 til, .bool he]
        have bk := HB.out.alloc (.cells #[.int .u64 i0, .int .i64 (f : Int), .int .i64 (t : Int), .int .i64 am, .int .i64 wt, .int .i64 til, .bool he] 75)
        have la := HBEL.out.alloc HBEL.out.size (.cells #[.int .u64 i0, .int .i64 (f : Int), .int .i64 (t : Int), .int .i64 am, .int .i64 wt, .int .i64 til, .bool he] 75)
        have hne := HB.out.lt
        generalize wr.alloc (.cells #[.int .u64 i0, .int .i64 (f : Int), .int .i64 (t : Int), .int .i64 am, .int .i64 wt, .int .i64 til, .bool he] 75) = wa at bd bk la ⊢
        generalize wr.heap.size = h11 at bd hne ⊢
        have d1 := bd.cell 1
        have d2 := bd.cell 2
        have d3 := bd.cell 3
        simp only [List.getElem?_toArray, List.getElem?_cons_zero, List.getElem?_cons_succ] at d1 d2 d3
        have o1 := (bk.cell (1 + f * 16 + t)).trans (bank_o _ _ _ (by omega) (by omega))
        have of := bk.frozen (1 + f * 16 + t)
        have HBK2 := Lib.hid bk
        have HLA := Lib.hid la
        have hgo := (Cas.own_bounds (l := (ys.map due).take j) (fun d hd => (Cas.fine_iff (HFine.out d (List.mem_of_mem_take hd))).2.2.2.2.2.1) f t)
        have hgz : Cas.gross ((ys.map due).take j) ≤ 4503599627370496 := by have := HZ.out; have := HMOST.out; omega
        obtain ⟨y, hy⟩ : ∃ y, Cas.own ((ys.map due).take j) f t = y := ⟨_, rfl⟩
        rw [hy] at o1 hgo
        have HY := Lib.hid hy
        have hy0 : 0 ≤ y := hgo.1
        have hy1 : y ≤ 4503599627370496 := by omega
        clear bd bk la hgo hgz hy k0 k1 k2 k3 k4 k5 k6
        have hwr : IntKind.i64.wrap (y + am) = y + am := by rw [IntKind.wrap_i64]; omega
        go_still_tail 17, (by kernel_rfl)
        have HST := Lib.hid (show Blk (wa.drew.setCell ⟨g2, 1 + f * 16 + t, none⟩ (.int .i64 (y + am))) g2 84 (bankC (.slice A n c) (Cas.own ((ys.map due).take (j + 1))) Cas.none_) by
          have h := HBK2.out.drew.set_ (1 + f * 16 + t) (.int .i64 (y + am))
          rw [bank_setO _ _ _ (by omega) (by omega), ← HY.out, own_take HXD.out rfl rfl] at h
          rw [← HY.out]
          exact h)
        have HLS := Lib.hid (HLA.out.drew.setCell (p := ⟨g2, 1 + f * 16 + t, none⟩) HG2.out (.int .i64 (y + am)))
        have HGT := Lib.hid (gross_take HXD.out)
        go_wp2_with fail
        go_roundw
        case rel => exact ⟨j + 1, z - am, by omega, by go_num, rfl, by have h1 := HGT.out; have h2 := HZ.out; simp only at h1; omega, by omega, by omega, HST.out, HLS.out⟩
        case measure => simp [intOf]; omega
    · obtain rfl : j = n1 := by omega
      have htk : (ys.map due).take j = ys.map due := List.take_of_length_le (by rw [HLN1.out]; exact Nat.le_refl _)
      rw [htk] at hz hBk
      have HE0 := Lib.hid (show Cas.errs (xs.map bal) (ys.map due) zs = 0 by
        rw [HE7.out, if_neg]
        omega)
      have HBf := Lib.hid hBk
      have HLf := Lib.hid hbel
      clear htk hz hBk hbel HB HBEL HZ
      go_wp2_with fail
      go_ret2
      exact ⟨⟨_, by rw [HE0.out]; rfl, fun _ => ⟨g2, rfl, HG2.out, HBf.out⟩⟩, HLf.out⟩

end Go.Proofs.Ytlkbdmbfbmekaaa

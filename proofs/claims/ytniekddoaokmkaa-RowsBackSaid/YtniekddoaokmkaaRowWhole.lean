/-
  Layer 23 (rows): whether a state fits, walked.
-/
import Derived.Test.YtniekddoaokmkaaRowSmall
import Derived.BigQuiet
import Derived.Lib.QuietBelow
namespace Go.Proofs.Ytniekddoaokmkaa
open Go.RowKit Go.Gab
set_option linter.unusedVariables false
attribute [local go_sem ↓] Go.wp_at_zero Go.wp_at_succ

theorem any_drop {α : Type} (l : List α) (p : α → Bool) {j : Nat} {v : α} (h : l[j]? = some v) : (l.drop j).any p = (p v || (l.drop (j + 1)).any p) := by
  obtain ⟨hj, rfl⟩ := List.getElem?_eq_some_iff.1 h
  rw [List.drop_eq_getElem_cons hj, List.any_cons]

theorem cell_below {w w' : World} (hb : Below w.heap.size w w') {p : Addr} {v : Value} (h : w.cell? p = some v) : w'.cell? p = some v :=
  (hb.cell (World.block_lt_of_cell? w _ h)).trans h

theorem within_is {x m : Int} {b : Bool} (hb : Rws.within x m = b) (w : World) : Calls Try.prog 33 #[.int .i64 x, .int .i64 m] w fun e w' => e = .returned (.bool b) ∧ w' = w := by
  have HZ := Lib.hid (show (decide (0 ≤ x) && decide (x ≤ m)) = b from hb)
  clear hb
  by_cases h : 0 ≤ x
  · go_enter Try.func33, Try.ntmps33
    go_wp2_with fail
    go_ret
    exact ⟨ret_bool (by rw [← HZ.out, decide_eq_true h]; rfl), rfl⟩
  · go_enter Try.func33, Try.ntmps33
    go_wp2_with fail
    go_ret
    exact ⟨ret_bool (by rw [← HZ.out, decide_eq_false (by omega)]; rfl), rfl⟩

theorem fits1_any (x : Rws.Edge) (w : World) :
    Calls Try.prog 55 #[.agg #[.int .i64 x.frm, .int .i64 x.to, .int .i64 x.cap, .int .i64 x.cost]] w fun e w' => e = .returned (.bool (!Rws.edgeFits x)) ∧ Below w.heap.size w w' := by
  have HZ := Lib.hid (show Rws.edgeFits x = (Rws.within x.frm 255 && Rws.within x.to 255) from rfl)
  have HL := Lib.hid ((Below.refl w.heap.size w).alloc (Nat.le_refl _) (.cells #[.int .i64 x.frm, .int .i64 x.to, .int .i64 x.cap, .int .i64 x.cost] 66))
  obtain ⟨b, hb⟩ : ∃ b, Rws.within x.frm 255 = b := ⟨_, rfl⟩
  obtain ⟨c, hc⟩ : ∃ c, Rws.within x.to 255 = c := ⟨_, rfl⟩
  have H1 := Lib.hid hb
  have H2 := Lib.hid hc
  clear hb hc
  cases b with
  | false =>
    go_enter Try.func55, Try.ntmps55
    go_wp2_with fail
    refine (within_is H1.out _).mono ?_
    rintro e w1 ⟨rfl, hw⟩
    subst hw
    go_wp2_with fail
    go_ret
    exact ⟨ret_bool (by rw [HZ.out, H1.out]; rfl), HL.out⟩
  | true =>
    go_enter Try.func55, Try.ntmps55
    go_wp2_with fail
    refine (within_is H1.out _).mono ?_
    rintro e w1 ⟨rfl, hw⟩
    subst hw
    go_wp2_with fail
    refine (within_is H2.out _).mono ?_
    rintro e w1 ⟨rfl, hw⟩
    subst hw
    go_wp2_with fail
    go_ret
    exact ⟨ret_bool (by rw [HZ.out, H1.out, H2.out]; cases c <;> rfl), HL.out⟩

set_option maxHeartbeats 1000000 in
theorem indexEdge_any (B : Nat) (A : Option Addr) (n c : Nat) (xs : List Rws.Edge) (w : World) (hr : SlR edgeR w B A n c xs) (hB : B ≤ w.heap.size) :
    Calls Try.prog 68 #[.slice A n c, .func (.func 55) #[] #[]] w fun e w' => (∃ z, e = .returned (.int .i64 z) ∧ decide (0 ≤ z) = xs.any (fun x => !Rws.edgeFits x)) ∧ Below w.heap.size w w' := by
  have hnc := hr.nc
  have hcm := hr.cm
  have HLN := Lib.hid hr.len
  have HR := Lib.hid hr
  obtain ⟨p, hp⟩ : ∃ p : Rws.Edge → Bool, (fun x => !Rws.edgeFits x) = p := ⟨_, rfl⟩
  rw [hp]
  have HP := Lib.hid hp
  clear hr hp
  go_enter Try.func68, Try.ntmps68
  go_wp2_with fail
  go_loopw [8] (fun i wr => ∃ j : Nat, j ≤ n ∧ i = .int .i64 j ∧ xs.any p = (xs.drop j).any p ∧ Below w.heap.size w wr) (fun i _ => n - (intOf i).toNat)
  case atStart => exact ⟨0, Nat.zero_le _, rfl, rfl, Below.refl _ _⟩
  case round =>
    obtain ⟨j, hj, rfl, hany, hbel⟩ := hrel
    by_cases hlt : j < n
    · obtain ⟨b, off, x, hA, hb, hx, h0, h1, h2, h3, _⟩ := edge_at (HR.out.below hbel hB) hlt
      subst hA
      have HANY := Lib.hid (hany.trans (any_drop xs p hx))
      have HBEL := Lib.hid hbel
      have HF := Lib.hid (fun w => fits1_any x w)
      have hq0 : (!Rws.edgeFits x) = p x := by rw [← HP.out]
      rw [hq0] at HF
      obtain ⟨q, hq⟩ : ∃ q, p x = q := ⟨_, rfl⟩
      rw [hq] at HF
      have HQ := Lib.hid hq
      clear hany hbel hx hq hq0
      go_wp2_with fail
      refine (HF.out _).mono ?_
      rintro e w2 ⟨rfl, hb2⟩
      have HB2 := Lib.hid (HBEL.out.trans (hb2.mono HBEL.out.size))
      clear hb2
      cases q with
      | true =>
        go_wp2_with fail
        go_ret
        exact ⟨⟨_, rfl, by rw [HANY.out, HQ.out]; simp⟩, HB2.out⟩
      | false =>
        go_wp2_with fail
        go_roundw
        case rel => exact ⟨j + 1, by omega, by go_num, by rw [HANY.out, HQ.out, Bool.false_or], HB2.out⟩
        case measure => simp [intOf]; omega
    · obtain rfl : n = j := by omega
      have HANY := Lib.hid hany
      have HBEL := Lib.hid hbel
      clear hany hbel
      go_wp2_with fail
      go_ret
      exact ⟨⟨_, rfl, by rw [HANY.out, List.drop_of_length_le (by simp [HLN.out])]; rfl⟩, HBEL.out⟩

theorem containsEdge_any (B : Nat) (A : Option Addr) (n c : Nat) (xs : List Rws.Edge) (w : World) (hr : SlR edgeR w B A n c xs) (hB : B ≤ w.heap.size) :
    Calls Try.prog 54 #[.slice A n c, .func (.func 55) #[] #[]] w fun e w' => e = .returned (.bool (xs.any (fun x => !Rws.edgeFits x))) ∧ Below w.heap.size w w' := by
  go_enter Try.func54, Try.ntmps54
  go_wp2_with fail
  refine (indexEdge_any B A n c xs _ hr hB).mono ?_
  rintro e w2 ⟨⟨z, rfl, hz⟩, hb2⟩
  have HZ := Lib.hid hz
  have HB2 := Lib.hid hb2
  clear hz hb2
  go_wp2_with fail
  go_ret
  exact ⟨ret_bool HZ.out, HB2.out⟩

theorem whole1_any (cl se : Int) (A1 A2 : Option Addr) (n1 c1 n2 c2 : Nat) (w : World) (h1 : n1 ≤ c1) (h2 : c1 ≤ 9223372036854775807) :
    Calls Try.prog 36 #[.agg #[.int .u32 cl, .int .u64 se, .slice A1 n1 c1, .slice A2 n2 c2]] w fun e w' => e = .returned (.bool (!decide (n1 ≤ 65535))) ∧ Below w.heap.size w w' := by
  have HL := Lib.hid ((Below.refl w.heap.size w).alloc (Nat.le_refl _) (.cells #[.int .u32 cl, .int .u64 se, .slice A1 n1 c1, .slice A2 n2 c2] 52))
  have HE := Lib.hid (show decide ((65535 : Int) < (n1 : Int)) = !decide (n1 ≤ 65535) by
    by_cases h : n1 ≤ 65535
    · rw [decide_eq_true h, decide_eq_false (by omega)]; rfl
    · rw [decide_eq_false h, decide_eq_true (by omega)]; rfl)
  go_enter Try.func36, Try.ntmps36
  go_wp2_with fail
  go_ret
  exact ⟨ret_bool HE.out, HL.out⟩

set_option maxHeartbeats 1000000 in
theorem indexAsked_any (B : Nat) (A : Option Addr) (n c : Nat) (xs : List Rws.Asked) (w : World) (hr : SlR askedR w B A n c xs) (hB : B ≤ w.heap.size) :
    Calls Try.prog 56 #[.slice A n c, .func (.func 36) #[] #[]] w fun e w' => (∃ z, e = .returned (.int .i64 z) ∧ decide (0 ≤ z) = xs.any (fun x => !decide (x.ask.length ≤ 65535))) ∧ Below w.heap.size w w' := by
  have hnc := hr.nc
  have hcm := hr.cm
  have HLN := Lib.hid hr.len
  have HR := Lib.hid hr
  obtain ⟨p, hp⟩ : ∃ p : Rws.Asked → Bool, (fun x => !decide (x.ask.length ≤ 65535)) = p := ⟨_, rfl⟩
  rw [hp]
  have HP := Lib.hid hp
  clear hr hp
  go_enter Try.func56, Try.ntmps56
  go_wp2_with fail
  go_loopw [8] (fun i wr => ∃ j : Nat, j ≤ n ∧ i = .int .i64 j ∧ xs.any p = (xs.drop j).any p ∧ Below w.heap.size w wr) (fun i _ => n - (intOf i).toNat)
  case atStart => exact ⟨0, Nat.zero_le _, rfl, rfl, Below.refl _ _⟩
  case round =>
    obtain ⟨j, hj, rfl, hany, hbel⟩ := hrel
    by_cases hlt : j < n
    · obtain ⟨b, off, x, A1, A2, d1, d2, hA, hb, hx, h0, h1, h2, h3, _, _, y1, y2⟩ := asked_at (HR.out.below hbel hB) hlt
      subst hA
      have HANY := Lib.hid (hany.trans (any_drop xs p hx))
      have HBEL := Lib.hid hbel
      have HF := Lib.hid (fun w => whole1_any x.client x.seq A1 A2 x.ask.length d1 x.reply.length d2 w y1.sl.nc y1.sl.cm)
      have hq0 : (!decide (x.ask.length ≤ 65535)) = p x := by rw [← HP.out]
      rw [hq0] at HF
      obtain ⟨q, hq⟩ : ∃ q, p x = q := ⟨_, rfl⟩
      rw [hq] at HF
      have HQ := Lib.hid hq
      clear hany hbel hx hq hq0 y1 y2
      go_wp2_with fail
      refine (HF.out _).mono ?_
      rintro e w2 ⟨rfl, hb2⟩
      have HB2 := Lib.hid (HBEL.out.trans (hb2.mono HBEL.out.size))
      clear hb2
      cases q with
      | true =>
        go_wp2_with fail
        go_ret
        exact ⟨⟨_, rfl, by rw [HANY.out, HQ.out]; simp⟩, HB2.out⟩
      | false =>
        go_wp2_with fail
        go_roundw
        case rel => exact ⟨j + 1, by omega, by go_num, by rw [HANY.out, HQ.out, Bool.false_or], HB2.out⟩
        case measure => simp [intOf]; omega
    · obtain rfl : n = j := by omega
      have HANY := Lib.hid hany
      have HBEL := Lib.hid hbel
      clear hany hbel
      go_wp2_with fail
      go_ret
      exact ⟨⟨_, rfl, by rw [HANY.out, List.drop_of_length_le (by simp [HLN.out])]; rfl⟩, HBEL.out⟩

theorem containsAsked_any (B : Nat) (A : Option Addr) (n c : Nat) (xs : List Rws.Asked) (w : World) (hr : SlR askedR w B A n c xs) (hB : B ≤ w.heap.size) :
    Calls Try.prog 35 #[.slice A n c, .func (.func 36) #[] #[]] w fun e w' => e = .returned (.bool (xs.any (fun x => !decide (x.ask.length ≤ 65535)))) ∧ Below w.heap.size w w' := by
  go_enter Try.func35, Try.ntmps35
  go_wp2_with fail
  refine (indexAsked_any B A n c xs _ hr hB).mono ?_
  rintro e w2 ⟨⟨z, rfl, hz⟩, hb2⟩
  have HZ := Lib.hid hz
  have HB2 := Lib.hid hb2
  clear hz hb2
  go_wp2_with fail
  go_ret
  exact ⟨ret_bool HZ.out, HB2.out⟩

theorem run_max4 (a b c d : Nat) (w : World) : (Builtin.max_ #[3, 3, 3, 3] 3 #[.int .i64 (a : Int), .int .i64 (b : Int), .int .i64 (c : Int), .int .i64 (d : Int)]).run Try.prog w = .ok (.int .i64 ((max (max (max a b) c) d : Nat) : Int)) w := by
  have e : ∀ x y : Nat, (if (y : Int) > (x : Int) then (y : Int) else (x : Int)) = ((max x y : Nat) : Int) := fun x y => by
    split <;> omega
  have h : (Builtin.max_ #[3, 3, 3, 3] 3 #[.int .i64 (a : Int), .int .i64 (b : Int), .int .i64 (c : Int), .int .i64 (d : Int)]).run Try.prog w = .ok (.int .i64 (if (d : Int) > (if (c : Int) > (if (b : Int) > (a : Int) then (b : Int) else (a : Int)) then (c : Int) else (if (b : Int) > (a : Int) then (b : Int) else (a : Int))) then (d : Int) else (if (c : Int) > (if (b : Int) > (a : Int) then (b : Int) else (a : Int)) then (c : Int) else (if (b : Int) > (a : Int) then (b : Int) else (a : Int))))) w := by
    simp [Builtin.max_, Builtin.max2]
  rw [h, e a b, e _ c, e _ d]

set_option maxHeartbeats 1000000 in
theorem fits_any (B : Nat) (x : Rws.Round) {Ai Ae Af Ap : Option Addr} {ci ce cf cp : Nat} (w : World) (ha : RoundAt w B x Ai Ae Af Ap ci ce cf cp) (hB : B ≤ w.heap.size) :
    Calls Try.prog 34 #[.agg (roundC x Ai Ae Af Ap ci ce cf cp).toArray] w fun e w' => e = .returned (.bool (Rws.roundFits x)) ∧ Below w.heap.size w w' := by
  have HZ := Lib.hid (show Rws.roundFits x = (Rws.within x.n 255 && decide (max (max (max x.edges.length x.ids.length) x.flow.length) x.pot.length ≤ 65535) && x.edges.all Rws.edgeFits) from rfl)
  have HL := Lib.hid ((Below.refl w.heap.size w).alloc (Nat.le_refl _) (.cells (roundC x Ai Ae Af Ap ci ce cf cp).toArray 64))
  have HE := Lib.hid (containsEdge_any B Ae x.edges.length ce x.edges (w.alloc (.cells (roundC x Ai Ae Af Ap ci ce cf cp).toArray 64)) (ha.edges.below HL.out hB) (by simp; omega))
  have m1 := ha.ids.nc
  have m2 := ha.ids.cm
  have m3 := ha.edges.nc
  have m4 := ha.edges.cm
  have m5 := ha.flow.nc
  have m6 := ha.flow.cm
  have m7 := ha.pot.nc
  have m8 := ha.pot.cm
  have HAE := Lib.hid (show x.edges.any (fun e => !Rws.edgeFits e) = !(x.edges.all Rws.edgeFits) by rw [List.not_all_eq_any_not])
  rw [HAE.out] at HE
  obtain ⟨b, hb⟩ : ∃ b, Rws.within x.n 255 = b := ⟨_, rfl⟩
  obtain ⟨d, hd⟩ : ∃ d, x.edges.all Rws.edgeFits = d := ⟨_, rfl⟩
  rw [hd] at HE HZ
  have H1 := Lib.hid hb
  unfold roundC at HE HL ⊢
  clear ha hb hd
  cases b with
  | false =>
    go_enter Try.func34, Try.ntmps34
    go_wp2_with fail
    refine (within_is H1.out _).mono ?_
    rintro e w1 ⟨rfl, hw⟩
    subst hw
    go_wp2_with fail
    go_ret
    exact ⟨ret_bool (by rw [HZ.out, H1.out]; rfl), HL.out⟩
  | true =>
    obtain ⟨ne, hne⟩ : ∃ k, x.edges.length = k := ⟨_, rfl⟩
    obtain ⟨ni, hni⟩ : ∃ k, x.ids.length = k := ⟨_, rfl⟩
    obtain ⟨nf, hnf⟩ : ∃ k, x.flow.length = k := ⟨_, rfl⟩
    obtain ⟨np, hnp⟩ : ∃ k, x.pot.length = k := ⟨_, rfl⟩
    rw [hne, hni, hnf, hnp] at HZ
    rw [hne, hni, hnf, hnp] at HL HE ⊢
    rw [hne] at m3
    rw [hni] at m1
    rw [hnf] at m5
    rw [hnp] at m7
    clear hne hni hnf hnp
    have hmx := fun w => run_max4 ne ni nf np w
    obtain ⟨mx, hm⟩ : ∃ mx, max (max (max ne ni) nf) np = mx := ⟨_, rfl⟩
    rw [hm] at HZ
    simp only [hm] at hmx
    clear hm
    by_cases hm : mx ≤ 65535
    · have i1 : ¬ (65535 : Int) < mx := by omega
      go_enter Try.func34, Try.ntmps34
      go_wp2_with fail
      refine (within_is H1.out _).mono ?_
      rintro e w1 ⟨rfl, hw⟩
      subst hw
      go_wp2_with fail
      refine HE.out.mono ?_
      rintro e w2 ⟨rfl, hb2⟩
      have HB2 := Lib.hid (HL.out.trans (hb2.mono HL.out.size))
      clear hb2
      go_wp2_with fail
      go_ret
      exact ⟨ret_bool (by rw [HZ.out, H1.out, decide_eq_true hm]; cases d <;> rfl), HB2.out⟩
    · have i1 : (65535 : Int) < mx := by omega
      go_enter Try.func34, Try.ntmps34
      go_wp2_with fail
      refine (within_is H1.out _).mono ?_
      rintro e w1 ⟨rfl, hw⟩
      subst hw
      go_wp2_with fail
      go_ret
      exact ⟨ret_bool (by rw [HZ.out, H1.out, decide_eq_false hm]; rfl), HL.out⟩

theorem fits_is (B : Nat) (x : Rws.Round) {b : Bool} (hb : Rws.roundFits x = b) {Ai Ae Af Ap : Option Addr} {ci ce cf cp : Nat} (w : World) (ha : RoundAt w B x Ai Ae Af Ap ci ce cf cp) (hB : B ≤ w.heap.size) :
    Calls Try.prog 34 #[.agg #[.int .u64 x.no, .int .i64 x.day, .bool x.comp, .slice Ai x.ids.length ci, .int .i64 x.n, .slice Ae x.edges.length ce, .slice Af x.flow.length cf, .slice Ap x.pot.length cp]] w
      fun e w' => e = .returned (.bool b) ∧ Below w.heap.size w w' := by
  subst hb
  exact fits_any B x w ha hB

/-! ### whole -/
theorem rises_snoc : ∀ (l : List Int) (a b : Int), Rws.rises (l ++ [a, b]) = (Rws.rises (l ++ [a]) && decide (a < b))
  | [], a, b => by simp [Rws.rises]
  | [c], a, b => by simp [Rws.rises]
  | c :: d :: l, a, b => by
    have ih := rises_snoc (d :: l) a b
    simp only [List.cons_append, Rws.rises] at ih ⊢
    rw [ih, Bool.and_assoc]
/-- So far. -/
def okD (l : List Rws.Due) : Bool := l.all Rws.dueFits && Rws.rises (l.map (·.id))
def okR (l : List Rws.Round) : Bool := l.all Rws.roundFits && Rws.rises (l.map (·.no))
theorem rises_take : ∀ (l : List Int) (j : Nat), Rws.rises l = true → Rws.rises (l.take j) = true
  | [], j, _ => by simp [Rws.rises]
  | [a], j, _ => by
    cases j with
    | zero => simp [Rws.rises]
    | succ j => simp [Rws.rises]
  | a :: b :: l, j, h => by
    match j with
    | 0 => simp [Rws.rises]
    | 1 => simp [Rws.rises]
    | j + 2 =>
      have h1 : (decide (a < b) && Rws.rises (b :: l)) = true := h
      have ih := rises_take (b :: l) (j + 1) (Bool.and_eq_true_iff.1 h1).2
      simp only [List.take_succ_cons, Rws.rises] at ih ⊢
      simp only [Bool.and_eq_true] at h1
      rw [h1.1, ih]; rfl
theorem okD_take {l : List Rws.Due} (j : Nat) (h : okD (l.take j) = false) : okD l = false := by
  cases hl : okD l with
  | false => rfl
  | true =>
    unfold okD at hl h
    simp only [Bool.and_eq_true, List.all_eq_true] at hl
    have h1 : (l.take j).all Rws.dueFits = true := List.all_eq_true.2 fun x hx => hl.1 x (List.mem_of_mem_take hx)
    have h2 := rises_take (l.map (·.id)) j hl.2
    rw [← List.map_take] at h2
    rw [h1, h2] at h
    cases h
theorem okR_take {l : List Rws.Round} (j : Nat) (h : okR (l.take j) = false) : okR l = false := by
  cases hl : okR l with
  | false => rfl
  | true =>
    unfold okR at hl h
    simp only [Bool.and_eq_true, List.all_eq_true] at hl
    have h1 : (l.take j).all Rws.roundFits = true := List.all_eq_true.2 fun x hx => hl.1 x (List.mem_of_mem_take hx)
    have h2 := rises_take (l.map (·.no)) j hl.2
    rw [← List.map_take] at h2
    rw [h1, h2] at h
    cases h
theorem okD_first {l : List Rws.Due} {x : Rws.Due} (h : l[0]? = some x) : okD (l.take 1) = Rws.dueFits x := by
  have e : l.take 1 = [x] := by
    have := take_succ_of h
    simpa using this
  rw [e]
  simp [okD, Rws.rises]
theorem okD_step {l : List Rws.Due} {j : Nat} {p x : Rws.Due} (hp : l[j]? = some p) (hx : l[j + 1]? = some x) : okD (l.take (j + 1 + 1)) = (okD (l.take (j + 1)) && (Rws.dueFits x && decide (p.id < x.id))) := by
  unfold okD
  rw [take_succ_of hx, take_succ_of hp]
  simp only [List.map_append, List.map_cons, List.map_nil, List.append_assoc, List.cons_append, List.nil_append, rises_snoc, List.all_append, List.all_cons, List.all_nil, Bool.and_true]
  cases (List.take j l).all Rws.dueFits <;> cases Rws.dueFits p <;> cases Rws.dueFits x <;> simp
theorem okR_first {l : List Rws.Round} {x : Rws.Round} (h : l[0]? = some x) : okR (l.take 1) = Rws.roundFits x := by
  have e : l.take 1 = [x] := by
    have := take_succ_of h
    simpa using this
  rw [e]
  simp [okR, Rws.rises]
theorem okR_step {l : List Rws.Round} {j : Nat} {p x : Rws.Round} (hp : l[j]? = some p) (hx : l[j + 1]? = some x) : okR (l.take (j + 1 + 1)) = (okR (l.take (j + 1)) && (Rws.roundFits x && decide (p.no < x.no))) := by
  unfold okR
  rw [take_succ_of hx, take_succ_of hp]
  simp only [List.map_append, List.map_cons, List.map_nil, List.append_assoc, List.cons_append, List.nil_append, rises_snoc, List.all_append, List.all_cons, List.all_nil, Bool.and_true]
  cases (List.take j l).all Rws.roundFits <;> cases Rws.roundFits p <;> cases Rws.roundFits x <;> simp
theorem okD_nil : okD [] = true := rfl
theorem okR_nil : okR [] = true := rfl
theorem whole_eq (s : Rws.St) : Rws.whole s = (decide (s.accts.length ≤ 256) && decide (s.asked.length ≤ 65535) && okD s.dues && okR s.rounds && !(s.asked.any fun x => !decide (x.ask.length ≤ 65535))) := by
  unfold Rws.whole okD okR
  rw [show (s.asked.any fun x => !decide (x.ask.length ≤ 65535)) = !(s.asked.all fun x => decide (x.ask.length ≤ 65535)) by rw [List.not_all_eq_any_not], Bool.not_not]

set_option maxHeartbeats 16000000 in
set_option maxRecDepth 10000 in
theorem whole_any (B : Nat) (s : Rws.St) {Aa Ad Ar Aq : Option Addr} {ca cd cr cq : Nat} (w : World) (hst : StAt w B s Aa Ad Ar Aq ca cd cr cq) (hB : B ≤ w.heap.size) :
    Calls Try.prog 20 #[.agg (stC s Aa Ad Ar Aq ca cd cr cq).toArray] w fun e w' => e = .returned (.bool (Rws.whole s)) ∧ Below w.heap.size w w' := by
  have HW := Lib.hid (whole_eq s)
  have bS := Blk.new w 28 (stC s Aa Ad Ar Aq ca cd cr cq).toArray
  have l0 : Below w.heap.size w (w.alloc (.cells (stC s Aa Ad Ar Aq ca cd cr cq).toArray 28)) := (Below.refl _ _).alloc (Nat.le_refl _) _
  have HS0 := Lib.hid (hst.below l0 hB)
  have m1 := hst.accts.nc
  have m2 := hst.accts.cm
  have m3 := hst.dues.nc
  have m4 := hst.dues.cm
  have m5 := hst.rounds.nc
  have m6 := hst.rounds.cm
  have m7 := hst.asked.nc
  have m8 := hst.asked.cm
  unfold stC at bS l0 HS0 ⊢
  clear hst
  obtain ⟨wv, hwv⟩ : ∃ b, Rws.whole s = b := ⟨_, rfl⟩
  rw [hwv] at HW ⊢
  clear hwv
  by_cases h1 : (256 : Int) < s.accts.length
  · have HL := Lib.hid l0
    clear bS l0
    go_enter Try.func20, Try.ntmps20
    go_wp2_with fail
    go_ret
    exact ⟨ret_bool (by rw [HW.out, decide_eq_false (by omega)]; rfl), HL.out⟩
  by_cases h2 : (65535 : Int) < s.asked.length
  · have HL := Lib.hid l0
    clear bS l0
    go_enter Try.func20, Try.ntmps20
    go_wp2_with fail
    go_ret
    exact ⟨ret_bool (by rw [HW.out, decide_eq_true (by omega : s.accts.length ≤ 256), decide_eq_false (by omega)]; rfl), HL.out⟩
  rw [decide_eq_true (by omega : s.accts.length ≤ 256), decide_eq_true (by omega : s.asked.length ≤ 65535), Bool.true_and, Bool.true_and] at HW
  have hn1 : decide ((256 : Int) < s.accts.length) = false := by simp; omega
  have hn2 : decide ((65535 : Int) < s.asked.length) = false := by simp; omega
  clear h1 h2
  go_enter Try.func20, Try.ntmps20
  go_wp2_with fail
  clear hn1 hn2
  generalize w.alloc (.cells [.int .i64 s.day, .slice Aa s.accts.length ca, .slice Ad s.dues.length cd, .int .u64 s.next, .slice Ar s.rounds.length cr, .int .u64 s.no, .slice Aq s.asked.length cq].toArray 28) = W1 at bS l0 HS0
  obtain ⟨hs, hhs⟩ : ∃ h, w.heap.size = h := ⟨_, rfl⟩
  rw [hhs] at bS ⊢
  have HBS1 := Lib.hid bS
  have HL0 := Lib.hid l0
  have HB1 := Lib.hid (Nat.le_trans hB l0.size)
  clear bS l0 hhs
  go_loopw [20] (fun i wr => ∃ j : Nat, j ≤ s.dues.length ∧ i = .int .i64 j ∧ okD (s.dues.take j) = true ∧ Below W1.heap.size W1 wr) (fun i _ => s.dues.length - (intOf i).toNat)
  case atStart => exact ⟨0, Nat.zero_le _, rfl, by rw [List.take_zero]; rfl, Below.refl _ _⟩
  case round =>
    obtain ⟨j, hj, rfl, hok, hbel⟩ := hrel
    have HOK := Lib.hid hok
    have HBL := Lib.hid hbel
    by_cases hlt : j < s.dues.length
    · obtain ⟨b, off, x, hA, hbb, hx, q0, q1, q2, q3, q4, q5, q6, _⟩ := due_at (HS0.out.dues.below hbel HB1.out) hlt
      have HX := Lib.hid hx
      have hbs := HBS1.out.below hbel HBS1.out.lt
      have c2 := (hbs.alloc (.cells #[.int .u64 x.id, .int .i64 x.frm, .int .i64 x.to, .int .i64 x.amt, .int .i64 x.wt, .int .i64 x.til, .bool x.held] 54)).cell 2
      simp only [List.getElem?_toArray, List.getElem?_cons_zero, List.getElem?_cons_succ] at c2
      have hbx := Blk.new wr 54 #[.int .u64 x.id, .int .i64 x.frm, .int .i64 x.to, .int .i64 x.amt, .int .i64 x.wt, .int .i64 x.til, .bool x.held]
      have hal := hbel.alloc hbel.size (.cells #[.int .u64 x.id, .int .i64 x.frm, .int .i64 x.to, .int .i64 x.amt, .int .i64 x.wt, .int .i64 x.til, .bool x.held] 54)
      have HFIT := Lib.hid (show Rws.dueFits x = (Rws.within x.frm 255 && Rws.within x.to 255 && Rws.within x.wt 65535) from rfl)
      obtain ⟨b1, hb1⟩ : ∃ b, Rws.within x.frm 255 = b := ⟨_, rfl⟩
      obtain ⟨b2, hb2⟩ : ∃ b, Rws.within x.to 255 = b := ⟨_, rfl⟩
      obtain ⟨b3, hb3⟩ : ∃ b, Rws.within x.wt 65535 = b := ⟨_, rfl⟩
      have H1 := Lib.hid hb1
      have H2 := Lib.hid hb2
      have H3 := Lib.hid hb3
      -- the one ahead
      have hprev : j = 0 ∧ okD (s.dues.take (j + 1)) = Rws.dueFits x ∨ ∃ (k : Nat) (p : Rws.Due), j = k + 1 ∧ wr.cell? ⟨b, off + k * 7, none⟩ = some (.int .u64 p.id) ∧ okD (s.dues.take (j + 1)) = (Rws.dueFits x && decide (p.id < x.id)) := by
        cases j with
        | zero => exact .inl ⟨rfl, okD_first hx⟩
        | succ k =>
          obtain ⟨b', off', p, hA', _, hp, r0, _⟩ := due_at (HS0.out.dues.below hbel HB1.out) (show k < s.dues.length by omega)
          rw [hA] at hA'
          injection hA' with e
          injection e with e1 e2
          subst e1 e2
          exact .inr ⟨k, p, rfl, r0, by rw [okD_step hp hx, hok, Bool.true_and]⟩
      subst hA
      have HIX := Lib.hid hprev
      clear hx hbb hok hbel hb1 hb2 hb3 hbs hprev
      go_wp2_with fail
      have hcb := (Below.refl wr.heap.size wr).alloc (Nat.le_refl _) (.cells #[.int .u64 x.id, .int .i64 x.frm, .int .i64 x.to, .int .i64 x.amt, .int .i64 x.wt, .int .i64 x.til, .bool x.held] 54)
      generalize wr.alloc (.cells #[.int .u64 x.id, .int .i64 x.frm, .int .i64 x.to, .int .i64 x.amt, .int .i64 x.wt, .int .i64 x.til, .bool x.held] 54) = wo at hbx hal c2 hcb ⊢
      have HCB := Lib.hid hcb
      have d0 := hbx.cell 0
      have d1 := hbx.cell 1
      have d2 := hbx.cell 2
      have d4 := hbx.cell 4
      simp only [List.getElem?_toArray, List.getElem?_cons_zero, List.getElem?_cons_succ] at d0 d1 d2 d4
      have HAL := Lib.hid hal
      have HBW := Lib.hid (HL0.out.trans (hal.mono HL0.out.size))
      generalize wr.heap.size = hx at d0 d1 d2 d4 ⊢
      clear hcb hal hbx q0 q1 q2 q3 q4 q5 q6
      cases b1 with
      | false =>
        have HBAD := Lib.hid (okD_take (l := s.dues) (j + 1) (by rcases HIX.out with ⟨_, h⟩ | ⟨_, _, _, _, h⟩ <;> rw [h, HFIT.out, H1.out] <;> rfl))
        go_quiet (with_reducible exact Calls.quiet_of_same (within_is H1.out _))
        go_wp2_with fail
        go_ret
        exact ⟨ret_bool (by rw [HW.out, HBAD.out]; rfl), below_drewN HBW.out _⟩
      | true =>
        cases b2 with
        | false =>
          have HBAD := Lib.hid (okD_take (l := s.dues) (j + 1) (by rcases HIX.out with ⟨_, h⟩ | ⟨_, _, _, _, h⟩ <;> rw [h, HFIT.out, H1.out, H2.out] <;> rfl))
          go_quiet (first | with_reducible exact Calls.quiet_of_same (within_is H1.out _) | with_reducible exact Calls.quiet_of_same (within_is H2.out _))
          go_wp2_with fail
          go_ret
          exact ⟨ret_bool (by rw [HW.out, HBAD.out]; rfl), below_drewN HBW.out _⟩
        | true =>
          cases b3 with
          | false =>
            have HBAD := Lib.hid (okD_take (l := s.dues) (j + 1) (by rcases HIX.out with ⟨_, h⟩ | ⟨_, _, _, _, h⟩ <;> rw [h, HFIT.out, H1.out, H2.out, H3.out] <;> rfl))
            go_quiet (first | with_reducible exact Calls.quiet_of_same (within_is H1.out _) | with_reducible exact Calls.quiet_of_same (within_is H2.out _) | with_reducible exact Calls.quiet_of_same (within_is H3.out _))
            go_wp2_with fail
            go_ret
            exact ⟨ret_bool (by rw [HW.out, HBAD.out]; rfl), below_drewN HBW.out _⟩
          | true =>
            have HFX := Lib.hid (show Rws.dueFits x = true by rw [HFIT.out, H1.out, H2.out, H3.out]; rfl)
            rcases HIX.out with ⟨hj0, h⟩ | ⟨k, p, hjk, r0, h⟩
            · rw [HFX.out] at h
              have HNX := Lib.hid h
              have e1 : decide ((0 : Int) < (j : Int)) = false := by simp; omega
              have e2 : decide (0 < j) = false := by simp; omega
              clear h
              go_quiet (first | with_reducible exact Calls.quiet_of_same (within_is H1.out _) | with_reducible exact Calls.quiet_of_same (within_is H2.out _) | with_reducible exact Calls.quiet_of_same (within_is H3.out _))
              clear e1 e2
              go_wp2_with fail
              go_roundw
              case rel => exact ⟨j + 1, by omega, by go_num, HNX.out, below_drewN HAL.out _⟩
              case measure => simp [intOf]; omega
            · rw [HFX.out, Bool.true_and] at h
              have r1 := cell_below HCB.out r0
              have HJK := Lib.hid hjk
              have e1 : decide ((0 : Int) < (j : Int)) = true := by simp; omega
              have e2 : decide (0 < j) = true := by simp; omega
              have e3 : IntKind.i64.wrap ((j : Int) - 1) = (k : Int) := by rw [IntKind.wrap_i64]; omega
              have e4 : (j : Int) - 1 = (k : Int) := by omega
              have e5 : (0 : Int) ≤ (k : Int) := by omega
              have e6 : (k : Int) < (s.dues.length : Int) := by omega
              clear r0 hjk
              by_cases hlt2 : p.id < x.id
              · rw [decide_eq_true hlt2] at h
                have HNX := Lib.hid h
                have e7 : decide (x.id ≤ p.id) = false := by simp; omega
                clear h
                go_quiet (first | with_reducible exact Calls.quiet_of_same (within_is H1.out _) | with_reducible exact Calls.quiet_of_same (within_is H2.out _) | with_reducible exact Calls.quiet_of_same (within_is H3.out _))
                clear e1 e2 e3 e4 e5 e6 e7
                go_wp2_with fail
                go_roundw
                case rel => exact ⟨j + 1, by omega, by go_num, HNX.out, below_drewN HAL.out _⟩
                case measure => simp [intOf]; omega
              · rw [decide_eq_false hlt2] at h
                have HBAD := Lib.hid (okD_take (l := s.dues) (j + 1) h)
                have e7 : decide (x.id ≤ p.id) = true := by simp; omega
                clear h
                go_quiet (first | with_reducible exact Calls.quiet_of_same (within_is H1.out _) | with_reducible exact Calls.quiet_of_same (within_is H2.out _) | with_reducible exact Calls.quiet_of_same (within_is H3.out _))
                clear e1 e2 e3 e4 e5 e6 e7
                go_wp2_with fail
                go_ret
                exact ⟨ret_bool (by rw [HW.out, HBAD.out]; rfl), below_drewN HBW.out _⟩
    · obtain ⟨rfl⟩ : s.dues.length = j := by omega
      have hdn : okD s.dues = true := by rw [List.take_of_length_le (Nat.le_refl _)] at hok; exact hok
      have HWD := Lib.hid (show wv = (okR s.rounds && !(s.asked.any fun x => !decide (x.ask.length ≤ 65535))) by rw [HW.out, hdn, Bool.true_and])
      have hbs := HBS1.out.below hbel HBS1.out.lt
      have c4 := hbs.cell 4
      simp only [List.getElem?_toArray, List.getElem?_cons_zero, List.getElem?_cons_succ] at c4
      clear hok hdn hbs hbel HOK
      obtain ⟨wd, rfl⟩ : ∃ wd : World, wd = wr := ⟨_, rfl⟩
      go_wp2_with fail
      clear c4
      go_loopw [61] (fun i wr => ∃ j : Nat, j ≤ s.rounds.length ∧ i = .int .i64 j ∧ okR (s.rounds.take j) = true ∧ Below W1.heap.size W1 wr) (fun i _ => s.rounds.length - (intOf i).toNat)
      case atStart => exact ⟨0, Nat.zero_le _, rfl, by rw [List.take_zero]; rfl, HBL.out⟩
      case round =>
        clear HBL
        obtain ⟨j, hj, rfl, hok, hbel⟩ := hrel
        have HOK := Lib.hid hok
        have HBL := Lib.hid hbel
        by_cases hlt : j < s.rounds.length
        · obtain ⟨b, off, x, Ai, Ae, Af, Ap, ci, ce, cf, cp, hA, hbb, hx, hra, q0, q1, q2, q3, q4, q5, q6, q7⟩ := round_at (HS0.out.rounds.below hbel HB1.out) hlt
          have HX := Lib.hid hx
          have hbs := (HBS1.out.below hbel HBS1.out.lt).alloc (.cells #[.int .u64 x.no, .int .i64 x.day, .bool x.comp, .slice Ai x.ids.length ci, .int .i64 x.n, .slice Ae x.edges.length ce, .slice Af x.flow.length cf, .slice Ap x.pot.length cp] 64)
          have hbx := Blk.new wr 64 #[.int .u64 x.no, .int .i64 x.day, .bool x.comp, .slice Ai x.ids.length ci, .int .i64 x.n, .slice Ae x.edges.length ce, .slice Af x.flow.length cf, .slice Ap x.pot.length cp]
          have hal := hbel.alloc hbel.size (.cells #[.int .u64 x.no, .int .i64 x.day, .bool x.comp, .slice Ai x.ids.length ci, .int .i64 x.n, .slice Ae x.edges.length ce, .slice Af x.flow.length cf, .slice Ap x.pot.length cp] 64)
          have hcb := (Below.refl wr.heap.size wr).alloc (Nat.le_refl _) (.cells #[.int .u64 x.no, .int .i64 x.day, .bool x.comp, .slice Ai x.ids.length ci, .int .i64 x.n, .slice Ae x.edges.length ce, .slice Af x.flow.length cf, .slice Ap x.pot.length cp] 64)
          have hra2 := (hra.below hcb (Nat.le_trans HB1.out hbel.size)).more (show B ≤ (wr.alloc (.cells #[.int .u64 x.no, .int .i64 x.day, .bool x.comp, .slice Ai x.ids.length ci, .int .i64 x.n, .slice Ae x.edges.length ce, .slice Af x.flow.length cf, .slice Ap x.pot.length cp] 64)).heap.size from Nat.le_trans HB1.out hal.size)
          obtain ⟨fb, hfb⟩ : ∃ fb, Rws.roundFits x = fb := ⟨_, rfl⟩
          have HFB := Lib.hid hfb
          have hprev : j = 0 ∧ okR (s.rounds.take (j + 1)) = Rws.roundFits x ∨ ∃ (k : Nat) (p : Rws.Round), j = k + 1 ∧ wr.cell? ⟨b, off + k * 8, none⟩ = some (.int .u64 p.no) ∧ okR (s.rounds.take (j + 1)) = (Rws.roundFits x && decide (p.no < x.no)) := by
            cases j with
            | zero => exact .inl ⟨rfl, okR_first hx⟩
            | succ k =>
              obtain ⟨b', off', p, _, _, _, _, _, _, _, _, hA', _, hp, _, r0, _⟩ := round_at (HS0.out.rounds.below hbel HB1.out) (show k < s.rounds.length by omega)
              rw [hA] at hA'
              injection hA' with e
              injection e with e1 e2
              subst e1 e2
              exact .inr ⟨k, p, rfl, r0, by rw [okR_step hp hx, hok, Bool.true_and]⟩
          subst hA
          have HIX := Lib.hid hprev
          have HBB := Lib.hid (show b < wr.heap.size from Nat.lt_of_lt_of_le hbb (Nat.le_trans HB1.out hbel.size))
          clear hx hra hok hfb hprev hbel hbb
          go_wp2_with fail
          have HBB2 := Lib.hid (show b < (wr.alloc (.cells #[.int .u64 x.no, .int .i64 x.day, .bool x.comp, .slice Ai x.ids.length ci, .int .i64 x.n, .slice Ae x.edges.length ce, .slice Af x.flow.length cf, .slice Ap x.pot.length cp] 64)).heap.size from Nat.lt_of_lt_of_le HBB.out hcb.size)
          generalize wr.alloc (.cells #[.int .u64 x.no, .int .i64 x.day, .bool x.comp, .slice Ai x.ids.length ci, .int .i64 x.n, .slice Ae x.edges.length ce, .slice Af x.flow.length cf, .slice Ap x.pot.length cp] 64) = wo at hbx hal hbs hcb hra2 HBB2 ⊢
          have HCB := Lib.hid hcb
          have HBX := Lib.hid hbx
          have HBSX := Lib.hid hbs
          have HAL := Lib.hid hal
          have HRA := Lib.hid hra2
          have HBW := Lib.hid (HL0.out.trans (hal.mono HL0.out.size))
          have HBW2 := Lib.hid HBB2.out
          generalize wr.heap.size = hx at hbx HBX ⊢
          clear hcb hal hbx hbs hra2 HBB2 HBB q0 q1 q2 q3 q4 q5 q6 q7
          cases fb with
          | false =>
            have HBAD := Lib.hid (okR_take (l := s.rounds) (j + 1) (by rcases HIX.out with ⟨_, h⟩ | ⟨_, _, _, _, h⟩ <;> rw [h, HFB.out] <;> rfl))
            have g0 := fun d os => cell_regrown (HBX.out.cell 0) d os
            have g1 := fun d os => cell_regrown (HBX.out.cell 1) d os
            have g2 := fun d os => cell_regrown (HBX.out.cell 2) d os
            have g3 := fun d os => cell_regrown (HBX.out.cell 3) d os
            have g4 := fun d os => cell_regrown (HBX.out.cell 4) d os
            have g5 := fun d os => cell_regrown (HBX.out.cell 5) d os
            have g6 := fun d os => cell_regrown (HBX.out.cell 6) d os
            have g7 := fun d os => cell_regrown (HBX.out.cell 7) d os
            refine wp_region_quiet_below (by kernel_rfl) (by kernel_rfl) ?_
            repeat (go_big_quiet_step (with_reducible exact Calls.regrown_of (fits_is wo.heap.size x HFB.out _ (HRA.out.below (below_regrown _ _ _) (Nat.le_refl _)) (below_regrown _ _ _).size)))
            refine wpQuiet_nil ?_
            intro w2 hw2
            have HB := Lib.hid (show Below wo.heap.size wo w2 by obtain ⟨q, rfl⟩ := hw2; exact below_regrown _ _ _)
            clear hw2 g0 g1 g2 g3 g4 g5 g6 g7
            all_goals
              go_wp2_with fail
              go_ret
              exact ⟨ret_bool (by rw [HWD.out, HBAD.out]; rfl), HBW.out.trans (HB.out.mono HBW.out.size)⟩
          | true =>
            rcases HIX.out with ⟨hj0, h⟩ | ⟨k, p, hjk, r0, h⟩
            · rw [HFB.out] at h
              have HNX := Lib.hid h
              have e1 : decide ((0 : Int) < (j : Int)) = false := by simp; omega
              have e2 : decide (0 < j) = false := by simp; omega
              clear h
              have g0 := fun d os => cell_regrown (HBX.out.cell 0) d os
              have g1 := fun d os => cell_regrown (HBX.out.cell 1) d os
              have g2 := fun d os => cell_regrown (HBX.out.cell 2) d os
              have g3 := fun d os => cell_regrown (HBX.out.cell 3) d os
              have g4 := fun d os => cell_regrown (HBX.out.cell 4) d os
              have g5 := fun d os => cell_regrown (HBX.out.cell 5) d os
              have g6 := fun d os => cell_regrown (HBX.out.cell 6) d os
              have g7 := fun d os => cell_regrown (HBX.out.cell 7) d os
              refine wp_region_quiet_below (by kernel_rfl) (by kernel_rfl) ?_
              repeat (go_big_quiet_step (with_reducible exact Calls.regrown_of (fits_is wo.heap.size x HFB.out _ (HRA.out.below (below_regrown _ _ _) (Nat.le_refl _)) (below_regrown _ _ _).size)))
              refine wpQuiet_nil ?_
              intro w2 hw2
              have HB := Lib.hid (show Below wo.heap.size wo w2 by obtain ⟨q, rfl⟩ := hw2; exact below_regrown _ _ _)
              clear hw2 g0 g1 g2 g3 g4 g5 g6 g7
              all_goals
                clear e1 e2
                go_wp2_with fail
                go_roundw
                case rel => exact ⟨j + 1, by omega, by go_num, HNX.out, HAL.out.trans (HB.out.mono HAL.out.size)⟩
                case measure => simp [intOf]; omega
            · rw [HFB.out, Bool.true_and] at h
              have HPR := Lib.hid (cell_below HCB.out r0)
              have HJK := Lib.hid hjk
              have e1 : decide ((0 : Int) < (j : Int)) = true := by simp; omega
              have e2 : decide (0 < j) = true := by simp; omega
              have e3 : IntKind.i64.wrap ((j : Int) - 1) = (k : Int) := by rw [IntKind.wrap_i64]; omega
              have e4 : (j : Int) - 1 = (k : Int) := by omega
              have e5 : (0 : Int) ≤ (k : Int) := by omega
              have e6 : (k : Int) < (s.rounds.length : Int) := by omega
              clear r0 hjk
              by_cases hlt2 : p.no < x.no
              · rw [decide_eq_true hlt2] at h
                have HNX := Lib.hid h
                have e7 : decide (x.no ≤ p.no) = false := by simp; omega
                clear h
                have g0 := fun d os => cell_regrown (HBX.out.cell 0) d os
                have g1 := fun d os => cell_regrown (HBX.out.cell 1) d os
                have g2 := fun d os => cell_regrown (HBX.out.cell 2) d os
                have g3 := fun d os => cell_regrown (HBX.out.cell 3) d os
                have g4 := fun d os => cell_regrown (HBX.out.cell 4) d os
                have g5 := fun d os => cell_regrown (HBX.out.cell 5) d os
                have g6 := fun d os => cell_regrown (HBX.out.cell 6) d os
                have g7 := fun d os => cell_regrown (HBX.out.cell 7) d os
                have g8 := fun d os => cell_regrown (HBSX.out.cell 4) d os
                have g9 := fun d os => cell_regrown HPR.out d os
                refine wp_region_quiet_below (by kernel_rfl) (by kernel_rfl) ?_
                repeat (go_big_quiet_step (with_reducible exact Calls.regrown_of (fits_is wo.heap.size x HFB.out _ (HRA.out.below (below_regrown _ _ _) (Nat.le_refl _)) (below_regrown _ _ _).size)))
                refine wpQuiet_nil ?_
                intro w2 hw2
                have HB := Lib.hid (show Below wo.heap.size wo w2 by obtain ⟨q, rfl⟩ := hw2; exact below_regrown _ _ _)
                clear hw2 g0 g1 g2 g3 g4 g5 g6 g7 g8 g9
                all_goals
                  clear e1 e2 e3 e4 e5 e6 e7
                  go_wp2_with fail
                  go_roundw
                  case rel => exact ⟨j + 1, by omega, by go_num, HNX.out, HAL.out.trans (HB.out.mono HAL.out.size)⟩
                  case measure => simp [intOf]; omega
              · rw [decide_eq_false hlt2] at h
                have HBAD := Lib.hid (okR_take (l := s.rounds) (j + 1) h)
                have e7 : decide (x.no ≤ p.no) = true := by simp; omega
                clear h
                have g0 := fun d os => cell_regrown (HBX.out.cell 0) d os
                have g1 := fun d os => cell_regrown (HBX.out.cell 1) d os
                have g2 := fun d os => cell_regrown (HBX.out.cell 2) d os
                have g3 := fun d os => cell_regrown (HBX.out.cell 3) d os
                have g4 := fun d os => cell_regrown (HBX.out.cell 4) d os
                have g5 := fun d os => cell_regrown (HBX.out.cell 5) d os
                have g6 := fun d os => cell_regrown (HBX.out.cell 6) d os
                have g7 := fun d os => cell_regrown (HBX.out.cell 7) d os
                have g8 := fun d os => cell_regrown (HBSX.out.cell 4) d os
                have g9 := fun d os => cell_regrown HPR.out d os
                refine wp_region_quiet_below (by kernel_rfl) (by kernel_rfl) ?_
                repeat (go_big_quiet_step (with_reducible exact Calls.regrown_of (fits_is wo.heap.size x HFB.out _ (HRA.out.below (below_regrown _ _ _) (Nat.le_refl _)) (below_regrown _ _ _).size)))
                refine wpQuiet_nil ?_
                intro w2 hw2
                have HB := Lib.hid (show Below wo.heap.size wo w2 by obtain ⟨q, rfl⟩ := hw2; exact below_regrown _ _ _)
                clear hw2 g0 g1 g2 g3 g4 g5 g6 g7 g8 g9
                all_goals
                  clear e1 e2 e3 e4 e5 e6 e7
                  go_wp2_with fail
                  go_ret
                  exact ⟨ret_bool (by rw [HWD.out, HBAD.out]; rfl), HBW.out.trans (HB.out.mono HBW.out.size)⟩
        · obtain ⟨rfl⟩ : s.rounds.length = j := by omega
          have hdn : okR s.rounds = true := by rw [List.take_of_length_le (Nat.le_refl _)] at hok; exact hok
          have HWE := Lib.hid (show wv = !(s.asked.any fun x => !decide (x.ask.length ≤ 65535)) by rw [HWD.out, hdn, Bool.true_and])
          have hbs := HBS1.out.below hbel HBS1.out.lt
          have c6 := hbs.cell 6
          simp only [List.getElem?_toArray, List.getElem?_cons_zero, List.getElem?_cons_succ] at c6
          have HASK := Lib.hid (containsAsked_any B Aq s.asked.length cq s.asked wr (HS0.out.asked.below hbel HB1.out) (Nat.le_trans HB1.out hbel.size))
          rw [← (show _ = _ from rfl : (s.asked.any fun x => !decide (x.ask.length ≤ 65535)) = (s.asked.any fun x => !decide (x.ask.length ≤ 65535)))] at HASK
          obtain ⟨ab, hab⟩ : ∃ ab, (s.asked.any fun x => !decide (x.ask.length ≤ 65535)) = ab := ⟨_, rfl⟩
          rw [hab] at HASK HWE
          clear hok hdn hbs hbel HOK hab
          go_wp2_with fail
          refine HASK.out.mono ?_
          rintro e w2 ⟨rfl, hb2⟩
          have HB2 := Lib.hid (HBL.out.trans (hb2.mono HBL.out.size))
          clear hb2
          go_wp2_with fail
          go_ret
          exact ⟨ret_bool HWE.out.symm, HL0.out.trans (HB2.out.mono HL0.out.size)⟩

end Go.Proofs.Ytniekddoaokmkaa

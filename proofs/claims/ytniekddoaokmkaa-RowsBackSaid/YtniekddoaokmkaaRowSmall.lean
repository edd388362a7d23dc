/-
  Layer 23 (rows): numbers and how they are put, walked.
-/
import Derived.Test.YtniekddoaokmkaaRowOct
import Derived.Test.YtniekddoaokmkaaRowRep
import Derived.StillTailTactics
import Derived.Deep.RegionHeld3
import Derived.Deep.RegionLaw
import Derived.Deep.DeepCutAuto
import Derived.Deep.CutBlock
import Derived.Laws.Rows
import Derived.Deep.DrawnRows
import Derived.Test.YtniekddoaokmkaaRowOps
namespace Go.Proofs.Ytniekddoaokmkaa
open Go.RowKit Go.Gab
set_option linter.unusedVariables false
attribute [local go_sem ↓] Go.wp_at_zero Go.wp_at_succ

/-- A number and in how many bytes it stands. -/
def numC (p : Int × Nat) : List Value := [.int .u64 (Rws.u64 p.1 : Nat), .int .i64 (p.2 : Nat)]
def numV (p : Int × Nat) : Value := .agg #[.int .u64 (Rws.u64 p.1 : Nat), .int .i64 (p.2 : Nat)]
def NumTo (p : Int × Nat) (w : World) (e : Ending) (w' : World) : Prop := e = .returned (numV p) ∧ Below w.heap.size w w'

theorem u64_wrap (x : Int) : IntKind.u64.wrap x = ((Rws.u64 x : Nat) : Int) := by
  rw [IntKind.wrap_u64]
  unfold Rws.u64
  omega

theorem n8_any (x : Int) (w : World) : Calls Try.prog 39 #[.int .i64 x] w (NumTo (x, 8) w) := by
  have hw := u64_wrap x
  go_enter Try.func39, Try.ntmps39
  go_wp2_with fail
  exact bodyPost_ret (v := numV (x, 8)) (by simp [results, Try.results39, go_sem, numV]) rfl ⟨rfl, (Below.refl _ _).alloc (Nat.le_refl _) _⟩
theorem n1_any (x : Int) (w : World) : Calls Try.prog 42 #[.int .i64 x] w (NumTo (x, 1) w) := by
  have hw := u64_wrap x
  go_enter Try.func42, Try.ntmps42
  go_wp2_with fail
  exact bodyPost_ret (v := numV (x, 1)) (by simp [results, Try.results42, go_sem, numV]) rfl ⟨rfl, (Below.refl _ _).alloc (Nat.le_refl _) _⟩
theorem n2_any (x : Int) (w : World) : Calls Try.prog 41 #[.int .i64 x] w (NumTo (x, 2) w) := by
  have hw := u64_wrap x
  go_enter Try.func41, Try.ntmps41
  go_wp2_with fail
  exact bodyPost_ret (v := numV (x, 2)) (by simp [results, Try.results41, go_sem, numV]) rfl ⟨rfl, (Below.refl _ _).alloc (Nat.le_refl _) _⟩
theorem n4_any (x : Int) (hx : U32 x) (w : World) : Calls Try.prog 45 #[.int .u32 x] w (NumTo (x, 4) w) := by
  obtain ⟨h0, h1⟩ := hx
  have HU := Lib.hid (show x = ((Rws.u64 x : Nat) : Int) from (Rws.u64_pos h0 (by omega)).symm)
  go_enter Try.func45, Try.ntmps45
  go_wp2_with fail
  exact bodyPost_ret (v := .agg #[.int .u64 x, .int .i64 4]) (by simp [results, Try.results45, go_sem]) rfl ⟨by unfold numV; rw [← HU.out]; rfl, (Below.refl _ _).alloc (Nat.le_refl _) _⟩
theorem u8_any (x : Int) (hx : U64 x) (w : World) : Calls Try.prog 40 #[.int .u64 x] w (NumTo (x, 8) w) := by
  obtain ⟨h0, h1⟩ := hx
  have HU := Lib.hid (show x = ((Rws.u64 x : Nat) : Int) from (Rws.u64_pos h0 h1).symm)
  go_enter Try.func40, Try.ntmps40
  go_wp2_with fail
  exact bodyPost_ret (v := .agg #[.int .u64 x, .int .i64 8]) (by simp [results, Try.results40, go_sem]) rfl ⟨by unfold numV; rw [← HU.out]; rfl, (Below.refl _ _).alloc (Nat.le_refl _) _⟩
theorem infoNum : (Try.prog.info? 87).map (·.size) = some 2 := by kernel_rfl
theorem flag_any (b : Bool) (w : World) : Calls Try.prog 43 #[.bool b] w (NumTo (Rws.flagN b, 1) w) := by
  have b0 := Blk.new w 87 #[.int .u64 0, .int .i64 0]
  have l0 : Below w.heap.size w (w.alloc (.cells #[.int .u64 0, .int .i64 0] 87)) := (Below.refl _ _).alloc (Nat.le_refl _) _
  have HB0 := Lib.hid b0
  have HL0 := Lib.hid l0
  clear b0 l0
  cases b with
  | true =>
    go_enter Try.func43, Try.ntmps43
    go_wp2_with fail
    refine (n1_any 1 _).mono ?_
    rintro e w1 ⟨rfl, hb⟩
    have HB1 := Lib.hid (HB0.out.below hb (by simp))
    have HL1 := Lib.hid (HL0.out.trans (hb.mono (by simp)))
    clear hb
    have hlt : w.heap.size < w1.heap.size := HB1.out.lt
    have c0 := HB1.out.cell 0
    have c1 := HB1.out.cell 1
    have f0 := HB1.out.frozen 0
    have f1 := HB1.out.frozen 1
    simp only [List.getElem?_toArray, List.getElem?_cons_zero, List.getElem?_cons_succ] at c0 c1
    unfold numV
    go_wp2_with fail
    have HB2 := Lib.hid ((HB1.out.set_ 0 (.int .u64 (Rws.u64 1 : Nat))).set_ 1 (.int .i64 (1 : Nat)))
    have HL2 := Lib.hid ((HL1.out.setCell (p := ⟨w.heap.size, 0, none⟩) (Nat.le_refl _) (.int .u64 (Rws.u64 1 : Nat))).setCell (p := ⟨w.heap.size, 1, none⟩) (Nat.le_refl _) (.int .i64 (1 : Nat)))
    exact bodyPost_ret (v := numV (1, 1)) (results_cell_row rfl _ _ w.heap.size 87 #[.int .u64 (Rws.u64 1 : Nat), .int .i64 (1 : Nat)] (0, 0) _ rfl HB2.out Try.underlying87 rfl infoNum) rfl ⟨rfl, HL2.out⟩
  | false =>
    go_enter Try.func43, Try.ntmps43
    go_wp2_with fail
    refine (n1_any 0 _).mono ?_
    rintro e w1 ⟨rfl, hb⟩
    have HB1 := Lib.hid (HB0.out.below hb (by simp))
    have HL1 := Lib.hid (HL0.out.trans (hb.mono (by simp)))
    clear hb
    have hlt : w.heap.size < w1.heap.size := HB1.out.lt
    have c0 := HB1.out.cell 0
    have c1 := HB1.out.cell 1
    have f0 := HB1.out.frozen 0
    have f1 := HB1.out.frozen 1
    simp only [List.getElem?_toArray, List.getElem?_cons_zero, List.getElem?_cons_succ] at c0 c1
    unfold numV
    go_wp2_with fail
    have HB2 := Lib.hid ((HB1.out.set_ 0 (.int .u64 (Rws.u64 0 : Nat))).set_ 1 (.int .i64 (1 : Nat)))
    have HL2 := Lib.hid ((HL1.out.setCell (p := ⟨w.heap.size, 0, none⟩) (Nat.le_refl _) (.int .u64 (Rws.u64 0 : Nat))).setCell (p := ⟨w.heap.size, 1, none⟩) (Nat.le_refl _) (.int .i64 (1 : Nat)))
    exact bodyPost_ret (v := numV (0, 1)) (results_cell_row rfl _ _ w.heap.size 87 #[.int .u64 (Rws.u64 0 : Nat), .int .i64 (1 : Nat)] (0, 0) _ rfl HB2.out Try.underlying87 rfl infoNum) rfl ⟨rfl, HL2.out⟩

/-! ### put -/
/-- A row of numbers, in memory. -/
structure NumsAt (w : World) (B : Nat) (A : Option Addr) (n c : Nat) (l : List (Int × Nat)) : Prop where
  len : l.length = n
  nc : n ≤ c
  cm : c ≤ 9223372036854775807
  row : ∀ (i : Nat) (p : Int × Nat), l[i]? = some p → ∃ b off, A = some ⟨b, off, none⟩ ∧ b < B ∧ w.cell? ⟨b, off + i * 2, none⟩ = some (.int .u64 (Rws.u64 p.1 : Nat)) ∧ w.cell? ⟨b, off + i * 2 + 1, none⟩ = some (.int .i64 (p.2 : Nat))
theorem NumsAt.below {w w' : World} {B B1 : Nat} {A : Option Addr} {n c : Nat} {l : List (Int × Nat)} (h : NumsAt w B A n c l) (hb : Below B1 w w') (hB : B ≤ B1) : NumsAt w' B A n c l :=
  ⟨h.len, h.nc, h.cm, fun i p hp => by
    obtain ⟨b, off, hA, hbb, h1, h2⟩ := h.row i p hp
    exact ⟨b, off, hA, hbb, (hb.cell (Nat.lt_of_lt_of_le hbb hB)).trans h1, (hb.cell (Nat.lt_of_lt_of_le hbb hB)).trans h2⟩⟩
theorem NumsAt.none_ (w : World) (B : Nat) : NumsAt w B none 0 0 [] := ⟨rfl, Nat.le_refl _, by omega, fun i p hp => by simp at hp⟩
def numsC : List (Int × Nat) → List Value
  | [] => []
  | p :: l => .int .u64 (Rws.u64 p.1 : Nat) :: .int .i64 (p.2 : Nat) :: numsC l
theorem numsC_at : ∀ (l : List (Int × Nat)) (i : Nat) (p : Int × Nat), l[i]? = some p → (numsC l)[i * 2]? = some (.int .u64 (Rws.u64 p.1 : Nat)) ∧ (numsC l)[i * 2 + 1]? = some (.int .i64 (p.2 : Nat))
  | [], i, p, h => by simp at h
  | q :: l, 0, p, h => by
    simp at h
    subst h
    exact ⟨rfl, rfl⟩
  | q :: l, i + 1, p, h => by
    have := numsC_at l i p (by simpa using h)
    rw [show (i + 1) * 2 = i * 2 + 1 + 1 by omega, show i * 2 + 1 + 1 + 1 = (i * 2 + 1) + 1 + 1 by omega]
    simpa only [numsC, List.getElem?_cons_succ] using this
/-- A row that has just been laid. -/
theorem NumsAt.of_blk {w : World} {g : Nat} {t : TypeId} {l : List (Int × Nat)} (h : Blk w g t (numsC l).toArray) (hl : l.length ≤ 9223372036854775807) : NumsAt w (g + 1) (some ⟨g, 0, none⟩) l.length l.length l :=
  ⟨rfl, Nat.le_refl _, hl, fun i p hp => by
    obtain ⟨h1, h2⟩ := numsC_at l i p hp
    refine ⟨g, 0, rfl, by omega, ?_, ?_⟩
    · rw [h.cell, Nat.zero_add, List.getElem?_toArray]; exact h1
    · rw [h.cell, Nat.zero_add, List.getElem?_toArray]; exact h2⟩

theorem own_below {w w' : World} {base : Nat} {e : TypeId} {size n : Nat} {v : Value} {xs : List Value} (h : w.ownsRow base e size v n xs) (hb : Below w.heap.size w w') : w'.ownsRow base e size v n xs :=
  h.kept (only_of_below hb none) (Classical.em _)
theorem own_low {w : World} {base base' size n : Nat} {e : TypeId} {v : Value} {xs : List Value} (h : w.ownsRow base e size v n xs) (hb : base' ≤ base) : w.ownsRow base' e size v n xs := by
  rcases h with ⟨h1, h2 | ⟨g, cap, cur, h3, h4, h5⟩⟩
  · exact ⟨h1, .inl h2⟩
  · exact ⟨h1, .inr ⟨g, cap, cur, h3, Nat.le_trans hb h4, h5⟩⟩

/-- Bytes in a row of the call's own. -/
def BytesTo (base : Nat) (w : World) (bs : List UInt8) (e : Ending) (w' : World) : Prop :=
  ∃ A c, e = .returned (.slice A bs.length c) ∧ w'.ownsRow base 5 1 (.slice A bs.length c) bs.length (bs.map byteV) ∧ Below w.heap.size w w'

theorem nums_le (l : List (Int × Nat)) (hk : ∀ p ∈ l, Oct.size (p.2 : Int) = true) : (Rws.nums l).length ≤ 8 * l.length := by
  induction l with
  | nil => simp [Rws.nums]
  | cons p l ih =>
    have h1 := ih (fun q hq => hk q (by simp [hq]))
    have h2 := Oct.size_cases (hk p (by simp))
    rw [Rws.nums_cons, List.length_append, Oct.be_length, List.length_cons]
    omega

set_option maxHeartbeats 1000000 in
theorem rput_any (base B : Nat) (A : Option Addr) (n c : Nat) (bs : List UInt8) (A1 : Option Addr) (n1 c1 : Nat) (l : List (Int × Nat)) (w : World) (hr : w.ownsRow base 5 1 (.slice A n c) n (bs.map byteV)) (hbase : base ≤ w.heap.size) (hr1 : NumsAt w B A1 n1 c1 l) (hB : B ≤ w.heap.size)
    (hn : n ≤ 1000000) (hl : n1 ≤ 100) (hk : ∀ p ∈ l, Oct.size (p.2 : Int) = true) :
    Calls Try.prog 38 #[.slice A n c, .slice A1 n1 c1] w (BytesTo base w (bs ++ Rws.nums l)) := by
  have HR1 := Lib.hid hr1
  have hnc1 := hr1.nc
  have hcm1 := hr1.cm
  have HLEN := Lib.hid hr1.len
  have hbl := (Sl.of_own hr).lenB
  subst hbl
  have HO := Lib.hid hr
  have HK := Lib.hid hk
  have HBZ := Lib.hid hbase
  clear hr hr1 hk hbase
  go_enter Try.func38, Try.ntmps38
  go_wp2_with fail
  go_loopw [0, 9] (fun v i wr => ∃ (j m d : Nat) (A2 : Option Addr), j ≤ n1 ∧ i = .int .i64 j ∧ m = (bs ++ Rws.nums (l.take j)).length ∧ v = .slice A2 m d ∧ wr.ownsRow base 5 1 (.slice A2 m d) m ((bs ++ Rws.nums (l.take j)).map byteV) ∧ Below w.heap.size w wr) (fun _ i _ => n1 - (intOf i).toNat)
  case atStart => exact ⟨0, _, c, A, Nat.zero_le _, rfl, by simp [Rws.nums], rfl, by simpa [Rws.nums] using HO.out, Below.refl _ _⟩
  case round =>
    obtain ⟨j, m, d, A2, hj, rfl, hm, rfl, hown, hbel⟩ := hrel
    have HM := Lib.hid hm
    have HO2 := Lib.hid hown
    have HB := Lib.hid hbel
    clear hm hown hbel
    by_cases hlt : j < n1
    · obtain ⟨p, hp⟩ : ∃ p, l[j]? = some p := ⟨_, List.getElem?_eq_getElem (by rw [HLEN.out]; exact hlt)⟩
      obtain ⟨b, off, rfl, hb, h0, h1⟩ := (HR1.out.below HB.out hB).row j p hp
      have HTK := Lib.hid (take_succ_of hp)
      have HSZ := Lib.hid (HK.out p (List.mem_of_getElem? hp))
      have hml : m ≤ 2000000 := by
        have h2 := nums_le (l.take j) (fun q hq => HK.out q (List.mem_of_mem_take hq))
        have h3 := HM.out
        rw [List.length_append] at h3
        rw [List.length_take] at h2
        have := HLEN.out
        omega
      obtain ⟨x, k⟩ := p
      simp only at h0 h1
      obtain ⟨y, hy⟩ : ∃ y, Rws.u64 x = y := ⟨_, rfl⟩
      have hy2 : y < 18446744073709551616 := by rw [← hy]; exact Rws.u64_lt x
      rw [hy] at h0
      have HY := Lib.hid hy
      clear hp hy
      go_wp2_with fail
      refine (put_any wr.heap.size A2 m d (bs ++ Rws.nums (l.take j)) y (y : Int) (k : Int) rfl hy2 (wr.alloc (.cells #[.int .u64 (y : Int), .int .i64 (k : Int)] 87)) (((Sl.of_own HO2.out).alloc (Nat.le_refl _) _)) (by simp) (by omega)).mono ?_
      rintro e w2 ⟨v, rfl, A3, c3, rfl, hown3, hb3⟩
      have HB3 := Lib.hid ((HB.out.alloc HB.out.size (.cells #[.int .u64 (y : Int), .int .i64 (k : Int)] 87)).trans (hb3.mono (by have := HB.out.size; simp; omega)))
      have hres : Oct.put (bs ++ Rws.nums (l.take j)) y (k : Int) = bs ++ Rws.nums (l.take (j + 1)) := by
        have hsz := HSZ.out
        rw [HTK.out, Rws.nums_snoc, ← List.append_assoc, HY.out]
        unfold Oct.put
        rw [if_pos hsz, Int.toNat_natCast]
      rw [hres] at hown3 ⊢
      obtain ⟨m2, hm2⟩ : ∃ m2, (bs ++ Rws.nums (l.take (j + 1))).length = m2 := ⟨_, rfl⟩
      rw [hm2] at hown3 ⊢
      have HM2 := Lib.hid hm2
      have HO3 := Lib.hid (own_low (base' := base) hown3 (by have := HB.out.size; have := HBZ.out; simp; omega))
      clear hown3 hb3 hres hm2
      go_wp2_with fail
      go_roundw
      case rel => exact ⟨j + 1, m2, c3, A3, by omega, by go_num, HM2.out.symm, rfl, HO3.out, HB3.out⟩
      case measure => simp [intOf]; omega
    · obtain rfl : n1 = j := by omega
      have HTK := Lib.hid (show l.take n1 = l from List.take_of_length_le (by rw [HLEN.out]; exact Nat.le_refl _))
      rw [HTK.out] at HM HO2
      go_wp2_with fail
      go_ret
      have h := HM.out
      subst h
      exact ⟨A2, d, rfl, HO2.out, HB.out⟩

/-- A key. -/
theorem key_any (B : Nat) (k : UInt8) (A1 : Option Addr) (n1 c1 : Nat) (l : List (Int × Nat)) (w : World) (hr1 : NumsAt w B A1 n1 c1 l) (hB : B ≤ w.heap.size) (hl : n1 ≤ 100) (hk : ∀ p ∈ l, Oct.size (p.2 : Int) = true) :
    Calls Try.prog 37 #[.int .u8 (k.toNat : Int), .slice A1 n1 c1] w (BytesTo w.heap.size w (Rws.key k l)) := by
  have HO := Lib.hid (World.ownsRow_lit (base := w.heap.size) (e := 5) (size := 1) w #[.int .u8 (k.toNat : Int)] 1 (Nat.le_refl _) (by unfold maxLen; omega) rfl)
  have HL := Lib.hid ((Below.refl w.heap.size w).alloc (Nat.le_refl _) (.cells #[.int .u8 (k.toNat : Int)] 5))
  have HN := Lib.hid (hr1.below HL.out hB)
  have HK := Lib.hid hk
  clear hr1 hk
  go_enter Try.func37, Try.ntmps37
  go_wp2_with fail
  refine (rput_any w.heap.size B (some ⟨w.heap.size, 0, none⟩) 1 1 [k] A1 n1 c1 l _ HO.out (by simp) HN.out (by simp; omega) (by omega) hl HK.out).mono ?_
  rintro e w2 ⟨A3, c3, rfl, hown, hb⟩
  have HO3 := Lib.hid hown
  have HB3 := Lib.hid (HL.out.trans (hb.mono HL.out.size))
  clear hown hb
  go_wp2_with fail
  go_ret
  exact ⟨A3, c3, rfl, HO3.out, HB3.out⟩

end Go.Proofs.Ytniekddoaokmkaa

/-
  Layer 31 (cascade): some banks fail, walked.
-/
import Derived.Test.YtlkbdmbfbmekaaaCasLack
namespace Go.Proofs.Ytlkbdmbfbmekaaa
open Go.RowKit Go.Gab
set_option linter.unusedVariables false
attribute [local go_sem ↓] Go.wp_at_zero Go.wp_at_succ

def natV (k : Nat) : Value := .int .i64 (k : Int)
theorem infoInt : (Try.prog.info? 3).map (fun i => (i.zero, i.size, i.bytes)) = some (some (.int .i64 0), 1, 8) := by kernel_rfl

/-- Who fails: those that had not, of whom it is so. -/
def who (n : Nat) (d p : Nat → Bool) : List Nat := (List.range n).filter fun k => !d k && p k

theorem who_succ (n : Nat) (d p : Nat → Bool) : who (n + 1) d p = who n d p ++ if !d n && p n then [n] else [] := by
  unfold who
  rw [List.range_succ, List.filter_append]
  congr 1
  cases h : (!d n && p n) <;> simp [h]
theorem who_len (n : Nat) (d p : Nat → Bool) : (who n d p).length ≤ n := by
  unfold who
  exact Nat.le_trans (List.length_filter_le _ _) (by rw [List.length_range]; exact Nat.le_refl _)
theorem who_lt {n k : Nat} {d p : Nat → Bool} (h : k ∈ who n d p) : k < n := by
  unfold who at h
  exact List.mem_range.1 (List.mem_filter.1 h).1

/-- Who failed, and that they are marked. -/
def FailsTo (w : World) (g : Nat) (v0 : Value) (l : List Cas.Due) (d : Nat → Bool) (s : List Nat) (e : Ending) (w' : World) : Prop :=
  ∃ A c, e = .returned (.slice A s.length c) ∧ (s = [] → A = none ∧ c = 0) ∧ w'.ownsRow w.heap.size 3 1 (.slice A s.length c) s.length (s.map natV) ∧
    Blk w' g 84 (bankC v0 (Cas.own l) (Cas.mark d s)) ∧ w.grownBy w' (some g)

theorem only_trans {a b c : World} {row row2 : Option Nat} (h : a.grownBy b row) (k : b.grownBy c row2) (hr : row2 = row ∨ ∀ g, row2 = some g → a.heap.size ≤ g) : a.grownBy c row :=
  ⟨k.os.trans h.os, k.tape.trans h.tape, k.output.trans h.output, Nat.le_trans h.size k.size, fun i hi hne => (k.block i (Nat.lt_of_lt_of_le hi h.size) (by
    rcases hr with rfl | hr
    · exact hne
    · intro h2
      have := hr i h2.symm
      omega)).trans (h.block i hi hne)⟩

theorem mark_snoc (d : Nat → Bool) (s : List Nat) (k : Nat) : updD (Cas.mark d s) k true = Cas.mark d (s ++ [k]) := by
  funext a
  unfold updD Cas.mark
  by_cases h : a = k
  · subst h; simp
  · simp [h]

theorem call57 (args : Array Value) (w : World) : (callFunc 57 args).run Try.prog w = .ok (.enter 57 args) w := by kernel_rfl

set_option maxHeartbeats 2000000 in
set_option maxRecDepth 20000 in
theorem fails_any (F : FuncId) (cap : Value) (p : Nat → Bool) (g B : Nat) (A : Option Addr) (n c : Nat) (xs : List AcctT) (l : List Cas.Due) (d : Nat → Bool) (w : World) (hb : Bank w g B A n c xs l d)
    (hF : ∀ (args : Array Value) (w : World), (callFunc F args).run Try.prog w = .ok (.enter F args) w)
    (hcall : ∀ w', Below w.heap.size w w' → ∀ k : Nat, k < n → Calls Try.prog F #[.int .i64 (k : Int), cap] w' fun e w'' => e = .returned (.bool (p k)) ∧ w' = w'') :
    Calls Try.prog 56 #[.pointer (some ⟨g, 0, none⟩), .func (.func F) #[] #[cap]] w (FailsTo w g (.slice A n c) l d (who n d p)) := by
  have hn16 := hb.n16
  have hnc := hb.acc.nc
  have hcm := hb.acc.cm
  have HOB := Lib.hid hb.obj
  have HC := Lib.hid hcall
  have hgz : g < w.heap.size := hb.obj.lt
  have hc0 := (hb.obj.cell 0).trans (bank_v _ _ _)
  obtain ⟨i0, hi0, hz0, hz1, hz2⟩ := info_parts infoInt
  clear hb hcall
  go_enter Try.func56, Try.ntmps56
  go_wp2_with fail
  clear hc0
  go_loopw [5, 14] (fun v i wr => ∃ (j m e : Nat) (A1 : Option Addr), j ≤ n ∧ i = .int .i64 j ∧ m = (who j d p).length ∧ v = .slice A1 m e ∧ (m = 0 → A1 = none ∧ e = 0) ∧ wr.ownsRow w.heap.size 3 1 (.slice A1 m e) m ((who j d p).map natV) ∧ Below w.heap.size w wr) (fun _ i _ => n - (intOf i).toNat)
  case atStart => exact ⟨0, 0, 0, none, Nat.zero_le _, rfl, rfl, rfl, fun _ => ⟨rfl, rfl⟩, World.ownsRow_nil _ _ _ _, Below.refl _ _⟩
  case round =>
    obtain ⟨j, m, e, A1, hj, rfl, hm, rfl, hnil, hown, hbel⟩ := hrel
    have HM := Lib.hid hm
    have HNIL := Lib.hid hnil
    have HO := Lib.hid hown
    have HBEL := Lib.hid hbel
    have hm16 : m ≤ 16 := by have := who_len j d p; omega
    clear hm hnil hown hbel
    by_cases hlt : j < n
    · have o3 := (((HOB.out.below HBEL.out hgz)).cell (257 + j)).trans (bank_d _ _ _ (by omega))
      have HSUC := Lib.hid (who_succ j d p)
      cases hd : d j with
      | true =>
        rw [hd] at o3
        have HD := Lib.hid (show who (j + 1) d p = who j d p by rw [HSUC.out, hd]; simp)
        clear hd
        go_wp2_with fail
        go_roundw
        case rel => exact ⟨j + 1, m, e, A1, by omega, by go_num, by rw [HD.out]; exact HM.out, rfl, HNIL.out, by rw [HD.out]; exact HO.out, HBEL.out⟩
        case measure => simp [intOf]; omega
      | false =>
        rw [hd] at o3
        cases hp : p j with
        | false =>
          have HD := Lib.hid (show who (j + 1) d p = who j d p by rw [HSUC.out, hd, hp]; simp)
          have HCJ := Lib.hid (HC.out wr HBEL.out j hlt)
          rw [hp] at HCJ
          clear hd hp
          go_wp2_with fail
          refine HCJ.out.mono ?_
          rintro e2 w' ⟨rfl, rfl⟩
          go_wp2_with fail
          go_roundw
          case rel => exact ⟨j + 1, m, e, A1, by omega, by go_num, by rw [HD.out]; exact HM.out, rfl, HNIL.out, by rw [HD.out]; exact HO.out, HBEL.out⟩
          case measure => simp [intOf]; omega
        | true =>
          have HD := Lib.hid (show who (j + 1) d p = who j d p ++ [j] by rw [HSUC.out, hd, hp]; simp)
          have HCJ := Lib.hid (HC.out wr HBEL.out j hlt)
          rw [hp] at HCJ
          clear hd hp
          go_wp2_with fail
          refine HCJ.out.mono ?_
          rintro e2 w' ⟨rfl, rfl⟩
          go_wp2_with (at_builtin
                       refine wpList_append_any _ rfl _ _ _ rfl w.heap.size 3 i0 _ 1 8 Try.underlying47 hi0 hz0 hz1 hz2 rfl (by omega) (.slice A1 m e) _ _ rfl (HO.out.alloc _) (wr.heap.size + 1) (some ⟨wr.heap.size, 0, none⟩) 1 1 [natV j] rfl (by exact (Sl.lit (k := 1) (cap := 1) _ _ _ _ _ _ rfl rfl rfl (by omega) (by omega)).rd) (by simp [natV, Value.oneCell']) (by simp only [maxLen]; omega) (by omega) (by have := HBEL.out.size; simp; omega) ?_
                       intro v4 w4 hown4 hg4 hat4
                       have HB4 := Lib.hid ((HBEL.out.alloc HBEL.out.size _).grown hg4 (by have := HBEL.out.size; simp; omega) (fun q hq => (HO.out.lt q hq).1))
                       obtain ⟨A4, d4, rfl⟩ := own_slice hown4
                       have HO4 := Lib.hid hown4
                       clear hg4 hat4 hown4)
          go_roundw
          case rel => exact ⟨j + 1, m + 1, d4, A4, by omega, by go_num, by rw [HD.out, List.length_append, ← HM.out]; rfl, rfl, fun h => absurd h (by omega), by rw [HD.out, List.map_append]; exact HO4.out, HB4.out⟩
          case measure => simp [intOf]; omega
    · obtain rfl : j = n := by omega
      obtain ⟨s, hs⟩ : ∃ s, who j d p = s := ⟨_, rfl⟩
      have HS := Lib.hid hs
      have HSL := Lib.hid (show ∀ k ∈ s, k < j from fun k hk => who_lt (by rw [hs]; exact hk))
      rw [hs] at HM HO
      clear hs
      obtain ⟨w1, rfl⟩ : ∃ w1 : World, w1 = wr := ⟨_, rfl⟩
      go_wp2_with fail
      go_loopw [36] (fun i wr2 => ∃ t : Nat, t ≤ m ∧ i = .int .i64 t ∧ wr2.ownsRow w.heap.size 3 1 (.slice A1 m e) m (s.map natV) ∧ Blk wr2 g 84 (bankC (.slice A j c) (Cas.own l) (Cas.mark d (s.take t))) ∧ w.grownBy wr2 (some g)) (fun i _ => m - (intOf i).toNat)
      case atStart => exact ⟨0, Nat.zero_le _, rfl, HO.out, by rw [List.take_zero, Cas.mark_nil]; exact HOB.out.below HBEL.out hgz, only_of_below HBEL.out _⟩
      case round =>
        clear HO HBEL
        obtain ⟨t, ht, rfl, hown, hbk, hgr⟩ := hrel
        by_cases hlt2 : t < m
        · obtain ⟨g2, cap, hA, hg2, hgl⟩ := hown.form (by omega)
          injection hA with hA1 _ hA2
          subst hA1 hA2
          have hst : s[t]? = some (s[t]'(by have := HM.out; omega)) := List.getElem?_eq_getElem _
          generalize (s[t]'(by have := HM.out; omega)) = k at hst
          have hk16 : k < 16 := by have := HSL.out k (List.mem_of_getElem? hst); omega
          have hcell : wr.cell? ⟨g2, t, none⟩ = some (.int .i64 (k : Int)) := by
            rw [hown.cellAt t (by omega), List.getElem?_map, hst]; rfl
          have o3 := (hbk.cell (257 + k)).trans (bank_d _ _ _ hk16)
          have of := hbk.frozen (257 + k)
          have HST := Lib.hid hst
          have HO := Lib.hid hown
          have HBK := Lib.hid hbk
          have HGR := Lib.hid hgr
          have hk0 : (0 : Int) ≤ (k : Int) := by omega
          have hk1 : (k : Int) < 16 := by omega
          clear hown hbk hgr hst hgl
          go_wp2_with fail
          go_roundw
          case rel =>
            have h1 := HBK.out.set_ (257 + k) (.bool true)
            rw [bank_setD _ _ _ hk16, mark_snoc, ← take_succ_of HST.out] at h1
            have h2 := only_setCell (World.grownBy.refl wr (some g)) (p := ⟨g, 257 + k, none⟩) (.inl rfl) (.bool true)
            exact ⟨t + 1, by omega, by go_num, HO.out.kept h2 (.inr (own_blk_ne HO.out HBK.out (by decide))), h1, only_trans HGR.out h2 (.inl rfl)⟩
          case measure => simp [intOf]; omega
        · obtain rfl : t = m := by omega
          have HO := Lib.hid hown
          have HBK := Lib.hid hbk
          have HGR := Lib.hid hgr
          have HTK := Lib.hid (show s.take t = s from List.take_of_length_le (by rw [← HM.out]; exact Nat.le_refl _))
          clear hown hbk hgr
          go_wp2_with fail
          go_ret
          have hm := HM.out
          subst hm
          rw [HS.out]
          exact ⟨A1, e, rfl, fun h => HNIL.out (by rw [h]; rfl), HO.out, by have := HBK.out; rw [HTK.out] at this; exact this, HGR.out⟩

end Go.Proofs.Ytlkbdmbfbmekaaa

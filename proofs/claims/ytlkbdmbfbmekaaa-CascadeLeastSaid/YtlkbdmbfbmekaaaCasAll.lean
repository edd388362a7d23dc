/-
  Layer 31 (cascade): who fails in the end, by bank; rows of accounts copied; walked.
-/
import Derived.Test.YtlkbdmbfbmekaaaCasPlaysWalk
import Derived.Test.YtlkbdmbfbmekaaaCasEnd
import Derived.Test.YtlkbdmbfbmekaaaRowOps
namespace Go.Proofs.Ytlkbdmbfbmekaaa
open Go.RowKit Go.Gab
set_option linter.unusedVariables false
attribute [local go_sem ↓] Go.wp_at_zero Go.wp_at_succ

/-- The banks of some rounds, and of some of the next one. -/
def part (rs : List (List Nat)) (s : List Nat) : Nat → Bool := fun k => inRows rs k || s.contains k
theorem part_nil (rs : List (List Nat)) : part rs [] = inRows rs := by
  funext k; simp [part]
theorem part_step (rs : List (List Nat)) (s : List Nat) (x : Nat) : updD (part rs s) x true = part rs (s ++ [x]) := by
  funext k
  unfold updD part
  by_cases h : k = x
  · subst h; simp
  · simp [h]
theorem part_done {rs : List (List Nat)} {i : Nat} {s : List Nat} (h : rs[i]? = some s) : part (rs.take i) s = inRows (rs.take (i + 1)) := by
  funext k
  rw [take_succ_of h]
  simp [part, inRows]
theorem inRows_nil : inRows [] = Cas.none_ := rfl

theorem zero_all : #[Value.bool false, Value.bool false, Value.bool false, Value.bool false, Value.bool false, Value.bool false, Value.bool false, Value.bool false, Value.bool false, Value.bool false, Value.bool false, Value.bool false, Value.bool false, Value.bool false, Value.bool false, Value.bool false] = boolsA (bF 16 Cas.none_) := rfl
theorem infoAll : (Try.prog.info? 59).map (·.size) = some 16 := by kernel_rfl
theorem size_bF (n : Nat) (d : Nat → Bool) : (boolsA (bF n d)).size = n := by simp [boolsA, bF]
theorem one_bF (n : Nat) (d : Nat → Bool) : (boolsA (bF n d)).all (·.oneCell') = true := by
  rw [Array.all_eq_true]
  intro i hi
  simp [boolsA, Value.oneCell']

set_option maxHeartbeats 4000000 in
set_option maxRecDepth 20000 in
theorem all_any (A : Option Addr) (c : Nat) (rs : List (List Nat)) (w : World) (hr : RR w A rs) :
    Calls Try.prog 38 #[.slice A rs.length c] w fun e w' => e = .returned (.agg (boolsA (bF 16 (inRows rs)))) ∧ Below w.heap.size w w' := by
  have HR := Lib.hid hr
  have hlen := hr.len
  obtain ⟨m, hm⟩ : ∃ m, rs.length = m := ⟨_, rfl⟩
  rw [hm] at hlen ⊢
  have HM := Lib.hid hm
  clear hr hm
  go_enter Try.func38, Try.ntmps38
  go_wp2_with fail
  rw [zero_all]
  have bO := (Blk.new w 59 (boolsA (bF 16 Cas.none_))).alloc (.cells (boolsA (bF 16 Cas.none_)) 59)
  have bD := Blk.new (w.alloc (.cells (boolsA (bF 16 Cas.none_)) 59)) 59 (boolsA (bF 16 Cas.none_))
  rw [show (w.alloc (.cells (boolsA (bF 16 Cas.none_)) 59)).heap.size = w.heap.size + 1 by simp] at bD
  have l0 : Below w.heap.size w ((w.alloc (.cells (boolsA (bF 16 Cas.none_)) 59)).alloc (.cells (boolsA (bF 16 Cas.none_)) 59)) := ((Below.refl _ _).alloc (Nat.le_refl _) _).alloc (by simp) _
  generalize (w.alloc (.cells (boolsA (bF 16 Cas.none_)) 59)).alloc (.cells (boolsA (bF 16 Cas.none_)) 59) = W at bO bD l0 ⊢
  obtain ⟨h, hh⟩ : ∃ h, h = w.heap.size := ⟨_, rfl⟩
  rw [← hh] at bO bD ⊢
  have HH := Lib.hid hh
  have HO := Lib.hid bO
  have HD := Lib.hid bD
  have HL := Lib.hid l0
  clear bO bD l0 hh
  go_wp2_with fail
  go_loopw [4] (fun i wr => ∃ j : Nat, j ≤ m ∧ i = .int .i64 j ∧ Blk wr h 59 (boolsA (bF 16 Cas.none_)) ∧ Blk wr (h + 1) 59 (boolsA (bF 16 (inRows (rs.take j)))) ∧ Below w.heap.size w wr) (fun i _ => m - (intOf i).toNat)
  case atStart => exact ⟨0, Nat.zero_le _, rfl, HO.out, by rw [List.take_zero, inRows_nil]; exact HD.out, HL.out⟩
  case round =>
    clear HO HD HL
    obtain ⟨i, hi, rfl, bO, bD, hbel⟩ := hrel
    have HO := Lib.hid bO
    have HD := Lib.hid bD
    have HB := Lib.hid hbel
    clear bO bD hbel
    obtain ⟨wo, rfl⟩ : ∃ wo : World, wo = wr := ⟨_, rfl⟩
    by_cases hlt : i < m
    · obtain ⟨s, hs⟩ : ∃ s, rs[i]? = some s := ⟨_, List.getElem?_eq_getElem (by rw [HM.out]; exact hlt)⟩
      obtain ⟨hsl, b, o, Ai, ci, rfl, hcell, hin⟩ := HR.out.row i s hs
      have HIN := Lib.hid hin
      obtain ⟨n, hn⟩ : ∃ n, s.length = n := ⟨_, rfl⟩
      rw [hn] at hsl hcell
      have HC0 := Lib.hid hcell
      have HN := Lib.hid hn
      have HS := Lib.hid hs
      clear hin hs hn hcell
      go_wp2_with fail
      go_loopw [5] (fun j wr => ∃ t : Nat, t ≤ n ∧ j = .int .i64 t ∧ Blk wr h 59 (boolsA (bF 16 Cas.none_)) ∧ Blk wr (h + 1) 59 (boolsA (bF 16 (part (rs.take i) (s.take t)))) ∧ Below w.heap.size w wr) (fun j _ => n - (intOf j).toNat)
      case atStart => exact ⟨0, Nat.zero_le _, rfl, HO.out, by rw [List.take_zero, part_nil]; exact HD.out, HB.out⟩
      case round =>
        clear HO HD HB
        obtain ⟨t, ht, rfl, bO, bD, hbel⟩ := hrel
        have HO := Lib.hid bO
        have HD := Lib.hid bD
        have HB := Lib.hid hbel
        clear bO bD hbel
        have k0 := cell_below HB.out HC0.out
        by_cases hlt2 : t < n
        · obtain ⟨x, hx⟩ : ∃ x, s[t]? = some x := ⟨_, List.getElem?_eq_getElem (by rw [HN.out]; exact hlt2)⟩
          obtain ⟨bi, oi, rfl, hcx⟩ := HIN.out t x hx
          have k1 := cell_below HB.out hcx
          have HTK := Lib.hid (take_succ_of hx)
          clear hx hcx
          by_cases h16 : x < 16
          · have hx0 : (0 : Int) ≤ (x : Int) := by omega
            have hx1 : (x : Int) < 16 := by omega
            have k2 := HD.out.cell x
            rw [boolsA_get, bF_get _ h16] at k2
            have k3 := HD.out.frozen x
            go_wp2_with fail
            go_roundw
            case rel => exact ⟨t + 1, by omega, by go_num, (HO.out.far (by simp) _), by rw [HTK.out, ← part_step]; exact blk_setF HD.out h16 true, HB.out.setCell (by have := HH.out; simp; omega) _⟩
            case measure => simp [intOf]; omega
          · have hx0 : (0 : Int) ≤ (x : Int) := by omega
            have hx1 : ¬ (x : Int) < 16 := by omega
            go_wp2_with fail
            go_roundw
            case rel => exact ⟨t + 1, by omega, by go_num, HO.out, by rw [HTK.out, ← part_step, bF_congr (d' := part (rs.take i) (s.take t)) (fun k hk => by unfold updD; rw [if_neg (by omega)])]; exact HD.out, HB.out⟩
            case measure => simp [intOf]; omega
        · obtain rfl : n = t := by omega
          have HDN := Lib.hid (show part (rs.take i) (s.take n) = inRows (rs.take (i + 1)) by rw [show s.take n = s from List.take_of_length_le (by rw [HN.out]; exact Nat.le_refl _), part_done HS.out])
          go_wp2_with fail
          go_roundw
          case rel => exact ⟨i + 1, by omega, by go_num, HO.out, by rw [← HDN.out]; exact HD.out, HB.out⟩
          case measure => simp [intOf]; omega
    · obtain rfl : m = i := by omega
      have HDN := Lib.hid (show rs.take m = rs from List.take_of_length_le (by rw [HM.out]; exact Nat.le_refl _))
      rw [HDN.out] at HD
      go_wp2_with (first
        | (refine wpList_load_row rfl _ _ rfl (h + 1) rfl 59 _ (0, 0) _ HD.out Try.underlying59 rfl (infoAll.trans (by rw [size_bF])) ?_)
        | (refine wpList_store_blk rfl _ _ _ rfl (boolsA (bF 16 (inRows rs))) rfl rfl HO.out (by rw [size_bF, size_bF]) (infoAll.trans (by rw [size_bF])) (one_bF _ _) ?_; intro w2 hb2 hg2; have HB2 := Lib.hid hb2; have HG2 := Lib.hid hg2; clear hb2 hg2))
      exact bodyPost_ret (v := .agg (boolsA (bF 16 (inRows rs)))) (results_cell_row rfl _ _ h 59 _ (0, 0) _ rfl HB2.out Try.underlying59 rfl (infoAll.trans (by rw [size_bF]))) rfl ⟨rfl, HB.out.grown HG2.out HB.out.size (fun k hk => by cases hk; have := HH.out; omega)⟩

/-! ### Rows of accounts copied -/
def acctsV : List AcctT → List Value
  | [] => []
  | x :: xs => .int .i64 x.1 :: .int .i64 x.2.1 :: acctsV xs
theorem acctsV_len : ∀ xs : List AcctT, (acctsV xs).length = xs.length * 2
  | [] => rfl
  | x :: xs => by simp only [acctsV, List.length_cons, acctsV_len xs]; omega
theorem acctsV_at : ∀ (xs : List AcctT) (i : Nat) (x : AcctT), xs[i]? = some x → (acctsV xs)[i * 2]? = some (.int .i64 x.1) ∧ (acctsV xs)[i * 2 + 1]? = some (.int .i64 x.2.1)
  | [], i, x, h => by simp at h
  | y :: xs, 0, x, h => by
    simp at h
    subst h
    exact ⟨rfl, rfl⟩
  | y :: xs, i + 1, x, h => by
    have := acctsV_at xs i x (by simpa using h)
    rw [show (i + 1) * 2 = i * 2 + 1 + 1 by omega, show i * 2 + 1 + 1 + 1 = (i * 2 + 1) + 1 + 1 by omega]
    simpa only [acctsV, List.getElem?_cons_succ] using this
theorem acctsV_inv : ∀ (xs : List AcctT) (j : Nat) (u : Value), (acctsV xs)[j]? = some u → ∃ i x, xs[i]? = some x ∧ (j = i * 2 ∧ u = .int .i64 x.1 ∨ j = i * 2 + 1 ∧ u = .int .i64 x.2.1)
  | [], j, u, h => by simp [acctsV] at h
  | x :: xs, 0, u, h => ⟨0, x, rfl, .inl ⟨rfl, (Option.some.inj h).symm⟩⟩
  | x :: xs, 1, u, h => ⟨0, x, rfl, .inr ⟨rfl, (Option.some.inj h).symm⟩⟩
  | x :: xs, j + 2, u, h => by
    obtain ⟨i, y, h1, h2⟩ := acctsV_inv xs j u (by simpa only [acctsV, List.getElem?_cons_succ] using h)
    exact ⟨i + 1, y, by simpa using h1, by
      rcases h2 with ⟨h2, h3⟩ | ⟨h2, h3⟩
      · exact .inl ⟨by omega, h3⟩
      · exact .inr ⟨by omega, h3⟩⟩
theorem acctsV_one (xs : List AcctT) : ∀ u ∈ acctsV xs, u.oneCell' = true := by
  intro u hu
  obtain ⟨j, hj, rfl⟩ := List.getElem_of_mem hu
  obtain ⟨i, x, _, ⟨_, h⟩ | ⟨_, h⟩⟩ := acctsV_inv xs j _ (List.getElem?_eq_getElem hj)
  · rw [h]; rfl
  · rw [h]; rfl
theorem acctsV_set {z : Int} : ∀ (xs : List AcctT) (i : Nat) (x : AcctT), xs[i]? = some x → (acctsV xs).set (i * 2) (.int .i64 z) = acctsV (xs.set i (z, x.2))
  | [], i, x, h => by simp at h
  | y :: xs, 0, x, h => by
    simp at h
    subst h
    rfl
  | y :: xs, i + 1, x, h => by
    have := acctsV_set (z := z) xs i x (by simpa using h)
    rw [show (i + 1) * 2 = i * 2 + 1 + 1 by omega]
    simp only [acctsV, List.set_cons_succ, this]
theorem bal_set {xs : List AcctT} {i : Nat} {x : AcctT} {z : Int} : (xs.set i (z, x.2)).map bal = (xs.map bal).set i z := by
  rw [List.map_set]; rfl

def AcctWf (xs : List AcctT) : Prop := ∀ x ∈ xs, (Lit.int .i64 x.1).wf = true ∧ (Lit.int .i64 x.2.1).wf = true
theorem acct_rel {w : World} {B : Nat} {cs : List Value} {x : AcctT} (h : acctR.rel w B cs x) : cs = [.int .i64 x.1, .int .i64 x.2.1] ∧ (Lit.int .i64 x.1).wf = true ∧ (Lit.int .i64 x.2.1).wf = true := by
  obtain ⟨c1, r1, rfl, _, ⟨rfl, w1⟩, c2, r2, rfl, _, ⟨rfl, w2⟩, h3⟩ := h
  have h3' : r2 = [] := h3
  subst h3'
  exact ⟨rfl, w1, w2⟩
theorem acct_wf {w : World} {B : Nat} {A : Option Addr} {n c : Nat} {xs : List AcctT} (h : SlR acctR w B A n c xs) : AcctWf xs := by
  intro x hx
  obtain ⟨i, hi, rfl⟩ := List.getElem_of_mem hx
  obtain ⟨b, off, y, cs, hA, hb, hy, hrel, _⟩ := h.row i (by have := h.len; omega)
  rw [List.getElem?_eq_getElem hi] at hy
  injection hy with hy
  rw [hy]
  exact (acct_rel hrel).2
theorem acct_reads {w : World} {B : Nat} {A : Option Addr} {n c : Nat} {xs : List AcctT} (h : SlR acctR w B A n c xs) : Reads w B 2 A n (acctsV xs) := by
  refine ⟨by rw [acctsV_len, h.len], fun hn => ?_⟩
  obtain ⟨b, off, y, cs, hA, hb, _⟩ := h.row 0 hn
  refine ⟨⟨b, off, none⟩, hA, hb, fun j u hu => ?_⟩
  obtain ⟨i, x, hx, hc⟩ := acctsV_inv xs j u hu
  have hi : i < n := by have := (List.getElem?_eq_some_iff.1 hx).1; have := h.len; omega
  obtain ⟨b', off', y', cs', hA', _, hy, hrel, _, hcell⟩ := h.row i hi
  rw [hA] at hA'
  injection hA' with e
  injection e with e1 e2
  subst e1 e2
  rw [hx] at hy
  injection hy with hy
  subst hy
  obtain ⟨rfl, _⟩ := acct_rel hrel
  have e : (⟨b, off, none⟩ : Addr).add j = ⟨b, off + j, none⟩ := by unfold Addr.add; split <;> simp_all
  rw [e]
  rcases hc with ⟨rfl, rfl⟩ | ⟨rfl, rfl⟩
  · exact hcell 0 _ rfl
  · exact hcell 1 _ rfl
theorem acct_of_own {w : World} {base : Nat} {t : TypeId} {A : Option Addr} {n c : Nat} {xs : List AcctT} (h : w.ownsRow base t 2 (.slice A n c) n (acctsV xs)) (hwf : AcctWf xs) : SlR acctR w w.heap.size A n c xs := by
  have s := Sl.of_own h
  have hl : xs.length = n := by have := s.rd.1; rw [acctsV_len] at this; omega
  refine ⟨hl, s.nc, s.cm, fun i hi => ?_⟩
  obtain ⟨b, off, hA, hb, hc⟩ := s.rd.place (by omega) (by omega : 0 < n)
  have hx : xs[i]? = some (xs[i]'(by omega)) := List.getElem?_eq_getElem (by omega)
  obtain ⟨h1, h2⟩ := acctsV_at xs i _ hx
  have hw := hwf (xs[i]'(by omega)) (List.getElem_mem _)
  refine ⟨b, off, _, [.int .i64 (xs[i]'(by omega)).1, .int .i64 (xs[i]'(by omega)).2.1], hA, hb, hx, ⟨_, _, rfl, rfl, ⟨rfl, hw.1⟩, ⟨_, [], rfl, rfl, ⟨rfl, hw.2⟩, rfl⟩⟩, rfl, fun j v hv => ?_⟩
  match j, hv with
  | 0, hv =>
    injection hv with hv
    subst hv
    exact hc _ _ h1
  | 1, hv =>
    injection hv with hv
    subst hv
    exact hc _ _ h2

end Go.Proofs.Ytlkbdmbfbmekaaa

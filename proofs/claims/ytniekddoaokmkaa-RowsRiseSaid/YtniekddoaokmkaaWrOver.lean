/-
  The reference of layer 23 (rows), walked: what is written over pairs.
-/
import Derived.Test.YtniekddoaokmkaaWrRefs
namespace Go.Proofs.Ytniekddoaokmkaa
open Go.RowKit Go.Gab
set_option linter.unusedVariables false
attribute [local go_sem ↓] Go.wp_at_zero Go.wp_at_succ

/-- Two cells that read as a pair. -/
def PairC (w : World) (B : Nat) (u v : Value) (p : Rws.Pair) : Prop :=
  ∃ A1 c1 A2 c2, u = .slice A1 p.1.length c1 ∧ v = .slice A2 p.2.length c2 ∧ BytesAt w B A1 p.1.length c1 p.1 ∧ BytesAt w B A2 p.2.length c2 p.2
theorem PairC.keep {w w' : World} {B : Nat} {u v : Value} {p : Rws.Pair} (h : PairC w B u v p) (hk : ∀ a : Addr, a.block < B → w'.cell? a = w.cell? a) : PairC w' B u v p := by
  obtain ⟨A1, c1, A2, c2, e1, e2, b1, b2⟩ := h
  exact ⟨A1, c1, A2, c2, e1, e2, ⟨b1.sl.keep hk, b1.cm⟩, ⟨b2.sl.keep hk, b2.cm⟩⟩
theorem PairC.one {w : World} {B : Nat} {u v : Value} {p : Rws.Pair} (h : PairC w B u v p) : ∀ x ∈ [u, v], x.oneCell' = true := by
  obtain ⟨A1, c1, A2, c2, rfl, rfl, b1, b2⟩ := h
  simp [Value.oneCell']
def PairCs (w : World) (B : Nat) (cells : List Value) (ps : List Rws.Pair) : Prop :=
  ∀ (i : Nat) (p : Rws.Pair), ps[i]? = some p → ∃ u v, cells[i * 2]? = some u ∧ cells[i * 2 + 1]? = some v ∧ PairC w B u v p
/-- Pairs in a row of the call's own, whose bytes lie below. -/
def RowP (w : World) (base B : Nat) (v : Value) (ps : List Rws.Pair) : Prop := ∃ cells : List Value, w.ownsRow base 42 2 v ps.length cells ∧ PairCs w B cells ps
section
variable {w w' : World} {base B : Nat} {v : Value} {ps : List Rws.Pair} {cells : List Value}
theorem RowP.nil_ (w : World) (base B : Nat) : RowP w base B (.slice none 0 0) [] := ⟨[], World.ownsRow_nil _ _ _ _, fun i p h => by simp at h⟩
theorem PairCs.keep (h : PairCs w B cells ps) (hk : ∀ a : Addr, a.block < B → w'.cell? a = w.cell? a) : PairCs w' B cells ps := fun i p hp => by
  obtain ⟨u, x, e1, e2, h1⟩ := h i p hp
  exact ⟨u, x, e1, e2, h1.keep hk⟩
theorem RowP.slice_ (h : RowP w base B v ps) : ∃ A c, v = .slice A ps.length c := by
  obtain ⟨cells, o, _⟩ := h
  exact own_slice o
theorem RowP.drewN (h : RowP w base B v ps) (k : Nat) : RowP (w.drewN k) base B v ps := by
  obtain ⟨cells, o, hc⟩ := h
  exact ⟨cells, o, hc.keep fun _ _ => rfl⟩
theorem PairCs.snoc {n : Nat} (h : PairCs w B cells ps) (hl : cells.length = n * 2) (hn : ps.length = n) {u x : Value} {p : Rws.Pair} (h1 : PairC w B u x p) : PairCs w B (cells ++ [u, x]) (ps ++ [p]) := fun i q hq => by
  by_cases hi : i < n
  · rw [List.getElem?_append_left (by omega)] at hq
    obtain ⟨u1, u2, e1, e2, e3⟩ := h i q hq
    exact ⟨u1, u2, by rw [List.getElem?_append_left (by omega)]; exact e1, by rw [List.getElem?_append_left (by omega)]; exact e2, e3⟩
  · rw [List.getElem?_append_right (by omega)] at hq
    have hi0 : i - ps.length = 0 := by
      have := (List.getElem?_eq_some_iff.1 hq).1
      simp at this
      omega
    rw [hi0] at hq
    simp at hq
    subst hq
    have hin : i = n := by omega
    subst hin
    refine ⟨u, x, ?_, ?_, h1⟩
    · rw [List.getElem?_append_right (by omega), hl, Nat.sub_self]; rfl
    · rw [List.getElem?_append_right (by omega), hl, show i * 2 + 1 - i * 2 = 1 by omega]; rfl
theorem PairCs.put_ {j : Nat} (h : PairCs w B cells ps) (hl : cells.length = ps.length * 2) (hj : j < ps.length) {u x : Value} {p : Rws.Pair} (h1 : PairC w B u x p) : PairCs w B ((cells.set (j * 2) u).set (j * 2 + 1) x) (ps.set j p) := fun i q hq => by
  rw [List.getElem?_set] at hq
  by_cases hij : j = i
  · subst hij
    rw [if_pos rfl, if_pos hj] at hq
    injection hq with hq
    subst hq
    refine ⟨u, x, ?_, ?_, h1⟩
    · rw [List.getElem?_set_ne (by omega), List.getElem?_set_self (by omega)]
    · rw [List.getElem?_set_self (by rw [List.length_set]; omega)]
  · rw [if_neg hij] at hq
    obtain ⟨u1, u2, e1, e2, e3⟩ := h i q hq
    refine ⟨u1, u2, ?_, ?_, e3⟩
    · rw [List.getElem?_set_ne (by omega), List.getElem?_set_ne (by omega)]; exact e1
    · rw [List.getElem?_set_ne (by omega), List.getElem?_set_ne (by omega)]; exact e2
theorem PairC.of (A1 A2 : Option Addr) (c1 c2 : Nat) {p : Rws.Pair} (h1 : BytesAt w B A1 p.1.length c1 p.1) (h2 : BytesAt w B A2 p.2.length c2 p.2) : PairC w B (.slice A1 p.1.length c1) (.slice A2 p.2.length c2) p := ⟨A1, c1, A2, c2, rfl, rfl, h1, h2⟩
/-- As it is read. -/
theorem RowP.slr {A : Option Addr} {c : Nat} (h : RowP w base B (.slice A ps.length c) ps) (hB : B ≤ w.heap.size) : SlR pairR w w.heap.size A ps.length c ps := by
  obtain ⟨cells, o, hc⟩ := h
  have s := Sl.of_own o
  refine ⟨rfl, s.nc, s.cm, fun i hi => ?_⟩
  obtain ⟨b, off, hA, hb, hcell⟩ := s.rd.place (by omega) (by omega : 0 < ps.length)
  obtain ⟨v1, v2, e1, e2, A1, c1, A2, c2, rfl, rfl, b1, b2⟩ := hc i ps[i] (List.getElem?_eq_getElem hi)
  refine ⟨b, off, ps[i], _, hA, hb, List.getElem?_eq_getElem hi, pair_mk (b1.more hB) (b2.more hB), rfl, fun j v hv => ?_⟩
  match j, hv with
  | 0, hv =>
    injection hv with hv
    subst hv
    exact hcell _ _ e1
  | 1, hv =>
    injection hv with hv
    subst hv
    exact hcell _ _ e2
end

/-! ### Writes, as they are read -/
/-- An element of a row of writes. -/
structure WrAt (w : World) (B : Nat) (A : Option Addr) (n c : Nat) (ws : List Rws.Wr) : Prop where
  len : ws.length = n
  nc : n ≤ c
  cm : c ≤ 9223372036854775807
  row : ∀ i p, ws[i]? = some p → ∃ b off A1 A2 c1 c2, A = some ⟨b, off, none⟩ ∧ b < B ∧ w.cell? ⟨b, off + i * 3, none⟩ = some (.slice A1 p.1.length c1) ∧ w.cell? ⟨b, off + i * 3 + 1, none⟩ = some (.slice A2 p.2.1.length c2) ∧
    w.cell? ⟨b, off + i * 3 + 2, none⟩ = some (.bool p.2.2) ∧ BytesAt w B A1 p.1.length c1 p.1 ∧ BytesAt w B A2 p.2.1.length c2 p.2.1
theorem WrAt.keep {w w' : World} {B : Nat} {A : Option Addr} {n c : Nat} {ws : List Rws.Wr} (h : WrAt w B A n c ws) (hk : ∀ a : Addr, a.block < B → w'.cell? a = w.cell? a) : WrAt w' B A n c ws :=
  ⟨h.len, h.nc, h.cm, fun i p hp => by
    obtain ⟨b, off, A1, A2, c1, c2, hA, hb, q0, q1, q2, b1, b2⟩ := h.row i p hp
    exact ⟨b, off, A1, A2, c1, c2, hA, hb, (hk _ hb).trans q0, (hk _ hb).trans q1, (hk _ hb).trans q2, ⟨b1.sl.keep hk, b1.cm⟩, ⟨b2.sl.keep hk, b2.cm⟩⟩⟩
theorem OwnWrs.at_ {w : World} {base : Nat} {A : Option Addr} {c : Nat} {ws : List Rws.Wr} (h : OwnWrs w base (.slice A ws.length c) ws) : WrAt w w.heap.size A ws.length c ws := by
  obtain ⟨cells, o, hc⟩ := h
  have s := Sl.of_own o
  refine ⟨rfl, s.nc, s.cm, fun i p hp => ?_⟩
  have hi : i < ws.length := (List.getElem?_eq_some_iff.1 hp).1
  obtain ⟨b, off, hA, hb, hcell⟩ := s.rd.place (by omega) (by omega : 0 < ws.length)
  obtain ⟨v1, v2, e1, e2, e3, b1, b2⟩ := hc i p hp
  obtain ⟨A1, c1, rfl, B1⟩ := b1.bytesAt
  obtain ⟨A2, c2, rfl, B2⟩ := b2.bytesAt
  exact ⟨b, off, A1, A2, c1, c2, hA, hb, hcell _ _ e1, hcell _ _ e2, hcell _ _ e3, B1, B2⟩

/-- Pairs written over, in a row of the call's own. -/
def OverTo (B : Nat) (ps : List Rws.Pair) (w : World) (e : Ending) (w' : World) : Prop :=
  ∃ A c, e = .returned (.slice A ps.length c) ∧ RowP w' w.heap.size B (.slice A ps.length c) ps ∧ Below w.heap.size w w'

theorem infoPairO : (Try.prog.info? 42).map (fun i => (i.zero, i.size, i.bytes)) = some (some (.agg #[.slice none 0 0, .slice none 0 0]), 2, 48) := by kernel_rfl
theorem keep_grown {w w' : World} {v : Value} {base B : Nat} (hg : w.grownBy w' v.ownBlock) (hlt : ∀ q, v.ownBlock = some q → base ≤ q) (hB : B ≤ base) (hs : base ≤ w.heap.size) (a : Addr) (ha : a.block < B) : w'.cell? a = w.cell? a :=
  World.cell?_of_block (hg.block a.block (by omega) (fun e => by have := hlt _ e.symm; omega))

set_option maxHeartbeats 4000000 in
set_option maxRecDepth 100000 in
theorem refOver_any (B : Nat) (l : List Rws.Pair) (ws : List Rws.Wr) (A A2 : Option Addr) (n c n2 c2 : Nat) (w : World) (hl : SlR pairR w B A n c l) (hw : WrAt w B A2 n2 c2 ws) (hB : B ≤ w.heap.size) (hn : n + n2 ≤ 1000000) :
    Calls Try.prog 16 #[.slice A n c, .slice A2 n2 c2] w (OverTo B (Rws.over l ws) w) := by
  have HL := Lib.hid hl
  have HW := Lib.hid hw
  have HB0 := Lib.hid hB
  have HLN := Lib.hid hl.len
  have HWN := Lib.hid hw.len
  have h1 := hl.nc
  have h2 := hl.cm
  have h3 := hw.nc
  have h4 := hw.cm
  have HN := Lib.hid hn
  have KP := Lib.hid (fun (w' : World) (hb : Below w.heap.size w w') (a : Addr) (ha : a.block < B) => (show w'.cell? a = w.cell? a from hb.cell (Nat.lt_of_lt_of_le ha hB)))
  obtain ⟨i0, hi0, hz0, hz1, hz2⟩ := info_parts infoPairO
  clear hl hw hB hn
  go_enter Try.func16, Try.ntmps16
  go_wp2_with fail
  go_loopw [5, 6] (fun v i wr => ∃ (j m d : Nat) (A5 : Option Addr) (ps : List Rws.Pair), j ≤ n ∧ i = .int .i64 j ∧ v = .slice A5 m d ∧ ps.length = m ∧ ps = Rws.keep (l.take j) ws ∧ RowP wr w.heap.size B (.slice A5 m d) ps ∧ Below w.heap.size w wr) (fun _ i _ => n - (intOf i).toNat)
  case atStart => exact ⟨0, 0, 0, none, [], Nat.zero_le _, rfl, rfl, rfl, rfl, RowP.nil_ _ _ _, Below.refl _ _⟩
  case round =>
    obtain ⟨j, m, d, A5, ps, hj, rfl, rfl, hm, hps, hrow, hbel⟩ := hrel
    have HM := Lib.hid hm
    have HPS := Lib.hid hps
    have HR := Lib.hid hrow
    have HBL := Lib.hid hbel
    have hmn : m ≤ n := by
      have h1 := Rws.keep_len (l.take j) ws
      rw [← hps, List.length_take, hm] at h1
      omega
    clear hm hps hrow hbel
    obtain ⟨wo, rfl⟩ : ∃ w1, w1 = wr := ⟨_, rfl⟩
    by_cases hlt : j < n
    · have g1 : (j : Int) < (n : Int) := by omega
      have g2 : (0 : Int) ≤ (j : Int) := by omega
      obtain ⟨b, off, x, A1, B1, c1, d1, hA, hb, hx, p0, p1, y1, y2⟩ := pair_at (HL.out.keep (KP.out _ HBL.out)) hlt
      subst hA
      have HST := Lib.hid (Rws.keep_step (ws := ws) hx)
      have HY1 := Lib.hid y1
      have HY2 := Lib.hid y2
      have HP0 := Lib.hid p0
      have HP1 := Lib.hid p1
      clear hx y1 y2 hb p0 p1
      go_wp2_with fail
      go_loopw [7, 8] (fun v i wr => ∃ (k q : Nat), k ≤ n2 ∧ i = .int .i64 k ∧ v = .bool ((ws.take k).any fun w => w.1 == x.1) ∧ wr = wo.drewN q) (fun _ i _ => n2 - (intOf i).toNat)
      case atStart => exact ⟨0, 0, Nat.zero_le _, rfl, rfl, rfl⟩
      case round =>
        obtain ⟨k, q, hk, rfl, rfl, rfl⟩ := hrel
        by_cases hlt2 : k < n2
        · have g3 : (k : Int) < (n2 : Int) := by omega
          have g4 : (0 : Int) ≤ (k : Int) := by omega
          obtain ⟨y, hy⟩ : ∃ y, ws[k]? = some y := ⟨_, List.getElem?_eq_getElem (by rw [HWN.out]; exact hlt2)⟩
          obtain ⟨b2, off2, A1', A2', c1', c2', hA2, hb2, r0, r1, r2, z1, z2⟩ := (HW.out.keep (KP.out _ HBL.out)).row k y hy
          subst hA2
          have HAN := Lib.hid (Rws.any_step (fun w => w.1 == x.1) hy)
          have k1 := fun k => run_string_of (P := Try.prog) (dst := 9) Try.underlying40 Try.underlying5 Try.underlying9 ((HY1.out.sl.drewN q).drewN k)
          have k2 := fun k => run_string_of (P := Try.prog) (dst := 9) Try.underlying40 Try.underlying5 Try.underlying9 ((z1.sl.drewN q).drewN k)
          have p0 := HP0.out
          have p0' : (wo.drewN q).cell? ⟨b, off + j * 2, none⟩ = some (.slice A1 x.1.length c1) := p0
          have r0' : (wo.drewN q).cell? ⟨b2, off2 + k * 3, none⟩ = some (.slice A1' y.1.length c1') := r0
          obtain ⟨wq, hwq⟩ : ∃ wq, wo.drewN q = wq := ⟨_, rfl⟩
          rw [hwq] at k1 k2 p0' r0' ⊢
          have HWQ := Lib.hid hwq
          obtain ⟨is, his⟩ : ∃ is, ((ws.take k).any fun w => w.1 == x.1) = is := ⟨_, rfl⟩
          rw [his] at HAN ⊢
          clear hy hb2 r0 r1 r2 z1 z2 p0 hwq his
          cases is with
          | true =>
            go_wp2_with fail
            go_quiet (fail)
            obtain ⟨w2, hw2⟩ : ∃ w2, wq.drewN nq = w2 := ⟨_, rfl⟩
            have HW2 := Lib.hid (show ∃ q', w2 = wo.drewN q' by rw [← hw2, ← HWQ.out]; exact ⟨q + nq, by rw [World.drewN_drewN]⟩)
            rw [hw2]
            clear hw2
            go_wp2_with fail
            go_roundw
            case rel =>
              obtain ⟨q', hq'⟩ := HW2.out
              exact ⟨k + 1, q', by omega, by go_num, by rw [HAN.out]; rfl, hq'⟩
            case measure => simp [intOf]; omega
          | false =>
            go_wp2_with fail
            go_quiet (fail)
            obtain ⟨w2, hw2⟩ : ∃ w2, wq.drewN nq = w2 := ⟨_, rfl⟩
            have HW2 := Lib.hid (show ∃ q', w2 = wo.drewN q' by rw [← hw2, ← HWQ.out]; exact ⟨q + nq, by rw [World.drewN_drewN]⟩)
            rw [hw2]
            clear hw2
            go_wp2_with fail
            go_roundw
            case rel =>
              obtain ⟨q', hq'⟩ := HW2.out
              exact ⟨k + 1, q', by omega, by go_num, by rw [HAN.out, Bool.false_or], hq'⟩
            case measure => simp [intOf]; omega
        · have g3 : ¬ ((k : Int) < (n2 : Int)) := by omega
          rw [List.take_of_length_le (show ws.length ≤ k by rw [HWN.out]; omega)]
          obtain ⟨is, his⟩ : ∃ is, (ws.any fun w => w.1 == x.1) = is := ⟨_, rfl⟩
          rw [his] at HST ⊢
          have HBQ := Lib.hid (below_drewN HBL.out q)
          have HRQ := Lib.hid (HR.out.drewN q)
          have p0' : (wo.drewN q).cell? ⟨b, off + j * 2, none⟩ = some (.slice A1 x.1.length c1) := HP0.out
          have p1' : (wo.drewN q).cell? ⟨b, off + j * 2 + 1, none⟩ = some (.slice B1 x.2.length d1) := HP1.out
          have HYQ := Lib.hid (PairC.of A1 B1 c1 d1 (⟨HY1.out.sl.drewN q, HY1.out.cm⟩ : BytesAt (wo.drewN q) B A1 x.1.length c1 x.1) (⟨HY2.out.sl.drewN q, HY2.out.cm⟩ : BytesAt (wo.drewN q) B B1 x.2.length d1 x.2))
          generalize wo.drewN q = wq at HBQ HRQ p0' p1' HYQ ⊢
          clear his
          cases is with
          | true =>
            go_wp2_with fail
            go_roundw
            case rel => exact ⟨j + 1, m, d, A5, ps, by omega, by go_num, rfl, HM.out, by rw [HPS.out, HST.out]; simp, HRQ.out, HBQ.out⟩
            case measure => simp [intOf]; omega
          | false =>
            obtain ⟨cells, hown, hcs⟩ := HRQ.out
            have HOW := Lib.hid (show wq.ownsRow w.heap.size 42 2 (.slice A5 m d) m cells by rw [HM.out] at hown; exact hown)
            have HCS := Lib.hid hcs
            clear hown hcs
            go_wp2_with (at_builtin
                         refine wpList_append_any _ rfl _ _ _ rfl w.heap.size 42 i0 _ 2 48 Try.underlying32 hi0 hz0 hz1 hz2 rfl (by omega) (.slice A5 m d) m cells rfl (HOW.out.alloc _) (wq.heap.size + 1) (some ⟨wq.heap.size, 0, none⟩) 1 1 [.slice A1 x.1.length c1, .slice B1 x.2.length d1] rfl (by exact (Sl.lit (size := 2) (k := 1) (cap := 1) _ _ _ _ _ _ rfl rfl rfl (by omega) (by omega)).rd) (by simp [Value.oneCell']) (by have := HN.out; simp only [maxLen]; omega) (by have := HN.out; omega) (by have := HBQ.out.size; simp; omega) ?_
                         intro v9 w9 hown9 hgr9 hblk9
                         obtain ⟨A9, d9, rfl⟩ := own_slice hown9
                         have HO9 := Lib.hid hown9
                         have HG9 := Lib.hid (only_trans_alloc hgr9)
                         clear hown9 hgr9 hblk9)
            have HLT := Lib.hid (fun q (hq : (Value.slice A5 m d).ownBlock = some q) => (HOW.out.lt q hq).1)
            have HB9 := Lib.hid (HBQ.out.grown HG9.out HBQ.out.size HLT.out)
            have HK9 := Lib.hid (keep_grown HG9.out HLT.out HB0.out HBQ.out.size)
            have HR9 := Lib.hid (show RowP w9 w.heap.size B (.slice A9 (m + 1) d9) (ps ++ [x]) from
              ⟨cells ++ [.slice A1 x.1.length c1, .slice B1 x.2.length d1], by rw [List.length_append, List.length_singleton, HM.out]; exact HO9.out, (HCS.out.keep HK9.out).snoc (by have := HOW.out.1; omega) HM.out (HYQ.out.keep HK9.out)⟩)
            go_wp2_with fail
            go_roundw
            case rel => exact ⟨j + 1, m + 1, d9, A9, ps ++ [x], by omega, by go_num, rfl, by simp [HM.out], by rw [HPS.out, HST.out]; simp, HR9.out, HB9.out⟩
            case measure => simp [intOf]; omega
    · have g1 : ¬ ((j : Int) < (n : Int)) := by omega
      have HPF := Lib.hid (show ps = Rws.keep l ws by rw [HPS.out, List.take_of_length_le (by rw [HLN.out]; omega)])
      clear HPS
      go_wp2_with fail
      go_loopw [5, 9] (fun v i wr => ∃ (k m d : Nat) (A5 : Option Addr) (ps : List Rws.Pair), k ≤ n2 ∧ i = .int .i64 k ∧ v = .slice A5 m d ∧ ps.length = m ∧ ps = (ws.take k).foldl Rws.insW (Rws.keep l ws) ∧ RowP wr w.heap.size B (.slice A5 m d) ps ∧ Below w.heap.size w wr) (fun _ i _ => n2 - (intOf i).toNat)
      case atStart => exact ⟨0, m, d, A5, ps, Nat.zero_le _, rfl, rfl, HM.out, HPF.out, HR.out, HBL.out⟩
      case round =>
        clear HM HR HBL HPF hmn g1
        obtain ⟨k, m, d, A5, ps, hk, rfl, rfl, hm, hps, hrow, hbel⟩ := hrel
        have HM := Lib.hid hm
        have HPS := Lib.hid hps
        have HR := Lib.hid hrow
        have HBL := Lib.hid hbel
        have hmn : m ≤ n + n2 := by
          have h1 := Rws.fold_len (ws.take k) (Rws.keep l ws)
          have h2 := Rws.keep_len l ws
          rw [← hps, List.length_take, hm] at h1
          have := HLN.out
          omega
        clear hm hps hrow hbel
        obtain ⟨wp, rfl⟩ : ∃ w1, w1 = wr := ⟨_, rfl⟩
        by_cases hlt2 : k < n2
        · have g3 : (k : Int) < (n2 : Int) := by omega
          have g4 : (0 : Int) ≤ (k : Int) := by omega
          obtain ⟨y, hy⟩ : ∃ y, ws[k]? = some y := ⟨_, List.getElem?_eq_getElem (by rw [HWN.out]; exact hlt2)⟩
          obtain ⟨b2, off2, G1', G2', d1', d2', hA2, hb2, r0, r1, r2, z1, z2⟩ := (HW.out.keep (KP.out _ HBL.out)).row k y hy
          subst hA2
          have HFS := Lib.hid (Rws.fold_step (Rws.keep l ws) hy)
          obtain ⟨gone, hgone⟩ : ∃ gone, y.2.2 = gone := ⟨_, rfl⟩
          rw [hgone] at r2
          have HGO := Lib.hid hgone
          obtain ⟨_, _, A1', A2', c1', c2', hA3, hb3, s0, s1, _, t1, t2⟩ := HW.out.row k y hy
          obtain ⟨rfl, rfl⟩ : b2 = _ ∧ off2 = _ := by injection hA3 with e; injection e with e1 e2; exact ⟨e1, e2⟩
          have e0 := (KP.out _ HBL.out ⟨b2, off2 + k * 3, none⟩ hb3).symm.trans r0
          have e1 := (KP.out _ HBL.out ⟨b2, off2 + k * 3 + 1, none⟩ hb3).symm.trans r1
          rw [s0] at e0
          rw [s1] at e1
          injection e0 with e0
          injection e0 with e0 _ e0'
          injection e1 with e1
          injection e1 with e1 _ e1'
          subst e0 e0' e1 e1'
          have HR0 := Lib.hid (fun w' (hh : Below w.heap.size w w') => (KP.out w' hh ⟨b2, off2 + k * 3, none⟩ hb3).trans s0)
          have HR1 := Lib.hid (fun w' (hh : Below w.heap.size w w') => (KP.out w' hh ⟨b2, off2 + k * 3 + 1, none⟩ hb3).trans s1)
          have HZ1 := Lib.hid (fun w' (hh : Below w.heap.size w w') => t1.below hh HB0.out)
          have HZ2 := Lib.hid (fun w' (hh : Below w.heap.size w w') => t2.below hh HB0.out)
          clear hy hgone hA3 hb3 s0 s1 t1 t2 r0 r1 z1 z2 hb2
          cases gone with
          | true =>
            have HIG := Lib.hid (Rws.insW_gone (out := ps) HGO.out)
            go_wp2_with fail
            go_roundw
            case rel => exact ⟨k + 1, m, d, A5, ps, by omega, by go_num, rfl, HM.out, by rw [HFS.out, ← HPS.out, HIG.out], HR.out, HBL.out⟩
            case measure => simp [intOf]; omega
          | false =>
            obtain ⟨cells, hown, hcs⟩ := HR.out
            have HOW := Lib.hid (show wp.ownsRow w.heap.size 42 2 (.slice A5 m d) m cells by rw [HM.out] at hown; exact hown)
            have HCS := Lib.hid hcs
            clear hown hcs
            go_wp2_with (at_builtin
                         refine wpList_append_any _ rfl _ _ _ rfl w.heap.size 42 i0 _ 2 48 Try.underlying32 hi0 hz0 hz1 hz2 rfl (by omega) (.slice A5 m d) m cells rfl (HOW.out.alloc _) (wp.heap.size + 1) (some ⟨wp.heap.size, 0, none⟩) 1 1 [.slice none 0 0, .slice none 0 0] rfl (by exact (Sl.lit (size := 2) (k := 1) (cap := 1) _ _ _ _ _ _ rfl rfl rfl (by omega) (by omega)).rd) (by simp [Value.oneCell']) (by have := HN.out; simp only [maxLen]; omega) (by have := HN.out; omega) (by have := HBL.out.size; simp; omega) ?_
                         intro v9 w9 hown9 hgr9 hblk9
                         obtain ⟨g, d6, hv9, hg9, hgl9⟩ := hown9.form (by omega)
                         subst hv9
                         have HO9 := Lib.hid hown9
                         have HGB := Lib.hid hg9
                         have HG9 := Lib.hid (only_trans_alloc hgr9)
                         clear hown9 hgr9 hblk9 hg9 hgl9)
            have HLT := Lib.hid (fun q (hq : (Value.slice A5 m d).ownBlock = some q) => (HOW.out.lt q hq).1)
            have HB9 := Lib.hid (HBL.out.grown HG9.out HBL.out.size HLT.out)
            have HK9 := Lib.hid (keep_grown HG9.out HLT.out HB0.out HBL.out.size)
            have HR9 := Lib.hid (show RowP w9 w.heap.size B (.slice (some ⟨g, 0, none⟩) (m + 1) d6) (ps ++ [([], [])]) from
              ⟨cells ++ [.slice none 0 0, .slice none 0 0], by rw [List.length_append, List.length_singleton, HM.out]; exact HO9.out, (HCS.out.keep HK9.out).snoc (by have := HOW.out.1; omega) HM.out (PairC.of none none 0 0 (p := ([], [])) ⟨Sl.nil_, by simp⟩ ⟨Sl.nil_, by simp⟩)⟩)
            clear HO9 HK9 HG9
            go_wp2_with fail
            go_loopw [10] (fun i wr => ∃ (a : Nat) (hp : Rws.Pair), a ≤ m ∧ i = .int .i64 a ∧ Rws.slot ps y.1 m = Rws.slot ps y.1 a ∧ RowP wr w.heap.size B (.slice (some ⟨g, 0, none⟩) (m + 1) d6) (Rws.mid ps a hp) ∧ Below w.heap.size w wr) (fun i _ => (intOf i).toNat)
            case atStart => exact ⟨m, ([], []), Nat.le_refl _, rfl, rfl, by have h := HR9.out; rw [Rws.mid_last, HM.out] at h; exact h, HB9.out⟩
            case round =>
              clear HR9 HB9
              obtain ⟨a, hp, ha, rfl, hsl, hrow, hbel⟩ := hrel
              obtain ⟨w9, rfl⟩ : ∃ w1, w1 = wr := ⟨_, rfl⟩
              have HB9 := Lib.hid hbel
              obtain ⟨cells9, ho9, hc9⟩ := hrow
              rw [Rws.mid_len (by rw [HM.out]; exact ha), HM.out] at ho9
              have HA9 := Lib.hid ho9
              have HC9 := Lib.hid hc9
              clear hbel ho9 hc9
              rcases Nat.eq_zero_or_pos a with ha0 | hpos
              · have HSA := Lib.hid (show Rws.slot ps y.1 m = a by rw [hsl, ha0]; rfl)
                have e1 : decide ((0 : Int) < (a : Int)) = false := by simp; omega
                have e2 : decide (0 < a) = false := by simp; omega
                have HA0 := Lib.hid ha0
                clear hsl ha0
                go_wp2_with fail
                go_quiet (fail)
                have HBz := Lib.hid (below_drewN HB9.out nq)
                have HAz := Lib.hid (show (w9.drewN nq).ownsRow w.heap.size 42 2 (.slice (some ⟨g, 0, none⟩) (m + 1) d6) (m + 1) cells9 from HA9.out)
                have HCz := Lib.hid (show PairCs (w9.drewN nq) B cells9 (Rws.mid ps a hp) from HC9.out.keep fun _ _ => rfl)
                generalize w9.drewN nq = wz at HBz HAz HCz ⊢
                have z0 := HAz.out.frozenAt (a * 2)
                have z1 := HAz.out.frozenAt (a * 2 + 1)
                have hcl := HAz.out.1
                obtain ⟨o0, ho0⟩ : ∃ o, cells9[a * 2]? = some o := ⟨_, List.getElem?_eq_getElem (by omega)⟩
                obtain ⟨o1, ho1⟩ : ∃ o, cells9[a * 2 + 1]? = some o := ⟨_, List.getElem?_eq_getElem (by omega)⟩
                have z2 := (HAz.out.cellAt (a * 2) (by omega)).trans ho0
                have z3 := (HAz.out.cellAt (a * 2 + 1) (by omega)).trans ho1
                clear ho0 ho1
                have hja0 : (0 : Int) ≤ (a : Int) := by omega
                have hja1 : (a : Int) < (m : Int) + 1 := by omega
                have r0' := HR0.out _ HBz.out
                have r1' := HR1.out _ HBz.out
                have HYC := Lib.hid (PairC.of A1' A2' c1' c2' (p := (y.1, y.2.1)) (HZ1.out _ HBz.out) (HZ2.out _ HBz.out))
                obtain ⟨hs1, hg1⟩ := HAz.out.stored (a * 2) (.slice A1' y.1.length c1')
                obtain ⟨hs2, hg2⟩ := hs1.stored (a * 2 + 1) (.slice A2' y.2.1.length c2')
                have HK := Lib.hid (fun (b : Addr) (hb : b.block < B) => (show ((wz.setCell ⟨g, a * 2, none⟩ (.slice A1' y.1.length c1')).setCell ⟨g, a * 2 + 1, none⟩ (.slice A2' y.2.1.length c2')).cell? b = wz.cell? b by
                  rw [World.cell?_setCell_other _ _ _ _ (fun e => by subst e; have := HGB.out; have := HB0.out; simp at hb; omega), World.cell?_setCell_other _ _ _ _ (fun e => by subst e; have := HGB.out; have := HB0.out; simp at hb; omega)]))
                have HRW := Lib.hid (show RowP ((wz.setCell ⟨g, a * 2, none⟩ (.slice A1' y.1.length c1')).setCell ⟨g, a * 2 + 1, none⟩ (.slice A2' y.2.1.length c2')) w.heap.size B (.slice (some ⟨g, 0, none⟩) (m + 1) d6) ((Rws.mid ps a hp).set a (y.1, y.2.1)) from
                  ⟨_, by rw [List.length_set, Rws.mid_len (by rw [HM.out]; omega), HM.out]; exact hs2,
                    (HCz.out.put_ (by rw [hcl, Rws.mid_len (by rw [HM.out]; omega), HM.out]) (by rw [Rws.mid_len (by rw [HM.out]; omega), HM.out]; omega) HYC.out).keep HK.out⟩)
                have HBW := Lib.hid ((HBz.out.setCell (p := ⟨g, a * 2, none⟩) HGB.out (.slice A1' y.1.length c1')).setCell (p := ⟨g, a * 2 + 1, none⟩) HGB.out (.slice A2' y.2.1.length c2'))
                clear hcl hs1 hs2 hg1 hg2
                have HIW := Lib.hid (Rws.insW_put (out := ps) (w := y) (a := a) HGO.out (by rw [HM.out]; exact HSA.out))
                go_wp2_with fail
                go_still_tail 14, (by kernel_rfl)
                have HRW := Lib.hid (show RowP ((wz.setCell ⟨g, a * 2, none⟩ (.slice A1' y.1.length c1')).setCell ⟨g, a * 2 + 1, none⟩ (.slice A2' y.2.1.length c2')).drew w.heap.size B (.slice (some ⟨g, 0, none⟩) (m + 1) d6) (Rws.mid ps a (y.1, y.2.1)) by
                  have h := HRW.out.drewN 1
                  rw [Rws.mid_set (by rw [HM.out]; omega)] at h
                  exact h)
                have HBW := Lib.hid HBW.out.drew
                go_wp2_with fail
                go_roundw
                case rel => exact ⟨k + 1, m + 1, d6, some ⟨g, 0, none⟩, Rws.mid ps a (y.1, y.2.1), by omega, by go_num, rfl, by rw [Rws.mid_len (by rw [HM.out]; omega), HM.out], by rw [HFS.out, ← HPS.out, HIW.out], HRW.out, HBW.out⟩
                case measure => simp [intOf]; omega
              · obtain ⟨a', ha'⟩ : ∃ a', a' + 1 = a := ⟨a - 1, by omega⟩
                obtain ⟨x, hx⟩ : ∃ x, ps[a']? = some x := ⟨_, List.getElem?_eq_getElem (by rw [HM.out]; omega)⟩
                have hmx : (Rws.mid ps a hp)[a']? = some x := by rw [← ha']; exact Rws.mid_ahead hx
                obtain ⟨u, v, hu, hv, Ax, cx, Bx, dx, rfl, rfl, hbx1, hbx2⟩ := HC9.out a' x hmx
                have HXC := Lib.hid (PairC.of Ax Bx cx dx hbx1 hbx2)
                have q0 := (HA9.out.cellAt (a' * 2) (by omega)).trans hu
                have q1 := (HA9.out.cellAt (a' * 2 + 1) (by omega)).trans hv
                have HQ0 := Lib.hid q0
                have HQ1 := Lib.hid q1
                have k1 := fun k => run_string_of (P := Try.prog) (dst := 9) Try.underlying40 Try.underlying5 Try.underlying9 (hbx1.sl.drewN k)
                have k2 := fun k => run_string_of (P := Try.prog) (dst := 9) Try.underlying40 Try.underlying5 Try.underlying9 ((HZ1.out _ HB9.out).sl.drewN k)
                have r0' := HR0.out _ HB9.out
                have e1 : decide ((0 : Int) < (a : Int)) = true := by simp; omega
                have e2 : decide (0 < a) = true := by simp; omega
                have e3 : IntKind.i64.wrap ((a : Int) - 1) = (a' : Int) := by have := HN.out; rw [IntKind.wrap_i64]; omega
                have e4 : (a : Int) - 1 = (a' : Int) := by omega
                have e5 : (0 : Int) ≤ (a' : Int) := by omega
                have e6 : (a' : Int) < (m : Int) + 1 := by omega
                have e7 : a' ≤ m := by omega
                have e8 : a' < m + 1 := by omega
                have e9 : (a' : Int) ≤ (m : Int) := by omega
                have e10 : IntKind.i64.wrap (a' : Int) = (a' : Int) := by have := HN.out; rw [IntKind.wrap_i64]; omega
                have hls := less_order x.1 y.1
                have HAA := Lib.hid ha'
                by_cases hod : 0 < Oct.order x.1 y.1
                · have HSU := Lib.hid (show Rws.slot ps y.1 m = Rws.slot ps y.1 a' by rw [hsl, ← ha']; exact Rws.slot_up hx hod)
                  have HMS := Lib.hid (show (Rws.mid ps a hp).set a x = Rws.mid ps a' x by rw [← ha']; exact Rws.mid_shift hx)
                  rw [decide_eq_false (show ¬ Oct.order x.1 y.1 < 0 by omega)] at hls
                  have hkq : (x.1 == y.1) = false := by
                    rw [beq_eq_false_iff_ne]
                    intro e
                    rw [e, Oct.order_self] at hod
                    omega
                  clear hx hmx hu hv hbx1 hbx2 hsl hod ha' hpos
                  go_wp2_with fail
                  go_quiet (fail)
                  have HBz := Lib.hid (below_drewN HB9.out nq)
                  have HAz := Lib.hid (show (w9.drewN nq).ownsRow w.heap.size 42 2 (.slice (some ⟨g, 0, none⟩) (m + 1) d6) (m + 1) cells9 from HA9.out)
                  have HCz := Lib.hid (show PairCs (w9.drewN nq) B cells9 (Rws.mid ps a hp) from HC9.out.keep fun _ _ => rfl)
                  have HQz0 := Lib.hid (show (w9.drewN nq).cell? ⟨g, a' * 2, none⟩ = some (.slice Ax x.1.length cx) from HQ0.out)
                  have HQz1 := Lib.hid (show (w9.drewN nq).cell? ⟨g, a' * 2 + 1, none⟩ = some (.slice Bx x.2.length dx) from HQ1.out)
                  have HXz := Lib.hid (HXC.out.keep (w' := w9.drewN nq) fun _ _ => rfl)
                  generalize w9.drewN nq = wz at HBz HAz HCz HQz0 HQz1 HXz ⊢
                  clear k1 k2 r0' q0 q1 hls hkq
                  have q0 := HQz0.out
                  have q1 := HQz1.out
                  have ja0 : (0 : Int) ≤ (a : Int) := by omega
                  have ja1 : (a : Int) < (m : Int) + 1 := by omega
                  have z0 := HAz.out.frozenAt (a * 2)
                  have z1 := HAz.out.frozenAt (a * 2 + 1)
                  have hcl := HAz.out.1
                  obtain ⟨o0, ho0⟩ : ∃ o, cells9[a * 2]? = some o := ⟨_, List.getElem?_eq_getElem (by omega)⟩
                  obtain ⟨o1, ho1⟩ : ∃ o, cells9[a * 2 + 1]? = some o := ⟨_, List.getElem?_eq_getElem (by omega)⟩
                  have z2 := (HAz.out.cellAt (a * 2) (by omega)).trans ho0
                  have z3 := (HAz.out.cellAt (a * 2 + 1) (by omega)).trans ho1
                  clear ho0 ho1
                  obtain ⟨hs1, hg1⟩ := HAz.out.stored (a * 2) (.slice Ax x.1.length cx)
                  obtain ⟨hs2, hg2⟩ := hs1.stored (a * 2 + 1) (.slice Bx x.2.length dx)
                  have HK := Lib.hid (fun (b : Addr) (hb : b.block < B) => (show ((wz.setCell ⟨g, a * 2, none⟩ (.slice Ax x.1.length cx)).setCell ⟨g, a * 2 + 1, none⟩ (.slice Bx x.2.length dx)).cell? b = wz.cell? b by
                    rw [World.cell?_setCell_other _ _ _ _ (fun e => by subst e; have := HGB.out; have := HB0.out; simp at hb; omega), World.cell?_setCell_other _ _ _ _ (fun e => by subst e; have := HGB.out; have := HB0.out; simp at hb; omega)]))
                  have HRW := Lib.hid (show RowP ((wz.setCell ⟨g, a * 2, none⟩ (.slice Ax x.1.length cx)).setCell ⟨g, a * 2 + 1, none⟩ (.slice Bx x.2.length dx)) w.heap.size B (.slice (some ⟨g, 0, none⟩) (m + 1) d6) ((Rws.mid ps a hp).set a x) from
                    ⟨_, by rw [List.length_set, Rws.mid_len (by rw [HM.out]; omega), HM.out]; exact hs2,
                      (HCz.out.put_ (by rw [hcl, Rws.mid_len (by rw [HM.out]; omega), HM.out]) (by rw [Rws.mid_len (by rw [HM.out]; omega), HM.out]; omega) HXz.out).keep HK.out⟩)
                  have HBW := Lib.hid ((HBz.out.setCell (p := ⟨g, a * 2, none⟩) HGB.out (.slice Ax x.1.length cx)).setCell (p := ⟨g, a * 2 + 1, none⟩) HGB.out (.slice Bx x.2.length dx))
                  clear hcl hs1 hs2 hg1 hg2
                  rw [HMS.out] at HRW
                  go_wp2_with fail
                  go_roundw
                  case rel => exact ⟨a', x, by omega, rfl, HSU.out, HRW.out, HBW.out⟩
                  case measure => have := HAA.out; simp [intOf]; omega
                · have HSA := Lib.hid (show Rws.slot ps y.1 m = a by rw [hsl, ← ha']; exact Rws.slot_stop hx hod)
                  rcases (show Oct.order x.1 y.1 < 0 ∨ Oct.order x.1 y.1 = 0 by omega) with hod | hod
                  · rw [decide_eq_true hod] at hls
                    have hkq : (x.1 == y.1) = false := by
                      rw [beq_eq_false_iff_ne]
                      intro e
                      rw [e, Oct.order_self] at hod
                      omega
                    clear hx hmx hu hv hbx1 hbx2 hsl hod ha' hpos
                    go_wp2_with fail
                    go_quiet (fail)
                    have HBz := Lib.hid (below_drewN HB9.out nq)
                    have HAz := Lib.hid (show (w9.drewN nq).ownsRow w.heap.size 42 2 (.slice (some ⟨g, 0, none⟩) (m + 1) d6) (m + 1) cells9 from HA9.out)
                    have HCz := Lib.hid (show PairCs (w9.drewN nq) B cells9 (Rws.mid ps a hp) from HC9.out.keep fun _ _ => rfl)
                    generalize w9.drewN nq = wz at HBz HAz HCz ⊢
                    have z0 := HAz.out.frozenAt (a * 2)
                    have z1 := HAz.out.frozenAt (a * 2 + 1)
                    have hcl := HAz.out.1
                    obtain ⟨o0, ho0⟩ : ∃ o, cells9[a * 2]? = some o := ⟨_, List.getElem?_eq_getElem (by omega)⟩
                    obtain ⟨o1, ho1⟩ : ∃ o, cells9[a * 2 + 1]? = some o := ⟨_, List.getElem?_eq_getElem (by omega)⟩
                    have z2 := (HAz.out.cellAt (a * 2) (by omega)).trans ho0
                    have z3 := (HAz.out.cellAt (a * 2 + 1) (by omega)).trans ho1
                    clear ho0 ho1
                    have hja0 : (0 : Int) ≤ (a : Int) := by omega
                    have hja1 : (a : Int) < (m : Int) + 1 := by omega
                    have r0' := HR0.out _ HBz.out
                    have r1' := HR1.out _ HBz.out
                    have HYC := Lib.hid (PairC.of A1' A2' c1' c2' (p := (y.1, y.2.1)) (HZ1.out _ HBz.out) (HZ2.out _ HBz.out))
                    obtain ⟨hs1, hg1⟩ := HAz.out.stored (a * 2) (.slice A1' y.1.length c1')
                    obtain ⟨hs2, hg2⟩ := hs1.stored (a * 2 + 1) (.slice A2' y.2.1.length c2')
                    have HK := Lib.hid (fun (b : Addr) (hb : b.block < B) => (show ((wz.setCell ⟨g, a * 2, none⟩ (.slice A1' y.1.length c1')).setCell ⟨g, a * 2 + 1, none⟩ (.slice A2' y.2.1.length c2')).cell? b = wz.cell? b by
                      rw [World.cell?_setCell_other _ _ _ _ (fun e => by subst e; have := HGB.out; have := HB0.out; simp at hb; omega), World.cell?_setCell_other _ _ _ _ (fun e => by subst e; have := HGB.out; have := HB0.out; simp at hb; omega)]))
                    have HRW := Lib.hid (show RowP ((wz.setCell ⟨g, a * 2, none⟩ (.slice A1' y.1.length c1')).setCell ⟨g, a * 2 + 1, none⟩ (.slice A2' y.2.1.length c2')) w.heap.size B (.slice (some ⟨g, 0, none⟩) (m + 1) d6) ((Rws.mid ps a hp).set a (y.1, y.2.1)) from
                      ⟨_, by rw [List.length_set, Rws.mid_len (by rw [HM.out]; omega), HM.out]; exact hs2,
                        (HCz.out.put_ (by rw [hcl, Rws.mid_len (by rw [HM.out]; omega), HM.out]) (by rw [Rws.mid_len (by rw [HM.out]; omega), HM.out]; omega) HYC.out).keep HK.out⟩)
                    have HBW := Lib.hid ((HBz.out.setCell (p := ⟨g, a * 2, none⟩) HGB.out (.slice A1' y.1.length c1')).setCell (p := ⟨g, a * 2 + 1, none⟩) HGB.out (.slice A2' y.2.1.length c2'))
                    clear hcl hs1 hs2 hg1 hg2
                    have HIW := Lib.hid (Rws.insW_put (out := ps) (w := y) (a := a) HGO.out (by rw [HM.out]; exact HSA.out))
                    go_wp2_with fail
                    go_still_tail 14, (by kernel_rfl)
                    have HRW := Lib.hid (show RowP ((wz.setCell ⟨g, a * 2, none⟩ (.slice A1' y.1.length c1')).setCell ⟨g, a * 2 + 1, none⟩ (.slice A2' y.2.1.length c2')).drew w.heap.size B (.slice (some ⟨g, 0, none⟩) (m + 1) d6) (Rws.mid ps a (y.1, y.2.1)) by
                      have h := HRW.out.drewN 1
                      rw [Rws.mid_set (by rw [HM.out]; omega)] at h
                      exact h)
                    have HBW := Lib.hid HBW.out.drew
                    go_wp2_with fail
                    go_roundw
                    case rel => exact ⟨k + 1, m + 1, d6, some ⟨g, 0, none⟩, Rws.mid ps a (y.1, y.2.1), by omega, by go_num, rfl, by rw [Rws.mid_len (by rw [HM.out]; omega), HM.out], by rw [HFS.out, ← HPS.out, HIW.out], HRW.out, HBW.out⟩
                    case measure => simp [intOf]; omega
                  · rw [decide_eq_false (by omega)] at hls
                    have hkq : (x.1 == y.1) = true := by rw [Oct.order_eq hod]; simp
                    clear hx hmx hu hv hbx1 hbx2 hsl hod ha' hpos
                    go_wp2_with fail
                    go_quiet (fail)
                    have HBz := Lib.hid (below_drewN HB9.out nq)
                    have HAz := Lib.hid (show (w9.drewN nq).ownsRow w.heap.size 42 2 (.slice (some ⟨g, 0, none⟩) (m + 1) d6) (m + 1) cells9 from HA9.out)
                    have HCz := Lib.hid (show PairCs (w9.drewN nq) B cells9 (Rws.mid ps a hp) from HC9.out.keep fun _ _ => rfl)
                    generalize w9.drewN nq = wz at HBz HAz HCz ⊢
                    have z0 := HAz.out.frozenAt (a * 2)
                    have z1 := HAz.out.frozenAt (a * 2 + 1)
                    have hcl := HAz.out.1
                    obtain ⟨o0, ho0⟩ : ∃ o, cells9[a * 2]? = some o := ⟨_, List.getElem?_eq_getElem (by omega)⟩
                    obtain ⟨o1, ho1⟩ : ∃ o, cells9[a * 2 + 1]? = some o := ⟨_, List.getElem?_eq_getElem (by omega)⟩
                    have z2 := (HAz.out.cellAt (a * 2) (by omega)).trans ho0
                    have z3 := (HAz.out.cellAt (a * 2 + 1) (by omega)).trans ho1
                    clear ho0 ho1
                    have hja0 : (0 : Int) ≤ (a : Int) := by omega
                    have hja1 : (a : Int) < (m : Int) + 1 := by omega
                    have r0' := HR0.out _ HBz.out
                    have r1' := HR1.out _ HBz.out
                    have HYC := Lib.hid (PairC.of A1' A2' c1' c2' (p := (y.1, y.2.1)) (HZ1.out _ HBz.out) (HZ2.out _ HBz.out))
                    obtain ⟨hs1, hg1⟩ := HAz.out.stored (a * 2) (.slice A1' y.1.length c1')
                    obtain ⟨hs2, hg2⟩ := hs1.stored (a * 2 + 1) (.slice A2' y.2.1.length c2')
                    have HK := Lib.hid (fun (b : Addr) (hb : b.block < B) => (show ((wz.setCell ⟨g, a * 2, none⟩ (.slice A1' y.1.length c1')).setCell ⟨g, a * 2 + 1, none⟩ (.slice A2' y.2.1.length c2')).cell? b = wz.cell? b by
                      rw [World.cell?_setCell_other _ _ _ _ (fun e => by subst e; have := HGB.out; have := HB0.out; simp at hb; omega), World.cell?_setCell_other _ _ _ _ (fun e => by subst e; have := HGB.out; have := HB0.out; simp at hb; omega)]))
                    have HRW := Lib.hid (show RowP ((wz.setCell ⟨g, a * 2, none⟩ (.slice A1' y.1.length c1')).setCell ⟨g, a * 2 + 1, none⟩ (.slice A2' y.2.1.length c2')) w.heap.size B (.slice (some ⟨g, 0, none⟩) (m + 1) d6) ((Rws.mid ps a hp).set a (y.1, y.2.1)) from
                      ⟨_, by rw [List.length_set, Rws.mid_len (by rw [HM.out]; omega), HM.out]; exact hs2,
                        (HCz.out.put_ (by rw [hcl, Rws.mid_len (by rw [HM.out]; omega), HM.out]) (by rw [Rws.mid_len (by rw [HM.out]; omega), HM.out]; omega) HYC.out).keep HK.out⟩)
                    have HBW := Lib.hid ((HBz.out.setCell (p := ⟨g, a * 2, none⟩) HGB.out (.slice A1' y.1.length c1')).setCell (p := ⟨g, a * 2 + 1, none⟩) HGB.out (.slice A2' y.2.1.length c2'))
                    clear hcl hs1 hs2 hg1 hg2
                    have HIW := Lib.hid (Rws.insW_put (out := ps) (w := y) (a := a) HGO.out (by rw [HM.out]; exact HSA.out))
                    go_wp2_with fail
                    go_still_tail 14, (by kernel_rfl)
                    have HRW := Lib.hid (show RowP ((wz.setCell ⟨g, a * 2, none⟩ (.slice A1' y.1.length c1')).setCell ⟨g, a * 2 + 1, none⟩ (.slice A2' y.2.1.length c2')).drew w.heap.size B (.slice (some ⟨g, 0, none⟩) (m + 1) d6) (Rws.mid ps a (y.1, y.2.1)) by
                      have h := HRW.out.drewN 1
                      rw [Rws.mid_set (by rw [HM.out]; omega)] at h
                      exact h)
                    have HBW := Lib.hid HBW.out.drew
                    go_wp2_with fail
                    go_roundw
                    case rel => exact ⟨k + 1, m + 1, d6, some ⟨g, 0, none⟩, Rws.mid ps a (y.1, y.2.1), by omega, by go_num, rfl, by rw [Rws.mid_len (by rw [HM.out]; omega), HM.out], by rw [HFS.out, ← HPS.out, HIW.out], HRW.out, HBW.out⟩
                    case measure => simp [intOf]; omega
        · have g3 : ¬ ((k : Int) < (n2 : Int)) := by omega
          have HFN := Lib.hid (show ps = Rws.over l ws by rw [HPS.out, List.take_of_length_le (by rw [HWN.out]; omega)]; rfl)
          go_wp2_with fail
          go_ret
          have h1 := HFN.out
          have h2 := HM.out
          subst h1 h2
          exact ⟨A5, d, rfl, HR.out, HBL.out⟩

end Go.Proofs.Ytniekddoaokmkaa

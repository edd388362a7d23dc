/-
  Layer 23 (rows): what turns pairs into others, walked.
-/
import Derived.Test.YtniekddoaokmkaaRowTell
import Derived.Test.YtniekddoaokmkaaWrPlain
import Derived.Lib.QuietBelow
namespace Go.Proofs.Ytniekddoaokmkaa
open Go.RowKit Go.Gab
set_option linter.unusedVariables false
attribute [local go_sem ↓] Go.wp_at_zero Go.wp_at_succ

/-- Writes in a row of the call's own. -/
def WrCells (w : World) (base : Nat) (cells : List Value) (ws : List Rws.Wr) : Prop :=
  ∀ (i : Nat) (p : Rws.Wr), ws[i]? = some p → ∃ v1 v2, cells[i * 3]? = some v1 ∧ cells[i * 3 + 1]? = some v2 ∧ cells[i * 3 + 2]? = some (.bool p.2.2) ∧ OwnB w base v1 p.1 ∧ OwnB w base v2 p.2.1
def OwnWrs (w : World) (base : Nat) (v : Value) (ws : List Rws.Wr) : Prop := ∃ cells : List Value, w.ownsRow base 49 3 v ws.length cells ∧ WrCells w base cells ws
section
variable {w w' : World} {base base' : Nat} {v : Value} {ws : List Rws.Wr}
theorem OwnWrs.nil_ (w : World) (base : Nat) : OwnWrs w base (.slice none 0 0) [] := ⟨[], World.ownsRow_nil _ _ _ _, fun i p h => by simp at h⟩
theorem WrCells.map {cells : List Value} (h : WrCells w base cells ws) (hk : ∀ v bs, OwnB w base v bs → OwnB w' base v bs) : WrCells w' base cells ws := fun i p hp => by
  obtain ⟨v1, v2, e1, e2, e3, b1, b2⟩ := h i p hp
  exact ⟨v1, v2, e1, e2, e3, hk _ _ b1, hk _ _ b2⟩
theorem OwnWrs.below (h : OwnWrs w base v ws) (hb : Below w.heap.size w w') : OwnWrs w' base v ws := by
  obtain ⟨cells, h1, h2⟩ := h
  exact ⟨cells, own_below h1 hb, h2.map fun _ _ hh => hh.below hb⟩
theorem OwnWrs.slice_ (h : OwnWrs w base v ws) : ∃ A c, v = .slice A ws.length c := by
  obtain ⟨cells, o, _⟩ := h
  exact own_slice o
theorem WrCells.snoc {cells : List Value} {n : Nat} (h : WrCells w base cells ws) (hl : cells.length = n * 3) (hn : ws.length = n) {v1 v2 : Value} {k val : List UInt8} {g : Bool} (h1 : OwnB w base v1 k) (h2 : OwnB w base v2 val) :
    WrCells w base (cells ++ [v1, v2, .bool g]) (ws ++ [(k, val, g)]) := fun i p hp => by
  by_cases hi : i < n
  · rw [List.getElem?_append_left (by omega)] at hp
    obtain ⟨u1, u2, e1, e2, e3, b1, b2⟩ := h i p hp
    exact ⟨u1, u2, by rw [List.getElem?_append_left (by omega)]; exact e1, by rw [List.getElem?_append_left (by omega)]; exact e2, by rw [List.getElem?_append_left (by omega)]; exact e3, b1, b2⟩
  · rw [List.getElem?_append_right (by omega)] at hp
    have hi0 : i - ws.length = 0 := by
      have := (List.getElem?_eq_some_iff.1 hp).1
      simp at this
      omega
    rw [hi0] at hp
    simp at hp
    subst hp
    have hin : i = n := by omega
    subst hin
    refine ⟨v1, v2, ?_, ?_, ?_, h1, h2⟩
    · rw [List.getElem?_append_right (by omega), hl, Nat.sub_self]; rfl
    · rw [List.getElem?_append_right (by omega), hl, show i * 3 + 1 - i * 3 = 1 by omega]; rfl
    · rw [List.getElem?_append_right (by omega), hl, show i * 3 + 2 - i * 3 = 2 by omega]; rfl
end

theorem infoWrite : (Try.prog.info? 49).map (fun i => (i.zero, i.size, i.bytes)) = some (some (.agg #[.slice none 0 0, .slice none 0 0, .bool false]), 3, 56) := by kernel_rfl

/-! ### A slice cut behind its first -/
theorem SlR.nil_of {α : Type} {r : Rep α} {w : World} {B n c : Nat} {A : Option Addr} (h : SlR r w B A n c []) : n = 0 := by have := h.len; simpa using this.symm
theorem SlR.tail_ {α : Type} {r : Rep α} {w : World} {B n c : Nat} {A : Option Addr} {x : α} {l : List α} (h : SlR r w B A n c (x :: l)) (hs : 0 < r.size) :
    ∃ A', SlR r w B A' (n - 1) (c - 1) l ∧ A' = (if c = 1 then A else A.map (·.add (1 * r.size))) := by
  have hl := h.len
  rw [List.length_cons] at hl
  have hnc := h.nc
  refine ⟨_, ⟨by omega, by omega, by have := h.cm; omega, fun i hi => ?_⟩, rfl⟩
  obtain ⟨b, off, y, cs, hA, hb, hy, hr, hcl, hc⟩ := h.row (i + 1) (by omega)
  refine ⟨b, off + r.size, y, cs, ?_, hb, by simpa using hy, hr, hcl, fun j v hv => ?_⟩
  · rw [if_neg (by omega), hA, Option.map_some, Nat.one_mul]
    unfold Addr.add
    rw [if_neg (by omega)]
  · rw [← hc j v hv]
    congr 2
    rw [Nat.add_mul]; omega
theorem pair_first {w : World} {B n c : Nat} {A : Option Addr} {x : Rws.Pair} {l : List Rws.Pair} (h : SlR pairR w B A n c (x :: l)) :
    ∃ b off A1 A2 c1 c2, A = some ⟨b, off, none⟩ ∧ b < B ∧ w.cell? ⟨b, off, none⟩ = some (.slice A1 x.1.length c1) ∧ w.cell? ⟨b, off + 1, none⟩ = some (.slice A2 x.2.length c2) ∧ BytesAt w B A1 x.1.length c1 x.1 ∧ BytesAt w B A2 x.2.length c2 x.2 := by
  have hl := h.len
  rw [List.length_cons] at hl
  obtain ⟨b, off, y, A1, A2, c1, c2, hA, hb, hy, h0, h1, b1, b2⟩ := pair_at h (i := 0) (by omega)
  simp at hy
  subst hy
  exact ⟨b, off, A1, A2, c1, c2, hA, hb, by simpa using h0, by simpa using h1, b1, b2⟩
theorem sliceRun {A : Option Addr} {n c : Nat} (hn : 1 ≤ n) (w : World) {A' : Option Addr} (hA : A' = (if c = 1 then A else A.map (·.add (1 * pairR.size)))) :
    (Instr.slice 32 (.slice A n c) (some (.int .i64 1)) none none).run Try.prog w = .ok (.slice A' (n - 1) (c - 1)) w := by
  have he : Try.prog.elem 32 = 42 := by kernel_rfl
  have hz : (sizeOf 42).run Try.prog w = .ok 2 w := by kernel_rfl
  rw [run_slice_l (P := Try.prog) w 32 A n c (by rw [he]; exact Try.underlying32) .i64 1 (by omega) (by omega), he, hz]
  simp only [Result.andThen, sliced]
  rw [hA]
  rfl

theorem cell_belowW {w w' : World} (hb : Below w.heap.size w w') {p : Addr} {v : Value} (h : w.cell? p = some v) : w'.cell? p = some v :=
  (hb.cell (World.block_lt_of_cell? w _ h)).trans h
def lenOf : Value → Nat
  | .slice _ n _ => n
  | _ => 0
/-- Writes in new memory. -/
def WritesTo (ws : List Rws.Wr) (w : World) (e : Ending) (w' : World) : Prop :=
  ∃ A c, e = .returned (.slice A ws.length c) ∧ OwnWrs w' w.heap.size (.slice A ws.length c) ws ∧ Below w.heap.size w w'

set_option maxHeartbeats 4000000 in
set_option maxRecDepth 100000 in
theorem writes_any (B : Nat) (f t : List Rws.Pair) (A A2 : Option Addr) (n c n2 c2 : Nat) (w : World) (hf : SlR pairR w B A n c f) (ht : SlR pairR w B A2 n2 c2 t) (hB : B ≤ w.heap.size)
    (hn : n + n2 ≤ 1000000) (hbf : ∀ p ∈ f, p.1.length ≤ 140737488355328 ∧ p.2.length ≤ 140737488355328) (hbt : ∀ p ∈ t, p.1.length ≤ 140737488355328 ∧ p.2.length ≤ 140737488355328) :
    Calls Try.prog 15 #[.slice A n c, .slice A2 n2 c2] w (WritesTo (Rws.writes f t) w) := by
  have HB0 := Lib.hid hB
  have hwl := Rws.writes_len f t
  have HF := Lib.hid hf
  have HT := Lib.hid ht
  have HBF := Lib.hid hbf
  have HBT := Lib.hid hbt
  obtain ⟨W, hW⟩ : ∃ W, Rws.writes f t = W := ⟨_, rfl⟩
  rw [hW] at hwl ⊢
  have HW := Lib.hid hW
  have HWL := Lib.hid (show W.length ≤ 1000000 by have := hf.len; have := ht.len; omega)
  clear hf ht hbf hbt hB hwl hn hW
  go_enter Try.func15, Try.ntmps15
  go_wp2_with fail
  go_loopw [0, 1, 4] (fun x y z wr => ∃ (A3 : Option Addr) (m d : Nat) (A4 : Option Addr) (m2 d2 : Nat) (fs ts : List Rws.Pair) (k : Nat) (A5 : Option Addr) (d5 : Nat) (ws : List Rws.Wr), x = .slice A3 m d ∧ y = .slice A4 m2 d2 ∧ z = .slice A5 k d5 ∧ ws.length = k ∧
    SlR pairR wr B A3 m d fs ∧ SlR pairR wr B A4 m2 d2 ts ∧ OwnWrs wr w.heap.size (.slice A5 k d5) ws ∧ ws ++ Rws.writes fs ts = W ∧ (∀ p ∈ fs, p ∈ f) ∧ (∀ p ∈ ts, p ∈ t) ∧ Below w.heap.size w wr) (fun x y _ _ => lenOf x + lenOf y)
  case atStart => exact ⟨A, n, c, A2, n2, c2, f, t, 0, none, 0, [], rfl, rfl, rfl, rfl, HF.out, HT.out, OwnWrs.nil_ _ _, by rw [HW.out]; rfl, fun _ h => h, fun _ h => h, Below.refl _ _⟩
  case round =>
    obtain ⟨A3, m, d, A4, m2, d2, fs, ts, k, A5, d5, ws, rfl, rfl, rfl, hkl, hfs, hts, hws, heq, hif, hit, hbel⟩ := hrel
    have m1 := hfs.nc
    have m3 := hfs.cm
    have m4 := hts.nc
    have m5 := hts.cm
    have HKL := Lib.hid hkl
    have HFS := Lib.hid hfs
    have HTS := Lib.hid hts
    have HWS := Lib.hid hws
    have HEQ := Lib.hid heq
    have HIF := Lib.hid hif
    have HIT := Lib.hid hit
    have HBL := Lib.hid hbel
    have hk9 : k ≤ 1000000 := by
      have h1 := HWL.out
      rw [← heq, List.length_append, hkl] at h1
      omega
    obtain ⟨i0, hi0, hz0, hz1, hz2⟩ := info_parts infoWrite
    clear hkl hfs hts hws heq hif hit hbel
    --ROUNDS
    have nf : ∀ {x : Nat}, 1 ≤ x → ((x : Int) == 0) = false := fun h => by simp; omega
    have nd : ∀ {x : Nat}, 1 ≤ x → decide (0 < x) = true := fun h => by simp; omega
    rcases fs with _ | ⟨p, fs⟩
    · obtain rfl := SlR.nil_of HFS.out
      rcases ts with _ | ⟨q, ts⟩
      · obtain rfl := SlR.nil_of HTS.out
        have HFIN := Lib.hid (show ws = W by rw [← HEQ.out, Rws.writes, List.append_nil])
        clear nf nd
        go_wp2_with fail
        go_ret
        have h1 := HFIN.out
        have h2 := HKL.out
        subst h1 h2
        exact ⟨A5, d5, rfl, HWS.out, HBL.out⟩
      · have HM2 : 1 ≤ m2 := by have := HTS.out.len; rw [List.length_cons] at this; omega
        have HSTEP := Lib.hid (show Rws.writes [] (q :: ts) = [(q.1, q.2, false)] ++ Rws.writes [] ts by rw [Rws.writes]; rfl)
        have e1 := nf HM2
        have e2 := nd HM2
        obtain ⟨bq, offq, A1q, A2q, c1q, c2q, hAq, hbq, r0, r1, z1, z2⟩ := pair_first HTS.out
        subst hAq
        obtain ⟨A4', HTT, hA4⟩ := SlR.tail_ HTS.out (by decide)
        have hsl2 := sliceRun (n := m2) (c := d2) HM2 (hA := hA4)
        have hi2 : 0 < m2 := by omega
        have HR1 := Lib.hid z1
        have HR2 := Lib.hid z2
        have HR3 := Lib.hid r0
        have HR4 := Lib.hid r1
        have HBQ := Lib.hid hbq
        have HLQ := Lib.hid HTT
        clear hA4 HTT z1 z2 hbq
        clear nf nd
        have HQW := Lib.hid (Below.refl wr.heap.size wr)
        go_wp2_with fail
        clear r0 r1
        go_quiet (fail)
        obtain ⟨wq, HQW, hwq⟩ : ∃ wq, Hid (Below wr.heap.size wr wq) ∧ wr.drewN nq = wq := ⟨_, Lib.hid (below_drewN HQW.out nq), rfl⟩
        rw [hwq]
        clear hwq
        go_wp2_with fail
        have HC1 := Lib.hid (fun w' (hh : Below wr.heap.size wr w') => clone_any B A1q q.1.length c1q q.1 w' (HR1.out.below hh (Nat.le_trans HB0.out HBL.out.size)).sl (Nat.le_trans (Nat.le_trans HB0.out HBL.out.size) hh.size) (by have := (HBT.out q (HIT.out q (by simp))).1; omega))
        have HC2 := Lib.hid (fun w' (hh : Below wr.heap.size wr w') => clone_any B A2q q.2.length c2q q.2 w' (HR2.out.below hh (Nat.le_trans HB0.out HBL.out.size)).sl (Nat.le_trans (Nat.le_trans HB0.out HBL.out.size) hh.size) (by have := (HBT.out q (HIT.out q (by simp))).2; omega))
        have HL1 := Lib.hid (show q.1.length ≤ 140737488355328 by have := (HBT.out q (HIT.out q (by simp))).1; omega)
        have HL2 := Lib.hid (show q.2.length ≤ 140737488355328 by have := (HBT.out q (HIT.out q (by simp))).2; omega)
        have SC := Lib.hid (fun w' (hh : Below wr.heap.size wr w') => (show w'.cell? ⟨bq, offq, none⟩ = some (.slice A1q q.1.length c1q) ∧ w'.cell? ⟨bq, offq + 1, none⟩ = some (.slice A2q q.2.length c2q) from ⟨(hh.cell (p := ⟨bq, offq, none⟩) (Nat.lt_of_lt_of_le HBQ.out (Nat.le_trans HB0.out HBL.out.size))).trans HR3.out, (hh.cell (p := ⟨bq, offq + 1, none⟩) (Nat.lt_of_lt_of_le HBQ.out (Nat.le_trans HB0.out HBL.out.size))).trans HR4.out⟩))
        have HB := Lib.hid HQW.out.drew
        go_region_held3 (fun w' => w'.cell? ⟨bq, offq, none⟩ = some (.slice A1q q.1.length c1q) ∧ w'.cell? ⟨bq, offq + 1, none⟩ = some (.slice A2q q.2.length c2q))
          (first | exact HS9.out | exact SC.out _ HB.out | exact SC.out _ (HB.out.alloc HB.out.size _))
          (first
            | (go_at_call 30; (with_reducible refine (HC1.out _ HB.out).mono ?_); rintro e w1 ⟨v1, rfl, A6, c6, rfl, hown6, hb6⟩; have HOB1 := Lib.hid (OwnB.of (own_low (base' := w.heap.size) hown6 (Nat.le_trans HBL.out.size HB.out.size)) HL1.out); have HB := Lib.hid (HB.out.trans (hb6.mono HB.out.size)); clear hown6 hb6)
            | (go_at_call 30; (with_reducible refine (HC2.out _ HB.out).mono ?_); rintro e w2 ⟨v2, rfl, A7, c7, rfl, hown7, hb7⟩; have HOB2 := Lib.hid (OwnB.of (own_low (base' := w.heap.size) hown7 (Nat.le_trans HBL.out.size HB.out.size)) HL2.out); have HOB1 := Lib.hid (HOB1.out.below hb7); have HB := Lib.hid (HB.out.trans (hb7.mono HB.out.size)); obtain ⟨cells, how, hwc⟩ := HWS.out.below HB.out; have HOW := Lib.hid (show w2.ownsRow w.heap.size 49 3 (.slice A5 k d5) k cells by rw [HKL.out] at how; exact how); have HWC := Lib.hid hwc; have HBX := Lib.hid (HBL.out.trans (HB.out.mono HBL.out.size)); have HBZ := Lib.hid (show w.heap.size ≤ (w2.alloc (.cells #[.slice A6 q.1.length c6, .slice A7 q.2.length c7, .bool false] 49)).heap.size by have := HBX.out.size; simp; omega); clear hown7 hb7 how hwc)
            | (refine step_append_any _ rfl (.tmp 58) (.tmp 70) 45 rfl w.heap.size 49 i0 (.agg #[.slice none 0 0, .slice none 0 0, .bool false]) 3 56 Try.underlying45 hi0 hz0 hz1 hz2 rfl (by omega) (.slice A5 k d5) k cells ?hs (HOW.out.alloc _) (w2.heap.size + 1) (some ⟨w2.heap.size, 0, none⟩) 1 1 [.slice A6 q.1.length c6, .slice A7 q.2.length c7, .bool false] ?hx (by exact (Sl.lit (size := 3) (k := 1) (cap := 1) _ _ _ _ _ _ rfl rfl rfl (by omega) (by omega)).rd) (by simp [Value.oneCell']) (by simp only [maxLen]; omega) (by omega) HBZ.out ?_; (case hs => rfl); (case hx => rfl); intro v9 w9 hown9 hgr9 hblk9; obtain ⟨A9, d9, rfl⟩ := own_slice hown9; have HO9 := Lib.hid hown9; have HG9 := Lib.hid (only_trans_alloc hgr9); have HLT := Lib.hid (fun q (hq : (Value.slice A5 k d5).ownBlock = some q) => (HOW.out.lt q hq).1); have HK9 := Lib.hid (fun o => World.cell?_of_block (w := w2) (w' := w9) (a := ⟨bq, o, none⟩) (HG9.out.block bq (Nat.lt_of_lt_of_le HBQ.out (Nat.le_trans HB0.out HBX.out.size)) (fun e => by have h1 := HLT.out _ e.symm; have h2 := HB0.out; have h3 := HBQ.out; omega))); have HS9 := Lib.hid (And.intro ((HK9.out offq).trans (SC.out _ HB.out).1) ((HK9.out (offq + 1)).trans (SC.out _ HB.out).2)); have HB9 := Lib.hid (HBX.out.grown HG9.out HBX.out.size HLT.out); clear hown9 hgr9 hblk9))
        all_goals
          have HFS9 := Lib.hid ((HFS.out.below HB.out (Nat.le_trans HB0.out HBL.out.size)).keep (fun a ha => World.cell?_of_block (HG9.out.block a.block (Nat.lt_of_lt_of_le ha (Nat.le_trans HB0.out HBX.out.size)) (fun e => by have := HLT.out _ e.symm; have := HB0.out; omega))))
          have HTS9 := Lib.hid ((HLQ.out.below HB.out (Nat.le_trans HB0.out HBL.out.size)).keep (fun a ha => World.cell?_of_block (HG9.out.block a.block (Nat.lt_of_lt_of_le ha (Nat.le_trans HB0.out HBX.out.size)) (fun e => by have := HLT.out _ e.symm; have := HB0.out; omega))))
          have HW9 := Lib.hid (show OwnWrs w9 w.heap.size (.slice A9 (k + 1) d9) (ws ++ [(q.1, q.2, false)]) from
            ⟨cells ++ [.slice A6 q.1.length c6, .slice A7 q.2.length c7, .bool false], by rw [List.length_append, List.length_singleton, HKL.out]; exact HO9.out,
              (HWC.out.snoc (by have := HOW.out.1; omega) HKL.out HOB1.out HOB2.out).map fun v bs hv => hv.kept HG9.out (hv.ne HOW.out (by decide))⟩)
          go_wp2_with fail
          go_roundw
          case rel => exact ⟨A3, 0, d, A4', m2 - 1, d2 - 1, [], ts, k + 1, A9, d9, ws ++ [(q.1, q.2, false)], rfl, rfl, rfl, by simp [HKL.out], HFS9.out, HTS9.out, HW9.out, by rw [← HEQ.out, List.append_assoc, HSTEP.out], HIF.out, fun x hx => HIT.out x (by simp [hx]), HB9.out⟩
          case measure => simp [lenOf]; omega
    · have HM1 : 1 ≤ m := by have := HFS.out.len; rw [List.length_cons] at this; omega
      rcases ts with _ | ⟨q, ts⟩
      · obtain rfl := SlR.nil_of HTS.out
        have HSTEP := Lib.hid (show Rws.writes (p :: fs) [] = [(p.1, [], true)] ++ Rws.writes fs [] by rw [Rws.writes]; rfl)
        have e1 := nf HM1
        have e2 := nd HM1
        obtain ⟨b, off, A1, A2', c1, c2', hA, hbb, q0, q1, y1, y2⟩ := pair_first HFS.out
        subst hA
        obtain ⟨A3', HFT, hA3⟩ := SlR.tail_ HFS.out (by decide)
        have hsl := sliceRun (n := m) (c := d) HM1 (hA := hA3)
        have hi1 : 0 < m := by omega
        have HQ1 := Lib.hid y1
        have HQ2 := Lib.hid y2
        have HLP := Lib.hid HFT
        clear hA3 HFT y1 y2
        clear nf nd
        have HQW := Lib.hid (Below.refl wr.heap.size wr)
        go_wp2_with fail
        refine (clone_any B A1 p.1.length c1 p.1 _ (HQ1.out.below HQW.out (Nat.le_trans HB0.out HBL.out.size)).sl (Nat.le_trans (Nat.le_trans HB0.out HBL.out.size) HQW.out.size) (by have := (HBF.out p (HIF.out p (by simp))).1; omega)).mono ?_
        rintro e wx ⟨v1, rfl, A6, c6, rfl, hown6, hb6⟩
        have HB6 := Lib.hid (HQW.out.trans (hb6.mono HQW.out.size))
        obtain ⟨cells, how, hwc⟩ := HWS.out.below HB6.out
        have HOW := Lib.hid (show wx.ownsRow w.heap.size 49 3 (.slice A5 k d5) k cells by rw [HKL.out] at how; exact how)
        have HWC := Lib.hid hwc
        have HBX := Lib.hid (HBL.out.trans (HB6.out.mono HBL.out.size))
        have HOB := Lib.hid (OwnB.of (own_low hown6 (Nat.le_trans HBL.out.size HQW.out.size)) (by have := (HBF.out p (HIF.out p (by simp))).1; omega))
        have HLP2 := Lib.hid (HLP.out.below HB6.out (Nat.le_trans HB0.out HBL.out.size))
        have HTS2 := Lib.hid (HTS.out.below HB6.out (Nat.le_trans HB0.out HBL.out.size))
        obtain ⟨l6, hl6⟩ : ∃ l, p.1.length = l := ⟨_, rfl⟩
        rw [hl6] at HOB ⊢
        clear how hwc hown6 hb6 q0 q1 hl6
        go_wp2_with (at_builtin
                     refine wpList_append_any _ rfl _ _ _ rfl w.heap.size 49 i0 _ 3 56 Try.underlying45 hi0 hz0 hz1 hz2 rfl (by omega) (.slice A5 k d5) k cells rfl (HOW.out.alloc _) (wx.heap.size + 1) (some ⟨wx.heap.size, 0, none⟩) 1 1 [.slice A6 l6 c6, .slice none 0 0, .bool true] rfl (by exact (Sl.lit (size := 3) (k := 1) (cap := 1) _ _ _ _ _ _ rfl rfl rfl (by omega) (by omega)).rd) (by simp [Value.oneCell']) (by simp only [maxLen]; omega) (by omega) (by have := HBX.out.size; simp; omega) ?_
                     intro v9 w9 hown9 hgr9 hblk9
                     obtain ⟨A9, d9, rfl⟩ := own_slice hown9
                     have HO9 := Lib.hid hown9
                     have HG9 := Lib.hid (only_trans_alloc hgr9)
                     clear hown9 hgr9 hblk9)
        have HLT := Lib.hid (fun q (hq : (Value.slice A5 k d5).ownBlock = some q) => (HOW.out.lt q hq).1)
        have HB9 := Lib.hid (HBX.out.grown HG9.out HBX.out.size HLT.out)
        have HLP9 := Lib.hid (HLP2.out.keep (fun a ha => World.cell?_of_block (HG9.out.block a.block (Nat.lt_of_lt_of_le ha (Nat.le_trans HB0.out HBX.out.size)) (fun e => by have := HLT.out _ e.symm; have := HB0.out; omega))))
        have HTS9 := Lib.hid (HTS2.out.keep (fun a ha => World.cell?_of_block (HG9.out.block a.block (Nat.lt_of_lt_of_le ha (Nat.le_trans HB0.out HBX.out.size)) (fun e => by have := HLT.out _ e.symm; have := HB0.out; omega))))
        have HW9 := Lib.hid (show OwnWrs w9 w.heap.size (.slice A9 (k + 1) d9) (ws ++ [(p.1, [], true)]) from
          ⟨cells ++ [.slice A6 l6 c6, .slice none 0 0, .bool true], by rw [List.length_append, List.length_singleton, HKL.out]; exact HO9.out,
            (HWC.out.snoc (by have := HOW.out.1; omega) HKL.out HOB.out ⟨none, 0, rfl, World.ownsRow_nil _ _ _ _, by simp⟩).map fun v bs hv => hv.kept HG9.out (hv.ne HOW.out (by decide))⟩)
        go_wp2_with fail
        go_roundw
        case rel => exact ⟨A3', m - 1, d - 1, A4, 0, d2, fs, [], k + 1, A9, d9, ws ++ [(p.1, [], true)], rfl, rfl, rfl, by simp [HKL.out], HLP9.out, HTS9.out, HW9.out, by rw [← HEQ.out, List.append_assoc, HSTEP.out], fun x hx => HIF.out x (by simp [hx]), HIT.out, HB9.out⟩
        case measure => simp [lenOf]; omega
      · have HM2 : 1 ≤ m2 := by have := HTS.out.len; rw [List.length_cons] at this; omega
        have e1 := nf HM1
        have e2 := nd HM1
        have e3 := nf HM2
        have e4 := nd HM2
        obtain ⟨b, off, A1, A2', c1, c2', hA, hbb, q0, q1, y1, y2⟩ := pair_first HFS.out
        subst hA
        obtain ⟨A3', HFT, hA3⟩ := SlR.tail_ HFS.out (by decide)
        have hsl := sliceRun (n := m) (c := d) HM1 (hA := hA3)
        have hi1 : 0 < m := by omega
        have HQ1 := Lib.hid y1
        have HQ2 := Lib.hid y2
        have HLP := Lib.hid HFT
        clear hA3 HFT y1 y2
        obtain ⟨bq, offq, A1q, A2q, c1q, c2q, hAq, hbq, r0, r1, z1, z2⟩ := pair_first HTS.out
        subst hAq
        obtain ⟨A4', HTT, hA4⟩ := SlR.tail_ HTS.out (by decide)
        have hsl2 := sliceRun (n := m2) (c := d2) HM2 (hA := hA4)
        have hi2 : 0 < m2 := by omega
        have HR1 := Lib.hid z1
        have HR2 := Lib.hid z2
        have HR3 := Lib.hid r0
        have HR4 := Lib.hid r1
        have HBQ := Lib.hid hbq
        have HLQ := Lib.hid HTT
        clear hA4 HTT z1 z2 hbq
        have HQ3 := Lib.hid q0
        have HQ4 := Lib.hid q1
        have HBP := Lib.hid hbb
        obtain ⟨od, hod⟩ : ∃ o, Oct.order p.1 q.1 = o := ⟨_, rfl⟩
        have HOD := Lib.hid hod
        have HOR := Lib.hid (fun k => (order_any B A1 p.1.length c1 B A1q q.1.length c1q p.1 q.1 (wr.drewN k) (HQ1.out.sl.drewN k) (HR1.out.sl.drewN k)).mono fun e w' (h : _ ∧ _) => (⟨h.1, h.2.symm⟩ : e = .returned (.int .i64 (Oct.order p.1 q.1)) ∧ w' = wr.drewN k))
        rw [hod] at HOR
        have hrange := Oct.order_range p.1 q.1
        rw [hod] at hrange
        clear hod
        clear nf nd
        have HQW := Lib.hid (Below.refl wr.heap.size wr)
        go_wp2_with fail
        go_quiet ((go_at_call 29; exact Calls.quiet_of_same (HOR.out _)))
        obtain ⟨wq, HQW, hwq⟩ : ∃ wq, Hid (Below wr.heap.size wr wq) ∧ wr.drewN nq = wq := ⟨_, Lib.hid (below_drewN HQW.out nq), rfl⟩
        rw [hwq]
        clear hwq q0 q1 r0 r1
        have q0 := cell_belowW HQW.out HQ3.out
        have q1 := cell_belowW HQW.out HQ4.out
        rcases hrange with rfl | rfl | rfl
        · have HSTEP := Lib.hid (show Rws.writes (p :: fs) (q :: ts) = [(p.1, [], true)] ++ Rws.writes fs (q :: ts) by rw [Rws.writes, if_pos (by rw [HOD.out]; omega)]; rfl)
          go_wp2_with fail
          refine (clone_any B A1 p.1.length c1 p.1 _ (HQ1.out.below HQW.out (Nat.le_trans HB0.out HBL.out.size)).sl (Nat.le_trans (Nat.le_trans HB0.out HBL.out.size) HQW.out.size) (by have := (HBF.out p (HIF.out p (by simp))).1; omega)).mono ?_
          rintro e wx ⟨v1, rfl, A6, c6, rfl, hown6, hb6⟩
          have HB6 := Lib.hid (HQW.out.trans (hb6.mono HQW.out.size))
          obtain ⟨cells, how, hwc⟩ := HWS.out.below HB6.out
          have HOW := Lib.hid (show wx.ownsRow w.heap.size 49 3 (.slice A5 k d5) k cells by rw [HKL.out] at how; exact how)
          have HWC := Lib.hid hwc
          have HBX := Lib.hid (HBL.out.trans (HB6.out.mono HBL.out.size))
          have HOB := Lib.hid (OwnB.of (own_low hown6 (Nat.le_trans HBL.out.size HQW.out.size)) (by have := (HBF.out p (HIF.out p (by simp))).1; omega))
          have HLP2 := Lib.hid (HLP.out.below HB6.out (Nat.le_trans HB0.out HBL.out.size))
          have HTS2 := Lib.hid (HTS.out.below HB6.out (Nat.le_trans HB0.out HBL.out.size))
          obtain ⟨l6, hl6⟩ : ∃ l, p.1.length = l := ⟨_, rfl⟩
          rw [hl6] at HOB ⊢
          clear how hwc hown6 hb6 q0 q1 hl6
          go_wp2_with (at_builtin
                       refine wpList_append_any _ rfl _ _ _ rfl w.heap.size 49 i0 _ 3 56 Try.underlying45 hi0 hz0 hz1 hz2 rfl (by omega) (.slice A5 k d5) k cells rfl (HOW.out.alloc _) (wx.heap.size + 1) (some ⟨wx.heap.size, 0, none⟩) 1 1 [.slice A6 l6 c6, .slice none 0 0, .bool true] rfl (by exact (Sl.lit (size := 3) (k := 1) (cap := 1) _ _ _ _ _ _ rfl rfl rfl (by omega) (by omega)).rd) (by simp [Value.oneCell']) (by simp only [maxLen]; omega) (by omega) (by have := HBX.out.size; simp; omega) ?_
                       intro v9 w9 hown9 hgr9 hblk9
                       obtain ⟨A9, d9, rfl⟩ := own_slice hown9
                       have HO9 := Lib.hid hown9
                       have HG9 := Lib.hid (only_trans_alloc hgr9)
                       clear hown9 hgr9 hblk9)
          have HLT := Lib.hid (fun q (hq : (Value.slice A5 k d5).ownBlock = some q) => (HOW.out.lt q hq).1)
          have HB9 := Lib.hid (HBX.out.grown HG9.out HBX.out.size HLT.out)
          have HLP9 := Lib.hid (HLP2.out.keep (fun a ha => World.cell?_of_block (HG9.out.block a.block (Nat.lt_of_lt_of_le ha (Nat.le_trans HB0.out HBX.out.size)) (fun e => by have := HLT.out _ e.symm; have := HB0.out; omega))))
          have HTS9 := Lib.hid (HTS2.out.keep (fun a ha => World.cell?_of_block (HG9.out.block a.block (Nat.lt_of_lt_of_le ha (Nat.le_trans HB0.out HBX.out.size)) (fun e => by have := HLT.out _ e.symm; have := HB0.out; omega))))
          have HW9 := Lib.hid (show OwnWrs w9 w.heap.size (.slice A9 (k + 1) d9) (ws ++ [(p.1, [], true)]) from
            ⟨cells ++ [.slice A6 l6 c6, .slice none 0 0, .bool true], by rw [List.length_append, List.length_singleton, HKL.out]; exact HO9.out,
              (HWC.out.snoc (by have := HOW.out.1; omega) HKL.out HOB.out ⟨none, 0, rfl, World.ownsRow_nil _ _ _ _, by simp⟩).map fun v bs hv => hv.kept HG9.out (hv.ne HOW.out (by decide))⟩)
          go_wp2_with fail
          go_roundw
          case rel => exact ⟨A3', m - 1, d - 1, some ⟨bq, offq, none⟩, m2, d2, fs, q :: ts, k + 1, A9, d9, ws ++ [(p.1, [], true)], rfl, rfl, rfl, by simp [HKL.out], HLP9.out, HTS9.out, HW9.out, by rw [← HEQ.out, List.append_assoc, HSTEP.out], fun x hx => HIF.out x (by simp [hx]), HIT.out, HB9.out⟩
          case measure => simp [lenOf]; omega
        · have r0 := cell_belowW HQW.out HR3.out
          have r1 := cell_belowW HQW.out HR4.out
          by_cases hpv : (p.2 == q.2) = true
          · have HSTEP := Lib.hid (show Rws.writes (p :: fs) (q :: ts) = [] ++ Rws.writes fs ts by rw [Rws.writes, if_neg (by rw [HOD.out]; omega), if_neg (by rw [HOD.out]; omega), if_pos hpv]; rfl)
            have HEQL := Lib.hid (fun k => (equal_any B A2' p.2.length c2' B A2q q.2.length c2q p.2 q.2 (wq.drewN k) ((HQ2.out.below HQW.out (Nat.le_trans HB0.out HBL.out.size)).sl.drewN k) ((HR2.out.below HQW.out (Nat.le_trans HB0.out HBL.out.size)).sl.drewN k)).mono fun e w' (h : _ ∧ _) => (⟨h.1, h.2.symm⟩ : e = .returned (.bool (p.2 == q.2)) ∧ w' = wq.drewN k))
            rw [hpv] at HEQL
            have HPV := Lib.hid hpv
            clear hpv
            go_wp2_with fail
            go_quiet ((go_at_call 31; exact Calls.quiet_of_same (HEQL.out _)))
            obtain ⟨wz, HQW, hwq⟩ : ∃ wz, Hid (Below wr.heap.size wr wz) ∧ wq.drewN nq = wz := ⟨_, Lib.hid (below_drewN HQW.out nq), rfl⟩
            rw [hwq]
            clear hwq q0 q1 r0 r1
            go_wp2_with fail
            have HLP9 := Lib.hid (HLP.out.below HQW.out (Nat.le_trans HB0.out HBL.out.size))
            have HLQ9 := Lib.hid (HLQ.out.below HQW.out (Nat.le_trans HB0.out HBL.out.size))
            have HW9 := Lib.hid (HWS.out.below HQW.out)
            have HB9 := Lib.hid (HBL.out.trans (HQW.out.mono HBL.out.size))
            go_roundw
            case rel => exact ⟨A3', m - 1, d - 1, A4', m2 - 1, d2 - 1, fs, ts, k, A5, d5, ws, rfl, rfl, rfl, HKL.out, HLP9.out, HLQ9.out, HW9.out, by rw [← HEQ.out, HSTEP.out, List.nil_append], fun x hx => HIF.out x (by simp [hx]), fun x hx => HIT.out x (by simp [hx]), HB9.out⟩
            case measure => simp [lenOf]; omega
          · rw [Bool.not_eq_true] at hpv
            have HSTEP := Lib.hid (show Rws.writes (p :: fs) (q :: ts) = [(q.1, q.2, false)] ++ Rws.writes fs ts by rw [Rws.writes, if_neg (by rw [HOD.out]; omega), if_neg (by rw [HOD.out]; omega), if_neg (by rw [hpv]; decide)]; rfl)
            have HEQL := Lib.hid (fun k => (equal_any B A2' p.2.length c2' B A2q q.2.length c2q p.2 q.2 (wq.drewN k) ((HQ2.out.below HQW.out (Nat.le_trans HB0.out HBL.out.size)).sl.drewN k) ((HR2.out.below HQW.out (Nat.le_trans HB0.out HBL.out.size)).sl.drewN k)).mono fun e w' (h : _ ∧ _) => (⟨h.1, h.2.symm⟩ : e = .returned (.bool (p.2 == q.2)) ∧ w' = wq.drewN k))
            rw [hpv] at HEQL
            have HPV := Lib.hid hpv
            clear hpv
            go_wp2_with fail
            go_quiet ((go_at_call 31; exact Calls.quiet_of_same (HEQL.out _)))
            obtain ⟨wz, HQW, hwq⟩ : ∃ wz, Hid (Below wr.heap.size wr wz) ∧ wq.drewN nq = wz := ⟨_, Lib.hid (below_drewN HQW.out nq), rfl⟩
            rw [hwq]
            clear hwq q0 q1 r0 r1
            go_wp2_with fail
            have HC1 := Lib.hid (fun w' (hh : Below wr.heap.size wr w') => clone_any B A1q q.1.length c1q q.1 w' (HR1.out.below hh (Nat.le_trans HB0.out HBL.out.size)).sl (Nat.le_trans (Nat.le_trans HB0.out HBL.out.size) hh.size) (by have := (HBT.out q (HIT.out q (by simp))).1; omega))
            have HC2 := Lib.hid (fun w' (hh : Below wr.heap.size wr w') => clone_any B A2q q.2.length c2q q.2 w' (HR2.out.below hh (Nat.le_trans HB0.out HBL.out.size)).sl (Nat.le_trans (Nat.le_trans HB0.out HBL.out.size) hh.size) (by have := (HBT.out q (HIT.out q (by simp))).2; omega))
            have HL1 := Lib.hid (show q.1.length ≤ 140737488355328 by have := (HBT.out q (HIT.out q (by simp))).1; omega)
            have HL2 := Lib.hid (show q.2.length ≤ 140737488355328 by have := (HBT.out q (HIT.out q (by simp))).2; omega)
            have SC := Lib.hid (fun w' (hh : Below wr.heap.size wr w') => (show w'.cell? ⟨bq, offq, none⟩ = some (.slice A1q q.1.length c1q) ∧ w'.cell? ⟨bq, offq + 1, none⟩ = some (.slice A2q q.2.length c2q) from ⟨(hh.cell (p := ⟨bq, offq, none⟩) (Nat.lt_of_lt_of_le HBQ.out (Nat.le_trans HB0.out HBL.out.size))).trans HR3.out, (hh.cell (p := ⟨bq, offq + 1, none⟩) (Nat.lt_of_lt_of_le HBQ.out (Nat.le_trans HB0.out HBL.out.size))).trans HR4.out⟩))
            have HB := Lib.hid HQW.out.drew
            go_region_held3 (fun w' => w'.cell? ⟨bq, offq, none⟩ = some (.slice A1q q.1.length c1q) ∧ w'.cell? ⟨bq, offq + 1, none⟩ = some (.slice A2q q.2.length c2q))
              (first | exact HS9.out | exact SC.out _ HB.out | exact SC.out _ (HB.out.alloc HB.out.size _))
              (first
                | (go_at_call 30; (with_reducible refine (HC1.out _ HB.out).mono ?_); rintro e w1 ⟨v1, rfl, A6, c6, rfl, hown6, hb6⟩; have HOB1 := Lib.hid (OwnB.of (own_low (base' := w.heap.size) hown6 (Nat.le_trans HBL.out.size HB.out.size)) HL1.out); have HB := Lib.hid (HB.out.trans (hb6.mono HB.out.size)); clear hown6 hb6)
                | (go_at_call 30; (with_reducible refine (HC2.out _ HB.out).mono ?_); rintro e w2 ⟨v2, rfl, A7, c7, rfl, hown7, hb7⟩; have HOB2 := Lib.hid (OwnB.of (own_low (base' := w.heap.size) hown7 (Nat.le_trans HBL.out.size HB.out.size)) HL2.out); have HOB1 := Lib.hid (HOB1.out.below hb7); have HB := Lib.hid (HB.out.trans (hb7.mono HB.out.size)); obtain ⟨cells, how, hwc⟩ := HWS.out.below HB.out; have HOW := Lib.hid (show w2.ownsRow w.heap.size 49 3 (.slice A5 k d5) k cells by rw [HKL.out] at how; exact how); have HWC := Lib.hid hwc; have HBX := Lib.hid (HBL.out.trans (HB.out.mono HBL.out.size)); have HBZ := Lib.hid (show w.heap.size ≤ (w2.alloc (.cells #[.slice A6 q.1.length c6, .slice A7 q.2.length c7, .bool false] 49)).heap.size by have := HBX.out.size; simp; omega); clear hown7 hb7 how hwc)
                | (refine step_append_any _ rfl (.tmp 58) (.tmp 70) 45 rfl w.heap.size 49 i0 (.agg #[.slice none 0 0, .slice none 0 0, .bool false]) 3 56 Try.underlying45 hi0 hz0 hz1 hz2 rfl (by omega) (.slice A5 k d5) k cells ?hs (HOW.out.alloc _) (w2.heap.size + 1) (some ⟨w2.heap.size, 0, none⟩) 1 1 [.slice A6 q.1.length c6, .slice A7 q.2.length c7, .bool false] ?hx (by exact (Sl.lit (size := 3) (k := 1) (cap := 1) _ _ _ _ _ _ rfl rfl rfl (by omega) (by omega)).rd) (by simp [Value.oneCell']) (by simp only [maxLen]; omega) (by omega) HBZ.out ?_; (case hs => rfl); (case hx => rfl); intro v9 w9 hown9 hgr9 hblk9; obtain ⟨A9, d9, rfl⟩ := own_slice hown9; have HO9 := Lib.hid hown9; have HG9 := Lib.hid (only_trans_alloc hgr9); have HLT := Lib.hid (fun q (hq : (Value.slice A5 k d5).ownBlock = some q) => (HOW.out.lt q hq).1); have HK9 := Lib.hid (fun o => World.cell?_of_block (w := w2) (w' := w9) (a := ⟨bq, o, none⟩) (HG9.out.block bq (Nat.lt_of_lt_of_le HBQ.out (Nat.le_trans HB0.out HBX.out.size)) (fun e => by have h1 := HLT.out _ e.symm; have h2 := HB0.out; have h3 := HBQ.out; omega))); have HS9 := Lib.hid (And.intro ((HK9.out offq).trans (SC.out _ HB.out).1) ((HK9.out (offq + 1)).trans (SC.out _ HB.out).2)); have HB9 := Lib.hid (HBX.out.grown HG9.out HBX.out.size HLT.out); clear hown9 hgr9 hblk9))
            all_goals
              have HFS9 := Lib.hid ((HLP.out.below HB.out (Nat.le_trans HB0.out HBL.out.size)).keep (fun a ha => World.cell?_of_block (HG9.out.block a.block (Nat.lt_of_lt_of_le ha (Nat.le_trans HB0.out HBX.out.size)) (fun e => by have := HLT.out _ e.symm; have := HB0.out; omega))))
              have HTS9 := Lib.hid ((HLQ.out.below HB.out (Nat.le_trans HB0.out HBL.out.size)).keep (fun a ha => World.cell?_of_block (HG9.out.block a.block (Nat.lt_of_lt_of_le ha (Nat.le_trans HB0.out HBX.out.size)) (fun e => by have := HLT.out _ e.symm; have := HB0.out; omega))))
              have HW9 := Lib.hid (show OwnWrs w9 w.heap.size (.slice A9 (k + 1) d9) (ws ++ [(q.1, q.2, false)]) from
                ⟨cells ++ [.slice A6 q.1.length c6, .slice A7 q.2.length c7, .bool false], by rw [List.length_append, List.length_singleton, HKL.out]; exact HO9.out,
                  (HWC.out.snoc (by have := HOW.out.1; omega) HKL.out HOB1.out HOB2.out).map fun v bs hv => hv.kept HG9.out (hv.ne HOW.out (by decide))⟩)
              go_wp2_with fail
              go_roundw
              case rel => exact ⟨A3', m - 1, d - 1, A4', m2 - 1, d2 - 1, fs, ts, k + 1, A9, d9, ws ++ [(q.1, q.2, false)], rfl, rfl, rfl, by simp [HKL.out], HFS9.out, HTS9.out, HW9.out, by rw [← HEQ.out, List.append_assoc, HSTEP.out], fun x hx => HIF.out x (by simp [hx]), fun x hx => HIT.out x (by simp [hx]), HB9.out⟩
              case measure => simp [lenOf]; omega
        · have HSTEP := Lib.hid (show Rws.writes (p :: fs) (q :: ts) = [(q.1, q.2, false)] ++ Rws.writes (p :: fs) ts by rw [Rws.writes, if_neg (by rw [HOD.out]; omega), if_pos (by rw [HOD.out]; omega)]; rfl)
          go_wp2_with fail
          go_quiet (fail)
          obtain ⟨wz, HQW, hwq⟩ : ∃ wz, Hid (Below wr.heap.size wr wz) ∧ wq.drewN nq = wz := ⟨_, Lib.hid (below_drewN HQW.out nq), rfl⟩
          rw [hwq]
          clear hwq q0 q1
          go_wp2_with fail
          have HC1 := Lib.hid (fun w' (hh : Below wr.heap.size wr w') => clone_any B A1q q.1.length c1q q.1 w' (HR1.out.below hh (Nat.le_trans HB0.out HBL.out.size)).sl (Nat.le_trans (Nat.le_trans HB0.out HBL.out.size) hh.size) (by have := (HBT.out q (HIT.out q (by simp))).1; omega))
          have HC2 := Lib.hid (fun w' (hh : Below wr.heap.size wr w') => clone_any B A2q q.2.length c2q q.2 w' (HR2.out.below hh (Nat.le_trans HB0.out HBL.out.size)).sl (Nat.le_trans (Nat.le_trans HB0.out HBL.out.size) hh.size) (by have := (HBT.out q (HIT.out q (by simp))).2; omega))
          have HL1 := Lib.hid (show q.1.length ≤ 140737488355328 by have := (HBT.out q (HIT.out q (by simp))).1; omega)
          have HL2 := Lib.hid (show q.2.length ≤ 140737488355328 by have := (HBT.out q (HIT.out q (by simp))).2; omega)
          have SC := Lib.hid (fun w' (hh : Below wr.heap.size wr w') => (show w'.cell? ⟨bq, offq, none⟩ = some (.slice A1q q.1.length c1q) ∧ w'.cell? ⟨bq, offq + 1, none⟩ = some (.slice A2q q.2.length c2q) from ⟨(hh.cell (p := ⟨bq, offq, none⟩) (Nat.lt_of_lt_of_le HBQ.out (Nat.le_trans HB0.out HBL.out.size))).trans HR3.out, (hh.cell (p := ⟨bq, offq + 1, none⟩) (Nat.lt_of_lt_of_le HBQ.out (Nat.le_trans HB0.out HBL.out.size))).trans HR4.out⟩))
          have HB := Lib.hid HQW.out.drew
          go_region_held3 (fun w' => w'.cell? ⟨bq, offq, none⟩ = some (.slice A1q q.1.length c1q) ∧ w'.cell? ⟨bq, offq + 1, none⟩ = some (.slice A2q q.2.length c2q))
            (first | exact HS9.out | exact SC.out _ HB.out | exact SC.out _ (HB.out.alloc HB.out.size _))
            (first
              | (go_at_call 30; (with_reducible refine (HC1.out _ HB.out).mono ?_); rintro e w1 ⟨v1, rfl, A6, c6, rfl, hown6, hb6⟩; have HOB1 := Lib.hid (OwnB.of (own_low (base' := w.heap.size) hown6 (Nat.le_trans HBL.out.size HB.out.size)) HL1.out); have HB := Lib.hid (HB.out.trans (hb6.mono HB.out.size)); clear hown6 hb6)
              | (go_at_call 30; (with_reducible refine (HC2.out _ HB.out).mono ?_); rintro e w2 ⟨v2, rfl, A7, c7, rfl, hown7, hb7⟩; have HOB2 := Lib.hid (OwnB.of (own_low (base' := w.heap.size) hown7 (Nat.le_trans HBL.out.size HB.out.size)) HL2.out); have HOB1 := Lib.hid (HOB1.out.below hb7); have HB := Lib.hid (HB.out.trans (hb7.mono HB.out.size)); obtain ⟨cells, how, hwc⟩ := HWS.out.below HB.out; have HOW := Lib.hid (show w2.ownsRow w.heap.size 49 3 (.slice A5 k d5) k cells by rw [HKL.out] at how; exact how); have HWC := Lib.hid hwc; have HBX := Lib.hid (HBL.out.trans (HB.out.mono HBL.out.size)); have HBZ := Lib.hid (show w.heap.size ≤ (w2.alloc (.cells #[.slice A6 q.1.length c6, .slice A7 q.2.length c7, .bool false] 49)).heap.size by have := HBX.out.size; simp; omega); clear hown7 hb7 how hwc)
              | (refine step_append_any _ rfl (.tmp 58) (.tmp 70) 45 rfl w.heap.size 49 i0 (.agg #[.slice none 0 0, .slice none 0 0, .bool false]) 3 56 Try.underlying45 hi0 hz0 hz1 hz2 rfl (by omega) (.slice A5 k d5) k cells ?hs (HOW.out.alloc _) (w2.heap.size + 1) (some ⟨w2.heap.size, 0, none⟩) 1 1 [.slice A6 q.1.length c6, .slice A7 q.2.length c7, .bool false] ?hx (by exact (Sl.lit (size := 3) (k := 1) (cap := 1) _ _ _ _ _ _ rfl rfl rfl (by omega) (by omega)).rd) (by simp [Value.oneCell']) (by simp only [maxLen]; omega) (by omega) HBZ.out ?_; (case hs => rfl); (case hx => rfl); intro v9 w9 hown9 hgr9 hblk9; obtain ⟨A9, d9, rfl⟩ := own_slice hown9; have HO9 := Lib.hid hown9; have HG9 := Lib.hid (only_trans_alloc hgr9); have HLT := Lib.hid (fun q (hq : (Value.slice A5 k d5).ownBlock = some q) => (HOW.out.lt q hq).1); have HK9 := Lib.hid (fun o => World.cell?_of_block (w := w2) (w' := w9) (a := ⟨bq, o, none⟩) (HG9.out.block bq (Nat.lt_of_lt_of_le HBQ.out (Nat.le_trans HB0.out HBX.out.size)) (fun e => by have h1 := HLT.out _ e.symm; have h2 := HB0.out; have h3 := HBQ.out; omega))); have HS9 := Lib.hid (And.intro ((HK9.out offq).trans (SC.out _ HB.out).1) ((HK9.out (offq + 1)).trans (SC.out _ HB.out).2)); have HB9 := Lib.hid (HBX.out.grown HG9.out HBX.out.size HLT.out); clear hown9 hgr9 hblk9))
          all_goals
            have HFS9 := Lib.hid ((HFS.out.below HB.out (Nat.le_trans HB0.out HBL.out.size)).keep (fun a ha => World.cell?_of_block (HG9.out.block a.block (Nat.lt_of_lt_of_le ha (Nat.le_trans HB0.out HBX.out.size)) (fun e => by have := HLT.out _ e.symm; have := HB0.out; omega))))
            have HTS9 := Lib.hid ((HLQ.out.below HB.out (Nat.le_trans HB0.out HBL.out.size)).keep (fun a ha => World.cell?_of_block (HG9.out.block a.block (Nat.lt_of_lt_of_le ha (Nat.le_trans HB0.out HBX.out.size)) (fun e => by have := HLT.out _ e.symm; have := HB0.out; omega))))
            have HW9 := Lib.hid (show OwnWrs w9 w.heap.size (.slice A9 (k + 1) d9) (ws ++ [(q.1, q.2, false)]) from
              ⟨cells ++ [.slice A6 q.1.length c6, .slice A7 q.2.length c7, .bool false], by rw [List.length_append, List.length_singleton, HKL.out]; exact HO9.out,
                (HWC.out.snoc (by have := HOW.out.1; omega) HKL.out HOB1.out HOB2.out).map fun v bs hv => hv.kept HG9.out (hv.ne HOW.out (by decide))⟩)
            go_wp2_with fail
            go_roundw
            case rel => exact ⟨some ⟨b, off, none⟩, m, d, A4', m2 - 1, d2 - 1, p :: fs, ts, k + 1, A9, d9, ws ++ [(q.1, q.2, false)], rfl, rfl, rfl, by simp [HKL.out], HFS9.out, HTS9.out, HW9.out, by rw [← HEQ.out, List.append_assoc, HSTEP.out], HIF.out, fun x hx => HIT.out x (by simp [hx]), HB9.out⟩
            case measure => simp [lenOf]; omega
    --END

end Go.Proofs.Ytniekddoaokmkaa

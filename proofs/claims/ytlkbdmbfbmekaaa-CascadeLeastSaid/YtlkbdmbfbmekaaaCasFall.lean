/-
  Layer 31 (cascade): Fall, Safe and Help, walked.
-/
import Derived.Test.YtlkbdmbfbmekaaaCasFalls
namespace Go.Proofs.Ytlkbdmbfbmekaaa
open Go.RowKit Go.Gab
set_option linter.unusedVariables false
attribute [local go_sem ↓] Go.wp_at_zero Go.wp_at_succ

theorem fallsD_none (bals : List Int) (l : List Cas.Due) (first : List Int) : fallsD bals l Cas.none_ first = Cas.falls bals l first := rfl

/-- What Fall answers. -/
def FallTo (w : World) (bals : List Int) (l : List Cas.Due) (first : List Int) (e : Ending) (w' : World) : Prop :=
  ∃ A c rs vs, e = .returned (.tuple #[.slice A rs.length c, .int .i64 (Cas.errs bals l first)]) ∧ rs = (if Cas.errs bals l first = 0 then Cas.falls bals l first else []) ∧
    w'.ownsRow w.heap.size 47 1 (.slice A rs.length c) rs.length vs ∧ RowsOf w' w.heap.size vs rs ∧ Below w.heap.size w w'

set_option maxHeartbeats 2000000 in
theorem fall_any (B : Nat) (A : Option Addr) (n c : Nat) (xs : List AcctT) (A1 : Option Addr) (n1 c1 : Nat) (ys : List DueT) (A2 : Option Addr) (n2 c2 : Nat) (zs : List Int) (w : World) (hB : B ≤ w.heap.size)
    (hr : SlR acctR w B A n c xs) (hr1 : SlR dueR w B A1 n1 c1 ys) (hr2 : SlI w B A2 n2 c2 zs) :
    Calls Try.prog 30 #[.slice A n c, .slice A1 n1 c1, .slice A2 n2 c2] w (FallTo w (xs.map bal) (ys.map due) zs) := by
  have HBG := Lib.hid (begin_any B A n c xs A1 n1 c1 ys A2 n2 c2 zs w hB hr hr1 hr2)
  have HR := Lib.hid hr
  have HR2 := Lib.hid hr2
  obtain ⟨z, hz⟩ : ∃ z, Cas.errs (xs.map bal) (ys.map due) zs = z := ⟨_, rfl⟩
  have HZ := Lib.hid hz
  clear hr hr1 hr2 hz
  go_enter Try.func30, Try.ntmps30
  go_wp2_with fail
  refine HBG.out.mono ?_
  rintro e w1 ⟨⟨p, rfl, hp⟩, hb⟩
  rw [HZ.out] at hp ⊢
  have HP := Lib.hid hp
  have HB1 := Lib.hid hb
  clear hp hb HBG
  by_cases h0 : z = 0
  · subst h0
    obtain ⟨g, rfl, hg, hbk⟩ := HP.out rfl
    have HOK := Lib.hid (Cas.ok_of_errs HZ.out)
    have HF := Lib.hid (falls_any g B A n c xs (ys.map due) Cas.none_ A2 n2 c2 zs w1 ⟨hbk, HR.out.below HB1.out hB, HOK.out.1, by omega⟩ (by have := HB1.out.size; omega) B (HR2.out.below HB1.out hB) (by have := HB1.out.size; omega))
    have HG := Lib.hid hg
    clear hg hbk HP
    go_wp2_with fail
    refine HF.out.mono ?_
    rintro e w2 ⟨A3, c3, vs, rfl, hown, hrows, _, hgr⟩
    have HO := Lib.hid (own_low hown HB1.out.size)
    have HRW := Lib.hid (show RowsOf w2 w.heap.size vs _ from hrows.low HB1.out.size)
    have HGR := Lib.hid hgr
    clear hown hrows hgr HF
    rw [fallsD_none] at HO HRW ⊢
    go_wp2_with fail
    go_ret2
    unfold FallTo
    rw [HZ.out, if_pos rfl]
    exact ⟨A3, c3, _, vs, rfl, rfl, HO.out, HRW.out, HB1.out.grown HGR.out HB1.out.size (fun k hk => by cases hk; exact HG.out)⟩
  · have hzb : (z == 0) = false := by simpa using h0
    have hzn : (z != 0) = true := by simpa using h0
    have H0 := Lib.hid h0
    clear h0 HP
    go_wp2_with fail
    go_ret2
    unfold FallTo
    rw [HZ.out, if_neg H0.out]
    exact ⟨none, 0, [], [], rfl, rfl, World.ownsRow_nil _ _ _ _, RowsOf.nil _ _, HB1.out⟩

/-! ### Safe -/
theorem SlR_none (w : World) (B : Nat) : SlI w B none 0 0 [] := ⟨rfl, Nat.le_refl _, by omega, fun i hi => by omega⟩
theorem SlR_one (w : World) (x : Int) (hx : (Lit.int .i64 x).wf = true) (e : TypeId) (fz : Nat × Nat) : SlI (w.alloc (.cells #[.int .i64 x] e fz)) (w.heap.size + 1) (some ⟨w.heap.size, 0, none⟩) 1 1 [x] :=
  ⟨rfl, Nat.le_refl _, by omega, fun i hi => by
    obtain rfl : i = 0 := by omega
    refine ⟨w.heap.size, 0, x, rfl, by omega, rfl, hx, ?_⟩
    rw [cell_of_row (w.alloc (.cells #[.int .i64 x] e fz)) w.heap.size _ #[.int .i64 x] e fz (heap_alloc_new w _)]
    rfl⟩

theorem who_none (n : Nat) (p : Nat → Bool) : who n Cas.none_ p = (List.range n).filter p := rfl
theorem safe_who (bals : List Int) (l : List Cas.Due) : who bals.length Cas.none_ (fun k => (Cas.falls bals l [(k : Int)]).length == 1) = Cas.safe bals l := rfl

def falses : Array Value := ((List.range 16).map fun _ => Value.bool false).toArray
theorem falses_eq : falses.toList = List.replicate 16 (.bool false) := rfl

theorem bank_reset {g : Nat} {t : TypeId} {v : Value} {o : Nat → Nat → Int} : ∀ (m k : Nat) (w : World) (d : Nat → Bool), k + m ≤ 16 → Blk w g t (bankC v o d) →
    ∃ d', Blk (w.setCells g (257 + k) (List.replicate m (.bool false))) g t (bankC v o d') ∧ (∀ i, i < k → d' i = d i) ∧ ∀ i, k ≤ i → i < k + m → d' i = false
  | 0, k, w, d, _, h => ⟨d, h, fun _ _ => rfl, fun i h1 h2 => by omega⟩
  | m + 1, k, w, d, hk, h => by
    have h1 := h.set_ (257 + k) (.bool false)
    rw [bank_setD _ _ _ (by omega)] at h1
    obtain ⟨d', h2, h3, h4⟩ := bank_reset m (k + 1) _ _ (by omega) h1
    refine ⟨d', h2, fun i hi => ?_, fun i hi1 hi2 => ?_⟩
    · rw [h3 i (by omega)]
      unfold updD
      rw [if_neg (by omega)]
    · by_cases e : i = k
      · rw [h3 i (by omega)]
        unfold updD
        rw [if_pos e]
      · exact h4 i (by omega) (by omega)
theorem bank_congr {v : Value} {o : Nat → Nat → Int} {d d' : Nat → Bool} (h : ∀ i, i < 16 → d i = d' i) : bankC v o d = bankC v o d' := by
  apply Array.ext_getElem?
  intro n
  rw [bank_get, bank_get]
  split
  · rfl
  · split
    · rfl
    · split
      · rw [h _ (by omega)]
      · rfl
theorem bank_fresh {w : World} {g : Nat} {t : TypeId} {v : Value} {o : Nat → Nat → Int} {d : Nat → Bool} (h : Blk w g t (bankC v o d)) : Blk (w.setCells g 257 falses.toList) g t (bankC v o Cas.none_) := by
  obtain ⟨d', h1, _, h2⟩ := bank_reset 16 0 w d (by omega) h
  rw [falses_eq]
  rw [bank_congr (d := d') (d' := Cas.none_) fun i hi => h2 i (Nat.zero_le _) (by omega)] at h1
  exact h1
theorem bank_there {w : World} {g : Nat} {t : TypeId} {v : Value} {o : Nat → Nat → Int} {d : Nat → Bool} (h : Blk w g t (bankC v o d)) : w.there g 257 falses.size := fun j hj => by
  have hj : j < 16 := hj
  exact ⟨by rw [h.cell, bank_d _ _ _ hj]; rfl, by rw [h.frozen]⟩
theorem only_setCells {a : World} (g : Nat) : ∀ (vs : List Value) (o : Nat) (w : World), a.grownBy w (some g) → a.grownBy (w.setCells g o vs) (some g)
  | [], _, _, h => h
  | v :: vs, o, w, h => only_setCells g vs (o + 1) (w.setCell ⟨g, o, none⟩ v) (only_setCell h (.inl rfl) v)

/-- What Safe answers. -/
def SafeTo (w : World) (bals : List Int) (l : List Cas.Due) (e : Ending) (w' : World) : Prop :=
  ∃ A c s, e = .returned (.tuple #[.slice A s.length c, .int .i64 (Cas.errs bals l [])]) ∧ s = (if Cas.errs bals l [] = 0 then Cas.safe bals l else []) ∧
    w'.ownsRow w.heap.size 3 1 (.slice A s.length c) s.length (s.map natV) ∧ Below w.heap.size w w'

set_option maxHeartbeats 4000000 in
set_option maxRecDepth 20000 in
theorem safe_any (B : Nat) (A : Option Addr) (n c : Nat) (xs : List AcctT) (A1 : Option Addr) (n1 c1 : Nat) (ys : List DueT) (w : World) (hB : B ≤ w.heap.size)
    (hr : SlR acctR w B A n c xs) (hr1 : SlR dueR w B A1 n1 c1 ys) :
    Calls Try.prog 32 #[.slice A n c, .slice A1 n1 c1] w (SafeTo w (xs.map bal) (ys.map due)) := by
  have HBG := Lib.hid (begin_any B A n c xs A1 n1 c1 ys none 0 0 [] w hB hr hr1 (SlR_none w B))
  have HR := Lib.hid hr
  have HLEN := Lib.hid (show (xs.map bal).length = n by rw [List.length_map, hr.len])
  have hnc := hr.nc
  have hcm := hr.cm
  obtain ⟨i0, hi0, hz0, hz1, hz2⟩ := info_parts infoInt
  obtain ⟨z, hz⟩ : ∃ z, Cas.errs (xs.map bal) (ys.map due) [] = z := ⟨_, rfl⟩
  have HZ := Lib.hid hz
  clear hr hr1 hz
  go_enter Try.func32, Try.ntmps32
  go_wp2_with fail
  refine HBG.out.mono ?_
  rintro e w1 ⟨⟨p, rfl, hp⟩, hb⟩
  rw [HZ.out] at hp ⊢
  have HP := Lib.hid hp
  have HB1 := Lib.hid hb
  clear hp hb HBG
  by_cases h0 : z = 0
  · subst h0
    obtain ⟨g, rfl, hg, hbk⟩ := HP.out rfl
    have HOK := Lib.hid (Cas.ok_of_errs HZ.out).1
    have hn16 : n ≤ 16 := by rw [← HLEN.out]; exact HOK.out.n16
    have HG := Lib.hid hg
    have HB0 := Lib.hid hbk
    obtain ⟨P, hP⟩ : ∃ P : Nat → Bool, P = fun k : Nat => (Cas.falls (xs.map bal) (ys.map due) [(k : Int)]).length == 1 := ⟨_, rfl⟩
    have HPK := Lib.hid (show ∀ k : Nat, P k = ((Cas.falls (xs.map bal) (ys.map due) [(k : Int)]).length == 1) by subst hP; exact fun k => rfl)
    have HSF := Lib.hid (show who n Cas.none_ P = Cas.safe (xs.map bal) (ys.map due) by rw [hP, ← HLEN.out]; exact safe_who _ _)
    clear hg hbk HP hP
    go_wp2_with fail
    go_loopw [8, 21] (fun v i wr => ∃ (j m e : Nat) (A3 : Option Addr) (d : Nat → Bool), j ≤ n ∧ i = .int .i64 j ∧ m = (who j Cas.none_ P).length ∧ v = .slice A3 m e ∧ wr.ownsRow w.heap.size 3 1 (.slice A3 m e) m ((who j Cas.none_ P).map natV) ∧ Blk wr g 84 (bankC (.slice A n c) (Cas.own (ys.map due)) d) ∧ Below w.heap.size w wr) (fun _ i _ => n - (intOf i).toNat)
    case atStart => exact ⟨0, 0, 0, none, _, Nat.zero_le _, rfl, rfl, rfl, World.ownsRow_nil _ _ _ _, HB0.out, HB1.out⟩
    case round =>
      clear HB0 HB1
      obtain ⟨j, m, e, A3, d, hj, rfl, hm, rfl, hown, hbk, hbel⟩ := hrel
      have HM := Lib.hid hm
      have HO := Lib.hid hown
      have HBK := Lib.hid hbk
      have HBEL := Lib.hid hbel
      have hm16 : m ≤ 16 := by have := who_len j Cas.none_ P; omega
      clear hm hown hbk hbel
      by_cases hlt : j < n
      · have HSUC := Lib.hid (who_succ j Cas.none_ P)
        go_wp2_with (refine wpList_store_mid rfl _ _ _ rfl g 257 falses rfl rfl (bank_there HBK.out) (by kernel_rfl) (by kernel_rfl) ?_
                     have HBF := Lib.hid (bank_fresh HBK.out)
                     have HGF := Lib.hid (only_setCells g falses.toList 257 wr (World.grownBy.refl wr (some g)))
                     generalize wr.setCells g 257 falses.toList = wf at HBF HGF ⊢)
        have LB := Lib.hid (HBEL.out.grown HGF.out HBEL.out.size (fun k hk => by cases hk; exact HG.out))
        have HOF := Lib.hid ((HO.out.kept HGF.out (.inr (own_blk_ne HO.out HBK.out (by decide)))).alloc (.cells #[.int .i64 (j : Int)] 3))
        have LBA := Lib.hid (LB.out.alloc LB.out.size (.cells #[.int .i64 (j : Int)] 3))
        have HPJ := Lib.hid (HPK.out j)
        have HF := Lib.hid (falls_any g B A n c xs (ys.map due) Cas.none_ (some ⟨wf.heap.size, 0, none⟩) 1 1 [(j : Int)] (wf.alloc (.cells #[.int .i64 (j : Int)] 3)) ⟨HBF.out.alloc _, HR.out.below LBA.out hB, HOK.out, by have := HG.out; omega⟩ (by have := LBA.out.size; omega)
          (wf.heap.size + 1) (SlR_one wf _ (by simp [Lit.wf, IntKind.min, IntKind.max, IntKind.signed, IntKind.bits]; omega) _ _) (by simp))
        rw [fallsD_none] at HF
        generalize Cas.falls (xs.map bal) (ys.map due) [(j : Int)] = rs at HF HPJ
        refine HF.out.mono ?_
        rintro e2 w2 ⟨A4, c4, vs, rfl, _, _, hbk2, hgr2⟩
        have HO2 := Lib.hid (HOF.out.kept hgr2 (.inr (own_blk_ne HOF.out (HBF.out.alloc _) (by decide))))
        have HB2 := Lib.hid hbk2
        have LB2 := Lib.hid (LBA.out.grown hgr2 LBA.out.size (fun k hk => by cases hk; exact HG.out))
        clear hbk2 hgr2 HF HOF LBA LB HGF HBF
        generalize Cas.fin Cas.none_ rs = d2 at HB2
        generalize rs.length = q at HPJ ⊢
        cases hp : P j with
        | true =>
          have hq : q = 1 := by
            have := HPJ.out
            rw [hp] at this
            exact eq_of_beq this.symm
          subst hq
          have HD := Lib.hid (show who (j + 1) Cas.none_ P = who j Cas.none_ P ++ [j] by rw [HSUC.out, hp]; rfl)
          clear hp
          go_wp2_with (at_builtin; go_loud (
                       refine wpList_append_any _ rfl _ _ _ rfl w.heap.size 3 i0 _ 1 8 Try.underlying47 hi0 hz0 hz1 hz2 rfl (by omega) (.slice A3 m e) _ _ rfl (HO2.out.alloc _) (w2.heap.size + 1) (some ⟨w2.heap.size, 0, none⟩) 1 1 [natV j] rfl (by exact (Sl.lit (k := 1) (cap := 1) _ _ _ _ _ _ rfl rfl rfl (by omega) (by omega)).rd) (by simp [natV, Value.oneCell']) (by simp only [maxLen]; omega) (by omega) (by have := LB2.out.size; simp; omega) ?_
                       intro v4 w4 hown4 hg4 hat4
                       have HBL4 := Lib.hid ((LB2.out.alloc LB2.out.size _).grown hg4 (by have := LB2.out.size; simp; omega) (fun q hq => (HO2.out.lt q hq).1))
                       have HB4 := Lib.hid ((HB2.out.alloc _).grown hg4 (fun e => own_blk_ne HO2.out HB2.out (by decide) e.symm))
                       obtain ⟨A5, d4, rfl⟩ := own_slice hown4
                       have HO4 := Lib.hid hown4
                       clear hg4 hat4 hown4))
          go_roundw
          case rel => exact ⟨j + 1, m + 1, d4, A5, d2, by omega, by go_num, by rw [HD.out, List.length_append, ← HM.out]; rfl, rfl, by rw [HD.out, List.map_append]; exact HO4.out, HB4.out, HBL4.out⟩
          case measure => simp [intOf]; omega
        | false =>
          have hq : ((q : Int) == 1) = false := by
            have := HPJ.out
            rw [hp] at this
            have h1 : ¬ q = 1 := by
              rintro rfl
              cases this
            simp
            omega
          have HD := Lib.hid (show who (j + 1) Cas.none_ P = who j Cas.none_ P by rw [HSUC.out, hp]; simp)
          clear hp
          go_wp2_with fail
          go_roundw
          case rel => exact ⟨j + 1, m, e, A3, d2, by omega, by go_num, by rw [HD.out]; exact HM.out, rfl, by rw [HD.out]; exact HO2.out, HB2.out, LB2.out⟩
          case measure => simp [intOf]; omega
      · obtain rfl : j = n := by omega
        go_wp2_with fail
        go_ret2
        unfold SafeTo
        rw [HZ.out, if_pos rfl]
        have hm := HM.out
        subst hm
        rw [← HSF.out]
        exact ⟨A3, e, _, rfl, rfl, HO.out, HBEL.out⟩
  · have hzb : (z == 0) = false := by simpa using h0
    have hzn : (z != 0) = true := by simpa using h0
    have H0 := Lib.hid h0
    clear h0 HP
    go_wp2_with fail
    go_ret2
    unfold SafeTo
    rw [HZ.out, if_neg H0.out]
    exact ⟨none, 0, [], rfl, rfl, World.ownsRow_nil _ _ _ _, HB1.out⟩

end Go.Proofs.Ytlkbdmbfbmekaaa

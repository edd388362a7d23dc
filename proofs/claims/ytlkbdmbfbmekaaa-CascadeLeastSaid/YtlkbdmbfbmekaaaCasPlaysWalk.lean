/-
  Layer 31 (cascade): CascadePlays, walked.
-/
import Derived.Test.YtlkbdmbfbmekaaaCasWorks
namespace Go.Proofs.Ytlkbdmbfbmekaaa
open Go.RowKit Go.Gab
set_option linter.unusedVariables false
attribute [local go_sem ↓] Go.wp_at_zero Go.wp_at_succ

theorem helpIs_unique {bals : List Int} {l : List Cas.Due} {first : List Int} {k x z x' z' : Int} (h : HelpIs bals l first k x z) (h' : HelpIs bals l first k x' z') : x = x' ∧ z = z' := by
  unfold HelpIs at h h'
  by_cases h1 : Cas.errs bals l first ≠ 0
  · rw [if_pos h1] at h h'
    omega
  · rw [if_neg h1] at h h'
    by_cases h2 : k < 0 ∨ (bals.length : Int) ≤ k
    · rw [if_pos h2] at h h'
      omega
    · rw [if_neg h2] at h h'
      by_cases h3 : first.contains k = true
      · rw [if_pos h3] at h h'
        omega
      · rw [if_neg h3] at h h'
        obtain ⟨hz, P, hP, hx⟩ := h
        obtain ⟨hz', P', hP', hx'⟩ := h'
        have hok := (Cas.ok_of_errs (by omega : Cas.errs bals l first = 0)).1
        rw [hP.unique hok hP' k.toNat] at hx
        omega

/-! ### Rows of numbers copied -/
def intV (z : Int) : Value := .int .i64 z
theorem intV_one (zs : List Int) : ∀ u ∈ zs.map intV, u.oneCell' = true := by
  intro u hu
  rw [List.mem_map] at hu
  obtain ⟨b, _, rfl⟩ := hu
  rfl
theorem SlI.reads {w : World} {B : Nat} {A : Option Addr} {n c : Nat} {l : List Int} (h : SlI w B A n c l) : Reads w B 1 A n (l.map intV) := by
  refine ⟨by simp [h.len], fun hn => ?_⟩
  obtain ⟨b, off, z, hA, hb, _⟩ := h.row 0 hn
  refine ⟨⟨b, off, none⟩, hA, hb, fun j u hu => ?_⟩
  rw [List.getElem?_map, Option.map_eq_some_iff] at hu
  obtain ⟨z', hz', rfl⟩ := hu
  have hj : j < n := by have := (List.getElem?_eq_some_iff.1 hz').1; have := h.len; omega
  obtain ⟨b', off', z2, hA', _, hx, _, hc⟩ := h.row j hj
  rw [hA] at hA'
  injection hA' with e
  injection e with e1 e2
  subst e1 e2
  rw [hz'] at hx
  injection hx with hx
  subst hx
  have e : (⟨b, off, none⟩ : Addr).add j = ⟨b, off + j, none⟩ := by unfold Addr.add; split <;> simp_all
  rw [e, hc]; rfl
theorem SlI.wf {w : World} {B : Nat} {A : Option Addr} {n c : Nat} {l : List Int} (h : SlI w B A n c l) : ∀ z ∈ l, (Lit.int .i64 z).wf = true := by
  intro z hz
  obtain ⟨i, hi, rfl⟩ := List.getElem_of_mem hz
  obtain ⟨b, off, z', _, _, hx, hw, _⟩ := h.row i (by have := h.len; omega)
  rw [List.getElem?_eq_getElem hi] at hx
  injection hx with hx
  rw [hx]; exact hw
theorem SlI.of_own {w : World} {base : Nat} {t : TypeId} {A : Option Addr} {n c : Nat} {zs : List Int} (h : w.ownsRow base t 1 (.slice A n c) n (zs.map intV)) (hwf : ∀ z ∈ zs, (Lit.int .i64 z).wf = true) : SlI w w.heap.size A n c zs := by
  have s := Sl.of_own h
  have hl : zs.length = n := by have := s.rd.1; simpa using this
  refine ⟨hl, s.nc, s.cm, fun i hi => ?_⟩
  obtain ⟨b, off, hA, hb, hc⟩ := s.rd.place (by omega) (by omega : 0 < n)
  exact ⟨b, off, zs[i], hA, hb, List.getElem?_eq_getElem (by omega), hwf _ (List.getElem_mem _), hc i _ (by rw [List.getElem?_map, List.getElem?_eq_getElem (by omega)]; rfl)⟩

theorem cell_below {w w' : World} (hb : Below w.heap.size w w') {p : Addr} {v : Value} (h : w.cell? p = some v) : w'.cell? p = some v :=
  (hb.cell (World.block_lt_of_cell? w _ h)).trans h
theorem RR.below {w w' : World} {A : Option Addr} {rs : List (List Nat)} (h : RR w A rs) (hb : Below w.heap.size w w') : RR w' A rs :=
  ⟨h.len, fun i s hs => by
    obtain ⟨h1, b, o, Ai, ci, hA, hc, hk⟩ := h.row i s hs
    exact ⟨h1, b, o, Ai, ci, hA, cell_below hb hc, fun t k ht => by
      obtain ⟨bi, oi, h2, h3⟩ := hk t k ht
      exact ⟨bi, oi, h2, cell_below hb h3⟩⟩⟩
/-- A row of banks, read in memory. -/
def RI (w : World) (A : Option Addr) (s : List Nat) : Prop := ∀ (t k : Nat), s[t]? = some k → ∃ bi oi, A = some ⟨bi, oi, none⟩ ∧ w.cell? ⟨bi, oi + t, none⟩ = some (.int .i64 (k : Int))
theorem RI.below {w w' : World} {A : Option Addr} {s : List Nat} (h : RI w A s) (hb : Below w.heap.size w w') : RI w' A s := fun t k ht => by
  obtain ⟨bi, oi, h2, h3⟩ := h t k ht
  exact ⟨bi, oi, h2, cell_below hb h3⟩
theorem RI.of {w : World} {base : Nat} {t : TypeId} {A : Option Addr} {c : Nat} {s : List Nat} (h : w.ownsRow base t 1 (.slice A s.length c) s.length (s.map natV)) : RI w A s := fun j k hk => by
  have hlt : j < s.length := (List.getElem?_eq_some_iff.1 hk).1
  obtain ⟨b, off, hA, hb, hc⟩ := (Sl.of_own h).rd.place (by omega) (by omega : 0 < s.length)
  exact ⟨b, off, hA, hc j _ (by rw [List.getElem?_map, hk]; rfl)⟩

set_option maxHeartbeats 4000000 in
set_option maxRecDepth 20000 in
theorem casPlays_any (B : Nat) (A : Option Addr) (n c : Nat) (xs : List AcctT) (A1 : Option Addr) (n1 c1 : Nat) (ys : List DueT) (A2 : Option Addr) (n2 c2 : Nat) (zs : List Int) (k : Int) (w : World) (hB : B ≤ w.heap.size) (hk : I64 k)
    (hr : SlR acctR w B A n c xs) (hr1 : SlR dueR w B A1 n1 c1 ys) (hr2 : SlI w B A2 n2 c2 zs) :
    Calls Try.prog 7 #[.slice A n c, .slice A1 n1 c1, .slice A2 n2 c2, .int .i64 k] w fun e w' => e = .returned (.bool true) ∧ Below w.heap.size w w' := by
  have HR := Lib.hid hr
  have HR1 := Lib.hid hr1
  have HR2 := Lib.hid hr2
  have hnc := hr.nc
  have hcm := hr.cm
  have hnc1 := hr1.nc
  have hcm1 := hr1.cm
  have hnc2 := hr2.nc
  have hcm2 := hr2.cm
  have HW := Lib.hid casWorks_any
  clear hr hr1 hr2
  by_cases h1 : (20 : Int) < n
  · go_enter Try.func7, Try.ntmps7
    go_wp2_with fail
    refine (HW.out _).mono ?_
    rintro e w1 ⟨rfl, hb⟩
    have HB := Lib.hid hb
    clear hb
    go_wp2_with fail
    go_ret
    exact ⟨rfl, HB.out⟩
  by_cases h2 : (80 : Int) < n1
  · go_enter Try.func7, Try.ntmps7
    go_wp2_with fail
    refine (HW.out _).mono ?_
    rintro e w1 ⟨rfl, hb⟩
    have HB := Lib.hid hb
    clear hb
    go_wp2_with fail
    go_ret
    exact ⟨rfl, HB.out⟩
  by_cases h3 : (20 : Int) < n2
  · go_enter Try.func7, Try.ntmps7
    go_wp2_with fail
    refine (HW.out _).mono ?_
    rintro e w1 ⟨rfl, hb⟩
    have HB := Lib.hid hb
    clear hb
    go_wp2_with fail
    go_ret
    exact ⟨rfl, HB.out⟩
  go_enter Try.func7, Try.ntmps7
  obtain ⟨i0, hi0, hz0, hz1, hz2⟩ := info_parts infoInt
  have hn2 : n2 ≤ 20 := by omega
  have HRD := Lib.hid (show Reads (w.alloc (.cells #[] 3)) B 1 A2 n2 (zs.map intV) from HR2.out.reads.alloc hB _)
  have HLIT := Lib.hid (World.ownsRow_lit (base := w.heap.size) (e := 3) (size := 1) w #[] 0 (Nat.le_refl _) (by omega) rfl)
  have HO1 := Lib.hid (intV_one zs)
  go_wp2_with (at_builtin
               refine wpList_append_any _ rfl _ _ _ rfl w.heap.size 3 i0 _ 1 8 Try.underlying47 hi0 hz0 hz1 hz2 rfl (by omega) (.slice (some ⟨w.heap.size, 0, none⟩) 0 0) 0 [] rfl HLIT.out B A2 n2 c2 (zs.map intV) rfl HRD.out HO1.out (by simp only [maxLen]; omega) (by omega) (by simp) ?_
               intro v' w1 hown hgr hblk
               have hb1 : Below w.heap.size w w1 := ((Below.refl _ _).alloc (Nat.le_refl _) _).grown hgr (by simp) (fun k hk => by cases hk; exact Nat.le_refl _)
               obtain ⟨A3, c3, rfl⟩ := own_slice hown
               rw [List.nil_append] at hown
               obtain ⟨n3, hn3⟩ : ∃ n3, 0 + n2 = n3 := ⟨_, rfl⟩
               rw [hn3] at hown ⊢
               obtain rfl : n2 = n3 := by omega
               have HB1 := Lib.hid hb1
               have HO := Lib.hid (SlI.of_own hown HR2.out.wf)
               have HSZ := Lib.hid hb1.size
               clear hgr hblk hb1 hown hn3)
  refine (fall_any w1.heap.size A n c xs A1 n1 c1 ys A3 n2 c3 zs w1 (Nat.le_refl _) ((HR.out.below HB1.out hB).more (by have := HSZ.out; omega)) ((HR1.out.below HB1.out hB).more (by have := HSZ.out; omega)) HO.out).mono ?_
  rintro e w2 ⟨A4, c4, rs, vs, rfl, hrs, hown, hrows, hb⟩
  have HRS := Lib.hid hrs
  have HB2 := Lib.hid (HB1.out.trans (hb.mono HSZ.out))
  have HRR := Lib.hid (RR.of hown hrows)
  clear hrs hown hrows hb HB1 HO HSZ HLIT HRD HO1
  obtain ⟨z, hz⟩ : ∃ z, Cas.errs (xs.map bal) (ys.map due) zs = z := ⟨_, rfl⟩
  have HZ := Lib.hid hz
  rw [hz]
  clear hz
  go_wp2_with fail
  refine (refFall_any w.heap.size A n c xs A1 n1 c1 ys A2 n2 c2 zs w2 HB2.out.size ((HR.out.below HB2.out hB).more hB) ((HR1.out.below HB2.out hB).more hB) ((HR2.out.below HB2.out hB).more hB)).mono ?_
  rintro e w3 ⟨A5, c5, rs', vs', rfl, hrs', hown, hrows, hb⟩
  rw [← HRS.out] at hrs'
  subst hrs'
  have HB3 := Lib.hid (HB2.out.trans (hb.mono HB2.out.size))
  have HRR3 := Lib.hid (HRR.out.below hb)
  have HRS3 := Lib.hid (RR.of hown hrows)
  rw [HZ.out]
  clear hown hrows hb HB2 HRR
  go_wp2_with fail
  have HBE := Lib.hid hB
  refine (safe_any w.heap.size A n c xs A1 n1 c1 ys w3 HB3.out.size ((HR.out.below HB3.out hB).more hB) ((HR1.out.below HB3.out hB).more hB)).mono ?_
  rintro e w4 ⟨A6, c6, s6, rfl, hs6, hown, hb⟩
  have HS6 := Lib.hid hs6
  have HB4 := Lib.hid (HB3.out.trans (hb.mono HB3.out.size))
  have HRR4 := Lib.hid (HRR3.out.below hb)
  have HRS4 := Lib.hid (HRS3.out.below hb)
  have HI4 := Lib.hid (RI.of hown)
  obtain ⟨z0, hz0⟩ : ∃ z, Cas.errs (xs.map bal) (ys.map due) [] = z := ⟨_, rfl⟩
  have HZ0 := Lib.hid hz0
  have HL6 := Lib.hid (show s6.length ≤ 9223372036854775807 by have h := (Sl.of_own hown); have h1 := h.nc; have h2 := h.cm; omega)
  rw [hz0]
  clear hs6 hown hb hz0 HB3 HRR3 HRS3
  go_wp2_with fail
  refine (refSafe_any w.heap.size A n c xs A1 n1 c1 ys w4 HB4.out.size ((HR.out.below HB4.out hB).more hB) ((HR1.out.below HB4.out hB).more hB)).mono ?_
  rintro e w5 ⟨A7, c7, s7, rfl, hs7, hown, hb⟩
  rw [← HS6.out] at hs7
  subst hs7
  have HB5 := Lib.hid (HB4.out.trans (hb.mono HB4.out.size))
  have HRR5 := Lib.hid (HRR4.out.below hb)
  have HRS5 := Lib.hid (HRS4.out.below hb)
  have HI5 := Lib.hid (HI4.out.below hb)
  have HJ5 := Lib.hid (RI.of hown)
  rw [HZ0.out]
  clear hown hb HB4 HRR4 HRS4 HI4
  go_wp2_with fail
  refine (help_any w.heap.size A n c xs A1 n1 c1 ys A2 n2 c2 zs k w5 HB5.out.size hk ((HR.out.below HB5.out hB).more hB) ((HR1.out.below HB5.out hB).more hB) ((HR2.out.below HB5.out hB).more hB)).mono ?_
  rintro e w6 ⟨x, zx, rfl, hh, hb⟩
  have HH := Lib.hid hh
  have HB6 := Lib.hid (HB5.out.trans (hb.mono HB5.out.size))
  have HRR6 := Lib.hid (HRR5.out.below hb)
  have HRS6 := Lib.hid (HRS5.out.below hb)
  have HI6 := Lib.hid (HI5.out.below hb)
  have HJ6 := Lib.hid (HJ5.out.below hb)
  clear hh hb HB5 HRR5 HRS5 HI5 HJ5
  go_wp2_with fail
  refine (refHelp_any w.heap.size A n c xs A1 n1 c1 ys A2 n2 c2 zs k w6 HB6.out.size hk ((HR.out.below HB6.out hB).more hB) ((HR1.out.below HB6.out hB).more hB) ((HR2.out.below HB6.out hB).more hB)).mono ?_
  rintro e w7 ⟨x', zx', rfl, hh, hb⟩
  obtain ⟨hx, hzx⟩ := helpIs_unique HH.out hh
  subst hx hzx
  have HB7 := Lib.hid (HB6.out.trans (hb.mono HB6.out.size))
  have HRR7 := Lib.hid (HRR6.out.below hb)
  have HRS7 := Lib.hid (HRS6.out.below hb)
  have HI7 := Lib.hid (HI6.out.below hb)
  have HJ7 := Lib.hid (HJ6.out.below hb)
  clear hh hb HB6 HRR6 HRS6 HI6 HJ6 HH
  go_wp2_with fail
  refine (sameRows_any A4 c4 A5 c5 _ w7 HRR7.out HRS7.out).mono ?_
  rintro e w8 ⟨rfl, hd⟩
  have HB8 := Lib.hid (HB7.out.trans (hd.2.mono HB7.out.size))
  have HI8 := Lib.hid (HI7.out.below hd.2)
  have HJ8 := Lib.hid (HJ7.out.below hd.2)
  clear hd HB7 HRR7 HRS7 HI7 HJ7
  go_wp2_with fail
  refine (sameInts_any A6 _ c6 _ A7 c7 w8 rfl HL6.out HI8.out HJ8.out).mono ?_
  rintro e w9 ⟨rfl, hd⟩
  have HB9 := Lib.hid (HB8.out.trans (hd.2.mono HB8.out.size))
  clear hd HB8 HI8 HJ8
  go_wp2_with fail
  refine (HW.out _).mono ?_
  rintro e wa ⟨rfl, hb⟩
  have HBA := Lib.hid (HB9.out.trans (hb.mono HB9.out.size))
  clear hb HB9
  go_wp2_with fail
  go_ret
  exact ⟨rfl, HBA.out⟩

theorem cascadePlays_walk {A A1 A2 : Option Addr} {n c n1 c1 n2 c2 : Nat} {xs : List AcctT} {ys : List DueT} {zs : List Int} {k : Int} (W : World)
    (hr : SlR acctR W W.heap.size A n c xs) (hr1 : SlR dueR W W.heap.size A1 n1 c1 ys) (hr2 : SlR (Rep.int .i64) W W.heap.size A2 n2 c2 zs) (hk : (Lit.int .i64 k).wf = true) :
    Calls Try.prog 7 #[.slice A n c, .slice A1 n1 c1, .slice A2 n2 c2, .int .i64 k] W fun e w' => e = .returned (.bool true) ∧ Below W.heap.size W w' :=
  casPlays_any W.heap.size A n c xs A1 n1 c1 ys A2 n2 c2 zs k W (Nat.le_refl _) (i64_of_wf hk) hr hr1 (SlI.of hr2)

end Go.Proofs.Ytlkbdmbfbmekaaa

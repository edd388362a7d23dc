/-
  RowsBack, walked: the rows of a state that fits are that state again; their keys rise; with one of them left out, or its value a byte more, they are none, or another state's.
-/
import Derived.Test.YtniekddoaokmkaaRowWorks
import Derived.Test.YtniekddoaokmkaaRbReads
import Derived.Test.YtniekddoaokmkaaRbFew
import Derived.Test.YtniekddoaokmkaaRbFits
import Derived.Test.YtniekddoaokmkaaRbSame2
import Derived.Test.YtniekddoaokmkaaRbPairs
import Derived.Test.YtniekddoaokmkaaWrRefs
namespace Go.Proofs.Ytniekddoaokmkaa
open Go.RowKit Go.Gab
set_option linter.unusedVariables false
attribute [local go_sem ↓] Go.wp_at_zero Go.wp_at_succ

theorem rng_of {w : World} {B : Nat} {s : Rws.St} {Aa Ad Ar Aq : Option Addr} {ca cd cr cq : Nat} (h : StAt w B s Aa Ad Ar Aq ca cd cr cq) : Rws.Rng s where
  day := h.day
  next := h.next
  no := h.no
  accts := fun x hx => by
    obtain ⟨i, hi⟩ := List.getElem?_of_mem hx
    obtain ⟨_, _, y, _, _, hy, _, _, h1, h2⟩ := acct_at h.accts (List.getElem?_eq_some_iff.1 hi).1
    rw [hi] at hy
    injection hy with hy
    subst hy
    exact ⟨h1, h2⟩
  dues := fun x hx => by
    obtain ⟨i, hi⟩ := List.getElem?_of_mem hx
    obtain ⟨_, _, y, _, _, hy, _, _, _, _, _, _, _, h1, _, _, h4, _, h6⟩ := due_at h.dues (List.getElem?_eq_some_iff.1 hi).1
    rw [hi] at hy
    injection hy with hy
    subst hy
    exact ⟨h1, h4, h6⟩
  rounds := fun x hx => by
    obtain ⟨i, hi⟩ := List.getElem?_of_mem hx
    obtain ⟨_, _, y, _, _, _, _, _, _, _, _, _, _, hy, hra, _⟩ := round_at h.rounds (List.getElem?_eq_some_iff.1 hi).1
    rw [hi] at hy
    injection hy with hy
    subst hy
    exact ⟨hra.no, hra.day⟩
  ids := fun x hx z hz => by
    obtain ⟨i, hi⟩ := List.getElem?_of_mem hx
    obtain ⟨_, _, y, _, _, _, _, _, _, _, _, _, _, hy, hra, _⟩ := round_at h.rounds (List.getElem?_eq_some_iff.1 hi).1
    rw [hi] at hy
    injection hy with hy
    subst hy
    obtain ⟨j, hj⟩ := List.getElem?_of_mem hz
    obtain ⟨_, _, z', _, _, hz', _, hw⟩ := int_at hra.ids (List.getElem?_eq_some_iff.1 hj).1
    rw [hj] at hz'
    injection hz' with hz'
    subst hz'
    exact u64_of_wf hw
  edges := fun x hx z hz => by
    obtain ⟨i, hi⟩ := List.getElem?_of_mem hx
    obtain ⟨_, _, y, _, _, _, _, _, _, _, _, _, _, hy, hra, _⟩ := round_at h.rounds (List.getElem?_eq_some_iff.1 hi).1
    rw [hi] at hy
    injection hy with hy
    subst hy
    obtain ⟨j, hj⟩ := List.getElem?_of_mem hz
    obtain ⟨_, _, z', _, _, hz', _, _, _, _, _, _, h1, h2⟩ := edge_at hra.edges (List.getElem?_eq_some_iff.1 hj).1
    rw [hj] at hz'
    injection hz' with hz'
    subst hz'
    exact ⟨h1, h2⟩
  flow := fun x hx z hz => by
    obtain ⟨i, hi⟩ := List.getElem?_of_mem hx
    obtain ⟨_, _, y, _, _, _, _, _, _, _, _, _, _, hy, hra, _⟩ := round_at h.rounds (List.getElem?_eq_some_iff.1 hi).1
    rw [hi] at hy
    injection hy with hy
    subst hy
    obtain ⟨j, hj⟩ := List.getElem?_of_mem hz
    obtain ⟨_, _, z', _, _, hz', _, hw⟩ := int_at hra.flow (List.getElem?_eq_some_iff.1 hj).1
    rw [hj] at hz'
    injection hz' with hz'
    subst hz'
    exact i64_of_wf hw
  pot := fun x hx z hz => by
    obtain ⟨i, hi⟩ := List.getElem?_of_mem hx
    obtain ⟨_, _, y, _, _, _, _, _, _, _, _, _, _, hy, hra, _⟩ := round_at h.rounds (List.getElem?_eq_some_iff.1 hi).1
    rw [hi] at hy
    injection hy with hy
    subst hy
    obtain ⟨j, hj⟩ := List.getElem?_of_mem hz
    obtain ⟨_, _, z', _, _, hz', _, hw⟩ := int_at hra.pot (List.getElem?_eq_some_iff.1 hj).1
    rw [hj] at hz'
    injection hz' with hz'
    subst hz'
    exact i64_of_wf hw
  asked := fun x hx => by
    obtain ⟨i, hi⟩ := List.getElem?_of_mem hx
    obtain ⟨_, _, y, _, _, _, _, _, _, hy, _, _, _, _, h1, h2, _⟩ := asked_at h.asked (List.getElem?_eq_some_iff.1 hi).1
    rw [hi] at hy
    injection hy with hy
    subst hy
    exact ⟨h1, h2⟩

/-- What the rows of a state are that may be gone through and fits. -/
structure Good (s : Rws.St) (l : List Rws.Pair) : Prop where
  mine : Rws.Mine l
  short : ∀ p ∈ l, p.2.length ≤ 900
  state : Rws.stateOf l = some s
  rise : Rws.riseB l = true
  some_ : 0 < l.length
theorem good_of {w : World} {B : Nat} {s : Rws.St} {Aa Ad Ar Aq : Option Addr} {ca cd cr cq : Nat} (h : StAt w B s Aa Ad Ar Aq ca cd cr cq) (hs : StSmall s) (hw : Rws.whole s = true) : ∃ l, Rws.of s = l ∧ Good s l := by
  have e : Rws.of s = Rws.rowsOf s := by unfold Rws.of; rw [if_pos hw]
  have hr := rng_of h
  obtain ⟨h1, h2⟩ := Rws.mine_rows hs.rows hs.asks
  have hris := Rws.of_ris s hr.nums
  rw [e] at hris
  refine ⟨_, e, h1, h2, ?_, (Rws.riseB_iff _).2 hris, ?_⟩
  · rw [← e]; exact Rws.state_rows hr hw
  · rw [Rws.rows_len]; omega

set_option maxHeartbeats 16000000 in
set_option maxRecDepth 100000 in
theorem rowsBack_walk (B : Nat) (s : Rws.St) (mo : Nat) (less : Bool) {Aa Ad Ar Aq : Option Addr} {ca cd cr cq : Nat} (W : World) (ha : StAt W B s Aa Ad Ar Aq ca cd cr cq) (hB : B ≤ W.heap.size) (hmo : mo < 65536) :
    Calls Try.prog 3 #[.agg (stC s Aa Ad Ar Aq ca cd cr cq).toArray, .int .u16 (mo : Int), .bool less] W fun e W' => e = .returned (.bool true) ∧ Below W.heap.size W W' := by
  have l1 : Below W.heap.size W (W.alloc (.cells (stC s Aa Ad Ar Aq ca cd cr cq).toArray 28)) := (Below.refl _ _).alloc (Nat.le_refl _) _
  have b1 := Blk.new W 28 (stC s Aa Ad Ar Aq ca cd cr cq).toArray
  have HSA := Lib.hid (ha.below l1 hB)
  have HB0 := Lib.hid hB
  have m1 := ha.accts.nc
  have m2 := ha.accts.cm
  have m3 := ha.dues.nc
  have m4 := ha.dues.cm
  have m5 := ha.rounds.nc
  have m6 := ha.rounds.cm
  have m7 := ha.asked.nc
  have m8 := ha.asked.cm
  have HSM := Lib.hid (fun w => few_any B s (Aa := Aa) (Ad := Ad) (Ar := Ar) (Aq := Aq) (ca := ca) (cd := cd) (cr := cr) (cq := cq) w)
  have HFT := Lib.hid (fun w => refFits_any B s (Aa := Aa) (Ad := Ad) (Ar := Ar) (Aq := Aq) (ca := ca) (cd := cd) (cr := cr) (cq := cq) w)
  have HOA := Lib.hid (fun w => of_any B s (Aa := Aa) (Ad := Ad) (Ar := Ar) (Aq := Aq) (ca := ca) (cd := cd) (cr := cr) (cq := cq) w)
  have HGD := Lib.hid (fun hs hw => good_of ha hs hw)
  unfold stC at l1 b1 HSA HSM HFT HOA ⊢
  clear ha hB
  go_enter Try.func3, Try.ntmps3
  go_wp2_with fail
  generalize W.alloc (.cells #[.int .i64 s.day, .slice Aa s.accts.length ca, .slice Ad s.dues.length cd, .int .u64 s.next, .slice Ar s.rounds.length cr, .int .u64 s.no, .slice Aq s.asked.length cq] 28) = W1 at l1 b1 HSA ⊢
  obtain ⟨ga, hga⟩ : ∃ h, W.heap.size = h := ⟨_, rfl⟩
  rw [hga] at b1 ⊢
  have HL1 := Lib.hid l1
  have HBA := Lib.hid b1
  clear l1 b1 hga
  refine (HSM.out W1 HSA.out (Nat.le_trans HB0.out HL1.out.size)).mono ?_
  rintro e w1 ⟨s1, rfl, hs1, hb1⟩
  have HB1 := Lib.hid (HL1.out.trans (hb1.mono HL1.out.size))
  have HBA1 := Lib.hid (HBA.out.below hb1 HBA.out.lt)
  have HS1 := Lib.hid hs1
  have HSA1 := Lib.hid (HSA.out.below hb1 (Nat.le_trans HB0.out HL1.out.size))
  clear hb1 hs1
  cases s1 with
  | false =>
    go_wp2_with fail
    refine (works_any _).mono ?_
    rintro e w9 ⟨rfl, hb9⟩
    have HBg := Lib.hid (HB1.out.trans (hb9.mono HB1.out.size))
    clear hb9
    go_wp2_with fail
    go_ret
    exact ⟨rfl, HBg.out⟩
  | true =>
    have b0 := HBA1.out.cell 0
    have b1 := HBA1.out.cell 1
    have b2 := HBA1.out.cell 2
    have b3 := HBA1.out.cell 3
    have b4 := HBA1.out.cell 4
    have b5 := HBA1.out.cell 5
    have b6 := HBA1.out.cell 6
    simp only [List.getElem?_toArray, List.getElem?_cons_zero, List.getElem?_cons_succ] at b0 b1 b2 b3 b4 b5 b6
    go_wp2_with fail
    refine (HFT.out w1 HSA1.out (Nat.le_trans HB0.out HB1.out.size)).mono ?_
    rintro e w2 ⟨s2, rfl, hs2, hb2⟩
    have HB2 := Lib.hid (HB1.out.trans (hb2.mono HB1.out.size))
    have HBA2 := Lib.hid (HBA1.out.below hb2 HBA1.out.lt)
    have HS2 := Lib.hid hs2
    have HSA2 := Lib.hid (HSA1.out.below hb2 (Nat.le_trans HB0.out HB1.out.size))
    clear hb2 hs2 b0 b1 b2 b3 b4 b5 b6
    cases s2 with
    | false =>
      go_wp2_with fail
      refine (works_any _).mono ?_
      rintro e w9 ⟨rfl, hb9⟩
      have HBg := Lib.hid (HB2.out.trans (hb9.mono HB2.out.size))
      clear hb9
      go_wp2_with fail
      go_ret
      exact ⟨rfl, HBg.out⟩
    | true =>
      have a0 := HBA2.out.cell 0
      have a1 := HBA2.out.cell 1
      have a2 := HBA2.out.cell 2
      have a3 := HBA2.out.cell 3
      have a4 := HBA2.out.cell 4
      have a5 := HBA2.out.cell 5
      have a6 := HBA2.out.cell 6
      simp only [List.getElem?_toArray, List.getElem?_cons_zero, List.getElem?_cons_succ] at a0 a1 a2 a3 a4 a5 a6
      go_wp2_with fail
      refine (HOA.out w2 HSA2.out (Nat.le_trans HB0.out HB2.out.size) (Nat.le_trans (HS1.out (by trivial)).rows (by omega)) (fun a ha => by have := (HS1.out (by trivial)).asks a ha; omega)).mono ?_
      rintro e w3 ⟨AX, cX, rfl, hown, hb3⟩
      have HB3 := Lib.hid (HB2.out.trans (hb3.mono HB2.out.size))
      have HBA3 := Lib.hid (HBA2.out.below hb3 HBA2.out.lt)
      have HSA3 := Lib.hid (HSA2.out.below hb3 (Nat.le_trans HB0.out HB2.out.size))
      obtain ⟨l, hl, hgd⟩ := HGD.out (HS1.out (by trivial)) (HS2.out (by trivial))
      have HG := Lib.hid hgd
      rw [hl] at hown ⊢
      obtain ⟨n, hn⟩ : ∃ n, l.length = n := ⟨_, rfl⟩
      have HN := Lib.hid hn
      rw [hn] at hown ⊢
      have HOW3 := Lib.hid hown
      have HX3 := Lib.hid (show SlR pairR w3 w3.heap.size AX n cX l by have h := hown; rw [← hn] at h ⊢; exact h.slr)
      have hn0 : 0 < n := by rw [← hn]; exact HG.out.some_
      have hn1 : n ≤ 400000 := by rw [← hn]; exact HG.out.mine.len
      have xc := HX3.out.nc
      have xm := HX3.out.cm
      clear hb3 hown hl hn hgd a0 a1 a2 a3 a4 a5 a6 HGD HOA HSM HFT
      go_wp2_with fail
      refine (state_is w3.heap.size 1000 l AX n cX w3 HX3.out (Nat.le_refl _) (by omega) HG.out.mine.each (by omega)).mono ?_
      rintro e w4 ⟨hy, _, hb4⟩
      obtain ⟨Ba, Bd, Br, Bq, da, dd, dr, dq, rfl, hat⟩ := hy _ HG.out.state
      have HB4 := Lib.hid (HB3.out.trans (hb4.mono HB3.out.size))
      have HR4 := Lib.hid hb4
      have HBA4 := Lib.hid (HBA3.out.below hb4 HBA3.out.lt)
      have HSA4 := Lib.hid (HSA3.out.below hb4 (Nat.le_trans HB0.out HB3.out.size))
      have HX4 := Lib.hid ((HX3.out.below hb4 (Nat.le_refl _)).more hb4.size)
      have HT4 := Lib.hid hat
      have k1 := hat.accts.nc
      have k2 := hat.accts.cm
      have k3 := hat.dues.nc
      have k4 := hat.dues.cm
      have k5 := hat.rounds.nc
      have k6 := hat.rounds.cm
      have k7 := hat.asked.nc
      have k8 := hat.asked.cm
      unfold stC
      clear hy hb4 hat
      go_upto_region 5 with (fail)
      have hbt := Blk.new w4 28 #[.int .i64 s.day, .slice Ba s.accts.length da, .slice Bd s.dues.length dd, .int .u64 s.next, .slice Br s.rounds.length dr, .int .u64 s.no, .slice Bq s.asked.length dq]
      have hal := (Below.refl w4.heap.size w4).alloc (Nat.le_refl _) (.cells #[.int .i64 s.day, .slice Ba s.accts.length da, .slice Bd s.dues.length dd, .int .u64 s.next, .slice Br s.rounds.length dr, .int .u64 s.no, .slice Bq s.asked.length dq] 28)
      generalize w4.alloc (.cells #[.int .i64 s.day, .slice Ba s.accts.length da, .slice Bd s.dues.length dd, .int .u64 s.next, .slice Br s.rounds.length dr, .int .u64 s.no, .slice Bq s.asked.length dq] 28) = w5 at hbt hal ⊢
      obtain ⟨gt, hgt⟩ : ∃ h, w4.heap.size = h := ⟨_, rfl⟩
      have HB5 := Lib.hid (HB4.out.trans (hal.mono HB4.out.size))
      have HR5 := Lib.hid (HR4.out.trans (hal.mono HR4.out.size))
      have HBA5 := Lib.hid (HBA4.out.below hal HBA4.out.lt)
      have HSA5 := Lib.hid ((HSA4.out.below hal (Nat.le_trans HB0.out HB4.out.size)).more (Nat.le_trans HB0.out HB5.out.size))
      have HT5 := Lib.hid ((HT4.out.below hal (Nat.le_refl _)).more hal.size)
      rw [hgt] at hbt ⊢
      have HBT5 := Lib.hid hbt
      have a0 := HBA5.out.cell 0
      have a1 := HBA5.out.cell 1
      have a2 := HBA5.out.cell 2
      have a3 := HBA5.out.cell 3
      have a4 := HBA5.out.cell 4
      have a5 := HBA5.out.cell 5
      have a6 := HBA5.out.cell 6
      have t0 := HBT5.out.cell 0
      have t1 := HBT5.out.cell 1
      have t2 := HBT5.out.cell 2
      have t3 := HBT5.out.cell 3
      have t4 := HBT5.out.cell 4
      have t5 := HBT5.out.cell 5
      have t6 := HBT5.out.cell 6
      simp only [List.getElem?_toArray, List.getElem?_cons_zero, List.getElem?_cons_succ] at a0 a1 a2 a3 a4 a5 a6 t0 t1 t2 t3 t4 t5 t6
      clear hbt hal hgt
      go_wp2_with fail
      refine (sameState_any w5.heap.size s w5 HSA5.out HT5.out (Nat.le_refl _)).mono ?_
      rintro e w6 ⟨rfl, hb6⟩
      have HB6 := Lib.hid (HB5.out.trans (hb6.mono HB5.out.size))
      have HR6 := Lib.hid (HR5.out.trans (hb6.mono HR5.out.size))
      have HBA6 := Lib.hid (HBA5.out.below hb6 HBA5.out.lt)
      have HBT6 := Lib.hid (HBT5.out.below hb6 HBT5.out.lt)
      have HSA6 := Lib.hid ((HSA5.out.below hb6 (Nat.le_refl _)).asked)
      have HT6 := Lib.hid ((HT5.out.below hb6 (Nat.le_refl _)).asked)
      clear hb6 a0 a1 a2 a3 a4 a5 a6 t0 t1 t2 t3 t4 t5 t6
      have a6 := HBA6.out.cell 6
      have t6 := HBT6.out.cell 6
      simp only [List.getElem?_toArray, List.getElem?_cons_zero, List.getElem?_cons_succ] at a6 t6
      go_wp2_with fail
      refine (sameAsked_any w5.heap.size s.asked Aq Bq s.asked.length cq dq w6 HSA6.out HT6.out).mono ?_
      rintro e w7 ⟨rfl, hd⟩
      have HB7 := Lib.hid (hd.below HB6.out)
      have HR7 := Lib.hid (hd.below HR6.out)
      clear hd a6 t6
      go_wp2_with fail
      refine (refRise_any w3.heap.size l AX n cX w7 (HX3.out.below HR7.out (Nat.le_refl _)) (by omega)).mono ?_
      rintro e w8 ⟨rfl, q, hq⟩
      rw [HG.out.rise]
      have HB8 := Lib.hid (show Below W.heap.size W w8 by rw [hq]; exact below_drewN HB7.out q)
      have HR8 := Lib.hid (show Below w3.heap.size w3 w8 by rw [hq]; exact below_drewN HR7.out q)
      clear hq HBA HBA1 HBA2 HBA3 HBA4 HBA5 HBA6 HBT5 HBT6 HSA HSA1 HSA2 HSA3 HSA4 HSA5 HSA6 HT4 HT5 HT6 HL1 HB1 HB2 HB3 HB4 HB5 HB6 HB7 HR4 HR5 HR6 HR7 HX4 HS1 HS2
      clear m1 m2 m3 m4 m5 m6 m7 m8 k1 k2 k3 k4 k5 k6 k7 k8
      obtain ⟨k, hk⟩ : ∃ k : Nat, mo % n = k := ⟨_, rfl⟩
      have hkn : k < n := by rw [← hk]; exact Nat.mod_lt _ hn0
      have hki : (mo : Int) % (n : Int) = (k : Int) := by rw [← hk]; exact (Int.natCast_emod mo n).symm
      have hwm : IntKind.i64.wrap (mo : Int) = (mo : Int) := by rw [IntKind.wrap_i64]; omega
      have hmt : ((mo : Int)).tmod (n : Int) = (k : Int) := by rw [Int.tmod_eq_emod_of_nonneg (by omega)]; exact hki
      have z0 : ((n : Int) == 0) = false := by simp; omega
      have z1 : ¬ n = 0 := by omega
      clear hk hki
      obtain ⟨cs, hcs, hpc⟩ := PCells.of_own HOW3.out
      rw [HN.out] at hcs
      have HPC := Lib.hid hpc
      have HSL := Lib.hid (Sl.of_own hcs)
      obtain ⟨p, hpk⟩ : ∃ p, l[k]? = some p := ⟨l[k]'(by rw [HN.out]; exact hkn), List.getElem?_eq_getElem _⟩
      obtain ⟨bx, ox, p', A1, A2, c1, c2, hAX, hbx, hp', q0, q1, y1, y2⟩ := pair_at HX3.out hkn
      rw [hpk] at hp'
      injection hp' with hp'
      subst hp'
      subst hAX
      have HPK := Lib.hid hpk
      have HBX := Lib.hid hbx
      have HY1 := Lib.hid y1
      have HY2 := Lib.hid y2
      have SC := Lib.hid (fun w' (hh : Below w3.heap.size w3 w') => (show w'.cell? ⟨bx, ox + k * 2, none⟩ = some (.slice A1 p.1.length c1) ∧ w'.cell? ⟨bx, ox + k * 2 + 1, none⟩ = some (.slice A2 p.2.length c2) from
        ⟨(hh.cell (p := ⟨bx, ox + k * 2, none⟩) HBX.out).trans q0, (hh.cell (p := ⟨bx, ox + k * 2 + 1, none⟩) HBX.out).trans q1⟩))
      clear hcs hpc HOW3 hpk hbx y1 y2 q0 q1
      have HRD := Lib.hid (HSL.out.rd.below HR8.out)
      have HON := Lib.hid HPC.out.one
      obtain ⟨i0, hi0, hz0, hz1, hz2⟩ := info_parts infoPair
      go_upto_if 64 with (refine wpList_append_any _ rfl _ _ _ rfl w8.heap.size 42 i0 (.agg #[.slice none 0 0, .slice none 0 0]) 2 48 Try.underlying32 hi0 hz0 hz1 hz2 rfl (by omega) (.slice none 0 0) 0 [] rfl (World.ownsRow_nil _ _ _ _) w3.heap.size (some ⟨bx, ox, none⟩) n cX cs rfl HRD.out HON.out (by simp only [maxLen]; omega) (by omega) (Nat.le_refl _) ?_; intro v9 w9 hown9 hgr9 hblk9; rw [Nat.zero_add, List.nil_append] at hown9; obtain ⟨A9, d9, rfl⟩ := own_slice hown9; obtain ⟨g9, hA9⟩ : ∃ g9, A9 = some ⟨g9, 0, none⟩ := (by obtain ⟨g, cap, hv, _, hlt⟩ := hown9.form hn0; exact ⟨g, by injection hv⟩); subst hA9; have HG9 := Lib.hid (hown9.lt g9 rfl); have HOW9 := Lib.hid hown9; have HQ9 := Lib.hid ((Below.refl w8.heap.size w8).grown hgr9 (Nat.le_refl _) (fun q hq => by cases hq)); clear hown9 hgr9 hblk9)
      have HB9 := Lib.hid (HB8.out.trans (HQ9.out.mono HB8.out.size))
      have HR9 := Lib.hid (HR8.out.trans (HQ9.out.mono HR8.out.size))
      clear HRD
      go_cut [11] (fun v wx => ∃ A c m ml, v = .slice A m c ∧ SlR pairR wx wx.heap.size A m c ml ∧ Rws.Mine ml ∧ l ≠ ml ∧ Below w3.heap.size w9 wx ∧ Below W.heap.size W wx)
      case first =>
        cases less with
        | true =>
          as_aux_lemma =>
            have hr1 := fun w => sliceRunP (A := some ⟨bx, ox, none⟩) (n := n) (c := cX) (k := k) (by omega) w rfl
            obtain ⟨AB, hAB⟩ : ∃ AB : Option Addr, AB = (if cX = k + 1 then some ⟨bx, ox, none⟩ else (some (⟨bx, ox, none⟩ : Addr)).map (·.add ((k + 1) * 2))) := ⟨_, rfl⟩
            have hr2 := fun w => sliceRunPL (A := some ⟨bx, ox, none⟩) (n := n) (c := cX) (k := k + 1) (by omega) w hAB
            rw [show ((k + 1 : Nat) : Int) = (k : Int) + 1 by omega] at hr2
            have hadd : IntKind.i64.wrap ((k : Int) + 1) = (k : Int) + 1 := by rw [IntKind.wrap_i64]; omega
            have HOW1 := Lib.hid ((World.ownsRow_lit (base := w9.heap.size) (e := 42) (size := 2) w9 #[] 0 (Nat.le_refl _) (by omega) rfl).drew)
            have L1 : Below w9.heap.size w9 (w9.alloc (.cells #[] 42)).drew := ((Below.refl _ _).alloc (Nat.le_refl _) _).drew
            have HL1 := Lib.hid L1
            have HRD1 := Lib.hid ((HSL.out.take_ (show k ≤ n by omega)).rd.below (HR9.out.trans (L1.mono HR9.out.size)))
            have HCT := Lib.hid (show Reads w3 w3.heap.size 2 AB (n - (k + 1)) (cs.drop ((k + 1) * 2)) by rw [hAB]; exact (HSL.out.cut (show k + 1 ≤ n by omega)).rd)
            have HON1 := Lib.hid (HPC.out.take k).one
            have HON2 := Lib.hid (HPC.out.drop (k + 1)).one
            have HPP := Lib.hid ((HPC.out.take k).append (HPC.out.drop (k + 1)))
            clear L1 hAB
            go_wp2_with fail
            go_region_law (first
              | (refine step_append_any _ rfl (.tmp 65) (.tmp 68) 32 rfl w9.heap.size 42 i0 (.agg #[.slice none 0 0, .slice none 0 0]) 2 48 Try.underlying32 hi0 hz0 hz1 hz2 rfl (by omega) (.slice (some ⟨w9.heap.size, 0, none⟩) 0 0) 0 [] (by rfl) HOW1.out w3.heap.size (some ⟨bx, ox, none⟩) k cX (cs.take (k * 2)) (by rfl) HRD1.out HON1.out (by simp only [maxLen]; omega) (by omega) HL1.out.size ?_; intro v1 w1a hown hgr hbk; have HOA := Lib.hid hown; have HLA := Lib.hid (HL1.out.grown hgr HL1.out.size (fun k hk => by cases hk; exact Nat.le_refl _)); have HRDA := Lib.hid (HCT.out.below (HR9.out.trans (HLA.out.mono HR9.out.size))); clear hown hgr hbk)
              | (refine step_append_any _ rfl (.tmp 69) (.tmp 73) 32 rfl w9.heap.size 42 i0 (.agg #[.slice none 0 0, .slice none 0 0]) 2 48 Try.underlying32 hi0 hz0 hz1 hz2 rfl (by omega) v1 (0 + k) ([] ++ cs.take (k * 2)) (by rfl) HOA.out w3.heap.size AB (n - (k + 1)) (cX - (k + 1)) (cs.drop ((k + 1) * 2)) (by rfl) HRDA.out HON2.out (by simp only [maxLen]; omega) (by omega) HLA.out.size ?_; intro v2 w2a hown hgr hbk; obtain ⟨n3, hn3⟩ : ∃ n3, 0 + k + (n - (k + 1)) = n3 := ⟨_, rfl⟩; rw [hn3, List.nil_append] at hown; obtain ⟨A3, c3, rfl⟩ := own_slice hown; have HN3 := Lib.hid hn3; have HOB := Lib.hid hown; have HLB := Lib.hid (HLA.out.grown hgr HLA.out.size (fun q hq => (HOA.out.lt q hq).1)); clear hown hgr hbk hn3))
            all_goals
              have HRF := Lib.hid (HLB.out.mono HR9.out.size)
              have HKL := Lib.hid (show k < l.length by rw [HN.out]; exact hkn)
              have HLN := Lib.hid (show (Rws.leave l k).length = n3 by rw [Rws.leave_len HKL.out, HN.out, ← HN3.out]; omega)
              have HSF := Lib.hid (((show PCells w3 w3.heap.size (cs.take (k * 2) ++ cs.drop ((k + 1) * 2)) (Rws.leave l k) from HPP.out).below (HR9.out.trans HRF.out) (Nat.le_refl _)).slr HLN.out HOB.out (HR9.out.trans HRF.out).size)
              go_wp2_with fail
              go_meet
              case rel => exact ⟨A3, c3, n3, Rws.leave l k, rfl, HSF.out, Rws.mine_leave HG.out.mine HKL.out, Rws.leave_ne HKL.out, HRF.out, HB9.out.trans (HLB.out.mono HB9.out.size)⟩
        | false =>
          as_aux_lemma =>
            obtain ⟨i8, hi8, hw0, hw1, hw2⟩ := info_parts info8
            have hpl : p.2.length ≤ 900 := HG.out.short p (List.mem_of_getElem? HPK.out)
            have HOW1 := Lib.hid ((World.ownsRow_lit (base := w9.heap.size) (e := 5) (size := 1) w9 #[] 0 (Nat.le_refl _) (by omega) rfl).drew)
            have HOW2 := Lib.hid (((World.ownsRow_lit (base := w9.heap.size) (e := 5) (size := 1) w9 #[] 0 (Nat.le_refl _) (by omega) rfl).alloc (.cells #[.int .u8 0] 5)).drew)
            have HOW3 := Lib.hid (show ((w9.alloc (.cells #[.int .u8 0] 5)).alloc (.cells #[] 5)).drew.ownsRow w9.heap.size 5 1 (.slice (some ⟨w9.heap.size + 1, 0, none⟩) 0 0) 0 [] by
              have h := (World.ownsRow_lit (base := w9.heap.size) (e := 5) (size := 1) (w9.alloc (.cells #[.int .u8 0] 5)) #[] 0 (by simp) (by omega) rfl).drew
              rw [show (w9.alloc (.cells #[.int .u8 0] 5)).heap.size = w9.heap.size + 1 by simp] at h
              exact h)
            have L1 : Below w9.heap.size w9 (w9.alloc (.cells #[] 5)).drew := ((Below.refl _ _).alloc (Nat.le_refl _) _).drew
            have L2 : Below w9.heap.size w9 ((w9.alloc (.cells #[] 5)).alloc (.cells #[.int .u8 0] 5)).drew := (((Below.refl _ _).alloc (Nat.le_refl _) _).alloc (by simp) _).drew
            have L3 : Below w9.heap.size w9 ((w9.alloc (.cells #[.int .u8 0] 5)).alloc (.cells #[] 5)).drew := (((Below.refl _ _).alloc (Nat.le_refl _) _).alloc (by simp) _).drew
            have HRD := Lib.hid (show Reads w9 w3.heap.size 1 A2 p.2.length (p.2.map byteV) from (HY2.out.sl.below HR9.out).rd)
            have HRD1 := Lib.hid (HRD.out.below (L1.mono HR9.out.size))
            have HRD2 := Lib.hid (HRD.out.below (L2.mono HR9.out.size))
            have HRD3 := Lib.hid (HRD.out.below (L3.mono HR9.out.size))
            have HL1 := Lib.hid L1
            have HL2 := Lib.hid L2
            have HL3 := Lib.hid L3
            have HBM2 := Lib.hid (show Blk ((w9.alloc (.cells #[] 5)).alloc (.cells #[.int .u8 0] 5)) (w9.heap.size + 1) 5 #[.int .u8 0] by
              have h := Blk.new (w9.alloc (.cells #[] 5)) 5 #[.int .u8 0]
              rw [show (w9.alloc (.cells #[] 5)).heap.size = w9.heap.size + 1 by simp] at h
              exact h)
            have HBM3 := Lib.hid ((Blk.new w9 5 #[.int .u8 0]).alloc (.cells #[] 5))
            have HO1 := Lib.hid (byteV_one_ p.2)
            have HQ := Lib.hid (Below.refl w9.heap.size w9)
            have SC9 := Lib.hid (fun w' (hh : Below w9.heap.size w9 w') => SC.out w' (HR9.out.trans (hh.mono HR9.out.size)))
            have y1n := HY1.out.sl.nc
            have y1m := HY1.out.sl.cm
            have y2n := HY2.out.sl.nc
            have y2m := HY2.out.sl.cm
            have hgk : (k : Int) < (n : Int) := by omega
            have hgk0 : (0 : Int) ≤ (k : Int) := by omega
            have s0 := SC9.out w9 HQ.out
            obtain ⟨s0, s1⟩ := s0
            have HCX := Lib.hid (show (∃ x, cs[k * 2]? = some x) ∧ ∃ x, cs[k * 2 + 1]? = some x by
              obtain ⟨D1, D2, d1, d2, e1, e2, _⟩ := HPC.out.at_ k p HPK.out
              exact ⟨⟨_, e1⟩, _, e2⟩)
            have HG3 := Lib.hid (show w3.heap.size ≤ g9 from Nat.le_trans HR8.out.size HG9.out.1)
            clear L1 L2 L3
            go_wp2_with fail
            go_region_held3 (fun w' => w'.cell? ⟨bx, ox + k * 2, none⟩ = some (.slice A1 p.1.length c1) ∧ w'.cell? ⟨bx, ox + k * 2 + 1, none⟩ = some (.slice A2 p.2.length c2))
              (first | exact SC.out _ (((HR9.out.trans (HQ.out.mono HR9.out.size)).setCell (p := ⟨g9, k * 2, none⟩) HG3.out _).setCell (p := ⟨g9, k * 2 + 1, none⟩) HG3.out _) | exact SC.out _ ((HR9.out.trans (HQ.out.mono HR9.out.size)).setCell (p := ⟨g9, k * 2, none⟩) HG3.out _) | exact SC9.out _ HQ.out | exact SC9.out _ (HQ.out.alloc HQ.out.size _) | exact SC9.out _ ((HQ.out.alloc HQ.out.size _).alloc (HQ.out.alloc HQ.out.size _).size _) | exact SC9.out _ HQ.out.drew | exact SC9.out _ (HQ.out.alloc HQ.out.size _).drew | exact SC9.out _ ((HQ.out.alloc HQ.out.size _).alloc (HQ.out.alloc HQ.out.size _).size _).drew)
              (first
              | (refine step_append_any _ rfl (.tmp 82) (.tmp 87) 40 rfl w9.heap.size 5 i8 (.int .u8 0) 1 1 Try.underlying40 hi8 hw0 hw1 hw2 rfl (by omega) (.slice (some ⟨w9.heap.size, 0, none⟩) 0 0) 0 [] (by rfl) HOW1.out w3.heap.size A2 p.2.length c2 (p.2.map byteV) (by rfl) HRD1.out HO1.out (by simp only [maxLen]; omega) (by omega) HL1.out.size ?_; intro v1 w1a hown hgr hbk; have HOA := Lib.hid hown; have HQ := Lib.hid (HL1.out.grown hgr HL1.out.size (fun k hk => by cases hk; first | exact Nat.le_refl _ | exact Nat.le_succ _)); obtain ⟨s2, s3⟩ := SC9.out _ HQ.out; clear hown hgr hbk)
              | (refine step_append_any _ rfl (.tmp 82) (.tmp 87) 40 rfl w9.heap.size 5 i8 (.int .u8 0) 1 1 Try.underlying40 hi8 hw0 hw1 hw2 rfl (by omega) (.slice (some ⟨w9.heap.size, 0, none⟩) 0 0) 0 [] (by rfl) HOW2.out w3.heap.size A2 p.2.length c2 (p.2.map byteV) (by rfl) HRD2.out HO1.out (by simp only [maxLen]; omega) (by omega) HL2.out.size ?_; intro v1 w1a hown hgr hbk; have HOA := Lib.hid hown; have HQ := Lib.hid (HL2.out.grown hgr HL2.out.size (fun k hk => by cases hk; first | exact Nat.le_refl _ | exact Nat.le_succ _)); have HBMA := Lib.hid (HBM2.out.drew.grown hgr (by simp [Value.ownBlock])); obtain ⟨s2, s3⟩ := SC9.out _ HQ.out; clear hown hgr hbk)
              | (refine step_append_any _ rfl (.tmp 82) (.tmp 87) 40 rfl w9.heap.size 5 i8 (.int .u8 0) 1 1 Try.underlying40 hi8 hw0 hw1 hw2 rfl (by omega) (.slice (some ⟨w9.heap.size + 1, 0, none⟩) 0 0) 0 [] (by rfl) HOW3.out w3.heap.size A2 p.2.length c2 (p.2.map byteV) (by rfl) HRD3.out HO1.out (by simp only [maxLen]; omega) (by omega) HL3.out.size ?_; intro v1 w1a hown hgr hbk; have HOA := Lib.hid hown; have HQ := Lib.hid (HL3.out.grown hgr HL3.out.size (fun k hk => by cases hk; first | exact Nat.le_refl _ | exact Nat.le_succ _)); have HBMA := Lib.hid (HBM3.out.drew.grown hgr (by simp [Value.ownBlock])); obtain ⟨s2, s3⟩ := SC9.out _ HQ.out; clear hown hgr hbk)
              | (refine step_append_any _ rfl (.tmp 88) (.tmp 89) 40 rfl w9.heap.size 5 i8 (.int .u8 0) 1 1 Try.underlying40 hi8 hw0 hw1 hw2 rfl (by omega) v1 (0 + p.2.length) ([] ++ p.2.map byteV) (by rfl) (HOA.out.alloc _) _ (some ⟨w1a.heap.size, 0, none⟩) 1 1 [.int .u8 0] (by rfl) (readsBlk1 (Blk.new w1a _ _)) (by simp [Value.oneCell']) (by simp only [maxLen]; omega) (by omega) (by have := HQ.out.size; simp; omega) ?_; intro v2 w2a hown hgr hbk; have HOB := Lib.hid hown; have HQ := Lib.hid ((HQ.out.alloc HQ.out.size _).grown hgr (by have := HQ.out.size; simp; omega) (fun q hq => (HOA.out.lt q hq).1)); obtain ⟨n3, hn3⟩ : ∃ n3, 0 + p.2.length + 1 = n3 := ⟨_, rfl⟩; rw [hn3] at hown; obtain ⟨A3, c3, rfl⟩ := own_slice hown; have HN3 := Lib.hid hn3; have HO3 := Lib.hid hown; have HO9 := Lib.hid (own_below HOW9.out HQ.out); obtain ⟨s4, s5⟩ := SC9.out _ HQ.out; obtain ⟨⟨x0, e0⟩, x1, e1⟩ := HCX.out; have f0 := HO9.out.cellAt (k * 2) (by omega); have f1 := HO9.out.cellAt (k * 2 + 1) (by omega); rw [e0] at f0; rw [e1] at f1; have z2 := HO9.out.frozenAt (k * 2); have z3 := HO9.out.frozenAt (k * 2 + 1); clear hown hgr hbk hn3 e0 e1)
              | (refine step_append_any _ rfl (.tmp 88) (.tmp 89) 40 rfl w9.heap.size 5 i8 (.int .u8 0) 1 1 Try.underlying40 hi8 hw0 hw1 hw2 rfl (by omega) v1 (0 + p.2.length) ([] ++ p.2.map byteV) (by rfl) HOA.out _ (some ⟨w9.heap.size + 1, 0, none⟩) 1 1 [.int .u8 0] (by rfl) (readsBlk1 HBMA.out) (by simp [Value.oneCell']) (by simp only [maxLen]; omega) (by omega) HQ.out.size ?_; intro v2 w2a hown hgr hbk; have HOB := Lib.hid hown; have HQ := Lib.hid (HQ.out.grown hgr HQ.out.size (fun q hq => (HOA.out.lt q hq).1)); obtain ⟨n3, hn3⟩ : ∃ n3, 0 + p.2.length + 1 = n3 := ⟨_, rfl⟩; rw [hn3] at hown; obtain ⟨A3, c3, rfl⟩ := own_slice hown; have HN3 := Lib.hid hn3; have HO3 := Lib.hid hown; have HO9 := Lib.hid (own_below HOW9.out HQ.out); obtain ⟨s4, s5⟩ := SC9.out _ HQ.out; obtain ⟨⟨x0, e0⟩, x1, e1⟩ := HCX.out; have f0 := HO9.out.cellAt (k * 2) (by omega); have f1 := HO9.out.cellAt (k * 2 + 1) (by omega); rw [e0] at f0; rw [e1] at f1; have z2 := HO9.out.frozenAt (k * 2); have z3 := HO9.out.frozenAt (k * 2 + 1); clear hown hgr hbk hn3 e0 e1)
              | (refine step_append_any _ rfl (.tmp 88) (.tmp 89) 40 rfl w9.heap.size 5 i8 (.int .u8 0) 1 1 Try.underlying40 hi8 hw0 hw1 hw2 rfl (by omega) v1 (0 + p.2.length) ([] ++ p.2.map byteV) (by rfl) HOA.out _ (some ⟨w9.heap.size, 0, none⟩) 1 1 [.int .u8 0] (by rfl) (readsBlk1 HBMA.out) (by simp [Value.oneCell']) (by simp only [maxLen]; omega) (by omega) HQ.out.size ?_; intro v2 w2a hown hgr hbk; have HOB := Lib.hid hown; have HQ := Lib.hid (HQ.out.grown hgr HQ.out.size (fun q hq => (HOA.out.lt q hq).1)); obtain ⟨n3, hn3⟩ : ∃ n3, 0 + p.2.length + 1 = n3 := ⟨_, rfl⟩; rw [hn3] at hown; obtain ⟨A3, c3, rfl⟩ := own_slice hown; have HN3 := Lib.hid hn3; have HO3 := Lib.hid hown; have HO9 := Lib.hid (own_below HOW9.out HQ.out); obtain ⟨s4, s5⟩ := SC9.out _ HQ.out; obtain ⟨⟨x0, e0⟩, x1, e1⟩ := HCX.out; have f0 := HO9.out.cellAt (k * 2) (by omega); have f1 := HO9.out.cellAt (k * 2 + 1) (by omega); rw [e0] at f0; rw [e1] at f1; have z2 := HO9.out.frozenAt (k * 2); have z3 := HO9.out.frozenAt (k * 2 + 1); clear hown hgr hbk hn3 e0 e1))
            all_goals
              have HKL := Lib.hid (show k < l.length by rw [HN.out]; exact hkn)
              have he3 : n3 = (p.2 ++ [0]).length := by rw [List.length_append, List.length_singleton, ← HN3.out]; omega
              subst he3
              have HC1 := HO9.out.stored (k * 2) (.slice A1 p.1.length c1)
              have HC2 := HC1.1.stored (k * 2 + 1) (.slice A3 (p.2 ++ [0]).length c3)
              have HOWS := Lib.hid HC2.1
              have HGS := Lib.hid (show w2a.grownBy ((w2a.setCell ⟨g9, k * 2, none⟩ (.slice A1 p.1.length c1)).setCell ⟨g9, k * 2 + 1, none⟩ (.slice A3 (p.2 ++ [0]).length c3)) (some g9) from only_setCell (only_setCell (World.grownBy.refl w2a (some g9)) (p := ⟨g9, k * 2, none⟩) (.inl rfl) _) (p := ⟨g9, k * 2 + 1, none⟩) (.inl rfl) _)
              have HO3S := Lib.hid (HO3.out.kept HGS.out (own_own_ne HO3.out HO9.out (by decide)))
              have hg3 : w3.heap.size ≤ g9 := Nat.le_trans HR8.out.size HG9.out.1
              have hgW : W.heap.size ≤ g9 := Nat.le_trans HB8.out.size HG9.out.1
              have HRS := Lib.hid (((HQ.out.mono HR9.out.size).setCell (p := ⟨g9, k * 2, none⟩) hg3 (.slice A1 p.1.length c1)).setCell (p := ⟨g9, k * 2 + 1, none⟩) hg3 (.slice A3 (p.2 ++ [0]).length c3))
              have HBS := Lib.hid (((HB9.out.trans (HQ.out.mono HB9.out.size)).setCell (p := ⟨g9, k * 2, none⟩) hgW (.slice A1 p.1.length c1)).setCell (p := ⟨g9, k * 2 + 1, none⟩) hgW (.slice A3 (p.2 ++ [0]).length c3))
              clear HC1 HC2 f0 f1 z2 z3 s0 s1 s2 s3 s4 s5
              generalize ((w2a.setCell ⟨g9, k * 2, none⟩ (.slice A1 p.1.length c1)).setCell ⟨g9, k * 2 + 1, none⟩ (.slice A3 (p.2 ++ [0]).length c3)) = wS at HOWS HGS HO3S HRS HBS ⊢
              have HRT := Lib.hid (HR9.out.trans HRS.out)
              have HB2 := Lib.hid (show BytesAt wS wS.heap.size A3 (p.2 ++ [0]).length c3 (p.2 ++ [0]) from ⟨by
                have h := Sl.of_own HO3S.out
                rw [List.nil_append, show p.2.map byteV ++ [Value.int .u8 0] = (p.2 ++ [0]).map byteV by rw [List.map_append]; rfl] at h
                exact h, by rw [List.length_append, List.length_singleton]; omega⟩)
              have HSF := Lib.hid ((((HPC.out.below HRT.out (Nat.le_refl _)).more HRT.out.size).set_ HKL.out (q := (p.1, p.2 ++ [0])) ((HY1.out.below HRT.out (Nat.le_refl _)).more HRT.out.size) HB2.out).slr (by rw [List.length_set]; exact HN.out) HOWS.out (Nat.le_refl _))
              go_wp2_with fail
              go_meet
              case rel => exact ⟨some ⟨g9, 0, none⟩, d9, n, Rws.longer l k p, rfl, HSF.out, Rws.mine_longer HG.out.mine HG.out.short HPK.out, Rws.longer_ne HPK.out, HRS.out, HBS.out⟩
      case rest =>
        as_aux_lemma =>
          obtain ⟨A, c, m, ml, rfl, hsl, hmine, hne, hq, hbw⟩ := hcut
          have HM := Lib.hid hsl
          have HMI := Lib.hid hmine
          have HNE := Lib.hid hne
          have HBw := Lib.hid hbw
          have HRw := Lib.hid (HR9.out.trans hq)
          have HML := Lib.hid hsl.len
          have hm1 : m ≤ 400000 := by have := hmine.len; have := HML.out; omega
          have mc := hsl.nc
          have mm := hsl.cm
          clear hsl hmine hne hq hbw HPC HSL SC HON HOW9 HQ9 HG9 HR9 HB9 HB8 HR8 HY1 HY2 HPK HBX hi0 hz0 hz1 hz2 hwm hmt z0 z1 hkn
          go_wp2_with fail
          refine (state_is wc.heap.size 1000 ml A m c wc HM.out (Nat.le_refl _) (by omega) HMI.out.each (by omega)).mono ?_
          rintro e wd ⟨hy, hno, hbd⟩
          have HBd := Lib.hid (HBw.out.trans (hbd.mono HBw.out.size))
          have HRd := Lib.hid (HRw.out.trans (hbd.mono HRw.out.size))
          have HMd := Lib.hid ((HM.out.below hbd (Nat.le_refl _)).more hbd.size)
          clear hbd
          cases hst : Rws.stateOf ml with
          | none =>
            obtain rfl := hno hst
            clear hy hno hst
            unfold zeroSt
            go_wp2_with fail
            refine (works_any _).mono ?_
            rintro e we ⟨rfl, hbe⟩
            have HBe := Lib.hid ((HBd.out.alloc HBd.out.size _).trans (hbe.mono (HBd.out.alloc HBd.out.size _).size))
            clear hbe
            go_wp2_with fail
            go_ret
            exact ⟨rfl, HBe.out⟩
          | some u =>
            obtain ⟨Ca, Cd, Cr, Cq, ea, ed, er, eq, rfl, hat⟩ := hy u hst
            obtain ⟨hof, hlen, hask⟩ := Rws.mine_state HMI.out hst
            have HOF := Lib.hid hof
            have HLEN := Lib.hid hlen
            have HASK := Lib.hid hask
            have HU := Lib.hid hat
            have k1 := hat.accts.nc
            have k2 := hat.accts.cm
            have k3 := hat.dues.nc
            have k4 := hat.dues.cm
            have k5 := hat.rounds.nc
            have k6 := hat.rounds.cm
            have k7 := hat.asked.nc
            have k8 := hat.asked.cm
            unfold stC
            clear hy hno hst hat hof hlen hask
            go_upto_region 14 with (fail)
            have hbt := Blk.new wd 28 #[.int .i64 u.day, .slice Ca u.accts.length ea, .slice Cd u.dues.length ed, .int .u64 u.next, .slice Cr u.rounds.length er, .int .u64 u.no, .slice Cq u.asked.length eq]
            have hal := (Below.refl wd.heap.size wd).alloc (Nat.le_refl _) (.cells #[.int .i64 u.day, .slice Ca u.accts.length ea, .slice Cd u.dues.length ed, .int .u64 u.next, .slice Cr u.rounds.length er, .int .u64 u.no, .slice Cq u.asked.length eq] 28)
            generalize wd.alloc (.cells #[.int .i64 u.day, .slice Ca u.accts.length ea, .slice Cd u.dues.length ed, .int .u64 u.next, .slice Cr u.rounds.length er, .int .u64 u.no, .slice Cq u.asked.length eq] 28) = wf at hbt hal ⊢
            obtain ⟨gu, hgu⟩ : ∃ h, wd.heap.size = h := ⟨_, rfl⟩
            have HBf := Lib.hid (HBd.out.trans (hal.mono HBd.out.size))
            have HRf := Lib.hid (HRd.out.trans (hal.mono HRd.out.size))
            have HMf := Lib.hid ((HMd.out.below hal (Nat.le_refl _)).more hal.size)
            have HUf := Lib.hid ((HU.out.below hal (Nat.le_refl _)).more hal.size)
            rw [hgu] at hbt ⊢
            have u0 := hbt.cell 0
            have u1 := hbt.cell 1
            have u2 := hbt.cell 2
            have u3 := hbt.cell 3
            have u4 := hbt.cell 4
            have u5 := hbt.cell 5
            have u6 := hbt.cell 6
            simp only [List.getElem?_toArray, List.getElem?_cons_zero, List.getElem?_cons_succ] at u0 u1 u2 u3 u4 u5 u6
            clear hbt hal hgu
            go_wp2_with fail
            refine (of_any wf.heap.size u wf HUf.out (Nat.le_refl _) HLEN.out HASK.out).mono ?_
            rintro e wg ⟨AY, cY, rfl, hown, hbg⟩
            rw [HOF.out] at hown ⊢
            have HYg := Lib.hid (show SlR pairR wg wg.heap.size AY m cY ml by have h := hown.slr; rw [HML.out] at h; exact h)
            rw [HML.out]
            have HBg := Lib.hid (HBf.out.trans (hbg.mono HBf.out.size))
            have HRg := Lib.hid (HRf.out.trans (hbg.mono HRf.out.size))
            have HMg := Lib.hid ((HMf.out.below hbg (Nat.le_refl _)).more hbg.size)
            have HXg := Lib.hid ((HX3.out.below HRg.out (Nat.le_refl _)).more HRg.out.size)
            have yc := HYg.out.nc
            have ym := HYg.out.cm
            clear hown hbg u0 u1 u2 u3 u4 u5 u6 k1 k2 k3 k4 k5 k6 k7 k8
            go_wp2_with fail
            refine (refSame_any wg.heap.size ml ml AY A m cY m c wg HYg.out HMg.out (by omega)).mono ?_
            rintro e wh ⟨rfl, q1, hq1⟩
            rw [eqB_true rfl]
            have HBh := Lib.hid (show Below W.heap.size W wh by rw [hq1]; exact below_drewN HBg.out q1)
            have HXh := Lib.hid (show SlR pairR wh wg.heap.size (some ⟨bx, ox, none⟩) n cX l by rw [hq1]; exact HXg.out.drewN q1)
            have HMh := Lib.hid (show SlR pairR wh wg.heap.size A m c ml by rw [hq1]; exact HMg.out.drewN q1)
            clear hq1
            go_wp2_with fail
            refine (refSame_any wg.heap.size l ml (some ⟨bx, ox, none⟩) A n cX m c wh HXh.out HMh.out (by omega)).mono ?_
            rintro e wi ⟨rfl, q2, hq2⟩
            rw [eqB_false HNE.out]
            have HBi := Lib.hid (show Below W.heap.size W wi by rw [hq2]; exact below_drewN HBh.out q2)
            clear hq2
            go_wp2_with fail
            refine (works_any _).mono ?_
            rintro e wj ⟨rfl, hbj⟩
            have HBj := Lib.hid (HBi.out.trans (hbj.mono HBi.out.size))
            clear hbj
            go_wp2_with fail
            go_ret
            exact ⟨rfl, HBj.out⟩
end Go.Proofs.Ytniekddoaokmkaa

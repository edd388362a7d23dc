/-
  Layer 31 (cascade): Help, walked.
-/
import Derived.Test.YtlkbdmbfbmekaaaCasFall
import Derived.WalkMore
import Derived.Deep.LoopGhost
namespace Go.Proofs.Ytlkbdmbfbmekaaa
open Go.RowKit Go.Gab
set_option linter.unusedVariables false
attribute [local go_sem ↓] Go.wp_at_zero Go.wp_at_succ

/-- What Help answers. -/
def HelpIs (bals : List Int) (l : List Cas.Due) (first : List Int) (k x z : Int) : Prop :=
  if Cas.errs bals l first ≠ 0 then x = 0 ∧ z = Cas.errs bals l first
  else if k < 0 ∨ (bals.length : Int) ≤ k then x = 0 ∧ z = 10
  else if first.contains k = true then x = 0 ∧ z = 0
  else z = 0 ∧ ∃ P, Cas.EndEx bals l first k.toNat P ∧ x = max (Cas.lack bals l P k.toNat) 0

def HelpTo (w : World) (bals : List Int) (l : List Cas.Due) (first : List Int) (k : Int) (e : Ending) (w' : World) : Prop :=
  ∃ x z, e = .returned (.tuple #[.int .i64 x, .int .i64 z]) ∧ HelpIs bals l first k x z ∧ Below w.heap.size w w'

/-- The first ones, marked. -/
def firstD (zs : List Int) : Nat → Bool := fun i => zs.contains (i : Int)
theorem firstD_snoc (zs : List Int) (f : Nat) : updD (firstD zs) f true = firstD (zs ++ [(f : Int)]) := by
  funext i
  unfold updD firstD
  by_cases h : i = f
  · subst h; simp
  · rw [if_neg h]
    have : ¬ ((i : Int) = (f : Int)) := by omega
    simp [this]

/-- What has failed on the way. -/
structure Way (bals : List Int) (l : List Cas.Due) (first : List Int) (k : Nat) (d : Nat → Bool) : Prop where
  init : ∀ j, j < bals.length → (j : Int) ∈ first → d j = true
  not : d k = false
  least : ∀ C : Nat → Bool, (∀ j, j < bals.length → (j : Int) ∈ first → C j = true) → (∀ j, j < bals.length → j ≠ k → C j = false → Cas.lack bals l C j ≤ 0) → Cas.Sub bals.length d C

theorem Way.start {bals : List Int} {l : List Cas.Due} {first : List Int} {k : Nat} (h : first.contains (k : Int) = false) : Way bals l first k (firstD first) :=
  ⟨fun j _ hm => by unfold firstD; simpa using hm, h, fun C h1 _ j hj hm => h1 j hj (by unfold firstD at hm; simpa using hm)⟩
theorem Way.next {bals : List Int} {l : List Cas.Due} {first : List Int} {k : Nat} {d : Nat → Bool} (hok : Cas.Ok bals l) (h : Way bals l first k d) {j : Nat} (hj : j < bals.length) (hk : j ≠ k) (hl : 0 < Cas.lack bals l d j) : Way bals l first k (updD d j true) := by
  refine ⟨fun i hi hm => ?_, ?_, fun C h1 h2 i hi hm => ?_⟩
  · unfold updD
    split
    · rfl
    · exact h.init i hi hm
  · unfold updD
    rw [if_neg (fun e => hk e.symm)]
    exact h.not
  · unfold updD at hm
    split at hm
    · next e =>
      subst e
      cases hc : C i with
      | true => rfl
      | false =>
        have h3 := h2 i hj hk hc
        have h4 := hok.owe_mono (h.least C h1 h2) i
        unfold Cas.lack at hl h3
        omega
    · exact h.least C h1 h2 i hi hm
theorem free_upd {bals : List Int} {d : Nat → Bool} {j : Nat} (hj : j < bals.length) (hd : d j = false) : Cas.free bals (updD d j true) < Cas.free bals d := by
  unfold Cas.free
  refine Cas.filter_lt (k := j) _ (fun x _ hx => ?_) (List.mem_range.2 hj) (by rw [hd]; rfl) (by unfold updD; simp)
  unfold updD at hx
  split at hx
  · cases hx
  · exact hx

set_option maxHeartbeats 4000000 in
set_option maxRecDepth 20000 in
theorem help_any (B : Nat) (A : Option Addr) (n c : Nat) (xs : List AcctT) (A1 : Option Addr) (n1 c1 : Nat) (ys : List DueT) (A2 : Option Addr) (n2 c2 : Nat) (zs : List Int) (k : Int) (w : World) (hB : B ≤ w.heap.size) (hk : I64 k)
    (hr : SlR acctR w B A n c xs) (hr1 : SlR dueR w B A1 n1 c1 ys) (hr2 : SlI w B A2 n2 c2 zs) :
    Calls Try.prog 34 #[.slice A n c, .slice A1 n1 c1, .slice A2 n2 c2, .int .i64 k] w (HelpTo w (xs.map bal) (ys.map due) zs k) := by
  have HBG := Lib.hid (begin_any B A n c xs A1 n1 c1 ys A2 n2 c2 zs w hB hr hr1 hr2)
  have HR := Lib.hid hr
  have HR2 := Lib.hid hr2
  have HLEN := Lib.hid (show (xs.map bal).length = n by rw [List.length_map, hr.len])
  have HLEN2 := Lib.hid hr2.len
  have hnc := hr.nc
  have hcm := hr.cm
  have hnc2 := hr2.nc
  have hcm2 := hr2.cm
  obtain ⟨z, hz⟩ : ∃ z, Cas.errs (xs.map bal) (ys.map due) zs = z := ⟨_, rfl⟩
  have HZ := Lib.hid hz
  clear hr hr1 hr2 hz
  go_enter Try.func34, Try.ntmps34
  go_wp2_with fail
  go_step3
  go_wp2_with fail
  refine HBG.out.mono ?_
  rintro e w1 ⟨⟨p, rfl, hp⟩, hb⟩
  rw [HZ.out] at hp ⊢
  have HP := Lib.hid hp
  have HB1 := Lib.hid hb
  clear hp hb HBG
  by_cases h0 : z = 0
  · subst h0
    obtain ⟨g, rfl, hg, hbk⟩ := HP.out rfl
    have HOK := Lib.hid (Cas.ok_of_errs HZ.out)
    have hn16 : n ≤ 16 := by rw [← HLEN.out]; exact HOK.out.1.n16
    have HG := Lib.hid hg
    have HB0 := Lib.hid hbk
    clear hg hbk HP
    by_cases hk0 : k < 0
    · go_wp2_with fail
      go_ret2
      exact ⟨0, 10, rfl, by unfold HelpIs; rw [if_neg (fun h => h HZ.out), if_pos (.inl hk0)]; exact ⟨rfl, rfl⟩, HB1.out⟩
    by_cases hkn : (n : Int) ≤ k
    · go_wp2_with fail
      go_ret2
      exact ⟨0, 10, rfl, by unfold HelpIs; rw [if_neg (fun h => h HZ.out), if_pos (.inr (by rw [HLEN.out]; exact hkn))]; exact ⟨rfl, rfl⟩, HB1.out⟩
    obtain ⟨kk, rfl⟩ : ∃ kk : Nat, k = (kk : Int) := ⟨k.toNat, by omega⟩
    have hkk : kk < n := by omega
    clear hk0 hkn
    have HCN := Lib.hid (sliceContains_any B A2 n2 c2 zs kk w1 (HR2.out.below HB1.out hB))
    obtain ⟨q, hq⟩ : ∃ q, zs.contains (kk : Int) = q := ⟨_, rfl⟩
    rw [hq] at HCN
    have HQ := Lib.hid hq
    clear hq
    go_wp2_with fail
    refine HCN.out.mono ?_
    rintro e2 w2 ⟨rfl, rfl⟩
    clear HCN
    have HNN := Lib.hid (show ¬ ((kk : Int) < 0 ∨ ((xs.map bal).length : Int) ≤ (kk : Int)) by rw [HLEN.out]; omega)
    cases q with
    | true =>
      go_wp2_with fail
      go_ret2
      exact ⟨0, 0, rfl, by unfold HelpIs; rw [if_neg (fun h => h HZ.out), if_neg HNN.out, if_pos HQ.out]; exact ⟨rfl, rfl⟩, HB1.out⟩
    | false =>
    go_wp2_with fail
    go_loopw [39] (fun i wr => ∃ j : Nat, j ≤ n2 ∧ i = .int .i64 j ∧ Blk wr g 84 (bankC (.slice A n c) (Cas.own (ys.map due)) (firstD (zs.take j))) ∧ Below w.heap.size w wr) (fun i _ => n2 - (intOf i).toNat)
    case atStart => exact ⟨0, Nat.zero_le _, rfl, HB0.out, HB1.out⟩
    case round =>
      clear HB0 HB1
      obtain ⟨j, hj, rfl, hbk, hbel⟩ := hrel
      by_cases hlt : j < n2
      · obtain ⟨b, off, f0, rfl, hb, hx, hcell, _⟩ := int_at' (HR2.out.below hbel hB) hlt
        have hmem := HOK.out.2.2 f0 (List.mem_of_getElem? hx)
        rw [HLEN.out] at hmem
        obtain ⟨f, rfl⟩ : ∃ f : Nat, f0 = (f : Int) := ⟨f0.toNat, by omega⟩
        have hf16 : f < 16 := by omega
        have o3 := (hbk.cell (257 + f)).trans (bank_d _ _ _ hf16)
        have of := hbk.frozen (257 + f)
        have HX := Lib.hid hx
        have HBK := Lib.hid hbk
        have HBEL := Lib.hid hbel
        have hf0 : (0 : Int) ≤ (f : Int) := by omega
        have hf1 : (f : Int) < 16 := by omega
        clear hbk hbel hx hmem
        go_wp2_with fail
        go_roundw
        case rel =>
          have h1 := HBK.out.set_ (257 + f) (.bool true)
          rw [bank_setD _ _ _ hf16, firstD_snoc, ← take_succ_of HX.out] at h1
          have h2 := only_setCell (World.grownBy.refl wr (some g)) (p := ⟨g, 257 + f, none⟩) (.inl rfl) (.bool true)
          exact ⟨j + 1, by omega, by go_num, h1, HBEL.out.grown h2 HBEL.out.size (fun q hq => by cases hq; exact HG.out)⟩
        case measure => simp [intOf]; omega
      · obtain rfl : j = n2 := by omega
        rw [List.take_of_length_le (by rw [HLEN2.out]; exact Nat.le_refl _)] at hbk
        have HBK := Lib.hid hbk
        have HBEL := Lib.hid hbel
        clear hbk hbel
        obtain ⟨w3, rfl⟩ : ∃ w3 : World, w3 = wr := ⟨_, rfl⟩
        go_wp2_with fail
        go_step3
        go_wp2_with fail
        go_loopg [] (Cas.free (xs.map bal) (firstD zs)) (fun q wr => ∃ d, q = Cas.free (xs.map bal) d ∧ Way (xs.map bal) (ys.map due) zs kk d ∧ Blk wr g 84 (bankC (.slice A n c) (Cas.own (ys.map due)) d) ∧ Below w.heap.size w wr)
        case atStart => exact ⟨_, rfl, Way.start HQ.out, HBK.out, HBEL.out⟩
        case round =>
          clear HBK HBEL
          obtain ⟨d, hq, hway, hbk, hbel⟩ := hrel
          have HQD := Lib.hid hq
          have HWAY := Lib.hid hway
          have HBK := Lib.hid hbk
          have HBEL := Lib.hid hbel
          clear hq hway hbk hbel
          obtain ⟨w4, rfl⟩ : ∃ w4 : World, w4 = wr := ⟨_, rfl⟩
          obtain ⟨go, rfl⟩ : ∃ go : Nat, go = gk := ⟨_, rfl⟩
          go_wp2_with fail
          go_loopg [51] n (fun q i wr => ∃ j : Nat, j ≤ n ∧ q = n - j ∧ i = .int .i64 j ∧ (∀ a, a < j → a ≠ kk → d a = false → Cas.lack (xs.map bal) (ys.map due) d a ≤ 0) ∧ Blk wr g 84 (bankC (.slice A n c) (Cas.own (ys.map due)) d) ∧ Below w.heap.size w wr)
          case atStart => exact ⟨0, Nat.zero_le _, rfl, rfl, fun a ha => by omega, HBK.out, HBEL.out⟩
          case round =>
            clear HBK HBEL
            obtain ⟨j, hj, hgk, rfl, hcl, hbk, hbel⟩ := hrel
            have HGK := Lib.hid hgk
            have HCL := Lib.hid hcl
            have HBK := Lib.hid hbk
            have HBEL := Lib.hid hbel
            clear hgk hcl hbk hbel
            by_cases hlt : j < n
            · have o3 := (HBK.out.cell (257 + j)).trans (bank_d _ _ _ (by omega))
              have hj0 : (0 : Int) ≤ (j : Int) := by omega
              have hj1 : (j : Int) < 16 := by omega
              by_cases hjk : j = kk
              · go_wp2_with fail
                go_roundg (n - (j + 1))
                case measure => have := HGK.out; omega
                case rel => exact ⟨j + 1, by omega, rfl, by go_num, fun a ha hne hd => HCL.out a (by omega) hne hd, HBK.out, HBEL.out⟩
              · cases hd : d j with
                | true =>
                  rw [hd] at o3
                  have HD := Lib.hid hd
                  clear hd
                  go_wp2_with fail
                  go_roundg (n - (j + 1))
                  case measure => have := HGK.out; omega
                  case rel => exact ⟨j + 1, by omega, rfl, by go_num, fun a ha hne hd => if h : a = j then (by rw [h, HD.out] at hd; cases hd) else HCL.out a (by omega) hne hd, HBK.out, HBEL.out⟩
                | false =>
                  rw [hd] at o3
                  have HD := Lib.hid hd
                  have HL := Lib.hid (lacks_any g B A n c xs (ys.map due) d j wr ⟨HBK.out, HR.out.below HBEL.out hB, HOK.out.1, by have := HG.out; omega⟩ hlt)
                  obtain ⟨F, hF⟩ : ∃ F, Cas.lack (xs.map bal) (ys.map due) d j = F := ⟨_, rfl⟩
                  rw [hF] at HL
                  have HF := Lib.hid hF
                  clear hd hF
                  by_cases hF0 : 0 < F
                  · have of := HBK.out.frozen (257 + j)
                    go_wp2_with fail
                    refine HL.out.mono ?_
                    rintro e3 w5 ⟨rfl, rfl⟩
                    go_wp2_with fail
                    go_roundg (Cas.free (xs.map bal) (updD d j true))
                    case measure => rw [HQD.out]; exact free_upd (by rw [HLEN.out]; exact hlt) HD.out
                    case rel =>
                      have h1 := HBK.out.set_ (257 + j) (.bool true)
                      rw [bank_setD _ _ _ (by omega)] at h1
                      have h2 := only_setCell (World.grownBy.refl wr (some g)) (p := ⟨g, 257 + j, none⟩) (.inl rfl) (.bool true)
                      exact ⟨_, rfl, HWAY.out.next HOK.out.1 (by rw [HLEN.out]; exact hlt) hjk (by rw [HF.out]; exact hF0), h1, HBEL.out.grown h2 HBEL.out.size (fun q hq => by cases hq; exact HG.out)⟩
                  · go_wp2_with fail
                    refine HL.out.mono ?_
                    rintro e3 w5 ⟨rfl, rfl⟩
                    go_wp2_with fail
                    go_roundg (n - (j + 1))
                    case measure => have := HGK.out; omega
                    case rel => exact ⟨j + 1, by omega, rfl, by go_num, fun a ha hne hd => if h : a = j then (by rw [h, HF.out]; omega) else HCL.out a (by omega) hne hd, HBK.out, HBEL.out⟩
            · obtain rfl : j = n := by omega
              have HL := Lib.hid (lacks_any g B A j c xs (ys.map due) d kk wr ⟨HBK.out, HR.out.below HBEL.out hB, HOK.out.1, by have := HG.out; omega⟩ hkk)
              obtain ⟨F, hF⟩ : ∃ F, Cas.lack (xs.map bal) (ys.map due) d kk = F := ⟨_, rfl⟩
              rw [hF] at HL
              have HF := Lib.hid hF
              clear hF
              go_wp2_with fail
              refine HL.out.mono ?_
              rintro e3 w5 ⟨rfl, rfl⟩
              go_wp2_with fail
              all_goals
                go_ret2
                exact ⟨_, _, rfl, by
                  unfold HelpIs
                  rw [if_neg (fun h => h HZ.out), if_neg HNN.out, if_neg (by rw [HQ.out]; decide)]
                  exact ⟨rfl, d, ⟨HWAY.out.init, HWAY.out.not, fun a ha hne hd => HCL.out a (by rw [← HLEN.out]; exact ha) hne hd, HWAY.out.least⟩, by
                    rw [Int.toNat_natCast, HF.out]
                    omega⟩, HBEL.out⟩
  · have hzb : (z == 0) = false := by simpa using h0
    have hzn : (z != 0) = true := by simpa using h0
    have H0 := Lib.hid h0
    clear h0 HP
    go_wp2_with fail
    go_ret2
    exact ⟨0, z, rfl, by unfold HelpIs; rw [HZ.out, if_pos H0.out]; exact ⟨rfl, rfl⟩, HB1.out⟩

end Go.Proofs.Ytlkbdmbfbmekaaa

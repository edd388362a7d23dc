/-
  Layer 23 (rows): all rows of a state, told, walked.
-/
import Derived.Test.YtniekddoaokmkaaRowRows
namespace Go.Proofs.Ytniekddoaokmkaa
open Go.RowKit Go.Gab
set_option linter.unusedVariables false
attribute [local go_sem ↓] Go.wp_at_zero Go.wp_at_succ

theorem key_len (k : UInt8) (l : List (Int × Nat)) (hk : ∀ p ∈ l, Oct.size (p.2 : Int) = true) (hl : l.length ≤ 100) : (Rws.key k l).length ≤ 140737488355328 := by
  have := nums_le l hk
  simp only [Rws.key, List.length_cons]
  omega
theorem nums_len2 (l : List (Int × Nat)) (hk : ∀ p ∈ l, Oct.size (p.2 : Int) = true) (hl : l.length ≤ 100) : (Rws.nums l).length ≤ 140737488355328 := by
  have := nums_le l hk
  omega

set_option maxHeartbeats 8000000 in
set_option maxRecDepth 100000 in
theorem rows_any (base g B : Nat) (s : Rws.St) {Aa Ad Ar Aq : Option Addr} {ca cd cr cq : Nat} (w : World) (hB : B ≤ base) (htold : Told w base g []) (hst : StAt w B s Aa Ad Ar Aq ca cd cr cq)
    (hfew : (Rws.rowsOf s).length ≤ 1900000) (hask : ∀ a ∈ s.asked, a.ask.length ≤ 274877906944 ∧ a.reply.length ≤ 274877906944) :
    Calls Try.prog 21 #[.agg (stC s Aa Ad Ar Aq ca cd cr cq).toArray, tellV g] w (ToldTo base g (Rws.rowsOf s) w) := by
  have HST := Lib.hid hst
  have HFEW := Lib.hid (show 1 + s.accts.length + s.dues.length + s.rounds.length + s.asked.length ≤ 1900000 by rw [rows_len] at hfew; omega)
  have HROW := Lib.hid hfew
  have HASK := Lib.hid hask
  have hnext := hst.next
  have hno := hst.no
  have bS := Blk.new w 28 (stC s Aa Ad Ar Aq ca cd cr cq).toArray
  have l0 : Below w.heap.size w (w.alloc (.cells (stC s Aa Ad Ar Aq ca cd cr cq).toArray 28)) := (Below.refl _ _).alloc (Nat.le_refl _) _
  have htl0 := htold.below l0
  have HT0 := Lib.hid (Tells.of_below (g := g) l0 htold.size)
  have m1 := hst.accts.nc
  have m2 := hst.accts.cm
  have m3 := hst.dues.nc
  have m4 := hst.dues.cm
  have m5 := hst.rounds.nc
  have m6 := hst.rounds.cm
  have m7 := hst.asked.nc
  have m8 := hst.asked.cm
  have HS0 := Lib.hid (hst.below (l0.mono (Nat.le_trans hB htold.size)) (Nat.le_refl _))
  unfold stC at bS l0 htl0 HT0 HS0 ⊢
  clear hst hfew hask htold
  go_enter Try.func21, Try.ntmps21
  unfold tellV
  go_wp2_with fail
  generalize w.alloc (.cells [.int .i64 s.day, .slice Aa s.accts.length ca, .slice Ad s.dues.length cd, .int .u64 s.next, .slice Ar s.rounds.length cr, .int .u64 s.no, .slice Aq s.asked.length cq].toArray 28) = W1 at bS l0 htl0 HT0 HS0
  obtain ⟨hs, hhs⟩ : ∃ h, w.heap.size = h := ⟨_, rfl⟩
  rw [hhs] at bS ⊢
  have HBS1 := Lib.hid bS
  have HTL1 := Lib.hid htl0
  have HL0 := Lib.hid l0
  clear bS htl0 l0 hhs
  -- the head
  obtain ⟨wo, hwo⟩ : ∃ wo, W1 = wo := ⟨_, rfl⟩
  have HTS := Lib.hid (show Tells base g W1 wo by rw [← hwo]; exact Tells.refl _ _ _)
  have HTL := Lib.hid (show Told wo base g [] by rw [← hwo]; exact HTL1.out)
  have HBX := Lib.hid (show Blk wo hs 28 #[.int .i64 s.day, .slice Aa s.accts.length ca, .slice Ad s.dues.length cd, .int .u64 s.next, .slice Ar s.rounds.length cr, .int .u64 s.no, .slice Aq s.asked.length cq] by rw [← hwo]; exact HBS1.out)
  rw [hwo]
  clear hwo
  have SC := Lib.hid (fun w' (hh : Below wo.heap.size wo w') => (show w'.cell? ⟨hs, 0, none⟩ = some (.int .i64 s.day) ∧ w'.cell? ⟨hs, 3, none⟩ = some (.int .u64 s.next) ∧ w'.cell? ⟨hs, 5, none⟩ = some (.int .u64 s.no) ∧ w'.cell? ⟨hs, 6, none⟩ = some (.slice Aq s.asked.length cq) from ⟨(HBX.out.below hh HBX.out.lt).cell 0, (HBX.out.below hh HBX.out.lt).cell 3, (HBX.out.below hh HBX.out.lt).cell 5, (HBX.out.below hh HBX.out.lt).cell 6⟩))
  have HSZ := Lib.hid HTL.out.size
  have HB := Lib.hid (Below.refl wo.heap.size wo).drew
  have HC := Lib.hid (Below.refl wo.heap.size wo).drew
  go_region_held3 (fun w' => w'.cell? ⟨hs, 0, none⟩ = some (.int .i64 s.day) ∧ w'.cell? ⟨hs, 3, none⟩ = some (.int .u64 s.next) ∧ w'.cell? ⟨hs, 5, none⟩ = some (.int .u64 s.no) ∧ w'.cell? ⟨hs, 6, none⟩ = some (.slice Aq s.asked.length cq))
    (first | exact HC4.out | exact SC.out _ HB.out | exact SC.out _ (HB.out.alloc HB.out.size _))
    (first
      | (go_at_call 41; refine (n2_any _ _).mono ?_; rintro e w1 ⟨rfl, hb1⟩; have HB := Lib.hid (HB.out.trans (hb1.mono HB.out.size)); have HC := Lib.hid (HC.out.trans (hb1.mono HC.out.size)); unfold numV; clear hb1)
      | (go_at_call 39; refine (n8_any _ _).mono ?_; rintro e w1 ⟨rfl, hb1⟩; have HB := Lib.hid (HB.out.trans (hb1.mono HB.out.size)); have HC := Lib.hid (HC.out.trans (hb1.mono HC.out.size)); unfold numV; clear hb1)
      | (go_at_call 40; refine (u8_any _ (by assumption) _).mono ?_; rintro e w1 ⟨rfl, hb1⟩; have HB := Lib.hid (HB.out.trans (hb1.mono HB.out.size)); have HC := Lib.hid (HC.out.trans (hb1.mono HC.out.size)); unfold numV; clear hb1)
      | (go_at_call 37; refine (key_any 0 0 none 0 0 [] _ (NumsAt.none_ _ _) (Nat.zero_le _) (by omega) (by simp)).mono ?_; rintro e w2 ⟨A3, c3, rfl, hown, hb2⟩; have HKY := Lib.hid (own_low (base' := base) hown (Nat.le_trans HSZ.out HB.out.size)); have HB := Lib.hid (HB.out.trans (hb2.mono HB.out.size)); have HC := Lib.hid (Below.refl w2.heap.size w2); clear hown hb2)
      | (go_at_call 38; refine (rput_any base (w1.heap.size + 1) none 0 0 [] (some ⟨w1.heap.size, 0, none⟩) 4 4 [(s.day, 8), (s.next, 8), (s.no, 8), ((s.asked.length : Int), 2)] _ (World.ownsRow_nil _ _ _ _) (Nat.le_trans HSZ.out (Nat.le_trans HB.out.size (by simp))) (NumsAt.of_blk (l := [(s.day, 8), (s.next, 8), (s.no, 8), ((s.asked.length : Int), 2)]) (Blk.new w1 87 _) (by simp)) (by simp) (by omega) (by omega) (by simp [Oct.size])).mono ?_; rintro e w2 ⟨A4, c4, rfl, hown, hb2⟩; rw [List.nil_append] at hown ⊢; have HAL := Lib.hid (HB.out.alloc HB.out.size (.cells (numsC [(s.day, 8), (s.next, 8), (s.no, 8), ((s.asked.length : Int), 2)]).toArray 87)); have HCL := Lib.hid (HC.out.alloc HC.out.size (.cells (numsC [(s.day, 8), (s.next, 8), (s.no, 8), ((s.asked.length : Int), 2)]).toArray 87)); have HVO := Lib.hid hown; have HKO := Lib.hid (own_below HKY.out (HCL.out.trans (hb2.mono HCL.out.size))); have HB := Lib.hid (HAL.out.trans (hb2.mono HAL.out.size)); clear hown hb2)
      | (go_at_call 22; refine (tell_any base g ([]) _ _ (Rws.headRow s) _ (HTL.out.below HB.out) (OwnB.of HKO.out (key_len _ _ (by simp) (by simp))) (OwnB.of HVO.out (nums_len2 _ (by simp [Oct.size]) (by simp))) (by simp)).mono ?_; rintro e w4 hte; obtain ⟨rfl, ht4, hs4⟩ := hte.tells HTL.out.low (Nat.le_trans HSZ.out HB.out.size); have HT4 := Lib.hid ht4; have HT5 := Lib.hid ((Tells.of_below (g := g) HB.out HSZ.out).trans hs4); have HS4 := Lib.hid (HTS.out.trans HT5.out); have HC4 := Lib.hid (show w4.cell? ⟨hs, 0, none⟩ = some (.int .i64 s.day) ∧ w4.cell? ⟨hs, 3, none⟩ = some (.int .u64 s.next) ∧ w4.cell? ⟨hs, 5, none⟩ = some (.int .u64 s.no) ∧ w4.cell? ⟨hs, 6, none⟩ = some (.slice Aq s.asked.length cq) from ⟨(HT5.out.keep HTL.out HBX.out (by decide) (by decide)).cell 0, (HT5.out.keep HTL.out HBX.out (by decide) (by decide)).cell 3, (HT5.out.keep HTL.out HBX.out (by decide) (by decide)).cell 5, (HT5.out.keep HTL.out HBX.out (by decide) (by decide)).cell 6⟩); clear hte ht4 hs4))
  clear HTS HTL HBX
  have HTL := Lib.hid (show Told w4 base g (psA s 0) by rw [psA_zero]; exact HT4.out)
  have HTS := Lib.hid HS4.out
  clear HT4 HT5 HS4 HC4 SC HSZ HB HC HKY HKO HVO HAL HCL
  have HBS := Lib.hid (HTS.out.keep HTL1.out HBS1.out (by decide) (by decide))
  have c1 := HBS.out.cell 1
  simp only [List.getElem?_toArray, List.getElem?_cons_zero, List.getElem?_cons_succ] at c1
  go_wp2_with fail
  -- accounts
  go_loopw [37] (fun i wr => ∃ j : Nat, j ≤ s.accts.length ∧ i = .int .i64 j ∧ Told wr base g (psA s j) ∧ Tells base g W1 wr) (fun i _ => s.accts.length - (intOf i).toNat)
  case atStart => exact ⟨0, Nat.zero_le _, rfl, HTL.out, HTS.out⟩
  case round =>
    clear HTL HTS HBS c1
    obtain ⟨j, hj, rfl, htl, hts⟩ := hrel
    have HTL0 := Lib.hid htl
    have HTS0 := Lib.hid hts
    by_cases hlt : j < s.accts.length
    · obtain ⟨b, off, x, hA, hbb, hx, q0, q1, _⟩ := acct_at (HS0.out.accts.below hts.bel hB) hlt
      subst hA
      have HX := Lib.hid hx
      have hbx := Blk.new wr 92 #[.int .i64 x.bal, .int .i64 x.res]
      have htl2 := htl.below ((Below.refl _ _).alloc (Nat.le_refl _) (.cells #[.int .i64 x.bal, .int .i64 x.res] 92))
      have hts2 := hts.alloc htl.size (.cells #[.int .i64 x.bal, .int .i64 x.res] 92)
      clear hx hbb htl hts
      go_wp2_with fail
      generalize wr.alloc (.cells #[.int .i64 x.bal, .int .i64 x.res] 92) = wo at hbx htl2 hts2 ⊢
      generalize wr.heap.size = hx at hbx ⊢
      have HBX := Lib.hid hbx
      have HTL := Lib.hid htl2
      have HTS := Lib.hid hts2
      clear hbx htl2 hts2 q0 q1
      have SC := Lib.hid (fun w' (hh : Below wo.heap.size wo w') => (show w'.cell? ⟨hx, 0, none⟩ = some (.int .i64 x.bal) ∧ w'.cell? ⟨hx, 1, none⟩ = some (.int .i64 x.res) from ⟨(HBX.out.below hh HBX.out.lt).cell 0, (HBX.out.below hh HBX.out.lt).cell 1⟩))
      have HSZ := Lib.hid HTL.out.size
      have HB := Lib.hid (Below.refl wo.heap.size wo).drew
      have HC := Lib.hid (Below.refl wo.heap.size wo).drew
      go_region_held3 (fun w' => w'.cell? ⟨hx, 0, none⟩ = some (.int .i64 x.bal) ∧ w'.cell? ⟨hx, 1, none⟩ = some (.int .i64 x.res))
        (first | exact HC4.out | exact SC.out _ HB.out | exact SC.out _ (HB.out.alloc HB.out.size _))
        (first
          | (go_at_call 42; refine (n1_any _ _).mono ?_; rintro e w1 ⟨rfl, hb1⟩; have HB := Lib.hid (HB.out.trans (hb1.mono HB.out.size)); have HC := Lib.hid (HC.out.trans (hb1.mono HC.out.size)); unfold numV; clear hb1)
          | (go_at_call 39; refine (n8_any _ _).mono ?_; rintro e w1 ⟨rfl, hb1⟩; have HB := Lib.hid (HB.out.trans (hb1.mono HB.out.size)); have HC := Lib.hid (HC.out.trans (hb1.mono HC.out.size)); unfold numV; clear hb1)
          | (go_at_call 37; refine (key_any (w1.heap.size + 1) 1 (some ⟨w1.heap.size, 0, none⟩) 1 1 [((j : Int), 1)] _ (NumsAt.of_blk (l := [((j : Int), 1)]) (Blk.new w1 87 _) (by simp)) (by simp) (by omega) (by simp [Oct.size])).mono ?_; rintro e w2 ⟨A3, c3, rfl, hown, hb2⟩; have HAL := Lib.hid (HB.out.alloc HB.out.size (.cells (numsC [((j : Int), 1)]).toArray 87)); have HKY := Lib.hid (own_low (base' := base) hown (Nat.le_trans HSZ.out HAL.out.size)); have HB := Lib.hid (HAL.out.trans (hb2.mono HAL.out.size)); have HC := Lib.hid (Below.refl w2.heap.size w2); clear hown hb2)
          | (go_at_call 38; refine (rput_any base (w1.heap.size + 1) none 0 0 [] (some ⟨w1.heap.size, 0, none⟩) 2 2 [(x.bal, 8), (x.res, 8)] _ (World.ownsRow_nil _ _ _ _) (Nat.le_trans HSZ.out (Nat.le_trans HB.out.size (by simp))) (NumsAt.of_blk (l := [(x.bal, 8), (x.res, 8)]) (Blk.new w1 87 _) (by simp)) (by simp) (by omega) (by omega) (by simp [Oct.size])).mono ?_; rintro e w2 ⟨A4, c4, rfl, hown, hb2⟩; rw [List.nil_append] at hown ⊢; have HAL := Lib.hid (HB.out.alloc HB.out.size (.cells (numsC [(x.bal, 8), (x.res, 8)]).toArray 87)); have HCL := Lib.hid (HC.out.alloc HC.out.size (.cells (numsC [(x.bal, 8), (x.res, 8)]).toArray 87)); have HVO := Lib.hid hown; have HKO := Lib.hid (own_below HKY.out (HCL.out.trans (hb2.mono HCL.out.size))); have HB := Lib.hid (HAL.out.trans (hb2.mono HAL.out.size)); clear hown hb2)
          | (go_at_call 22; refine (tell_any base g (psA s j) _ _ (Rws.acctRow j x) _ (HTL.out.below HB.out) (OwnB.of HKO.out (key_len _ _ (by simp [Oct.size]) (by simp))) (OwnB.of HVO.out (nums_len2 _ (by simp [Oct.size]) (by simp))) (by have h1 := psA_len (s := s) (j := j) (by omega); have h2 := HFEW.out; omega)).mono ?_; rintro e w4 hte; obtain ⟨rfl, ht4, hs4⟩ := hte.tells HTL.out.low (Nat.le_trans HSZ.out HB.out.size); have HT4 := Lib.hid ht4; have HT5 := Lib.hid ((Tells.of_below (g := g) HB.out HSZ.out).trans hs4); have HS4 := Lib.hid (HTS.out.trans HT5.out); have HC4 := Lib.hid (show w4.cell? ⟨hx, 0, none⟩ = some (.int .i64 x.bal) ∧ w4.cell? ⟨hx, 1, none⟩ = some (.int .i64 x.res) from ⟨(HT5.out.keep HTL.out HBX.out (by decide) (by decide)).cell 0, (HT5.out.keep HTL.out HBX.out (by decide) (by decide)).cell 1⟩); clear hte ht4 hs4))
      rw [psA_step HX.out] at HT4
      go_wp2_with fail
      go_roundw
      case rel => exact ⟨j + 1, by omega, by go_num, HT4.out, HS4.out⟩
      case measure => simp [intOf]; omega
    · obtain ⟨rfl⟩ : s.accts.length = j := by omega

      have HTL := Lib.hid (show Told wr base g (psD s 0) by rw [← psA_last]; exact htl)
      clear htl hts HTL0
      have HBS := Lib.hid (HTS0.out.keep HTL1.out HBS1.out (by decide) (by decide))
      have c2 := HBS.out.cell 2
      simp only [List.getElem?_toArray, List.getElem?_cons_zero, List.getElem?_cons_succ] at c2
      go_wp2_with fail
      -- dues
      go_loopw [60] (fun i wr => ∃ j : Nat, j ≤ s.dues.length ∧ i = .int .i64 j ∧ Told wr base g (psD s j) ∧ Tells base g W1 wr) (fun i _ => s.dues.length - (intOf i).toNat)
      case atStart => exact ⟨0, Nat.zero_le _, rfl, HTL.out, HTS0.out⟩
      case round =>
        clear HTL HTS0 HBS
        obtain ⟨j, hj, rfl, htl, hts⟩ := hrel
        have HTL0 := Lib.hid htl
        have HTS0 := Lib.hid hts
        by_cases hlt : j < s.dues.length
        · obtain ⟨b, off, x, hA, hbb, hx, q0, q1, q2, q3, q4, q5, q6, hu, _⟩ := due_at (HS0.out.dues.below hts.bel hB) hlt
          subst hA
          have HX := Lib.hid hx
          have hbx := Blk.new wr 54 #[.int .u64 x.id, .int .i64 x.frm, .int .i64 x.to, .int .i64 x.amt, .int .i64 x.wt, .int .i64 x.til, .bool x.held]
          have htl2 := htl.below ((Below.refl _ _).alloc (Nat.le_refl _) (.cells #[.int .u64 x.id, .int .i64 x.frm, .int .i64 x.to, .int .i64 x.amt, .int .i64 x.wt, .int .i64 x.til, .bool x.held] 54))
          have hts2 := hts.alloc htl.size (.cells #[.int .u64 x.id, .int .i64 x.frm, .int .i64 x.to, .int .i64 x.amt, .int .i64 x.wt, .int .i64 x.til, .bool x.held] 54)
          clear hx hbb htl hts
          go_wp2_with fail
          generalize wr.alloc (.cells #[.int .u64 x.id, .int .i64 x.frm, .int .i64 x.to, .int .i64 x.amt, .int .i64 x.wt, .int .i64 x.til, .bool x.held] 54) = wo at hbx htl2 hts2 ⊢
          generalize wr.heap.size = hx at hbx ⊢
          have HBX := Lib.hid hbx
          have HTL := Lib.hid htl2
          have HTS := Lib.hid hts2
          clear hbx htl2 hts2
          have SC := Lib.hid (fun w' (hh : Below wo.heap.size wo w') => (show w'.cell? ⟨hx, 0, none⟩ = some (.int .u64 x.id) ∧ w'.cell? ⟨hx, 1, none⟩ = some (.int .i64 x.frm) ∧ w'.cell? ⟨hx, 2, none⟩ = some (.int .i64 x.to) ∧ w'.cell? ⟨hx, 3, none⟩ = some (.int .i64 x.amt) ∧ w'.cell? ⟨hx, 4, none⟩ = some (.int .i64 x.wt) ∧ w'.cell? ⟨hx, 5, none⟩ = some (.int .i64 x.til) ∧ w'.cell? ⟨hx, 6, none⟩ = some (.bool x.held) from ⟨(HBX.out.below hh HBX.out.lt).cell 0, (HBX.out.below hh HBX.out.lt).cell 1, (HBX.out.below hh HBX.out.lt).cell 2, (HBX.out.below hh HBX.out.lt).cell 3, (HBX.out.below hh HBX.out.lt).cell 4, (HBX.out.below hh HBX.out.lt).cell 5, (HBX.out.below hh HBX.out.lt).cell 6⟩))
          have HSZ := Lib.hid HTL.out.size
          have HB := Lib.hid (Below.refl wo.heap.size wo).drew
          have HC := Lib.hid (Below.refl wo.heap.size wo).drew
          go_region_held3 (fun w' => w'.cell? ⟨hx, 0, none⟩ = some (.int .u64 x.id) ∧ w'.cell? ⟨hx, 1, none⟩ = some (.int .i64 x.frm) ∧ w'.cell? ⟨hx, 2, none⟩ = some (.int .i64 x.to) ∧ w'.cell? ⟨hx, 3, none⟩ = some (.int .i64 x.amt) ∧ w'.cell? ⟨hx, 4, none⟩ = some (.int .i64 x.wt) ∧ w'.cell? ⟨hx, 5, none⟩ = some (.int .i64 x.til) ∧ w'.cell? ⟨hx, 6, none⟩ = some (.bool x.held))
            (first | exact HC4.out | exact SC.out _ HB.out | exact SC.out _ (HB.out.alloc HB.out.size _))
            (first
              | (go_at_call 42; refine (n1_any _ _).mono ?_; rintro e w1 ⟨rfl, hb1⟩; have HB := Lib.hid (HB.out.trans (hb1.mono HB.out.size)); have HC := Lib.hid (HC.out.trans (hb1.mono HC.out.size)); unfold numV; clear hb1)
              | (go_at_call 41; refine (n2_any _ _).mono ?_; rintro e w1 ⟨rfl, hb1⟩; have HB := Lib.hid (HB.out.trans (hb1.mono HB.out.size)); have HC := Lib.hid (HC.out.trans (hb1.mono HC.out.size)); unfold numV; clear hb1)
              | (go_at_call 39; refine (n8_any _ _).mono ?_; rintro e w1 ⟨rfl, hb1⟩; have HB := Lib.hid (HB.out.trans (hb1.mono HB.out.size)); have HC := Lib.hid (HC.out.trans (hb1.mono HC.out.size)); unfold numV; clear hb1)
              | (go_at_call 40; refine (u8_any _ (by assumption) _).mono ?_; rintro e w1 ⟨rfl, hb1⟩; have HB := Lib.hid (HB.out.trans (hb1.mono HB.out.size)); have HC := Lib.hid (HC.out.trans (hb1.mono HC.out.size)); unfold numV; clear hb1)
              | (go_at_call 43; refine (flag_any _ _).mono ?_; rintro e w1 ⟨rfl, hb1⟩; have HB := Lib.hid (HB.out.trans (hb1.mono HB.out.size)); have HC := Lib.hid (HC.out.trans (hb1.mono HC.out.size)); unfold numV; clear hb1)
              | (go_at_call 37; refine (key_any (w1.heap.size + 1) 2 (some ⟨w1.heap.size, 0, none⟩) 1 1 [(x.id, 8)] _ (NumsAt.of_blk (l := [(x.id, 8)]) (Blk.new w1 87 _) (by simp)) (by simp) (by omega) (by simp [Oct.size])).mono ?_; rintro e w2 ⟨A3, c3, rfl, hown, hb2⟩; have HAL := Lib.hid (HB.out.alloc HB.out.size (.cells (numsC [(x.id, 8)]).toArray 87)); have HKY := Lib.hid (own_low (base' := base) hown (Nat.le_trans HSZ.out HAL.out.size)); have HB := Lib.hid (HAL.out.trans (hb2.mono HAL.out.size)); have HC := Lib.hid (Below.refl w2.heap.size w2); clear hown hb2)
              | (go_at_call 38; refine (rput_any base (w1.heap.size + 1) none 0 0 [] (some ⟨w1.heap.size, 0, none⟩) 6 6 [(x.frm, 1), (x.to, 1), (x.amt, 8), (x.wt, 2), (x.til, 8), (Rws.flagN x.held, 1)] _ (World.ownsRow_nil _ _ _ _) (Nat.le_trans HSZ.out (Nat.le_trans HB.out.size (by simp))) (NumsAt.of_blk (l := [(x.frm, 1), (x.to, 1), (x.amt, 8), (x.wt, 2), (x.til, 8), (Rws.flagN x.held, 1)]) (Blk.new w1 87 _) (by simp)) (by simp) (by omega) (by omega) (by simp [Oct.size])).mono ?_; rintro e w2 ⟨A4, c4, rfl, hown, hb2⟩; rw [List.nil_append] at hown ⊢; have HAL := Lib.hid (HB.out.alloc HB.out.size (.cells (numsC [(x.frm, 1), (x.to, 1), (x.amt, 8), (x.wt, 2), (x.til, 8), (Rws.flagN x.held, 1)]).toArray 87)); have HCL := Lib.hid (HC.out.alloc HC.out.size (.cells (numsC [(x.frm, 1), (x.to, 1), (x.amt, 8), (x.wt, 2), (x.til, 8), (Rws.flagN x.held, 1)]).toArray 87)); have HVO := Lib.hid hown; have HKO := Lib.hid (own_below HKY.out (HCL.out.trans (hb2.mono HCL.out.size))); have HB := Lib.hid (HAL.out.trans (hb2.mono HAL.out.size)); clear hown hb2)
              | (go_at_call 22; refine (tell_any base g (psD s j) _ _ (Rws.dueRow x) _ (HTL.out.below HB.out) (OwnB.of HKO.out (key_len _ _ (by simp [Oct.size]) (by simp))) (OwnB.of HVO.out (nums_len2 _ (by simp [Oct.size]) (by simp))) (by have h1 := psD_len (s := s) (j := j) (by omega); have h2 := HFEW.out; omega)).mono ?_; rintro e w4 hte; obtain ⟨rfl, ht4, hs4⟩ := hte.tells HTL.out.low (Nat.le_trans HSZ.out HB.out.size); have HT4 := Lib.hid ht4; have HT5 := Lib.hid ((Tells.of_below (g := g) HB.out HSZ.out).trans hs4); have HS4 := Lib.hid (HTS.out.trans HT5.out); have HC4 := Lib.hid (show w4.cell? ⟨hx, 0, none⟩ = some (.int .u64 x.id) ∧ w4.cell? ⟨hx, 1, none⟩ = some (.int .i64 x.frm) ∧ w4.cell? ⟨hx, 2, none⟩ = some (.int .i64 x.to) ∧ w4.cell? ⟨hx, 3, none⟩ = some (.int .i64 x.amt) ∧ w4.cell? ⟨hx, 4, none⟩ = some (.int .i64 x.wt) ∧ w4.cell? ⟨hx, 5, none⟩ = some (.int .i64 x.til) ∧ w4.cell? ⟨hx, 6, none⟩ = some (.bool x.held) from ⟨(HT5.out.keep HTL.out HBX.out (by decide) (by decide)).cell 0, (HT5.out.keep HTL.out HBX.out (by decide) (by decide)).cell 1, (HT5.out.keep HTL.out HBX.out (by decide) (by decide)).cell 2, (HT5.out.keep HTL.out HBX.out (by decide) (by decide)).cell 3, (HT5.out.keep HTL.out HBX.out (by decide) (by decide)).cell 4, (HT5.out.keep HTL.out HBX.out (by decide) (by decide)).cell 5, (HT5.out.keep HTL.out HBX.out (by decide) (by decide)).cell 6⟩); clear hte ht4 hs4))
          rw [psD_step HX.out] at HT4
          go_wp2_with fail
          go_roundw
          case rel => exact ⟨j + 1, by omega, by go_num, HT4.out, HS4.out⟩
          case measure => simp [intOf]; omega
        · obtain ⟨rfl⟩ : s.dues.length = j := by omega

          have HTL := Lib.hid (show Told wr base g (psR s 0) by rw [← psD_last]; exact htl)
          clear htl hts HTL0
          have HBS := Lib.hid (HTS0.out.keep HTL1.out HBS1.out (by decide) (by decide))
          have c4 := HBS.out.cell 4
          simp only [List.getElem?_toArray, List.getElem?_cons_zero, List.getElem?_cons_succ] at c4
          go_wp2_with fail
          -- rounds
          go_loopw [95] (fun i wr => ∃ j : Nat, j ≤ s.rounds.length ∧ i = .int .i64 j ∧ Told wr base g (psR s j) ∧ Tells base g W1 wr) (fun i _ => s.rounds.length - (intOf i).toNat)
          case atStart => exact ⟨0, Nat.zero_le _, rfl, HTL.out, HTS0.out⟩
          case round =>
            clear HTL HTS0 HBS
            obtain ⟨j, hj, rfl, htl, hts⟩ := hrel
            have HTL0 := Lib.hid htl
            have HTS0 := Lib.hid hts
            by_cases hlt : j < s.rounds.length
            · obtain ⟨b, off, x, Ai, Ae, Af, Ap, ci, ce, cf, cp, hA, hbb, hx, hra, q0, q1, q2, q3, q4, q5, q6, q7⟩ := round_at (HS0.out.rounds.below hts.bel hB) hlt
              subst hA
              have hu := hra.no
              have HX := Lib.hid hx
              have hbx := Blk.new wr 64 #[.int .u64 x.no, .int .i64 x.day, .bool x.comp, .slice Ai x.ids.length ci, .int .i64 x.n, .slice Ae x.edges.length ce, .slice Af x.flow.length cf, .slice Ap x.pot.length cp]
              have htl2 := htl.below ((Below.refl _ _).alloc (Nat.le_refl _) (.cells #[.int .u64 x.no, .int .i64 x.day, .bool x.comp, .slice Ai x.ids.length ci, .int .i64 x.n, .slice Ae x.edges.length ce, .slice Af x.flow.length cf, .slice Ap x.pot.length cp] 64))
              have hts2 := hts.alloc htl.size (.cells #[.int .u64 x.no, .int .i64 x.day, .bool x.comp, .slice Ai x.ids.length ci, .int .i64 x.n, .slice Ae x.edges.length ce, .slice Af x.flow.length cf, .slice Ap x.pot.length cp] 64)
              clear hx hbb htl hts
              go_wp2_with fail
              generalize wr.alloc (.cells #[.int .u64 x.no, .int .i64 x.day, .bool x.comp, .slice Ai x.ids.length ci, .int .i64 x.n, .slice Ae x.edges.length ce, .slice Af x.flow.length cf, .slice Ap x.pot.length cp] 64) = wo at hbx htl2 hts2 ⊢
              generalize wr.heap.size = hx at hbx ⊢
              have HBX := Lib.hid hbx
              have HTL := Lib.hid htl2
              have HTS := Lib.hid hts2
              clear hbx htl2 hts2
              have SC := Lib.hid (fun w' (hh : Below wo.heap.size wo w') => (show w'.cell? ⟨hx, 0, none⟩ = some (.int .u64 x.no) ∧ w'.cell? ⟨hx, 1, none⟩ = some (.int .i64 x.day) ∧ w'.cell? ⟨hx, 2, none⟩ = some (.bool x.comp) ∧ w'.cell? ⟨hx, 3, none⟩ = some (.slice Ai x.ids.length ci) ∧ w'.cell? ⟨hx, 4, none⟩ = some (.int .i64 x.n) ∧ w'.cell? ⟨hx, 5, none⟩ = some (.slice Ae x.edges.length ce) ∧ w'.cell? ⟨hx, 6, none⟩ = some (.slice Af x.flow.length cf) ∧ w'.cell? ⟨hx, 7, none⟩ = some (.slice Ap x.pot.length cp) from ⟨(HBX.out.below hh HBX.out.lt).cell 0, (HBX.out.below hh HBX.out.lt).cell 1, (HBX.out.below hh HBX.out.lt).cell 2, (HBX.out.below hh HBX.out.lt).cell 3, (HBX.out.below hh HBX.out.lt).cell 4, (HBX.out.below hh HBX.out.lt).cell 5, (HBX.out.below hh HBX.out.lt).cell 6, (HBX.out.below hh HBX.out.lt).cell 7⟩))
              have HSZ := Lib.hid HTL.out.size
              have HB := Lib.hid (Below.refl wo.heap.size wo).drew
              have HC := Lib.hid (Below.refl wo.heap.size wo).drew
              go_region_held3 (fun w' => w'.cell? ⟨hx, 0, none⟩ = some (.int .u64 x.no) ∧ w'.cell? ⟨hx, 1, none⟩ = some (.int .i64 x.day) ∧ w'.cell? ⟨hx, 2, none⟩ = some (.bool x.comp) ∧ w'.cell? ⟨hx, 3, none⟩ = some (.slice Ai x.ids.length ci) ∧ w'.cell? ⟨hx, 4, none⟩ = some (.int .i64 x.n) ∧ w'.cell? ⟨hx, 5, none⟩ = some (.slice Ae x.edges.length ce) ∧ w'.cell? ⟨hx, 6, none⟩ = some (.slice Af x.flow.length cf) ∧ w'.cell? ⟨hx, 7, none⟩ = some (.slice Ap x.pot.length cp))
                (first | exact HC4.out | exact SC.out _ HB.out | exact SC.out _ (HB.out.alloc HB.out.size _))
                (first
                  | (go_at_call 42; refine (n1_any _ _).mono ?_; rintro e w1 ⟨rfl, hb1⟩; have HB := Lib.hid (HB.out.trans (hb1.mono HB.out.size)); have HC := Lib.hid (HC.out.trans (hb1.mono HC.out.size)); unfold numV; clear hb1)
                  | (go_at_call 41; refine (n2_any _ _).mono ?_; rintro e w1 ⟨rfl, hb1⟩; have HB := Lib.hid (HB.out.trans (hb1.mono HB.out.size)); have HC := Lib.hid (HC.out.trans (hb1.mono HC.out.size)); unfold numV; clear hb1)
                  | (go_at_call 39; refine (n8_any _ _).mono ?_; rintro e w1 ⟨rfl, hb1⟩; have HB := Lib.hid (HB.out.trans (hb1.mono HB.out.size)); have HC := Lib.hid (HC.out.trans (hb1.mono HC.out.size)); unfold numV; clear hb1)
                  | (go_at_call 40; refine (u8_any _ (by assumption) _).mono ?_; rintro e w1 ⟨rfl, hb1⟩; have HB := Lib.hid (HB.out.trans (hb1.mono HB.out.size)); have HC := Lib.hid (HC.out.trans (hb1.mono HC.out.size)); unfold numV; clear hb1)
                  | (go_at_call 43; refine (flag_any _ _).mono ?_; rintro e w1 ⟨rfl, hb1⟩; have HB := Lib.hid (HB.out.trans (hb1.mono HB.out.size)); have HC := Lib.hid (HC.out.trans (hb1.mono HC.out.size)); unfold numV; clear hb1)
                  | (go_at_call 37; refine (key_any (w1.heap.size + 1) 3 (some ⟨w1.heap.size, 0, none⟩) 1 1 [(x.no, 8)] _ (NumsAt.of_blk (l := [(x.no, 8)]) (Blk.new w1 87 _) (by simp)) (by simp) (by omega) (by simp [Oct.size])).mono ?_; rintro e w2 ⟨A3, c3, rfl, hown, hb2⟩; have HAL := Lib.hid (HB.out.alloc HB.out.size (.cells (numsC [(x.no, 8)]).toArray 87)); have HKY := Lib.hid (own_low (base' := base) hown (Nat.le_trans HSZ.out HAL.out.size)); have HB := Lib.hid (HAL.out.trans (hb2.mono HAL.out.size)); have HC := Lib.hid (Below.refl w2.heap.size w2); clear hown hb2)
                  | (go_at_call 38; refine (rput_any base (w1.heap.size + 1) none 0 0 [] (some ⟨w1.heap.size, 0, none⟩) 7 7 [(x.day, 8), (Rws.flagN x.comp, 1), (x.n, 1), ((x.edges.length : Int), 2), ((x.ids.length : Int), 2), ((x.flow.length : Int), 2), ((x.pot.length : Int), 2)] _ (World.ownsRow_nil _ _ _ _) (Nat.le_trans HSZ.out (Nat.le_trans HB.out.size (by simp))) (NumsAt.of_blk (l := [(x.day, 8), (Rws.flagN x.comp, 1), (x.n, 1), ((x.edges.length : Int), 2), ((x.ids.length : Int), 2), ((x.flow.length : Int), 2), ((x.pot.length : Int), 2)]) (Blk.new w1 87 _) (by simp)) (by simp) (by omega) (by omega) (by simp [Oct.size])).mono ?_; rintro e w2 ⟨A4, c4, rfl, hown, hb2⟩; rw [List.nil_append] at hown ⊢; have HAL := Lib.hid (HB.out.alloc HB.out.size (.cells (numsC [(x.day, 8), (Rws.flagN x.comp, 1), (x.n, 1), ((x.edges.length : Int), 2), ((x.ids.length : Int), 2), ((x.flow.length : Int), 2), ((x.pot.length : Int), 2)]).toArray 87)); have HCL := Lib.hid (HC.out.alloc HC.out.size (.cells (numsC [(x.day, 8), (Rws.flagN x.comp, 1), (x.n, 1), ((x.edges.length : Int), 2), ((x.ids.length : Int), 2), ((x.flow.length : Int), 2), ((x.pot.length : Int), 2)]).toArray 87)); have HVO := Lib.hid hown; have HKO := Lib.hid (own_below HKY.out (HCL.out.trans (hb2.mono HCL.out.size))); have HB := Lib.hid (HAL.out.trans (hb2.mono HAL.out.size)); clear hown hb2)
                  | (go_at_call 22; refine (tell_any base g (psR s j) _ _ (Rws.roundRow x) _ (HTL.out.below HB.out) (OwnB.of HKO.out (key_len _ _ (by simp [Oct.size]) (by simp))) (OwnB.of HVO.out (nums_len2 _ (by simp [Oct.size]) (by simp))) (by have h1 := psR_len (s := s) (j := j) (by omega); have h2 := HFEW.out; omega)).mono ?_; rintro e w4 hte; obtain ⟨rfl, ht4, hs4⟩ := hte.tells HTL.out.low (Nat.le_trans HSZ.out HB.out.size); have HT4 := Lib.hid ht4; have HT5 := Lib.hid ((Tells.of_below (g := g) HB.out HSZ.out).trans hs4); have HS4 := Lib.hid (HTS.out.trans HT5.out); have HC4 := Lib.hid (show w4.cell? ⟨hx, 0, none⟩ = some (.int .u64 x.no) ∧ w4.cell? ⟨hx, 1, none⟩ = some (.int .i64 x.day) ∧ w4.cell? ⟨hx, 2, none⟩ = some (.bool x.comp) ∧ w4.cell? ⟨hx, 3, none⟩ = some (.slice Ai x.ids.length ci) ∧ w4.cell? ⟨hx, 4, none⟩ = some (.int .i64 x.n) ∧ w4.cell? ⟨hx, 5, none⟩ = some (.slice Ae x.edges.length ce) ∧ w4.cell? ⟨hx, 6, none⟩ = some (.slice Af x.flow.length cf) ∧ w4.cell? ⟨hx, 7, none⟩ = some (.slice Ap x.pot.length cp) from ⟨(HT5.out.keep HTL.out HBX.out (by decide) (by decide)).cell 0, (HT5.out.keep HTL.out HBX.out (by decide) (by decide)).cell 1, (HT5.out.keep HTL.out HBX.out (by decide) (by decide)).cell 2, (HT5.out.keep HTL.out HBX.out (by decide) (by decide)).cell 3, (HT5.out.keep HTL.out HBX.out (by decide) (by decide)).cell 4, (HT5.out.keep HTL.out HBX.out (by decide) (by decide)).cell 5, (HT5.out.keep HTL.out HBX.out (by decide) (by decide)).cell 6, (HT5.out.keep HTL.out HBX.out (by decide) (by decide)).cell 7⟩); clear hte ht4 hs4))
              rw [psR_step HX.out] at HT4
              go_wp2_with fail
              go_roundw
              case rel => exact ⟨j + 1, by omega, by go_num, HT4.out, HS4.out⟩
              case measure => simp [intOf]; omega
            · obtain ⟨rfl⟩ : s.rounds.length = j := by omega

              have HTL := Lib.hid (show Told wr base g (psK s 4 0) by rw [← psR_last]; exact htl)
              clear htl hts HTL0
              go_wp2_with fail
              -- the rounds' lists
              go_loopw [10] (fun zv wr => ∃ z : Int, 4 ≤ z ∧ z ≤ 8 ∧ zv = .int .u8 z ∧ Told wr base g (psK s z.toNat 0) ∧ Tells base g W1 wr) (fun zv _ => (8 - intOf zv).toNat)
              case atStart => exact ⟨4, by omega, by omega, rfl, HTL.out, HTS0.out⟩
              case round =>
                clear HTL HTS0
                obtain ⟨z, hz0, hz1, rfl, htl, hts⟩ := hrel
                have HTL := Lib.hid htl
                have HTS0 := Lib.hid hts
                clear htl hts
                obtain ⟨wz, rfl⟩ : ∃ wz : World, wz = wr := ⟨_, rfl⟩
                by_cases hz : z ≤ 7
                · have HZ := Lib.hid (show 4 ≤ z.toNat ∧ z.toNat ≤ 7 by omega)

                  have HBS := Lib.hid (HTS0.out.keep HTL1.out HBS1.out (by decide) (by decide))
                  have c4 := HBS.out.cell 4
                  simp only [List.getElem?_toArray, List.getElem?_cons_zero, List.getElem?_cons_succ] at c4
                  go_wp2_with fail
                  go_loopw [145] (fun i wr => ∃ j : Nat, j ≤ s.rounds.length ∧ i = .int .i64 j ∧ Told wr base g (psK s z.toNat j) ∧ Tells base g W1 wr) (fun i _ => s.rounds.length - (intOf i).toNat)
                  case atStart => exact ⟨0, Nat.zero_le _, rfl, HTL.out, HTS0.out⟩
                  case round =>
                    clear HTL HTS0 HBS c4
                    obtain ⟨j, hj, rfl, htl, hts⟩ := hrel
                    have HTL := Lib.hid htl
                    have HTS := Lib.hid hts
                    by_cases hlt : j < s.rounds.length
                    · obtain ⟨b, off, x, Ai, Ae, Af, Ap, ci, ce, cf, cp, hA, hbb, hx, hra, q0, q1, q2, q3, q4, q5, q6, q7⟩ := round_at (HS0.out.rounds.below hts.bel hB) hlt
                      subst hA
                      have HX := Lib.hid hx
                      have HRA := Lib.hid hra
                      have HAL := Lib.hid ((Below.refl wr.heap.size wr).alloc (Nat.le_refl _) (.cells (roundC x Ai Ae Af Ap ci ce cf cp).toArray 64))
                      have HPL := Lib.hid (show (psK s z.toNat j).length + (Rws.items z.toNat x).length ≤ 1900000 by
                        have h1 := psK_len (s := s) (j := j + 1) HZ.out (by omega)
                        rw [← psK_step hx, List.length_append] at h1
                        have h2 := HROW.out
                        omega)
                      clear hx hbb htl hts hra
                      go_wp2_with fail
                      refine (items_any base g B (psK s z.toNat j) x z _ ⟨hz0, hz⟩ hB (HTL.out.below HAL.out) HPL.out (HRA.out.below HAL.out (Nat.le_trans hB HTL.out.size))).mono ?_
                      rintro e w4 ⟨rfl, ht4, hs4⟩
                      rw [psK_step HX.out] at ht4
                      have HT4 := Lib.hid ht4
                      have HS4 := Lib.hid ((HTS.out.trans (Tells.of_below HAL.out HTL.out.size)).trans hs4)
                      clear ht4 hs4 q0 q1 q2 q3 q4 q5 q6 q7
                      go_wp2_with fail
                      go_roundw
                      case rel => exact ⟨j + 1, by omega, by go_num, HT4.out, HS4.out⟩
                      case measure => simp [intOf]; omega
                    · obtain ⟨rfl⟩ : s.rounds.length = j := by omega
                      have HT4 := Lib.hid (show Told wr base g (psK s (z + 1).toNat 0) by
                        rw [show (z + 1).toNat = z.toNat + 1 by omega, ← psK_next HZ.out]
                        exact htl)
                      clear htl hts HTL
                      go_wp2_with fail
                      go_roundw
                      case rel => exact ⟨z + 1, by omega, by omega, rfl, HT4.out, HTS.out⟩
                      case measure => simp [intOf]; omega

                · obtain rfl : z = 8 := by omega
                  have HTQ := Lib.hid (show Told wz base g (psQ s 0) by rw [← psK_last]; exact HTL.out)
                  clear HTL

                  have HBS := Lib.hid (HTS0.out.keep HTL1.out HBS1.out (by decide) (by decide))
                  have c6 := HBS.out.cell 6
                  simp only [List.getElem?_toArray, List.getElem?_cons_zero, List.getElem?_cons_succ] at c6
                  go_wp2_with fail
                  -- what is remembered
                  go_loopw [157] (fun i wr => ∃ j : Nat, j ≤ s.asked.length ∧ i = .int .i64 j ∧ Told wr base g (psQ s j) ∧ Tells base g W1 wr) (fun i _ => s.asked.length - (intOf i).toNat)
                  case atStart => exact ⟨0, Nat.zero_le _, rfl, HTQ.out, HTS0.out⟩
                  case round =>
                    clear HTQ HTS0 HBS c6
                    obtain ⟨j, hj, rfl, htl, hts⟩ := hrel
                    have HTL0 := Lib.hid htl
                    have HTS0 := Lib.hid hts
                    by_cases hlt : j < s.asked.length
                    · obtain ⟨b, off, x, Ak, Al, ck, cl, hA, hbb, hx, q0, q1, q2, q3, hu3, hu, hy1, hy2⟩ := asked_at (HS0.out.asked.below hts.bel hB) hlt
                      subst hA
                      have HX := Lib.hid hx
                      have HASKX := Lib.hid (HASK.out x (List.mem_of_getElem? hx))
                      have hbx := Blk.new wr 52 #[.int .u32 x.client, .int .u64 x.seq, .slice Ak x.ask.length ck, .slice Al x.reply.length cl]
                      have hal := (Below.refl wr.heap.size wr).alloc (Nat.le_refl _) (.cells #[.int .u32 x.client, .int .u64 x.seq, .slice Ak x.ask.length ck, .slice Al x.reply.length cl] 52)
                      have htl2 := htl.below hal
                      have hts2 := hts.alloc htl.size (.cells #[.int .u32 x.client, .int .u64 x.seq, .slice Ak x.ask.length ck, .slice Al x.reply.length cl] 52)
                      have hz1 := hy1.below hal (Nat.le_trans hB htl.size)
                      have hz2 := hy2.below hal (Nat.le_trans hB htl.size)
                      clear hx hbb htl hts hy1 hy2 hal
                      go_wp2_with fail
                      generalize wr.alloc (.cells #[.int .u32 x.client, .int .u64 x.seq, .slice Ak x.ask.length ck, .slice Al x.reply.length cl] 52) = wo at hbx htl2 hts2 hz1 hz2 ⊢
                      generalize wr.heap.size = hx at hbx ⊢
                      have HBX := Lib.hid hbx
                      have HTL := Lib.hid htl2
                      have HTS := Lib.hid hts2
                      have HZ1 := Lib.hid hz1
                      have HZ2 := Lib.hid hz2
                      have m9 := hz1.sl.nc
                      have m10 := hz1.sl.cm
                      have m11 := hz2.sl.nc
                      have m12 := hz2.sl.cm
                      clear hbx htl2 hts2 hz1 hz2 q0 q1 q2 q3
                      have SC := Lib.hid (fun w' (hh : Below wo.heap.size wo w') => (show w'.cell? ⟨hx, 0, none⟩ = some (.int .u32 x.client) ∧ w'.cell? ⟨hx, 1, none⟩ = some (.int .u64 x.seq) ∧ w'.cell? ⟨hx, 2, none⟩ = some (.slice Ak x.ask.length ck) from
                        ⟨(HBX.out.below hh HBX.out.lt).cell 0, (HBX.out.below hh HBX.out.lt).cell 1, (HBX.out.below hh HBX.out.lt).cell 2⟩))
                      have HSZ := Lib.hid HTL.out.size
                      have HB := Lib.hid (Below.refl wo.heap.size wo).drew
                      have HC := Lib.hid (Below.refl wo.heap.size wo).drew
                      go_region_held3 (fun w' => w'.cell? ⟨hx, 0, none⟩ = some (.int .u32 x.client) ∧ w'.cell? ⟨hx, 1, none⟩ = some (.int .u64 x.seq) ∧ w'.cell? ⟨hx, 2, none⟩ = some (.slice Ak x.ask.length ck))
                        (first | exact SC.out _ HB.out | exact SC.out _ (HB.out.alloc HB.out.size _))
                        (first
                          | (go_at_call 41; refine (n2_any _ _).mono ?_; rintro e w1 ⟨rfl, hb1⟩; have HB := Lib.hid (HB.out.trans (hb1.mono HB.out.size)); have HC := Lib.hid (HC.out.trans (hb1.mono HC.out.size)); unfold numV; clear hb1)
                          | (go_at_call 40; refine (u8_any _ (by assumption) _).mono ?_; rintro e w1 ⟨rfl, hb1⟩; have HB := Lib.hid (HB.out.trans (hb1.mono HB.out.size)); have HC := Lib.hid (HC.out.trans (hb1.mono HC.out.size)); unfold numV; clear hb1)
                          | (go_at_call 45; refine (n4_any _ (by assumption) _).mono ?_; rintro e w1 ⟨rfl, hb1⟩; have HB := Lib.hid (HB.out.trans (hb1.mono HB.out.size)); have HC := Lib.hid (HC.out.trans (hb1.mono HC.out.size)); unfold numV; clear hb1)
                          | (go_at_call 38; refine (rput_any base (w1.heap.size + 1) none 0 0 [] (some ⟨w1.heap.size, 0, none⟩) 3 3 [(x.client, 4), (x.seq, 8), ((x.ask.length : Int), 2)] _ (World.ownsRow_nil _ _ _ _) (Nat.le_trans HSZ.out (Nat.le_trans HB.out.size (by simp))) (NumsAt.of_blk (l := [(x.client, 4), (x.seq, 8), ((x.ask.length : Int), 2)]) (Blk.new w1 87 _) (by simp)) (by simp) (by omega) (by omega) (by simp [Oct.size])).mono ?_; rintro e w2 ⟨A4, c4, rfl, hown, hb2⟩; rw [List.nil_append] at hown ⊢; have HAL := Lib.hid (HB.out.alloc HB.out.size (.cells (numsC [(x.client, 4), (x.seq, 8), ((x.ask.length : Int), 2)]).toArray 87)); have HCL := Lib.hid (HC.out.alloc HC.out.size (.cells (numsC [(x.client, 4), (x.seq, 8), ((x.ask.length : Int), 2)]).toArray 87)); have HVO := Lib.hid hown; have HB := Lib.hid (HAL.out.trans (hb2.mono HAL.out.size)); clear hown hb2))
                      clear SC HC HCL HAL
                      go_wp2_with fail
                      obtain ⟨wp, rfl⟩ : ∃ wp : World, wp = w2 := ⟨_, rfl⟩
                      have HTP := Lib.hid (HTL.out.below HB.out)
                      have HSP := Lib.hid (HTS.out.trans (Tells.of_below HB.out HSZ.out))
                      have HBXP := Lib.hid (HBX.out.below HB.out HBX.out.lt)
                      have HQ1 := Lib.hid (HZ1.out.below HB.out (Nat.le_trans hB HSZ.out))
                      have HQ2 := Lib.hid (HZ2.out.below HB.out (Nat.le_trans hB HSZ.out))
                      have HSZP := Lib.hid (Nat.le_trans HSZ.out HB.out.size)
                      have HBR := Lib.hid (((Below.refl wp.heap.size wp).alloc (Nat.le_refl _) (.cells #[.slice A4 (Rws.nums [(x.client, 4), (x.seq, 8), ((x.ask.length : Int), 2)]).length c4, .slice Ak x.ask.length ck, .slice Al x.reply.length cl] 40)).drew)
                      have HRW0 := Lib.hid ((Blk.new wp 40 #[.slice A4 (Rws.nums [(x.client, 4), (x.seq, 8), ((x.ask.length : Int), 2)]).length c4, .slice Ak x.ask.length ck, .slice Al x.reply.length cl]).drew)
                      have SC := Lib.hid (fun w' (hh : Below wp.heap.size wp w') => (show w'.cell? ⟨hx, 2, none⟩ = some (.slice Ak x.ask.length ck) ∧ w'.cell? ⟨hx, 3, none⟩ = some (.slice Al x.reply.length cl) from
                        ⟨(HBXP.out.below hh HBXP.out.lt).cell 2, (HBXP.out.below hh HBXP.out.lt).cell 3⟩))
                      have m13 := (Sl.of_own HVO.out).nc
                      have m14 := (Sl.of_own HVO.out).cm
                      have HT1 := Lib.hid (show (Rws.nums [(x.client, 4), (x.seq, 8), ((x.ask.length : Int), 2)] ++ x.ask ++ x.reply).length ≤ 140737488355328 by
                        have := HASKX.out
                        rw [List.length_append, List.length_append]
                        have h3 := nums_le [(x.client, 4), (x.seq, 8), ((x.ask.length : Int), 2)] (by simp [Oct.size])
                        simp at h3
                        omega)
                      have HT2 := Lib.hid (show (psQ s j).length < 2000000 by have h1 := psQ_len (s := s) (j := j) (by omega); have h2 := HROW.out; omega)
                      clear HB
                      have HB := Lib.hid (Below.refl wp.heap.size wp).drew
                      go_region_held3 (fun w' => w'.cell? ⟨hx, 2, none⟩ = some (.slice Ak x.ask.length ck) ∧ w'.cell? ⟨hx, 3, none⟩ = some (.slice Al x.reply.length cl))
                        (first | exact HC4.out | exact SC.out _ HB.out | exact SC.out _ HBR.out | exact SC.out _ (HB.out.alloc HB.out.size _) | exact SC.out _ ((HB.out.alloc HB.out.size _).alloc (Nat.le_trans HB.out.size (by simp)) _))
                        (first
                          | (go_at_call 41; (with_reducible (show Calls _ _ _ (World.drew (World.alloc wp _)) _)); refine (n2_any _ (wp.alloc (.cells #[.slice A4 (Rws.nums [(x.client, 4), (x.seq, 8), ((x.ask.length : Int), 2)]).length c4, .slice Ak x.ask.length ck, .slice Al x.reply.length cl] 40)).drew).mono ?_; rintro e w1 ⟨rfl, hb1⟩; have HB := Lib.hid (HBR.out.trans (hb1.mono HBR.out.size)); have HRW := Lib.hid (HRW0.out.below hb1 HRW0.out.lt); unfold numV; clear hb1)
                          | (go_at_call 41; refine (n2_any _ _).mono ?_; rintro e w1 ⟨rfl, hb1⟩; have HB := Lib.hid (HB.out.trans (hb1.mono HB.out.size)); unfold numV; clear hb1)
                          | (go_at_call 37; (with_reducible (show Calls _ _ _ (World.alloc w1 _) _)); refine (key_any (w1.heap.size + 1) 8 (some ⟨w1.heap.size, 0, none⟩) 1 1 [((j : Int), 2)] (w1.alloc (.cells (numsC [((j : Int), 2)]).toArray 87)) (NumsAt.of_blk (l := [((j : Int), 2)]) (Blk.new w1 87 _) (by simp)) (by simp) (by omega) (by simp [Oct.size])).mono ?_; rintro e w2 ⟨A3, c3, rfl, hown, hb2⟩; have HAL := Lib.hid (HB.out.alloc HB.out.size (.cells (numsC [((j : Int), 2)]).toArray 87)); have HKY := Lib.hid (own_low (base' := base) hown (Nat.le_trans HSZP.out HAL.out.size)); have HB := Lib.hid (HAL.out.trans (hb2.mono HAL.out.size)); (first | have HRW := Lib.hid ((HRW.out.alloc (.cells (numsC [((j : Int), 2)]).toArray 87)).below hb2 (HRW.out.alloc (.cells (numsC [((j : Int), 2)]).toArray 87)).lt) | skip); clear hown hb2)
                          | (go_at_call 37; (with_reducible (show Calls _ _ #[_, Value.slice (some ⟨w1.heap.size + 1, 0, none⟩) _ _] (World.alloc (World.alloc w1 _) _) _)); refine (key_any (w1.heap.size + 1 + 1) 8 (some ⟨w1.heap.size + 1, 0, none⟩) 1 1 [((j : Int), 2)] ((w1.alloc (.cells #[.slice A4 (Rws.nums [(x.client, 4), (x.seq, 8), ((x.ask.length : Int), 2)]).length c4, .slice Ak x.ask.length ck, .slice Al x.reply.length cl] 40)).alloc (.cells (numsC [((j : Int), 2)]).toArray 87)) (by have h := Blk.new (w1.alloc (.cells #[.slice A4 (Rws.nums [(x.client, 4), (x.seq, 8), ((x.ask.length : Int), 2)]).length c4, .slice Ak x.ask.length ck, .slice Al x.reply.length cl] 40)) 87 (numsC [((j : Int), 2)]).toArray; rw [show (w1.alloc (.cells #[.slice A4 (Rws.nums [(x.client, 4), (x.seq, 8), ((x.ask.length : Int), 2)]).length c4, .slice Ak x.ask.length ck, .slice Al x.reply.length cl] 40)).heap.size = w1.heap.size + 1 by simp] at h; exact NumsAt.of_blk (l := [((j : Int), 2)]) h (by simp)) (by simp) (by omega) (by simp [Oct.size])).mono ?_; rintro e w2 ⟨A3, c3, rfl, hown, hb2⟩; have HAL := Lib.hid ((HB.out.alloc HB.out.size (.cells #[.slice A4 (Rws.nums [(x.client, 4), (x.seq, 8), ((x.ask.length : Int), 2)]).length c4, .slice Ak x.ask.length ck, .slice Al x.reply.length cl] 40)).alloc (Nat.le_trans HB.out.size (by simp)) (.cells (numsC [((j : Int), 2)]).toArray 87)); have HKY := Lib.hid (own_low (base' := base) hown (Nat.le_trans HSZP.out HAL.out.size)); have HB := Lib.hid (HAL.out.trans (hb2.mono HAL.out.size)); have HRW := Lib.hid (((Blk.new w1 40 #[.slice A4 (Rws.nums [(x.client, 4), (x.seq, 8), ((x.ask.length : Int), 2)]).length c4, .slice Ak x.ask.length ck, .slice Al x.reply.length cl]).alloc (.cells (numsC [((j : Int), 2)]).toArray 87)).below hb2 ((Blk.new w1 40 #[.slice A4 (Rws.nums [(x.client, 4), (x.seq, 8), ((x.ask.length : Int), 2)]).length c4, .slice Ak x.ask.length ck, .slice Al x.reply.length cl]).alloc (.cells (numsC [((j : Int), 2)]).toArray 87)).lt); clear hown hb2)
                          | (go_at_call 37; (with_reducible (show Calls _ _ #[_, Value.slice (some ⟨w1.heap.size, 0, none⟩) _ _] (World.alloc (World.alloc w1 _) _) _)); refine (key_any (w1.heap.size + 1) 8 (some ⟨w1.heap.size, 0, none⟩) 1 1 [((j : Int), 2)] ((w1.alloc (.cells (numsC [((j : Int), 2)]).toArray 87)).alloc (.cells #[.slice A4 (Rws.nums [(x.client, 4), (x.seq, 8), ((x.ask.length : Int), 2)]).length c4, .slice Ak x.ask.length ck, .slice Al x.reply.length cl] 40)) (by exact (NumsAt.of_blk (l := [((j : Int), 2)]) ((Blk.new w1 87 (numsC [((j : Int), 2)]).toArray).alloc (.cells #[.slice A4 (Rws.nums [(x.client, 4), (x.seq, 8), ((x.ask.length : Int), 2)]).length c4, .slice Ak x.ask.length ck, .slice Al x.reply.length cl] 40)) (by simp))) (by simp) (by omega) (by simp [Oct.size])).mono ?_; rintro e w2 ⟨A3, c3, rfl, hown, hb2⟩; have HAL := Lib.hid ((HB.out.alloc HB.out.size (.cells (numsC [((j : Int), 2)]).toArray 87)).alloc (Nat.le_trans HB.out.size (by simp)) (.cells #[.slice A4 (Rws.nums [(x.client, 4), (x.seq, 8), ((x.ask.length : Int), 2)]).length c4, .slice Ak x.ask.length ck, .slice Al x.reply.length cl] 40)); have HKY := Lib.hid (own_low (base' := base) hown (Nat.le_trans HSZP.out HAL.out.size)); have HB := Lib.hid (HAL.out.trans (hb2.mono HAL.out.size)); have HRW := Lib.hid (show Blk w2 (w1.heap.size + 1) 40 #[.slice A4 (Rws.nums [(x.client, 4), (x.seq, 8), ((x.ask.length : Int), 2)]).length c4, .slice Ak x.ask.length ck, .slice Al x.reply.length cl] by have h := (Blk.new (w1.alloc (.cells (numsC [((j : Int), 2)]).toArray 87)) 40 #[.slice A4 (Rws.nums [(x.client, 4), (x.seq, 8), ((x.ask.length : Int), 2)]).length c4, .slice Ak x.ask.length ck, .slice Al x.reply.length cl]); have h2 := h.below hb2 h.lt; rw [show (w1.alloc (.cells (numsC [((j : Int), 2)]).toArray 87)).heap.size = w1.heap.size + 1 by simp] at h2; exact h2); clear hown hb2)
                          | (go_at_call 46; (with_reducible (show Calls _ _ _ (w2) _)); refine (concat3_any _ 0 3 A4 Ak Al _ c4 _ ck _ cl w2.heap.size (Rws.nums [(x.client, 4), (x.seq, 8), ((x.ask.length : Int), 2)]) x.ask x.reply w2 (HRW.out.cell 0) (HRW.out.cell 1) (HRW.out.cell 2) HRW.out.lt (Sl.of_own (own_below HVO.out HB.out)) ((HQ1.out.below HB.out (Nat.le_trans hB HSZP.out)).sl.more (Nat.le_trans hB (Nat.le_trans HSZP.out HB.out.size))) ((HQ2.out.below HB.out (Nat.le_trans hB HSZP.out)).sl.more (Nat.le_trans hB (Nat.le_trans HSZP.out HB.out.size))) (Nat.le_refl _) (by simp [Rws.nums, Oct.be_length]) (by have := HASKX.out; omega) (by have := HASKX.out; omega)).mono ?_; rintro e w3 ⟨v3, rfl, A5, c5, rfl, hown, hb3⟩; obtain ⟨vl, hvl⟩ : ∃ vl, Rws.nums [(x.client, 4), (x.seq, 8), ((x.ask.length : Int), 2)] ++ x.ask ++ x.reply = vl := ⟨_, rfl⟩; rw [hvl] at hown ⊢; have HVL := Lib.hid hvl; have HVB := Lib.hid (show vl.length ≤ 140737488355328 by rw [← hvl]; exact HT1.out); clear hvl; have HCO := Lib.hid (own_low (base' := base) hown (Nat.le_trans HSZP.out HB.out.size)); have HKO := Lib.hid (own_below HKY.out hb3); have HB := Lib.hid (HB.out.trans (hb3.mono HB.out.size)); clear hown hb3)
                          | (go_at_call 46; (with_reducible (show Calls _ _ _ (World.alloc w2 _) _)); refine (concat3_any w2.heap.size 0 3 A4 Ak Al _ c4 _ ck _ cl (w2.heap.size + 1) (Rws.nums [(x.client, 4), (x.seq, 8), ((x.ask.length : Int), 2)]) x.ask x.reply (w2.alloc (.cells #[.slice A4 (Rws.nums [(x.client, 4), (x.seq, 8), ((x.ask.length : Int), 2)]).length c4, .slice Ak x.ask.length ck, .slice Al x.reply.length cl] 40)) ((Blk.new w2 40 #[.slice A4 (Rws.nums [(x.client, 4), (x.seq, 8), ((x.ask.length : Int), 2)]).length c4, .slice Ak x.ask.length ck, .slice Al x.reply.length cl]).cell 0) ((Blk.new w2 40 #[.slice A4 (Rws.nums [(x.client, 4), (x.seq, 8), ((x.ask.length : Int), 2)]).length c4, .slice Ak x.ask.length ck, .slice Al x.reply.length cl]).cell 1) ((Blk.new w2 40 #[.slice A4 (Rws.nums [(x.client, 4), (x.seq, 8), ((x.ask.length : Int), 2)]).length c4, .slice Ak x.ask.length ck, .slice Al x.reply.length cl]).cell 2) (by simp) (((Sl.of_own (own_below HVO.out HB.out)).alloc (Nat.le_refl _) (.cells #[.slice A4 (Rws.nums [(x.client, 4), (x.seq, 8), ((x.ask.length : Int), 2)]).length c4, .slice Ak x.ask.length ck, .slice Al x.reply.length cl] 40)).more (by omega)) ((((HQ1.out.below HB.out (Nat.le_trans hB HSZP.out)).sl.more (Nat.le_trans hB (Nat.le_trans HSZP.out HB.out.size))).alloc (Nat.le_refl _) (.cells #[.slice A4 (Rws.nums [(x.client, 4), (x.seq, 8), ((x.ask.length : Int), 2)]).length c4, .slice Ak x.ask.length ck, .slice Al x.reply.length cl] 40)).more (by omega)) ((((HQ2.out.below HB.out (Nat.le_trans hB HSZP.out)).sl.more (Nat.le_trans hB (Nat.le_trans HSZP.out HB.out.size))).alloc (Nat.le_refl _) (.cells #[.slice A4 (Rws.nums [(x.client, 4), (x.seq, 8), ((x.ask.length : Int), 2)]).length c4, .slice Ak x.ask.length ck, .slice Al x.reply.length cl] 40)).more (by omega)) (by simp) (by simp [Rws.nums, Oct.be_length]) (by have := HASKX.out; omega) (by have := HASKX.out; omega)).mono ?_; rintro e w3 ⟨v3, rfl, A5, c5, rfl, hown, hb3⟩; obtain ⟨vl, hvl⟩ : ∃ vl, Rws.nums [(x.client, 4), (x.seq, 8), ((x.ask.length : Int), 2)] ++ x.ask ++ x.reply = vl := ⟨_, rfl⟩; rw [hvl] at hown ⊢; have HVL := Lib.hid hvl; have HVB := Lib.hid (show vl.length ≤ 140737488355328 by rw [← hvl]; exact HT1.out); clear hvl; have HAL2 := Lib.hid (HB.out.alloc HB.out.size (.cells #[.slice A4 (Rws.nums [(x.client, 4), (x.seq, 8), ((x.ask.length : Int), 2)]).length c4, .slice Ak x.ask.length ck, .slice Al x.reply.length cl] 40)); have HCO := Lib.hid (own_low (base' := base) hown (Nat.le_trans HSZP.out HAL2.out.size)); have HKO := Lib.hid (own_below (HKY.out.alloc (.cells #[.slice A4 (Rws.nums [(x.client, 4), (x.seq, 8), ((x.ask.length : Int), 2)]).length c4, .slice Ak x.ask.length ck, .slice Al x.reply.length cl] 40)) hb3); have HB := Lib.hid (HAL2.out.trans (hb3.mono HAL2.out.size)); clear hown hb3)
                          | (go_at_call 22; refine (tell_any base g (psQ s j) _ _ (Rws.key 8 [((j : Int), 2)], vl) _ (HTP.out.below HB.out) (OwnB.of HKO.out (key_len _ _ (by simp [Oct.size]) (by simp))) (OwnB.of HCO.out HVB.out) HT2.out).mono ?_; rintro e w4 hte; obtain ⟨rfl, ht4, hs4⟩ := hte.tells HTP.out.low (Nat.le_trans HSZP.out HB.out.size); have HT4 := Lib.hid ht4; have HT5 := Lib.hid ((Tells.of_below (g := g) HB.out HSZP.out).trans hs4); have HS4 := Lib.hid (HSP.out.trans HT5.out); have HC4 := Lib.hid (show w4.cell? ⟨hx, 2, none⟩ = some (.slice Ak x.ask.length ck) ∧ w4.cell? ⟨hx, 3, none⟩ = some (.slice Al x.reply.length cl) from ⟨(HT5.out.keep HTP.out HBXP.out (by decide) (by decide)).cell 2, (HT5.out.keep HTP.out HBXP.out (by decide) (by decide)).cell 3⟩); clear hte ht4 hs4))
                      all_goals
                        rw [show ((Rws.key 8 [((j : Int), 2)], vl) : Rws.Pair) = Rws.askedRow j x by rw [← HVL.out]; rfl, psQ_step HX.out] at HT4
                        go_wp2_with fail
                        go_roundw
                        case rel => exact ⟨j + 1, by omega, by go_num, HT4.out, HS4.out⟩
                        case measure => simp [intOf]; omega
                    · obtain ⟨rfl⟩ : s.asked.length = j := by omega
                      have HT4 := Lib.hid (show Told wr base g (Rws.rowsOf s) by rw [← psQ_last]; exact htl)
                      clear htl hts
                      go_wp2_with fail
                      exact bodyPost_end (v := .tuple #[]) (by simp [results, Try.results21, go_sem]) rfl ⟨rfl, HT4.out, HT0.out.trans HTS0.out⟩

end Go.Proofs.Ytniekddoaokmkaa

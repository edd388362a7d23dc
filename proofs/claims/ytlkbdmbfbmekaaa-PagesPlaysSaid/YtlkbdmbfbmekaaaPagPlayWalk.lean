/-
  PagesPlays, walked.
-/
import Derived.Test.YtlkbdmbfbmekaaaPagRef
import Derived.Deep.DeepCutAuto
import Derived.Deep.CutBlock
namespace Go.Proofs.Ytlkbdmbfbmekaaa
open Go.RowKit Go.Gab
set_option linter.unusedVariables false
attribute [local go_sem ↓] Go.wp_at_zero Go.wp_at_succ

/-- The pages and the reference's, side by side. -/
structure PlayIn (W w : World) (hp hr hq ht hn : Nat) (sp sr : List UInt8) : Prop where
  pag : PagIn W w hp hr sp
  ref : RefAt w hq ht hn sr
  hq_le : W.heap.size ≤ hq
  ht_le : W.heap.size ≤ ht
  hn_le : W.heap.size ≤ hn

section
variable {W w w' : World} {hp hr hq ht hn : Nat} {sp sr sp' sr' : List UInt8}
theorem PlayIn.pturn (h : PlayIn W w hp hr hq ht hn sp sr) (t : PagTurn w hp hr sp' w') : PlayIn W w' hp hr hq ht hn sp' sr := by
  have n1 := h.ref.obj.ne_ h.pag.at_.row (by decide)
  have n2 := h.ref.th.ne_ h.pag.at_.row (by decide)
  have n3 := h.ref.nw.ne_ h.pag.at_.row (by decide)
  exact ⟨h.pag.turn t, ⟨h.ref.obj.grown t.2 (by simpa using n1), h.ref.th.grown t.2 (by simpa using n2), h.ref.nw.grown t.2 (by simpa using n3), h.ref.ne, h.ref.small, h.ref.le3⟩, h.hq_le, h.ht_le, h.hn_le⟩
theorem PlayIn.rturn (h : PlayIn W w hp hr hq ht hn sp sr) (t : RefTurn w hq ht hn sr' w') : PlayIn W w' hp hr hq ht hn sp sr' := by
  obtain ⟨hat, w1, g1, g2⟩ := t
  have n1 := h.pag.at_.obj.ne_ h.ref.th (by decide)
  have n2 := h.pag.at_.obj.ne_ h.ref.nw (by decide)
  have n3 := h.pag.at_.row.ne_ h.ref.th (by decide)
  have n4 := h.pag.at_.row.ne_ h.ref.nw (by decide)
  have b1 := h.pag.bel.grown g1 h.pag.bel.size (fun q hq => by injection hq with hq; subst hq; exact h.ht_le)
  have b2 := b1.grown g2 b1.size (fun q hq => by injection hq with hq; subst hq; exact h.hn_le)
  exact ⟨⟨⟨(h.pag.at_.obj.grown g1 (by simpa using n1)).grown g2 (by simpa using n2), (h.pag.at_.row.grown g1 (by simpa using n3)).grown g2 (by simpa using n4), h.pag.at_.small⟩, b2, h.pag.hp_le, h.pag.hr_le⟩, hat, h.hq_le, h.ht_le, h.hn_le⟩
theorem PlayIn.drewN (h : PlayIn W w hp hr hq ht hn sp sr) (m : Nat) : PlayIn W (w.drewN m) hp hr hq ht hn sp sr := ⟨h.pag.drewN m, h.ref.drewN m, h.hq_le, h.ht_le, h.hn_le⟩
theorem PlayIn.drew (h : PlayIn W w hp hr hq ht hn sp sr) : PlayIn W w.drew hp hr hq ht hn sp sr := h.drewN 1
end

theorem pagTake_len (st : List UInt8) : (pagTake st).1.length = st.length := by
  unfold pagTake
  split <;> simp
theorem pagUse_len (st : List UInt8) (k : Int) : (pagUse st k).1.length = st.length := by
  unfold pagUse
  split
  · split <;> simp
  · rfl
theorem pagDrop_len (st : List UInt8) (k : Int) : (pagDrop st k).1.length = st.length := by
  unfold pagDrop
  split
  · split
    · simp
    · split <;> simp
  · rfl

set_option maxHeartbeats 2000000 in
set_option maxRecDepth 10000 in
theorem pagesPlays_walk {m : Int} {a2 : Option Addr} {n2 c2 : Nat} {ls : List (Int × Int × Unit)} (W : World) (hm : (Lit.int .i64 m).wf = true) (hr : SlR stepRep W W.heap.size a2 n2 c2 ls) :
    Calls Try.prog 5 #[.int .i64 m, .slice a2 n2 c2] W fun e w' => e = .returned (.bool true) ∧ Below W.heap.size W w' := by
  clear hm
  have hnc2 := hr.nc
  have hcm2 := hr.cm
  by_cases h1 : (300 : Int) < n2
  · go_enter Try.func5, Try.ntmps5
    go_wp2_with fail
    refine (works06_any _).mono ?_
    rintro e w ⟨rfl, hb⟩
    go_wp2_with fail
    go_ret
    exact ⟨rfl, hb⟩
  by_cases h2 : m < 1 ∨ 4096 < m
  · have h3 : m ≤ 60 ∨ ¬ m ≤ 4096 := by omega
    rcases h3 with h3 | h3
    all_goals
      go_enter Try.func5, Try.ntmps5
      have H2 := Lib.hid h2
      clear h2
      go_wp2_with fail
      refine (pagNew_no m _ H2.out).mono ?_
      rintro e w1 ⟨rfl, rfl⟩
      go_wp2_with fail
      refine (refNew06_no m _ H2.out).mono ?_
      rintro e w1 ⟨rfl, rfl⟩
      go_wp2_with fail
      refine (works06_any _).mono ?_
      rintro e w ⟨rfl, hb⟩
      go_wp2_with fail
      go_ret
      exact ⟨rfl, hb⟩
  obtain ⟨n, rfl⟩ := Int.eq_ofNat_of_zero_le (show 0 ≤ m by omega)
  have hn1 : 1 ≤ n := by omega
  have hn2 : n ≤ 4096 := by omega
  clear h2
  by_cases h3 : (60 : Int) < n
  · go_enter Try.func5, Try.ntmps5
    go_wp2_with fail
    refine (works06_any _).mono ?_
    rintro e w ⟨rfl, hb⟩
    go_wp2_with fail
    go_ret
    exact ⟨rfl, hb⟩
  go_enter Try.func5, Try.ntmps5
  go_wp2_with fail
  refine (pagNew_yes n _ hn1 hn2).mono ?_
  rintro e w1 ⟨rfl, hat, hb⟩
  have hp0 := PagIn.new (Below.refl _ _) hat hb
  clear hat hb
  generalize W.heap.size + 1 = hp at hp0 ⊢
  obtain ⟨hr', hhr⟩ : ∃ hr, hr = W.heap.size := ⟨_, rfl⟩
  rw [← hhr] at hp0
  clear hhr
  unfold ptr
  go_wp2_with fail
  refine (refNew06_yes n _ hn1 hn2).mono ?_
  rintro e w2 ⟨hq, ht, hn, rfl, hl1, hl2, hl3, hat, hb⟩
  have hPI : PlayIn W w2 hp hr' hq ht hn (List.replicate n 0) (List.replicate n 0) := by
    have hz := hp0.bel.size
    exact ⟨⟨⟨hp0.at_.obj.below hb hp0.at_.obj.lt, hp0.at_.row.below hb hp0.at_.row.lt, hp0.at_.small⟩, hp0.bel.trans (hb.mono hz), hp0.hp_le, hp0.hr_le⟩, hat, by omega, by omega, by omega⟩
  have hst0 : (List.replicate n (0 : UInt8)).length = n := List.length_replicate
  generalize List.replicate n (0 : UInt8) = st0 at hPI hst0
  clear hl1 hl2 hl3 hat hb hp0
  unfold ptr
  have HL0 := Lib.hid hst0
  clear hst0
  go_wp2_with fail
  go_loopw [9] (fun i wr => ∃ (j : Nat) (st : List UInt8), j ≤ n2 ∧ i = .int .i64 j ∧ PlayIn W wr hp hr' hq ht hn st st ∧ st.length = n) (fun i _ => n2 - (intOf i).toNat)
  case atStart => exact ⟨0, st0, Nat.zero_le _, rfl, hPI, HL0.out⟩
  case round =>
    clear hPI HL0
    obtain ⟨i, st, hi, rfl, hPI, hlen⟩ := hrel
    have HLN := Lib.hid hlen
    have HP := Lib.hid hPI
    by_cases hlt : i < n2
    · obtain ⟨b, off, d, k, rfl, hb, hls, hc0, hc1, hk1, hk2⟩ := steps_at (hr.below hPI.pag.bel (Nat.le_refl _)) hlt
      clear hlen hls hPI
      have hi0 : (0 : Int) ≤ (i : Int) := by omega
      have hi1 : (i : Int) < (n2 : Int) := by omega
      have HCW := Lib.hid ((HP.out.pag.bel.cell (p := ⟨b, off + i * 2 + 1, none⟩) hb).symm.trans hc1)
      go_upto_block 2 with (fail)
      go_cut [] (fun wx => ∃ st, PlayIn W wx hp hr' hq ht hn st st ∧ st.length = n)
      case first =>
        by_cases hd1 : d = 1
        · subst hd1
          go_wp2_with fail
          refine (pagTake_any hp hr' st _ HP.out.pag.at_).mono ?_
          rintro e w4 ⟨rfl, t⟩
          have HP2 := Lib.hid (HP.out.pturn t)
          clear t
          unfold pairI
          go_wp2_with fail
          refine (refTake06_any hq ht hn st _ HP2.out.ref).mono ?_
          rintro e w5 ⟨rfl, t⟩
          have HP3 := Lib.hid (HP2.out.rturn t)
          have HLT := Lib.hid (show (pagTake st).1.length = n by rw [pagTake_len]; exact HLN.out)
          clear t
          generalize (pagTake st).1 = st2 at HP3 HLT
          generalize (pagTake st).2.1 = r1
          generalize (pagTake st).2.2 = r2
          unfold pairI
          go_wp2_with fail
          go_meet
          case rel => exact ⟨st2, HP3.out, HLT.out⟩
        by_cases hd2 : d = 2
        · subst hd2
          have HLT := Lib.hid (show (pagUse st k).1.length = n by rw [pagUse_len]; exact HLN.out)
          go_wp2_with fail
          go_region_held3 (fun w' => w'.cell? ⟨b, off + i * 2 + 1, none⟩ = some (.int .i64 k)) (first | exact hc4 | exact hc1) (first | (go_at_call 17; refine (pagUse_any hp hr' st k _ HP3.out.pag.at_).mono ?_; rintro e w4 ⟨rfl, t⟩; have HP4 := Lib.hid (HP3.out.pturn t); have hc4 := (HP4.out.pag.bel.cell (p := ⟨b, off + i * 2 + 1, none⟩) hb).trans HCW.out; clear t) | (go_at_call 22; refine (refUse06_any hq ht hn st k _ HP2.out.ref).mono ?_; rintro e w4 ⟨rfl, t⟩; have HP4 := Lib.hid (HP2.out.rturn t); have hc4 := (HP4.out.pag.bel.cell (p := ⟨b, off + i * 2 + 1, none⟩) hb).trans HCW.out; clear t) | (go_at_call 17; refine (pagUse_any hp hr' st k _ HP.out.drew.pag.at_).mono ?_; rintro e w4 ⟨rfl, t⟩; have HP2 := Lib.hid (HP.out.drew.pturn t); have hc4 := (HP2.out.pag.bel.cell (p := ⟨b, off + i * 2 + 1, none⟩) hb).trans HCW.out; clear t) | (go_at_call 22; refine (refUse06_any hq ht hn st k _ HP.out.drew.ref).mono ?_; rintro e w4 ⟨rfl, t⟩; have HP3 := Lib.hid (HP.out.drew.rturn t); have hc4 := (HP3.out.pag.bel.cell (p := ⟨b, off + i * 2 + 1, none⟩) hb).trans HCW.out; clear t))
          all_goals
            clear hc4
            go_wp2_with fail
            go_meet
            case rel => exact ⟨_, HP4.out, HLT.out⟩
        by_cases hd3 : d = 3
        · subst hd3
          have HLT := Lib.hid (show (pagDrop st k).1.length = n by rw [pagDrop_len]; exact HLN.out)
          go_wp2_with fail
          go_region_held3 (fun w' => w'.cell? ⟨b, off + i * 2 + 1, none⟩ = some (.int .i64 k)) (first | exact hc4 | exact hc1) (first | (go_at_call 15; refine (pagDrop_any hp hr' st k _ HP3.out.pag.at_).mono ?_; rintro e w4 ⟨rfl, t⟩; have HP4 := Lib.hid (HP3.out.pturn t); have hc4 := (HP4.out.pag.bel.cell (p := ⟨b, off + i * 2 + 1, none⟩) hb).trans HCW.out; clear t) | (go_at_call 23; refine (refDrop06_any hq ht hn st k _ HP2.out.ref).mono ?_; rintro e w4 ⟨rfl, t⟩; have HP4 := Lib.hid (HP2.out.rturn t); have hc4 := (HP4.out.pag.bel.cell (p := ⟨b, off + i * 2 + 1, none⟩) hb).trans HCW.out; clear t) | (go_at_call 15; refine (pagDrop_any hp hr' st k _ HP.out.drew.pag.at_).mono ?_; rintro e w4 ⟨rfl, t⟩; have HP2 := Lib.hid (HP.out.drew.pturn t); have hc4 := (HP2.out.pag.bel.cell (p := ⟨b, off + i * 2 + 1, none⟩) hb).trans HCW.out; clear t) | (go_at_call 23; refine (refDrop06_any hq ht hn st k _ HP.out.drew.ref).mono ?_; rintro e w4 ⟨rfl, t⟩; have HP3 := Lib.hid (HP.out.drew.rturn t); have hc4 := (HP3.out.pag.bel.cell (p := ⟨b, off + i * 2 + 1, none⟩) hb).trans HCW.out; clear t))
          all_goals
            clear hc4
            go_wp2_with fail
            go_meet
            case rel => exact ⟨_, HP4.out, HLT.out⟩
        by_cases hd4 : d = 4
        · subst hd4
          go_wp2_with fail
          refine (refSettle06_any hq ht hn st _ HP.out.ref).mono ?_
          rintro e w4 ⟨rfl, t⟩
          have HP2 := Lib.hid (HP.out.rturn t)
          clear t
          go_wp2_with fail
          refine (pagSettle_any hp hr' st _ HP2.out.pag.at_).mono ?_
          rintro e w5 ⟨rfl, t⟩
          have HP3 := Lib.hid (HP2.out.pturn t)
          clear t
          go_wp2_with fail
          go_meet
          case rel => exact ⟨_, HP3.out, by rw [List.length_map]; exact HLN.out⟩
        by_cases hd5 : d = 5
        · subst hd5
          go_wp2_with fail
          refine (refBack06_any hq ht hn st _ HP.out.ref).mono ?_
          rintro e w4 ⟨rfl, t⟩
          have HP2 := Lib.hid (HP.out.rturn t)
          clear t
          go_wp2_with fail
          refine (pagBack_any hp hr' st _ HP2.out.pag.at_).mono ?_
          rintro e w5 ⟨rfl, t⟩
          have HP3 := Lib.hid (HP2.out.pturn t)
          clear t
          go_wp2_with fail
          go_meet
          case rel => exact ⟨_, HP3.out, by rw [List.length_map]; exact HLN.out⟩
        · go_wp2_with fail
          go_meet
          case rel => exact ⟨_, HP.out, HLN.out⟩
      case rest =>
        clear HP HLN hc0 hc1
        obtain ⟨wo, rfl⟩ : ∃ wo : World, wo = wc := ⟨_, rfl⟩
        obtain ⟨st, hPI, hlen⟩ := hcut
        have hc1 := (hPI.pag.bel.cell (p := ⟨b, off + i * 2 + 1, none⟩) hb).trans HCW.out
        have C1 := Lib.hid (fun m => (pagSize_any hp hr' st (wo.drewN m) (hPI.pag.at_.drewN m)).mono (fun e w' h => (show e = .returned (.int .i64 (n : Int)) ∧ w' = wo.drewN m by rw [hlen] at h; exact ⟨h.1, h.2.symm⟩)))
        have C2 := Lib.hid (fun m => (pagFree_any hp hr' st (wo.drewN m) (hPI.pag.at_.drewN m)).mono (fun e w' h => And.intro h.1 h.2.symm))
        have C3 := Lib.hid (fun m => (refFree06_any hq ht hn st (wo.drewN m) (hPI.ref.drewN m)).mono (fun e w' h => And.intro h.1 h.2.symm))
        have C4 := Lib.hid (fun m => (pagState_any hp hr' st k (wo.drewN m) (hPI.pag.at_.drewN m)).mono (fun e w' h => And.intro h.1 h.2.symm))
        have C5 := Lib.hid (fun m => (refState06_any hq ht hn st k (wo.drewN m) (hPI.ref.drewN m)).mono (fun e w' h => And.intro h.1 h.2.symm))
        generalize pagFree st = q1 at C2 C3
        generalize pagState st k = q2 at C4 C5
        have HP := Lib.hid hPI
        have HLN := Lib.hid hlen
        clear hPI hlen
        unfold ptr at C1 C2 C3 C4 C5
        go_wp2_with fail
        go_quiet ((first | (go_at_call 26; exact Calls.quiet_of_same (C1.out _)) | (go_at_call 13; exact Calls.quiet_of_same (C2.out _)) | (go_at_call 27; exact Calls.quiet_of_same (C3.out _)) | (go_at_call 18; exact Calls.quiet_of_same (C4.out _)) | (go_at_call 28; exact Calls.quiet_of_same (C5.out _))))
        go_wp2_with fail
        go_roundw
        case rel => exact ⟨i + 1, st, by omega, by go_num, HP.out.drewN _, HLN.out⟩
        case measure => simp [intOf]; omega
    · obtain rfl : i = n2 := by omega
      clear hPI hlen
      go_wp2_with fail
      go_loopw [14] (fun x wr' => ∃ j : Nat, j ≤ n + 2 ∧ x = .int .i64 ((j : Int) - 1) ∧ wr' = wr) (fun x _ => n + 2 - (intOf x + 1).toNat)
      case atStart => exact ⟨0, by omega, rfl, rfl⟩
      case round =>
        obtain ⟨j, hj, rfl, rfl⟩ := hrel
        by_cases hlt2 : j < n + 2
        · obtain ⟨k, hk⟩ : ∃ k : Int, (j : Int) - 1 = k := ⟨_, rfl⟩
          have HK := Lib.hid hk
          have hk1 : -1 ≤ k := by omega
          have hk2 : k ≤ n := by omega
          rw [hk]
          clear hk
          go_wp2_with fail
          refine (pagState_any hp hr' st k _ HP.out.pag.at_).mono ?_
          rintro e w3 ⟨rfl, rfl⟩
          go_wp2_with fail
          refine (refState06_any hq ht hn st k _ HP.out.ref).mono ?_
          rintro e w3 ⟨rfl, rfl⟩
          go_wp2_with fail
          go_roundw
          case rel => exact ⟨j + 1, by omega, int_eq (by have := HK.out; omega), by trivial⟩
          case measure => have := HK.out; simp [intOf]; omega
        · obtain rfl : j = n + 2 := by omega
          go_wp2_with fail
          refine (works06_any _).mono ?_
          rintro e w ⟨rfl, hb⟩
          go_wp2_with fail
          go_ret
          exact ⟨rfl, HP.out.pag.bel.trans (hb.mono HP.out.pag.bel.size)⟩

end Go.Proofs.Ytlkbdmbfbmekaaa

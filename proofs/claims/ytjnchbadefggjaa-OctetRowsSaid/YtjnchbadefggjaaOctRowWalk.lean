/-
  OctetRows, walked.
-/
import Derived.Test.YtjnchbadefggjaaOctRowPlain
import Derived.Test.YtjnchbadefggjaaRep
namespace Go.Proofs.Ytjnchbadefggjaa
open Go.RowKit Go.Gab
set_option linter.unusedVariables false

theorem infoInt : (Try.prog.info? 3).map (fun i => (i.zero, i.size, i.bytes)) = some (some (.int .i64 0), 1, 8) := by kernel_rfl

/-- Where each of the first k byte strings ends. -/
def endsV (ls : List (List UInt8)) (k : Nat) : List Value := (List.range k).map fun j => .int .i64 ((enc (ls.take (j + 1))).length : Int)

theorem endsV_succ (ls : List (List UInt8)) (k : Nat) : endsV ls (k + 1) = endsV ls k ++ [.int .i64 ((enc (ls.take (k + 1))).length : Int)] := by
  unfold endsV
  rw [List.range_succ, List.map_append]
  rfl

theorem endsV_get (ls : List (List UInt8)) {k j : Nat} (h : j < k) : (endsV ls k)[j]? = some (.int .i64 ((enc (ls.take (j + 1))).length : Int)) := by
  unfold endsV
  rw [List.getElem?_map, List.getElem?_range h]
  rfl

theorem u16_of_wf {z : Int} (h : (Lit.int .u16 z).wf = true) : ∃ x : Nat, z = (x : Int) ∧ x < 65536 := by
  have h2 : 0 ≤ z ∧ z ≤ 65535 := by
    simp [Lit.wf, IntKind.min, IntKind.max, IntKind.signed, IntKind.bits] at h
    simpa using h
  exact ⟨z.toNat, by omega, by omega⟩

theorem enc_take_succ {ls : List (List UInt8)} {k : Nat} {s : List UInt8} (h : ls[k]? = some s) : enc (ls.take (k + 1)) = enc (ls.take k) ++ Oct.be s.length 2 ++ s := by
  rw [take_succ_of h, enc_snoc]

set_option maxHeartbeats 4000000 in
set_option maxRecDepth 10000 in
theorem octetRows_walk {a : Option Addr} {n c : Nat} {ls : List (List UInt8)} {y z : Int} (W : World) (hr : SlR Rep.bytes W W.heap.size a n c ls) (hy : (Lit.int .u64 y).wf = true) (hz : (Lit.int .u16 z).wf = true) :
    Calls Try.prog 13 #[.slice a n c, .int .u64 y, .int .u16 z] W fun e w' => e = .returned (.bool true) ∧ Below W.heap.size W w' := by
  obtain ⟨x, rfl, hx⟩ := u64_of_wf hy
  obtain ⟨cut, rfl, hcut⟩ := u16_of_wf hz
  clear hy hz
  have hnc := hr.nc
  have hcm := hr.cm
  by_cases hv : (40 : Int) < n
  · go_enter Try.func13, Try.ntmps13
    go_wp2_with (go_at_call 24; refine (works01_any _).mono ?_; rintro e w' ⟨rfl, hb⟩)
    go_ret
    exact ⟨rfl, hb⟩
  · obtain ⟨i0, hi0, hz0, hz1, hz2⟩ := info_parts info8
    obtain ⟨j0, hj0, hy0, hy1, hy2⟩ := info_parts infoInt
    go_enter Try.func13, Try.ntmps13
    go_wp2_with fail
    go_loopw [7, 8, 9] (fun v e i wr => ∃ (k m d d2 : Nat) (A1 A2 : Option Addr), k ≤ n ∧ i = .int .i64 k ∧ v = .slice A1 m d ∧ e = .slice A2 k d2 ∧ wr.ownsRow W.heap.size 5 1 (.slice A1 m d) m ((enc (ls.take k)).map byteV) ∧ wr.ownsRow W.heap.size 3 1 (.slice A2 k d2) k (endsV ls k) ∧ (∀ s ∈ ls.take k, s.length ≤ 300) ∧ m ≤ 302 * k ∧ Below W.heap.size W wr) (fun _ _ i _ => n - (intOf i).toNat)
    case atStart => exact ⟨0, 0, 0, 0, none, none, Nat.zero_le _, rfl, rfl, rfl, World.ownsRow_nil _ _ _ _, World.ownsRow_nil _ _ _ _, by simp, by omega, Below.refl _ _⟩
    case round =>
      obtain ⟨k, m, d, d2, A1, A2, hk, rfl, rfl, rfl, hown, howe, hall, hm, hbel⟩ := hrel
      have HALL := Lib.hid hall
      clear hall
      by_cases hlt : k < n
      · obtain ⟨b, off, bs, cs, rfl, hb, hls, ⟨A3, n1, c1, rfl, hs, hc1⟩, _, hcl⟩ := (hr.below hbel (Nat.le_refl _)).row k hlt
        have hcell := hcl 0 _ rfl
        simp only [Rep.bytes, Nat.mul_one, Nat.add_zero] at hcell
        clear hcl
        have Hls := Lib.hid hls
        have hnc1 := hs.nc
        have hcm1 := hs.cm
        have HN1 := Lib.hid hs.lenB
        clear hls
        by_cases hbig : n1 ≤ 300
        · have HP := Lib.hid (show Oct.putBytes (enc (ls.take k)) bs = (enc (ls.take (k + 1)), 0) by
            unfold Oct.putBytes; rw [if_neg (by have := HN1.out; omega), enc_take_succ Hls.out])
          have HL := Lib.hid (show (enc (ls.take (k + 1))).length = m + 2 + n1 by
            rw [enc_take_succ Hls.out, List.length_append, List.length_append, Oct.be_length, (Sl.of_own hown).lenB, HN1.out])
          go_wp2_with fail
          refine (putBytes_any wr.heap.size A1 A3 m d n1 c1 _ bs _ (Sl.of_own hown) (hs.more hbel.size) (Nat.le_refl _) (by omega)).mono ?_
          rintro e w2 ⟨v2, rfl, hf⟩
          rw [HP.out] at hf ⊢
          obtain ⟨A4, d4, rfl, hown4, hb4⟩ := hf
          rw [HL.out] at hown4 ⊢
          unfold pairV
          have hne := rows_ne howe hown4 (Nat.le_refl _)
          have howe4 := ownsRow_below howe hb4
          have hbel4 := hbel.trans (hb4.mono hbel.size)
          have hcell4 := (hb4.cell (p := ⟨b, off + k, none⟩) (Nat.lt_of_lt_of_le hb hbel.size)).trans hcell
          have hown4' := hown4.mono hbel.size
          clear hown howe hcell hb4
          go_wp2_with (at_builtin
                       refine wpList_append_any _ rfl _ _ _ rfl W.heap.size 3 j0 _ 1 8 Try.underlying52 hj0 hy0 hy1 hy2 rfl (by omega) _ _ _ rfl (howe4.alloc _) (w2.heap.size + 1) (some ⟨w2.heap.size, 0, none⟩) 1 1 [.int .i64 ((m : Int) + 2 + (n1 : Int))] rfl (by exact (Sl.lit (k := 1) (cap := 1) _ _ _ _ _ _ rfl rfl rfl (by omega) (by omega)).rd) (by simp [Value.oneCell']) (by simp only [maxLen]; omega) (by omega) (by have := hbel4.size; simp; omega) ?_
                       intro v5 w5 hown5 hg5 hat5)
          have hb5 : Below W.heap.size W w5 := (hbel4.alloc hbel4.size _).grown hg5 (by have := hbel4.size; simp; omega) (fun q hq => (howe4.lt q hq).1)
          have hownb := (hown4'.alloc (.cells #[.int .i64 ((m : Int) + 2 + (n1 : Int))] 3)).kept hg5 hne.2
          obtain ⟨A5, d5, rfl⟩ := own_slice hown5
          have e5 : endsV ls k ++ [.int .i64 ((m : Int) + 2 + (n1 : Int))] = endsV ls (k + 1) := by
            rw [endsV_succ, HL.out]
            rfl
          rw [e5] at hown5
          clear howe4 hown4 hown4' hg5 hat5 hne e5 hbel
          go_roundw
          case rel =>
            refine ⟨k + 1, m + 2 + n1, d4, d5, A4, A5, by omega, by go_num, rfl, rfl, hownb, hown5, ?_, by omega, hb5⟩
            intro s hs
            rw [take_succ_of Hls.out, List.mem_append] at hs
            rcases hs with hs | hs
            · exact HALL.out s hs
            · obtain rfl : s = bs := by simpa using hs
              have := HN1.out
              omega
          case measure => simp [intOf]; omega
        · go_wp2_with (go_at_call 24; refine (works01_any _).mono ?_; rintro e w' ⟨rfl, hb⟩)
          go_ret
          exact ⟨rfl, hbel.trans (hb.mono hbel.size)⟩
      · obtain rfl : k = n := by omega
        have hln : ls.length = k := hr.len
        have HLN := Lib.hid hln
        have hfull : ls.take k = ls := List.take_of_length_le (by omega)
        have HF := Lib.hid hfull
        have hlm : (enc (ls.take k)).length = m := (Sl.of_own hown).lenB
        have HLM := Lib.hid hlm
        clear hln hfull hlm
        obtain ⟨M, hM⟩ : ∃ M : Nat, M = m + 8 := ⟨_, rfl⟩
        have HP := Lib.hid (show Oct.put (enc (ls.take k)) x 8 = enc (ls.take k) ++ Oct.be x 8 from rfl)
        have HPL := Lib.hid (show (Oct.put (enc (ls.take k)) x 8).length = M by rw [HP.out, List.length_append, Oct.be_length, HLM.out, hM])
        have HM := Lib.hid hM
        have hM2 : M ≤ 12088 := by omega
        clear hM
        obtain ⟨kc, hkc⟩ := Int.eq_ofNat_of_zero_le (show 0 ≤ (cut : Int) % ((M : Int) + 1) from Int.emod_nonneg _ (by omega))
        have hkM : kc ≤ M := by have := Int.emod_lt_of_pos (cut : Int) (show (0 : Int) < (M : Int) + 1 by omega); omega
        go_wp2_with fail
        refine (put_any wr.heap.size A1 m d _ x _ 8 rfl hx _ (Sl.of_own hown) (Nat.le_refl _) (by omega)).mono ?_
        rintro e w1 ⟨v1, rfl, A3, d3, rfl, hown3, hb3⟩
        rw [HPL.out] at hown3 ⊢
        have hs3 := (Sl.of_own hown3).take_ (k := kc) hkM
        rw [Nat.mul_one, ← List.map_take] at hs3
        have hMd := (Sl.of_own hown3).nc
        have hdm := (Sl.of_own hown3).cm
        have hbel3 := hbel.trans (hb3.mono hbel.size)
        have howe3 := ownsRow_below howe hb3
        obtain ⟨g, cap, hA, hgW, hgl⟩ := hown3.form (by have := HM.out; omega)
        injection hA with hA1 hA2 hA3
        subst hA1 hA3
        clear hown howe hown3 hb3 hbel
        have HPB := Lib.hid (show Oct.put (enc (ls.take k)) x 8 = enc (ls.take k) ++ Oct.be x 8 from rfl)
        rw [HP.out] at hs3
        go_wp2_with fail
        rw [hkc]
        go_loopw [13, 14] (fun p i wr => ∃ j : Nat, j ≤ k ∧ i = .int .i64 j ∧ p = .int .i64 ((enc (ls.take j)).length : Int) ∧ (enc (ls.take j)).length ≤ kc ∧ Below w1.heap.size w1 wr) (fun _ i _ => k - (intOf i).toNat)
        case atStart => exact ⟨0, Nat.zero_le _, rfl, rfl, Nat.zero_le _, Below.refl _ _⟩
        case round =>
          obtain ⟨w4, rfl⟩ : ∃ w4 : World, w4 = wr := ⟨_, rfl⟩
          obtain ⟨j, hj, rfl, rfl, hjk, hb4⟩ := hrel
          have hbel4 := hbel3.trans (hb4.mono hbel3.size)
          have hs4 := hs3.below hb4
          have howe4 := ownsRow_below howe3 hb4
          generalize hp : (enc (ls.take j)).length = p at hjk ⊢
          have HPJ := Lib.hid hp
          clear hp
          by_cases hlt : j < k
          · obtain ⟨b, off, bs, cs, rfl, hb, hls, ⟨A5, n1, c1, rfl, hs, hc1⟩, _, hcl⟩ := (hr.below hbel4 (Nat.le_refl _)).row j hlt
            have hcell := hcl 0 _ rfl
            simp only [Rep.bytes, Nat.mul_one, Nat.add_zero] at hcell
            clear hcl
            have Hls := Lib.hid hls
            have hnc1 := hs.nc
            have hcm1 := hs.cm
            have HN1 := Lib.hid hs.lenB
            have hn300 : n1 ≤ 300 := by
              have h := HALL.out bs (by rw [HF.out]; exact List.mem_of_getElem? hls)
              have := HN1.out
              omega
            obtain ⟨ge, cape, hAe, hgeW, hgel⟩ := howe4.form (by omega)
            injection hAe with hA1 hA2 hA3
            subst hA1 hA3
            have hcelle : w4.cell? ⟨ge, j, none⟩ = some (.int .i64 ((enc (ls.take (j + 1))).length : Int)) := by
              rw [howe4.cellAt j (by omega)]
              exact endsV_get ls hlt
            have hsplit : enc (ls.take k) ++ Oct.be x 8 = enc (ls.take j) ++ Oct.be bs.length 2 ++ bs ++ (enc ((ls.take k).drop (j + 1)) ++ Oct.be x 8) := by
              have h1 : ls.take k = ls.take (j + 1) ++ (ls.take k).drop (j + 1) := by
                have := List.take_append_drop (j + 1) (ls.take k)
                rw [List.take_take, Nat.min_eq_left (by omega)] at this
                exact this.symm
              conv => lhs; rw [h1, enc_append, enc_take_succ hls]
              simp only [List.append_assoc]
            have HSP := Lib.hid hsplit
            have hq : (enc (ls.take (j + 1))).length = p + 2 + n1 := by
              rw [enc_take_succ hls, List.length_append, List.length_append, Oct.be_length, HPJ.out, HN1.out]
            rw [hq] at hcelle
            clear hls hsplit hq
            by_cases hend : p + 2 + n1 ≤ kc
            · have HT := Lib.hid (show Oct.takeBytes ((enc (ls.take k) ++ Oct.be x 8).take kc) (p : Int) = (bs, (p : Int) + 2 + (n1 : Int), 0) by
                have hlen : (enc (ls.take k) ++ Oct.be x 8).length = M := by rw [← HP.out]; exact HPL.out
                rw [HSP.out] at hlen ⊢
                have h := takeBytes_whole (enc (ls.take j)) bs (enc ((ls.take k).drop (j + 1)) ++ Oct.be x 8) kc (by have := HN1.out; omega) (by rw [HPJ.out, HN1.out]; omega) (by rw [hlen]; omega)
                rw [HPJ.out, HN1.out] at h
                rw [HN1.out]
                exact h)
              have HPN : Hid ((enc (ls.take (j + 1))).length = p + 2 + n1) := by
                show _ = _
                rw [enc_take_succ Hls.out, List.length_append, List.length_append, Oct.be_length, HPJ.out, HN1.out]
              have HA := Lib.hid (Oct.order_after bs)
              go_wp2_with fail
              refine (takeBytes_any _ (some ⟨g, 0, none⟩) kc d3 _ _ _ hs4 hb4.size (by omega)).mono ?_
              rintro e w5 ⟨v5, rfl, hf⟩
              rw [HT.out] at hf ⊢
              unfold tripleV
              obtain ⟨A6, d6, rfl, hown6, hb6⟩ := hf
              rw [HN1.out] at hown6 ⊢
              have hs6 := Sl.of_own hown6
              have hbel5 := hbel4.trans (hb6.mono hbel4.size)
              have hb5 := hb4.trans (hb6.mono hb4.size)
              have hcelle5 := (hb6.cell (p := ⟨ge, j, none⟩) hgel).trans hcelle
              have hcell5 := (hb6.cell (p := ⟨b, off + j, none⟩) (Nat.lt_of_lt_of_le hb hbel4.size)).trans hcell
              have hs5 := hs.below' hb6 hbel4.size
              have k5 := run_string_of Try.underlying22 Try.underlying5 Try.underlying9 hs5.drew
              have k6 := run_string_of Try.underlying22 Try.underlying5 Try.underlying9 hs6.drew
              clear hcelle hcell hs hown6 hb6
              go_wp2_with fail
              go_region
              go_wp2_with fail
              have hb5d : Below w1.heap.size w1 w5.drew := hb5.drew
              have hbel5d : Below W.heap.size W w5.drew := hbel5.drew
              have hsz6 : w5.heap.size ≤ w5.drew.heap.size := Nat.le_refl _
              have hs6d := hs6.drew
              have hszd : w1.heap.size ≤ w5.heap.size := hb5.size
              clear k5 k6 hcell5 hs5 hs6 hcelle5
              generalize w5.drew = w6 at hb5d hbel5d hs6d hsz6 ⊢
              refine (after_any _ A6 n1 d6 bs _ hs6d hsz6 (by omega)).mono ?_
              rintro e w7 ⟨v7, rfl, A7, d7, rfl, hown7, hb7⟩
              have hs7 := Sl.of_own hown7
              generalize hq7 : (Oct.after bs).length = q7 at hs7 ⊢
              have hs67 := hs6d.below' hb7 hsz6
              have hbel7 := hbel5d.trans (hb7.mono hbel5d.size)
              have hb77 := hb5d.trans (hb7.mono hb5d.size)
              clear hown7 hq7 hb7 hs6d hbel5d hb5d
              go_wp2_with fail
              refine (order_any _ A6 n1 d6 _ A7 q7 d7 _ _ _ hs67 hs7).mono ?_
              rintro e w8 ⟨rfl, rfl⟩
              rw [HA.out]
              by_cases hj0 : j = 0
              · subst hj0
                go_wp2_with fail
                go_roundw
                case rel => exact ⟨0 + 1, by omega, by go_num, int_eq (by rw [HPN.out]; rfl), by rw [HPN.out]; omega, hb77⟩
                case measure => simp [intOf]; omega
              · obtain ⟨i, rfl⟩ : ∃ i, j = i + 1 := ⟨j - 1, by omega⟩
                obtain ⟨_, _, ps, cs9, hA9, hb9, hls9, ⟨A9, n9, c9, rfl, hs9, hc9⟩, _, hcl9⟩ := (hr.below hbel7 (Nat.le_refl _)).row i (by omega)
                cases hA9
                have hcell9 := hcl9 0 _ rfl
                simp only [Rep.bytes, Nat.mul_one, Nat.add_zero] at hcell9
                have hLst := Oct.after_least bs ps
                generalize ho1 : Oct.order bs ps = o1 at hLst
                generalize ho2 : Oct.order (Oct.after bs) ps = o2 at hLst
                have HO1 := Lib.hid ho1
                have HO2 := Lib.hid ho2
                clear hcl9 hls9 ho1 ho2
                go_wp2_with fail
                refine (order_any _ A6 n1 d6 _ A9 n9 c9 _ _ _ hs67 hs9).mono ?_
                rintro e w9 ⟨rfl, rfl⟩
                rw [HO1.out]
                by_cases ho : o1 = -1
                · have hle : o2 ≤ 0 := hLst (by omega)
                  subst ho
                  have ho2 : o2 ≠ 1 := by omega
                  clear hLst
                  go_wp2_with fail
                  refine (order_any _ A7 q7 d7 _ A9 n9 c9 _ _ _ hs7 hs9).mono ?_
                  rintro e w9 ⟨rfl, rfl⟩
                  rw [HO2.out]
                  go_wp2_with fail
                  go_roundw
                  case rel => exact ⟨i + 1 + 1, by omega, by go_num, int_eq (by rw [HPN.out]; omega), by rw [HPN.out]; omega, hb77⟩
                  case measure => simp [intOf]; omega
                · clear hLst
                  go_wp2_with fail
                  go_roundw
                  case rel => exact ⟨i + 1 + 1, by omega, by go_num, int_eq (by rw [HPN.out]; omega), by rw [HPN.out]; omega, hb77⟩
                  case measure => simp [intOf]; omega
            · have HT := Lib.hid (show Oct.takeBytes ((enc (ls.take k) ++ Oct.be x 8).take kc) (p : Int) = ([], 0, 5) by
                rw [HSP.out, ← HPJ.out]
                exact takeBytes_cut _ _ _ kc (by have := HN1.out; omega) (by rw [HPJ.out]; omega) (by rw [HPJ.out, HN1.out]; omega))
              go_wp2_with fail
              refine (takeBytes_any _ (some ⟨g, 0, none⟩) kc d3 _ _ _ hs4 hb4.size (by omega)).mono ?_
              rintro e w5 ⟨v5, rfl, hf⟩
              rw [HT.out] at hf ⊢
              unfold tripleV
              obtain ⟨A6, d6, rfl, hown6, hb6⟩ := hf
              have hcelle5 := (hb6.cell (p := ⟨ge, j, none⟩) hgel).trans hcelle
              have hbel6 := hbel4.trans (hb6.mono hbel4.size)
              simp only [List.length_nil]
              clear hcelle hs3 hs4 hbel3 hb4 howe3 howe4 hs hcell
              go_wp2_with (go_at_call 24; refine (works01_any _).mono ?_; rintro e w' ⟨rfl, hb⟩)
              go_ret
              exact ⟨rfl, hbel6.trans (hb.mono hbel6.size)⟩
          · obtain rfl : j = k := by omega
            have hpm : p = m := by rw [← HPJ.out, HLM.out]
            subst hpm
            go_wp2_with fail
            by_cases hkm : kc < M
            · have HT := Lib.hid (show Oct.take ((enc (ls.take j) ++ Oct.be x 8).take kc) (p : Int) 8 = (0, 0, 5) by
                rw [← HLM.out]
                exact take8_cut _ x kc (by rw [HLM.out]; omega) (by rw [HLM.out]; have := HM.out; omega))
              refine (take_any _ (some ⟨g, 0, none⟩) kc d3 _ _ 8 _ hs4 hb4.size (by omega)).mono ?_
              rintro e w5 ⟨rfl, hb5⟩
              rw [HT.out]
              unfold takeV
              have hbel5 := hbel4.trans (hb5.mono hbel4.size)
              clear hs3 hs4 hbel3 hb4 howe3 howe4
              go_wp2_with (go_at_call 24; refine (works01_any _).mono ?_; rintro e w' ⟨rfl, hb⟩)
              go_ret
              exact ⟨rfl, hbel5.trans (hb.mono hbel5.size)⟩
            · obtain rfl : kc = M := by omega
              have HT := Lib.hid (show Oct.take ((enc (ls.take j) ++ Oct.be x 8).take kc) (p : Int) 8 = (x, (kc : Int), 0) by
                have h := take8_whole (enc (ls.take j)) x hx
                rw [HLM.out] at h
                have := HM.out
                subst this
                rw [h]
                rfl)
              refine (take_any _ (some ⟨g, 0, none⟩) kc d3 _ _ 8 _ hs4 hb4.size (by omega)).mono ?_
              rintro e w5 ⟨rfl, hb5⟩
              rw [HT.out]
              unfold takeV
              have hbel5 := hbel4.trans (hb5.mono hbel4.size)
              clear hs3 hs4 hbel3 hb4 howe3 howe4
              go_wp2_with (go_at_call 24; refine (works01_any _).mono ?_; rintro e w' ⟨rfl, hb⟩)
              go_ret
              exact ⟨rfl, hbel5.trans (hb.mono hbel5.size)⟩

end Go.Proofs.Ytjnchbadefggjaa

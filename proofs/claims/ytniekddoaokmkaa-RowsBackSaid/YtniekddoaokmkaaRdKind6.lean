/-
  Layer 23 (rows): a row taken into a state, walked: an item of the kind 6.
-/
import Derived.Test.YtniekddoaokmkaaRdItem
import Derived.Test.YtniekddoaokmkaaRdKindP
namespace Go.Proofs.Ytniekddoaokmkaa
open Go.RowKit Go.Gab Go.Sort
set_option linter.unusedVariables false
attribute [local go_sem ↓] Go.wp_at_zero Go.wp_at_succ

set_option maxHeartbeats 4000000 in
set_option maxRecDepth 100000 in
theorem read6_any (B base g : Nat) (s : Rws.St) (kb v : List UInt8) (A1 A2 : Option Addr) (n1 c1 c2 : Nat) (w : World) (hst : StIn w base g s) (hB : B ≤ base) (hk : BytesAt w B A1 n1 c1 (6 :: kb)) (hv : BytesAt w B A2 v.length c2 v)
    (hcn : (Rws.rowsOf s).length ≤ 1900000) (hkl : kb.length ≤ 274877906944) (hvl : v.length ≤ 274877906944) :
    Calls Try.prog 23 #[.pointer (some ⟨g, 0, none⟩), pairV A1 A2 n1 c1 v.length c2] w (ReadTo base g (Rws.readRow s (6 :: kb, v)) w) := by
  have hn1 := hk.sl.lenB
  simp at hn1
  obtain ⟨A3, hs3, hA3⟩ := Sl.tail1 hk.sl
  have hsl := sliceRunB (n := n1) (c := c1) (by omega) (hA := hA3)
  obtain ⟨b1, o1, x1, rfl, hb1, hx1, hc1, _⟩ := hk.sl.byte (k := 0) (by omega)
  have HST := Lib.hid hst
  have HS3 := Lib.hid hs3
  have HK := Lib.hid hk
  have HV := Lib.hid hv
  have hpos : 0 < n1 := by omega
  have hn0 : ((n1 : Int) == 0) = false := by simp; omega
  have HN1 := Lib.hid hn1
  clear hst hs3 hA3 hk hv hn1
  unfold pairV
  go_enter Try.func23, Try.ntmps23
  go_wp2_with fail
  go_cut [5, 6] (fun x y wx => ∃ hk hv, x = .pointer (some ⟨hk, 0, none⟩) ∧ y = .pointer (some ⟨hv, 0, none⟩) ∧ Laid wx base g w.heap.size hk hv B s 6 kb v (some ⟨b1, o1, none⟩) A2 A3 n1 c1 c2 (c1 - 1) ∧ Below base w wx)
  case first =>
    have HSZ := Lib.hid (show n1 - 1 = kb.length by have := HN1.out; omega)
    rw [HSZ.out] at hsl
    go_region
    all_goals
      have hs3 := HS3.out
      rw [HSZ.out] at hs3
    · go_wp2_with fail
      go_meet
      case rel =>
        have d1 := (((Blk.new w 42 #[.slice (some ⟨b1, o1, none⟩) n1 c1, .slice A2 v.length c2]).alloc (.cells #[.slice A3 kb.length (c1 - 1), .int .i64 0, .bool false] 99)).alloc (.cells #[.slice A2 v.length c2, .int .i64 0, .bool false] 99)).drew
        have d2 := ((Blk.new (w.alloc (.cells #[.slice (some ⟨b1, o1, none⟩) n1 c1, .slice A2 v.length c2] 42)) 99 #[.slice A3 kb.length (c1 - 1), .int .i64 0, .bool false]).alloc (.cells #[.slice A2 v.length c2, .int .i64 0, .bool false] 99)).drew
        have d3 := (Blk.new ((w.alloc (.cells #[.slice (some ⟨b1, o1, none⟩) n1 c1, .slice A2 v.length c2] 42)).alloc (.cells #[.slice A3 kb.length (c1 - 1), .int .i64 0, .bool false] 99)) 99 #[.slice A2 v.length c2, .int .i64 0, .bool false]).drew
        have hb := ((((Below.refl w.heap.size w).alloc (Nat.le_refl _) (.cells #[.slice (some ⟨b1, o1, none⟩) n1 c1, .slice A2 v.length c2] 42)).alloc (by simp) (.cells #[.slice A3 kb.length (c1 - 1), .int .i64 0, .bool false] 99)).alloc (by simp; omega) (.cells #[.slice A2 v.length c2, .int .i64 0, .bool false] 99)).drew
        rw [show (w.alloc (.cells #[.slice (some ⟨b1, o1, none⟩) n1 c1, .slice A2 v.length c2] 42)).heap.size = w.heap.size + 1 by simp] at d2
        rw [show ((w.alloc (.cells #[.slice (some ⟨b1, o1, none⟩) n1 c1, .slice A2 v.length c2] 42)).alloc (.cells #[.slice A3 kb.length (c1 - 1), .int .i64 0, .bool false] 99)).heap.size = w.heap.size + 1 + 1 by simp] at d3
        exact ⟨w.heap.size + 1, w.heap.size + 1 + 1, rfl, rfl, laid_mk HST.out hB HK.out.sl hs3 HV.out hkl hvl hb d1 d2 d3 (by omega) (by omega) (by omega), hb.mono HST.out.size⟩
    · go_wp2_with fail
      go_meet
      case rel =>
        have d1 := (((Blk.new w 42 #[.slice (some ⟨b1, o1, none⟩) n1 c1, .slice A2 v.length c2]).alloc (.cells #[.slice A2 v.length c2, .int .i64 0, .bool false] 99)).alloc (.cells #[.slice A3 kb.length (c1 - 1), .int .i64 0, .bool false] 99)).drew
        have d2 := ((Blk.new (w.alloc (.cells #[.slice (some ⟨b1, o1, none⟩) n1 c1, .slice A2 v.length c2] 42)) 99 #[.slice A2 v.length c2, .int .i64 0, .bool false]).alloc (.cells #[.slice A3 kb.length (c1 - 1), .int .i64 0, .bool false] 99)).drew
        have d3 := (Blk.new ((w.alloc (.cells #[.slice (some ⟨b1, o1, none⟩) n1 c1, .slice A2 v.length c2] 42)).alloc (.cells #[.slice A2 v.length c2, .int .i64 0, .bool false] 99)) 99 #[.slice A3 kb.length (c1 - 1), .int .i64 0, .bool false]).drew
        have hb := ((((Below.refl w.heap.size w).alloc (Nat.le_refl _) (.cells #[.slice (some ⟨b1, o1, none⟩) n1 c1, .slice A2 v.length c2] 42)).alloc (by simp) (.cells #[.slice A2 v.length c2, .int .i64 0, .bool false] 99)).alloc (by simp; omega) (.cells #[.slice A3 kb.length (c1 - 1), .int .i64 0, .bool false] 99)).drew
        rw [show (w.alloc (.cells #[.slice (some ⟨b1, o1, none⟩) n1 c1, .slice A2 v.length c2] 42)).heap.size = w.heap.size + 1 by simp] at d2
        rw [show ((w.alloc (.cells #[.slice (some ⟨b1, o1, none⟩) n1 c1, .slice A2 v.length c2] 42)).alloc (.cells #[.slice A2 v.length c2, .int .i64 0, .bool false] 99)).heap.size = w.heap.size + 1 + 1 by simp] at d3
        exact ⟨w.heap.size + 1 + 1, w.heap.size + 1, rfl, rfl, laid_mk HST.out hB HK.out.sl hs3 HV.out hkl hvl hb d1 d3 d2 (by omega) (by omega) (by omega), hb.mono HST.out.size⟩
  case rest =>
    obtain ⟨hk, hv, rfl, rfl, L, hb⟩ := hcut
    clear hsl HST HS3 HK HV hc1
    obtain ⟨b2, o2, y2, hA2, _, hy2, kc, _⟩ := L.key.byte (k := 0) (by omega)
    obtain ⟨rfl, rfl⟩ : b1 = b2 ∧ o1 = o2 := by injection hA2 with e; injection e with e1 e2; exact ⟨e1, e2⟩
    have hy3 : y2 = 6 := by simpa using hy2.symm
    subst hy3
    have hx3 : x1 = 6 := by simpa using hx1.symm
    subst hx3
    rw [Nat.add_zero] at kc
    have hb0 := L.box.cell 0
    simp only [List.getElem?_toArray, List.getElem?_cons_zero] at hb0
    have HLA := Lib.hid L
    have HBL := Lib.hid hb
    have HNE := Lib.hid L.ne
    have HRK := Lib.hid L.rk
    have HLV := Lib.hid L.lv
    clear L hb hA2 hy2 hx1
    obtain ⟨o, ho⟩ : ∃ o, ((Rws.placeOf (((⟨kb, 0, false⟩ : Rws.Rd).take 8).1 : Int) s.rounds).bind fun j => s.rounds[j]?.map fun x => { s with rounds := s.rounds.set j { x with flow := x.flow ++ [Rws.s64 ((⟨v, 0, false⟩ : Rws.Rd).take 8).1] } }) = o := ⟨_, rfl⟩
    obtain ⟨rk, hrk⟩ : ∃ r, ((⟨kb, 0, false⟩ : Rws.Rd).take 8).2 = r := ⟨_, rfl⟩
    obtain ⟨rv, hrv⟩ : ∃ r, ((⟨v, 0, false⟩ : Rws.Rd).take 8).2 = r := ⟨_, rfl⟩
    have HRD := Lib.hid (show Rws.readRow s (6 :: kb, v) = if rk.sh || rv.sh then none else o by
      show Rws.readItem s 6 ⟨kb, 0, false⟩ ⟨v, 0, false⟩ = _
      rw [Rws.readItem6, ho, hrk, hrv])
    have HCI := Lib.hid (fun w h1 h2 h3 => item6_any B base g hk hv s ⟨kb, 0, false⟩ ⟨v, 0, false⟩ A3 A2 (c1 - 1) c2 w h1 h2 h3 hB HNE.out HLA.out.lk HLV.out (Rws.flow_le hcn))
    rw [ho, hrk, hrv] at HCI
    clear ho hrk hrv
    go_wp2_with fail
    refine (HCI.out _ HLA.out.st HLA.out.rk HLA.out.rv).mono ?_
    rintro e w2 ⟨hs, hn, hb⟩
    have HBF := Lib.hid (HBL.out.trans hb)
    cases o with
    | none =>
      have he := hn rfl
      subst he
      have HRN := Lib.hid (show Rws.readRow s (6 :: kb, v) = none by rw [HRD.out]; split <;> rfl)
      clear hs hn hb
      go_wp2_with fail
      go_ret
      rw [HRN.out]
      exact ReadTo.no HBF.out
    | some s' =>
      obtain ⟨he, h1, h2, h3⟩ := hs s' rfl
      subst he
      have HFIN := Lib.hid h1
      have kk := h2.blk.cell 2
      have kv := h3.blk.cell 2
      simp only [rdC, List.getElem?_toArray, List.getElem?_cons_zero, List.getElem?_cons_succ] at kk kv
      clear hs hn hb h1 h2 h3
      obtain ⟨sk, hsk⟩ : ∃ sh, rk.sh = sh := ⟨_, rfl⟩
      rw [hsk] at HRD kk
      clear hsk
      obtain ⟨sh, hsh⟩ : ∃ sh, rv.sh = sh := ⟨_, rfl⟩
      rw [hsh] at HRD kv
      clear hsh
      cases sk with
      | true =>
        go_wp2_with fail
        go_ret
        rw [HRD.out]
        exact ReadTo.no HBF.out
      | false =>
        cases sh with
        | true =>
          go_wp2_with fail
          go_ret
          rw [HRD.out]
          exact ReadTo.no HBF.out
        | false =>
          go_wp2_with fail
          go_ret
          rw [HRD.out]
          exact ReadTo.yes HFIN.out HBF.out

end Go.Proofs.Ytniekddoaokmkaa

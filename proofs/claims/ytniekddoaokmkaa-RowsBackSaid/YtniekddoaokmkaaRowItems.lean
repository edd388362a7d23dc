/-
  Layer 23 (rows): the rows of a round's lists, told, walked.
-/
import Derived.Test.YtniekddoaokmkaaRowTell
namespace Go.Proofs.Ytniekddoaokmkaa
open Go.RowKit Go.Gab
set_option linter.unusedVariables false
attribute [local go_sem ↓] Go.wp_at_zero Go.wp_at_succ

/-- What tells change: the row of pairs, the variable that holds it, and new memory. -/
structure Tells (base g : Nat) (w w' : World) : Prop where
  blk : ∀ k t cs, Blk w k t cs → k ≠ g → t ≠ 42 → Blk w' k t cs
  bel : Below base w w'
section
variable {base g : Nat} {w w1 w' : World}
theorem Tells.of_below (h : Below w.heap.size w w') (hb : base ≤ w.heap.size) : Tells base g w w' := ⟨fun k t cs hk _ _ => hk.below h hk.lt, h.mono hb⟩
theorem Tells.trans (h : Tells base g w w1) (k : Tells base g w1 w') : Tells base g w w' := ⟨fun b t cs hb h1 h2 => k.blk b t cs (h.blk b t cs hb h1 h2) h1 h2, h.bel.trans k.bel⟩
theorem Tells.refl (base g : Nat) (w : World) : Tells base g w w := ⟨fun _ _ _ h _ _ => h, Below.refl _ _⟩
theorem Tells.drew (h : Tells base g w w') : Tells base g w w'.drew := ⟨h.blk, h.bel.drew⟩
theorem Tells.alloc (h : Tells base g w w') (hb : base ≤ w'.heap.size) (o : Obj) : Tells base g w (w'.alloc o) := h.trans (.of_below ((Below.refl _ _).alloc (Nat.le_refl _) o) hb)
theorem Tells.ownB (h : Tells base g w w') {b : Nat} {v : Value} {bs : List UInt8} (ho : OwnB w b v bs) {t : TypeId} {cs : Array Value} (hg : Blk w g t cs) (hne : 5 ≠ t) : OwnB w' b v bs := by
  obtain ⟨A, c, rfl, ⟨h1, h2⟩, h3⟩ := ho
  refine ⟨A, c, rfl, ⟨h1, ?_⟩, h3⟩
  rcases h2 with h2 | ⟨g2, cap, cur, hv, hb, hk, hrest⟩
  · exact .inl h2
  · refine .inr ⟨g2, cap, cur, hv, hb, ?_, hrest⟩
    have hk' : Blk w g2 5 cur := hk
    exact h.blk g2 _ _ hk' (fun e => by subst e; exact Blk.ne_ hk' hg hne rfl) (by decide)
end
theorem TellTo.tells {base g : Nat} {ps : List Rws.Pair} {w w' : World} {e : Ending} (h : TellTo base g ps w e w') (hb : base ≤ g) (hs : base ≤ w.heap.size) : e = .returned (.tuple #[]) ∧ Told w' base g ps ∧ Tells base g w w' := by
  obtain ⟨h1, h2, w1, q, hg1, hq, hg2⟩ := h
  refine ⟨h1, h2, fun k t cs hk hkg htp => ?_, ?_⟩
  · refine Blk.grown (Blk.grown hk hg1 (fun e => ?_)) hg2 (fun e => by injection e with e; exact hkg e)
    obtain ⟨_, cs2, hc⟩ := hq k e.symm
    exact Blk.ne_ hk hc htp rfl
  · have b1 : Below base w w1 := (Below.refl base w).grown hg1 hs (fun k hk => (hq k hk).1)
    exact b1.grown hg2 (Nat.le_trans hs b1.size) (fun k hk => by cases hk; exact hb)

theorem val2_any (B h i : Nat) (x : Rws.Round) {Ai Ae Af Ap : Option Addr} {ci ce cf cp : Nat} (y : Int) (w : World) (hb : Blk w h 64 (roundC x Ai Ae Af Ap ci ce cf cp).toArray) (ha : RoundAt w B x Ai Ae Af Ap ci ce cf cp) (hB : B ≤ w.heap.size) (hy : x.ids[i]? = some y) :
    Calls Try.prog 59 #[.int .i64 (i : Int), .pointer (some ⟨h, 0, none⟩)] w (BytesTo w.heap.size w (Rws.nums [(y, 8)])) := by
  have hi : i < x.ids.length := (List.getElem?_eq_some_iff.1 hy).1
  obtain ⟨b, off, z, hA, hbb, hz, hc, hw⟩ := int_at ha.ids hi
  rw [hy] at hz
  injection hz with hz
  subst hz
  subst hA
  have hu := u64_of_wf hw
  have k0 := hb.cell 3
  have hlt : h < w.heap.size := hb.lt
  have hnc := ha.ids.nc
  have hcm := ha.ids.cm
  simp only [roundC, List.getElem?_toArray, List.getElem?_cons_zero, List.getElem?_cons_succ] at k0
  obtain ⟨n, hn⟩ : ∃ n, x.ids.length = n := ⟨_, rfl⟩
  rw [hn] at k0 hi hnc
  clear ha hb hy hw hn
  go_enter Try.func59, Try.ntmps59
  go_wp2_with fail
  refine (u8_any y hu _).mono ?_
  rintro e w1 ⟨rfl, hb1⟩
  have HB1 := Lib.hid hb1
  have HNA := Lib.hid (NumsAt.of_blk (l := [(y, 8)]) (Blk.new w1 87 (numsC [(y, 8)]).toArray) (by simp))
  clear hb1
  unfold numV
  go_wp2_with fail
  refine (rput_any w.heap.size (w1.heap.size + 1) none 0 0 [] (some ⟨w1.heap.size, 0, none⟩) 1 1 [(y, 8)] (w1.alloc (.cells #[.int .u64 (Rws.u64 y : Nat), .int .i64 (8 : Nat)] 87)) (World.ownsRow_nil _ _ _ _) (by have := HB1.out.size; simp; omega) HNA.out (by simp) (by omega) (by omega) (by simp [Oct.size])).mono ?_
  rintro e w2 ⟨A3, c3, rfl, hown, hb2⟩
  have HB2 := Lib.hid ((HB1.out.alloc HB1.out.size _).trans (hb2.mono (by have := HB1.out.size; simp; omega)))
  rw [List.nil_append] at hown ⊢
  have HO := Lib.hid hown
  clear hown hb2
  go_wp2_with fail
  go_ret
  exact ⟨A3, c3, rfl, HO.out, HB2.out⟩

theorem val4_any (B h i : Nat) (x : Rws.Round) {Ai Ae Af Ap : Option Addr} {ci ce cf cp : Nat} (y : Int) (w : World) (hb : Blk w h 64 (roundC x Ai Ae Af Ap ci ce cf cp).toArray) (ha : RoundAt w B x Ai Ae Af Ap ci ce cf cp) (hB : B ≤ w.heap.size) (hy : x.flow[i]? = some y) :
    Calls Try.prog 61 #[.int .i64 (i : Int), .pointer (some ⟨h, 0, none⟩)] w (BytesTo w.heap.size w (Rws.nums [(y, 8)])) := by
  have hi : i < x.flow.length := (List.getElem?_eq_some_iff.1 hy).1
  obtain ⟨b, off, z, hA, hbb, hz, hc, hw⟩ := int_at ha.flow hi
  rw [hy] at hz
  injection hz with hz
  subst hz
  subst hA
  have hu := i64_of_wf hw
  have k0 := hb.cell 6
  have hlt : h < w.heap.size := hb.lt
  have hnc := ha.flow.nc
  have hcm := ha.flow.cm
  simp only [roundC, List.getElem?_toArray, List.getElem?_cons_zero, List.getElem?_cons_succ] at k0
  obtain ⟨n, hn⟩ : ∃ n, x.flow.length = n := ⟨_, rfl⟩
  rw [hn] at k0 hi hnc
  clear ha hb hy hw hn
  go_enter Try.func61, Try.ntmps61
  go_wp2_with fail
  refine (n8_any y _).mono ?_
  rintro e w1 ⟨rfl, hb1⟩
  have HB1 := Lib.hid hb1
  have HNA := Lib.hid (NumsAt.of_blk (l := [(y, 8)]) (Blk.new w1 87 (numsC [(y, 8)]).toArray) (by simp))
  clear hb1
  unfold numV
  go_wp2_with fail
  refine (rput_any w.heap.size (w1.heap.size + 1) none 0 0 [] (some ⟨w1.heap.size, 0, none⟩) 1 1 [(y, 8)] (w1.alloc (.cells #[.int .u64 (Rws.u64 y : Nat), .int .i64 (8 : Nat)] 87)) (World.ownsRow_nil _ _ _ _) (by have := HB1.out.size; simp; omega) HNA.out (by simp) (by omega) (by omega) (by simp [Oct.size])).mono ?_
  rintro e w2 ⟨A3, c3, rfl, hown, hb2⟩
  have HB2 := Lib.hid ((HB1.out.alloc HB1.out.size _).trans (hb2.mono (by have := HB1.out.size; simp; omega)))
  rw [List.nil_append] at hown ⊢
  have HO := Lib.hid hown
  clear hown hb2
  go_wp2_with fail
  go_ret
  exact ⟨A3, c3, rfl, HO.out, HB2.out⟩

theorem val5_any (B h i : Nat) (x : Rws.Round) {Ai Ae Af Ap : Option Addr} {ci ce cf cp : Nat} (y : Int) (w : World) (hb : Blk w h 64 (roundC x Ai Ae Af Ap ci ce cf cp).toArray) (ha : RoundAt w B x Ai Ae Af Ap ci ce cf cp) (hB : B ≤ w.heap.size) (hy : x.pot[i]? = some y) :
    Calls Try.prog 62 #[.int .i64 (i : Int), .pointer (some ⟨h, 0, none⟩)] w (BytesTo w.heap.size w (Rws.nums [(y, 8)])) := by
  have hi : i < x.pot.length := (List.getElem?_eq_some_iff.1 hy).1
  obtain ⟨b, off, z, hA, hbb, hz, hc, hw⟩ := int_at ha.pot hi
  rw [hy] at hz
  injection hz with hz
  subst hz
  subst hA
  have hu := i64_of_wf hw
  have k0 := hb.cell 7
  have hlt : h < w.heap.size := hb.lt
  have hnc := ha.pot.nc
  have hcm := ha.pot.cm
  simp only [roundC, List.getElem?_toArray, List.getElem?_cons_zero, List.getElem?_cons_succ] at k0
  obtain ⟨n, hn⟩ : ∃ n, x.pot.length = n := ⟨_, rfl⟩
  rw [hn] at k0 hi hnc
  clear ha hb hy hw hn
  go_enter Try.func62, Try.ntmps62
  go_wp2_with fail
  refine (n8_any y _).mono ?_
  rintro e w1 ⟨rfl, hb1⟩
  have HB1 := Lib.hid hb1
  have HNA := Lib.hid (NumsAt.of_blk (l := [(y, 8)]) (Blk.new w1 87 (numsC [(y, 8)]).toArray) (by simp))
  clear hb1
  unfold numV
  go_wp2_with fail
  refine (rput_any w.heap.size (w1.heap.size + 1) none 0 0 [] (some ⟨w1.heap.size, 0, none⟩) 1 1 [(y, 8)] (w1.alloc (.cells #[.int .u64 (Rws.u64 y : Nat), .int .i64 (8 : Nat)] 87)) (World.ownsRow_nil _ _ _ _) (by have := HB1.out.size; simp; omega) HNA.out (by simp) (by omega) (by omega) (by simp [Oct.size])).mono ?_
  rintro e w2 ⟨A3, c3, rfl, hown, hb2⟩
  have HB2 := Lib.hid ((HB1.out.alloc HB1.out.size _).trans (hb2.mono (by have := HB1.out.size; simp; omega)))
  rw [List.nil_append] at hown ⊢
  have HO := Lib.hid hown
  clear hown hb2
  go_wp2_with fail
  go_ret
  exact ⟨A3, c3, rfl, HO.out, HB2.out⟩

set_option maxHeartbeats 1000000 in
theorem val3_any (B h i : Nat) (x : Rws.Round) {Ai Ae Af Ap : Option Addr} {ci ce cf cp : Nat} (y : Rws.Edge) (w : World) (hb : Blk w h 64 (roundC x Ai Ae Af Ap ci ce cf cp).toArray) (ha : RoundAt w B x Ai Ae Af Ap ci ce cf cp) (hB : B ≤ w.heap.size) (hy : x.edges[i]? = some y) :
    Calls Try.prog 60 #[.int .i64 (i : Int), .pointer (some ⟨h, 0, none⟩)] w (BytesTo w.heap.size w (Rws.nums [(y.frm, 1), (y.to, 1), (y.cap, 8), (y.cost, 8)])) := by
  have hi : i < x.edges.length := (List.getElem?_eq_some_iff.1 hy).1
  obtain ⟨b, off, z, hA, hbb, hz, q0, q1, q2, q3, hw0, hw1, hw2, hw3⟩ := edge_at ha.edges hi
  rw [hy] at hz
  injection hz with hz
  subst hz
  subst hA
  obtain ⟨fr, tt, ca, co⟩ := y
  simp only at q0 q1 q2 q3 hw0 hw1 hw2 hw3
  have k0 := hb.cell 5
  have hlt : h < w.heap.size := hb.lt
  have hnc := ha.edges.nc
  have hcm := ha.edges.cm
  simp only [roundC, List.getElem?_toArray, List.getElem?_cons_zero, List.getElem?_cons_succ] at k0
  obtain ⟨n, hn⟩ : ∃ n, x.edges.length = n := ⟨_, rfl⟩
  rw [hn] at k0 hi hnc
  clear ha hb hy hn hw0 hw1 hw2 hw3
  go_enter Try.func60, Try.ntmps60
  go_wp2_with fail
  have hbx := Blk.new w 66 #[.int .i64 fr, .int .i64 tt, .int .i64 ca, .int .i64 co]
  have l0 : Below w.heap.size w (w.alloc (.cells #[.int .i64 fr, .int .i64 tt, .int .i64 ca, .int .i64 co] 66)) := (Below.refl _ _).alloc (Nat.le_refl _) _
  generalize w.alloc (.cells #[.int .i64 fr, .int .i64 tt, .int .i64 ca, .int .i64 co] 66) = W at hbx l0 ⊢
  obtain ⟨g, hg⟩ : ∃ g, w.heap.size = g := ⟨_, rfl⟩
  rw [hg] at hbx l0 ⊢
  have SC := Lib.hid (fun w' (hh : Below W.heap.size W w') => (show w'.cell? ⟨g, 0, none⟩ = some (.int .i64 fr) ∧ w'.cell? ⟨g, 1, none⟩ = some (.int .i64 tt) ∧ w'.cell? ⟨g, 2, none⟩ = some (.int .i64 ca) ∧ w'.cell? ⟨g, 3, none⟩ = some (.int .i64 co) from
    ⟨(hbx.below hh hbx.lt).cell 0, (hbx.below hh hbx.lt).cell 1, (hbx.below hh hbx.lt).cell 2, (hbx.below hh hbx.lt).cell 3⟩))
  have HL := Lib.hid l0
  have HG := Lib.hid hg
  have HB := Lib.hid (Below.refl W.heap.size W).drew
  clear hbx l0 hg k0 q0 q1 q2 q3
  go_region_held3 (fun w' => w'.cell? ⟨g, 0, none⟩ = some (.int .i64 fr) ∧ w'.cell? ⟨g, 1, none⟩ = some (.int .i64 tt) ∧ w'.cell? ⟨g, 2, none⟩ = some (.int .i64 ca) ∧ w'.cell? ⟨g, 3, none⟩ = some (.int .i64 co))
    (first | exact SC.out _ HB.out | exact SC.out _ (HB.out.alloc HB.out.size _))
    (first
      | (go_at_call 42; refine (n1_any _ _).mono ?_; rintro e w1 ⟨rfl, hb1⟩; have HB := Lib.hid (HB.out.trans (hb1.mono HB.out.size)); unfold numV; clear hb1)
      | (go_at_call 39; refine (n8_any _ _).mono ?_; rintro e w1 ⟨rfl, hb1⟩; have HB := Lib.hid (HB.out.trans (hb1.mono HB.out.size)); unfold numV; clear hb1)
      | (go_at_call 38; refine (rput_any g (w1.heap.size + 1) none 0 0 [] (some ⟨w1.heap.size, 0, none⟩) 4 4 [(fr, 1), (tt, 1), (ca, 8), (co, 8)] _ (World.ownsRow_nil _ _ _ _) (by have := HG.out; have := HL.out.size; have := HB.out.size; simp; omega) (NumsAt.of_blk (l := [(fr, 1), (tt, 1), (ca, 8), (co, 8)]) (Blk.new w1 87 _) (by simp)) (by simp) (by omega) (by omega) (by simp [Oct.size])).mono ?_; rintro e w2 ⟨A3, c3, rfl, hown, hb2⟩; have HB := Lib.hid ((HB.out.alloc HB.out.size _).trans (hb2.mono (by have := HB.out.size; simp; omega))); rw [List.nil_append] at hown ⊢; have HO := Lib.hid hown; clear hown hb2))
  go_wp2_with fail
  go_ret
  exact ⟨A3, c3, rfl, by rw [HG.out]; exact HO.out, by rw [HG.out]; exact HL.out.trans (HB.out.mono (by have := HG.out; have := HL.out.size; omega))⟩

/-! ### each -/
def tellV (g : Nat) : Value := .func (.func 22) #[] #[.pointer (some ⟨g, 0, none⟩)]
def eachRows (k : UInt8) (no : Int) (vals : List (List UInt8)) : List Rws.Pair := Rws.mapI (fun i r => (Rws.itemKey k no i, r)) vals
/-- What told rows answer. -/
def ToldTo (base g : Nat) (ps : List Rws.Pair) (w : World) (e : Ending) (w' : World) : Prop := e = .returned (.tuple #[]) ∧ Told w' base g ps ∧ Tells base g w w'

theorem Told.ne {w : World} {base g : Nat} {ps : List Rws.Pair} (h : Told w base g ps) {k : Nat} {t : TypeId} {cs : Array Value} (hb : Blk w k t cs) (ht : t ≠ 32) : k ≠ g := by
  obtain ⟨v, hg, _⟩ := h.rows
  rintro rfl
  exact Blk.ne_ hb hg ht rfl
theorem Tells.keep {base g : Nat} {w w' : World} {ps : List Rws.Pair} (h : Tells base g w w') (ht : Told w base g ps) {k : Nat} {t : TypeId} {cs : Array Value} (hb : Blk w k t cs) (h1 : t ≠ 32) (h2 : t ≠ 42) : Blk w' k t cs :=
  h.blk k t cs hb (ht.ne hb h1) h2
theorem Told.below {w w' : World} {base g : Nat} {ps : List Rws.Pair} (h : Told w base g ps) (hb : Below w.heap.size w w') : Told w' base g ps := by
  obtain ⟨v, h1, h2⟩ := h.rows
  exact ⟨h.low, Nat.le_trans h.size hb.size, h.few, v, h1.below hb h1.lt, h2.below hb⟩

theorem item_key_len (k : UInt8) (no : Int) (i : Nat) : (Rws.itemKey k no i).length = 11 := by
  simp [Rws.itemKey, Rws.key, Rws.nums, Oct.be_length]
theorem each_len (k : UInt8) (no : Int) (vals : List (List UInt8)) : (eachRows k no vals).length = vals.length := Rws.mapI_length _ _

set_option maxHeartbeats 2000000 in
theorem each_any (base g B : Nat) (ps : List Rws.Pair) (x : Rws.Round) {Ai Ae Af Ap : Option Addr} {ci ce cf cp : Nat} (k : UInt8) (ht hk hr : Nat) (F : FuncId) (vals : List (List UInt8)) (n : Nat) (w : World)
    (hF : ∀ args w, (callFunc F args).run Try.prog w = .ok (.enter F args) w)
    (hv : ∀ (i : Nat) (r : List UInt8), vals[i]? = some r → ∀ w1, Blk w1 hr 64 (roundC x Ai Ae Af Ap ci ce cf cp).toArray → RoundAt w1 B x Ai Ae Af Ap ci ce cf cp → B ≤ w1.heap.size → Calls Try.prog F #[.int .i64 (i : Int), .pointer (some ⟨hr, 0, none⟩)] w1 (BytesTo w1.heap.size w1 r))
    (hvl : ∀ r ∈ vals, r.length ≤ 1000) (hn : vals.length = n) (hB : B ≤ base) (htold : Told w base g ps) (hfew : ps.length + n ≤ 1900000)
    (bt : Blk w ht 68 #[tellV g]) (bk : Blk w hk 5 #[.int .u8 (k.toNat : Int)]) (br : Blk w hr 64 (roundC x Ai Ae Af Ap ci ce cf cp).toArray) (ha : RoundAt w B x Ai Ae Af Ap ci ce cf cp) :
    Calls Try.prog 58 #[.int .i64 (n : Int), .func (.func F) #[] #[.pointer (some ⟨hr, 0, none⟩)], .pointer (some ⟨ht, 0, none⟩), .pointer (some ⟨hk, 0, none⟩), .pointer (some ⟨hr, 0, none⟩)] w
      (ToldTo base g (ps ++ eachRows k x.no vals) w) := by
  have hno := ha.no
  have HV := Lib.hid hv
  have HVL := Lib.hid hvl
  have HNL := Lib.hid hn
  have HT := Lib.hid htold
  have HFW := Lib.hid hfew
  have HBT := Lib.hid bt
  have HBK := Lib.hid bk
  have HBR := Lib.hid br
  have HA := Lib.hid ha
  have hnm : n ≤ 1900000 := by omega
  have HNM := Lib.hid hnm
  have hn2 : (n : Int) ≤ 9223372036854775807 := by omega
  clear hv hvl hn htold hfew bt bk br ha hnm
  go_enter Try.func58, Try.ntmps58
  go_wp2_with fail
  go_loopw [9] (fun i wr => ∃ j : Nat, j ≤ n ∧ i = .int .i64 j ∧ Told wr base g (ps ++ eachRows k x.no (vals.take j)) ∧ Tells base g w wr) (fun i _ => n - (intOf i).toNat)
  case atStart => exact ⟨0, Nat.zero_le _, rfl, by rw [List.take_zero]; simpa [eachRows, Rws.mapI] using HT.out, Tells.refl _ _ _⟩
  case round =>
    obtain ⟨j, hj, rfl, htl, hts⟩ := hrel
    have HTL := Lib.hid htl
    have HTS := Lib.hid hts
    by_cases hlt : j < n
    · obtain ⟨r, hr_⟩ : ∃ r, vals[j]? = some r := ⟨_, List.getElem?_eq_getElem (by rw [HNL.out]; exact hlt)⟩
      have b1 := hts.keep HT.out HBT.out (by decide) (by decide)
      have b2 := hts.keep HT.out HBK.out (by decide) (by decide)
      have b3 := hts.keep HT.out HBR.out (by decide) (by decide)
      have SC := Lib.hid (fun w' (hh : Below wr.heap.size wr w') => (show w'.cell? ⟨ht, 0, none⟩ = some (tellV g) ∧ w'.cell? ⟨hk, 0, none⟩ = some (.int .u8 (k.toNat : Int)) ∧ w'.cell? ⟨hr, 0, none⟩ = some (.int .u64 x.no) from
        ⟨(b1.below hh b1.lt).cell 0, (b2.below hh b2.lt).cell 0, (b3.below hh b3.lt).cell 0⟩))
      have HVJ := Lib.hid (fun w' (hh : Below wr.heap.size wr w') => HV.out j r hr_ w' (b3.below hh b3.lt) (HA.out.below (hts.bel.trans (hh.mono htl.size)) hB) (Nat.le_trans hB (Nat.le_trans htl.size hh.size)))
      have HRJ := Lib.hid hr_
      have HRL := Lib.hid (HVL.out r (List.mem_of_getElem? hr_))
      have HSZ := Lib.hid htl.size
      have HB := Lib.hid (Below.refl wr.heap.size wr).drew
      clear b1 b2 b3 htl hts hr_
      go_wp2_with fail
      unfold tellV at SC
      go_region_held3 (fun w' => w'.cell? ⟨ht, 0, none⟩ = some (.func (.func 22) #[] #[.pointer (some ⟨g, 0, none⟩)]) ∧ w'.cell? ⟨hk, 0, none⟩ = some (.int .u8 (k.toNat : Int)) ∧ w'.cell? ⟨hr, 0, none⟩ = some (.int .u64 x.no))
        (first | exact HC4.out | exact SC.out _ HB.out | exact SC.out _ (HB.out.alloc HB.out.size _))
        (first
          | (go_at_call 40; refine (u8_any _ hno _).mono ?_; rintro e w1 ⟨rfl, hb1⟩; have HB := Lib.hid (HB.out.trans (hb1.mono HB.out.size)); unfold numV; clear hb1)
          | (go_at_call 41; refine (n2_any _ _).mono ?_; rintro e w1 ⟨rfl, hb1⟩; have HB := Lib.hid (HB.out.trans (hb1.mono HB.out.size)); unfold numV; clear hb1)
          | (go_at_call 37; refine (key_any (w1.heap.size + 1) k (some ⟨w1.heap.size, 0, none⟩) 2 2 [(x.no, 8), ((j : Int), 2)] _ (NumsAt.of_blk (l := [(x.no, 8), ((j : Int), 2)]) (Blk.new w1 87 _) (by simp)) (by simp) (by omega) (by simp [Oct.size])).mono ?_; rintro e w2 ⟨A3, c3, rfl, hown, hb2⟩; have HKY := Lib.hid hown; have HBK2 := Lib.hid (HB.out.alloc HB.out.size (.cells #[.int .u64 (Rws.u64 x.no : Nat), .int .i64 (8 : Nat), .int .u64 (Rws.u64 (j : Int) : Nat), .int .i64 (2 : Nat)] 87)); have HB := Lib.hid (HBK2.out.trans (hb2.mono HBK2.out.size)); clear hown hb2)
          | (refine (HVJ.out _ HB.out).mono ?_; rintro e w3 ⟨A4, c4, rfl, hown, hb3⟩; have HVO := Lib.hid (own_low (base' := base) hown (Nat.le_trans HSZ.out HB.out.size)); have HKO := Lib.hid (own_low (base' := base) (own_below HKY.out hb3) (Nat.le_trans HSZ.out HBK2.out.size)); have HB := Lib.hid (HB.out.trans (hb3.mono HB.out.size)); clear hown hb3)
          | (go_at_call 22; refine (tell_any base g (ps ++ eachRows k x.no (vals.take j)) _ _ (Rws.itemKey k x.no j, r) _ (HTL.out.below HB.out) (OwnB.of HKO.out (Nat.le_trans (Nat.le_of_eq (item_key_len k x.no j)) (by omega))) (OwnB.of HVO.out (Nat.le_trans HRL.out (by omega))) (by have h1 := each_len k x.no (vals.take j); have h2 := HFW.out; rw [List.length_take] at h1; rw [List.length_append]; omega)).mono ?_; rintro e w4 hte; obtain ⟨rfl, ht4, hs4⟩ := hte.tells HTL.out.low (Nat.le_trans HSZ.out HB.out.size); have HT4 := Lib.hid ht4; have HS4 := Lib.hid (HTS.out.trans ((Tells.of_below HB.out HSZ.out).trans hs4)); have HC4 := Lib.hid (show w4.cell? ⟨ht, 0, none⟩ = some (.func (.func 22) #[] #[.pointer (some ⟨g, 0, none⟩)]) ∧ w4.cell? ⟨hk, 0, none⟩ = some (.int .u8 (k.toNat : Int)) ∧ w4.cell? ⟨hr, 0, none⟩ = some (.int .u64 x.no) from ⟨(HS4.out.keep HT.out HBT.out (by decide) (by decide)).cell 0, (HS4.out.keep HT.out HBK.out (by decide) (by decide)).cell 0, (HS4.out.keep HT.out HBR.out (by decide) (by decide)).cell 0⟩); clear hte ht4 hs4))
      go_wp2_with fail
      have HEQ := Lib.hid (show ps ++ eachRows k x.no (vals.take j) ++ [(Rws.itemKey k x.no j, r)] = ps ++ eachRows k x.no (vals.take (j + 1)) by
        unfold eachRows
        rw [Rws.mapI_take _ HRJ.out, List.append_assoc])
      rw [HEQ.out] at HT4
      go_roundw
      case rel => exact ⟨j + 1, by omega, by go_num, HT4.out, HS4.out⟩
      case measure => simp [intOf]; omega
    · obtain rfl : n = j := by omega
      have HTK := Lib.hid (show vals.take n = vals from List.take_of_length_le (by rw [HNL.out]; exact Nat.le_refl _))
      rw [HTK.out] at HTL
      clear htl hts
      go_wp2_with fail
      exact bodyPost_end (v := .tuple #[]) (by simp [results, Try.results58, go_sem]) rfl ⟨rfl, HTL.out, HTS.out⟩

/-! ### items -/
theorem mapI_map {α β γ : Type} (f : Nat → β → γ) (g : α → β) (l : List α) : Rws.mapI f (l.map g) = Rws.mapI (fun i x => f i (g x)) l := by
  unfold Rws.mapI
  rw [List.zipIdx_map, List.map_map]
  rfl
theorem items4 (r : Rws.Round) : Rws.items 4 r = eachRows 4 r.no (r.ids.map fun y => Rws.nums [(y, 8)]) := by
  unfold eachRows Rws.items
  rw [mapI_map, if_pos rfl]; rfl
theorem items5 (r : Rws.Round) : Rws.items 5 r = eachRows 5 r.no (r.edges.map fun e => Rws.nums [(e.frm, 1), (e.to, 1), (e.cap, 8), (e.cost, 8)]) := by
  unfold eachRows Rws.items
  rw [mapI_map, if_neg (by decide), if_pos rfl]; rfl
theorem items6 (r : Rws.Round) : Rws.items 6 r = eachRows 6 r.no (r.flow.map fun y => Rws.nums [(y, 8)]) := by
  unfold eachRows Rws.items
  rw [mapI_map, if_neg (by decide), if_neg (by decide), if_pos rfl]; rfl
theorem items7 (r : Rws.Round) : Rws.items 7 r = eachRows 7 r.no (r.pot.map fun y => Rws.nums [(y, 8)]) := by
  unfold eachRows Rws.items
  rw [mapI_map, if_neg (by decide), if_neg (by decide), if_neg (by decide), if_pos rfl]; rfl
theorem nums1_len (y : Int) : (Rws.nums [(y, 8)]).length ≤ 1000 := by simp [Rws.nums, Oct.be_length]
theorem nums4_len (a b c d : Int) : (Rws.nums [(a, 1), (b, 1), (c, 8), (d, 8)]).length ≤ 1000 := by simp [Rws.nums, Oct.be_length]
theorem callF2 (args : Array Value) (w : World) : (callFunc 59 args).run Try.prog w = .ok (.enter 59 args) w := by kernel_rfl
theorem callF3 (args : Array Value) (w : World) : (callFunc 60 args).run Try.prog w = .ok (.enter 60 args) w := by kernel_rfl
theorem callF4 (args : Array Value) (w : World) : (callFunc 61 args).run Try.prog w = .ok (.enter 61 args) w := by kernel_rfl
theorem callF5 (args : Array Value) (w : World) : (callFunc 62 args).run Try.prog w = .ok (.enter 62 args) w := by kernel_rfl


set_option maxHeartbeats 1000000 in
theorem items4_any (base g B : Nat) (ps : List Rws.Pair) (x : Rws.Round) {Ai Ae Af Ap : Option Addr} {ci ce cf cp : Nat} (w : World) (hB : B ≤ base) (htold : Told w base g ps) (hfew : ps.length + x.ids.length ≤ 1900000) (ha : RoundAt w B x Ai Ae Af Ap ci ce cf cp) :
    Calls Try.prog 44 #[.int .u8 4, .agg (roundC x Ai Ae Af Ap ci ce cf cp).toArray, tellV g] w (ToldTo base g (ps ++ Rws.items 4 x) w) := by
  have HE := Lib.hid (fun w1 (hh : Tells base g w w1) (hT : Told w1 base g ps) (b0 : Blk w1 w.heap.size 5 #[.int .u8 4]) (b1 : Blk w1 (w.heap.size + 1) 64 (roundC x Ai Ae Af Ap ci ce cf cp).toArray) (b2 : Blk w1 (w.heap.size + 1 + 1) 68 #[tellV g]) =>
    each_any base g B ps x 4 (w.heap.size + 1 + 1) w.heap.size (w.heap.size + 1) 59 (x.ids.map fun y => Rws.nums [(y, 8)]) x.ids.length w1 callF2
      (fun i r hi w2 b3 ha2 hB2 => by
        rw [List.getElem?_map, Option.map_eq_some_iff] at hi
        obtain ⟨y, hy, rfl⟩ := hi
        exact val2_any B (w.heap.size + 1) i x y w2 b3 ha2 hB2 hy)
      (fun r hr => by
        rw [List.mem_map] at hr
        obtain ⟨y, _, rfl⟩ := hr
        exact nums1_len y) (List.length_map ..) hB hT hfew b2 b0 b1 (ha.below hh.bel hB))
  rw [← items4] at HE
  have bx := (Blk.new w 5 #[.int .u8 4]).alloc (.cells (roundC x Ai Ae Af Ap ci ce cf cp).toArray 64) |>.alloc (.cells #[tellV g] 68)
  have by_ := (Blk.new (w.alloc (.cells #[.int .u8 4] 5)) 64 (roundC x Ai Ae Af Ap ci ce cf cp).toArray).alloc (.cells #[tellV g] 68)
  have bz := Blk.new ((w.alloc (.cells #[.int .u8 4] 5)).alloc (.cells (roundC x Ai Ae Af Ap ci ce cf cp).toArray 64)) 68 #[tellV g]
  have l0 : Below w.heap.size w (((w.alloc (.cells #[.int .u8 4] 5)).alloc (.cells (roundC x Ai Ae Af Ap ci ce cf cp).toArray 64)).alloc (.cells #[tellV g] 68)) := (((Below.refl _ _).alloc (Nat.le_refl _) _).alloc (by simp) _).alloc (by simp; omega) _
  rw [show (w.alloc (.cells #[.int .u8 4] 5)).heap.size = w.heap.size + 1 by simp] at by_
  rw [show ((w.alloc (.cells #[.int .u8 4] 5)).alloc (.cells (roundC x Ai Ae Af Ap ci ce cf cp).toArray 64)).heap.size = w.heap.size + 1 + 1 by simp] at bz
  have HL := Lib.hid l0
  have HX := Lib.hid bx
  have HY := Lib.hid by_
  have HZ := Lib.hid bz
  have HT := Lib.hid htold
  clear bx by_ bz l0 htold hfew ha
  unfold roundC tellV at HX HY HZ HL HE ⊢
  go_enter Try.func44, Try.ntmps44
  go_wp2_with fail
  refine (HE.out _ (Tells.of_below HL.out HT.out.size) (HT.out.below HL.out) HX.out HY.out HZ.out).mono ?_
  rintro e w2 ⟨rfl, ht2, hs2⟩
  have HT2 := Lib.hid ht2
  have HS2 := Lib.hid ((Tells.of_below HL.out HT.out.size).trans hs2)
  clear ht2 hs2 HE HX HY HZ
  go_wp2_with fail
  exact bodyPost_end (v := .tuple #[]) (by simp [results, Try.results44, go_sem]) rfl ⟨rfl, HT2.out, HS2.out⟩

set_option maxHeartbeats 1000000 in
theorem items5_any (base g B : Nat) (ps : List Rws.Pair) (x : Rws.Round) {Ai Ae Af Ap : Option Addr} {ci ce cf cp : Nat} (w : World) (hB : B ≤ base) (htold : Told w base g ps) (hfew : ps.length + x.edges.length ≤ 1900000) (ha : RoundAt w B x Ai Ae Af Ap ci ce cf cp) :
    Calls Try.prog 44 #[.int .u8 5, .agg (roundC x Ai Ae Af Ap ci ce cf cp).toArray, tellV g] w (ToldTo base g (ps ++ Rws.items 5 x) w) := by
  have HE := Lib.hid (fun w1 (hh : Tells base g w w1) (hT : Told w1 base g ps) (b0 : Blk w1 w.heap.size 5 #[.int .u8 5]) (b1 : Blk w1 (w.heap.size + 1) 64 (roundC x Ai Ae Af Ap ci ce cf cp).toArray) (b2 : Blk w1 (w.heap.size + 1 + 1) 68 #[tellV g]) =>
    each_any base g B ps x 5 (w.heap.size + 1 + 1) w.heap.size (w.heap.size + 1) 60 (x.edges.map fun e => Rws.nums [(e.frm, 1), (e.to, 1), (e.cap, 8), (e.cost, 8)]) x.edges.length w1 callF3
      (fun i r hi w2 b3 ha2 hB2 => by
        rw [List.getElem?_map, Option.map_eq_some_iff] at hi
        obtain ⟨y, hy, rfl⟩ := hi
        exact val3_any B (w.heap.size + 1) i x y w2 b3 ha2 hB2 hy)
      (fun r hr => by
        rw [List.mem_map] at hr
        obtain ⟨y, _, rfl⟩ := hr
        exact nums4_len _ _ _ _) (List.length_map ..) hB hT hfew b2 b0 b1 (ha.below hh.bel hB))
  rw [← items5] at HE
  have bx := (Blk.new w 5 #[.int .u8 5]).alloc (.cells (roundC x Ai Ae Af Ap ci ce cf cp).toArray 64) |>.alloc (.cells #[tellV g] 68)
  have by_ := (Blk.new (w.alloc (.cells #[.int .u8 5] 5)) 64 (roundC x Ai Ae Af Ap ci ce cf cp).toArray).alloc (.cells #[tellV g] 68)
  have bz := Blk.new ((w.alloc (.cells #[.int .u8 5] 5)).alloc (.cells (roundC x Ai Ae Af Ap ci ce cf cp).toArray 64)) 68 #[tellV g]
  have l0 : Below w.heap.size w (((w.alloc (.cells #[.int .u8 5] 5)).alloc (.cells (roundC x Ai Ae Af Ap ci ce cf cp).toArray 64)).alloc (.cells #[tellV g] 68)) := (((Below.refl _ _).alloc (Nat.le_refl _) _).alloc (by simp) _).alloc (by simp; omega) _
  rw [show (w.alloc (.cells #[.int .u8 5] 5)).heap.size = w.heap.size + 1 by simp] at by_
  rw [show ((w.alloc (.cells #[.int .u8 5] 5)).alloc (.cells (roundC x Ai Ae Af Ap ci ce cf cp).toArray 64)).heap.size = w.heap.size + 1 + 1 by simp] at bz
  have HL := Lib.hid l0
  have HX := Lib.hid bx
  have HY := Lib.hid by_
  have HZ := Lib.hid bz
  have HT := Lib.hid htold
  clear bx by_ bz l0 htold hfew ha
  unfold roundC tellV at HX HY HZ HL HE ⊢
  go_enter Try.func44, Try.ntmps44
  go_wp2_with fail
  refine (HE.out _ (Tells.of_below HL.out HT.out.size) (HT.out.below HL.out) HX.out HY.out HZ.out).mono ?_
  rintro e w2 ⟨rfl, ht2, hs2⟩
  have HT2 := Lib.hid ht2
  have HS2 := Lib.hid ((Tells.of_below HL.out HT.out.size).trans hs2)
  clear ht2 hs2 HE HX HY HZ
  go_wp2_with fail
  exact bodyPost_end (v := .tuple #[]) (by simp [results, Try.results44, go_sem]) rfl ⟨rfl, HT2.out, HS2.out⟩

set_option maxHeartbeats 1000000 in
theorem items6_any (base g B : Nat) (ps : List Rws.Pair) (x : Rws.Round) {Ai Ae Af Ap : Option Addr} {ci ce cf cp : Nat} (w : World) (hB : B ≤ base) (htold : Told w base g ps) (hfew : ps.length + x.flow.length ≤ 1900000) (ha : RoundAt w B x Ai Ae Af Ap ci ce cf cp) :
    Calls Try.prog 44 #[.int .u8 6, .agg (roundC x Ai Ae Af Ap ci ce cf cp).toArray, tellV g] w (ToldTo base g (ps ++ Rws.items 6 x) w) := by
  have HE := Lib.hid (fun w1 (hh : Tells base g w w1) (hT : Told w1 base g ps) (b0 : Blk w1 w.heap.size 5 #[.int .u8 6]) (b1 : Blk w1 (w.heap.size + 1) 64 (roundC x Ai Ae Af Ap ci ce cf cp).toArray) (b2 : Blk w1 (w.heap.size + 1 + 1) 68 #[tellV g]) =>
    each_any base g B ps x 6 (w.heap.size + 1 + 1) w.heap.size (w.heap.size + 1) 61 (x.flow.map fun y => Rws.nums [(y, 8)]) x.flow.length w1 callF4
      (fun i r hi w2 b3 ha2 hB2 => by
        rw [List.getElem?_map, Option.map_eq_some_iff] at hi
        obtain ⟨y, hy, rfl⟩ := hi
        exact val4_any B (w.heap.size + 1) i x y w2 b3 ha2 hB2 hy)
      (fun r hr => by
        rw [List.mem_map] at hr
        obtain ⟨y, _, rfl⟩ := hr
        exact nums1_len y) (List.length_map ..) hB hT hfew b2 b0 b1 (ha.below hh.bel hB))
  rw [← items6] at HE
  have bx := (Blk.new w 5 #[.int .u8 6]).alloc (.cells (roundC x Ai Ae Af Ap ci ce cf cp).toArray 64) |>.alloc (.cells #[tellV g] 68)
  have by_ := (Blk.new (w.alloc (.cells #[.int .u8 6] 5)) 64 (roundC x Ai Ae Af Ap ci ce cf cp).toArray).alloc (.cells #[tellV g] 68)
  have bz := Blk.new ((w.alloc (.cells #[.int .u8 6] 5)).alloc (.cells (roundC x Ai Ae Af Ap ci ce cf cp).toArray 64)) 68 #[tellV g]
  have l0 : Below w.heap.size w (((w.alloc (.cells #[.int .u8 6] 5)).alloc (.cells (roundC x Ai Ae Af Ap ci ce cf cp).toArray 64)).alloc (.cells #[tellV g] 68)) := (((Below.refl _ _).alloc (Nat.le_refl _) _).alloc (by simp) _).alloc (by simp; omega) _
  rw [show (w.alloc (.cells #[.int .u8 6] 5)).heap.size = w.heap.size + 1 by simp] at by_
  rw [show ((w.alloc (.cells #[.int .u8 6] 5)).alloc (.cells (roundC x Ai Ae Af Ap ci ce cf cp).toArray 64)).heap.size = w.heap.size + 1 + 1 by simp] at bz
  have HL := Lib.hid l0
  have HX := Lib.hid bx
  have HY := Lib.hid by_
  have HZ := Lib.hid bz
  have HT := Lib.hid htold
  clear bx by_ bz l0 htold hfew ha
  unfold roundC tellV at HX HY HZ HL HE ⊢
  go_enter Try.func44, Try.ntmps44
  go_wp2_with fail
  refine (HE.out _ (Tells.of_below HL.out HT.out.size) (HT.out.below HL.out) HX.out HY.out HZ.out).mono ?_
  rintro e w2 ⟨rfl, ht2, hs2⟩
  have HT2 := Lib.hid ht2
  have HS2 := Lib.hid ((Tells.of_below HL.out HT.out.size).trans hs2)
  clear ht2 hs2 HE HX HY HZ
  go_wp2_with fail
  exact bodyPost_end (v := .tuple #[]) (by simp [results, Try.results44, go_sem]) rfl ⟨rfl, HT2.out, HS2.out⟩

set_option maxHeartbeats 1000000 in
theorem items7_any (base g B : Nat) (ps : List Rws.Pair) (x : Rws.Round) {Ai Ae Af Ap : Option Addr} {ci ce cf cp : Nat} (w : World) (hB : B ≤ base) (htold : Told w base g ps) (hfew : ps.length + x.pot.length ≤ 1900000) (ha : RoundAt w B x Ai Ae Af Ap ci ce cf cp) :
    Calls Try.prog 44 #[.int .u8 7, .agg (roundC x Ai Ae Af Ap ci ce cf cp).toArray, tellV g] w (ToldTo base g (ps ++ Rws.items 7 x) w) := by
  have HE := Lib.hid (fun w1 (hh : Tells base g w w1) (hT : Told w1 base g ps) (b0 : Blk w1 w.heap.size 5 #[.int .u8 7]) (b1 : Blk w1 (w.heap.size + 1) 64 (roundC x Ai Ae Af Ap ci ce cf cp).toArray) (b2 : Blk w1 (w.heap.size + 1 + 1) 68 #[tellV g]) =>
    each_any base g B ps x 7 (w.heap.size + 1 + 1) w.heap.size (w.heap.size + 1) 62 (x.pot.map fun y => Rws.nums [(y, 8)]) x.pot.length w1 callF5
      (fun i r hi w2 b3 ha2 hB2 => by
        rw [List.getElem?_map, Option.map_eq_some_iff] at hi
        obtain ⟨y, hy, rfl⟩ := hi
        exact val5_any B (w.heap.size + 1) i x y w2 b3 ha2 hB2 hy)
      (fun r hr => by
        rw [List.mem_map] at hr
        obtain ⟨y, _, rfl⟩ := hr
        exact nums1_len y) (List.length_map ..) hB hT hfew b2 b0 b1 (ha.below hh.bel hB))
  rw [← items7] at HE
  have bx := (Blk.new w 5 #[.int .u8 7]).alloc (.cells (roundC x Ai Ae Af Ap ci ce cf cp).toArray 64) |>.alloc (.cells #[tellV g] 68)
  have by_ := (Blk.new (w.alloc (.cells #[.int .u8 7] 5)) 64 (roundC x Ai Ae Af Ap ci ce cf cp).toArray).alloc (.cells #[tellV g] 68)
  have bz := Blk.new ((w.alloc (.cells #[.int .u8 7] 5)).alloc (.cells (roundC x Ai Ae Af Ap ci ce cf cp).toArray 64)) 68 #[tellV g]
  have l0 : Below w.heap.size w (((w.alloc (.cells #[.int .u8 7] 5)).alloc (.cells (roundC x Ai Ae Af Ap ci ce cf cp).toArray 64)).alloc (.cells #[tellV g] 68)) := (((Below.refl _ _).alloc (Nat.le_refl _) _).alloc (by simp) _).alloc (by simp; omega) _
  rw [show (w.alloc (.cells #[.int .u8 7] 5)).heap.size = w.heap.size + 1 by simp] at by_
  rw [show ((w.alloc (.cells #[.int .u8 7] 5)).alloc (.cells (roundC x Ai Ae Af Ap ci ce cf cp).toArray 64)).heap.size = w.heap.size + 1 + 1 by simp] at bz
  have HL := Lib.hid l0
  have HX := Lib.hid bx
  have HY := Lib.hid by_
  have HZ := Lib.hid bz
  have HT := Lib.hid htold
  clear bx by_ bz l0 htold hfew ha
  unfold roundC tellV at HX HY HZ HL HE ⊢
  go_enter Try.func44, Try.ntmps44
  go_wp2_with fail
  refine (HE.out _ (Tells.of_below HL.out HT.out.size) (HT.out.below HL.out) HX.out HY.out HZ.out).mono ?_
  rintro e w2 ⟨rfl, ht2, hs2⟩
  have HT2 := Lib.hid ht2
  have HS2 := Lib.hid ((Tells.of_below HL.out HT.out.size).trans hs2)
  clear ht2 hs2 HE HX HY HZ
  go_wp2_with fail
  exact bodyPost_end (v := .tuple #[]) (by simp [results, Try.results44, go_sem]) rfl ⟨rfl, HT2.out, HS2.out⟩

end Go.Proofs.Ytniekddoaokmkaa

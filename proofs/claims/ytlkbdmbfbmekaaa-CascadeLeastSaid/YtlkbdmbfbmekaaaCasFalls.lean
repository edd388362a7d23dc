/-
  Layer 31 (cascade): all rounds, walked.
-/
import Derived.Test.YtlkbdmbfbmekaaaCasFails
namespace Go.Proofs.Ytlkbdmbfbmekaaa
open Go.RowKit Go.Gab
set_option linter.unusedVariables false
attribute [local go_sem ↓] Go.wp_at_zero Go.wp_at_succ

/-! ### Is a number among some? -/
set_option maxHeartbeats 1000000 in
theorem sliceIndex_any (B : Nat) (A : Option Addr) (n c : Nat) (zs : List Int) (y : Int) (w : World) (hr : SlI w B A n c zs) :
    Calls Try.prog 60 #[.slice A n c, .int .i64 y] w fun e w' => (∃ z, e = .returned (.int .i64 z) ∧ decide (0 ≤ z) = zs.contains y) ∧ w = w' := by
  have hnc := hr.nc
  have hcm := hr.cm
  have HLN := Lib.hid hr.len
  have hc : zs.contains y = zs.any (fun x => x == y) := by
    rw [List.contains_eq_any_beq]
    congr 1
    funext x
    exact Bool.beq_comm
  obtain ⟨q, hq⟩ : ∃ q, zs.contains y = q := ⟨_, rfl⟩
  rw [hq] at hc ⊢
  have HC := Lib.hid hc
  clear hc hq
  go_enter Try.func60, Try.ntmps60
  go_wp2_with fail
  go_loop [8] (fun i => ∃ j : Nat, j ≤ n ∧ i = .int .i64 j ∧ zs.any (fun x => x == y) = (zs.drop j).any (fun x => x == y)) (fun i => n - (intOf i).toNat)
  case atStart => exact ⟨0, Nat.zero_le _, rfl, rfl⟩
  case round =>
    obtain ⟨j, hj, rfl, hany⟩ := hrel
    by_cases hlt : j < n
    · obtain ⟨b, off, x, rfl, hb, hx, h0, _⟩ := int_at' hr hlt
      have hd := any_drop zs (fun x => x == y) hx
      have HANY := Lib.hid (hany.trans hd)
      clear hany hd hx
      by_cases hp : y = x
      · have HP := Lib.hid (show (x == y) = true by simp [hp])
        subst hp
        go_wp2_with fail
        go_ret
        exact ⟨⟨_, rfl, by rw [HC.out, HANY.out, HP.out]; simp⟩, rfl⟩
      · have HP := Lib.hid (show (x == y) = false by simp; exact fun e => hp e.symm)
        have hpb : (y == x) = false := by simpa using hp
        clear hp
        go_wp2_with fail
        go_round
        case rel => exact ⟨j + 1, by omega, by go_num, by rw [HANY.out, HP.out, Bool.false_or]⟩
        case measure => simp [intOf]; omega
    · obtain rfl : j = n := by omega
      have HANY := Lib.hid hany
      clear hany
      go_wp2_with fail
      go_ret
      exact ⟨⟨_, rfl, by rw [HC.out, HANY.out, List.drop_of_length_le (by rw [HLN.out]; exact Nat.le_refl _)]; rfl⟩, rfl⟩

theorem sliceContains_any (B : Nat) (A : Option Addr) (n c : Nat) (zs : List Int) (y : Int) (w : World) (hr : SlI w B A n c zs) :
    Calls Try.prog 45 #[.slice A n c, .int .i64 y] w fun e w' => e = .returned (.bool (zs.contains y)) ∧ w = w' := by
  have HI := Lib.hid (sliceIndex_any B A n c zs y w hr)
  generalize zs.contains y = q at HI ⊢
  go_enter Try.func45, Try.ntmps45
  go_wp2_with fail
  refine HI.out.mono ?_
  rintro e w2 ⟨⟨z, rfl, hz⟩, rfl⟩
  have HZ := Lib.hid hz
  clear hz
  go_wp2_with fail
  go_ret
  exact ⟨ret_bool HZ.out, rfl⟩

theorem falls1_any (h B : Nat) (A : Option Addr) (n c : Nat) (zs : List Int) (k : Nat) (w : World) (hc : w.cell? ⟨h, 0, none⟩ = some (.slice A n c)) (hr : SlI w B A n c zs) :
    Calls Try.prog 57 #[.int .i64 (k : Int), .pointer (some ⟨h, 0, none⟩)] w fun e w' => e = .returned (.bool (zs.contains (k : Int))) ∧ w = w' := by
  have HI := Lib.hid (sliceContains_any B A n c zs (k : Int) w hr)
  generalize zs.contains (k : Int) = q at HI ⊢
  go_enter Try.func57, Try.ntmps57
  go_wp2_with fail
  refine HI.out.mono ?_
  rintro e w2 ⟨rfl, rfl⟩
  go_wp2_with fail
  go_ret
  exact ⟨rfl, rfl⟩

theorem falls2_any (h g B : Nat) (A : Option Addr) (n c : Nat) (xs : List AcctT) (l : List Cas.Due) (d : Nat → Bool) (k : Nat) (w : World) (hc : w.cell? ⟨h, 0, none⟩ = some (.pointer (some ⟨g, 0, none⟩))) (hb : Bank w g B A n c xs l d) (hk : k < n) :
    Calls Try.prog 58 #[.int .i64 (k : Int), .pointer (some ⟨h, 0, none⟩)] w fun e w' => e = .returned (.bool (decide (0 < Cas.lack (xs.map bal) l d k))) ∧ w = w' := by
  have HL := Lib.hid (lacks_any g B A n c xs l d k w hb hk)
  generalize Cas.lack (xs.map bal) l d k = F at HL ⊢
  go_enter Try.func58, Try.ntmps58
  go_wp2_with fail
  refine HL.out.mono ?_
  rintro e w2 ⟨rfl, rfl⟩
  go_wp2_with fail
  go_ret
  exact ⟨rfl, rfl⟩

theorem call58 (args : Array Value) (w : World) : (callFunc 58 args).run Try.prog w = .ok (.enter 58 args) w := by kernel_rfl

/-! ### Rows of rows -/
theorem own_own_ne {w : World} {b1 b2 : Nat} {e1 e2 : TypeId} {s1 s2 n1 n2 : Nat} {v1 v2 : Value} {x1 x2 : List Value} (h1 : w.ownsRow b1 e1 s1 v1 n1 x1) (h2 : w.ownsRow b2 e2 s2 v2 n2 x2) (hne : e1 ≠ e2) :
    v1.ownBlock = none ∨ v1.ownBlock ≠ v2.ownBlock := by
  rcases h1.2 with ⟨rfl, _⟩ | ⟨g1, cap1, cur1, rfl, _, hh1, _⟩
  · exact .inl rfl
  · rcases h2.2 with ⟨rfl, _⟩ | ⟨g2, cap2, cur2, rfl, _, hh2, _⟩
    · right; simp [Value.ownBlock]
    · right
      intro he
      have : g1 = g2 := by simpa [Value.ownBlock] using he
      subst this
      rw [hh1] at hh2
      injection hh2 with hh2
      injection hh2 with _ ht
      exact hne ht

/-- Slice values that are rows of numbers, each in memory of its own. -/
def RowsOf (w : World) (base : Nat) (vs : List Value) (rs : List (List Nat)) : Prop :=
  vs.length = rs.length ∧ ∀ (i : Nat) (s : List Nat), rs[i]? = some s → ∃ A c, vs[i]? = some (.slice A s.length c) ∧ w.ownsRow base 3 1 (.slice A s.length c) s.length (s.map natV)

theorem RowsOf.kept {w w' : World} {base : Nat} {vs : List Value} {rs : List (List Nat)} {row : Option Nat} (h : RowsOf w base vs rs) (hg : w.grownBy w' row)
    (hne : ∀ (v : Value) (n : Nat) (xs : List Value), w.ownsRow base 3 1 v n xs → v.ownBlock = none ∨ v.ownBlock ≠ row) : RowsOf w' base vs rs :=
  ⟨h.1, fun i s hs => by
    obtain ⟨A, c, hv, ho⟩ := h.2 i s hs
    exact ⟨A, c, hv, ho.kept hg (hne _ _ _ ho)⟩⟩

theorem RowsOf.snoc {w : World} {base : Nat} {vs : List Value} {rs : List (List Nat)} {s : List Nat} {A : Option Addr} {c : Nat} (h : RowsOf w base vs rs) (ho : w.ownsRow base 3 1 (.slice A s.length c) s.length (s.map natV)) :
    RowsOf w base (vs ++ [.slice A s.length c]) (rs ++ [s]) := by
  refine ⟨by simp [h.1], fun i t ht => ?_⟩
  by_cases hi : i < rs.length
  · rw [List.getElem?_append_left hi] at ht
    obtain ⟨A1, c1, hv, h1⟩ := h.2 i t ht
    exact ⟨A1, c1, by rw [List.getElem?_append_left (by rw [h.1]; exact hi)]; exact hv, h1⟩
  · rw [List.getElem?_append_right (by omega)] at ht
    have h0 : i - rs.length = 0 := by
      have := (List.getElem?_eq_some_iff.1 ht).1
      simp at this
      omega
    rw [h0] at ht
    simp at ht
    subst ht
    exact ⟨A, c, by rw [List.getElem?_append_right (by rw [h.1]; omega), h.1, h0]; rfl, ho⟩

theorem infoInts : (Try.prog.info? 47).map (fun i => (i.zero, i.size, i.bytes)) = some (some (.slice none 0 0), 1, 24) := by kernel_rfl

/-- All rounds, and who failed. -/
def FallsTo (w : World) (g : Nat) (v0 : Value) (l : List Cas.Due) (rs : List (List Nat)) (d : Nat → Bool) (e : Ending) (w' : World) : Prop :=
  ∃ A c vs, e = .returned (.slice A rs.length c) ∧ w'.ownsRow w.heap.size 47 1 (.slice A rs.length c) rs.length vs ∧ RowsOf w' w.heap.size vs rs ∧
    Blk w' g 84 (bankC v0 (Cas.own l) d) ∧ w.grownBy w' (some g)

theorem Bank.kept {w w' : World} {g B : Nat} {A : Option Addr} {n c : Nat} {xs : List AcctT} {l : List Cas.Due} {d d' : Nat → Bool} (h : Bank w g B A n c xs l d) (hg : w.grownBy w' (some g))
    (hb : Blk w' g 84 (bankC (.slice A n c) (Cas.own l) d')) (hB : B ≤ w.heap.size) : Bank w' g B A n c xs l d' :=
  ⟨hb, h.acc.keep fun p hp => World.cell?_of_block (hg.block p.block (by omega) (fun e => by cases e; have := h.old; omega)), h.ok, h.old⟩

theorem Bank.grow {w w' : World} {g B : Nat} {A : Option Addr} {n c : Nat} {xs : List AcctT} {l : List Cas.Due} {d : Nat → Bool} {row : Option Nat} (h : Bank w g B A n c xs l d) (hg : w.grownBy w' row)
    (hB : B ≤ w.heap.size) (hr : ∀ q, row = some q → g < q) : Bank w' g B A n c xs l d :=
  ⟨h.obj.grown hg (fun e => by have := hr g e.symm; omega), h.acc.keep fun p hp => World.cell?_of_block (hg.block p.block (by omega) (fun e => by have := hr p.block e.symm; have := h.old; omega)), h.ok, h.old⟩
theorem RowsOf.alloc {w : World} {base : Nat} {vs : List Value} {rs : List (List Nat)} (h : RowsOf w base vs rs) (o : Obj) : RowsOf (w.alloc o) base vs rs :=
  ⟨h.1, fun i s hs => by
    obtain ⟨A, c, hv, ho⟩ := h.2 i s hs
    exact ⟨A, c, hv, ho.alloc o⟩⟩
theorem own_low {w : World} {base base' size n : Nat} {e : TypeId} {v : Value} {xs : List Value} (h : w.ownsRow base e size v n xs) (hb : base' ≤ base) : w.ownsRow base' e size v n xs :=
  ⟨h.1, h.2.elim Or.inl (fun ⟨g, cap, cur, hv, hg, r⟩ => Or.inr ⟨g, cap, cur, hv, Nat.le_trans hb hg, r⟩)⟩
theorem RowsOf.low {w : World} {base base' : Nat} {vs : List Value} {rs : List (List Nat)} (h : RowsOf w base vs rs) (hb : base' ≤ base) : RowsOf w base' vs rs :=
  ⟨h.1, fun i s hs => by
    obtain ⟨A, c, hv, ho⟩ := h.2 i s hs
    exact ⟨A, c, hv, own_low ho hb⟩⟩
theorem RowsOf.nil (w : World) (base : Nat) : RowsOf w base [] [] := ⟨rfl, fun i s hs => by simp at hs⟩
def rowsN : Value → Nat
  | .slice _ m _ => m
  | _ => 0

theorem who_first (bals : List Int) (first : List Int) (d : Nat → Bool) : who bals.length d (fun k => first.contains (k : Int)) = Cas.firsts bals d first := rfl
theorem who_next (bals : List Int) (l : List Cas.Due) (d : Nat → Bool) : who bals.length d (fun k => decide (0 < Cas.lack bals l d k)) = Cas.next bals l d := rfl
/-- All rounds, where some may have failed before. -/
def fallsD (bals : List Int) (l : List Cas.Due) (d : Nat → Bool) (first : List Int) : List (List Nat) :=
  (if Cas.firsts bals d first = [] then [] else [Cas.firsts bals d first]) ++ Cas.cas bals l (Cas.mark d (Cas.firsts bals d first))

set_option maxHeartbeats 4000000 in
set_option maxRecDepth 20000 in
theorem falls_any (g B : Nat) (A : Option Addr) (n c : Nat) (xs : List AcctT) (l : List Cas.Due) (d : Nat → Bool) (A2 : Option Addr) (n2 c2 : Nat) (zs : List Int) (w : World) (hb : Bank w g B A n c xs l d) (hB : B ≤ w.heap.size)
    (B2 : Nat) (hr : SlI w B2 A2 n2 c2 zs) (hB2 : B2 ≤ w.heap.size) :
    Calls Try.prog 43 #[.pointer (some ⟨g, 0, none⟩), .slice A2 n2 c2] w
      (FallsTo w g (.slice A n c) l (fallsD (xs.map bal) l d zs) (Cas.fin d (fallsD (xs.map bal) l d zs))) := by
  have hlen : (xs.map bal).length = n := by rw [List.length_map, hb.acc.len]
  have hn16 := hb.n16
  obtain ⟨i0, hi0, hz0, hz1, hz2⟩ := info_parts infoInts
  have hneq := fun (w : World) (a : Option Addr) (m e : Nat) => run_neq_slice_nil_any (P := Try.prog) w 47 3 a m e 0 0 Try.underlying47
  have heql := fun (w : World) (a : Option Addr) (m e : Nat) => Lib.run_eql_slice_nil (P := Try.prog) w 47 3 a m e 0 0 Try.underlying47
  have HBK := Lib.hid hb
  have HR := Lib.hid hr
  have HLEN := Lib.hid hlen
  clear hb hr hlen
  go_enter Try.func43, Try.ntmps43
  go_wp2_with fail
  have b2 := (Blk.new w 76 #[.pointer (some ⟨g, 0, none⟩)]).alloc (.cells #[.slice A2 n2 c2] 47)
  have b3 := Blk.new (w.alloc (.cells #[.pointer (some ⟨g, 0, none⟩)] 76)) 47 #[.slice A2 n2 c2]
  rw [show (w.alloc (.cells #[.pointer (some ⟨g, 0, none⟩)] 76)).heap.size = w.heap.size + 1 by simp] at b3
  have l0 : Below w.heap.size w ((w.alloc (.cells #[.pointer (some ⟨g, 0, none⟩)] 76)).alloc (.cells #[.slice A2 n2 c2] 47)) := ((Below.refl _ _).alloc (Nat.le_refl _) _).alloc (by simp) _
  generalize (w.alloc (.cells #[.pointer (some ⟨g, 0, none⟩)] 76)).alloc (.cells #[.slice A2 n2 c2] 47) = W at b2 b3 l0 ⊢
  have hgw : g < w.heap.size := HBK.out.obj.lt
  have HG := Lib.hid hgw
  have HBW := Lib.hid (show Bank W g B A n c xs l d from ⟨HBK.out.obj.below l0 hgw, HBK.out.acc.below l0 hB, HBK.out.ok, HBK.out.old⟩)
  have HRW := Lib.hid (HR.out.below l0 hB2)
  have HZW := Lib.hid l0.size
  have HL0 := Lib.hid l0
  obtain ⟨h2, hh2⟩ : ∃ h, h = w.heap.size := ⟨_, rfl⟩
  rw [← hh2] at b2 b3 ⊢
  obtain ⟨h3, hh3⟩ : ∃ h, h = h2 + 1 := ⟨_, rfl⟩
  rw [← hh3] at b3 ⊢
  have HNE := Lib.hid (show h2 ≠ g by omega)
  have H2 := Lib.hid b2
  have H3 := Lib.hid b3
  have HF1 := Lib.hid (fails_any 57 (.pointer (some ⟨h3, 0, none⟩)) (fun k => zs.contains (k : Int)) g B A n c xs l d W HBW.out call57 (fun w' hw k hk =>
    falls1_any h3 B2 A2 n2 c2 zs k w' ((hw.cell (p := ⟨h3, 0, none⟩) H3.out.lt).trans (H3.out.cell 0)) (HRW.out.below hw (by have := HZW.out; omega))))
  have hc0 := b2.cell 0
  simp only [List.getElem?_toArray, List.getElem?_cons_zero] at hc0
  obtain ⟨s0, hs0⟩ : ∃ s, Cas.firsts (xs.map bal) d zs = s := ⟨_, rfl⟩
  have hw0 : who n d (fun k => zs.contains (k : Int)) = s0 := by rw [← HLEN.out]; exact hs0
  have hsl : s0.length ≤ 16 := by rw [← hw0]; exact Nat.le_trans (who_len _ _ _) hn16
  have HFD := Lib.hid (show fallsD (xs.map bal) l d zs = (if s0 = [] then [] else [s0]) ++ Cas.cas (xs.map bal) l (Cas.mark d s0) by unfold fallsD; rw [hs0])
  rw [hw0] at HF1
  clear hh2 hh3 b2 b3 l0 hs0 hw0 hgw
  go_wp2_with fail
  refine HF1.out.mono ?_
  rintro e w1 ⟨A1, e1, rfl, hnil, hown, hbk, hgr⟩
  clear HF1 hc0
  have HO := Lib.hid hown
  have HB1 := Lib.hid (HBW.out.kept hgr hbk (by have := HZW.out; omega))
  have HGR := Lib.hid (only_trans (only_of_below HL0.out (some g)) hgr (.inl rfl))
  have H21 := Lib.hid (H2.out.grown hgr (by have := HNE.out; simpa using this))
  clear hown hbk hgr
  go_upto_if 12 with (fail)
  go_cut [5] (fun v wx => ∃ (m e : Nat) (A3 : Option Addr) (rs : List (List Nat)) (vs : List Value), v = .slice A3 m e ∧ rs = (if s0 = [] then [] else [s0]) ∧ m = rs.length ∧ wx.ownsRow w.heap.size 47 1 (.slice A3 m e) m vs ∧ RowsOf wx w.heap.size vs rs ∧ Bank wx g B A n c xs l (Cas.mark d s0) ∧ w.grownBy wx (some g) ∧ Blk wx h2 76 #[.pointer (some ⟨g, 0, none⟩)])
  case first =>
    by_cases h0 : s0 = []
    · obtain ⟨rfl, rfl⟩ := hnil h0
      have HH0 := Lib.hid h0
      clear h0 hnil
      go_wp2_with fail
      go_meet
      case rel => exact ⟨0, 0, none, [], [], rfl, by rw [if_pos HH0.out], rfl, World.ownsRow_nil _ _ _ _, RowsOf.nil _ _, HB1.out, HGR.out, H21.out⟩
    · obtain ⟨g1, cap1, hA, _, _⟩ := HO.out.form (by cases s0 with
        | nil => exact absurd rfl h0
        | cons a s => simp)
      injection hA with hA1 _ hA2
      subst hA1 hA2
      have HH0 := Lib.hid h0
      clear h0 hnil
      go_wp2_with (at_builtin; go_loud (
                   refine wpList_append_any _ rfl _ _ _ rfl w.heap.size 47 i0 _ 1 24 Try.underlying48 hi0 hz0 hz1 hz2 rfl (by omega) (.slice none 0 0) _ _ rfl (World.ownsRow_nil _ _ _ _) (w1.heap.size + 1) (some ⟨w1.heap.size, 0, none⟩) 1 1 [.slice (some ⟨g1, 0, none⟩) s0.length e1] rfl (by exact (Sl.lit (k := 1) (cap := 1) _ _ _ _ _ _ rfl rfl rfl (by omega) (by omega)).rd) (by simp [Value.oneCell']) (by simp only [maxLen]; omega) (by omega) (by have := HGR.out.size; simp; omega) ?_
                   intro v4 w4 hown4 hg4 hat4
                   have HR4 := Lib.hid ((((RowsOf.nil w1 w.heap.size).snoc (own_low HO.out HZW.out)).alloc _).kept hg4 (fun v _ _ _ => Classical.em (v.ownBlock = none)))
                   have HB4 := Lib.hid ((HB1.out.grow (row := none) (only_of_below ((Below.refl w1.heap.size w1).alloc (Nat.le_refl _) _) none) (by have := HGR.out.size; omega) (fun q hq => by cases hq)).grow hg4 (by have := HGR.out.size; simp; omega) (fun q hq => by simp [Value.ownBlock] at hq))
                   have HG4 := Lib.hid (only_trans (only_trans HGR.out (only_of_below ((Below.refl w1.heap.size w1).alloc (Nat.le_refl _) _) (some g)) (.inl rfl)) hg4 (.inr (fun q hq => by simp [Value.ownBlock] at hq)))
                   have H24 := Lib.hid ((H21.out.alloc _).grown hg4 (by simp [Value.ownBlock]))
                   obtain ⟨A4, d4, rfl⟩ := own_slice hown4
                   have HO4 := Lib.hid hown4
                   clear hg4 hat4 hown4))
      go_meet
      case rel => exact ⟨0 + 1, d4, A4, [s0], _, rfl, by rw [if_neg HH0.out], rfl, HO4.out, HR4.out, HB4.out, HG4.out, H24.out⟩
  case rest =>
    clear HO HB1 HGR H21 hnil
    obtain ⟨m0, e0, A0, rs0, vs0, rfl, hrs0, hm0, hown0, hrows0, hbk0, hgr0, hh0⟩ := hcut
    go_wp2_with fail
    go_loopw [5] (fun v wr => ∃ (m e : Nat) (A3 : Option Addr) (rs : List (List Nat)) (vs : List Value) (dn : Nat → Bool), v = .slice A3 m e ∧ m = rs.length ∧ fallsD (xs.map bal) l d zs = rs ++ Cas.cas (xs.map bal) l dn ∧ dn = Cas.fin d rs ∧ m + Cas.free (xs.map bal) dn ≤ 17 ∧ wr.ownsRow w.heap.size 47 1 (.slice A3 m e) m vs ∧ RowsOf wr w.heap.size vs rs ∧ Bank wr g B A n c xs l dn ∧ w.grownBy wr (some g) ∧ Blk wr h2 76 #[.pointer (some ⟨g, 0, none⟩)]) (fun v _ => 18 - rowsN v)
    case atStart =>
      refine ⟨m0, e0, A0, rs0, vs0, Cas.mark d s0, rfl, hm0, by rw [HFD.out, hrs0], ?_, ?_, hown0, hrows0, hbk0, hgr0, hh0⟩
      · rw [hrs0]
        split
        · next h => rw [h, Cas.mark_nil]; rfl
        · rfl
      · have h1 := Cas.free_le (bals := xs.map bal) (Cas.mark d s0)
        have h2 := HLEN.out
        have : m0 ≤ 1 := by rw [hm0, hrs0]; split <;> simp
        omega
    case round =>
      clear hown0 hrows0 hbk0 hgr0 hh0 hrs0 hm0
      obtain ⟨m, e, A3, rs, vs, dn, rfl, hm, hfd, hdn, hfree, hown, hrows, hbk, hgr, hh⟩ := hrel
      have HM := Lib.hid hm
      have HFD1 := Lib.hid hfd
      have HDN := Lib.hid hdn
      have HFR := Lib.hid hfree
      have HO := Lib.hid hown
      have HRS := Lib.hid hrows
      have HB1 := Lib.hid hbk
      have HGR := Lib.hid hgr
      have H21 := Lib.hid hh
      have HSZ := Lib.hid hgr.size
      have HF2 := Lib.hid (fails_any 58 (.pointer (some ⟨h2, 0, none⟩)) (fun k => decide (0 < Cas.lack (xs.map bal) l dn k)) g B A n c xs l dn wr hbk call58 (fun w' hw k hk =>
        falls2_any h2 g B A n c xs l dn k w' ((hw.cell (p := ⟨h2, 0, none⟩) H21.out.lt).trans (H21.out.cell 0)) ⟨HB1.out.obj.below hw HB1.out.obj.lt, HB1.out.acc.below hw (by have := HSZ.out; omega), HB1.out.ok, HB1.out.old⟩ hk))
      obtain ⟨s, hs⟩ : ∃ s, Cas.next (xs.map bal) l dn = s := ⟨_, rfl⟩
      have hw0 : who n dn (fun k => decide (0 < Cas.lack (xs.map bal) l dn k)) = s := by rw [← HLEN.out]; exact hs
      have hsl : s.length ≤ 16 := by rw [← hw0]; exact Nat.le_trans (who_len _ _ _) hn16
      rw [hw0] at HF2
      have HS := Lib.hid hs
      have hc0 := H21.out.cell 0
      simp only [List.getElem?_toArray, List.getElem?_cons_zero] at hc0
      have hm17 : m ≤ 17 := by omega
      clear hm hfd hdn hfree hown hrows hbk hgr hh hw0 hs
      go_wp2_with fail
      refine HF2.out.mono ?_
      rintro e1 w1 ⟨A1, e1, rfl, hnil, hown, hbk, hgr⟩
      clear HF2 hc0
      have HO1 := Lib.hid (own_low hown HSZ.out)
      have HB2 := Lib.hid (HB1.out.kept hgr hbk (by have := HSZ.out; omega))
      have HGR1 := Lib.hid (only_trans HGR.out hgr (.inl rfl))
      have H22 := Lib.hid (H21.out.grown hgr (by have := HNE.out; simpa using this))
      have HA := Lib.hid (HO.out.kept hgr (.inr (own_blk_ne HO.out HB1.out.obj (by decide))))
      have HRS1 := Lib.hid (HRS.out.kept hgr (fun v n xs ho => .inr (own_blk_ne ho HB1.out.obj (by decide))))
      clear hown hbk hgr
      by_cases h0 : s = []
      · obtain ⟨rfl, rfl⟩ := hnil h0
        have HE := Lib.hid (show fallsD (xs.map bal) l d zs = rs by rw [HFD1.out, Cas.cas_stop (by rw [HS.out]; exact h0), List.append_nil])
        have HD2 := Lib.hid (show Cas.mark dn s = Cas.fin d rs by rw [h0, Cas.mark_nil]; exact HDN.out)
        clear h0 hnil
        go_wp2_with fail
        go_ret
        rw [HE.out]
        have hm := HM.out
        subst hm
        exact ⟨A3, e, vs, rfl, HA.out, HRS1.out, by rw [← HD2.out]; exact HB2.out.obj, HGR1.out⟩
      · obtain ⟨g1, cap1, hA, _, _⟩ := HO1.out.form (by cases s with
          | nil => exact absurd rfl h0
          | cons a s => simp)
        injection hA with hA1 _ hA2
        subst hA1 hA2
        have hne : Cas.next (xs.map bal) l dn ≠ [] := by rw [HS.out]; exact h0
        have HGO := Lib.hid (Cas.cas_go hne)
        have HLT := Lib.hid (Cas.free_mark hne)
        rw [HS.out] at HGO HLT
        clear h0 hnil hne
        go_wp2_with (at_builtin; go_loud (
                     refine wpList_append_any _ rfl _ _ _ rfl w.heap.size 47 i0 _ 1 24 Try.underlying48 hi0 hz0 hz1 hz2 rfl (by omega) (.slice A3 m e) _ _ rfl (HA.out.alloc _) (w1.heap.size + 1) (some ⟨w1.heap.size, 0, none⟩) 1 1 [.slice (some ⟨g1, 0, none⟩) s.length e1] rfl (by exact (Sl.lit (k := 1) (cap := 1) _ _ _ _ _ _ rfl rfl rfl (by omega) (by omega)).rd) (by simp [Value.oneCell']) (by simp only [maxLen]; omega) (by omega) (by have := HGR1.out.size; simp; omega) ?_
                     intro v4 w4 hown4 hg4 hat4
                     have HR4 := Lib.hid (((HRS1.out.snoc HO1.out).alloc _).kept hg4 (fun v n xs ho => own_own_ne ho (HA.out.alloc _) (by decide)))
                     have HB4 := Lib.hid ((HB2.out.grow (row := none) (only_of_below ((Below.refl w1.heap.size w1).alloc (Nat.le_refl _) _) none) (by have := HGR1.out.size; omega) (fun q hq => by cases hq)).grow hg4 (by have := HGR1.out.size; simp; omega) (fun q hq => Nat.lt_of_lt_of_le HG.out (HA.out.lt q hq).1))
                     have HG4 := Lib.hid (only_trans (only_trans HGR1.out (only_of_below ((Below.refl w1.heap.size w1).alloc (Nat.le_refl _) _) (some g)) (.inl rfl)) hg4 (.inr (fun q hq => (HA.out.lt q hq).1)))
                     have H24 := Lib.hid ((H22.out.alloc _).grown hg4 (fun e => own_blk_ne HA.out H22.out (by decide) e.symm))
                     obtain ⟨A4, d4, rfl⟩ := own_slice hown4
                     have HO4 := Lib.hid hown4
                     clear hg4 hat4 hown4))
        go_roundw
        case rel => exact ⟨m + 1, d4, A4, rs ++ [s], _, Cas.mark dn s, rfl, by rw [HM.out]; simp, by rw [HFD1.out, HGO.out]; simp, by rw [HDN.out, Cas.fin_append]; rfl, by have := HFR.out; have := HLT.out; omega, HO4.out, HR4.out, HB4.out, HG4.out, H24.out⟩
        case measure => simp [rowsN]; omega

end Go.Proofs.Ytlkbdmbfbmekaaa

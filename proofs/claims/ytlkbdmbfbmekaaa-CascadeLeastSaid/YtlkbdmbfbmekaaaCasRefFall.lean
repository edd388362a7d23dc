/-
  Layer 31 (cascade), the document's answer: Fall, walked.
-/
import Derived.Test.YtlkbdmbfbmekaaaCasRefErrs
import Derived.Test.YtlkbdmbfbmekaaaCasHelp
import Derived.Deep.LoopGhost
namespace Go.Proofs.Ytlkbdmbfbmekaaa
open Go.RowKit Go.Gab
set_option linter.unusedVariables false
attribute [local go_sem ↓] Go.wp_at_zero Go.wp_at_succ

/-- A row of bools, by a function. -/
def bF (n : Nat) (d : Nat → Bool) : List Bool := (List.range n).map d
theorem bF_get {n i : Nat} (d : Nat → Bool) (hi : i < n) : (bF n d)[i]? = some (d i) := by
  unfold bF
  rw [List.getElem?_map, List.getElem?_range hi]; rfl
theorem bF_len (n : Nat) (d : Nat → Bool) : (bF n d).length = n := by simp [bF]
theorem bF_congr {n : Nat} {d d' : Nat → Bool} (h : ∀ i, i < n → d i = d' i) : bF n d = bF n d' := by
  unfold bF
  exact List.map_congr_left fun i hi => h i (List.mem_range.1 hi)
theorem bF_set {n i : Nat} (d : Nat → Bool) (hi : i < n) (v : Bool) : (bF n d).set i v = bF n (updD d i v) := by
  apply List.ext_getElem?
  intro k
  rw [List.getElem?_set]
  by_cases hk : k < n
  · rw [bF_get _ hk, bF_get _ hk, bF_len]
    unfold updD
    by_cases h : i = k
    · subst h; simp [hk]
    · rw [if_neg h, if_neg (fun e => h e.symm)]
  · rw [List.getElem?_eq_none (by rw [bF_len]; omega), List.getElem?_eq_none (by rw [bF_len]; omega), bF_len, if_neg (by omega)]
theorem bF_none (n : Nat) : List.replicate n false = bF n Cas.none_ := by
  apply List.ext_getElem?
  intro k
  by_cases hk : k < n
  · rw [bF_get _ hk, List.getElem?_replicate, if_pos hk]; rfl
  · rw [List.getElem?_eq_none (by simp; omega), List.getElem?_eq_none (by rw [bF_len]; omega)]
theorem marksOf_bF {n i : Nat} (d : Nat → Bool) (hi : i < n) : marksOf (bF n d) i = d i := by
  unfold marksOf
  rw [List.getD_eq_getElem?_getD, bF_get d hi]; rfl
theorem lack_bF {bals : List Int} {l : List Cas.Due} (hok : Cas.Ok bals l) (d : Nat → Bool) (k : Nat) : Cas.lack bals l (marksOf (bF bals.length d)) k = Cas.lack bals l d k := by
  unfold Cas.lack
  rw [Cas.owe_congr (bals := bals) (fun e he => ⟨(hok.due e he).1, (hok.due e he).2.1⟩) (fun i hi => marksOf_bF d hi)]

section
variable {w : World} {g : Nat} {t : TypeId} {n : Nat} {d : Nat → Bool}
theorem blk_boolF (h : Blk w g t (boolsA (bF n d))) {i : Nat} (hi : i < n) : w.cell? ⟨g, i, none⟩ = some (.bool (d i)) := h.boolAt (bF_get d hi)
theorem blk_setF (h : Blk w g t (boolsA (bF n d))) {i : Nat} (hi : i < n) (v : Bool) : Blk (w.setCell ⟨g, i, none⟩ (.bool v)) g t (boolsA (bF n (updD d i v))) := by
  have := h.setBool i v
  rw [bF_set d hi] at this
  exact this
theorem SlR_bF (h : Blk w g t (boolsA (bF n d))) (hn : n ≤ 140737488355328) : SlR Rep.bool w (g + 1) (some ⟨g, 0, none⟩) n n (bF n d) :=
  ⟨bF_len n d, Nat.le_refl _, by omega, fun i hi => ⟨g, 0, d i, [.bool (d i)], rfl, by omega, bF_get d hi, rfl, rfl, fun j v hv => by
    have hj : j = 0 := by
      have := (List.getElem?_eq_some_iff.1 hv).1
      simp at this
      omega
    subst hj
    rw [show (0 + (i * Rep.bool.size + 0)) = i by simp [Rep.bool], blk_boolF h hi]
    exact hv⟩⟩
end

theorem own_below {w w' : World} {base : Nat} {e : TypeId} {size n : Nat} {v : Value} {xs : List Value} (h : w.ownsRow base e size v n xs) (hb : Below w.heap.size w w') : w'.ownsRow base e size v n xs :=
  h.kept (only_of_below hb none) (Classical.em _)
theorem RowsOf.below {w w' : World} {base : Nat} {vs : List Value} {rs : List (List Nat)} (h : RowsOf w base vs rs) (hb : Below w.heap.size w w') : RowsOf w' base vs rs :=
  h.kept (only_of_below hb none) (fun v _ _ _ => Classical.em (v.ownBlock = none))

theorem free_who {bals : List Int} {d p : Nat → Bool} (h : who bals.length d p ≠ []) : Cas.free bals (Cas.mark d (who bals.length d p)) < Cas.free bals d := by
  obtain ⟨k, s, hs⟩ : ∃ k s, who bals.length d p = k :: s := by
    cases hn : who bals.length d p with
    | nil => exact absurd hn h
    | cons k s => exact ⟨k, s, rfl⟩
  have hk : k ∈ who bals.length d p := by rw [hs]; simp
  have h1 := who_lt hk
  have h2 : d k = false := by
    unfold who at hk
    have := (List.mem_filter.1 hk).2
    simp at this
    exact this.1
  unfold Cas.free
  refine Cas.filter_lt (k := k) _ (fun x _ hx => ?_) (List.mem_range.2 h1) (by rw [h2]; rfl) (by
    have : Cas.mark d (who bals.length d p) k = true := Cas.mark_iff.2 (.inr hk)
    rw [this]; rfl)
  cases hd : d x with
  | false => rfl
  | true =>
    have : Cas.mark d (who bals.length d p) x = true := Cas.mark_iff.2 (.inl hd)
    rw [this] at hx
    cases hx

/-- Who fails next. -/
def nx (bals : List Int) (l : List Cas.Due) (d : Nat → Bool) (k : Nat) : Bool := !d k && decide (0 < Cas.lack bals l d k)
theorem who_nx (bals : List Int) (l : List Cas.Due) (d p : Nat → Bool) (h : ∀ i, i < bals.length → p i = nx bals l d i) : who bals.length d p = Cas.next bals l d := by
  unfold who Cas.next
  apply List.filter_congr
  intro k hk
  rw [h k (List.mem_range.1 hk)]
  unfold nx
  cases d k <;> simp
theorem any_nx (bals : List Int) (l : List Cas.Due) (d : Nat → Bool) : (List.range bals.length).any (nx bals l d) = !(Cas.next bals l d).isEmpty := by
  have : Cas.next bals l d = (List.range bals.length).filter (nx bals l d) := rfl
  rw [this]
  cases h : (List.range bals.length).any (nx bals l d) with
  | false =>
    have : (List.range bals.length).filter (nx bals l d) = [] := by
      rw [List.filter_eq_nil_iff]
      intro k hk
      rw [List.any_eq_false] at h
      exact h k hk
    rw [this]; rfl
  | true =>
    rw [List.any_eq_true] at h
    obtain ⟨k, hk, hp⟩ := h
    have : k ∈ (List.range bals.length).filter (nx bals l d) := List.mem_filter.2 ⟨hk, hp⟩
    cases hq : (List.range bals.length).filter (nx bals l d) with
    | nil => rw [hq] at this; cases this
    | cons a b => rfl

theorem firsts_nil {bals : List Int} {zs : List Int} (h : ∀ k ∈ zs, 0 ≤ k ∧ k < (bals.length : Int)) (hs : who bals.length Cas.none_ (firstD zs) = []) : zs = [] := by
  cases zs with
  | nil => rfl
  | cons z zs =>
    obtain ⟨h1, h2⟩ := h z (by simp)
    have : z.toNat ∈ who bals.length Cas.none_ (firstD (z :: zs)) := by
      unfold who
      refine List.mem_filter.2 ⟨List.mem_range.2 (by omega), ?_⟩
      unfold firstD Cas.none_
      simp
      left
      omega
    rw [hs] at this
    cases this

/-- All that is left to come, with those that are next. -/
structure Ahead (bals : List Int) (l : List Cas.Due) (zs : List Int) (rs : List (List Nat)) (dn p : Nat → Bool) : Prop where
  fin : Cas.falls bals l zs = rs ++ ((if who bals.length dn p = [] then [] else [who bals.length dn p]) ++ Cas.cas bals l (Cas.mark dn (who bals.length dn p)))
  nil : who bals.length dn p = [] → rs = [] ∧ zs = []
theorem Ahead.start {bals : List Int} {l : List Cas.Due} {zs : List Int} (h : ∀ k ∈ zs, 0 ≤ k ∧ k < (bals.length : Int)) : Ahead bals l zs [] Cas.none_ (firstD zs) :=
  ⟨rfl, fun hs => ⟨rfl, firsts_nil h hs⟩⟩
theorem Ahead.next {bals : List Int} {l : List Cas.Due} {zs : List Int} {rs : List (List Nat)} {dn p : Nat → Bool} {s : List Nat} (h : Ahead bals l zs rs dn p) (hs : who bals.length dn p = s)
    (hn : Cas.next bals l (Cas.mark dn s) ≠ []) {p' : Nat → Bool} (hp : ∀ i, i < bals.length → p' i = nx bals l (Cas.mark dn s) i) : Ahead bals l zs (rs ++ (if s = [] then [] else [s])) (Cas.mark dn s) p' := by
  have hw := who_nx bals l (Cas.mark dn s) p' hp
  refine ⟨?_, fun e => absurd (hw.symm.trans e) hn⟩
  rw [h.fin, hs, hw, if_neg hn, List.append_assoc, Cas.cas_go hn]
  rfl
theorem Ahead.last {bals : List Int} {l : List Cas.Due} {zs : List Int} {rs : List (List Nat)} {dn p : Nat → Bool} {s : List Nat} (h : Ahead bals l zs rs dn p) (hs : who bals.length dn p = s)
    (hn : Cas.next bals l (Cas.mark dn s) = []) : Cas.falls bals l zs = rs ++ (if s = [] then [] else [s]) := by
  rw [h.fin, hs, Cas.cas_stop hn, List.append_nil]

theorem any_succ (j : Nat) (G : Nat → Bool) : (List.range (j + 1)).any G = ((List.range j).any G || G j) := by
  rw [List.range_succ, List.any_append]
  simp
theorem bF_step (n j : Nat) (G p : Nat → Bool) : bF n (updD (fun i => if i < j then G i else p i) j (G j)) = bF n (fun i => if i < j + 1 then G i else p i) :=
  bF_congr fun i _ => by
    unfold updD
    by_cases h : i = j
    · subst h
      rw [if_pos rfl, if_pos (by omega)]
    · rw [if_neg h]
      show (if i < j then G i else p i) = _
      by_cases h2 : i < j
      · rw [if_pos h2, if_pos (by omega)]
      · rw [if_neg h2, if_neg (by omega)]

theorem infoBool : (Try.prog.info? 4).map (fun i => (i.zero, i.size, i.bytes)) = some (some (.bool false), 1, 1) := by kernel_rfl

set_option maxHeartbeats 8000000 in
set_option maxRecDepth 20000 in
theorem refFall_any (B : Nat) (A : Option Addr) (n c : Nat) (xs : List AcctT) (A1 : Option Addr) (n1 c1 : Nat) (ys : List DueT) (A2 : Option Addr) (n2 c2 : Nat) (zs : List Int) (w : World) (hB : B ≤ w.heap.size)
    (hr : SlR acctR w B A n c xs) (hr1 : SlR dueR w B A1 n1 c1 ys) (hr2 : SlI w B A2 n2 c2 zs) :
    Calls Try.prog 31 #[.slice A n c, .slice A1 n1 c1, .slice A2 n2 c2] w (FallTo w (xs.map bal) (ys.map due) zs) := by
  have HER := Lib.hid (refErrs_any B A n c xs A1 n1 c1 ys A2 n2 c2 zs w hB hr hr1 hr2)
  have HR := Lib.hid hr
  have HR1 := Lib.hid hr1
  have HR2 := Lib.hid hr2
  have HLEN := Lib.hid (show (xs.map bal).length = n by rw [List.length_map, hr.len])
  have HLEN2 := Lib.hid hr2.len
  have hnc := hr.nc
  have hcm := hr.cm
  have hnc2 := hr2.nc
  have hcm2 := hr2.cm
  obtain ⟨z, hz⟩ : ∃ z, Cas.errs (xs.map bal) (ys.map due) zs = z := ⟨_, rfl⟩
  rw [hz] at HER
  have HZ := Lib.hid hz
  clear hr hr1 hr2 hz
  by_cases h0 : z = 0
  · subst h0
    have HOK := Lib.hid (Cas.ok_of_errs HZ.out)
    have hn16 : n ≤ 16 := by rw [← HLEN.out]; exact HOK.out.1.n16
    obtain ⟨i0, hi0, hz0, hz1, hz2⟩ := info_parts infoBool
    have hmk : ∀ w : World, (Instr.makeSlice 35 (.int .i64 (n : Int)) (.int .i64 (n : Int))).run Try.prog w = .ok (.slice (some ⟨w.heap.size, 0, none⟩) n n) (w.alloc (.cells (boolsA (bF n Cas.none_)) 4)) := by
      intro w; rw [← bF_none]; exact run_make_bools Try.underlying35 hi0 hz0 hz1 hz2 n (by omega) w
    clear hi0 hz0 hz1 hz2
    go_enter Try.func31, Try.ntmps31
    go_wp2_with fail
    refine HER.out.mono ?_
    rintro e w1 ⟨rfl, hb1⟩
    have HB1 := Lib.hid hb1
    clear hb1 HER
    go_wp2_with fail
    have b2 := (Blk.new w1 4 (boolsA (bF n Cas.none_))).alloc (.cells (boolsA (bF n Cas.none_)) 4)
    have b3 := Blk.new (w1.alloc (.cells (boolsA (bF n Cas.none_)) 4)) 4 (boolsA (bF n Cas.none_))
    rw [show (w1.alloc (.cells (boolsA (bF n Cas.none_)) 4)).heap.size = w1.heap.size + 1 by simp] at b3
    have l0 : Below w1.heap.size w1 ((w1.alloc (.cells (boolsA (bF n Cas.none_)) 4)).alloc (.cells (boolsA (bF n Cas.none_)) 4)) := ((Below.refl _ _).alloc (Nat.le_refl _) _).alloc (by simp) _
    generalize (w1.alloc (.cells (boolsA (bF n Cas.none_)) 4)).alloc (.cells (boolsA (bF n Cas.none_)) 4) = W at b2 b3 l0 ⊢
    have HSZ1 := Lib.hid HB1.out.size
    have HLW := Lib.hid (HB1.out.trans (l0.mono HB1.out.size))
    obtain ⟨gd, hgd⟩ : ∃ g, g = w1.heap.size := ⟨_, rfl⟩
    rw [← hgd] at b2 b3 ⊢
    obtain ⟨gn, hgn⟩ : ∃ g, g = gd + 1 := ⟨_, rfl⟩
    rw [← hgn] at b3 ⊢
    have HNE := Lib.hid (show gd ≠ gn by omega)
    have HGD := Lib.hid (show w.heap.size ≤ gd by have := HSZ1.out; omega)
    have HGN := Lib.hid (show w.heap.size ≤ gn by have := HSZ1.out; omega)
    have HD := Lib.hid b2
    have HX := Lib.hid b3
    clear l0 b2 b3 hgd hgn HB1 HSZ1
    go_loopw [11] (fun i wr => ∃ j : Nat, j ≤ n2 ∧ i = .int .i64 j ∧ Blk wr gd 4 (boolsA (bF n Cas.none_)) ∧ Blk wr gn 4 (boolsA (bF n (firstD (zs.take j)))) ∧ Below w.heap.size w wr) (fun i _ => n2 - (intOf i).toNat)
    case atStart => exact ⟨0, Nat.zero_le _, rfl, HD.out, HX.out, HLW.out⟩
    case round =>
      clear HD HX HLW
      obtain ⟨j, hj, rfl, hd, hx, hbel⟩ := hrel
      have HD := Lib.hid hd
      have HX := Lib.hid hx
      have HBEL := Lib.hid hbel
      by_cases hlt : j < n2
      · obtain ⟨b, off, f0, rfl, hb, hxx, hcell, _⟩ := int_at' (HR2.out.below hbel hB) hlt
        have hmem := HOK.out.2.2 f0 (List.mem_of_getElem? hxx)
        rw [HLEN.out] at hmem
        obtain ⟨f, rfl⟩ : ∃ f : Nat, f0 = (f : Int) := ⟨f0.toNat, by omega⟩
        have hfn : f < n := by omega
        have o3 := blk_boolF hx hfn
        have of := hx.frozen f
        have HXX := Lib.hid hxx
        clear hd hx hbel hxx hmem
        go_wp2_with fail
        go_roundw
        case rel =>
          have h1 := blk_setF HX.out hfn true
          rw [firstD_snoc, ← take_succ_of HXX.out] at h1
          have h2 := only_setCell (World.grownBy.refl wr (some gn)) (p := ⟨gn, f, none⟩) (.inl rfl) (.bool true)
          exact ⟨j + 1, by omega, by go_num, HD.out.grown h2 (fun e => HNE.out (Option.some.inj e)), h1, HBEL.out.grown h2 HBEL.out.size (fun q hq => by cases hq; exact HGN.out)⟩
        case measure => simp [intOf]; omega
      · obtain rfl : n2 = j := by omega
        rw [List.take_of_length_le (by rw [HLEN2.out]; exact Nat.le_refl _)] at hx
        have HX1 := Lib.hid hx
        clear hd hx hbel HX
        obtain ⟨wf, rfl⟩ : ∃ wf : World, wf = wr := ⟨_, rfl⟩
        go_wp2_with fail
        go_loopg [12] (Cas.free (xs.map bal) Cas.none_ + (if who n Cas.none_ (firstD zs) = [] then 1 else 0)) (fun q v wr => ∃ (m e : Nat) (A3 : Option Addr) (rs : List (List Nat)) (vs : List Value) (dn p : Nat → Bool), v = .slice A3 m e ∧ m = rs.length ∧ q = Cas.free (xs.map bal) dn + (if who n dn p = [] then 1 else 0) ∧ m + Cas.free (xs.map bal) dn ≤ 16 ∧
          Ahead (xs.map bal) (ys.map due) zs rs dn p ∧ wr.ownsRow w.heap.size 47 1 (.slice A3 m e) m vs ∧ RowsOf wr w.heap.size vs rs ∧ Blk wr gd 4 (boolsA (bF n dn)) ∧ Blk wr gn 4 (boolsA (bF n p)) ∧ Below w.heap.size w wr)
        case atStart => exact ⟨0, 0, none, [], [], Cas.none_, firstD zs, rfl, rfl, rfl, by have := Cas.free_le (bals := xs.map bal) Cas.none_; have := HLEN.out; omega, Ahead.start HOK.out.2.2, World.ownsRow_nil _ _ _ _, RowsOf.nil _ _, HD.out, HX1.out, HBEL.out⟩
        case round =>
          clear HD HX1 HBEL
          obtain ⟨m, e, A3, rs, vs, dn, p, rfl, hm, hq, hmf, hah, hown, hrows, hd, hx, hbel⟩ := hrel
          have HM := Lib.hid hm
          have HQ := Lib.hid hq
          have HMF := Lib.hid hmf
          have HAH := Lib.hid hah
          have HO := Lib.hid hown
          have HRS := Lib.hid hrows
          have HD := Lib.hid hd
          have HX := Lib.hid hx
          have HBEL := Lib.hid hbel
          have hm16 : m ≤ 16 := by omega
          clear hm hq hmf hah hown hrows hd hx hbel
          obtain ⟨wo, rfl⟩ : ∃ wo : World, wo = wr := ⟨_, rfl⟩
          obtain ⟨go, rfl⟩ : ∃ go : Nat, go = gk := ⟨_, rfl⟩
          go_wp2_with fail
          go_loopw [13, 14] (fun v i wr => ∃ (j m1 e1 : Nat) (A4 : Option Addr), j ≤ n ∧ i = .int .i64 j ∧ m1 = (who j dn p).length ∧ v = .slice A4 m1 e1 ∧ wr.ownsRow wo.heap.size 3 1 (.slice A4 m1 e1) m1 ((who j dn p).map natV) ∧ Below wo.heap.size wo wr) (fun _ i _ => n - (intOf i).toNat)
          case atStart => exact ⟨0, 0, 0, none, Nat.zero_le _, rfl, rfl, rfl, World.ownsRow_nil _ _ _ _, Below.refl _ _⟩
          case round =>
            obtain ⟨j, m1, e1, A4, hj, rfl, hm1, rfl, hown4, hbel4⟩ := hrel
            have HM1 := Lib.hid hm1
            have HO4 := Lib.hid hown4
            have HB4 := Lib.hid hbel4
            have hm116 : m1 ≤ 16 := by have := who_len j dn p; omega
            by_cases hlt : j < n
            · have HSUC := Lib.hid (who_succ j dn p)
              have o3 := blk_boolF (HD.out.below hbel4 HD.out.lt) hlt
              have o4 := blk_boolF (HX.out.below hbel4 HX.out.lt) hlt
              clear hm1 hown4 hbel4
              cases hp : p j with
              | false =>
                rw [hp] at o4
                have HW := Lib.hid (show who (j + 1) dn p = who j dn p by rw [HSUC.out, hp]; simp)
                clear hp
                go_wp2_with fail
                go_roundw
                case rel => exact ⟨j + 1, m1, e1, A4, by omega, by go_num, by rw [HW.out]; exact HM1.out, rfl, by rw [HW.out]; exact HO4.out, HB4.out⟩
                case measure => simp [intOf]; omega
              | true =>
                rw [hp] at o4
                cases hd : dn j with
                | true =>
                  rw [hd] at o3
                  have HW := Lib.hid (show who (j + 1) dn p = who j dn p by rw [HSUC.out, hd]; simp)
                  clear hp hd
                  go_wp2_with fail
                  go_roundw
                  case rel => exact ⟨j + 1, m1, e1, A4, by omega, by go_num, by rw [HW.out]; exact HM1.out, rfl, by rw [HW.out]; exact HO4.out, HB4.out⟩
                  case measure => simp [intOf]; omega
                | false =>
                  rw [hd] at o3
                  have HW := Lib.hid (show who (j + 1) dn p = who j dn p ++ [j] by rw [HSUC.out, hd, hp]; simp)
                  clear hp hd
                  obtain ⟨i0, hi0, hz0, hz1, hz2⟩ := info_parts infoInt
                  go_wp2_with (at_builtin; go_loud (
                               refine wpList_append_any _ rfl _ _ _ rfl wo.heap.size 3 i0 _ 1 8 Try.underlying47 hi0 hz0 hz1 hz2 rfl (by omega) (.slice A4 m1 e1) _ _ rfl (HO4.out.alloc _) (wr.heap.size + 1) (some ⟨wr.heap.size, 0, none⟩) 1 1 [natV j] rfl (by exact (Sl.lit (k := 1) (cap := 1) _ _ _ _ _ _ rfl rfl rfl (by omega) (by omega)).rd) (by simp [natV, Value.oneCell']) (by simp only [maxLen]; omega) (by omega) (by have := HB4.out.size; simp; omega) ?_
                               intro v4 w4 hown5 hg5 hat5
                               have HB5 := Lib.hid ((HB4.out.alloc HB4.out.size _).grown hg5 (by have := HB4.out.size; simp; omega) (fun q hq => (HO4.out.lt q hq).1))
                               obtain ⟨A5, d5, rfl⟩ := own_slice hown5
                               have HO5 := Lib.hid hown5
                               clear hg5 hat5 hown5))
                  go_roundw
                  case rel => exact ⟨j + 1, m1 + 1, d5, A5, by omega, by go_num, by rw [HW.out, List.length_append, ← HM1.out]; rfl, rfl, by rw [HW.out, List.map_append]; exact HO5.out, HB5.out⟩
                  case measure => simp [intOf]; omega
            · obtain rfl : n = j := by omega
              obtain ⟨s, hs⟩ : ∃ s, who n dn p = s := ⟨_, rfl⟩
              have HS := Lib.hid hs
              have HSL := Lib.hid (show ∀ k ∈ s, k < n from fun k hk => who_lt (by rw [hs]; exact hk))
              rw [hs] at hm1 hown4
              have HM2 := Lib.hid hm1
              have HO5 := Lib.hid hown4
              clear hs hm1 hown4 hbel4 HM1 HO4
              obtain ⟨wp, rfl⟩ : ∃ wp : World, wp = wr := ⟨_, rfl⟩
              go_wp2_with fail
              go_loopw [15] (fun i wr => ∃ t : Nat, t ≤ m1 ∧ i = .int .i64 t ∧ wr.ownsRow wo.heap.size 3 1 (.slice A4 m1 e1) m1 (s.map natV) ∧ Blk wr gd 4 (boolsA (bF n (Cas.mark dn (s.take t)))) ∧ wp.grownBy wr (some gd)) (fun i _ => m1 - (intOf i).toNat)
              case atStart => exact ⟨0, Nat.zero_le _, rfl, HO5.out, by rw [List.take_zero, Cas.mark_nil]; exact HD.out.below HB4.out HD.out.lt, World.grownBy.refl _ _⟩
              case round =>
                clear HO5
                obtain ⟨t, ht, rfl, hown, hbk, hgr⟩ := hrel
                by_cases hlt2 : t < m1
                · obtain ⟨g2, cap, hA, hg2, hgl⟩ := hown.form (by omega)
                  injection hA with hA1 _ hA2
                  subst hA1 hA2
                  have hst : s[t]? = some (s[t]'(by have := HM2.out; omega)) := List.getElem?_eq_getElem _
                  generalize (s[t]'(by have := HM2.out; omega)) = k at hst
                  have hkn : k < n := HSL.out k (List.mem_of_getElem? hst)
                  have hcell : wr.cell? ⟨g2, t, none⟩ = some (.int .i64 (k : Int)) := by
                    rw [hown.cellAt t (by omega), List.getElem?_map, hst]; rfl
                  have o3 := blk_boolF hbk hkn
                  have of := hbk.frozen k
                  have HST := Lib.hid hst
                  have HO := Lib.hid hown
                  have HBK := Lib.hid hbk
                  have HGR := Lib.hid hgr
                  clear hown hbk hgr hst hgl
                  go_wp2_with fail
                  go_roundw
                  case rel =>
                    have h1 := blk_setF HBK.out hkn true
                    rw [mark_snoc, ← take_succ_of HST.out] at h1
                    have h2 := only_setCell (World.grownBy.refl wr (some gd)) (p := ⟨gd, k, none⟩) (.inl rfl) (.bool true)
                    exact ⟨t + 1, by omega, by go_num, HO.out.kept h2 (.inr (own_blk_ne HO.out HBK.out (by decide))), h1, only_trans HGR.out h2 (.inl rfl)⟩
                  case measure => simp [intOf]; omega
                · obtain rfl : m1 = t := by omega
                  rw [List.take_of_length_le (by rw [← HM2.out]; exact Nat.le_refl _)] at hbk
                  have HDP := Lib.hid (HD.out.below HB4.out HD.out.lt)
                  have HAP := Lib.hid (own_below HO.out HB4.out)
                  have HRP := Lib.hid (HRS.out.below HB4.out)
                  have HO6 := Lib.hid (own_low hown HBEL.out.size)
                  have HD2 := Lib.hid hbk
                  have HX2 := Lib.hid ((HX.out.below HB4.out HX.out.lt).grown hgr (fun e => HNE.out (Option.some.inj e).symm))
                  have HA2 := Lib.hid (HAP.out.kept hgr (.inr (own_blk_ne HAP.out HDP.out (by decide))))
                  have HR2' := Lib.hid (HRP.out.kept hgr (fun v n xs ho => .inr (own_blk_ne ho HDP.out (by decide))))
                  have HBL2 := Lib.hid ((HBEL.out.trans (HB4.out.mono HBEL.out.size)).grown hgr (HBEL.out.trans (HB4.out.mono HBEL.out.size)).size (fun q hq => by cases hq; exact HGD.out))
                  clear hown hbk hgr HDP HAP HRP HB4 HD HX HO HRS HBEL
                  obtain ⟨d2, hd2⟩ : ∃ d2, Cas.mark dn s = d2 := ⟨_, rfl⟩
                  rw [hd2] at HD2
                  have HDD := Lib.hid hd2
                  obtain ⟨wq, rfl⟩ : ∃ wq : World, wq = wr := ⟨_, rfl⟩
                  clear hd2
                  have hnil : s = [] → m1 = 0 ∧ m = 0 ∧ n2 = 0 := fun h => by
                    have := HAH.out.nil (by rw [HLEN.out, HS.out]; exact h)
                    exact ⟨by rw [HM2.out, h]; rfl, by rw [HM.out, this.1]; rfl, by rw [← HLEN2.out, this.2]; rfl⟩
                  have hcons : s ≠ [] → 0 < m1 := fun h => by
                    rw [HM2.out]
                    exact List.length_pos_iff.2 h
                  go_upto_if 78 with (fail)
                  go_cut [12] (fun v wx => ∃ (m2 e2 : Nat) (A5 : Option Addr) (rs2 : List (List Nat)) (vs2 : List Value), v = .slice A5 m2 e2 ∧ rs2 = rs ++ (if s = [] then [] else [s]) ∧ m2 = rs2.length ∧ wx.ownsRow w.heap.size 47 1 (.slice A5 m2 e2) m2 vs2 ∧ RowsOf wx w.heap.size vs2 rs2 ∧ Blk wx gd 4 (boolsA (bF n d2)) ∧ Blk wx gn 4 (boolsA (bF n p)) ∧ Below w.heap.size w wx)
                  case first =>
                    by_cases hs0 : s = []
                    · obtain ⟨q1, q2, q3⟩ := hnil hs0
                      have HS0 := Lib.hid hs0
                      have HM3 := Lib.hid q2
                      clear hs0 hnil hcons q2
                      subst q1
                      subst q3
                      have hm0 : m = 0 := HM3.out
                      subst hm0
                      go_wp2_with fail
                      go_meet
                      case rel => exact ⟨0, e, A3, rs, vs, rfl, by rw [if_pos HS0.out, List.append_nil], HM.out, HA2.out, HR2'.out, HD2.out, HX2.out, HBL2.out⟩
                    · have HS0 := Lib.hid hs0
                      have hm1p := hcons hs0
                      obtain ⟨g1, cap1, hA, _, _⟩ := HO6.out.form hm1p
                      injection hA with hA1 _ hA2
                      subst hA1 hA2
                      have hm2 := HM2.out
                      subst hm2
                      have hsl : s.length ≤ 16 := by rw [← HS.out]; exact Nat.le_trans (who_len _ _ _) hn16
                      clear hs0 hnil hcons
                      obtain ⟨i0, hi0, hz0, hz1, hz2⟩ := info_parts infoInts
                      go_wp2_with (at_builtin; go_loud (
                                   refine wpList_append_any _ rfl _ _ _ rfl w.heap.size 47 i0 _ 1 24 Try.underlying48 hi0 hz0 hz1 hz2 rfl (by omega) (.slice A3 m e) _ _ rfl (HA2.out.alloc _) (wq.heap.size + 1) (some ⟨wq.heap.size, 0, none⟩) 1 1 [.slice (some ⟨g1, 0, none⟩) s.length e1] rfl (by exact (Sl.lit (k := 1) (cap := 1) _ _ _ _ _ _ rfl rfl rfl (by omega) (by omega)).rd) (by simp [Value.oneCell']) (by simp only [maxLen]; omega) (by omega) (by have := HBL2.out.size; simp; omega) ?_
                                   intro v4 w4 hown4 hg4 hat4
                                   have HR4 := Lib.hid (((HR2'.out.snoc HO6.out).alloc _).kept hg4 (fun v n xs ho => own_own_ne ho (HA2.out.alloc _) (by decide)))
                                   have HD4 := Lib.hid ((HD2.out.alloc _).grown hg4 (fun e => own_blk_ne HA2.out HD2.out (by decide) e.symm))
                                   have HX4 := Lib.hid ((HX2.out.alloc _).grown hg4 (fun e => own_blk_ne HA2.out HX2.out (by decide) e.symm))
                                   have HB4 := Lib.hid ((HBL2.out.alloc HBL2.out.size _).grown hg4 (by have := HBL2.out.size; simp; omega) (fun q hq => (HA2.out.lt q hq).1))
                                   obtain ⟨A5, d4, rfl⟩ := own_slice hown4
                                   have HO4 := Lib.hid hown4
                                   clear hg4 hat4 hown4))
                      go_meet
                      case rel => exact ⟨m + 1, d4, A5, rs ++ [s], _, rfl, by rw [if_neg HS0.out], by rw [HM.out]; simp, HO4.out, HR4.out, HD4.out, HX4.out, HB4.out⟩
                  case rest =>
                    clear HA2 HR2' HD2 HX2 HBL2 HO6 hnil hcons
                    obtain ⟨m2, e2, A5, rs2, vs2, rfl, hrs2, hm2, hown, hrows, hd, hx, hbel⟩ := hcut
                    have HRS2 := Lib.hid hrs2
                    have HM5 := Lib.hid hm2
                    have HO := Lib.hid hown
                    have HRS := Lib.hid hrows
                    have HD := Lib.hid hd
                    have HX := Lib.hid hx
                    have HBEL := Lib.hid hbel
                    clear hrs2 hm2 hown hrows hd hx hbel
                    obtain ⟨G, hG⟩ : ∃ G : Nat → Bool, G = nx (xs.map bal) (ys.map due) d2 := ⟨_, rfl⟩
                    have HGK := Lib.hid (show ∀ k, G k = (!d2 k && decide (0 < Cas.lack (xs.map bal) (ys.map due) d2 k)) by subst hG; exact fun k => rfl)
                    have HGE := Lib.hid hG
                    clear hG
                    go_wp2_with fail
                    go_loopw [16, 17] (fun a i wr => ∃ j : Nat, j ≤ n ∧ i = .int .i64 j ∧ a = .bool ((List.range j).any G) ∧ Blk wr gn 4 (boolsA (bF n (fun i => if i < j then G i else p i))) ∧ wc.grownBy wr (some gn)) (fun _ i _ => n - (intOf i).toNat)
                    case atStart => exact ⟨0, Nat.zero_le _, rfl, rfl, by rw [bF_congr (d' := p) (fun i _ => if_neg (by omega))]; exact HX.out, World.grownBy.refl _ _⟩
                    case round =>
                      have HXC := HX
                      clear HX
                      obtain ⟨j, hj, rfl, rfl, hx, hgr⟩ := hrel
                      have HX := Lib.hid hx
                      have HGR := Lib.hid hgr
                      have HDW := Lib.hid (HD.out.grown hgr (fun e => HNE.out (Option.some.inj e)))
                      have HBW := Lib.hid (HBEL.out.grown hgr HBEL.out.size (fun q hq => by cases hq; exact HGN.out))
                      clear hx hgr
                      by_cases hlt : j < n
                      · have HSUC := Lib.hid (any_succ j G)
                        have HUP := Lib.hid (bF_step n j G p)
                        have o3 := blk_boolF HDW.out hlt
                        have o4 := blk_boolF HX.out hlt
                        obtain ⟨y, hy⟩ : ∃ y, (if j < j then G j else p j) = y := ⟨_, rfl⟩
                        rw [hy] at o4
                        have of := HX.out.frozen j
                        have HST := Lib.hid (fun v : Bool => blk_setF HX.out hlt v)
                        have HSG := Lib.hid (fun v : Bool => only_setCell (World.grownBy.refl wr (some gn)) (p := ⟨gn, j, none⟩) (.inl rfl) (.bool v))
                        obtain ⟨q, hq⟩ : ∃ q, (List.range j).any G = q := ⟨_, rfl⟩
                        rw [hq] at HSUC ⊢
                        clear hq hy
                        cases hd : d2 j with
                        | true =>
                          rw [hd] at o3
                          have HGJ := Lib.hid (show G j = false by rw [HGK.out, hd]; rfl)
                          clear hd
                          cases q with
                          | true =>
                            go_wp2_with fail
                            go_roundw
                            case rel => exact ⟨j + 1, by omega, by go_num, by rw [HSUC.out]; rfl, by rw [← HUP.out, HGJ.out]; exact HST.out false, only_trans HGR.out (HSG.out false) (.inl rfl)⟩
                            case measure => simp [intOf]; omega
                          | false =>
                            go_wp2_with fail
                            go_roundw
                            case rel => exact ⟨j + 1, by omega, by go_num, by rw [HSUC.out, HGJ.out]; rfl, by rw [← HUP.out, HGJ.out]; exact HST.out false, only_trans HGR.out (HSG.out false) (.inl rfl)⟩
                            case measure => simp [intOf]; omega
                        | false =>
                          rw [hd] at o3
                          have hl := refLack_any B A n c xs A1 n1 c1 ys (gd + 1) (some ⟨gd, 0, none⟩) n n (bF n d2) j wr (HR.out.below HBW.out hB) (HR1.out.below HBW.out hB) (SlR_bF HDW.out (by omega)) HOK.out.1 (Nat.le_refl _) hlt
                          rw [show Cas.lack (xs.map bal) (ys.map due) (marksOf (bF n d2)) j = Cas.lack (xs.map bal) (ys.map due) d2 j by rw [← HLEN.out]; exact lack_bF HOK.out.1 d2 j] at hl
                          have HGJ := Lib.hid (HGK.out j)
                          rw [hd] at HGJ
                          generalize Cas.lack (xs.map bal) (ys.map due) d2 j = F at hl HGJ
                          have HL := Lib.hid hl
                          clear hd hl
                          by_cases hF : 0 < F
                          · have HG1 := Lib.hid (show G j = true by rw [HGJ.out, decide_eq_true hF]; rfl)
                            cases q with
                            | true =>
                              go_wp2_with fail
                              refine HL.out.mono ?_
                              rintro e9 w9 ⟨rfl, rfl⟩
                              go_wp2_with fail
                              go_roundw
                              case rel => exact ⟨j + 1, by omega, by go_num, by rw [HSUC.out]; rfl, by rw [← HUP.out, HG1.out]; exact HST.out true, only_trans HGR.out (HSG.out true) (.inl rfl)⟩
                              case measure => simp [intOf]; omega
                            | false =>
                              go_wp2_with fail
                              refine HL.out.mono ?_
                              rintro e9 w9 ⟨rfl, rfl⟩
                              go_wp2_with fail
                              go_roundw
                              case rel => exact ⟨j + 1, by omega, by go_num, by rw [HSUC.out, HG1.out]; rfl, by rw [← HUP.out, HG1.out]; exact HST.out true, only_trans HGR.out (HSG.out true) (.inl rfl)⟩
                              case measure => simp [intOf]; omega
                          · have HG1 := Lib.hid (show G j = false by rw [HGJ.out, decide_eq_false hF]; rfl)
                            cases q with
                            | true =>
                              go_wp2_with fail
                              refine HL.out.mono ?_
                              rintro e9 w9 ⟨rfl, rfl⟩
                              go_wp2_with fail
                              go_roundw
                              case rel => rw [decide_eq_false (show ¬ 0 < F by omega)]; exact ⟨j + 1, by omega, by go_num, by rw [HSUC.out]; rfl, by rw [← HUP.out, HG1.out]; exact HST.out false, only_trans HGR.out (HSG.out false) (.inl rfl)⟩
                              case measure => simp [intOf]; omega
                            | false =>
                              go_wp2_with fail
                              refine HL.out.mono ?_
                              rintro e9 w9 ⟨rfl, rfl⟩
                              go_wp2_with fail
                              go_roundw
                              case rel => rw [decide_eq_false (show ¬ 0 < F by omega)]; exact ⟨j + 1, by omega, by go_num, by rw [HSUC.out, HG1.out]; rfl, by rw [← HUP.out, HG1.out]; exact HST.out false, only_trans HGR.out (HSG.out false) (.inl rfl)⟩
                              case measure => simp [intOf]; omega
                      · obtain rfl : n = j := by omega
                        have HXG := Lib.hid (show Blk wr gn 4 (boolsA (bF n G)) by
                          rw [bF_congr (d := G) (d' := fun i => if i < n then G i else p i) (fun i hi => (if_pos hi).symm)]; exact HX.out)
                        have HAN := Lib.hid (show (List.range n).any G = !(Cas.next (xs.map bal) (ys.map due) d2).isEmpty by
                          rw [HGE.out, ← HLEN.out]; exact any_nx _ _ _)
                        have HAK := Lib.hid (HO.out.kept HGR.out (.inr (own_blk_ne HO.out HXC.out (by decide))))
                        have HRK := Lib.hid (HRS.out.kept HGR.out (fun v n xs ho => .inr (own_blk_ne ho HXC.out (by decide))))
                        by_cases hnx : Cas.next (xs.map bal) (ys.map due) d2 = []
                        · have HFN := Lib.hid (show Cas.falls (xs.map bal) (ys.map due) zs = rs2 by
                            rw [HRS2.out]
                            exact HAH.out.last (by rw [HLEN.out]; exact HS.out) (by rw [HDD.out]; exact hnx))
                          rw [hnx] at HAN
                          have HAF := Lib.hid (show (List.range n).any G = false from HAN.out)
                          rw [HAF.out]
                          clear hnx HAN HAF
                          go_wp2_with fail
                          go_ret2
                          unfold FallTo
                          rw [HZ.out, if_pos rfl, HFN.out]
                          have hm := HM5.out
                          subst hm
                          exact ⟨A5, e2, rs2, vs2, rfl, rfl, HAK.out, HRK.out, HBW.out⟩
                        · have HAF := Lib.hid (show (List.range n).any G = true by
                            rw [HAN.out]
                            cases h : Cas.next (xs.map bal) (ys.map due) d2 with
                            | nil => exact absurd h hnx
                            | cons a b => rfl)
                          rw [HAF.out]
                          have HNX := Lib.hid hnx
                          clear hnx HAN HAF
                          go_wp2_with fail
                          have HLT := Lib.hid (show s ≠ [] → Cas.free (xs.map bal) d2 < Cas.free (xs.map bal) dn from fun h => by
                            have := free_who (bals := xs.map bal) (d := dn) (p := p) (by rw [HLEN.out, HS.out]; exact h)
                            rw [HLEN.out, HS.out, HDD.out] at this
                            exact this)
                          have HEQ := Lib.hid (show s = [] → d2 = dn from fun h => by rw [← HDD.out, h, Cas.mark_nil])
                          go_roundg (Cas.free (xs.map bal) d2)
                          case measure =>
                            rw [HQ.out, HS.out]
                            by_cases h : s = []
                            · rw [if_pos h, HEQ.out h]; omega
                            · rw [if_neg h]
                              have := HLT.out h
                              omega
                          case rel =>
                            have hp' : ∀ i, i < (xs.map bal).length → G i = nx (xs.map bal) (ys.map due) d2 i := fun i _ => by rw [HGE.out]
                            have hwn : who n d2 G = Cas.next (xs.map bal) (ys.map due) d2 := by rw [← HLEN.out]; exact who_nx _ _ _ _ hp'
                            refine ⟨m2, e2, A5, rs2, vs2, d2, G, rfl, HM5.out, by rw [hwn, if_neg HNX.out]; rfl, ?_, ?_, HAK.out, HRK.out, HDW.out, HXG.out, HBW.out⟩
                            · have h1 := HMF.out
                              have h2 := HM.out
                              have h3 := HM5.out
                              rw [HRS2.out] at h3
                              by_cases h : s = []
                              · rw [if_pos h, List.append_nil] at h3
                                rw [HEQ.out h]
                                omega
                              · rw [if_neg h, List.length_append] at h3
                                have := HLT.out h
                                simp at h3
                                omega
                            · rw [HRS2.out]
                              have := HAH.out.next (s := s) (by rw [HLEN.out]; exact HS.out) (by rw [HDD.out]; exact HNX.out) (p' := G) (by rw [HDD.out]; exact hp')
                              rw [HDD.out] at this
                              exact this
  · have hzb : (z == 0) = false := by simpa using h0
    have hzn : (z != 0) = true := by simpa using h0
    have H0 := Lib.hid h0
    clear h0
    go_enter Try.func31, Try.ntmps31
    go_wp2_with fail
    refine HER.out.mono ?_
    rintro e w1 ⟨rfl, hb1⟩
    have HB1 := Lib.hid hb1
    clear hb1 HER
    go_wp2_with fail
    go_ret2
    unfold FallTo
    rw [HZ.out, if_neg H0.out]
    exact ⟨none, 0, [], [], rfl, rfl, World.ownsRow_nil _ _ _ _, RowsOf.nil _ _, HB1.out⟩

end Go.Proofs.Ytlkbdmbfbmekaaa

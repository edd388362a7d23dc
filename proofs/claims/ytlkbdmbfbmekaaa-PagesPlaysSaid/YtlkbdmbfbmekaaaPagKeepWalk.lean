/-
  PagesKeeps, walked.
-/
import Derived.Test.YtlkbdmbfbmekaaaPagWorks
import Derived.Test.YtlkbdmbfbmekaaaPagFrame
import Derived.Test.YtlkbdmbfbmekaaaBools
import Derived.Deep.RegionHeld3
import Derived.Deep.DrawnRows
namespace Go.Proofs.Ytlkbdmbfbmekaaa
open Go.RowKit Go.Gab
set_option linter.unusedVariables false
attribute [local go_sem ↓] Go.wp_at_zero Go.wp_at_succ

theorem steps_at {w : World} {B : Nat} {A : Option Addr} {n c : Nat} {ls : List (Int × Int × Unit)} (hr : SlR stepRep w B A n c ls) {i : Nat} (hi : i < n) :
    ∃ b off d k, A = some ⟨b, off, none⟩ ∧ b < B ∧ ls[i]? = some (d, k, ()) ∧ w.cell? ⟨b, off + i * 2, none⟩ = some (.int .i64 d) ∧ w.cell? ⟨b, off + i * 2 + 1, none⟩ = some (.int .i64 k) ∧ -9223372036854775808 ≤ k ∧ k ≤ 9223372036854775807 := by
  obtain ⟨b, off, ⟨d, k, u⟩, cs, hA, hb, hx, hrel, hl, hc⟩ := hr.row i hi
  obtain ⟨c1, c2, rfl, h1, ⟨rfl, _⟩, c3, c4, rfl, h2, ⟨rfl, hwf⟩, _⟩ := hrel
  refine ⟨b, off, d, k, hA, hb, hx, ?_, ?_, ?_⟩
  · have := hc 0 _ rfl
    simpa [stepRep, Rep.pair, Rep.int, Rep.unit] using this
  · have := hc 1 _ rfl
    simpa [stepRep, Rep.pair, Rep.int, Rep.unit, Nat.add_assoc] using this
  · simp [Lit.wf, IntKind.min, IntKind.max, IntKind.signed, IntKind.bits] at hwf
    simpa using hwf

def thenOf (s : UInt8) : Bool := s == 1 || s == 3
def frOf (s : UInt8) : Bool := s == 2

theorem u8_le3 {v : UInt8} (h : v ≤ 3) : v = 0 ∨ v = 1 ∨ v = 2 ∨ v = 3 := by
  have h' : v.toNat ≤ 3 := by simpa [UInt8.le_iff_toNat_le] using h
  have : v.toNat = 0 ∨ v.toNat = 1 ∨ v.toNat = 2 ∨ v.toNat = 3 := by omega
  rcases this with h | h | h | h
  · exact .inl (UInt8.toNat_inj.1 h)
  · exact .inr (.inl (UInt8.toNat_inj.1 h))
  · exact .inr (.inr (.inl (UInt8.toNat_inj.1 h)))
  · exact .inr (.inr (.inr (UInt8.toNat_inj.1 h)))

theorem pagState_at {st : List UInt8} {j : Nat} {v : UInt8} (h : st[j]? = some v) : pagState st (j : Int) = v := by
  have hj := (List.getElem?_eq_some_iff.1 h).1
  unfold pagState
  rw [if_pos (by omega), Int.toNat_natCast, List.getD_eq_getElem?_getD, h]
  rfl
theorem pagUse_free {st : List UInt8} {j : Nat} (h : st[j]? = some 0) : pagUse st (j : Int) = (st.set j 1, 0) := by
  have hj := (List.getElem?_eq_some_iff.1 h).1
  unfold pagUse
  rw [if_pos (by omega), Int.toNat_natCast, List.getD_eq_getElem?_getD, h]
  rfl
theorem pagUse_held {st : List UInt8} {j : Nat} {v : UInt8} (h : st[j]? = some v) (hv : v ≠ 0) : pagUse st (j : Int) = (st, 3) := by
  have hj := (List.getElem?_eq_some_iff.1 h).1
  unfold pagUse
  rw [if_pos (by omega), Int.toNat_natCast, List.getD_eq_getElem?_getD, h, if_neg (by exact hv)]

/-- Pages, and what the law knows of them. -/
structure KeepIn (W w : World) (hp hr ht hk : Nat) (st : List UInt8) : Prop where
  pag : PagIn W w hp hr st
  th : Blk w ht 4 (boolsA (st.map thenOf))
  tk : Blk w hk 4 (boolsA (st.map frOf))
  ht_le : W.heap.size ≤ ht
  hk_le : W.heap.size ≤ hk
  ne : ht ≠ hk
  len : st.length = 40
  le3 : ∀ s ∈ st, s ≤ 3

theorem PagesAt.drew {w : World} {hp hr : Nat} {st : List UInt8} (h : PagesAt w hp hr st) : PagesAt w.drew hp hr st := ⟨h.obj.drew, h.row.drew, h.small⟩
theorem PagTurn.of_drew {w w' : World} {hp hr : Nat} {st : List UInt8} (h : PagTurn w.drew hp hr st w') : PagTurn w hp hr st w' := ⟨h.1, h.2.os, h.2.tape, h.2.output, h.2.size, h.2.block⟩

theorem PagesAt.drewN {w : World} {hp hr : Nat} {st : List UInt8} (h : PagesAt w hp hr st) (m : Nat) : PagesAt (w.drewN m) hp hr st := ⟨h.obj.drewN m, h.row.drewN m, h.small⟩
theorem PagIn.drewN {W w : World} {hp hr : Nat} {st : List UInt8} (h : PagIn W w hp hr st) (m : Nat) : PagIn W (w.drewN m) hp hr st := ⟨h.at_.drewN m, below_drewN h.bel m, h.hp_le, h.hr_le⟩

theorem KeepIn.turn {W w w' : World} {hp hr ht hk : Nat} {st st' : List UInt8} (h : KeepIn W w hp hr ht hk st) (t : PagTurn w hp hr st' w') :
    PagIn W w' hp hr st' ∧ Blk w' ht 4 (boolsA (st.map thenOf)) ∧ Blk w' hk 4 (boolsA (st.map frOf)) :=
  ⟨h.pag.turn t, h.th.grown t.2 (by have := h.th.ne_ h.pag.at_.row (by decide); simpa using this), h.tk.grown t.2 (by have := h.tk.ne_ h.pag.at_.row (by decide); simpa using this)⟩

theorem PagIn.set_other {W w : World} {hp hr g : Nat} {st : List UInt8} (h : PagIn W w hp hr st) (hg : W.heap.size ≤ g) (h1 : hp ≠ g) (h2 : hr ≠ g) (i : Nat) (v : Value) : PagIn W (w.setCell ⟨g, i, none⟩ v) hp hr st :=
  ⟨⟨h.at_.obj.far h1 _, h.at_.row.far h2 _, h.at_.small⟩, h.bel.setCell hg _, h.hp_le, h.hr_le⟩

theorem map_set_same {α β : Type} (f : α → β) {l : List α} {i : Nat} {v x : α} (h : l[i]? = some v) (hx : f x = f v) : (l.set i x).map f = l.map f := by
  apply List.ext_getElem?
  intro j
  rw [List.getElem?_map, List.getElem?_map]
  by_cases hij : i = j
  · subst hij
    rw [List.getElem?_set_self (List.getElem?_eq_some_iff.1 h).1, h]
    simp [hx]
  · rw [List.getElem?_set_ne hij]
theorem set_of_same {α : Type} {l : List α} {i : Nat} {v : α} (h : l[i]? = some v) : l.set i v = l := by
  apply List.ext_getElem?
  intro j
  by_cases hij : i = j
  · subst hij
    rw [List.getElem?_set_self (List.getElem?_eq_some_iff.1 h).1, h]
  · rw [List.getElem?_set_ne hij]
theorem mem_set_ {α : Type} {P : α → Prop} {l : List α} {i : Nat} {x : α} (h : ∀ s ∈ l, P s) (hx : P x) : ∀ s ∈ l.set i x, P s := by
  intro s hs
  rcases List.mem_or_eq_of_mem_set hs with h1 | h1
  · exact h s h1
  · subst h1; exact hx

/-- One state is turned, and what is known of it. -/
theorem KeepIn.then_set {W w w' : World} {hp hr ht hk i : Nat} {st : List UInt8} {v x : UInt8} (h : KeepIn W w hp hr ht hk st) (hv : st[i]? = some v) (t : PagTurn w hp hr (st.set i x) w') (hx : x ≤ 3) (hf : frOf x = frOf v) (ht1 : thenOf x = true) :
    KeepIn W (w'.setCell ⟨ht, i, none⟩ (.bool true)) hp hr ht hk (st.set i x) := by
  obtain ⟨h1, h2, h3⟩ := h.turn t
  have n1 := h2.ne_ h1.at_.obj (by decide)
  have n2 := h2.ne_ h1.at_.row (by decide)
  refine ⟨h1.set_other h.ht_le (Ne.symm n1) (Ne.symm n2) _ _, ?_, ?_, h.ht_le, h.hk_le, h.ne, by rw [List.length_set]; exact h.len, mem_set_ h.le3 hx⟩
  · rw [List.map_set, ht1]
    exact h2.setBool i true
  · rw [map_set_same frOf hv hf]
    exact h3.far (p := ⟨ht, i, none⟩) (Ne.symm h.ne) _
theorem KeepIn.fr_set {W w w' : World} {hp hr ht hk i : Nat} {st : List UInt8} {v x : UInt8} {b : Bool} (h : KeepIn W w hp hr ht hk st) (hv : st[i]? = some v) (t : PagTurn w hp hr (st.set i x) w') (hx : x ≤ 3) (hf : thenOf x = thenOf v) (ht1 : frOf x = b) :
    KeepIn W (w'.setCell ⟨hk, i, none⟩ (.bool b)) hp hr ht hk (st.set i x) := by
  obtain ⟨h1, h2, h3⟩ := h.turn t
  have n1 := h3.ne_ h1.at_.obj (by decide)
  have n2 := h3.ne_ h1.at_.row (by decide)
  refine ⟨h1.set_other h.hk_le (Ne.symm n1) (Ne.symm n2) _ _, ?_, ?_, h.ht_le, h.hk_le, h.ne, by rw [List.length_set]; exact h.len, mem_set_ h.le3 hx⟩
  · rw [map_set_same thenOf hv hf]
    exact h2.far (p := ⟨hk, i, none⟩) h.ne _
  · rw [List.map_set, ht1]
    exact h3.setBool i b
theorem KeepIn.same {W w w' : World} {hp hr ht hk : Nat} {st : List UInt8} (h : KeepIn W w hp hr ht hk st) (t : PagTurn w hp hr st w') : KeepIn W w' hp hr ht hk st := by
  obtain ⟨h1, h2, h3⟩ := h.turn t
  exact ⟨h1, h2, h3, h.ht_le, h.hk_le, h.ne, h.len, h.le3⟩
theorem KeepIn.thenAt {W w : World} {hp hr ht hk i : Nat} {st : List UInt8} {v : UInt8} (h : KeepIn W w hp hr ht hk st) (hv : st[i]? = some v) : w.cell? ⟨ht, i, none⟩ = some (.bool (thenOf v)) :=
  h.th.boolAt (by rw [List.getElem?_map, hv]; rfl)
theorem KeepIn.frAt {W w : World} {hp hr ht hk i : Nat} {st : List UInt8} {v : UInt8} (h : KeepIn W w hp hr ht hk st) (hv : st[i]? = some v) : w.cell? ⟨hk, i, none⟩ = some (.bool (frOf v)) :=
  h.tk.boolAt (by rw [List.getElem?_map, hv]; rfl)
theorem KeepIn.bel {W w : World} {hp hr ht hk : Nat} {st : List UInt8} (h : KeepIn W w hp hr ht hk st) : Below W.heap.size W w := h.pag.bel

theorem infoBool : (Try.prog.info? 4).map (fun i => (i.zero, i.size, i.bytes)) = some (some (.bool false), 1, 1) := by kernel_rfl

set_option maxHeartbeats 2000000 in
set_option maxRecDepth 10000 in
theorem pagesKeeps_walk {a a2 : Option Addr} {n c n2 c2 : Nat} {bs : List UInt8} {ls : List (Int × Int × Unit)} (W : World) (hs : Sl W W.heap.size 1 a n c (bs.map byteV)) (hr : SlR stepRep W W.heap.size a2 n2 c2 ls) :
    Calls Try.prog 4 #[.slice a n c, .slice a2 n2 c2] W fun e w' => e = .returned (.bool true) ∧ Below W.heap.size W w' := by
  have hnc := hs.nc
  have hcm := hs.cm
  have hnc2 := hr.nc
  have hcm2 := hr.cm
  by_cases h1 : (300 : Int) < n2
  · go_enter Try.func4, Try.ntmps4
    go_wp2_with fail
    refine (works06_any _).mono ?_
    rintro e w ⟨rfl, hb⟩
    go_wp2_with fail
    go_ret
    exact ⟨rfl, hb⟩
  by_cases h2 : (100 : Int) < n
  · go_enter Try.func4, Try.ntmps4
    go_wp2_with fail
    refine (works06_any _).mono ?_
    rintro e w ⟨rfl, hb⟩
    go_wp2_with fail
    go_ret
    exact ⟨rfl, hb⟩
  obtain ⟨F, hF⟩ : ∃ F, F = List.replicate 40 false := ⟨_, rfl⟩
  obtain ⟨i0, hi0, hz0, hz1, hz2⟩ := info_parts infoBool
  have hmk : ∀ w : World, (Instr.makeSlice 35 (.int .i64 40) (.int .i64 40)).run Try.prog w = .ok (.slice (some ⟨w.heap.size, 0, none⟩) 40 40) (w.alloc (.cells (boolsA F) 4)) := by
    intro w; rw [hF]; exact run_make_bools Try.underlying35 hi0 hz0 hz1 hz2 40 (by omega) w
  have HF := Lib.hid hF
  clear hF hi0 hz0 hz1 hz2
  go_enter Try.func4, Try.ntmps4
  go_wp2_with fail
  refine (pagNew_yes 40 _ (by omega) (by omega)).mono ?_
  rintro e w1 ⟨rfl, hat, hb⟩
  have h := PagIn.new (Below.refl _ _) hat hb
  clear hat hb
  generalize W.heap.size + 1 = hp at h ⊢
  obtain ⟨hr', hhr⟩ : ∃ hr, hr = W.heap.size := ⟨_, rfl⟩
  rw [← hhr] at h
  clear hhr
  unfold ptr
  go_wp2_with fail
  have hK : KeepIn W ((w1.alloc (.cells (boolsA F) 4)).alloc (.cells (boolsA F) 4)) hp hr' w1.heap.size (w1.heap.size + 1) (List.replicate 40 0) := by
    have e1 : (List.replicate 40 (0 : UInt8)).map thenOf = F := by rw [HF.out, List.map_replicate]; rfl
    have e2 : (List.replicate 40 (0 : UInt8)).map frOf = F := by rw [HF.out, List.map_replicate]; rfl
    refine ⟨⟨⟨(h.at_.obj.alloc _).alloc _, (h.at_.row.alloc _).alloc _, h.at_.small⟩, (h.bel.alloc h.bel.size _).alloc (by have := h.bel.size; simp; omega) _, h.hp_le, h.hr_le⟩, ?_, ?_, h.bel.size, by have := h.bel.size; omega, by omega, by rw [List.length_replicate], fun s hs => by rw [List.mem_replicate] at hs; rw [hs.2]; decide⟩
    · rw [e1]; exact (Blk.new w1 _ _).alloc _
    · rw [e2]; have := Blk.new (w1.alloc (.cells (boolsA F) 4)) 4 (boolsA F); simpa using this
  have h01 : ∀ s ∈ List.replicate 40 (0 : UInt8), s = 0 ∨ s = 1 := fun s hs => by rw [List.mem_replicate] at hs; exact .inl hs.2
  generalize List.replicate 40 (0 : UInt8) = st0 at hK h01
  generalize w1.heap.size + 1 = hk at hK ⊢
  generalize w1.heap.size = ht at hK ⊢
  clear h hmk
  generalize (w1.alloc (.cells (boolsA F) 4)).alloc (.cells (boolsA F) 4) = w2 at hK ⊢
  go_loopw [9] (fun i wr => ∃ (j : Nat) (st : List UInt8), j ≤ n ∧ i = .int .i64 j ∧ KeepIn W wr hp hr' ht hk st ∧ ∀ s ∈ st, s = 0 ∨ s = 1) (fun i _ => n - (intOf i).toNat)
  case atStart => exact ⟨0, st0, Nat.zero_le _, rfl, hK, h01⟩
  case round =>
    clear hK h01
    obtain ⟨j, st, hj, rfl, hK, h01⟩ := hrel
    by_cases hlt : j < n
    · obtain ⟨b, off, v, rfl, hb, hbv, hcell, hv⟩ := (hs.below hK.bel).byte hlt
      obtain ⟨q, hq⟩ : ∃ q : Nat, (v.toNat : Int) % 40 = (q : Int) := ⟨v.toNat % 40, by omega⟩
      have hqm : q < 40 := by omega
      have hq0 : (0 : Int) ≤ (q : Int) := by omega
      have hq4 : (q : Int) < 40 := by omega
      have hql : q < st.length := by rw [hK.len]; exact hqm
      have hsq : st[q]? = some st[q] := List.getElem?_eq_getElem hql
      have hq01 := h01 _ (List.getElem_mem hql)
      generalize st[q] = s at hsq hq01
      have HSQ := Lib.hid hsq
      have H01 := Lib.hid h01
      have HK := Lib.hid hK
      have hth := hK.thenAt hsq
      have hfz := hK.th.frozen q
      clear hbv hsq h01 hK
      rcases hq01 with rfl | rfl
      · rw [show thenOf 0 = false from rfl] at hth
        go_wp2_with fail
        go_region_held3 (fun w' => w'.cell? ⟨ht, q, none⟩ = some (.bool false)) (first | exact hth | exact hth3) (first | (go_at_call 17; refine (pagUse_any hp hr' st q _ HK.out.pag.at_.drew).mono ?_; rintro e w3 ⟨rfl, t⟩; rw [pagUse_free HSQ.out] at t ⊢; have hth3 := (HK.out.turn t.of_drew).2.1.boolAt (i := q) (v := false) (by rw [List.getElem?_map, HSQ.out]; rfl); have hfz3 := (HK.out.turn t.of_drew).2.1.frozen q; have T := Lib.hid (HK.out.then_set HSQ.out t.of_drew (by decide) (by decide) (by decide)); clear t))
        go_wp2_with fail
        go_roundw
        case rel => exact ⟨j + 1, _, by omega, by go_num, T.out, mem_set_ H01.out (.inr rfl)⟩
        case measure => simp [intOf]; omega
      · rw [show thenOf 1 = true from rfl] at hth
        go_wp2_with fail
        go_region_held3 (fun w' => w'.cell? ⟨ht, q, none⟩ = some (.bool true)) (first | exact hth | exact hth3) (first | (go_at_call 17; refine (pagUse_any hp hr' st q _ HK.out.pag.at_.drew).mono ?_; rintro e w3 ⟨rfl, t⟩; rw [pagUse_held HSQ.out (by decide)] at t ⊢; have hth3 := (HK.out.turn t.of_drew).2.1.boolAt (i := q) (v := true) (by rw [List.getElem?_map, HSQ.out]; rfl); have hfz3 := (HK.out.turn t.of_drew).2.1.frozen q; have T := Lib.hid (HK.out.then_set (x := 1) HSQ.out (by rw [set_of_same HSQ.out]; exact t.of_drew) (by decide) (by decide) (by decide)); clear t))
        go_wp2_with fail
        go_roundw
        case rel => exact ⟨j + 1, _, by omega, by go_num, T.out, mem_set_ H01.out (.inr rfl)⟩
        case measure => simp [intOf]; omega
    · obtain rfl : j = n := by omega
      clear h01
      go_wp2_with fail
      generalize wr = w3 at hK ⊢
      go_loopw [11] (fun i wr => ∃ (j : Nat) (st : List UInt8), j ≤ n2 ∧ i = .int .i64 j ∧ KeepIn W wr hp hr' ht hk st) (fun i _ => n2 - (intOf i).toNat)
      case atStart => exact ⟨0, st, Nat.zero_le _, rfl, hK⟩
      case round =>
        clear hK
        obtain ⟨i, st, hi, rfl, hK⟩ := hrel
        by_cases hlt2 : i < n2
        · obtain ⟨b, off, d, k, rfl, hb, hls, hc0, hc1, hk1, hk2⟩ := steps_at (hr.below hK.bel (Nat.le_refl _)) hlt2
          by_cases hd1 : d = 1
          · subst hd1
            rcases hL : pagLeast st with _ | m
            · have HT := Lib.hid (show pagTake st = (st, 0, 7) by unfold pagTake; rw [hL])
              have HK := Lib.hid hK
              clear hls hL hK
              go_wp2_with fail
              refine (pagTake_any hp hr' _ _ HK.out.pag.at_).mono ?_
              rintro e w4 ⟨rfl, t⟩
              rw [HT.out] at t ⊢
              have T := Lib.hid (HK.out.same t)
              clear t
              unfold pairI
              go_wp2_with fail
              go_roundw
              case rel => exact ⟨i + 1, _, by omega, by go_num, T.out⟩
              case measure => simp [intOf]; omega
            · obtain ⟨hm, hm0⟩ : m < st.length ∧ st[m]? = some 0 := by
                unfold pagLeast at hL
                rw [List.findIdx?_eq_some_iff_getElem] at hL
                obtain ⟨h1, h2, _⟩ := hL
                exact ⟨h1, by rw [List.getElem?_eq_getElem h1]; simpa using h2⟩
              have HT := Lib.hid (show pagTake st = (st.set m 2, (m : Int), 0) by unfold pagTake; rw [hL])
              have HK := Lib.hid hK
              have HM := Lib.hid hm0
              have hm4 : m < 40 := by rw [hK.len] at hm; exact hm
              clear hls hL hK hm0 hm
              go_wp2_with fail
              refine (pagTake_any hp hr' _ _ HK.out.pag.at_).mono ?_
              rintro e w4 ⟨rfl, t⟩
              rw [HT.out] at t ⊢
              have hth3 := (HK.out.turn t).2.1.boolAt (i := m) (v := false) (by rw [List.getElem?_map, HM.out]; rfl)
              have htk3 := (HK.out.turn t).2.2.boolAt (i := m) (v := false) (by rw [List.getElem?_map, HM.out]; rfl)
              have hfz3 := (HK.out.turn t).2.2.frozen m
              have T := Lib.hid (HK.out.fr_set HM.out t (b := true) (by decide) (by decide) (by decide))
              clear t
              unfold pairI
              go_wp2_with fail
              go_roundw
              case rel => exact ⟨i + 1, _, by omega, by go_num, T.out⟩
              case measure => simp [intOf]; omega
          · by_cases hd3 : d = 3
            · subst hd3
              by_cases hkr : 0 ≤ k ∧ k < 40
              · obtain ⟨q, rfl⟩ := Int.eq_ofNat_of_zero_le hkr.1
                have hqm : q < 40 := by omega
                have hql : q < st.length := by rw [hK.len]; exact hqm
                have hsq : st[q]? = some st[q] := List.getElem?_eq_getElem hql
                have hle := u8_le3 (hK.le3 _ (List.getElem_mem hql))
                generalize st[q] = s at hsq hle
                have HSQ := Lib.hid hsq
                have HK := Lib.hid hK
                clear hkr hls hsq hK
                have hD : (s = 1 ∧ pagDrop st (q : Int) = (st.set q 3, 0)) ∨ (s = 2 ∧ pagDrop st (q : Int) = (st.set q 0, 0)) ∨ pagDrop st (q : Int) = (st, 3) := by
                  have hg : st.getD q 0 = s := by rw [List.getD_eq_getElem?_getD, HSQ.out]; rfl
                  unfold pagDrop
                  rw [if_pos (by omega), Int.toNat_natCast, hg]
                  rcases hle with rfl | rfl | rfl | rfl
                  · right; right; rfl
                  · left; exact ⟨rfl, rfl⟩
                  · right; left; exact ⟨rfl, rfl⟩
                  · right; right; rfl
                clear hle
                rcases hD with ⟨rfl, hD⟩ | ⟨rfl, hD⟩ | hD
                · have HD := Lib.hid hD
                  clear hD
                  go_wp2_with fail
                  refine (pagDrop_any hp hr' _ q _ HK.out.pag.at_).mono ?_
                  rintro e w4 ⟨rfl, t⟩
                  rw [HD.out] at t ⊢
                  have hfz3 := (HK.out.turn t).2.2.frozen q
                  have htk3 := (HK.out.turn t).2.2.boolAt (i := q) (v := false) (by rw [List.getElem?_map, HSQ.out]; rfl)
                  have T := Lib.hid (HK.out.fr_set HSQ.out t (b := false) (by decide) (by decide) (by decide))
                  clear t
                  go_wp2_with fail
                  go_roundw
                  case rel => exact ⟨i + 1, _, by omega, by go_num, T.out⟩
                  case measure => simp [intOf]; omega
                · have HD := Lib.hid hD
                  clear hD
                  go_wp2_with fail
                  refine (pagDrop_any hp hr' _ q _ HK.out.pag.at_).mono ?_
                  rintro e w4 ⟨rfl, t⟩
                  rw [HD.out] at t ⊢
                  have hfz3 := (HK.out.turn t).2.2.frozen q
                  have htk3 := (HK.out.turn t).2.2.boolAt (i := q) (v := true) (by rw [List.getElem?_map, HSQ.out]; rfl)
                  have T := Lib.hid (HK.out.fr_set HSQ.out t (b := false) (by decide) (by decide) (by decide))
                  clear t
                  go_wp2_with fail
                  go_roundw
                  case rel => exact ⟨i + 1, _, by omega, by go_num, T.out⟩
                  case measure => simp [intOf]; omega
                · have HD := Lib.hid hD
                  clear hD
                  go_wp2_with fail
                  refine (pagDrop_any hp hr' _ q _ HK.out.pag.at_).mono ?_
                  rintro e w4 ⟨rfl, t⟩
                  rw [HD.out] at t ⊢
                  have T := Lib.hid (HK.out.same t)
                  clear t
                  go_wp2_with fail
                  go_roundw
                  case rel => exact ⟨i + 1, _, by omega, by go_num, T.out⟩
                  case measure => simp [intOf]; omega
              · have HD := Lib.hid (show pagDrop st k = (st, 1) by unfold pagDrop; rw [if_neg (by rw [hK.len]; exact hkr)])
                have HK := Lib.hid hK
                clear hkr hls hK
                go_wp2_with fail
                refine (pagDrop_any hp hr' _ k _ HK.out.pag.at_).mono ?_
                rintro e w4 ⟨rfl, t⟩
                rw [HD.out] at t ⊢
                have T := Lib.hid (HK.out.same t)
                clear t
                go_wp2_with fail
                go_roundw
                case rel => exact ⟨i + 1, _, by omega, by go_num, T.out⟩
                case measure => simp [intOf]; omega
            · have HK := Lib.hid hK
              clear hls hK
              go_wp2_with fail
              go_roundw
              case rel => exact ⟨i + 1, _, by omega, by go_num, HK.out⟩
              case measure => simp [intOf]; omega
        · obtain rfl : i = n2 := by omega
          go_wp2_with fail
          generalize wr = w4 at hK ⊢
          go_loopw [15] (fun i wr => ∃ (j : Nat), j ≤ 40 ∧ i = .int .i64 j ∧ KeepIn W wr hp hr' ht hk st) (fun i _ => 40 - (intOf i).toNat)
          case atStart => exact ⟨0, Nat.zero_le _, rfl, hK⟩
          case round =>
            clear hK
            obtain ⟨q, hq, rfl, hK⟩ := hrel
            by_cases hqm : q < 40
            · have hql : q < st.length := by rw [hK.len]; exact hqm
              have hsq : st[q]? = some st[q] := List.getElem?_eq_getElem hql
              have hle := u8_le3 (hK.le3 _ (List.getElem_mem hql))
              generalize st[q] = s at hsq hle
              have hth := hK.thenAt hsq
              have hfr := hK.frAt hsq
              have HST := Lib.hid (pagState_at hsq)
              have HK := Lib.hid hK
              clear hK hsq
              rcases hle with rfl | rfl | rfl | rfl
              all_goals
                first | rw [show thenOf 0 = false from rfl, show frOf 0 = false from rfl] at * | rw [show thenOf 1 = true from rfl, show frOf 1 = false from rfl] at * | rw [show thenOf 2 = false from rfl, show frOf 2 = true from rfl] at * | rw [show thenOf 3 = true from rfl, show frOf 3 = false from rfl] at *
                go_wp2_with fail
                refine (pagState_any hp hr' _ q _ HK.out.pag.at_).mono ?_
                rintro e w5 ⟨rfl, rfl⟩
                rw [HST.out]
                go_wp2_with fail
                go_roundw
                case rel => exact ⟨q + 1, by omega, by go_num, HK.out⟩
                case measure => simp [intOf]; omega
            · obtain rfl : q = 40 := by omega
              go_wp2_with fail
              refine (pagBack_any hp hr' _ _ hK.pag.at_).mono ?_
              rintro e w5 ⟨rfl, t⟩
              obtain ⟨k1, k2, k3⟩ := hK.turn t
              have hlen := hK.len
              have hle3 := hK.le3
              clear t hK
              go_wp2_with fail
              generalize w5 = w6 at k1 k2 ⊢
              go_loopw [17] (fun i wr => ∃ (j : Nat), j ≤ 40 ∧ i = .int .i64 j ∧ PagIn W wr hp hr' (st.map backOne) ∧ Blk wr ht 4 (boolsA (st.map thenOf))) (fun i _ => 40 - (intOf i).toNat)
              case atStart => exact ⟨0, Nat.zero_le _, rfl, k1, k2⟩
              case round =>
                clear k1 k2 k3
                obtain ⟨q, hq, rfl, k1, k2⟩ := hrel
                by_cases hqm : q < 40
                · have hql : q < st.length := by rw [hlen]; exact hqm
                  have hsq : st[q]? = some st[q] := List.getElem?_eq_getElem hql
                  have hle := u8_le3 (hle3 _ (List.getElem_mem hql))
                  generalize st[q] = s at hsq hle
                  have hth := k2.boolAt (i := q) (v := thenOf s) (by rw [List.getElem?_map, hsq]; rfl)
                  have hst := pagState_at (st := st.map backOne) (j := q) (v := backOne s) (by rw [List.getElem?_map, hsq]; rfl)
                  have hsx : (thenOf s = false ∧ backOne s = 0) ∨ (thenOf s = true ∧ backOne s = 1) := by
                    rcases hle with rfl | rfl | rfl | rfl
                    · exact .inl ⟨rfl, rfl⟩
                    · exact .inr ⟨rfl, rfl⟩
                    · exact .inl ⟨rfl, rfl⟩
                    · exact .inr ⟨rfl, rfl⟩
                  have K1 := Lib.hid k1
                  have K2 := Lib.hid k2
                  have LE := Lib.hid hle3
                  clear hsq k1 k2 hle hle3
                  have hq0 : (0 : Int) ≤ (q : Int) := by omega
                  have hq4 : (q : Int) < 40 := by omega
                  rcases hsx with ⟨h3, h4⟩ | ⟨h3, h4⟩
                  · rw [h3] at hth
                    rw [h4] at hst
                    have HC := Lib.hid (fun m => (pagState_any hp hr' _ q (wr.drewN m) (K1.out.at_.drewN m)).mono (fun e w' h => (show e = .returned (.int .u8 0) ∧ w' = wr.drewN m by rw [hst] at h; exact ⟨h.1, h.2.symm⟩)))
                    clear h3 h4 hst
                    go_wp2_with fail
                    go_quiet ((go_at_call 18; exact Calls.quiet_of_same (HC.out _)))
                    go_wp2_with fail
                    go_roundw
                    case rel => exact ⟨q + 1, by omega, by go_num, K1.out.drewN _, K2.out.drewN _⟩
                    case measure => simp [intOf]; omega
                  · rw [h3] at hth
                    rw [h4] at hst
                    have HC := Lib.hid (fun m => (pagState_any hp hr' _ q (wr.drewN m) (K1.out.at_.drewN m)).mono (fun e w' h => (show e = .returned (.int .u8 1) ∧ w' = wr.drewN m by rw [hst] at h; exact ⟨h.1, h.2.symm⟩)))
                    clear h3 h4 hst
                    go_wp2_with fail
                    go_quiet ((go_at_call 18; exact Calls.quiet_of_same (HC.out _)))
                    go_wp2_with fail
                    go_roundw
                    case rel => exact ⟨q + 1, by omega, by go_num, K1.out.drewN _, K2.out.drewN _⟩
                    case measure => simp [intOf]; omega
                · obtain rfl : q = 40 := by omega
                  go_wp2_with fail
                  refine (works06_any _).mono ?_
                  rintro e w ⟨rfl, hb⟩
                  go_wp2_with fail
                  go_ret
                  exact ⟨rfl, k1.bel.trans (hb.mono k1.bel.size)⟩

end Go.Proofs.Ytlkbdmbfbmekaaa

/-
  octet.Order (the model's stand-in for the library's comparison), the document's functions of layer 1 and the law's own small ones, walked.
-/
import Derived.Test.YtjnchbadefggjaaOctWalks
import Derived.Lib.BytesEntry
namespace Go.Proofs.Ytjnchbadefggjaa
open Go.RowKit Go.Gab
set_option linter.unusedVariables false

theorem order_cmp : ∀ (x y : List UInt8), Lib.compareBytes x y = Oct.order x y
  | [], [] => rfl
  | [], _ :: _ => rfl
  | _ :: _, [] => rfl
  | a :: x, b :: y => by unfold Lib.compareBytes Oct.order; rw [order_cmp x y]

theorem bytesOf_run {B n c : Nat} {A : Option Addr} {bs : List UInt8} {P : Program} {w : World} (hr : Sl w B 1 A n c (bs.map byteV)) :
    (Extern.Bytes.bytesOf (.slice A n c)).run P w = .ok ⟨bs.toArray⟩ w := by
  have hl := hr.lenB
  cases A with
  | none =>
    have h0 := hr.rd.none_of
    subst h0
    have : bs = [] := List.eq_nil_of_length_eq_zero hl
    subst this
    rfl
  | some a =>
    subst hl
    have h := Lib.run_loadBytesX (P := P) w (bs.map fun b => (b.toNat : Int)) a .empty (fun j x hj => by
      rw [List.getElem?_map, Option.map_eq_some_iff] at hj
      obtain ⟨b, hb, rfl⟩ := hj
      obtain ⟨ad, h1, _, hc⟩ := hr.rd.2 (by have := (List.getElem?_eq_some_iff.1 hb).1; omega)
      cases h1
      exact hc j _ (by rw [List.getElem?_map, hb]; rfl))
    rw [List.length_map] at h
    have e : Lib.bytesOf (bs.map fun b => (b.toNat : Int)) = bs := by
      unfold Lib.bytesOf
      rw [List.map_map]
      conv => rhs; rw [← List.map_id bs]
      apply List.map_congr_left
      intro b _
      simp
    rw [e] at h
    unfold Extern.Bytes.bytesOf
    rw [h]
    congr 1
    apply ByteArray.ext
    simp

theorem run_compare {B1 n1 c1 B2 n2 c2 : Nat} {A1 A2 : Option Addr} {x y : List UInt8} {P : Program} {w : World} (h1 : Sl w B1 1 A1 n1 c1 (x.map byteV)) (h2 : Sl w B2 1 A2 n2 c2 (y.map byteV)) :
    (Extern.BytealgCompare.compare #[.slice A1 n1 c1, .slice A2 n2 c2]).run P w = .ok (.int .i64 (Oct.order x y)) w := by
  change Sem.run P (do pure (goInt (Extern.BytealgCompare.cmp (← Extern.Bytes.bytesOf (.slice A1 n1 c1)) (← Extern.Bytes.bytesOf (.slice A2 n2 c2))))) w = _
  simp only [Sem.run_bind, Sem.run_pure, Result.andThen, bytesOf_run h1, bytesOf_run h2]
  rw [Lib.cmp_eq, order_cmp]
  rfl

theorem order_any (B1 : Nat) (A1 : Option Addr) (n1 c1 B2 : Nat) (A2 : Option Addr) (n2 c2 : Nat) (x y : List UInt8) (w : World) (h1 : Sl w B1 1 A1 n1 c1 (x.map byteV)) (h2 : Sl w B2 1 A2 n2 c2 (y.map byteV)) :
    Calls Try.prog 35 #[.slice A1 n1 c1, .slice A2 n2 c2] w fun e w' => e = .returned (.int .i64 (Oct.order x y)) ∧ w = w' := by
  have hcmp : Calls Try.prog 44 #[.slice A1 n1 c1, .slice A2 n2 c2] w fun e w' => e = .returned (.int .i64 (Oct.order x y)) ∧ w = w' := by
    go_enter Try.func44, Try.ntmps44
    go_wp2_with fail
    rw [run_callFunc_extern Try.func46 (by kernel_rfl) (by kernel_rfl) (by kernel_rfl) (e := Extern.BytealgCompare.compare) (by kernel_rfl), run_compare h1 h2]
    simp only [Result.andThen]
    rw [Oper.upon_value]
    go_wp2_with fail
    go_ret
    exact ⟨rfl, rfl⟩
  go_enter Try.func35, Try.ntmps35
  go_wp2_with (go_at_call 44; refine hcmp.mono ?_; rintro e w' ⟨rfl, rfl⟩)
  go_ret
  exact ⟨rfl, rfl⟩

/-! ### gabletref01 -/

theorem take2_cases {bs : List UInt8} {n x : Nat} {p next er : Int} (hlen : bs.length = n) (ht : Oct.take bs p 2 = (x, next, er)) :
    (x = 0 ∧ next = 0 ∧ (er = 1 ∨ er = 5)) ∨ (er = 0 ∧ 0 ≤ p ∧ next = p + 2 ∧ p + 2 ≤ n ∧ x < 65536) := by
  unfold Oct.take at ht
  rw [hlen] at ht
  split at ht
  · cases ht; simp
  · split at ht
    · cases ht; simp
    · rename_i h1 h2
      cases ht
      refine .inr ⟨rfl, by simp at h1; omega, rfl, by omega, ?_⟩
      have h3 := Oct.val_lt ((bs.drop p.toNat).take 2)
      have h4 : ((bs.drop p.toNat).take 2).length ≤ 2 := by simp; omega
      exact Nat.lt_of_lt_of_le h3 (Nat.le_trans (Nat.pow_le_pow_right (by omega) h4) (by decide))

theorem refSize_any (k : Int) (w : World) :
    Calls Try.prog 42 #[.int .i64 k] w fun e w' => e = .returned (.bool (Oct.size k)) ∧ w = w' := by
  by_cases h1 : k = 1
  · subst h1
    go_enter Try.func42, Try.ntmps42
    go_wp2_with fail
    go_ret
    exact ⟨rfl, rfl⟩
  by_cases h2 : k = 2
  · subst h2
    go_enter Try.func42, Try.ntmps42
    go_wp2_with fail
    go_ret
    exact ⟨rfl, rfl⟩
  by_cases h4 : k = 4
  · subst h4
    go_enter Try.func42, Try.ntmps42
    go_wp2_with fail
    go_ret
    exact ⟨rfl, rfl⟩
  by_cases h8 : k = 8
  · subst h8
    go_enter Try.func42, Try.ntmps42
    go_wp2_with fail
    go_ret
    exact ⟨rfl, rfl⟩
  have b1 : (k == 1) = false := by simpa using h1
  have b2 : (k == 2) = false := by simpa using h2
  have b4 : (k == 4) = false := by simpa using h4
  have b8 : (k == 8) = false := by simpa using h8
  have hf : Oct.size k = false := by unfold Oct.size; rw [b1, b2, b4, b8]; rfl
  rw [hf]
  clear hf
  go_enter Try.func42, Try.ntmps42
  go_wp2_with fail
  go_ret
  exact ⟨rfl, rfl⟩

set_option maxHeartbeats 1000000 in
theorem refPut_any (B : Nat) (A : Option Addr) (n c : Nat) (bs : List UInt8) (x : Nat) (z k : Int) (hz : z = (x : Int)) (hx : x < 18446744073709551616) (w : World) (hr : Sl w B 1 A n c (bs.map byteV)) (hB : B ≤ w.heap.size) (hn : n ≤ 1099511627776) :
    Calls Try.prog 30 #[.slice A n c, .int .u64 z, .int .i64 k] w fun e w' => ∃ v, e = .returned v ∧ Fresh 5 w (Oct.put bs x k) v w' := by
  subst hz
  have hlen := hr.lenB
  obtain ⟨i0, hi0, hz0, hz1, hz2⟩ := info_parts info8
  have hb0 : Below w.heap.size w (w.alloc (.cells #[] 5)) := (Below.refl _ _).alloc (Nat.le_refl _) _
  cases hs : Oct.size k with
  | false =>
    have HS := Lib.hid hs
    have HP := Lib.hid (show Oct.put bs x k = bs by unfold Oct.put; rw [hs]; rfl)
    clear hs
    go_enter Try.func30, Try.ntmps30
    go_wp2_with (at_builtin
                 refine wpList_append_any _ rfl _ _ _ rfl w.heap.size 5 i0 _ 1 1 Try.underlying22 hi0 hz0 hz1 hz2 rfl (by omega) (.slice (some ⟨w.heap.size, 0, none⟩) 0 0) 0 [] rfl
                   (World.ownsRow_made w #[] 0 (Nat.le_refl _) (by simp [maxLen]) rfl) B A n c (bs.map byteV) rfl (hr.alloc hB _).rd (byteV_one_ bs) (by simp only [maxLen]; omega) (by omega) (by simp) ?_
                 intro v1 w1 hown1 hg1 hat1)
    have hb1 : Below w.heap.size w w1 := hb0.grown hg1 (by simp) (by simp [Value.ownBlock])
    obtain ⟨A1, d1, rfl⟩ := own_slice hown1
    simp only [Nat.zero_add, List.nil_append] at hown1 ⊢
    refine (refSize_any k _).mono ?_
    rintro e w' ⟨rfl, rfl⟩
    rw [HS.out]
    go_wp2_with fail
    go_ret
    refine ⟨_, rfl, ?_⟩
    rw [HP.out]
    subst hlen
    exact ⟨A1, d1, rfl, hown1, hb1⟩
  | true =>
    obtain ⟨K, rfl, hK1, hK8⟩ : ∃ K : Nat, k = (K : Int) ∧ 1 ≤ K ∧ K ≤ 8 := by
      rcases Oct.size_cases hs with rfl | rfl | rfl | rfl
      · exact ⟨1, rfl, by omega, by omega⟩
      · exact ⟨2, rfl, by omega, by omega⟩
      · exact ⟨4, rfl, by omega, by omega⟩
      · exact ⟨8, rfl, by omega, by omega⟩
    have HS := Lib.hid hs
    have HP := Lib.hid (show Oct.put bs x K = bs ++ Oct.be x K by unfold Oct.put; rw [hs]; rfl)
    have Hlen := Lib.hid hlen
    clear hs hlen
    go_enter Try.func30, Try.ntmps30
    go_wp2_with (at_builtin
                 refine wpList_append_any _ rfl _ _ _ rfl w.heap.size 5 i0 _ 1 1 Try.underlying22 hi0 hz0 hz1 hz2 rfl (by omega) (.slice (some ⟨w.heap.size, 0, none⟩) 0 0) 0 [] rfl
                   (World.ownsRow_made w #[] 0 (Nat.le_refl _) (by simp [maxLen]) rfl) B A n c (bs.map byteV) rfl (hr.alloc hB _).rd (byteV_one_ bs) (by simp only [maxLen]; omega) (by omega) (by simp) ?_
                 intro v1 w1 hown1 hg1 hat1)
    have hb1 : Below w.heap.size w w1 := hb0.grown hg1 (by simp) (by simp [Value.ownBlock])
    obtain ⟨A1, d1, rfl⟩ := own_slice hown1
    simp only [Nat.zero_add, List.nil_append] at hown1 ⊢
    clear hg1 hat1
    refine (refSize_any K _).mono ?_
    rintro e w' ⟨rfl, rfl⟩
    rw [HS.out]
    go_wp2_with fail
    go_loopw [7, 8] (fun v i wr => ∃ (j m d : Nat) (A1 : Option Addr), j ≤ K ∧ i = .int .i64 j ∧ m = n + j ∧ v = .slice A1 m d ∧ wr.ownsRow w.heap.size 5 1 (.slice A1 m d) m ((bs ++ (Oct.be x K).take j).map byteV) ∧ Below w.heap.size w wr) (fun _ i _ => K - (intOf i).toNat)
    case atStart => exact ⟨0, n, d1, A1, Nat.zero_le _, rfl, rfl, rfl, by simpa using hown1, hb1⟩
    case round =>
      clear hown1 hb1
      obtain ⟨j, m, d, A2, hj, rfl, hm, rfl, hown, hbel⟩ := hrel
      have HM := Lib.hid hm
      have hm1 : m ≤ n + 8 := by omega
      clear hm
      by_cases hlt : j < K
      · obtain ⟨b, hb, hbv⟩ : ∃ b : UInt8, (Oct.be x K)[j]? = some b ∧ (x : Int) / 2 ^ (8 * (K - 1 - j)) % 256 = (b.toNat : Int) := be_at x K j hlt
        have Hb := Lib.hid hb
        clear hb
        go_wp2_with (at_builtin
                     refine wpList_append_any _ rfl _ _ _ rfl w.heap.size 5 i0 _ 1 1 Try.underlying22 hi0 hz0 hz1 hz2 rfl (by omega) _ _ _ rfl (hown.alloc _) (wr.heap.size + 1) (some ⟨wr.heap.size, 0, none⟩) 1 1 ([b].map byteV) rfl (by exact (Sl.lit (k := 1) (cap := 1) _ _ _ _ _ _ rfl rfl rfl (by omega) (by omega)).rd) (byteV_one_ _) (by simp only [maxLen]; omega) (by omega) (by have := hbel.size; simp; omega) ?_
                     intro v2 w2 hown2 hg2 hat2)
        have hb2 : Below w.heap.size w w2 := (hbel.alloc hbel.size _).grown hg2 (by have := hbel.size; simp; omega) (fun q hq => (hown.lt q hq).1)
        obtain ⟨A3, c3, rfl⟩ := own_slice hown2
        clear hown hbel hg2 hat2
        rw [← List.map_append, List.append_assoc, ← take_succ_of Hb.out] at hown2
        go_wp2_with fail
        go_roundw
        case rel => exact ⟨j + 1, m + 1, c3, A3, by omega, by go_num, by have := HM.out; omega, rfl, hown2, hb2⟩
        case measure => simp [intOf]; omega
      · obtain rfl : j = K := by omega
        have hfin : bs ++ (Oct.be x j).take j = Oct.put bs x j := by rw [HP.out, List.take_of_length_le (by rw [Oct.be_length]; omega)]
        have hl2 : (Oct.put bs x j).length = m := by rw [HP.out, List.length_append, Oct.be_length, HM.out, Hlen.out]
        rw [hfin] at hown
        clear hfin
        have HL := Lib.hid hl2
        clear hl2
        go_wp2_with fail
        go_ret
        refine ⟨_, rfl, A2, d, by simp [HL.out], ?_, hbel⟩
        rw [HL.out]
        exact hown

set_option maxHeartbeats 1000000 in
theorem refTake_any1 (B : Nat) (A : Option Addr) (n c : Nat) (bs : List UInt8) (p k : Int) (w : World) (hr : Sl w B 1 A n c (bs.map byteV)) :
    Calls Try.prog 28 #[.slice A n c, .int .i64 p, .int .i64 k] w fun e w' => e = .returned (takeV (Oct.take bs p k)) ∧ w = w' := by
  have hlen := hr.lenB
  have hnc := hr.nc
  have hcm := hr.cm
  cases hs : Oct.size k with
  | false =>
    have HP := Lib.hid (show Oct.take bs p k = (0, 0, 1) by unfold Oct.take; rw [hs]; simp)
    have HS := Lib.hid hs
    clear hs hlen
    go_enter Try.func28, Try.ntmps28
    go_wp2_with fail
    refine (refSize_any k _).mono ?_
    rintro e w2 ⟨rfl, rfl⟩
    rw [HS.out]
    go_wp2_with fail
    go_ret3
    exact ⟨by rw [HP.out]; rfl, rfl⟩
  | true =>
    obtain ⟨K, rfl, hK1, hK8⟩ : ∃ K : Nat, k = (K : Int) ∧ 1 ≤ K ∧ K ≤ 8 := by
      rcases Oct.size_cases hs with rfl | rfl | rfl | rfl
      · exact ⟨1, rfl, by omega, by omega⟩
      · exact ⟨2, rfl, by omega, by omega⟩
      · exact ⟨4, rfl, by omega, by omega⟩
      · exact ⟨8, rfl, by omega, by omega⟩
    have HS := Lib.hid hs
    by_cases h0 : p < 0
    · have HP := Lib.hid (show Oct.take bs p K = (0, 0, 1) by unfold Oct.take; simp [h0])
      clear hs hlen
      go_enter Try.func28, Try.ntmps28
      go_wp2_with fail
      refine (refSize_any K _).mono ?_
      rintro e w2 ⟨rfl, rfl⟩
      rw [HS.out]
      go_wp2_with fail
      go_ret3
      exact ⟨by rw [HP.out]; rfl, rfl⟩
    · obtain ⟨q, rfl⟩ := Int.eq_ofNat_of_zero_le (show 0 ≤ p by omega)
      by_cases h1 : n < q
      · have HP := Lib.hid (show Oct.take bs q K = (0, 0, 1) by unfold Oct.take; rw [if_pos (by right; right; omega)])
        clear hs hlen
        go_enter Try.func28, Try.ntmps28
        go_wp2_with fail
        refine (refSize_any K _).mono ?_
        rintro e w2 ⟨rfl, rfl⟩
        rw [HS.out]
        go_wp2_with fail
        go_ret3
        exact ⟨by rw [HP.out]; rfl, rfl⟩
      · by_cases h2 : n < q + K
        · have HP := Lib.hid (show Oct.take bs q K = (0, 0, 5) by unfold Oct.take; rw [if_neg (by rw [hs]; simp; omega), if_pos (by omega)])
          clear hs hlen
          go_enter Try.func28, Try.ntmps28
          go_wp2_with fail
          refine (refSize_any K _).mono ?_
          rintro e w2 ⟨rfl, rfl⟩
          rw [HS.out]
          go_wp2_with fail
          go_ret3
          exact ⟨by rw [HP.out]; rfl, rfl⟩
        · have HP := Lib.hid (show Oct.take bs q K = (Oct.val ((bs.drop q).take K), (q : Int) + (K : Int), 0) by unfold Oct.take; rw [if_neg (by rw [hs]; simp; omega), if_neg (by omega)]; simp)
          have Hlen := Lib.hid hlen
          clear hs hlen
          obtain ⟨b, off, _, rfl, _⟩ := hr.byte (k := q) (by omega)
          go_enter Try.func28, Try.ntmps28
          go_wp2_with fail
          refine (refSize_any K _).mono ?_
          rintro e w2 ⟨rfl, rfl⟩
          rw [HS.out]
          go_wp2_with fail
          go_loop [9, 10] (fun v i => ∃ j : Nat, j ≤ K ∧ i = .int .i64 j ∧ v = .int .u64 ((Oct.val ((bs.drop q).take j) : Nat) : Int)) (fun _ i => K - (intOf i).toNat)
          case atStart => exact ⟨0, Nat.zero_le _, rfl, rfl⟩
          case round =>
            obtain ⟨j, hj, rfl, rfl⟩ := hrel
            by_cases hlt : j < K
            · obtain ⟨_, _, v, hA, _, hv, hcell, hvl⟩ := hr.byte (k := q + j) (by omega)
              cases hA
              have hvb : Oct.val ((bs.drop q).take j) < 72057594037927936 := by
                have h1 := Oct.val_lt ((bs.drop q).take j)
                have h2 : ((bs.drop q).take j).length ≤ 7 := by simp; omega
                exact Nat.lt_of_lt_of_le h1 (Nat.le_trans (Nat.pow_le_pow_right (by omega) h2) (by decide))
              have hstep : Oct.val ((bs.drop q).take (j + 1)) = Oct.val ((bs.drop q).take j) * 256 + v.toNat := by
                rw [take_succ_of (show (bs.drop q)[j]? = some v by rw [List.getElem?_drop]; exact hv), Oct.val_snoc]
              have HT := Lib.hid hstep
              clear hstep hv
              generalize Oct.val ((bs.drop q).take j) = y at hvb HT
              go_wp2_with fail
              go_round
              case rel => exact ⟨j + 1, by omega, by go_num, int_eq (by rw [HT.out]; omega)⟩
              case measure => simp [intOf]; omega
            · obtain rfl : j = K := by omega
              go_wp2_with fail
              go_ret3
              exact ⟨by rw [HP.out]; rfl, rfl⟩

theorem order_drop (x y : List UInt8) : ∀ (k : Nat), x.take k = y.take k → k ≤ x.length → k ≤ y.length → Oct.order x y = Oct.order (x.drop k) (y.drop k) := by
  intro k hk h1 h2
  conv => lhs; rw [← List.take_append_drop k x, ← List.take_append_drop k y, hk, Oct.order_append]

theorem order_lt {x y : List UInt8} {k : Nat} {a b : UInt8} (hk : x.take k = y.take k) (ha : x[k]? = some a) (hb : y[k]? = some b) (h : a < b) : Oct.order x y = -1 := by
  have ha1 := (List.getElem?_eq_some_iff.1 ha)
  have hb1 := (List.getElem?_eq_some_iff.1 hb)
  obtain ⟨ha1, rfl⟩ := ha1
  obtain ⟨hb1, rfl⟩ := hb1
  rw [order_drop x y k hk (by omega) (by omega), List.drop_eq_getElem_cons ha1, List.drop_eq_getElem_cons hb1]
  unfold Oct.order
  rw [if_pos h]

theorem order_gt {x y : List UInt8} {k : Nat} {a b : UInt8} (hk : x.take k = y.take k) (ha : x[k]? = some a) (hb : y[k]? = some b) (h : b < a) : Oct.order x y = 1 := by
  have := order_lt hk.symm hb ha h
  rw [Oct.order_swap, this]
  rfl

theorem order_end {x y : List UInt8} {k : Nat} (hk : x.take k = y.take k) (h1 : k ≤ x.length) (h2 : k ≤ y.length) (h : x.length = k ∨ y.length = k) : Oct.order x y = if x.length < y.length then -1 else if y.length < x.length then 1 else 0 := by
  rw [order_drop x y k hk h1 h2]
  have e1 : (x.drop k).length = x.length - k := by simp
  have e2 : (y.drop k).length = y.length - k := by simp
  generalize x.drop k = u at e1
  generalize y.drop k = v at e2
  cases u with
  | nil =>
    cases v with
    | nil => simp at e1 e2; rw [if_neg (by omega), if_neg (by omega)]; rfl
    | cons b v => simp at e1 e2; rw [if_pos (by omega)]; rfl
  | cons a u =>
    cases v with
    | nil => simp at e1 e2; rw [if_neg (by omega), if_pos (by omega)]; rfl
    | cons b v => simp at e1 e2; omega

set_option maxHeartbeats 1000000 in
theorem refOrder_any (B1 : Nat) (A1 : Option Addr) (n1 c1 B2 : Nat) (A2 : Option Addr) (n2 c2 : Nat) (x y : List UInt8) (w : World) (h1 : Sl w B1 1 A1 n1 c1 (x.map byteV)) (h2 : Sl w B2 1 A2 n2 c2 (y.map byteV)) :
    Calls Try.prog 37 #[.slice A1 n1 c1, .slice A2 n2 c2] w fun e w' => e = .returned (.int .i64 (Oct.order x y)) ∧ ∃ q, w' = w.drewN q := by
  have hl1 := h1.lenB
  have hl2 := h2.lenB
  have hn1 := h1.nc
  have hn2 := h2.nc
  have hm1 := h1.cm
  have hm2 := h2.cm
  have HL1 := Lib.hid hl1
  have HL2 := Lib.hid hl2
  clear hl1 hl2
  go_enter Try.func37, Try.ntmps37
  go_wp2_with fail
  go_loopw [5] (fun i wr => ∃ (k : Nat), k ≤ n1 ∧ k ≤ n2 ∧ i = .int .i64 k ∧ x.take k = y.take k ∧ ∃ q, wr = w.drewN q) (fun i _ => n1 - (intOf i).toNat)
  case atStart => exact ⟨0, Nat.zero_le _, Nat.zero_le _, rfl, rfl, 0, rfl⟩
  case round =>
    obtain ⟨k, hk1, hk2, rfl, hpre, hw⟩ := hrel
    have s1 : Sl wr B1 1 A1 n1 c1 (x.map byteV) := by obtain ⟨q, rfl⟩ := hw; exact h1.drewN q
    have s2 : Sl wr B2 1 A2 n2 c2 (y.map byteV) := by obtain ⟨q, rfl⟩ := hw; exact h2.drewN q
    have HW := Lib.hid hw
    clear hw h1 h2
    have HP := Lib.hid hpre
    clear hpre
    by_cases hlt1 : k < n1
    · by_cases hlt2 : k < n2
      · obtain ⟨b1, o1, v1, rfl, _, hv1, hcell1, hu1⟩ := s1.byte hlt1
        obtain ⟨b2, o2, v2, rfl, _, hv2, hcell2, hu2⟩ := s2.byte hlt2
        have HV := Lib.hid (And.intro hv1 hv2)
        clear hv1 hv2
        by_cases ha : v1.toNat < v2.toNat
        · have HO := Lib.hid (order_lt HP.out HV.out.1 HV.out.2 (UInt8.lt_iff_toNat_lt.2 ha))
          go_wp2_with fail
          go_region
          go_wp2_with fail
          go_ret
          exact ⟨ret_int HO.out.symm, by obtain ⟨q, hq⟩ := HW.out; exact ⟨q + 1, by rw [hq]; rfl⟩⟩
        · by_cases hb : v2.toNat < v1.toNat
          · have HO := Lib.hid (order_gt HP.out HV.out.1 HV.out.2 (UInt8.lt_iff_toNat_lt.2 hb))
            go_wp2_with fail
            go_region
            go_wp2_with fail
            go_region
            go_wp2_with fail
            go_ret
            exact ⟨ret_int HO.out.symm, by obtain ⟨q, hq⟩ := HW.out; exact ⟨q + 1 + 1, by rw [hq]; rfl⟩⟩
          · have hv : v1 = v2 := UInt8.toNat_inj.1 (by omega)
            subst hv
            go_wp2_with fail
            go_region
            go_wp2_with fail
            go_region
            go_wp2_with fail
            go_roundw
            case rel => exact ⟨k + 1, by omega, by omega, by go_num, by rw [take_succ_of HV.out.1, take_succ_of HV.out.2, HP.out], by obtain ⟨q, hq⟩ := HW.out; exact ⟨q + 1 + 1, by rw [hq]; rfl⟩⟩
            case measure => simp [intOf]; omega
      · have HO := Lib.hid (order_end HP.out (by rw [HL1.out]; exact hk1) (by rw [HL2.out]; exact hk2) (.inr (by rw [HL2.out]; omega)))
        rw [HL1.out, HL2.out, if_neg (by omega)] at HO
        rw [if_pos (by omega)] at HO
        go_wp2_with fail
        go_ret
        exact ⟨ret_int HO.out.symm, HW.out⟩
    · have HO := Lib.hid (order_end HP.out (by rw [HL1.out]; exact hk1) (by rw [HL2.out]; exact hk2) (.inl (by rw [HL1.out]; omega)))
      rw [HL1.out, HL2.out] at HO
      by_cases he : n1 < n2
      · rw [if_pos he] at HO
        go_wp2_with fail
        go_ret
        exact ⟨ret_int HO.out.symm, HW.out⟩
      · rw [if_neg he, if_neg (by omega)] at HO
        go_wp2_with fail
        go_ret
        exact ⟨ret_int HO.out.symm, HW.out⟩

theorem refSame_any (B1 : Nat) (A1 : Option Addr) (n1 c1 B2 : Nat) (A2 : Option Addr) (n2 c2 : Nat) (x y : List UInt8) (w : World) (h1 : Sl w B1 1 A1 n1 c1 (x.map byteV)) (h2 : Sl w B2 1 A2 n2 c2 (y.map byteV)) :
    Calls Try.prog 29 #[.slice A1 n1 c1, .slice A2 n2 c2] w fun e w' => e = .returned (.bool (Oct.order x y == 0)) ∧ ∃ q, w' = w.drewN q := by
  go_enter Try.func29, Try.ntmps29
  go_wp2_with (go_at_call 37; refine (refOrder_any B1 A1 n1 c1 B2 A2 n2 c2 x y _ h1 h2).mono ?_; rintro e w' ⟨rfl, q, rfl⟩)
  go_ret
  exact ⟨rfl, _, rfl⟩

/-- gabletref01.PutBytes. -/
theorem refPutBytes_any (B : Nat) (A A2 : Option Addr) (n c n2 c2 : Nat) (bs s : List UInt8) (w : World) (hr : Sl w B 1 A n c (bs.map byteV)) (hr2 : Sl w B 1 A2 n2 c2 (s.map byteV)) (hB : B ≤ w.heap.size) (hn : n ≤ 549755813888) :
    Calls Try.prog 32 #[.slice A n c, .slice A2 n2 c2] w fun e w' => ∃ v, e = .returned (pairV v (Oct.putBytes bs s).2) ∧ Fresh 5 w (Oct.putBytes bs s).1 v w' := by
  have hlen := hr.lenB
  have hlen2 := hr2.lenB
  have hcm2 := hr2.cm
  have hnc2 := hr2.nc
  obtain ⟨i0, hi0, hz0, hz1, hz2⟩ := info_parts info8
  by_cases hbig : 65535 < n2
  · have HP := Lib.hid (show Oct.putBytes bs s = ([], 6) by unfold Oct.putBytes; rw [if_pos (by omega)])
    clear hlen hlen2
    go_enter Try.func32, Try.ntmps32
    go_wp2_with fail
    go_ret2
    rw [HP.out]
    exact ⟨_, rfl, Fresh.nil_ _ _⟩
  · have HP := Lib.hid (show Oct.putBytes bs s = (Oct.put bs n2 2 ++ s, 0) by unfold Oct.putBytes; rw [if_neg (by omega), hlen2]; rfl)
    have HL := Lib.hid (show (Oct.put bs n2 2).length = n + 2 by rw [show Oct.put bs n2 2 = bs ++ Oct.be n2 2 from rfl, List.length_append, Oct.be_length, hlen])
    have HL2 := Lib.hid (show (Oct.put bs n2 2 ++ s).length = n + 2 + n2 by rw [List.length_append, HL.out, hlen2])
    clear hlen hlen2
    go_enter Try.func32, Try.ntmps32
    go_wp2_with fail
    refine (refPut_any B A n c bs n2 _ _ rfl (by omega) _ hr hB (by omega)).mono ?_
    rintro e w1 ⟨v1, rfl, hf⟩
    obtain ⟨A1, d1, rfl, hown1, hb1⟩ := hf
    rw [HL.out] at hown1 ⊢
    have hr3 := hr2.below' hb1 hB
    go_wp2_with (at_builtin
                 refine wpList_append_any _ rfl _ _ _ rfl w.heap.size 5 i0 _ 1 1 Try.underlying22 hi0 hz0 hz1 hz2 rfl (by omega) _ _ _ rfl hown1 B A2 n2 c2 (s.map byteV) rfl hr3.rd (byteV_one_ _) (by simp only [maxLen]; omega) (by omega) hb1.size ?_
                 intro v2 w2 hown2 hg2 hat2)
    have hb2 : Below w.heap.size w w2 := hb1.grown hg2 hb1.size (fun q hq => (hown1.lt q hq).1)
    rw [← List.map_append] at hown2
    obtain ⟨A4, d4, rfl⟩ := own_slice hown2
    go_ret2
    rw [HP.out]
    exact ⟨_, rfl, A4, d4, by simp [HL2.out], by rw [HL2.out]; exact hown2, hb2⟩

set_option maxHeartbeats 1000000 in
/-- gabletref01.TakeBytes. -/
theorem refTakeBytes_any (B : Nat) (A : Option Addr) (n c : Nat) (bs : List UInt8) (p : Int) (w : World) (hr : Sl w B 1 A n c (bs.map byteV)) (hB : B ≤ w.heap.size) (hn : n ≤ 1099511627776) :
    Calls Try.prog 34 #[.slice A n c, .int .i64 p] w fun e w' => ∃ v, e = .returned (tripleV v (Oct.takeBytes bs p).2.1 (Oct.takeBytes bs p).2.2) ∧ Fresh 5 w (Oct.takeBytes bs p).1 v w' := by
  have hlen := hr.lenB
  have hcm := hr.cm
  have hnc := hr.nc
  obtain ⟨i0, hi0, hz0, hz1, hz2⟩ := info_parts info8
  obtain ⟨⟨x, next, er⟩, ht⟩ : ∃ r, Oct.take bs p 2 = r := ⟨_, rfl⟩
  have HT := Lib.hid ht
  have hcases := take2_cases hlen ht
  clear ht
  rcases hcases with ⟨rfl, rfl, her⟩ | ⟨rfl, hp0, rfl, hp2, hx⟩
  · have HP := Lib.hid (show Oct.takeBytes bs p = ([], 0, er) by unfold Oct.takeBytes; rw [HT.out]; rcases her with rfl | rfl <;> rfl)
    have hne : (er != 0) = true := by rcases her with rfl | rfl <;> rfl
    clear hlen her
    go_enter Try.func34, Try.ntmps34
    go_wp2_with fail
    refine (refTake_any1 B A n c bs p 2 _ hr).mono ?_
    rintro e w1 ⟨rfl, rfl⟩
    rw [HT.out]
    unfold takeV
    go_wp2_with fail
    go_ret3
    rw [HP.out]
    exact ⟨_, rfl, Fresh.nil_ _ _⟩
  · obtain ⟨q, rfl⟩ := Int.eq_ofNat_of_zero_le hp0
    by_cases hbig : n < q + 2 + x
    · have HP := Lib.hid (show Oct.takeBytes bs q = ([], 0, 5) by unfold Oct.takeBytes; rw [HT.out]; simp; omega)
      clear hlen
      go_enter Try.func34, Try.ntmps34
      go_wp2_with fail
      refine (refTake_any1 B A n c bs q 2 _ hr).mono ?_
      rintro e w1 ⟨rfl, rfl⟩
      rw [HT.out]
      unfold takeV
      go_wp2_with fail
      go_ret3
      rw [HP.out]
      exact ⟨_, rfl, Fresh.nil_ _ _⟩
    · have HP := Lib.hid (show Oct.takeBytes bs q = ((bs.drop (q + 2)).take x, (q : Int) + 2 + x, 0) by unfold Oct.takeBytes; rw [HT.out]; simp; rw [if_neg (by omega)]; rfl)
      obtain ⟨b, off, _, rfl, _⟩ := hr.byte (k := q) (by omega)
      have hxl : ((bs.drop (q + 2)).take x).length = x := by simp [hlen]; omega
      have HX := Lib.hid hxl
      clear hlen hxl
      have hcut := (hr.cut (k := q + 2) (by omega)).take_ (k := x) (by omega)
      rw [Nat.mul_one, Nat.mul_one, ← List.map_drop, ← List.map_take] at hcut
      by_cases hc0 : c = q + 2
      · rw [if_pos hc0] at hcut
        obtain rfl : x = 0 := by omega
        obtain rfl : n = q + 2 := by omega
        subst hc0
        rw [Nat.sub_self] at hcut
        go_enter Try.func34, Try.ntmps34
        go_wp2_with fail
        refine (refTake_any1 B (some ⟨b, off, none⟩) (q + 2) (q + 2) bs q 2 _ hr).mono ?_
        rintro e w1 ⟨rfl, rfl⟩
        rw [HT.out]
        unfold takeV
        go_wp2_with (at_builtin
                     refine wpList_append_any _ rfl _ _ _ rfl w.heap.size 5 i0 _ 1 1 Try.underlying22 hi0 hz0 hz1 hz2 rfl (by omega) (.slice (some ⟨w.heap.size, 0, none⟩) 0 0) 0 [] rfl
                       (World.ownsRow_made w #[] 0 (Nat.le_refl _) (by simp [maxLen]) rfl) B _ 0 _ _ rfl (hcut.alloc hB _).rd (byteV_one_ _) (by simp only [maxLen]; omega) (by omega) (by simp) ?_
                     intro v1 w1 hown1 hg1 hat1)
        have hb1 : Below w.heap.size w w1 := ((Below.refl _ _).alloc (Nat.le_refl _) _).grown hg1 (by simp) (by simp [Value.ownBlock])
        simp only [Nat.zero_add, List.nil_append] at hown1
        obtain ⟨A4, d4, rfl⟩ := own_slice hown1
        go_wp2_with fail
        go_ret3
        rw [HP.out]
        exact ⟨_, rfl, A4, d4, by rw [HX.out]; rfl, by rw [HX.out]; exact hown1, hb1⟩
      · rw [if_neg hc0] at hcut
        have hcut : Sl w B 1 (some ⟨b, off + (q + 2), none⟩) x (c - (q + 2)) (((bs.drop (q + 2)).take x).map byteV) := hcut
        have hcut2 : Sl w B 1 (some ⟨b, off + (q + 2), none⟩) (q + 2 + x - (q + 2)) (c - (q + 2)) (((bs.drop (q + 2)).take x).map byteV) := by rw [Nat.add_sub_cancel_left]; exact hcut
        go_enter Try.func34, Try.ntmps34
        go_wp2_with fail
        refine (refTake_any1 B (some ⟨b, off, none⟩) n c bs q 2 _ hr).mono ?_
        rintro e w1 ⟨rfl, rfl⟩
        rw [HT.out]
        unfold takeV
        go_wp2_with (at_builtin
                     refine wpList_append_any _ rfl _ _ _ rfl w.heap.size 5 i0 _ 1 1 Try.underlying22 hi0 hz0 hz1 hz2 rfl (by omega) (.slice (some ⟨w.heap.size, 0, none⟩) 0 0) 0 [] rfl (World.ownsRow_made w #[] 0 (Nat.le_refl _) (by simp [maxLen]) rfl) B (some ⟨b, off + (q + 2), none⟩) (q + 2 + x - (q + 2)) (c - (q + 2)) _ rfl (hcut2.alloc hB _).rd (byteV_one_ _) (by simp only [maxLen]; omega) (by omega) (by simp) ?_
                     intro v1 w1 hown1 hg1 hat1)
        have hb1 : Below w.heap.size w w1 := ((Below.refl _ _).alloc (Nat.le_refl _) _).grown hg1 (by simp) (by simp [Value.ownBlock])
        simp only [Nat.zero_add, Nat.add_sub_cancel_left, List.nil_append] at hown1
        obtain ⟨A4, d4, rfl⟩ := own_slice hown1
        go_wp2_with fail
        go_ret3
        rw [HP.out]
        exact ⟨_, rfl, A4, d4, by rw [HX.out]; rfl, by rw [HX.out]; exact hown1, hb1⟩

/-- gabletref01.After. -/
theorem refAfter_any (B : Nat) (A : Option Addr) (n c : Nat) (bs : List UInt8) (w : World) (hr : Sl w B 1 A n c (bs.map byteV)) (hB : B ≤ w.heap.size) (hn : n ≤ 1099511627776) :
    Calls Try.prog 38 #[.slice A n c] w fun e w' => ∃ v, e = .returned v ∧ Fresh 5 w (Oct.after bs) v w' := by
  have hl := Lib.hid (show (Oct.after bs).length = n + 1 by rw [show Oct.after bs = bs ++ [0] from rfl, List.length_append, hr.lenB]; rfl)
  have hcm := hr.cm
  have hnc := hr.nc
  obtain ⟨i0, hi0, hz0, hz1, hz2⟩ := info_parts info8
  go_enter Try.func38, Try.ntmps38
  go_wp2_with (at_builtin
               first
               | (refine wpList_append_any _ rfl _ _ _ rfl w.heap.size 5 i0 _ 1 1 Try.underlying22 hi0 hz0 hz1 hz2 rfl (by omega) _ _ _ rfl (hown1.alloc _) (w1.heap.size + 1) (some ⟨w1.heap.size, 0, none⟩) 1 1 ([0].map byteV) rfl (by exact (Sl.lit (k := 1) (cap := 1) _ _ _ _ _ _ rfl rfl rfl (by omega) (by omega)).rd) (byteV_one_ _) (by simp only [maxLen]; omega) (by omega) (by have := hb1.size; simp; omega) ?_
                  intro v2 w2 hown2 hg2 hat2
                  have hb2 : Below w.heap.size w w2 := (hb1.alloc hb1.size _).grown hg2 (by have := hb1.size; simp; omega) (fun q hq => (hown1.lt q hq).1)
                  obtain ⟨A3, c3, rfl⟩ := own_slice hown2)
               | (refine wpList_append_any _ rfl _ _ _ rfl w.heap.size 5 i0 _ 1 1 Try.underlying22 hi0 hz0 hz1 hz2 rfl (by omega) (.slice (some ⟨w.heap.size, 0, none⟩) 0 0) 0 [] rfl
                    (World.ownsRow_made w #[] 0 (Nat.le_refl _) (by simp [maxLen]) rfl) B A n c (bs.map byteV) rfl (hr.alloc hB _).rd (byteV_one_ bs) (by simp only [maxLen]; omega) (by omega) (by simp) ?_
                  intro v1 w1 hown1 hg1 hat1
                  have hb1 : Below w.heap.size w w1 := ((Below.refl _ _).alloc (Nat.le_refl _) _).grown hg1 (by simp) (by simp [Value.ownBlock])
                  simp only [Nat.zero_add, List.nil_append] at hown1
                  obtain ⟨A1, d1, rfl⟩ := own_slice hown1
                  clear hg1 hat1))
  rw [← List.map_append] at hown2
  go_ret
  exact ⟨_, rfl, A3, c3, by rw [hl.out]; rfl, by rw [hl.out]; exact hown2, hb2⟩

/-! ### the law's own small ones -/

theorem vast01_any (A : Option Addr) (n c : Nat) (w : World) (hn : n ≤ 9223372036854775807) :
    Calls Try.prog 23 #[.slice A n c] w fun e w' => e = .returned (.bool (decide ((16384 : Int) < n))) ∧ w = w' := by
  go_enter Try.func23, Try.ntmps23
  go_wp2_with fail
  go_ret
  exact ⟨rfl, rfl⟩

theorem copied01_any (B : Nat) (A : Option Addr) (n c : Nat) (bs : List UInt8) (w : World) (hr : Sl w B 1 A n c (bs.map byteV)) (hB : B ≤ w.heap.size) (hn : n ≤ 1099511627776) :
    Calls Try.prog 27 #[.slice A n c] w fun e w' => ∃ v, e = .returned v ∧ Fresh 5 w bs v w' := by
  have hnc := hr.nc
  have hcm := hr.cm
  have hlen := hr.lenB
  obtain ⟨i0, hi0, hz0, hz1, hz2⟩ := info_parts info8
  go_enter Try.func27, Try.ntmps27
  go_wp2_with (at_builtin
               refine wpList_append_any _ rfl _ _ _ rfl w.heap.size 5 i0 _ 1 1 Try.underlying22 hi0 hz0 hz1 hz2 rfl (by omega) (.slice (some ⟨w.heap.size, 0, none⟩) 0 0) 0 [] rfl
                 (World.ownsRow_made w #[] 0 (Nat.le_refl _) (by simp [maxLen]) rfl) B A n c (bs.map byteV) rfl (hr.alloc hB _).rd (byteV_one_ bs) (by simp only [maxLen]; omega) (by omega) (by simp) ?_
               intro v1 w1 hown1 hg1 hat1)
  go_ret
  obtain ⟨A1, c1, rfl⟩ := own_slice hown1
  simp only [Nat.zero_add, List.nil_append] at hown1
  subst hlen
  exact ⟨_, rfl, A1, c1, by simp, hown1, ((Below.refl _ _).alloc (Nat.le_refl _) _).grown hg1 (by simp) (by simp [Value.ownBlock])⟩

end Go.Proofs.Ytjnchbadefggjaa

/-
  Numbers put behind bytes and taken off them, and bytes cloned, walked, for layer 4.
-/
import Derived.Test.YtbfcfhfnkpklkaaDoorOctMap
import Derived.Test.YtbfcfhfnkpklkaaDoorOctPlain
import Derived.Lib.AppendZeros
namespace Go.Proofs.YtbfcfhfnkpklkaaDoor
open Go.RowKit Go.Gab
set_option linter.unusedVariables false

theorem isSize_eq (k : Int) : isSize k = Oct.size k := rfl

/-- What is owned stays owned where nothing below a later block turns. -/
theorem ownsRow_below {w1 w' : World} {base : Nat} {e : TypeId} {size : Nat} {v : Value} {n : Nat} {xs : List Value} (h : w1.ownsRow base e size v n xs) (hb : Below w1.heap.size w1 w') : w'.ownsRow base e size v n xs := by
  refine ⟨h.1, ?_⟩
  rcases h.2 with h1 | ⟨g, cap, cur, h1, h2, h3, h4⟩
  · exact .inl h1
  · exact .inr ⟨g, cap, cur, h1, h2, (hb.block g (Array.getElem?_eq_some_iff.1 h3).1).trans h3, h4⟩

theorem be_at (x K j : Nat) (hj : j < K) : ∃ b : UInt8, (Oct.be x K)[j]? = some b ∧ (x : Int) / 2 ^ (8 * (K - 1 - j)) % 256 = (b.toNat : Int) := by
  refine ⟨_, Oct.be_get x K j hj, ?_⟩
  have e : (UInt8.ofNat (x / 256 ^ (K - 1 - j) % 256)).toNat = x / 256 ^ (K - 1 - j) % 256 := by simp
  rw [e, Int.natCast_emod, Int.natCast_ediv, Int.natCast_pow, Int.pow_mul]
  rfl

theorem info8 : (Tryd.prog.info? 5).map (fun i => (i.zero, i.size, i.bytes)) = some (some (.int .u8 0), 1, 1) := by kernel_rfl

set_option maxHeartbeats 400000 in
theorem clone_any (B : Nat) (A : Option Addr) (n c : Nat) (bs : List UInt8) (w : World) (hr : Sl w B 1 A n c (bs.map byteV)) (hB : B ≤ w.heap.size) (hn : n ≤ 140737488355328) :
    Calls Tryd.prog 21 #[.slice A n c] w fun e w' => ∃ v, e = .returned v ∧ Fresh 5 w bs v w' := by
  have hnc := hr.nc
  have hcm := hr.cm
  have hlen := hr.lenB
  obtain ⟨i0, hi0, hz0, hz1, hz2⟩ := info_parts info8
  cases A with
  | none =>
    have h0 := hr.rd.none_of
    subst h0
    have hbs : bs = [] := List.eq_nil_of_length_eq_zero hlen
    subst hbs
    have hq := Lib.run_eql_slice_nil (P := Tryd.prog) w 22 5 none 0 c 0 0 Tryd.underlying22
    simp only [Option.isNone_none] at hq
    clear hlen hnc
    go_enter Tryd.func21, Tryd.ntmps21
    go_wp2_with fail
    go_ret
    exact ⟨_, rfl, Fresh.nil_ _ _⟩
  | some a =>
    have hq := Lib.run_eql_slice_nil (P := Tryd.prog) w 22 5 (some a) n c 0 0 Tryd.underlying22
    simp only [Option.isNone_some] at hq
    go_enter Tryd.func21, Tryd.ntmps21
    go_wp2_with (at_builtin
                 refine wpList_append_any _ rfl _ _ _ rfl w.heap.size 5 i0 _ 1 1 Tryd.underlying22 hi0 hz0 hz1 hz2 rfl (by omega) (.slice (some ⟨w.heap.size, 0, none⟩) 0 0) 0 [] rfl
                   (World.ownsRow_made w #[] 0 (Nat.le_refl _) (by simp [maxLen]) rfl) B (some a) n c (bs.map byteV) rfl (hr.alloc hB _).rd (byteV_one_ bs) (by simp only [maxLen]; omega) (by omega) (by simp) ?_
                 intro v1 w1 hown1 hg1 hat1)
    go_ret
    obtain ⟨A1, c1, rfl⟩ := own_slice hown1
    simp only [Nat.zero_add, List.nil_append] at hown1
    subst hlen
    exact ⟨_, rfl, A1, c1, by simp, hown1, ((Below.refl _ _).alloc (Nat.le_refl _) _).grown hg1 (by simp) (by simp [Value.ownBlock])⟩

/-- Nothing of a fresh value turns where only what is new is written. -/
theorem Fresh_base {t8 : TypeId} {w w' : World} {bs : List UInt8} {v : Value} (h : Fresh t8 w bs v w') (w0 : World) (h0 : Below w0.heap.size w0 w) : Fresh t8 w0 bs v w' := by
  obtain ⟨A, c, rfl, ho, hb⟩ := h
  refine ⟨A, c, rfl, ⟨ho.1, ?_⟩, h0.trans (hb.mono h0.size)⟩
  rcases ho.2 with h1 | ⟨g, cap, cur, h1, h2, h3⟩
  · exact .inl h1
  · exact .inr ⟨g, cap, cur, h1, Nat.le_trans h0.size h2, h3⟩

set_option maxHeartbeats 1000000 in
theorem put_any (B : Nat) (A : Option Addr) (n c : Nat) (bs : List UInt8) (x : Nat) (z k : Int) (hz : z = (x : Int)) (hx : x < 18446744073709551616) (w : World) (hr : Sl w B 1 A n c (bs.map byteV)) (hB : B ≤ w.heap.size) (hn : n ≤ 1099511627776) :
    Calls Tryd.prog 14 #[.slice A n c, .int .u64 z, .int .i64 k] w fun e w' => ∃ v, e = .returned v ∧ Fresh 5 w (Oct.put bs x k) v w' := by
  subst hz
  have hlen := hr.lenB
  obtain ⟨i0, hi0, hz0, hz1, hz2⟩ := info_parts info8
  cases hs : isSize k with
  | false =>
    have HS := Lib.hid hs
    have HP := Lib.hid (show Oct.put bs x k = bs by unfold Oct.put; rw [← isSize_eq, hs]; rfl)
    clear hs
    go_enter Tryd.func14, Tryd.ntmps14
    go_wp2_with fail
    refine (clone_any B A n c bs _ hr hB (by omega)).mono ?_
    rintro e w1 ⟨v1, rfl, hf⟩
    obtain ⟨A1, d1, rfl, hown1, hb1⟩ := hf
    go_wp2_with fail
    refine (right_any k _).mono ?_
    rintro e w2 ⟨rfl, hb2⟩
    rw [HS.out]
    go_wp2_with fail
    go_ret
    refine ⟨_, rfl, ?_⟩
    rw [HP.out]
    exact ⟨A1, d1, by simp [hlen], ownsRow_below hown1 hb2, hb1.trans (hb2.mono hb1.size)⟩
  | true =>
    obtain ⟨K, rfl, hK1, hK8⟩ : ∃ K : Nat, k = (K : Int) ∧ 1 ≤ K ∧ K ≤ 8 := by
      rcases Oct.size_cases hs with rfl | rfl | rfl | rfl
      · exact ⟨1, rfl, by omega, by omega⟩
      · exact ⟨2, rfl, by omega, by omega⟩
      · exact ⟨4, rfl, by omega, by omega⟩
      · exact ⟨8, rfl, by omega, by omega⟩
    have HS := Lib.hid hs
    have HP := Lib.hid (show Oct.put bs x K = bs ++ Oct.be x K by unfold Oct.put; rw [← isSize_eq, hs]; rfl)
    have Hlen := Lib.hid hlen
    clear hs hlen
    go_enter Tryd.func14, Tryd.ntmps14
    go_wp2_with fail
    refine (clone_any B A n c bs _ hr hB (by omega)).mono ?_
    rintro e w1 ⟨v1, rfl, hf⟩
    obtain ⟨A1, d1, rfl, hown1, hb1⟩ := hf
    rw [Hlen.out] at hown1 ⊢
    go_wp2_with fail
    refine (right_any K _).mono ?_
    rintro e w2 ⟨rfl, hb2⟩
    rw [HS.out]
    have hown2 := ownsRow_below hown1 hb2
    have hb := hb1.trans (hb2.mono hb1.size)
    clear hown1 hb1 hb2
    go_wp2_with fail
    go_loopw [7, 16] (fun v i wr => ∃ (j m d : Nat) (A1 : Option Addr), j ≤ K ∧ i = .int .i64 j ∧ m = n + j ∧ v = .slice A1 m d ∧ wr.ownsRow w.heap.size 5 1 (.slice A1 m d) m ((bs ++ (Oct.be x K).take j).map byteV) ∧ Below w.heap.size w wr) (fun _ i _ => K - (intOf i).toNat)
    case atStart => exact ⟨0, n, d1, A1, Nat.zero_le _, rfl, rfl, rfl, by simpa using hown2, hb⟩
    case round =>
      clear hown2 hb
      obtain ⟨j, m, d, A2, hj, rfl, hm, rfl, hown, hbel⟩ := hrel
      have HM := Lib.hid hm
      have hm1 : m ≤ n + 8 := by omega
      clear hm
      by_cases hlt : j < K
      · obtain ⟨b, hb, hbv⟩ : ∃ b : UInt8, (Oct.be x K)[j]? = some b ∧ (x : Int) / 2 ^ (8 * (K - 1 - j)) % 256 = (b.toNat : Int) := be_at x K j hlt
        have Hb := Lib.hid hb
        clear hb
        go_wp2_with (at_builtin
                     refine wpList_append_any _ rfl _ _ _ rfl w.heap.size 5 i0 _ 1 1 Tryd.underlying22 hi0 hz0 hz1 hz2 rfl (by omega) _ _ _ rfl (hown.alloc _) (wr.heap.size + 1) (some ⟨wr.heap.size, 0, none⟩) 1 1 ([b].map byteV) rfl (by exact (Sl.lit (k := 1) (cap := 1) _ _ _ _ _ _ rfl rfl rfl (by omega) (by omega)).rd) (byteV_one_ _) (by simp only [maxLen]; omega) (by omega) (by have := hbel.size; simp; omega) ?_
                     intro v2 w2 hown2 hg2 hat2)
        have hb2 : Below w.heap.size w w2 := (hbel.alloc hbel.size _).grown hg2 (by have := hbel.size; simp; omega) (fun q hq => (hown.lt q hq).1)
        obtain ⟨A3, c3, rfl⟩ := own_slice hown2
        clear hown hbel hg2 hat2
        rw [← List.map_append, List.append_assoc, ← take_succ_of Hb.out] at hown2
        go_wp2_with fail
        go_roundw
        case rel => exact ⟨j + 1, m + 1, c3, A3, by omega, by go_num, by have := HM.out; omega, rfl, hown2, hb2⟩
        case measure => simp [intOf]; omega
      · obtain rfl : j = K := by omega
        have hfin : bs ++ (Oct.be x j).take j = Oct.put bs x j := by rw [HP.out, List.take_of_length_le (by rw [Oct.be_length]; omega)]
        have hl2 : (Oct.put bs x j).length = m := by rw [HP.out, List.length_append, Oct.be_length, HM.out, Hlen.out]
        rw [hfin] at hown
        clear hfin
        have HL := Lib.hid hl2
        clear hl2
        go_wp2_with fail
        go_ret
        refine ⟨_, rfl, A2, d, by simp [HL.out], ?_, hbel⟩
        rw [HL.out]
        exact hown

/-- What octet.Take answers, as a value. -/
def takeV (r : Nat × Int × Int) : Value := .tuple #[.int .u64 (r.1 : Int), .int .i64 r.2.1, .int .i64 r.2.2]

theorem or_byte (v : Nat) (c : UInt8) (hv : v < 72057594037927936) : bits .or .u64 ((v : Int) * 256) (c.toNat : Int) = ((v * 256 + c.toNat : Nat) : Int) := by
  have hc := c.toNat_lt
  have h := u64_or_nat (v * 256) c.toNat (by omega) (by omega)
  have e := Nat.two_pow_add_eq_or_of_lt (i := 8) (b := c.toNat) (by omega) v
  rw [show ((v : Int) * 256) = ((v * 256 : Nat) : Int) by omega, h]
  congr 1
  rw [Nat.mul_comm v 256]
  exact e.symm

set_option maxHeartbeats 1000000 in
theorem take_any (B : Nat) (A : Option Addr) (n c : Nat) (bs : List UInt8) (p k : Int) (w : World) (hr : Sl w B 1 A n c (bs.map byteV)) (hB : B ≤ w.heap.size) (hn : n ≤ 1099511627776) :
    Calls Tryd.prog 19 #[.slice A n c, .int .i64 p, .int .i64 k] w fun e w' => e = .returned (takeV (Oct.take bs p k)) ∧ Below w.heap.size w w' := by
  have hlen := hr.lenB
  have hnc := hr.nc
  have hcm := hr.cm
  cases hs : isSize k with
  | false =>
    have HP := Lib.hid (show Oct.take bs p k = (0, 0, 1) by unfold Oct.take; rw [← isSize_eq, hs]; simp)
    have HS := Lib.hid hs
    clear hs hlen
    go_enter Tryd.func19, Tryd.ntmps19
    go_wp2_with fail
    refine (right_any k _).mono ?_
    rintro e w2 ⟨rfl, hb2⟩
    rw [HS.out]
    go_wp2_with fail
    go_ret3
    exact ⟨by rw [HP.out]; rfl, hb2⟩
  | true =>
    obtain ⟨K, rfl, hK1, hK8⟩ : ∃ K : Nat, k = (K : Int) ∧ 1 ≤ K ∧ K ≤ 8 := by
      rcases Oct.size_cases hs with rfl | rfl | rfl | rfl
      · exact ⟨1, rfl, by omega, by omega⟩
      · exact ⟨2, rfl, by omega, by omega⟩
      · exact ⟨4, rfl, by omega, by omega⟩
      · exact ⟨8, rfl, by omega, by omega⟩
    have HS := Lib.hid hs
    by_cases h0 : p < 0
    · have HP := Lib.hid (show Oct.take bs p K = (0, 0, 1) by unfold Oct.take; simp [h0])
      clear hs hlen
      go_enter Tryd.func19, Tryd.ntmps19
      go_wp2_with fail
      refine (right_any K _).mono ?_
      rintro e w2 ⟨rfl, hb2⟩
      rw [HS.out]
      go_wp2_with fail
      go_ret3
      exact ⟨by rw [HP.out]; rfl, hb2⟩
    · obtain ⟨q, rfl⟩ := Int.eq_ofNat_of_zero_le (show 0 ≤ p by omega)
      by_cases h1 : n < q
      · have HP := Lib.hid (show Oct.take bs q K = (0, 0, 1) by unfold Oct.take; rw [if_pos (by right; right; omega)])
        clear hs hlen
        go_enter Tryd.func19, Tryd.ntmps19
        go_wp2_with fail
        refine (right_any K _).mono ?_
        rintro e w2 ⟨rfl, hb2⟩
        rw [HS.out]
        go_wp2_with fail
        go_ret3
        exact ⟨by rw [HP.out]; rfl, hb2⟩
      · by_cases h2 : n < q + K
        · have HP := Lib.hid (show Oct.take bs q K = (0, 0, 5) by unfold Oct.take; rw [if_neg (by rw [← isSize_eq, hs]; simp; omega), if_pos (by omega)])
          clear hs hlen
          go_enter Tryd.func19, Tryd.ntmps19
          go_wp2_with fail
          refine (right_any K _).mono ?_
          rintro e w2 ⟨rfl, hb2⟩
          rw [HS.out]
          go_wp2_with fail
          go_ret3
          exact ⟨by rw [HP.out]; rfl, hb2⟩
        · have HP := Lib.hid (show Oct.take bs q K = (Oct.val ((bs.drop q).take K), (q : Int) + (K : Int), 0) by unfold Oct.take; rw [if_neg (by rw [← isSize_eq, hs]; simp; omega), if_neg (by omega)]; simp)
          have Hlen := Lib.hid hlen
          clear hs hlen
          obtain ⟨b, off, _, rfl, _⟩ := hr.byte (k := q) (by omega)
          go_enter Tryd.func19, Tryd.ntmps19
          go_wp2_with fail
          refine (right_any K _).mono ?_
          rintro e w2 ⟨rfl, hb2⟩
          rw [HS.out]
          have hr2 := hr.below' hb2 hB
          go_wp2_with fail
          go_loop [6, 36] (fun v i => ∃ j : Nat, j ≤ K ∧ i = .int .i64 j ∧ v = .int .u64 ((Oct.val ((bs.drop q).take j) : Nat) : Int)) (fun _ i => K - (intOf i).toNat)
          case atStart => exact ⟨0, Nat.zero_le _, rfl, rfl⟩
          case round =>
            obtain ⟨j, hj, rfl, rfl⟩ := hrel
            by_cases hlt : j < K
            · obtain ⟨_, _, v, hA, _, hv, hcell, hvl⟩ := hr2.byte (k := q + j) (by omega)
              cases hA
              have hvb : Oct.val ((bs.drop q).take j) < 72057594037927936 := by
                have h1 := Oct.val_lt ((bs.drop q).take j)
                have h2 : ((bs.drop q).take j).length ≤ 7 := by simp; omega
                exact Nat.lt_of_lt_of_le h1 (Nat.le_trans (Nat.pow_le_pow_right (by omega) h2) (by decide))
              have hstep : Oct.val ((bs.drop q).take (j + 1)) = Oct.val ((bs.drop q).take j) * 256 + v.toNat := by
                rw [take_succ_of (show (bs.drop q)[j]? = some v by rw [List.getElem?_drop]; exact hv), Oct.val_snoc]
              have HT := Lib.hid hstep
              clear hstep hv
              generalize Oct.val ((bs.drop q).take j) = y at hvb HT
              have HO := Lib.hid (or_byte y v hvb)
              rw [← Nat.add_assoc] at hcell
              go_wp2_with fail
              go_round
              case rel => exact ⟨j + 1, by omega, by go_num, int_eq (by rw [HO.out, HT.out])⟩
              case measure => simp [intOf]; omega
            · obtain rfl : j = K := by omega
              go_wp2_with fail
              go_ret3
              exact ⟨by rw [HP.out]; rfl, hb2⟩

/-! ### slices.Concat of two byte strings -/

theorem refSize_any (k : Int) (w : World) :
    Calls Tryd.prog 25 #[.int .i64 k] w fun e w' => e = .returned (.bool (Oct.size k)) ∧ w = w' := by
  by_cases h1 : k = 1
  · subst h1
    go_enter Tryd.func25, Tryd.ntmps25
    go_wp2_with fail
    go_ret
    exact ⟨rfl, rfl⟩
  by_cases h2 : k = 2
  · subst h2
    go_enter Tryd.func25, Tryd.ntmps25
    go_wp2_with fail
    go_ret
    exact ⟨rfl, rfl⟩
  by_cases h4 : k = 4
  · subst h4
    go_enter Tryd.func25, Tryd.ntmps25
    go_wp2_with fail
    go_ret
    exact ⟨rfl, rfl⟩
  by_cases h8 : k = 8
  · subst h8
    go_enter Tryd.func25, Tryd.ntmps25
    go_wp2_with fail
    go_ret
    exact ⟨rfl, rfl⟩
  have b1 : (k == 1) = false := by simpa using h1
  have b2 : (k == 2) = false := by simpa using h2
  have b4 : (k == 4) = false := by simpa using h4
  have b8 : (k == 8) = false := by simpa using h8
  have hf : Oct.size k = false := by unfold Oct.size; rw [b1, b2, b4, b8]; rfl
  rw [hf]
  clear hf
  go_enter Tryd.func25, Tryd.ntmps25
  go_wp2_with fail
  go_ret
  exact ⟨rfl, rfl⟩

set_option maxHeartbeats 1000000 in
theorem refPut_any (B : Nat) (A : Option Addr) (n c : Nat) (bs : List UInt8) (x : Nat) (z k : Int) (hz : z = (x : Int)) (hx : x < 18446744073709551616) (w : World) (hr : Sl w B 1 A n c (bs.map byteV)) (hB : B ≤ w.heap.size) (hn : n ≤ 1099511627776) :
    Calls Tryd.prog 16 #[.slice A n c, .int .u64 z, .int .i64 k] w fun e w' => ∃ v, e = .returned v ∧ Fresh 5 w (Oct.put bs x k) v w' := by
  subst hz
  have hlen := hr.lenB
  obtain ⟨i0, hi0, hz0, hz1, hz2⟩ := info_parts info8
  have hb0 : Below w.heap.size w (w.alloc (.cells #[] 5)) := (Below.refl _ _).alloc (Nat.le_refl _) _
  cases hs : Oct.size k with
  | false =>
    have HS := Lib.hid hs
    have HP := Lib.hid (show Oct.put bs x k = bs by unfold Oct.put; rw [hs]; rfl)
    clear hs
    go_enter Tryd.func16, Tryd.ntmps16
    go_wp2_with (at_builtin
                 refine wpList_append_any _ rfl _ _ _ rfl w.heap.size 5 i0 _ 1 1 Tryd.underlying22 hi0 hz0 hz1 hz2 rfl (by omega) (.slice (some ⟨w.heap.size, 0, none⟩) 0 0) 0 [] rfl
                   (World.ownsRow_made w #[] 0 (Nat.le_refl _) (by simp [maxLen]) rfl) B A n c (bs.map byteV) rfl (hr.alloc hB _).rd (byteV_one_ bs) (by simp only [maxLen]; omega) (by omega) (by simp) ?_
                 intro v1 w1 hown1 hg1 hat1)
    have hb1 : Below w.heap.size w w1 := hb0.grown hg1 (by simp) (by simp [Value.ownBlock])
    obtain ⟨A1, d1, rfl⟩ := own_slice hown1
    simp only [Nat.zero_add, List.nil_append] at hown1 ⊢
    refine (refSize_any k _).mono ?_
    rintro e w' ⟨rfl, rfl⟩
    rw [HS.out]
    go_wp2_with fail
    go_ret
    refine ⟨_, rfl, ?_⟩
    rw [HP.out]
    subst hlen
    exact ⟨A1, d1, rfl, hown1, hb1⟩
  | true =>
    obtain ⟨K, rfl, hK1, hK8⟩ : ∃ K : Nat, k = (K : Int) ∧ 1 ≤ K ∧ K ≤ 8 := by
      rcases Oct.size_cases hs with rfl | rfl | rfl | rfl
      · exact ⟨1, rfl, by omega, by omega⟩
      · exact ⟨2, rfl, by omega, by omega⟩
      · exact ⟨4, rfl, by omega, by omega⟩
      · exact ⟨8, rfl, by omega, by omega⟩
    have HS := Lib.hid hs
    have HP := Lib.hid (show Oct.put bs x K = bs ++ Oct.be x K by unfold Oct.put; rw [hs]; rfl)
    have Hlen := Lib.hid hlen
    clear hs hlen
    go_enter Tryd.func16, Tryd.ntmps16
    go_wp2_with (at_builtin
                 refine wpList_append_any _ rfl _ _ _ rfl w.heap.size 5 i0 _ 1 1 Tryd.underlying22 hi0 hz0 hz1 hz2 rfl (by omega) (.slice (some ⟨w.heap.size, 0, none⟩) 0 0) 0 [] rfl
                   (World.ownsRow_made w #[] 0 (Nat.le_refl _) (by simp [maxLen]) rfl) B A n c (bs.map byteV) rfl (hr.alloc hB _).rd (byteV_one_ bs) (by simp only [maxLen]; omega) (by omega) (by simp) ?_
                 intro v1 w1 hown1 hg1 hat1)
    have hb1 : Below w.heap.size w w1 := hb0.grown hg1 (by simp) (by simp [Value.ownBlock])
    obtain ⟨A1, d1, rfl⟩ := own_slice hown1
    simp only [Nat.zero_add, List.nil_append] at hown1 ⊢
    clear hg1 hat1
    refine (refSize_any K _).mono ?_
    rintro e w' ⟨rfl, rfl⟩
    rw [HS.out]
    go_wp2_with fail
    go_loopw [7, 8] (fun v i wr => ∃ (j m d : Nat) (A1 : Option Addr), j ≤ K ∧ i = .int .i64 j ∧ m = n + j ∧ v = .slice A1 m d ∧ wr.ownsRow w.heap.size 5 1 (.slice A1 m d) m ((bs ++ (Oct.be x K).take j).map byteV) ∧ Below w.heap.size w wr) (fun _ i _ => K - (intOf i).toNat)
    case atStart => exact ⟨0, n, d1, A1, Nat.zero_le _, rfl, rfl, rfl, by simpa using hown1, hb1⟩
    case round =>
      clear hown1 hb1
      obtain ⟨j, m, d, A2, hj, rfl, hm, rfl, hown, hbel⟩ := hrel
      have HM := Lib.hid hm
      have hm1 : m ≤ n + 8 := by omega
      clear hm
      by_cases hlt : j < K
      · obtain ⟨b, hb, hbv⟩ : ∃ b : UInt8, (Oct.be x K)[j]? = some b ∧ (x : Int) / 2 ^ (8 * (K - 1 - j)) % 256 = (b.toNat : Int) := be_at x K j hlt
        have Hb := Lib.hid hb
        clear hb
        go_wp2_with (at_builtin
                     refine wpList_append_any _ rfl _ _ _ rfl w.heap.size 5 i0 _ 1 1 Tryd.underlying22 hi0 hz0 hz1 hz2 rfl (by omega) _ _ _ rfl (hown.alloc _) (wr.heap.size + 1) (some ⟨wr.heap.size, 0, none⟩) 1 1 ([b].map byteV) rfl (by exact (Sl.lit (k := 1) (cap := 1) _ _ _ _ _ _ rfl rfl rfl (by omega) (by omega)).rd) (byteV_one_ _) (by simp only [maxLen]; omega) (by omega) (by have := hbel.size; simp; omega) ?_
                     intro v2 w2 hown2 hg2 hat2)
        have hb2 : Below w.heap.size w w2 := (hbel.alloc hbel.size _).grown hg2 (by have := hbel.size; simp; omega) (fun q hq => (hown.lt q hq).1)
        obtain ⟨A3, c3, rfl⟩ := own_slice hown2
        clear hown hbel hg2 hat2
        rw [← List.map_append, List.append_assoc, ← take_succ_of Hb.out] at hown2
        go_wp2_with fail
        go_roundw
        case rel => exact ⟨j + 1, m + 1, c3, A3, by omega, by go_num, by have := HM.out; omega, rfl, hown2, hb2⟩
        case measure => simp [intOf]; omega
      · obtain rfl : j = K := by omega
        have hfin : bs ++ (Oct.be x j).take j = Oct.put bs x j := by rw [HP.out, List.take_of_length_le (by rw [Oct.be_length]; omega)]
        have hl2 : (Oct.put bs x j).length = m := by rw [HP.out, List.length_append, Oct.be_length, HM.out, Hlen.out]
        rw [hfin] at hown
        clear hfin
        have HL := Lib.hid hl2
        clear hl2
        go_wp2_with fail
        go_ret
        refine ⟨_, rfl, A2, d, by simp [HL.out], ?_, hbel⟩
        rw [HL.out]
        exact hown

end Go.Proofs.YtbfcfhfnkpklkaaDoor

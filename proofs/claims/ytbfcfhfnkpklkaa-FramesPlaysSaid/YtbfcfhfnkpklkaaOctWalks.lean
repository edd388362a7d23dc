/-
  The functions of layer 1 (octet), and what they call of the library, walked: each returns what the plain functions say, in memory of its own, and writes nothing that was there.
-/
import Derived.Test.YtbfcfhfnkpklkaaOctMap
import Derived.Test.YtbfcfhfnkpklkaaOctPlain
import Derived.Lib.AppendZeros
namespace Go.Proofs.Ytbfcfhfnkpklkaa
open Go.RowKit Go.Gab
set_option linter.unusedVariables false

theorem isSize_eq (k : Int) : isSize k = Oct.size k := rfl

/-- What is owned stays owned where nothing below a later block turns. -/
theorem ownsRow_below {w1 w' : World} {base : Nat} {e : TypeId} {size : Nat} {v : Value} {n : Nat} {xs : List Value} (h : w1.ownsRow base e size v n xs) (hb : Below w1.heap.size w1 w') : w'.ownsRow base e size v n xs := by
  refine ⟨h.1, ?_⟩
  rcases h.2 with h1 | ⟨g, cap, cur, h1, h2, h3, h4⟩
  · exact .inl h1
  · exact .inr ⟨g, cap, cur, h1, h2, (hb.block g (Array.getElem?_eq_some_iff.1 h3).1).trans h3, h4⟩

theorem be_at (x K j : Nat) (hj : j < K) : ∃ b : UInt8, (Oct.be x K)[j]? = some b ∧ (x : Int) / 2 ^ (8 * (K - 1 - j)) % 256 = (b.toNat : Int) := by
  refine ⟨_, Oct.be_get x K j hj, ?_⟩
  have e : (UInt8.ofNat (x / 256 ^ (K - 1 - j) % 256)).toNat = x / 256 ^ (K - 1 - j) % 256 := by simp
  rw [e, Int.natCast_emod, Int.natCast_ediv, Int.natCast_pow, Int.pow_mul]
  rfl

theorem info8 : (Try.prog.info? 5).map (fun i => (i.zero, i.size, i.bytes)) = some (some (.int .u8 0), 1, 1) := by kernel_rfl

set_option maxHeartbeats 400000 in
theorem clone_any (B : Nat) (A : Option Addr) (n c : Nat) (bs : List UInt8) (w : World) (hr : Sl w B 1 A n c (bs.map byteV)) (hB : B ≤ w.heap.size) (hn : n ≤ 140737488355328) :
    Calls Try.prog 67 #[.slice A n c] w fun e w' => ∃ v, e = .returned v ∧ Fresh 5 w bs v w' := by
  have hnc := hr.nc
  have hcm := hr.cm
  have hlen := hr.lenB
  obtain ⟨i0, hi0, hz0, hz1, hz2⟩ := info_parts info8
  cases A with
  | none =>
    have h0 := hr.rd.none_of
    subst h0
    have hbs : bs = [] := List.eq_nil_of_length_eq_zero hlen
    subst hbs
    have hq := Lib.run_eql_slice_nil (P := Try.prog) w 22 5 none 0 c 0 0 Try.underlying22
    simp only [Option.isNone_none] at hq
    clear hlen hnc
    go_enter Try.func67, Try.ntmps67
    go_wp2_with fail
    go_ret
    exact ⟨_, rfl, Fresh.nil_ _ _⟩
  | some a =>
    have hq := Lib.run_eql_slice_nil (P := Try.prog) w 22 5 (some a) n c 0 0 Try.underlying22
    simp only [Option.isNone_some] at hq
    go_enter Try.func67, Try.ntmps67
    go_wp2_with (at_builtin
                 refine wpList_append_any _ rfl _ _ _ rfl w.heap.size 5 i0 _ 1 1 Try.underlying22 hi0 hz0 hz1 hz2 rfl (by omega) (.slice (some ⟨w.heap.size, 0, none⟩) 0 0) 0 [] rfl
                   (World.ownsRow_made w #[] 0 (Nat.le_refl _) (by simp [maxLen]) rfl) B (some a) n c (bs.map byteV) rfl (hr.alloc hB _).rd (byteV_one_ bs) (by simp only [maxLen]; omega) (by omega) (by simp) ?_
                 intro v1 w1 hown1 hg1 hat1)
    go_ret
    obtain ⟨A1, c1, rfl⟩ := own_slice hown1
    simp only [Nat.zero_add, List.nil_append] at hown1
    subst hlen
    exact ⟨_, rfl, A1, c1, by simp, hown1, ((Below.refl _ _).alloc (Nat.le_refl _) _).grown hg1 (by simp) (by simp [Value.ownBlock])⟩

/-- Nothing of a fresh value turns where only what is new is written. -/
theorem Fresh_base {t8 : TypeId} {w w' : World} {bs : List UInt8} {v : Value} (h : Fresh t8 w bs v w') (w0 : World) (h0 : Below w0.heap.size w0 w) : Fresh t8 w0 bs v w' := by
  obtain ⟨A, c, rfl, ho, hb⟩ := h
  refine ⟨A, c, rfl, ⟨ho.1, ?_⟩, h0.trans (hb.mono h0.size)⟩
  rcases ho.2 with h1 | ⟨g, cap, cur, h1, h2, h3⟩
  · exact .inl h1
  · exact .inr ⟨g, cap, cur, h1, Nat.le_trans h0.size h2, h3⟩

set_option maxHeartbeats 1000000 in
theorem put_any (B : Nat) (A : Option Addr) (n c : Nat) (bs : List UInt8) (x : Nat) (z k : Int) (hz : z = (x : Int)) (hx : x < 18446744073709551616) (w : World) (hr : Sl w B 1 A n c (bs.map byteV)) (hB : B ≤ w.heap.size) (hn : n ≤ 1099511627776) :
    Calls Try.prog 30 #[.slice A n c, .int .u64 z, .int .i64 k] w fun e w' => ∃ v, e = .returned v ∧ Fresh 5 w (Oct.put bs x k) v w' := by
  subst hz
  have hlen := hr.lenB
  obtain ⟨i0, hi0, hz0, hz1, hz2⟩ := info_parts info8
  cases hs : isSize k with
  | false =>
    have HS := Lib.hid hs
    have HP := Lib.hid (show Oct.put bs x k = bs by unfold Oct.put; rw [← isSize_eq, hs]; rfl)
    clear hs
    go_enter Try.func30, Try.ntmps30
    go_wp2_with fail
    refine (clone_any B A n c bs _ hr hB (by omega)).mono ?_
    rintro e w1 ⟨v1, rfl, hf⟩
    obtain ⟨A1, d1, rfl, hown1, hb1⟩ := hf
    go_wp2_with fail
    refine (right_any k _).mono ?_
    rintro e w2 ⟨rfl, hb2⟩
    rw [HS.out]
    go_wp2_with fail
    go_ret
    refine ⟨_, rfl, ?_⟩
    rw [HP.out]
    exact ⟨A1, d1, by simp [hlen], ownsRow_below hown1 hb2, hb1.trans (hb2.mono hb1.size)⟩
  | true =>
    obtain ⟨K, rfl, hK1, hK8⟩ : ∃ K : Nat, k = (K : Int) ∧ 1 ≤ K ∧ K ≤ 8 := by
      rcases Oct.size_cases hs with rfl | rfl | rfl | rfl
      · exact ⟨1, rfl, by omega, by omega⟩
      · exact ⟨2, rfl, by omega, by omega⟩
      · exact ⟨4, rfl, by omega, by omega⟩
      · exact ⟨8, rfl, by omega, by omega⟩
    have HS := Lib.hid hs
    have HP := Lib.hid (show Oct.put bs x K = bs ++ Oct.be x K by unfold Oct.put; rw [← isSize_eq, hs]; rfl)
    have Hlen := Lib.hid hlen
    clear hs hlen
    go_enter Try.func30, Try.ntmps30
    go_wp2_with fail
    refine (clone_any B A n c bs _ hr hB (by omega)).mono ?_
    rintro e w1 ⟨v1, rfl, hf⟩
    obtain ⟨A1, d1, rfl, hown1, hb1⟩ := hf
    rw [Hlen.out] at hown1 ⊢
    go_wp2_with fail
    refine (right_any K _).mono ?_
    rintro e w2 ⟨rfl, hb2⟩
    rw [HS.out]
    have hown2 := ownsRow_below hown1 hb2
    have hb := hb1.trans (hb2.mono hb1.size)
    clear hown1 hb1 hb2
    go_wp2_with fail
    go_loopw [7, 16] (fun v i wr => ∃ (j m d : Nat) (A1 : Option Addr), j ≤ K ∧ i = .int .i64 j ∧ m = n + j ∧ v = .slice A1 m d ∧ wr.ownsRow w.heap.size 5 1 (.slice A1 m d) m ((bs ++ (Oct.be x K).take j).map byteV) ∧ Below w.heap.size w wr) (fun _ i _ => K - (intOf i).toNat)
    case atStart => exact ⟨0, n, d1, A1, Nat.zero_le _, rfl, rfl, rfl, by simpa using hown2, hb⟩
    case round =>
      clear hown2 hb
      obtain ⟨j, m, d, A2, hj, rfl, hm, rfl, hown, hbel⟩ := hrel
      have HM := Lib.hid hm
      have hm1 : m ≤ n + 8 := by omega
      clear hm
      by_cases hlt : j < K
      · obtain ⟨b, hb, hbv⟩ : ∃ b : UInt8, (Oct.be x K)[j]? = some b ∧ (x : Int) / 2 ^ (8 * (K - 1 - j)) % 256 = (b.toNat : Int) := be_at x K j hlt
        have Hb := Lib.hid hb
        clear hb
        go_wp2_with (at_builtin
                     refine wpList_append_any _ rfl _ _ _ rfl w.heap.size 5 i0 _ 1 1 Try.underlying22 hi0 hz0 hz1 hz2 rfl (by omega) _ _ _ rfl (hown.alloc _) (wr.heap.size + 1) (some ⟨wr.heap.size, 0, none⟩) 1 1 ([b].map byteV) rfl (by exact (Sl.lit (k := 1) (cap := 1) _ _ _ _ _ _ rfl rfl rfl (by omega) (by omega)).rd) (byteV_one_ _) (by simp only [maxLen]; omega) (by omega) (by have := hbel.size; simp; omega) ?_
                     intro v2 w2 hown2 hg2 hat2)
        have hb2 : Below w.heap.size w w2 := (hbel.alloc hbel.size _).grown hg2 (by have := hbel.size; simp; omega) (fun q hq => (hown.lt q hq).1)
        obtain ⟨A3, c3, rfl⟩ := own_slice hown2
        clear hown hbel hg2 hat2
        rw [← List.map_append, List.append_assoc, ← take_succ_of Hb.out] at hown2
        go_wp2_with fail
        go_roundw
        case rel => exact ⟨j + 1, m + 1, c3, A3, by omega, by go_num, by have := HM.out; omega, rfl, hown2, hb2⟩
        case measure => simp [intOf]; omega
      · obtain rfl : j = K := by omega
        have hfin : bs ++ (Oct.be x j).take j = Oct.put bs x j := by rw [HP.out, List.take_of_length_le (by rw [Oct.be_length]; omega)]
        have hl2 : (Oct.put bs x j).length = m := by rw [HP.out, List.length_append, Oct.be_length, HM.out, Hlen.out]
        rw [hfin] at hown
        clear hfin
        have HL := Lib.hid hl2
        clear hl2
        go_wp2_with fail
        go_ret
        refine ⟨_, rfl, A2, d, by simp [HL.out], ?_, hbel⟩
        rw [HL.out]
        exact hown

/-- What octet.Take answers, as a value. -/
def takeV (r : Nat × Int × Int) : Value := .tuple #[.int .u64 (r.1 : Int), .int .i64 r.2.1, .int .i64 r.2.2]

theorem or_byte (v : Nat) (c : UInt8) (hv : v < 72057594037927936) : bits .or .u64 ((v : Int) * 256) (c.toNat : Int) = ((v * 256 + c.toNat : Nat) : Int) := by
  have hc := c.toNat_lt
  have h := u64_or_nat (v * 256) c.toNat (by omega) (by omega)
  have e := Nat.two_pow_add_eq_or_of_lt (i := 8) (b := c.toNat) (by omega) v
  rw [show ((v : Int) * 256) = ((v * 256 : Nat) : Int) by omega, h]
  congr 1
  rw [Nat.mul_comm v 256]
  exact e.symm

set_option maxHeartbeats 1000000 in
theorem take_any (B : Nat) (A : Option Addr) (n c : Nat) (bs : List UInt8) (p k : Int) (w : World) (hr : Sl w B 1 A n c (bs.map byteV)) (hB : B ≤ w.heap.size) (hn : n ≤ 1099511627776) :
    Calls Try.prog 31 #[.slice A n c, .int .i64 p, .int .i64 k] w fun e w' => e = .returned (takeV (Oct.take bs p k)) ∧ Below w.heap.size w w' := by
  have hlen := hr.lenB
  have hnc := hr.nc
  have hcm := hr.cm
  cases hs : isSize k with
  | false =>
    have HP := Lib.hid (show Oct.take bs p k = (0, 0, 1) by unfold Oct.take; rw [← isSize_eq, hs]; simp)
    have HS := Lib.hid hs
    clear hs hlen
    go_enter Try.func31, Try.ntmps31
    go_wp2_with fail
    refine (right_any k _).mono ?_
    rintro e w2 ⟨rfl, hb2⟩
    rw [HS.out]
    go_wp2_with fail
    go_ret3
    exact ⟨by rw [HP.out]; rfl, hb2⟩
  | true =>
    obtain ⟨K, rfl, hK1, hK8⟩ : ∃ K : Nat, k = (K : Int) ∧ 1 ≤ K ∧ K ≤ 8 := by
      rcases Oct.size_cases hs with rfl | rfl | rfl | rfl
      · exact ⟨1, rfl, by omega, by omega⟩
      · exact ⟨2, rfl, by omega, by omega⟩
      · exact ⟨4, rfl, by omega, by omega⟩
      · exact ⟨8, rfl, by omega, by omega⟩
    have HS := Lib.hid hs
    by_cases h0 : p < 0
    · have HP := Lib.hid (show Oct.take bs p K = (0, 0, 1) by unfold Oct.take; simp [h0])
      clear hs hlen
      go_enter Try.func31, Try.ntmps31
      go_wp2_with fail
      refine (right_any K _).mono ?_
      rintro e w2 ⟨rfl, hb2⟩
      rw [HS.out]
      go_wp2_with fail
      go_ret3
      exact ⟨by rw [HP.out]; rfl, hb2⟩
    · obtain ⟨q, rfl⟩ := Int.eq_ofNat_of_zero_le (show 0 ≤ p by omega)
      by_cases h1 : n < q
      · have HP := Lib.hid (show Oct.take bs q K = (0, 0, 1) by unfold Oct.take; rw [if_pos (by right; right; omega)])
        clear hs hlen
        go_enter Try.func31, Try.ntmps31
        go_wp2_with fail
        refine (right_any K _).mono ?_
        rintro e w2 ⟨rfl, hb2⟩
        rw [HS.out]
        go_wp2_with fail
        go_ret3
        exact ⟨by rw [HP.out]; rfl, hb2⟩
      · by_cases h2 : n < q + K
        · have HP := Lib.hid (show Oct.take bs q K = (0, 0, 5) by unfold Oct.take; rw [if_neg (by rw [← isSize_eq, hs]; simp; omega), if_pos (by omega)])
          clear hs hlen
          go_enter Try.func31, Try.ntmps31
          go_wp2_with fail
          refine (right_any K _).mono ?_
          rintro e w2 ⟨rfl, hb2⟩
          rw [HS.out]
          go_wp2_with fail
          go_ret3
          exact ⟨by rw [HP.out]; rfl, hb2⟩
        · have HP := Lib.hid (show Oct.take bs q K = (Oct.val ((bs.drop q).take K), (q : Int) + (K : Int), 0) by unfold Oct.take; rw [if_neg (by rw [← isSize_eq, hs]; simp; omega), if_neg (by omega)]; simp)
          have Hlen := Lib.hid hlen
          clear hs hlen
          obtain ⟨b, off, _, rfl, _⟩ := hr.byte (k := q) (by omega)
          go_enter Try.func31, Try.ntmps31
          go_wp2_with fail
          refine (right_any K _).mono ?_
          rintro e w2 ⟨rfl, hb2⟩
          rw [HS.out]
          have hr2 := hr.below' hb2 hB
          go_wp2_with fail
          go_loop [6, 36] (fun v i => ∃ j : Nat, j ≤ K ∧ i = .int .i64 j ∧ v = .int .u64 ((Oct.val ((bs.drop q).take j) : Nat) : Int)) (fun _ i => K - (intOf i).toNat)
          case atStart => exact ⟨0, Nat.zero_le _, rfl, rfl⟩
          case round =>
            obtain ⟨j, hj, rfl, rfl⟩ := hrel
            by_cases hlt : j < K
            · obtain ⟨_, _, v, hA, _, hv, hcell, hvl⟩ := hr2.byte (k := q + j) (by omega)
              cases hA
              have hvb : Oct.val ((bs.drop q).take j) < 72057594037927936 := by
                have h1 := Oct.val_lt ((bs.drop q).take j)
                have h2 : ((bs.drop q).take j).length ≤ 7 := by simp; omega
                exact Nat.lt_of_lt_of_le h1 (Nat.le_trans (Nat.pow_le_pow_right (by omega) h2) (by decide))
              have hstep : Oct.val ((bs.drop q).take (j + 1)) = Oct.val ((bs.drop q).take j) * 256 + v.toNat := by
                rw [take_succ_of (show (bs.drop q)[j]? = some v by rw [List.getElem?_drop]; exact hv), Oct.val_snoc]
              have HT := Lib.hid hstep
              clear hstep hv
              generalize Oct.val ((bs.drop q).take j) = y at hvb HT
              have HO := Lib.hid (or_byte y v hvb)
              rw [← Nat.add_assoc] at hcell
              go_wp2_with fail
              go_round
              case rel => exact ⟨j + 1, by omega, by go_num, int_eq (by rw [HO.out, HT.out])⟩
              case measure => simp [intOf]; omega
            · obtain rfl : j = K := by omega
              go_wp2_with fail
              go_ret3
              exact ⟨by rw [HP.out]; rfl, hb2⟩

/-! ### slices.Concat of two byte strings -/

set_option maxRecDepth 10000 in
theorem grow_any (n : Nat) (hn : n ≤ 140737488355328) (w : World) :
    Calls Try.prog 94 #[.slice none 0 0, .int .i64 (n : Int)] w fun e w' => ∃ A c, e = .returned (.slice A 0 c) ∧ w'.ownsRow w.heap.size 5 1 (.slice A 0 c) 0 [] ∧ Below w.heap.size w w' := by
  obtain ⟨i0, hi0, hz0, hz1, hz2⟩ := info_parts info8
  by_cases h0 : n = 0
  · subst h0
    go_enter Try.func94, Try.ntmps94
    go_wp2_with fail
    go_ret
    exact ⟨none, 0, rfl, World.ownsRow_nil _ _ _ _, Below.refl _ _⟩
  · have hp : 0 < n := by omega
    have hr := fun ty => Lib.run_append_nil_zeros (P := Try.prog) w 22 3 ty 5 i0 (.int .u8 0) .i64 .i64 Try.underlying22 Try.underlying3 hi0 hz0 n hp (by omega) (by omega) (by rw [hz2]; omega)
    have hcap := grownCap_ge w n 0 5
    have hcm := grownCap_le_maxLen w n 0 5 (by simp only [maxLen]; omega)
    unfold maxLen at hcm
    generalize hg : grownCap w n 0 5 = cap at hr hcap hcm
    have HG := Lib.hid hg
    clear hg
    go_enter Try.func94, Try.ntmps94
    go_wp2_with (at_builtin
                 refine Lib.wpList_append_run _ rfl _ _ _ _ rfl _ _ rfl rfl _ _ (hr _) ?_)
    go_ret
    refine ⟨_, cap, rfl, ?_, ((Below.refl _ _).alloc (Nat.le_refl _) _).drew⟩
    exact (World.ownsRow_made (e := 5) (size := 1) w _ cap (Nat.le_refl _) (by simp only [maxLen]; omega) (by rw [Array.size_append, size_zeroCells, size_zeroCells]; simp; omega)).drew

set_option maxHeartbeats 1000000 in
set_option maxRecDepth 10000 in
theorem concat_any (b off c0 : Nat) (A1 A2 : Option Addr) (n1 c1 n2 c2 B : Nat) (x y : List UInt8) (w : World) (hc1 : w.cell? ⟨b, off, none⟩ = some (.slice A1 n1 c1)) (hc2 : w.cell? ⟨b, off + 1, none⟩ = some (.slice A2 n2 c2)) (hb : b < w.heap.size)
    (h1 : Sl w B 1 A1 n1 c1 (x.map byteV)) (h2 : Sl w B 1 A2 n2 c2 (y.map byteV)) (hB : B ≤ w.heap.size) (hn1 : n1 ≤ 1099511627776) (hn2 : n2 ≤ 1099511627776) :
    Calls Try.prog 70 #[.slice (some ⟨b, off, none⟩) 2 c0] w fun e w' => ∃ v, e = .returned v ∧ Fresh 5 w (x ++ y) v w' := by
  obtain ⟨i0, hi0, hz0, hz1, hz2⟩ := info_parts info8
  have hl : (x ++ y).length = n1 + n2 := by rw [List.length_append, h1.lenB, h2.lenB]
  have HL := Lib.hid hl
  clear hl
  go_enter Try.func70, Try.ntmps70
  go_wp2_with fail
  refine wp_loop_rounds 3 ?_
  iterate 3 (rw [rounds_succ]; go_wp2_with fail)
  rw [show ((n1 : Int) + (n2 : Int)) = ((n1 + n2 : Nat) : Int) by omega]
  refine (grow_any (n1 + n2) (by omega) _).mono ?_
  rintro e w1 ⟨A3, d3, rfl, hown1, hb1⟩
  have hk1 := (hb1.cell (p := ⟨b, off, none⟩) hb).trans hc1
  have hk2 := (hb1.cell (p := ⟨b, off + 1, none⟩) hb).trans hc2
  have hs1 := h1.below' hb1 hB
  have hs2 := h2.below' hb1 hB
  clear hc1 hc2
  go_wp2_with fail
  refine wp_loop_rounds 3 ?_
  rw [rounds_succ]
  go_wp2_with (at_builtin
               refine wpList_append_any _ rfl _ _ _ rfl w.heap.size 5 i0 _ 1 1 Try.underlying22 hi0 hz0 hz1 hz2 rfl (by omega) _ _ _ rfl hown1 B A1 n1 c1 (x.map byteV) rfl hs1.rd (byteV_one_ _) (by simp only [maxLen]; omega) (by omega) hb1.size ?_
               intro v2 w2 hown2 hg2 hat2)
  have hb2 : Below w.heap.size w w2 := hb1.grown hg2 hb1.size (fun q hq => (hown1.lt q hq).1)
  simp only [Nat.zero_add, List.nil_append] at hown2
  obtain ⟨A4, d4, rfl⟩ := own_slice hown2
  have hk3 := (hb2.cell (p := ⟨b, off + 1, none⟩) hb)
  have hk4 : w2.cell? ⟨b, off + 1, none⟩ = some (.slice A2 n2 c2) := by rw [hk3, ← hb1.cell (p := ⟨b, off + 1, none⟩) hb]; exact hk2
  have hs3 := h2.below' hb2 hB
  clear hk1 hk2 hk3 hown1 hb1 hg2 hat2 hs1 hs2
  go_wp2_with fail
  rw [rounds_succ]
  go_wp2_with (at_builtin
               refine wpList_append_any _ rfl _ _ _ rfl w.heap.size 5 i0 _ 1 1 Try.underlying22 hi0 hz0 hz1 hz2 rfl (by omega) _ _ _ rfl hown2 B A2 n2 c2 (y.map byteV) rfl hs3.rd (byteV_one_ _) (by simp only [maxLen]; omega) (by omega) hb2.size ?_
               intro v5 w5 hown5 hg5 hat5)
  have hb5 : Below w.heap.size w w5 := hb2.grown hg5 hb2.size (fun q hq => (hown2.lt q hq).1)
  obtain ⟨A5, d5, rfl⟩ := own_slice hown5
  clear hown2 hb2 hg5 hat5 hs3 hk4
  rw [← List.map_append] at hown5
  go_wp2_with fail
  rw [rounds_succ]
  go_wp2_with fail
  go_ret
  exact ⟨_, rfl, A5, d5, by simp [HL.out], by rw [HL.out]; exact hown5, hb5⟩

set_option maxHeartbeats 400000 in
theorem after_any (B : Nat) (A : Option Addr) (n c : Nat) (bs : List UInt8) (w : World) (hr : Sl w B 1 A n c (bs.map byteV)) (hB : B ≤ w.heap.size) (hn : n ≤ 1099511627776) :
    Calls Try.prog 41 #[.slice A n c] w fun e w' => ∃ v, e = .returned v ∧ Fresh 5 w (Oct.after bs) v w' := by
  go_enter Try.func41, Try.ntmps41
  go_wp2_with fail
  refine (concat_any (w.heap.size + 1) 0 2 A (some ⟨w.heap.size, 0, none⟩) n c 1 1 (w.heap.size + 1) bs [0] _ (cell_lit _ _ _ _ _ _ (by simp)) (cell_lit _ _ _ _ _ _ (by simp)) (by simp)
    (((hr.alloc hB _).alloc (by simp; omega) _).more (by omega)) (by exact (Sl.lit (k := 1) (cap := 1) w _ _ _ _ _ rfl rfl rfl (by omega) (by omega)).alloc (by simp) _) (by simp) (by omega) (by omega)).mono ?_
  rintro e w1 ⟨v, rfl, hf⟩
  have hf' := Fresh_base hf w (((Below.refl _ _).alloc (Nat.le_refl _) _).alloc (by simp) _)
  go_wp2_with fail
  go_ret
  exact ⟨_, rfl, hf'⟩

/-- A slice and an error, as a value. -/
def pairV (v : Value) (e : Int) : Value := .tuple #[v, .int .i64 e]

set_option maxHeartbeats 1000000 in
theorem putBytes_any (B : Nat) (A A2 : Option Addr) (n c n2 c2 : Nat) (bs s : List UInt8) (w : World) (hr : Sl w B 1 A n c (bs.map byteV)) (hr2 : Sl w B 1 A2 n2 c2 (s.map byteV)) (hB : B ≤ w.heap.size) (hn : n ≤ 549755813888) :
    Calls Try.prog 36 #[.slice A n c, .slice A2 n2 c2] w fun e w' => ∃ v, e = .returned (pairV v (Oct.putBytes bs s).2) ∧ Fresh 5 w (Oct.putBytes bs s).1 v w' := by
  have hlen := hr.lenB
  have hlen2 := hr2.lenB
  have hcm2 := hr2.cm
  have hnc2 := hr2.nc
  by_cases hbig : 65535 < n2
  · have HP := Lib.hid (show Oct.putBytes bs s = ([], 6) by unfold Oct.putBytes; rw [if_pos (by omega)])
    clear hlen hlen2
    go_enter Try.func36, Try.ntmps36
    go_wp2_with fail
    go_ret2
    rw [HP.out]
    exact ⟨_, rfl, Fresh.nil_ _ _⟩
  · have HP := Lib.hid (show Oct.putBytes bs s = (Oct.put bs n2 2 ++ s, 0) by unfold Oct.putBytes; rw [if_neg (by omega), hlen2]; rfl)
    have HL := Lib.hid (show (Oct.put bs n2 2).length = n + 2 by rw [show Oct.put bs n2 2 = bs ++ Oct.be n2 2 from rfl, List.length_append, Oct.be_length, hlen])
    clear hlen hlen2
    go_enter Try.func36, Try.ntmps36
    go_wp2_with fail
    refine (put_any B A n c bs n2 _ _ rfl (by omega) _ hr hB (by omega)).mono ?_
    rintro e w1 ⟨v1, rfl, hf⟩
    obtain ⟨A1, d1, rfl, hown1, hb1⟩ := hf
    rw [HL.out] at hown1 ⊢
    have hs1 := Sl.of_own hown1
    have hr3 := (hr2.below' hb1 hB).more (B' := w1.heap.size) (Nat.le_trans hB hb1.size)
    clear hown1
    go_wp2_with fail
    refine (concat_any w1.heap.size 0 2 A1 A2 (n + 2) d1 n2 c2 w1.heap.size _ s _ (cell_lit _ _ _ _ _ _ rfl) (cell_lit _ _ _ _ _ _ rfl) (by simp)
      (hs1.alloc (Nat.le_refl _) _) (hr3.alloc (Nat.le_refl _) _) (by simp) (by omega) (by omega)).mono ?_
    rintro e w2 ⟨v, rfl, hf⟩
    have hf' := Fresh_base hf w (hb1.alloc hb1.size _)
    go_wp2_with fail
    go_ret2
    rw [HP.out]
    exact ⟨_, rfl, hf'⟩

/-- What octet.TakeBytes answers. -/
def tripleV (v : Value) (next e : Int) : Value := .tuple #[v, .int .i64 next, .int .i64 e]

set_option maxHeartbeats 1000000 in
theorem takeBytes_any (B : Nat) (A : Option Addr) (n c : Nat) (bs : List UInt8) (p : Int) (w : World) (hr : Sl w B 1 A n c (bs.map byteV)) (hB : B ≤ w.heap.size) (hn : n ≤ 1099511627776) :
    Calls Try.prog 38 #[.slice A n c, .int .i64 p] w fun e w' => ∃ v, e = .returned (tripleV v (Oct.takeBytes bs p).2.1 (Oct.takeBytes bs p).2.2) ∧ Fresh 5 w (Oct.takeBytes bs p).1 v w' := by
  have hlen := hr.lenB
  have hcm := hr.cm
  have hnc := hr.nc
  obtain ⟨⟨x, next, er⟩, ht⟩ : ∃ r, Oct.take bs p 2 = r := ⟨_, rfl⟩
  have HT := Lib.hid ht
  have hcases : (x = 0 ∧ next = 0 ∧ (er = 1 ∨ er = 5)) ∨ (er = 0 ∧ 0 ≤ p ∧ next = p + 2 ∧ p + 2 ≤ n ∧ x < 65536) := by
    unfold Oct.take at ht
    rw [hlen] at ht
    split at ht
    · cases ht; simp
    · split at ht
      · cases ht; simp
      · rename_i h1 h2
        cases ht
        refine .inr ⟨rfl, by simp at h1; omega, rfl, by omega, ?_⟩
        have h3 := Oct.val_lt ((bs.drop p.toNat).take 2)
        have h4 : ((bs.drop p.toNat).take 2).length ≤ 2 := by simp; omega
        exact Nat.lt_of_lt_of_le h3 (Nat.le_trans (Nat.pow_le_pow_right (by omega) h4) (by decide))
  clear ht
  rcases hcases with ⟨rfl, rfl, her⟩ | ⟨rfl, hp0, rfl, hp2, hx⟩
  · have HP := Lib.hid (show Oct.takeBytes bs p = ([], 0, er) by unfold Oct.takeBytes; rw [HT.out]; rcases her with rfl | rfl <;> rfl)
    have hne : (er != 0) = true := by rcases her with rfl | rfl <;> rfl
    clear hlen her
    go_enter Try.func38, Try.ntmps38
    go_wp2_with fail
    refine (take_any B A n c bs p 2 _ hr hB hn).mono ?_
    rintro e w1 ⟨rfl, hb1⟩
    rw [HT.out]
    unfold takeV
    go_wp2_with fail
    go_ret3
    rw [HP.out]
    exact ⟨_, rfl, none, 0, rfl, World.ownsRow_nil _ _ _ _, hb1⟩
  · obtain ⟨q, rfl⟩ := Int.eq_ofNat_of_zero_le hp0
    by_cases hbig : n < q + 2 + x
    · have HP := Lib.hid (show Oct.takeBytes bs q = ([], 0, 5) by unfold Oct.takeBytes; rw [HT.out]; simp; omega)
      clear hlen
      go_enter Try.func38, Try.ntmps38
      go_wp2_with fail
      refine (take_any B A n c bs q 2 _ hr hB hn).mono ?_
      rintro e w1 ⟨rfl, hb1⟩
      rw [HT.out]
      unfold takeV
      go_wp2_with fail
      go_ret3
      rw [HP.out]
      exact ⟨_, rfl, none, 0, rfl, World.ownsRow_nil _ _ _ _, hb1⟩
    · have HP := Lib.hid (show Oct.takeBytes bs q = ((bs.drop (q + 2)).take x, (q : Int) + 2 + x, 0) by unfold Oct.takeBytes; rw [HT.out]; simp; rw [if_neg (by omega)]; rfl)
      obtain ⟨b, off, _, rfl, _⟩ := hr.byte (k := q) (by omega)
      have hxl : ((bs.drop (q + 2)).take x).length = x := by simp [hlen]; omega
      have HX := Lib.hid hxl
      clear hlen hxl
      have hcut := (hr.cut (k := q + 2) (by omega)).take_ (k := x) (by omega)
      rw [Nat.mul_one, Nat.mul_one, ← List.map_drop, ← List.map_take] at hcut
      by_cases hc0 : c = q + 2
      · rw [if_pos hc0] at hcut
        obtain rfl : x = 0 := by omega
        obtain rfl : n = q + 2 := by omega
        subst hc0
        go_enter Try.func38, Try.ntmps38
        go_wp2_with fail
        refine (take_any B (some ⟨b, off, none⟩) (q + 2) (q + 2) bs q 2 _ hr hB hn).mono ?_
        rintro e w1 ⟨rfl, hb1⟩
        rw [HT.out]
        unfold takeV
        have hcut1 := hcut.below' hb1 hB
        rw [Nat.sub_self] at hcut1
        go_wp2_with fail
        refine (clone_any B _ 0 _ _ _ hcut1 (Nat.le_trans hB hb1.size) (by omega)).mono ?_
        rintro e w2 ⟨v, rfl, hf⟩
        have hf' := Fresh_base hf _ hb1
        go_wp2_with fail
        go_ret3
        rw [HP.out]
        exact ⟨_, rfl, hf'⟩
      · rw [if_neg hc0] at hcut
        have hcut : Sl w B 1 (some ⟨b, off + (q + 2), none⟩) x (c - (q + 2)) (((bs.drop (q + 2)).take x).map byteV) := hcut
        go_enter Try.func38, Try.ntmps38
        go_wp2_with fail
        refine (take_any B (some ⟨b, off, none⟩) n c bs q 2 _ hr hB hn).mono ?_
        rintro e w1 ⟨rfl, hb1⟩
        rw [HT.out]
        unfold takeV
        have hcut1 := hcut.below' hb1 hB
        go_wp2_with fail
        refine (clone_any B (some ⟨b, off + (q + 2), none⟩) x (c - (q + 2)) _ _ hcut1 (Nat.le_trans hB hb1.size) (by omega)).mono ?_
        rintro e w2 ⟨v, rfl, hf⟩
        have hf' := Fresh_base hf _ hb1
        go_wp2_with fail
        go_ret3
        rw [HP.out]
        exact ⟨_, rfl, hf'⟩

end Go.Proofs.Ytbfcfhfnkpklkaa

/-
  The functions of layer 1 (octet), and what they call of the library, walked: each returns what the plain functions say, in memory of its own, and writes nothing that was there.
-/
import Derived.Test.YtniekddoaokmkaaOctMap
import Derived.Lib.BytesEntry
import Derived.Test.YtniekddoaokmkaaOctPlain
import Derived.Lib.AppendZeros
namespace Go.Proofs.Ytniekddoaokmkaa
open Go.RowKit Go.Gab
set_option linter.unusedVariables false

theorem isSize_eq (k : Int) : isSize k = Oct.size k := rfl

/-- What is owned stays owned where nothing below a later block turns. -/
theorem ownsRow_below {w1 w' : World} {base : Nat} {e : TypeId} {size : Nat} {v : Value} {n : Nat} {xs : List Value} (h : w1.ownsRow base e size v n xs) (hb : Below w1.heap.size w1 w') : w'.ownsRow base e size v n xs := by
  refine ⟨h.1, ?_⟩
  rcases h.2 with h1 | ⟨g, cap, cur, h1, h2, h3, h4⟩
  · exact .inl h1
  · exact .inr ⟨g, cap, cur, h1, h2, (hb.block g (Array.getElem?_eq_some_iff.1 h3).1).trans h3, h4⟩

theorem be_at (x K j : Nat) (hj : j < K) : ∃ b : UInt8, (Oct.be x K)[j]? = some b ∧ (x : Int) / 2 ^ (8 * (K - 1 - j)) % 256 = (b.toNat : Int) := by
  refine ⟨_, Oct.be_get x K j hj, ?_⟩
  have e : (UInt8.ofNat (x / 256 ^ (K - 1 - j) % 256)).toNat = x / 256 ^ (K - 1 - j) % 256 := by simp
  rw [e, Int.natCast_emod, Int.natCast_ediv, Int.natCast_pow, Int.pow_mul]
  rfl

theorem info8 : (Try.prog.info? 5).map (fun i => (i.zero, i.size, i.bytes)) = some (some (.int .u8 0), 1, 1) := by kernel_rfl

set_option maxHeartbeats 400000 in
theorem clone_any (B : Nat) (A : Option Addr) (n c : Nat) (bs : List UInt8) (w : World) (hr : Sl w B 1 A n c (bs.map byteV)) (hB : B ≤ w.heap.size) (hn : n ≤ 140737488355328) :
    Calls Try.prog 30 #[.slice A n c] w fun e w' => ∃ v, e = .returned v ∧ Fresh 5 w bs v w' := by
  have hnc := hr.nc
  have hcm := hr.cm
  have hlen := hr.lenB
  obtain ⟨i0, hi0, hz0, hz1, hz2⟩ := info_parts info8
  cases A with
  | none =>
    have h0 := hr.rd.none_of
    subst h0
    have hbs : bs = [] := List.eq_nil_of_length_eq_zero hlen
    subst hbs
    have hq := Lib.run_eql_slice_nil (P := Try.prog) w 40 5 none 0 c 0 0 Try.underlying40
    simp only [Option.isNone_none] at hq
    clear hlen hnc
    go_enter Try.func30, Try.ntmps30
    go_wp2_with fail
    go_ret
    exact ⟨_, rfl, Fresh.nil_ _ _⟩
  | some a =>
    have hq := Lib.run_eql_slice_nil (P := Try.prog) w 40 5 (some a) n c 0 0 Try.underlying40
    simp only [Option.isNone_some] at hq
    go_enter Try.func30, Try.ntmps30
    go_wp2_with (at_builtin
                 refine wpList_append_any _ rfl _ _ _ rfl w.heap.size 5 i0 _ 1 1 Try.underlying40 hi0 hz0 hz1 hz2 rfl (by omega) (.slice (some ⟨w.heap.size, 0, none⟩) 0 0) 0 [] rfl
                   (World.ownsRow_made w #[] 0 (Nat.le_refl _) (by simp [maxLen]) rfl) B (some a) n c (bs.map byteV) rfl (hr.alloc hB _).rd (byteV_one_ bs) (by simp only [maxLen]; omega) (by omega) (by simp) ?_
                 intro v1 w1 hown1 hg1 hat1)
    go_ret
    obtain ⟨A1, c1, rfl⟩ := own_slice hown1
    simp only [Nat.zero_add, List.nil_append] at hown1
    subst hlen
    exact ⟨_, rfl, A1, c1, by simp, hown1, ((Below.refl _ _).alloc (Nat.le_refl _) _).grown hg1 (by simp) (by simp [Value.ownBlock])⟩

/-- Nothing of a fresh value turns where only what is new is written. -/
theorem Fresh_base {t8 : TypeId} {w w' : World} {bs : List UInt8} {v : Value} (h : Fresh t8 w bs v w') (w0 : World) (h0 : Below w0.heap.size w0 w) : Fresh t8 w0 bs v w' := by
  obtain ⟨A, c, rfl, ho, hb⟩ := h
  refine ⟨A, c, rfl, ⟨ho.1, ?_⟩, h0.trans (hb.mono h0.size)⟩
  rcases ho.2 with h1 | ⟨g, cap, cur, h1, h2, h3⟩
  · exact .inl h1
  · exact .inr ⟨g, cap, cur, h1, Nat.le_trans h0.size h2, h3⟩

set_option maxHeartbeats 1000000 in
theorem put_any (B : Nat) (A : Option Addr) (n c : Nat) (bs : List UInt8) (x : Nat) (z k : Int) (hz : z = (x : Int)) (hx : x < 18446744073709551616) (w : World) (hr : Sl w B 1 A n c (bs.map byteV)) (hB : B ≤ w.heap.size) (hn : n ≤ 1099511627776) :
    Calls Try.prog 57 #[.slice A n c, .int .u64 z, .int .i64 k] w fun e w' => ∃ v, e = .returned v ∧ Fresh 5 w (Oct.put bs x k) v w' := by
  subst hz
  have hlen := hr.lenB
  obtain ⟨i0, hi0, hz0, hz1, hz2⟩ := info_parts info8
  cases hs : isSize k with
  | false =>
    have HS := Lib.hid hs
    have HP := Lib.hid (show Oct.put bs x k = bs by unfold Oct.put; rw [← isSize_eq, hs]; rfl)
    clear hs
    go_enter Try.func57, Try.ntmps57
    go_wp2_with fail
    refine (clone_any B A n c bs _ hr hB (by omega)).mono ?_
    rintro e w1 ⟨v1, rfl, hf⟩
    obtain ⟨A1, d1, rfl, hown1, hb1⟩ := hf
    go_wp2_with fail
    refine (right_any k _).mono ?_
    rintro e w2 ⟨rfl, hb2⟩
    rw [HS.out]
    go_wp2_with fail
    go_ret
    refine ⟨_, rfl, ?_⟩
    rw [HP.out]
    exact ⟨A1, d1, by simp [hlen], ownsRow_below hown1 hb2, hb1.trans (hb2.mono hb1.size)⟩
  | true =>
    obtain ⟨K, rfl, hK1, hK8⟩ : ∃ K : Nat, k = (K : Int) ∧ 1 ≤ K ∧ K ≤ 8 := by
      rcases Oct.size_cases hs with rfl | rfl | rfl | rfl
      · exact ⟨1, rfl, by omega, by omega⟩
      · exact ⟨2, rfl, by omega, by omega⟩
      · exact ⟨4, rfl, by omega, by omega⟩
      · exact ⟨8, rfl, by omega, by omega⟩
    have HS := Lib.hid hs
    have HP := Lib.hid (show Oct.put bs x K = bs ++ Oct.be x K by unfold Oct.put; rw [← isSize_eq, hs]; rfl)
    have Hlen := Lib.hid hlen
    clear hs hlen
    go_enter Try.func57, Try.ntmps57
    go_wp2_with fail
    refine (clone_any B A n c bs _ hr hB (by omega)).mono ?_
    rintro e w1 ⟨v1, rfl, hf⟩
    obtain ⟨A1, d1, rfl, hown1, hb1⟩ := hf
    rw [Hlen.out] at hown1 ⊢
    go_wp2_with fail
    refine (right_any K _).mono ?_
    rintro e w2 ⟨rfl, hb2⟩
    rw [HS.out]
    have hown2 := ownsRow_below hown1 hb2
    have hb := hb1.trans (hb2.mono hb1.size)
    clear hown1 hb1 hb2
    go_wp2_with fail
    go_loopw [7, 16] (fun v i wr => ∃ (j m d : Nat) (A1 : Option Addr), j ≤ K ∧ i = .int .i64 j ∧ m = n + j ∧ v = .slice A1 m d ∧ wr.ownsRow w.heap.size 5 1 (.slice A1 m d) m ((bs ++ (Oct.be x K).take j).map byteV) ∧ Below w.heap.size w wr) (fun _ i _ => K - (intOf i).toNat)
    case atStart => exact ⟨0, n, d1, A1, Nat.zero_le _, rfl, rfl, rfl, by simpa using hown2, hb⟩
    case round =>
      clear hown2 hb
      obtain ⟨j, m, d, A2, hj, rfl, hm, rfl, hown, hbel⟩ := hrel
      have HM := Lib.hid hm
      have hm1 : m ≤ n + 8 := by omega
      clear hm
      by_cases hlt : j < K
      · obtain ⟨b, hb, hbv⟩ : ∃ b : UInt8, (Oct.be x K)[j]? = some b ∧ (x : Int) / 2 ^ (8 * (K - 1 - j)) % 256 = (b.toNat : Int) := be_at x K j hlt
        have Hb := Lib.hid hb
        clear hb
        go_wp2_with (at_builtin
                     refine wpList_append_any _ rfl _ _ _ rfl w.heap.size 5 i0 _ 1 1 Try.underlying40 hi0 hz0 hz1 hz2 rfl (by omega) _ _ _ rfl (hown.alloc _) (wr.heap.size + 1) (some ⟨wr.heap.size, 0, none⟩) 1 1 ([b].map byteV) rfl (by exact (Sl.lit (k := 1) (cap := 1) _ _ _ _ _ _ rfl rfl rfl (by omega) (by omega)).rd) (byteV_one_ _) (by simp only [maxLen]; omega) (by omega) (by have := hbel.size; simp; omega) ?_
                     intro v2 w2 hown2 hg2 hat2)
        have hb2 : Below w.heap.size w w2 := (hbel.alloc hbel.size _).grown hg2 (by have := hbel.size; simp; omega) (fun q hq => (hown.lt q hq).1)
        obtain ⟨A3, c3, rfl⟩ := own_slice hown2
        clear hown hbel hg2 hat2
        rw [← List.map_append, List.append_assoc, ← take_succ_of Hb.out] at hown2
        go_wp2_with fail
        go_roundw
        case rel => exact ⟨j + 1, m + 1, c3, A3, by omega, by go_num, by have := HM.out; omega, rfl, hown2, hb2⟩
        case measure => simp [intOf]; omega
      · obtain rfl : j = K := by omega
        have hfin : bs ++ (Oct.be x j).take j = Oct.put bs x j := by rw [HP.out, List.take_of_length_le (by rw [Oct.be_length]; omega)]
        have hl2 : (Oct.put bs x j).length = m := by rw [HP.out, List.length_append, Oct.be_length, HM.out, Hlen.out]
        rw [hfin] at hown
        clear hfin
        have HL := Lib.hid hl2
        clear hl2
        go_wp2_with fail
        go_ret
        refine ⟨_, rfl, A2, d, by simp [HL.out], ?_, hbel⟩
        rw [HL.out]
        exact hown

/-- What octet.Take answers, as a value. -/
def takeV (r : Nat × Int × Int) : Value := .tuple #[.int .u64 (r.1 : Int), .int .i64 r.2.1, .int .i64 r.2.2]

theorem or_byte (v : Nat) (c : UInt8) (hv : v < 72057594037927936) : bits .or .u64 ((v : Int) * 256) (c.toNat : Int) = ((v * 256 + c.toNat : Nat) : Int) := by
  have hc := c.toNat_lt
  have h := u64_or_nat (v * 256) c.toNat (by omega) (by omega)
  have e := Nat.two_pow_add_eq_or_of_lt (i := 8) (b := c.toNat) (by omega) v
  rw [show ((v : Int) * 256) = ((v * 256 : Nat) : Int) by omega, h]
  congr 1
  rw [Nat.mul_comm v 256]
  exact e.symm

set_option maxHeartbeats 1000000 in
theorem take_any (B : Nat) (A : Option Addr) (n c : Nat) (bs : List UInt8) (p k : Int) (w : World) (hr : Sl w B 1 A n c (bs.map byteV)) (hB : B ≤ w.heap.size) (hn : n ≤ 1099511627776) :
    Calls Try.prog 64 #[.slice A n c, .int .i64 p, .int .i64 k] w fun e w' => e = .returned (takeV (Oct.take bs p k)) ∧ Below w.heap.size w w' := by
  have hlen := hr.lenB
  have hnc := hr.nc
  have hcm := hr.cm
  cases hs : isSize k with
  | false =>
    have HP := Lib.hid (show Oct.take bs p k = (0, 0, 1) by unfold Oct.take; rw [← isSize_eq, hs]; simp)
    have HS := Lib.hid hs
    clear hs hlen
    go_enter Try.func64, Try.ntmps64
    go_wp2_with fail
    refine (right_any k _).mono ?_
    rintro e w2 ⟨rfl, hb2⟩
    rw [HS.out]
    go_wp2_with fail
    go_ret3
    exact ⟨by rw [HP.out]; rfl, hb2⟩
  | true =>
    obtain ⟨K, rfl, hK1, hK8⟩ : ∃ K : Nat, k = (K : Int) ∧ 1 ≤ K ∧ K ≤ 8 := by
      rcases Oct.size_cases hs with rfl | rfl | rfl | rfl
      · exact ⟨1, rfl, by omega, by omega⟩
      · exact ⟨2, rfl, by omega, by omega⟩
      · exact ⟨4, rfl, by omega, by omega⟩
      · exact ⟨8, rfl, by omega, by omega⟩
    have HS := Lib.hid hs
    by_cases h0 : p < 0
    · have HP := Lib.hid (show Oct.take bs p K = (0, 0, 1) by unfold Oct.take; simp [h0])
      clear hs hlen
      go_enter Try.func64, Try.ntmps64
      go_wp2_with fail
      refine (right_any K _).mono ?_
      rintro e w2 ⟨rfl, hb2⟩
      rw [HS.out]
      go_wp2_with fail
      go_ret3
      exact ⟨by rw [HP.out]; rfl, hb2⟩
    · obtain ⟨q, rfl⟩ := Int.eq_ofNat_of_zero_le (show 0 ≤ p by omega)
      by_cases h1 : n < q
      · have HP := Lib.hid (show Oct.take bs q K = (0, 0, 1) by unfold Oct.take; rw [if_pos (by right; right; omega)])
        clear hs hlen
        go_enter Try.func64, Try.ntmps64
        go_wp2_with fail
        refine (right_any K _).mono ?_
        rintro e w2 ⟨rfl, hb2⟩
        rw [HS.out]
        go_wp2_with fail
        go_ret3
        exact ⟨by rw [HP.out]; rfl, hb2⟩
      · by_cases h2 : n < q + K
        · have HP := Lib.hid (show Oct.take bs q K = (0, 0, 5) by unfold Oct.take; rw [if_neg (by rw [← isSize_eq, hs]; simp; omega), if_pos (by omega)])
          clear hs hlen
          go_enter Try.func64, Try.ntmps64
          go_wp2_with fail
          refine (right_any K _).mono ?_
          rintro e w2 ⟨rfl, hb2⟩
          rw [HS.out]
          go_wp2_with fail
          go_ret3
          exact ⟨by rw [HP.out]; rfl, hb2⟩
        · have HP := Lib.hid (show Oct.take bs q K = (Oct.val ((bs.drop q).take K), (q : Int) + (K : Int), 0) by unfold Oct.take; rw [if_neg (by rw [← isSize_eq, hs]; simp; omega), if_neg (by omega)]; simp)
          have Hlen := Lib.hid hlen
          clear hs hlen
          obtain ⟨b, off, _, rfl, _⟩ := hr.byte (k := q) (by omega)
          go_enter Try.func64, Try.ntmps64
          go_wp2_with fail
          refine (right_any K _).mono ?_
          rintro e w2 ⟨rfl, hb2⟩
          rw [HS.out]
          have hr2 := hr.below' hb2 hB
          go_wp2_with fail
          go_loop [6, 36] (fun v i => ∃ j : Nat, j ≤ K ∧ i = .int .i64 j ∧ v = .int .u64 ((Oct.val ((bs.drop q).take j) : Nat) : Int)) (fun _ i => K - (intOf i).toNat)
          case atStart => exact ⟨0, Nat.zero_le _, rfl, rfl⟩
          case round =>
            obtain ⟨j, hj, rfl, rfl⟩ := hrel
            by_cases hlt : j < K
            · obtain ⟨_, _, v, hA, _, hv, hcell, hvl⟩ := hr2.byte (k := q + j) (by omega)
              cases hA
              have hvb : Oct.val ((bs.drop q).take j) < 72057594037927936 := by
                have h1 := Oct.val_lt ((bs.drop q).take j)
                have h2 : ((bs.drop q).take j).length ≤ 7 := by simp; omega
                exact Nat.lt_of_lt_of_le h1 (Nat.le_trans (Nat.pow_le_pow_right (by omega) h2) (by decide))
              have hstep : Oct.val ((bs.drop q).take (j + 1)) = Oct.val ((bs.drop q).take j) * 256 + v.toNat := by
                rw [take_succ_of (show (bs.drop q)[j]? = some v by rw [List.getElem?_drop]; exact hv), Oct.val_snoc]
              have HT := Lib.hid hstep
              clear hstep hv
              generalize Oct.val ((bs.drop q).take j) = y at hvb HT
              have HO := Lib.hid (or_byte y v hvb)
              rw [← Nat.add_assoc] at hcell
              go_wp2_with fail
              go_round
              case rel => exact ⟨j + 1, by omega, by go_num, int_eq (by rw [HO.out, HT.out])⟩
              case measure => simp [intOf]; omega
            · obtain rfl : j = K := by omega
              go_wp2_with fail
              go_ret3
              exact ⟨by rw [HP.out]; rfl, hb2⟩

/-! ### slices.Concat of two byte strings -/

set_option maxRecDepth 10000 in
theorem grow_any (n : Nat) (hn : n ≤ 140737488355328) (w : World) :
    Calls Try.prog 63 #[.slice none 0 0, .int .i64 (n : Int)] w fun e w' => ∃ A c, e = .returned (.slice A 0 c) ∧ w'.ownsRow w.heap.size 5 1 (.slice A 0 c) 0 [] ∧ Below w.heap.size w w' := by
  obtain ⟨i0, hi0, hz0, hz1, hz2⟩ := info_parts info8
  by_cases h0 : n = 0
  · subst h0
    go_enter Try.func63, Try.ntmps63
    go_wp2_with fail
    go_ret
    exact ⟨none, 0, rfl, World.ownsRow_nil _ _ _ _, Below.refl _ _⟩
  · have hp : 0 < n := by omega
    have hr := fun ty => Lib.run_append_nil_zeros (P := Try.prog) w 40 3 ty 5 i0 (.int .u8 0) .i64 .i64 Try.underlying40 Try.underlying3 hi0 hz0 n hp (by omega) (by omega) (by rw [hz2]; omega)
    have hcap := grownCap_ge w n 0 5
    have hcm := grownCap_le_maxLen w n 0 5 (by simp only [maxLen]; omega)
    unfold maxLen at hcm
    generalize hg : grownCap w n 0 5 = cap at hr hcap hcm
    have HG := Lib.hid hg
    clear hg
    go_enter Try.func63, Try.ntmps63
    go_wp2_with (at_builtin
                 refine Lib.wpList_append_run _ rfl _ _ _ _ rfl _ _ rfl rfl _ _ (hr _) ?_)
    go_ret
    refine ⟨_, cap, rfl, ?_, ((Below.refl _ _).alloc (Nat.le_refl _) _).drew⟩
    exact (World.ownsRow_made (e := 5) (size := 1) w _ cap (Nat.le_refl _) (by simp only [maxLen]; omega) (by rw [Array.size_append, size_zeroCells, size_zeroCells]; simp; omega)).drew


set_option maxHeartbeats 1000000 in
set_option maxRecDepth 10000 in
theorem concat3_any (b off c0 : Nat) (A1 A2 A3 : Option Addr) (n1 c1 n2 c2 n3 c3 B : Nat) (x y z : List UInt8) (w : World) (hc1 : w.cell? ⟨b, off, none⟩ = some (.slice A1 n1 c1)) (hc2 : w.cell? ⟨b, off + 1, none⟩ = some (.slice A2 n2 c2)) (hc3 : w.cell? ⟨b, off + 2, none⟩ = some (.slice A3 n3 c3)) (hb : b < w.heap.size)
    (h1 : Sl w B 1 A1 n1 c1 (x.map byteV)) (h2 : Sl w B 1 A2 n2 c2 (y.map byteV)) (h3 : Sl w B 1 A3 n3 c3 (z.map byteV)) (hB : B ≤ w.heap.size) (hn1 : n1 ≤ 1099511627776) (hn2 : n2 ≤ 1099511627776) (hn3 : n3 ≤ 1099511627776) :
    Calls Try.prog 46 #[.slice (some ⟨b, off, none⟩) 3 c0] w fun e w' => ∃ v, e = .returned v ∧ Fresh 5 w (x ++ y ++ z) v w' := by
  obtain ⟨i0, hi0, hz0, hz1, hz2⟩ := info_parts info8
  have hl : (x ++ y ++ z).length = n1 + n2 + n3 := by rw [List.length_append, List.length_append, h1.lenB, h2.lenB, h3.lenB]
  have HL := Lib.hid hl
  clear hl
  go_enter Try.func46, Try.ntmps46
  go_wp2_with fail
  refine wp_loop_rounds 4 ?_
  iterate 4 (rw [rounds_succ]; go_wp2_with fail)
  rw [show ((n1 : Int) + (n2 : Int) + (n3 : Int)) = ((n1 + n2 + n3 : Nat) : Int) by omega]
  refine (grow_any (n1 + n2 + n3) (by omega) _).mono ?_
  rintro e w1 ⟨A4, d3, rfl, hown1, hb1⟩
  have hk1 := (hb1.cell (p := ⟨b, off, none⟩) hb).trans hc1
  have HK := Lib.hid (show ∀ w', Below w.heap.size w w' → w'.cell? ⟨b, off + 1, none⟩ = some (.slice A2 n2 c2) ∧ w'.cell? ⟨b, off + 2, none⟩ = some (.slice A3 n3 c3) ∧ Sl w' B 1 A2 n2 c2 (y.map byteV) ∧ Sl w' B 1 A3 n3 c3 (z.map byteV) from
    fun w' hbw => ⟨(hbw.cell (p := ⟨b, off + 1, none⟩) hb).trans hc2, (hbw.cell (p := ⟨b, off + 2, none⟩) hb).trans hc3, h2.below' hbw hB, h3.below' hbw hB⟩)
  have hs1 := h1.below' hb1 hB
  have m1 := h1.nc
  have m1' := h1.cm
  have m2 := h2.nc
  have m2' := h2.cm
  have m3 := h3.nc
  have m3' := h3.cm
  clear hc1 hc2 hc3 h1 h2 h3
  go_wp2_with fail
  refine wp_loop_rounds 4 ?_
  rw [rounds_succ]
  go_wp2_with (at_builtin
               refine wpList_append_any _ rfl _ _ _ rfl w.heap.size 5 i0 _ 1 1 Try.underlying40 hi0 hz0 hz1 hz2 rfl (by omega) _ _ _ rfl hown1 B A1 n1 c1 (x.map byteV) rfl hs1.rd (byteV_one_ _) (by simp only [maxLen]; omega) (by omega) hb1.size ?_
               intro v2 w2 hown2 hg2 hat2)
  have hb2 : Below w.heap.size w w2 := hb1.grown hg2 hb1.size (fun q hq => (hown1.lt q hq).1)
  simp only [Nat.zero_add, List.nil_append] at hown2
  obtain ⟨A5, d4, rfl⟩ := own_slice hown2
  obtain ⟨hk2, _, hs2, _⟩ := HK.out w2 hb2
  clear hk1 hown1 hb1 hg2 hat2 hs1
  go_wp2_with fail
  rw [rounds_succ]
  go_wp2_with (at_builtin
               refine wpList_append_any _ rfl _ _ _ rfl w.heap.size 5 i0 _ 1 1 Try.underlying40 hi0 hz0 hz1 hz2 rfl (by omega) _ _ _ rfl hown2 B A2 n2 c2 (y.map byteV) rfl hs2.rd (byteV_one_ _) (by simp only [maxLen]; omega) (by omega) hb2.size ?_
               intro v5 w5 hown5 hg5 hat5)
  have hb5 : Below w.heap.size w w5 := hb2.grown hg5 hb2.size (fun q hq => (hown2.lt q hq).1)
  obtain ⟨A6, d5, rfl⟩ := own_slice hown5
  obtain ⟨_, hk3, _, hs3⟩ := HK.out w5 hb5
  clear hk2 hown2 hb2 hg5 hat5 hs2
  rw [← List.map_append] at hown5
  go_wp2_with fail
  rw [rounds_succ]
  go_wp2_with (at_builtin
               refine wpList_append_any _ rfl _ _ _ rfl w.heap.size 5 i0 _ 1 1 Try.underlying40 hi0 hz0 hz1 hz2 rfl (by omega) _ _ _ rfl hown5 B A3 n3 c3 (z.map byteV) rfl hs3.rd (byteV_one_ _) (by simp only [maxLen]; omega) (by omega) hb5.size ?_
               intro v7 w7 hown7 hg7 hat7)
  have hb7 : Below w.heap.size w w7 := hb5.grown hg7 hb5.size (fun q hq => (hown5.lt q hq).1)
  obtain ⟨A7, d7, rfl⟩ := own_slice hown7
  clear hk3 hown5 hb5 hg7 hat7 hs3
  rw [← List.map_append] at hown7
  go_wp2_with fail
  rw [rounds_succ]
  go_wp2_with fail
  go_ret
  exact ⟨_, rfl, A7, d7, by have h := HL.out; simp at h ⊢; omega, by rw [HL.out]; exact hown7, hb7⟩

/-! ### The order -/
theorem order_cmp : ∀ (x y : List UInt8), Lib.compareBytes x y = Oct.order x y
  | [], [] => rfl
  | [], _ :: _ => rfl
  | _ :: _, [] => rfl
  | a :: x, b :: y => by unfold Lib.compareBytes Oct.order; rw [order_cmp x y]

theorem bytesOf_run {B n c : Nat} {A : Option Addr} {bs : List UInt8} {P : Program} {w : World} (hr : Sl w B 1 A n c (bs.map byteV)) :
    (Extern.Bytes.bytesOf (.slice A n c)).run P w = .ok ⟨bs.toArray⟩ w := by
  have hl := hr.lenB
  cases A with
  | none =>
    have h0 := hr.rd.none_of
    subst h0
    have : bs = [] := List.eq_nil_of_length_eq_zero hl
    subst this
    rfl
  | some a =>
    subst hl
    have h := Lib.run_loadBytesX (P := P) w (bs.map fun b => (b.toNat : Int)) a .empty (fun j x hj => by
      rw [List.getElem?_map, Option.map_eq_some_iff] at hj
      obtain ⟨b, hb, rfl⟩ := hj
      obtain ⟨ad, h1, _, hc⟩ := hr.rd.2 (by have := (List.getElem?_eq_some_iff.1 hb).1; omega)
      cases h1
      exact hc j _ (by rw [List.getElem?_map, hb]; rfl))
    rw [List.length_map] at h
    have e : Lib.bytesOf (bs.map fun b => (b.toNat : Int)) = bs := by
      unfold Lib.bytesOf
      rw [List.map_map]
      conv => rhs; rw [← List.map_id bs]
      apply List.map_congr_left
      intro b _
      simp
    rw [e] at h
    unfold Extern.Bytes.bytesOf
    rw [h]
    congr 1
    apply ByteArray.ext
    simp

theorem run_compare {B1 n1 c1 B2 n2 c2 : Nat} {A1 A2 : Option Addr} {x y : List UInt8} {P : Program} {w : World} (h1 : Sl w B1 1 A1 n1 c1 (x.map byteV)) (h2 : Sl w B2 1 A2 n2 c2 (y.map byteV)) :
    (Extern.BytealgCompare.compare #[.slice A1 n1 c1, .slice A2 n2 c2]).run P w = .ok (.int .i64 (Oct.order x y)) w := by
  change Sem.run P (do pure (goInt (Extern.BytealgCompare.cmp (← Extern.Bytes.bytesOf (.slice A1 n1 c1)) (← Extern.Bytes.bytesOf (.slice A2 n2 c2))))) w = _
  simp only [Sem.run_bind, Sem.run_pure, Result.andThen, bytesOf_run h1, bytesOf_run h2]
  rw [Lib.cmp_eq, order_cmp]
  rfl

theorem order_any (B1 : Nat) (A1 : Option Addr) (n1 c1 B2 : Nat) (A2 : Option Addr) (n2 c2 : Nat) (x y : List UInt8) (w : World) (h1 : Sl w B1 1 A1 n1 c1 (x.map byteV)) (h2 : Sl w B2 1 A2 n2 c2 (y.map byteV)) :
    Calls Try.prog 29 #[.slice A1 n1 c1, .slice A2 n2 c2] w fun e w' => e = .returned (.int .i64 (Oct.order x y)) ∧ w = w' := by
  have hcmp : Calls Try.prog 53 #[.slice A1 n1 c1, .slice A2 n2 c2] w fun e w' => e = .returned (.int .i64 (Oct.order x y)) ∧ w = w' := by
    go_enter Try.func53, Try.ntmps53
    go_wp2_with fail
    rw [run_callFunc_extern Try.func67 (by kernel_rfl) (by kernel_rfl) (by kernel_rfl) (e := Extern.BytealgCompare.compare) (by kernel_rfl), run_compare h1 h2]
    simp only [Result.andThen]
    rw [Oper.upon_value]
    go_wp2_with fail
    go_ret
    exact ⟨rfl, rfl⟩
  go_enter Try.func29, Try.ntmps29
  go_wp2_with (go_at_call 53; refine hcmp.mono ?_; rintro e w' ⟨rfl, rfl⟩)
  go_ret
  exact ⟨rfl, rfl⟩

theorem equal_any (B1 : Nat) (A1 : Option Addr) (n1 c1 B2 : Nat) (A2 : Option Addr) (n2 c2 : Nat) (x y : List UInt8) (w : World) (h1 : Sl w B1 1 A1 n1 c1 (x.map byteV)) (h2 : Sl w B2 1 A2 n2 c2 (y.map byteV)) :
    Calls Try.prog 31 #[.slice A1 n1 c1, .slice A2 n2 c2] w fun e w' => e = .returned (.bool (x == y)) ∧ w = w' := by
  have s1 := run_string_of (P := Try.prog) (dst := 9) Try.underlying40 Try.underlying5 Try.underlying9 h1
  have s2 := run_string_of (P := Try.prog) (dst := 9) Try.underlying40 Try.underlying5 Try.underlying9 h2
  go_enter Try.func31, Try.ntmps31
  go_wp2_with fail
  go_ret
  exact ⟨rfl, rfl⟩

end Go.Proofs.Ytniekddoaokmkaa

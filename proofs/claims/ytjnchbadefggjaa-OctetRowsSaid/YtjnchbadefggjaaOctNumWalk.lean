/-
  OctetNumbers, walked.
-/
import Derived.Test.YtjnchbadefggjaaOctWorks
import Derived.Deep.Onto
namespace Go.Proofs.Ytjnchbadefggjaa
open Go.RowKit Go.Gab
set_option linter.unusedVariables false

theorem madeCells_u8 (c : Nat) : madeCells (Value.int .u8 0).cells (c * 1) = bytesA (List.replicate c 0) := by
  rw [Nat.mul_one]
  unfold bytesA
  apply Array.ext
  · simp [madeCells, Value.cells]
  · intro j h1 h2
    simp [madeCells, Value.cells, byteV, Nat.mod_one]

/-- make([]byte, 0, k + 20). -/
theorem run_make_room {P : Program} {t e : TypeId} {i : TypeInfo} (ht : P.underlying t = some (.slice e)) (hi : P.info? e = some i) (hz : i.zero = some (.int .u8 0)) (hs : i.size = 1) (hb : i.bytes = 1)
    (n : Nat) (hn : n ≤ 140737488355328) (w : World) :
    (Instr.makeSlice t (.int .i64 0) (.int .i64 ((n : Int) + 20))).run P w = .ok (.slice (some ⟨w.heap.size, 0, none⟩) 0 (n + 20)) (w.alloc (.cells (bytesA (List.replicate (n + 20) 0)) e)) := by
  have h := run_make_rowN t e i _ ht hi hz .i64 .i64 0 (n + 20) (by omega) (by rw [hb]; omega) (by omega) w
  rw [hs, madeCells_u8] at h
  exact h

theorem u64_of_wf {z : Int} (h : (Lit.int .u64 z).wf = true) : ∃ x : Nat, z = (x : Int) ∧ x < 18446744073709551616 := by
  have h2 : 0 ≤ z ∧ z ≤ 18446744073709551615 := by
    simp [Lit.wf, IntKind.min, IntKind.max, IntKind.signed, IntKind.bits] at h
    simpa using h
  exact ⟨z.toNat, by omega, by omega⟩

theorem only_trans {a b c : World} {row row2 : Option Nat} (h : a.grownBy b row) (k : b.grownBy c row2) (hr : row2 = row ∨ ∀ g, row2 = some g → a.heap.size ≤ g) : a.grownBy c row :=
  ⟨k.os.trans h.os, k.tape.trans h.tape, k.output.trans h.output, Nat.le_trans h.size k.size, fun i hi hne => (k.block i (Nat.lt_of_lt_of_le hi h.size) (by
    rcases hr with rfl | hr
    · exact hne
    · intro h2
      have := hr i h2.symm
      omega)).trans (h.block i hi hne)⟩

/-- A row that was there before another one's first block is another one. -/
theorem rows_ne {w w' : World} {b b' : Nat} {e e' : TypeId} {s s' n n' : Nat} {v v' : Value} {xs xs' : List Value} (h : w.ownsRow b e s v n xs) (h' : w'.ownsRow b' e' s' v' n' xs') (hlt : w.heap.size ≤ b') :
    (v.ownBlock = none ∨ v.ownBlock ≠ v'.ownBlock) ∧ (v'.ownBlock = none ∨ v'.ownBlock ≠ v.ownBlock) := by
  constructor
  · cases ho : v.ownBlock with
    | none => exact .inl rfl
    | some g =>
      refine .inr fun h2 => ?_
      have h3 := (h.lt g ho).2
      have h4 := (h'.lt g h2.symm).1
      omega
  · cases ho : v'.ownBlock with
    | none => exact .inl rfl
    | some g =>
      refine .inr fun h2 => ?_
      have h3 := (h'.lt g ho).1
      have h4 := (h.lt g h2.symm).2
      omega

theorem replicate_snoc {α : Type} (k : Nat) (a : α) : List.replicate (k + 1) a = List.replicate k a ++ [a] := by
  rw [List.replicate_succ']

set_option maxHeartbeats 1000000 in
theorem octetNumbers_walk {a : Option Addr} {n c : Nat} {bs : List UInt8} {z p k : Int} (W : World) (hr : Sl W W.heap.size 1 a n c (bs.map byteV)) (hz : (Lit.int .u64 z).wf = true) (hp : (Lit.int .i64 p).wf = true) (hk : (Lit.int .i64 k).wf = true) :
    Calls Try.prog 8 #[.slice a n c, .int .u64 z, .int .i64 p, .int .i64 k] W fun e w' => e = .returned (.bool true) ∧ Below W.heap.size W w' := by
  obtain ⟨x, rfl, hx⟩ := u64_of_wf hz
  clear hz hp hk
  have hnc := hr.nc
  have hcm := hr.cm
  have hlen := hr.lenB
  obtain ⟨i0, hi0, hz0, hz1, hz2⟩ := info_parts info8
  by_cases hv : (16384 : Int) < n
  · have hv' : decide ((16384 : Int) < n) = true := by simpa using hv
    clear hlen
    go_enter Try.func8, Try.ntmps8
    go_wp2_with (first | (go_at_call 23; refine (vast01_any _ _ _ _ (by omega)).mono ?_; rintro e w' ⟨rfl, rfl⟩) | (go_at_call 24; refine (works01_any _).mono ?_; rintro e w' ⟨rfl, hb⟩))
    go_ret
    exact ⟨rfl, hb⟩
  · have hv' : decide ((16384 : Int) < n) = false := by simpa using hv
    have hmk := fun w => run_make_room Try.underlying22 hi0 hz0 hz1 hz2 n (by omega) w
    have HO := Lib.hid (Oct.order_self (Oct.put bs x k))
    have HO2 := Lib.hid (Oct.order_self bs)
    have Hlen := Lib.hid hlen
    clear hlen
    go_enter Try.func8, Try.ntmps8
    go_wp2_with fail
    refine (vast01_any _ _ _ _ (by omega)).mono ?_
    rintro e w' ⟨rfl, rfl⟩
    go_wp2_with (at_builtin
                 refine wpList_append_any _ rfl _ _ _ rfl W.heap.size 5 i0 _ 1 1 Try.underlying22 hi0 hz0 hz1 hz2 rfl (by omega) (.slice (some ⟨W.heap.size, 0, none⟩) 0 (n + 20)) 0 [] rfl
                   (World.ownsRow_made W _ (n + 20) (Nat.le_refl _) (by simp only [maxLen]; omega) (by simp [bytesA])) W.heap.size a n c (bs.map byteV) rfl (hr.alloc (Nat.le_refl _) _).rd (byteV_one_ bs) (by simp only [maxLen]; omega) (by omega) (by simp) ?_
                 intro v1 w1 hown1 hg1 hat1)
    have hb1 : Below W.heap.size W w1 := ((Below.refl _ _).alloc (Nat.le_refl _) _).grown hg1 (by simp) (by simp [Value.ownBlock])
    obtain ⟨A1, d1, rfl⟩ := own_slice hown1
    simp only [Nat.zero_add, List.nil_append] at hown1 ⊢
    clear hg1 hat1 hmk
    refine (put_any w1.heap.size A1 n d1 bs x _ k rfl hx _ (Sl.of_own hown1) (Nat.le_refl _) (by omega)).mono ?_
    rintro e w2 ⟨v2, rfl, hf⟩
    obtain ⟨A2, d2, rfl, hown2, hb2⟩ := hf
    have Hm := Lib.hid (show (Oct.put bs x k).length = (Oct.put bs x k).length from rfl)
    generalize hm2 : (Oct.put bs x k).length = m2 at hown2 Hm ⊢
    have Hm2 := Lib.hid hm2
    clear hm2 Hm
    have hbel2 : Below W.heap.size W w2 := hb1.trans (hb2.mono hb1.size)
    have hown1' := ownsRow_below hown1 hb2
    have hne : (Value.slice A2 m2 d2).ownBlock = none ∨ (Value.slice A2 m2 d2).ownBlock ≠ (Value.slice A1 n d1).ownBlock := by
      cases ho : (Value.slice A2 m2 d2).ownBlock with
      | none => exact .inl rfl
      | some g =>
        refine .inr fun h => ?_
        have h1 := (hown2.lt g ho).1
        have h2 := (hown1.lt g h.symm).2
        omega
    have hown2' := hown2.mono hb1.size
    clear hown1 hown2 hb1 hb2
    go_wp2_with fail
    go_loopw [9, 11] (fun v i wr => ∃ (j m d : Nat) (A1 : Option Addr), j ≤ 20 ∧ i = .int .i64 j ∧ m = n + j ∧ v = .slice A1 m d ∧ wr.ownsRow W.heap.size 5 1 (.slice A1 m d) m ((bs ++ List.replicate j 238).map byteV)
      ∧ wr.ownsRow W.heap.size 5 1 (.slice A2 m2 d2) m2 ((Oct.put bs x k).map byteV) ∧ ((Value.slice A2 m2 d2).ownBlock = none ∨ (Value.slice A2 m2 d2).ownBlock ≠ (Value.slice A1 m d).ownBlock) ∧ Below W.heap.size W wr) (fun _ i _ => 20 - (intOf i).toNat)
    case atStart => exact ⟨0, n, d1, A1, Nat.zero_le _, rfl, rfl, rfl, by simpa using hown1', hown2', hne, hbel2⟩
    case round =>
      clear hown1' hown2' hne hbel2
      obtain ⟨j, m, d, A3, hj, rfl, hm, rfl, hown, hown2, hne, hbel⟩ := hrel
      have HM := Lib.hid hm
      have hm1 : m ≤ n + 20 := by omega
      clear hm
      by_cases hlt : j < 20
      · go_wp2_with (at_builtin
                     refine wpList_append_any _ rfl _ _ _ rfl W.heap.size 5 i0 _ 1 1 Try.underlying22 hi0 hz0 hz1 hz2 rfl (by omega) _ _ _ rfl (hown.alloc _) (wr.heap.size + 1) (some ⟨wr.heap.size, 0, none⟩) 1 1 ([238].map byteV) rfl (by exact (Sl.lit (k := 1) (cap := 1) _ _ _ _ _ _ rfl rfl rfl (by omega) (by omega)).rd) (byteV_one_ _) (by simp only [maxLen]; omega) (by omega) (by have := hbel.size; simp; omega) ?_
                     intro v2 w2 hown3 hg2 hat2)
        have hb3 : Below W.heap.size W w2 := (hbel.alloc hbel.size _).grown hg2 (by have := hbel.size; simp; omega) (fun q hq => (hown.lt q hq).1)
        have hown4 := (hown2.alloc (.cells #[.int .u8 238] 5)).kept hg2 hne
        have hne4 : (Value.slice A2 m2 d2).ownBlock = none ∨ (Value.slice A2 m2 d2).ownBlock ≠ v2.ownBlock := by
          rcases hne with h | h
          · exact .inl h
          · rcases hat2 with h1 | h1
            · exact .inr (by rw [h1]; exact h)
            · refine .inr fun h2 => ?_
              have := (hown2.lt _ (h2.trans h1)).2
              simp at this
              omega
        obtain ⟨A4, c4, rfl⟩ := own_slice hown3
        clear hown hown2 hbel hg2 hat2 hne
        rw [← List.map_append, List.append_assoc, ← replicate_snoc] at hown3
        go_wp2_with fail
        go_roundw
        case rel => exact ⟨j + 1, m + 1, c4, A4, by omega, by go_num, by have := HM.out; omega, rfl, hown3, hown4, hne4, hb3⟩
        case measure => simp [intOf]; omega
      · obtain rfl : j = 20 := by omega
        have hs1 := (Sl.of_own hown).take_ (k := n) (by have := HM.out; omega)
        rw [Nat.mul_one, ← List.map_take, List.take_append_of_le_length (by rw [Hlen.out]; omega), List.take_of_length_le (by rw [Hlen.out]; omega)] at hs1
        have hs2 := Sl.of_own hown2
        have hnd : n ≤ d := by have := HM.out; have := (Sl.of_own hown).nc; omega
        obtain ⟨g, cap, hA, _, _⟩ := hown.form (by have := HM.out; omega)
        injection hA with hA1 hA2 hA3
        subst hA1 hA3
        have hdm := hs1.cm
        have hm0 : 0 < m := by have := HM.out; omega
        clear hown hown2 hne
        go_wp2_with fail
        have hr1 := hr.below hbel
        refine (copied01_any W.heap.size a n c bs _ hr1 hbel.size (by omega)).mono ?_
        rintro e w3 ⟨v3, rfl, hf⟩
        obtain ⟨A3, d3, rfl, hown3, hb3⟩ := hf
        rw [Hlen.out] at hown3 ⊢
        have hs3 := Sl.of_own hown3
        have hbel3 := hbel.trans (hb3.mono hbel.size)
        have hs13 := hs1.below hb3
        have hs23 := hs2.below hb3
        clear hown3 hs1 hs2
        go_wp2_with fail
        refine (take_any w3.heap.size A3 n d3 bs p k _ hs3 (Nat.le_refl _) (by omega)).mono ?_
        rintro e w4 ⟨rfl, hb4⟩
        have hbel4 := hbel3.trans (hb4.mono hbel3.size)
        have hs14 := hs13.below' hb4 hb3.size
        have hs24 := hs23.below' hb4 hb3.size
        have hr4 := hr.below hbel4
        have hsz4 : wr.heap.size ≤ w4.heap.size := Nat.le_trans hb3.size hb4.size
        clear hs13 hs23 hb4 hb3 hs3 hbel3 hr1
        unfold takeV
        go_wp2_with fail
        refine (refTake_any1 W.heap.size a n c bs p k _ hr4).mono ?_
        rintro e w5 ⟨rfl, rfl⟩
        unfold takeV
        go_wp2_with fail
        refine (refPut_any W.heap.size a n c bs x _ k rfl hx _ hr4 hbel4.size (by omega)).mono ?_
        rintro e w6 ⟨v6, rfl, hf⟩
        obtain ⟨A6, d6, rfl, hown6, hb6⟩ := hf
        rw [Hm2.out] at hown6 ⊢
        have hbel6 := hbel4.trans (hb6.mono hbel4.size)
        have hs16 := hs14.below' hb6 hsz4
        have hs26 := hs24.below' hb6 hsz4
        have hs6 := Sl.of_own hown6
        have hr6 := hr4.below' hb6 hbel4.size
        clear hs14 hs24 hr4 hbel4 hown6
        go_wp2_with fail
        refine (refSame_any _ A2 m2 d2 _ A6 m2 d6 _ _ _ hs26 hs6).mono ?_
        rintro e w7 ⟨rfl, q7, rfl⟩
        rw [HO.out]
        have hs17 := hs16.drewN q7
        have hr7 := hr6.drewN q7
        go_wp2_with fail
        refine (refSame_any _ (some ⟨g, 0, none⟩) n d _ a n c bs bs _ hs17 hr7).mono ?_
        rintro e w8 ⟨rfl, q8, rfl⟩
        rw [HO2.out]
        have hbel8 := below_drewN hbel6 (q7 + q8)
        go_wp2_with (go_at_call 24; refine (works01_any _).mono ?_; rintro e w' ⟨rfl, hb⟩)
        go_ret
        exact ⟨rfl, hbel8.trans (hb.mono hbel8.size)⟩

end Go.Proofs.Ytjnchbadefggjaa

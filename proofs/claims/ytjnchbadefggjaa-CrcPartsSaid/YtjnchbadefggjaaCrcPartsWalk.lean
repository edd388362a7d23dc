/-
  CrcParts, walked: in whatever parts bytes come, the law returns true and writes nothing that was there.
-/
import Derived.Test.YtjnchbadefggjaaCrcWalks
import Derived.Test.YtjnchbadefggjaaRep
namespace Go.Proofs.Ytjnchbadefggjaa
open Go.RowKit Go.Gab
set_option linter.unusedVariables false

set_option maxHeartbeats 1000000 in
theorem crcParts_walk {a : Option Addr} {n c : Nat} {ls : List (List UInt8)} (W : World) (hr : SlR Rep.bytes W W.heap.size a n c ls) :
    Calls Try.prog 4 #[.slice a n c] W fun e w' => e = .returned (.bool true) ∧ Below W.heap.size W w' := by
  have hnc := hr.nc
  have hcm := hr.cm
  by_cases hv : (60 : Int) < n
  · go_enter Try.func4, Try.ntmps4
    go_wp2_with (go_at_call 15; refine (works02_any _).mono ?_; rintro e w' ⟨rfl, hb⟩)
    go_ret
    exact ⟨rfl, hb⟩
  · obtain ⟨i0, hi0, hz0, hz1, hz2⟩ := info_parts Try.infoB
    go_enter Try.func4, Try.ntmps4
    go_wp2_with fail
    refine (crcSum_any 0 _ 0 0 [] _ Sl.nil_).mono ?_
    rintro e w' ⟨rfl, rfl⟩
    go_wp2_with fail
    go_loopw [3, 4, 5] (fun v s i wr => ∃ (k : Nat) (A : Option Addr) (m d : Nat) (acc : List UInt8), k ≤ n ∧ i = .int .i64 k ∧ v = .slice A m d ∧ wr.ownsRow W.heap.size 5 1 (.slice A m d) m (acc.map byteV) ∧ s = .int .u32 ((Crc.sum acc).toNat : Int) ∧ m ≤ 8192 ∧ Below W.heap.size W wr) (fun _ _ i _ => n - (intOf i).toNat)
    case atStart => exact ⟨0, none, 0, 0, [], Nat.zero_le _, rfl, rfl, World.ownsRow_nil _ _ _ _, rfl, by omega, Below.refl _ _⟩
    case round =>
      obtain ⟨k, A, m, d, acc, hk, rfl, rfl, hown, rfl, hm, hbel⟩ := hrel
      by_cases hlt : k < n
      · obtain ⟨b, off, bs, cs, rfl, hb, hls, ⟨A1, n1, c1, rfl, hs, hc1⟩, _, hcl⟩ := (hr.below hbel (Nat.le_refl _)).row k hlt
        have hcell := hcl 0 _ rfl
        simp only [Rep.bytes, Nat.mul_one, Nat.add_zero] at hcell
        clear hcl
        have Hls := Lib.hid hls
        have hnc1 := hs.nc
        have hcm1 := hs.cm
        clear hls
        by_cases hbig : m + n1 ≤ 8192
        · have E3 := Crc.more_sum acc bs
          go_wp2_with fail
          refine (crcMore_any _ (Crc.sum acc) rfl _ _ _ _ bs _ hs).mono ?_
          rintro e w' ⟨rfl, rfl⟩
          rw [E3]
          go_wp2_with (at_builtin
                       refine wpList_append_any _ rfl _ _ _ rfl W.heap.size 5 i0 _ 1 1 Try.underlying22 hi0 hz0 hz1 hz2 rfl (by omega) _ _ _ rfl hown _ A1 n1 c1 (bs.map byteV) rfl hs.rd (byteV_one _) (by simp only [maxLen]; omega) (by omega) hbel.size ?_
                       intro v2 w2 hown2 hg2 hat2)
          have hb2 : Below W.heap.size W w2 := hbel.grown hg2 hbel.size (fun q hq => (hown.lt q hq).1)
          obtain ⟨A2, c2, rfl⟩ := own_slice hown2
          clear hown hbel hg2 hat2
          rw [← List.map_append] at hown2
          have hs2 := Sl.of_own hown2
          go_wp2_with fail
          refine (crcSum_any _ _ _ _ _ _ hs2).mono ?_
          rintro e w' ⟨rfl, rfl⟩
          go_wp2_with fail
          go_roundw
          case rel => exact ⟨k + 1, A2, m + n1, c2, acc ++ bs, by omega, by go_num, rfl, hown2, rfl, by omega, hb2⟩
          case measure => simp [intOf]; omega
        · go_wp2_with fail
          refine (works02_any _).mono ?_
          rintro e w' ⟨rfl, hb⟩
          go_wp2_with fail
          go_ret
          exact ⟨rfl, hbel.trans (hb.mono hbel.size)⟩
      · go_wp2_with fail
        refine (works02_any _).mono ?_
        rintro e w' ⟨rfl, hb⟩
        go_wp2_with fail
        go_ret
        exact ⟨rfl, hbel.trans (hb.mono hbel.size)⟩

end Go.Proofs.Ytjnchbadefggjaa

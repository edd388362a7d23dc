/-
  OctetRows, the plain law: byte strings one behind the other.
-/
import Derived.Test.YtjnchbadefggjaaOctNumWalk
namespace Go.Proofs.Ytjnchbadefggjaa
open Go.RowKit Go.Gab
set_option linter.unusedVariables false

open Oct

/-- Byte strings, each behind its length. -/
def enc : List (List UInt8) → List UInt8
  | [] => []
  | s :: l => be s.length 2 ++ s ++ enc l

theorem enc_append (a b : List (List UInt8)) : enc (a ++ b) = enc a ++ enc b := by
  induction a with
  | nil => rfl
  | cons s a ih => simp [enc, ih]

theorem enc_snoc (a : List (List UInt8)) (s : List UInt8) : enc (a ++ [s]) = enc a ++ be s.length 2 ++ s := by
  rw [enc_append]; simp [enc]

theorem enc_bound : ∀ (l : List (List UInt8)), (∀ s ∈ l, s.length ≤ 300) → (enc l).length ≤ 302 * l.length
  | [], _ => by simp [enc]
  | s :: l, h => by
    have h1 := enc_bound l (fun s hs => h s (List.mem_cons_of_mem _ hs))
    have h2 := h s (List.mem_cons_self ..)
    simp [enc, be_length]
    omega

theorem val_be_small (n : Nat) (h : n < 65536) : val (be n 2) = n := by
  rw [val_be, Nat.mod_eq_of_lt (by omega)]

theorem take_back' (hd tl : List UInt8) (m K : Nat) (hK : size (K : Int) = true) : take (hd ++ be m K ++ tl) (hd.length : Int) (K : Int) = (m % 256 ^ K, (hd.length : Int) + (K : Int), 0) := by
  unfold take
  have hl : (hd ++ be m K ++ tl).length = hd.length + K + tl.length := by simp [be_length]; omega
  rw [hl, if_neg (by rw [hK]; simp; omega), if_neg (by omega)]
  congr 1
  rw [Int.toNat_natCast, Int.toNat_natCast, List.append_assoc, List.drop_left, List.take_append_of_le_length (by rw [be_length]; omega), List.take_of_length_le (by rw [be_length]; omega), val_be]

theorem takeBytes_back' (b s tl : List UInt8) (hs : s.length < 65536) : takeBytes (b ++ be s.length 2 ++ s ++ tl) (b.length : Int) = (s, (b.length : Int) + 2 + (s.length : Int), 0) := by
  unfold takeBytes
  rw [List.append_assoc (b ++ be s.length 2), show (2 : Int) = ((2 : Nat) : Int) from rfl, take_back' b (s ++ tl) s.length 2 rfl]
  rw [Nat.mod_eq_of_lt (by omega)]
  have hl : (b ++ be s.length 2 ++ (s ++ tl)).length = b.length + 2 + s.length + tl.length := by simp [be_length]; omega
  simp only [ne_eq, not_true_eq_false, if_false, hl]
  rw [if_neg (by omega)]
  congr 1
  have e : ((b.length : Int) + ((2 : Nat) : Int)).toNat = (b ++ be s.length 2).length := by simp [be_length]; omega
  rw [e, List.drop_left, List.take_left]

/-- A byte string that stands whole ahead of the cut. -/
theorem takeBytes_whole (b s tl : List UInt8) (kc : Nat) (hs : s.length < 65536) (hk : b.length + 2 + s.length ≤ kc) (hk2 : kc ≤ (b ++ be s.length 2 ++ s ++ tl).length) :
    takeBytes ((b ++ be s.length 2 ++ s ++ tl).take kc) (b.length : Int) = (s, (b.length : Int) + 2 + (s.length : Int), 0) := by
  have e : (b ++ be s.length 2 ++ s ++ tl).take kc = b ++ be s.length 2 ++ s ++ tl.take (kc - (b.length + 2 + s.length)) := by
    rw [List.take_append, List.take_of_length_le (by simp [be_length]; omega)]
    congr 2
    simp [be_length]
    omega
  rw [e]
  exact takeBytes_back' b s _ hs

/-- A byte string that is cut. -/
theorem takeBytes_cut (b s tl : List UInt8) (kc : Nat) (hs : s.length < 65536) (hb : b.length ≤ kc) (hk : kc < b.length + 2 + s.length) :
    takeBytes ((b ++ be s.length 2 ++ s ++ tl).take kc) (b.length : Int) = ([], 0, 5) := by
  have hl : ((b ++ be s.length 2 ++ s ++ tl).take kc).length = kc := by simp [be_length]; omega
  by_cases h2 : kc < b.length + 2
  · have ht : take ((b ++ be s.length 2 ++ s ++ tl).take kc) (b.length : Int) 2 = (0, 0, 5) := by
      unfold take
      rw [hl, if_neg (by simp [size]; omega), if_pos (by omega)]
    unfold takeBytes
    rw [ht]
    rfl
  · have hd : ((b ++ be s.length 2 ++ s ++ tl).take kc).drop b.length = (be s.length 2 ++ s ++ tl).take (kc - b.length) := by
      rw [List.drop_take, List.append_assoc, List.append_assoc, List.drop_left, List.append_assoc]
    have ht : take ((b ++ be s.length 2 ++ s ++ tl).take kc) (b.length : Int) 2 = (s.length, (b.length : Int) + 2, 0) := by
      unfold take
      rw [hl, if_neg (by simp [size]; omega), if_neg (by omega)]
      congr 1
      rw [Int.toNat_natCast, hd, List.take_take, show min (2 : Int).toNat (kc - b.length) = 2 by simp; omega, List.append_assoc, List.take_append_of_le_length (by rw [be_length]; omega), List.take_of_length_le (by rw [be_length]; omega)]
      exact val_be_small _ hs
    unfold takeBytes
    rw [ht]
    simp only [ne_eq, not_true_eq_false, if_false, hl]
    rw [if_pos (by omega)]

/-- A number that is cut, or stands whole. -/
theorem take8_cut (b : List UInt8) (x kc : Nat) (hb : b.length ≤ kc) (hk : kc < b.length + 8) : take ((b ++ be x 8).take kc) (b.length : Int) 8 = (0, 0, 5) := by
  have hl : ((b ++ be x 8).take kc).length = kc := by simp [be_length]; omega
  unfold take
  rw [hl, if_neg (by simp [size]; omega), if_pos (by omega)]

theorem take8_whole (b : List UInt8) (x : Nat) (hx : x < 18446744073709551616) : take ((b ++ be x 8).take (b.length + 8)) (b.length : Int) 8 = (x, (b.length : Int) + 8, 0) := by
  have hl : ((b ++ be x 8).take (b.length + 8)) = b ++ be x 8 := List.take_of_length_le (by simp [be_length])
  rw [hl]
  have hl2 : (b ++ be x 8).length = b.length + 8 := by simp [be_length]
  unfold take
  rw [hl2, if_neg (by simp [size]; omega), if_neg (by omega)]
  congr 1
  rw [Int.toNat_natCast, List.drop_left, List.take_of_length_le (by rw [be_length]; decide), val_be, Nat.mod_eq_of_lt (by omega)]



end Go.Proofs.Ytjnchbadefggjaa

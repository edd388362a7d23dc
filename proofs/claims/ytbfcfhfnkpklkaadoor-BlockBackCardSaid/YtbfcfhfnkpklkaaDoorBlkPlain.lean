/-
  Layer 4 (block), plain: bytes sealed as a block, and what is in a block; the one takes back the other. No program in sight.
-/
import Derived.Test.YtbfcfhfnkpklkaaDoorCrcPlain
import Derived.Test.YtbfcfhfnkpklkaaDoorOctPlain
namespace Blo
open Oct Crc

/-- The bytes of a sum, the lowest first. -/
def sumB (l : List UInt8) : List UInt8 := [byteOf (sum l) 0, byteOf (sum l) 1, byteOf (sum l) 2, byteOf (sum l) 3]
/-- What stands ahead of the sum. -/
def pre (k : UInt8) (body : List UInt8) : List UInt8 := [k] ++ be body.length 2 ++ body ++ List.replicate (505 - body.length) 0
def blk (k : UInt8) (body : List UInt8) : List UInt8 := pre k body ++ sumB (pre k body)
def box (k : UInt8) (body : List UInt8) : List UInt8 × Int :=
  if k = 0 then ([], 1) else if 505 < body.length then ([], 6) else (blk k body, 0)

/-- The length that bytes tell. -/
def len (bs : List UInt8) : Nat := val ((bs.drop 1).take 2)
def whole (bs : List UInt8) : Bool := decide (bs.length = 512) && right bs
/-- The body of so many bytes, and what stands behind it ahead of the sum. -/
def body (bs : List UInt8) : List UInt8 := (bs.drop 3).take (len bs)
def spare (bs : List UInt8) : List UInt8 := ((bs.take 508).drop 3).drop (len bs)
def fine (bs : List UInt8) : Bool := !(bs.getD 0 0 == 0) && decide (len bs ≤ 505) && (spare bs).all (· == 0)
def opens (bs : List UInt8) : UInt8 × List UInt8 × Int :=
  if whole bs then if fine bs then (bs.getD 0 0, body bs, 0) else (0, [], 5) else (0, [], 9)

theorem pre_len {k : UInt8} {b : List UInt8} (h : b.length ≤ 505) : (pre k b).length = 508 := by
  simp [pre, be_length]; omega
theorem sumB_len (l : List UInt8) : (sumB l).length = 4 := rfl
theorem blk_len {k : UInt8} {b : List UInt8} (h : b.length ≤ 505) : (blk k b).length = 512 := by
  unfold blk; rw [List.length_append, pre_len h, sumB_len]
theorem right_blk (k : UInt8) (b : List UInt8) : right (blk k b) = true := by
  unfold blk sumB
  rw [right_append, decide_eq_true_eq]
  exact (le_byteOf _).symm
theorem whole_blk {k : UInt8} {b : List UInt8} (h : b.length ≤ 505) : whole (blk k b) = true := by
  unfold whole; rw [blk_len h, right_blk]; simp

theorem be2 (n : Nat) : be n 2 = [UInt8.ofNat (n / 256 % 256), UInt8.ofNat (n % 256)] := by
  have e0 := be_get n 2 0 (by omega)
  have e1 := be_get n 2 1 (by omega)
  have hl := be_length n 2
  apply List.ext_getElem?
  intro i
  match i with
  | 0 => rw [e0]; simp
  | 1 => rw [e1]; simp
  | i + 2 => rw [List.getElem?_eq_none (by omega), List.getElem?_eq_none (by simp)]

theorem blk_head (k : UInt8) (b : List UInt8) : (blk k b).getD 0 0 = k := by simp [blk, pre]
theorem blk_drop1 (k : UInt8) (b : List UInt8) : (blk k b).drop 1 = be b.length 2 ++ (b ++ List.replicate (505 - b.length) 0 ++ sumB (pre k b)) := by
  simp [blk, pre]
theorem blk_len_of {k : UInt8} {b : List UInt8} (h : b.length ≤ 505) : len (blk k b) = b.length := by
  unfold len
  rw [blk_drop1, List.take_append_of_le_length (by rw [be_length]; exact Nat.le_refl _), List.take_of_length_le (by rw [be_length]; exact Nat.le_refl _), val_be]
  omega
theorem blk_drop3 (k : UInt8) (b : List UInt8) : (blk k b).drop 3 = b ++ (List.replicate (505 - b.length) 0 ++ sumB (pre k b)) := by
  have h : (blk k b).drop 3 = ((blk k b).drop 1).drop 2 := by rw [List.drop_drop]
  rw [h, blk_drop1, List.drop_append_of_le_length (by rw [be_length]; exact Nat.le_refl _), List.drop_of_length_le (by rw [be_length]; exact Nat.le_refl _), List.nil_append, List.append_assoc]
theorem blk_body {k : UInt8} {b : List UInt8} (h : b.length ≤ 505) : body (blk k b) = b := by
  unfold body
  rw [blk_len_of h, blk_drop3, List.take_append_of_le_length (Nat.le_refl _), List.take_of_length_le (Nat.le_refl _)]
theorem blk_take508 {k : UInt8} {b : List UInt8} (h : b.length ≤ 505) : (blk k b).take 508 = pre k b := by
  unfold blk
  rw [List.take_append_of_le_length (by rw [pre_len h]; exact Nat.le_refl _), List.take_of_length_le (by rw [pre_len h]; exact Nat.le_refl _)]
theorem blk_spare {k : UInt8} {b : List UInt8} (h : b.length ≤ 505) : spare (blk k b) = List.replicate (505 - b.length) 0 := by
  unfold spare
  rw [blk_len_of h, blk_take508 h]
  have e : (pre k b).drop 3 = b ++ List.replicate (505 - b.length) 0 := by
    unfold pre
    rw [be2]
    simp
  rw [e, List.drop_append_of_le_length (Nat.le_refl _), List.drop_length, List.nil_append]
theorem fine_blk {k : UInt8} {b : List UInt8} (hk : k ≠ 0) (h : b.length ≤ 505) : fine (blk k b) = true := by
  unfold fine
  rw [blk_head, blk_len_of h, blk_spare h]
  simp [hk, h]

/-- What was sealed is opened. -/
theorem opens_blk {k : UInt8} {b : List UInt8} (hk : k ≠ 0) (h : b.length ≤ 505) : opens (blk k b) = (k, b, 0) := by
  unfold opens
  rw [if_pos (whole_blk h), if_pos (fine_blk hk h), blk_head, blk_body h]

theorem sumB_of {l : List UInt8} {a b c d : UInt8} (h : sum l = le a b c d) : sumB l = [a, b, c, d] := by
  unfold sumB
  rw [h]
  have e := le_toNat a b c d
  have ha := a.toNat_lt
  have hb := b.toNat_lt
  have hc := c.toNat_lt
  have hd := d.toNat_lt
  have key : ∀ (i : Nat) (x : UInt8), (le a b c d).toNat / 2 ^ (8 * i) % 256 = x.toNat → byteOf (le a b c d) i = x := by
    intro i x hx
    apply UInt8.toNat_inj.1
    rw [byteOf_toNat, hx]
  rw [key 0 a (by rw [e]; omega), key 1 b (by rw [e]; omega), key 2 c (by rw [e]; omega), key 3 d (by rw [e]; omega)]

theorem all_zero {l : List UInt8} (h : l.all (· == 0) = true) : l = List.replicate l.length 0 := by
  rw [List.all_eq_true] at h
  exact List.eq_replicate_iff.2 ⟨rfl, fun x hx => by simpa using h x hx⟩

/-- What is opened is sealed as it stood. -/
theorem blk_of_fine {bs : List UInt8} (hw : whole bs = true) (hf : fine bs = true) : blk (bs.getD 0 0) (body bs) = bs ∧ bs.getD 0 0 ≠ 0 ∧ (body bs).length = len bs ∧ len bs ≤ 505 := by
  unfold whole at hw
  unfold fine at hf
  simp only [Bool.and_eq_true, decide_eq_true_eq, Bool.not_eq_true', beq_eq_false_iff_ne, ne_eq] at hw hf
  obtain ⟨hl, hr⟩ := hw
  obtain ⟨⟨hk, hn⟩, hz⟩ := hf
  have hbl : (body bs).length = len bs := by
    unfold body; rw [List.length_take, List.length_drop]; omega
  refine ⟨?_, hk, hbl, hn⟩
  have hpre : pre (bs.getD 0 0) (body bs) = bs.take 508 := by
    have h1 : be (body bs).length 2 = (bs.drop 1).take 2 := by
      have := be_val ((bs.drop 1).take 2)
      rw [show ((bs.drop 1).take 2).length = 2 by rw [List.length_take, List.length_drop]; omega] at this
      rw [hbl]
      exact this
    have hsl : (spare bs).length = 505 - len bs := by
      unfold spare; rw [List.length_drop, List.length_drop, List.length_take]; omega
    have h2 : List.replicate (505 - (body bs).length) 0 = spare bs := by
      rw [all_zero hz, hsl, hbl]
    have h3 : body bs ++ spare bs = (bs.take 508).drop 3 := by
      have e : body bs = ((bs.take 508).drop 3).take (len bs) := by
        unfold body
        rw [List.drop_take, List.take_take, Nat.min_eq_left (by omega)]
      rw [e]
      unfold spare
      exact List.take_append_drop _ _
    have h4 : [bs.getD 0 0] ++ (bs.drop 1).take 2 = (bs.take 508).take 3 := by
      match bs, hl with
      | a :: b :: c :: rest, _ => simp
    unfold pre
    rw [h1, h2, List.append_assoc _ (body bs), h3, h4]
    exact List.take_append_drop 3 _
  unfold blk
  rw [hpre]
  have hlast : bs.drop 508 = sumB (bs.take 508) := by
    unfold right at hr
    simp only [Bool.and_eq_true, decide_eq_true_eq, hl] at hr
    have hs := sumB_of hr.2
    rw [show 512 - 4 = 508 from rfl] at hs
    rw [hs]
    apply List.ext_getElem?
    intro i
    rw [List.getElem?_drop]
    match i with
    | 0 => simp [List.getD, List.getElem?_eq_getElem (show 508 < bs.length by omega)]
    | 1 => simp [List.getD, List.getElem?_eq_getElem (show 509 < bs.length by omega)]
    | 2 => simp [List.getD, List.getElem?_eq_getElem (show 510 < bs.length by omega)]
    | 3 => simp [List.getD, List.getElem?_eq_getElem (show 511 < bs.length by omega)]
    | i + 4 => rw [List.getElem?_eq_none (by omega), List.getElem?_eq_none (by simp)]
  rw [← hlast]
  exact List.take_append_drop 508 _

theorem box_of_opens {bs : List UInt8} (h : (opens bs).2.2 = 0) : box (opens bs).1 (opens bs).2.1 = (bs, 0) := by
  unfold opens at h ⊢
  split at h
  · rename_i hw
    split at h
    · rename_i hf
      rw [if_pos hw, if_pos hf]
      obtain ⟨h1, h2, h3, h4⟩ := blk_of_fine hw hf
      unfold box
      simp only
      rw [if_neg h2, if_neg (by omega), h1]
    · simp at h
  · simp at h

/-- By the document: of all bodies that may stand there the one that is sealed like this. -/
theorem fine_iff {bs : List UInt8} (hw : whole bs = true) (hn : len bs ≤ 505) : (box (bs.getD 0 0) (body bs) = (bs, 0)) ↔ fine bs = true := by
  constructor
  · intro h
    unfold box at h
    have hk : bs.getD 0 0 ≠ 0 := by
      intro e
      rw [if_pos e] at h
      have := congrArg Prod.snd h
      simp at this
    rw [if_neg hk] at h
    have hbl : (body bs).length ≤ 505 := by
      unfold body; rw [List.length_take]; omega
    rw [if_neg (by omega)] at h
    have e : blk (bs.getD 0 0) (body bs) = bs := congrArg Prod.fst h
    rw [← e]
    exact fine_blk hk hbl
  · intro hf
    obtain ⟨h1, h2, h3, h4⟩ := blk_of_fine hw hf
    unfold box
    rw [if_neg h2, if_neg (by omega), h1]

/-- With some bits turned, all within 32 that stand one behind the other, a block is spoilt. -/
theorem opens_turn {k : UInt8} {b : List UInt8} (hk : k ≠ 0) (h : b.length ≤ 505) (at_ : Nat) (v : BitVec 32) (hat : at_ + 32 ≤ 8 * 512) :
    (opens (turn at_ v 32 (blk k b))).2.2 = if v = 0#32 then 0 else 9 := by
  have hr := right_turn (right_blk k b) (by rw [blk_len h]; omega) at_ v (by rw [blk_len h]; omega)
  by_cases hv : v = 0#32
  · rw [if_pos hv]
    subst hv
    have e : ∀ n, turn at_ 0#32 n (blk k b) = blk k b := by
      intro n
      induction n with
      | zero => rfl
      | succ n ih => simp [turn, ih]
    rw [e, opens_blk hk h]
  · rw [if_neg hv]
    unfold opens whole
    rw [hr]
    simp [hv]

end Blo

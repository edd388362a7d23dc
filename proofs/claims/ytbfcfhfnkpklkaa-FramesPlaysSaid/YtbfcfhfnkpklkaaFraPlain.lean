/-
  Layer 24 (frames), plain: what asks and replies are as bytes, and what bytes ask and reply; the one takes back the other. No program in sight.
-/
import Derived.Test.YtbfcfhfnkpklkaaOctPlain
import Derived.WalkKit
namespace Fra
open Oct

/-- What is asked. -/
structure Ask where
  kind : UInt8
  a : Int
  b : Int
  x : Int
  w : Int
  u : Int
  id : Nat

/-- A number of 64 bits that has a sign, within its bounds. -/
def I64 (z : Int) : Prop := -9223372036854775808 ≤ z ∧ z ≤ 9223372036854775807

structure Ask.Ok (d : Ask) : Prop where
  a : I64 d.a
  b : I64 d.b
  x : I64 d.x
  w : I64 d.w
  u : I64 d.u
  id : d.id < 18446744073709551616

/-- A number with a sign as one without. -/
def uns (z : Int) : Nat := (z % 18446744073709551616).toNat
/-- A number without a sign, of so many values, as one that has one. -/
def s64 (n : Nat) : Int := ((n : Int) + 9223372036854775808) % 18446744073709551616 - 9223372036854775808
def s16 (n : Nat) : Int := ((n : Int) + 32768) % 65536 - 32768

theorem uns_lt (z : Int) : uns z < 18446744073709551616 := by unfold uns; omega
theorem uns_cast (z : Int) : (uns z : Int) = z % 18446744073709551616 := by unfold uns; omega
theorem uns_pos {z : Int} (h0 : 0 ≤ z) (h : z ≤ 9223372036854775807) : (uns z : Int) = z := by unfold uns; omega
theorem s64_uns {z : Int} (h : I64 z) : s64 (uns z) = z := by unfold s64 uns I64 at *; omega
theorem s64_I64 (n : Nat) : I64 (s64 n) := by unfold s64 I64; omega
theorem uns_s64 {n : Nat} (h : n < 18446744073709551616) : uns (s64 n) = n := by unfold s64 uns; omega

def bad (d : Ask) : Bool := decide (d.a < 0) || decide (255 < d.a) || decide (d.b < -32768) || decide (32767 < d.b) || decide (d.w < 0) || decide (65535 < d.w)

theorem bad_no {d : Ask} (h : bad d = false) : 0 ≤ d.a ∧ d.a ≤ 255 ∧ -32768 ≤ d.b ∧ d.b ≤ 32767 ∧ 0 ≤ d.w ∧ d.w ≤ 65535 := by
  unfold bad at h
  simp only [Bool.or_eq_false_iff, decide_eq_false_iff_not] at h
  omega

def askB (c s : Nat) (d : Ask) : List UInt8 :=
  be c 4 ++ be s 8 ++ be d.kind.toNat 1 ++ be (uns d.a) 1 ++ be (uns d.b) 2 ++ be (uns d.x) 8 ++ be (uns d.w) 2 ++ be (uns d.u) 8 ++ be d.id 8

theorem askB_len (c s : Nat) (d : Ask) : (askB c s d).length = 42 := by simp [askB, be_length]

def putAsk (c s : Nat) (d : Ask) : List UInt8 × Int := if bad d then ([], 1) else (askB c s d, 0)

/-- The number of so many bytes at a place. -/
def num (bs : List UInt8) (p k : Nat) : Nat := val ((bs.drop p).take k)

theorem num_lt (bs : List UInt8) (p k : Nat) : num bs p k < 256 ^ k := by
  unfold num
  refine Nat.lt_of_lt_of_le (val_lt _) (Nat.pow_le_pow_right (by omega) (by rw [List.length_take]; omega))

def askOf (bs : List UInt8) : Ask :=
  ⟨UInt8.ofNat (num bs 12 1), (num bs 13 1 : Int), s16 (num bs 14 2), s64 (num bs 16 8), (num bs 24 2 : Int), s64 (num bs 26 8), num bs 34 8⟩

def kindOk (k : UInt8) : Bool := decide (1 ≤ k.toNat) && decide (k.toNat ≤ 15)
def zeroAsk : Ask := ⟨0, 0, 0, 0, 0, 0, 0⟩

/-- Client, number, ask, error. -/
def getAsk (bs : List UInt8) : Nat × Nat × Ask × Int :=
  if bs.length = 42 ∧ kindOk (UInt8.ofNat (num bs 12 1)) = true then (num bs 0 4, num bs 4 8, askOf bs, 0) else (0, 0, zeroAsk, 5)

/-! ### Replies -/
structure Reply where
  e : Int
  n : List Int

def numsB (l : List Int) : List UInt8 := l.flatMap fun z => be (uns z) 8
def replyB (c s : Nat) (r : Reply) : List UInt8 := be c 4 ++ be s 8 ++ be (uns r.e) 1 ++ be r.n.length 1 ++ numsB r.n
def badR (r : Reply) : Bool := decide (r.e < 0) || decide (255 < r.e) || decide (29 < r.n.length)
def putReply (c s : Nat) (r : Reply) : List UInt8 × Int := if badR r then ([], 1) else (replyB c s r, 0)

def numsOf (bs : List UInt8) (k : Nat) : List Int := (List.range k).map fun i => s64 (num bs (14 + 8 * i) 8)
def zeroReply : Reply := ⟨0, []⟩
def replyOk (bs : List UInt8) : Bool := decide (14 ≤ bs.length) && decide (num bs 13 1 ≤ 29) && decide (bs.length = 14 + 8 * num bs 13 1)
def getReply (bs : List UInt8) : Nat × Nat × Reply × Int :=
  if replyOk bs then (num bs 0 4, num bs 4 8, ⟨(num bs 12 1 : Int), numsOf bs (num bs 13 1)⟩, 0) else (0, 0, zeroReply, 5)

theorem numsB_len (l : List Int) : (numsB l).length = 8 * l.length := by
  induction l with
  | nil => rfl
  | cons z l ih => simp [numsB, be_length] at ih ⊢; omega
theorem numsB_snoc (l : List Int) (z : Int) : numsB (l ++ [z]) = numsB l ++ be (uns z) 8 := by simp [numsB]
theorem replyB_len (c s : Nat) (r : Reply) : (replyB c s r).length = 14 + 8 * r.n.length := by
  simp only [replyB, List.length_append, be_length, numsB_len]
theorem numsOf_succ (bs : List UInt8) (k : Nat) : numsOf bs (k + 1) = numsOf bs k ++ [s64 (num bs (14 + 8 * k) 8)] := by
  simp [numsOf, List.range_succ]

/-! ### The one takes back the other -/
/-- A number that stands behind so many bytes. -/
theorem num_at (a c : List UInt8) (n k p : Nat) (hp : p = a.length) : num (a ++ be n k ++ c) p k = n % 256 ^ k := by
  subst hp
  unfold num
  rw [List.append_assoc, List.drop_append_of_le_length (Nat.le_refl _), List.drop_length, List.nil_append, List.take_append_of_le_length (by rw [be_length]; exact Nat.le_refl _),
    List.take_of_length_le (by rw [be_length]; exact Nat.le_refl _), val_be]

theorem num_ask (c s : Nat) (d : Ask) :
    num (askB c s d) 0 4 = c % 256 ^ 4 ∧ num (askB c s d) 4 8 = s % 256 ^ 8 ∧ num (askB c s d) 12 1 = d.kind.toNat % 256 ^ 1 ∧ num (askB c s d) 13 1 = uns d.a % 256 ^ 1 ∧ num (askB c s d) 14 2 = uns d.b % 256 ^ 2 ∧
    num (askB c s d) 16 8 = uns d.x % 256 ^ 8 ∧ num (askB c s d) 24 2 = uns d.w % 256 ^ 2 ∧ num (askB c s d) 26 8 = uns d.u % 256 ^ 8 ∧ num (askB c s d) 34 8 = d.id % 256 ^ 8 := by
  refine ⟨?_, ?_, ?_, ?_, ?_, ?_, ?_, ?_, ?_⟩
  · have h := num_at [] (be s 8 ++ be d.kind.toNat 1 ++ be (uns d.a) 1 ++ be (uns d.b) 2 ++ be (uns d.x) 8 ++ be (uns d.w) 2 ++ be (uns d.u) 8 ++ be d.id 8) c 4 0 rfl
    simpa only [askB, List.nil_append, List.append_assoc] using h
  · have h := num_at (be c 4) (be d.kind.toNat 1 ++ be (uns d.a) 1 ++ be (uns d.b) 2 ++ be (uns d.x) 8 ++ be (uns d.w) 2 ++ be (uns d.u) 8 ++ be d.id 8) s 8 4 (by simp [be_length])
    simpa only [askB, List.append_assoc] using h
  · have h := num_at (be c 4 ++ be s 8) (be (uns d.a) 1 ++ be (uns d.b) 2 ++ be (uns d.x) 8 ++ be (uns d.w) 2 ++ be (uns d.u) 8 ++ be d.id 8) d.kind.toNat 1 12 (by simp [be_length])
    simpa only [askB, List.append_assoc] using h
  · have h := num_at (be c 4 ++ be s 8 ++ be d.kind.toNat 1) (be (uns d.b) 2 ++ be (uns d.x) 8 ++ be (uns d.w) 2 ++ be (uns d.u) 8 ++ be d.id 8) (uns d.a) 1 13 (by simp [be_length])
    simpa only [askB, List.append_assoc] using h
  · have h := num_at (be c 4 ++ be s 8 ++ be d.kind.toNat 1 ++ be (uns d.a) 1) (be (uns d.x) 8 ++ be (uns d.w) 2 ++ be (uns d.u) 8 ++ be d.id 8) (uns d.b) 2 14 (by simp [be_length])
    simpa only [askB, List.append_assoc] using h
  · have h := num_at (be c 4 ++ be s 8 ++ be d.kind.toNat 1 ++ be (uns d.a) 1 ++ be (uns d.b) 2) (be (uns d.w) 2 ++ be (uns d.u) 8 ++ be d.id 8) (uns d.x) 8 16 (by simp [be_length])
    simpa only [askB, List.append_assoc] using h
  · have h := num_at (be c 4 ++ be s 8 ++ be d.kind.toNat 1 ++ be (uns d.a) 1 ++ be (uns d.b) 2 ++ be (uns d.x) 8) (be (uns d.u) 8 ++ be d.id 8) (uns d.w) 2 24 (by simp [be_length])
    simpa only [askB, List.append_assoc] using h
  · have h := num_at (be c 4 ++ be s 8 ++ be d.kind.toNat 1 ++ be (uns d.a) 1 ++ be (uns d.b) 2 ++ be (uns d.x) 8 ++ be (uns d.w) 2) (be d.id 8) (uns d.u) 8 26 (by simp [be_length])
    simpa only [askB, List.append_assoc] using h
  · have h := num_at (be c 4 ++ be s 8 ++ be d.kind.toNat 1 ++ be (uns d.a) 1 ++ be (uns d.b) 2 ++ be (uns d.x) 8 ++ be (uns d.w) 2 ++ be (uns d.u) 8) [] d.id 8 34 (by simp [be_length])
    simpa only [askB, List.append_assoc, List.append_nil] using h

theorem u8_ofNat_mod (k : UInt8) : UInt8.ofNat (k.toNat % 256 ^ 1) = k := by
  have := k.toNat_lt
  rw [Nat.mod_eq_of_lt (by omega)]
  simp

theorem byte_back {a : Int} (h0 : 0 ≤ a) (h1 : a ≤ 255) : ((uns a % 256 ^ 1 : Nat) : Int) = a := by unfold uns; omega
theorem two_back {a : Int} (h0 : 0 ≤ a) (h1 : a ≤ 65535) : ((uns a % 256 ^ 2 : Nat) : Int) = a := by unfold uns; omega
theorem s16_back {a : Int} (h0 : -32768 ≤ a) (h1 : a ≤ 32767) : s16 (uns a % 256 ^ 2) = a := by unfold s16 uns; omega

/-- What was put is got. -/
theorem getAsk_askB {c s : Nat} {d : Ask} (hc : c < 4294967296) (hs : s < 18446744073709551616) (hd : d.Ok) (hb : bad d = false) (hk : kindOk d.kind = true) : getAsk (askB c s d) = (c, s, d, 0) := by
  obtain ⟨h1, h2, h3, h4, h5, h6, h7, h8, h9⟩ := num_ask c s d
  obtain ⟨b1, b2, b3, b4, b5, b6⟩ := bad_no hb
  unfold getAsk
  rw [h3, u8_ofNat_mod, if_pos ⟨askB_len c s d, hk⟩, h1, h2]
  have e1 : c % 256 ^ 4 = c := Nat.mod_eq_of_lt (by omega)
  have e2 : s % 256 ^ 8 = s := Nat.mod_eq_of_lt (by omega)
  have e3 : askOf (askB c s d) = d := by
    unfold askOf
    rw [h3, h4, h5, h6, h7, h8, h9, u8_ofNat_mod]
    clear h1 h2 h3 h4 h5 h6 h7 h8 h9 e1 e2 hc hs hb hk
    obtain ⟨k, a, b, x, w, u, i⟩ := d
    obtain ⟨o1, o2, o3, o4, o5, o6⟩ := hd
    simp only at *
    rw [Nat.mod_eq_of_lt (uns_lt x), Nat.mod_eq_of_lt (uns_lt u), s64_uns o3, s64_uns o5, Nat.mod_eq_of_lt (a := i) o6, byte_back b1 b2, s16_back b3 b4, two_back b5 b6]
  rw [e1, e2, e3]

/-- A number that is got, put as it stood. -/
theorem be_num (bs : List UInt8) (p k : Nat) (h : p + k ≤ bs.length) : be (num bs p k) k = (bs.drop p).take k := by
  have hl : ((bs.drop p).take k).length = k := by rw [List.length_take, List.length_drop]; omega
  have := be_val ((bs.drop p).take k)
  rw [hl] at this
  exact this

theorem be_mod_of (m n k : Nat) (h : m % 256 ^ k = n % 256 ^ k) : be m k = be n k := by
  have h1 := be_val (be m k)
  have h2 := be_val (be n k)
  rw [be_length, val_be] at h1 h2
  rw [← h1, ← h2, h]

theorem drop_split (bs : List UInt8) (p k : Nat) : (bs.drop p).take k ++ bs.drop (p + k) = bs.drop p := by
  rw [← List.drop_drop]; exact List.take_append_drop _ _

theorem u8_toNat_ofNat {n : Nat} (h : n < 256) : (UInt8.ofNat n).toNat = n := by
  simp; omega

theorem askB_askOf {bs : List UInt8} (hl : bs.length = 42) : askB (num bs 0 4) (num bs 4 8) (askOf bs) = bs := by
  have n1 := num_lt bs 12 1
  have n2 := num_lt bs 13 1
  have n3 := num_lt bs 14 2
  have n4 := num_lt bs 16 8
  have n5 := num_lt bs 24 2
  have n6 := num_lt bs 26 8
  unfold askB askOf
  simp only
  rw [u8_toNat_ofNat (by omega), uns_s64 (by omega), uns_s64 (by omega)]
  have e2 : uns (num bs 13 1 : Int) = num bs 13 1 := by unfold uns; omega
  have e5 : uns (num bs 24 2 : Int) = num bs 24 2 := by unfold uns; omega
  have e3 : be (uns (s16 (num bs 14 2))) 2 = be (num bs 14 2) 2 := be_mod_of _ _ _ (by unfold uns s16; omega)
  rw [e2, e5, e3]
  rw [be_num _ _ _ (by omega), be_num _ _ _ (by omega), be_num _ _ _ (by omega), be_num _ _ _ (by omega), be_num _ _ _ (by omega), be_num _ _ _ (by omega), be_num _ _ _ (by omega), be_num _ _ _ (by omega), be_num _ _ _ (by omega)]
  have d0 := drop_split bs 0 4
  have d1 := drop_split bs 4 8
  have d2 := drop_split bs 12 1
  have d3 := drop_split bs 13 1
  have d4 := drop_split bs 14 2
  have d5 := drop_split bs 16 8
  have d6 := drop_split bs 24 2
  have d7 := drop_split bs 26 8
  have d8 : (bs.drop 34).take 8 = bs.drop 34 := List.take_of_length_le (by rw [List.length_drop]; omega)
  simp only [Nat.zero_add, Nat.reduceAdd] at d0 d1 d2 d3 d4 d5 d6 d7
  rw [d8, List.append_assoc, d7, List.append_assoc, d6, List.append_assoc, d5, List.append_assoc, d4, List.append_assoc, d3, List.append_assoc, d2, List.append_assoc, d1, d0, List.drop_zero]

theorem askOf_good (bs : List UInt8) : bad (askOf bs) = false := by
  have n2 := num_lt bs 13 1
  have n5 := num_lt bs 24 2
  unfold bad askOf
  simp only [Bool.or_eq_false_iff, decide_eq_false_iff_not]
  unfold s16
  omega

theorem putAsk_getAsk {bs : List UInt8} (h : (getAsk bs).2.2.2 = 0) : putAsk (getAsk bs).1 (getAsk bs).2.1 (getAsk bs).2.2.1 = (bs, 0) := by
  unfold getAsk at h ⊢
  split at h
  · rename_i hc
    rw [if_pos hc]
    unfold putAsk
    rw [askOf_good, if_neg (by decide), askB_askOf hc.1]
  · simp at h

theorem getAsk_bounds (bs : List UInt8) : (getAsk bs).1 < 4294967296 ∧ (getAsk bs).2.1 < 18446744073709551616 ∧ (getAsk bs).2.2.1.Ok := by
  have n0 := num_lt bs 0 4
  have n1 := num_lt bs 4 8
  have n3 := num_lt bs 13 1
  have n5 := num_lt bs 24 2
  have n8 := num_lt bs 34 8
  unfold getAsk
  split
  · refine ⟨n0, n1, ⟨?_, ?_, s64_I64 _, ?_, s64_I64 _, n8⟩⟩
    · simp only [askOf, I64]; omega
    · simp only [askOf, I64, s16]; omega
    · simp only [askOf, I64]; omega
  · refine ⟨by decide, by decide, ⟨?_, ?_, ?_, ?_, ?_, by decide⟩⟩ <;> (simp only [zeroAsk, I64]; omega)

theorem getReply_bounds (bs : List UInt8) : (getReply bs).1 < 4294967296 ∧ (getReply bs).2.1 < 18446744073709551616 := by
  have n0 := num_lt bs 0 4
  have n1 := num_lt bs 4 8
  unfold getReply
  split
  · exact ⟨n0, n1⟩
  · exact ⟨by decide, by decide⟩

theorem getAsk_len {bs : List UInt8} (h : bs.length ≠ 42) : getAsk bs = (0, 0, zeroAsk, 5) := by
  unfold getAsk; rw [if_neg fun hc => h hc.1]

/-! ### The same of replies -/
theorem num_reply (c s : Nat) (r : Reply) : num (replyB c s r) 0 4 = c % 256 ^ 4 ∧ num (replyB c s r) 4 8 = s % 256 ^ 8 ∧ num (replyB c s r) 12 1 = uns r.e % 256 ^ 1 ∧ num (replyB c s r) 13 1 = r.n.length % 256 ^ 1 := by
  refine ⟨?_, ?_, ?_, ?_⟩
  · have h := num_at [] (be s 8 ++ be (uns r.e) 1 ++ be r.n.length 1 ++ numsB r.n) c 4 0 rfl
    simpa only [replyB, List.nil_append, List.append_assoc] using h
  · have h := num_at (be c 4) (be (uns r.e) 1 ++ be r.n.length 1 ++ numsB r.n) s 8 4 (by simp [be_length])
    simpa only [replyB, List.append_assoc] using h
  · have h := num_at (be c 4 ++ be s 8) (be r.n.length 1 ++ numsB r.n) (uns r.e) 1 12 (by simp [be_length])
    simpa only [replyB, List.append_assoc] using h
  · have h := num_at (be c 4 ++ be s 8 ++ be (uns r.e) 1) (numsB r.n) r.n.length 1 13 (by simp [be_length])
    simpa only [replyB, List.append_assoc] using h

theorem num_reply_at (c s : Nat) (r : Reply) {i : Nat} {z : Int} (h : r.n[i]? = some z) : num (replyB c s r) (14 + 8 * i) 8 = uns z := by
  obtain ⟨hi, hz⟩ := List.getElem?_eq_some_iff.1 h
  have hsplit : r.n = r.n.take i ++ [z] ++ r.n.drop (i + 1) := by
    rw [List.append_assoc, ← hz, List.singleton_append, ← List.drop_eq_getElem_cons hi, List.take_append_drop]
  have e : numsB r.n = numsB (r.n.take i) ++ be (uns z) 8 ++ numsB (r.n.drop (i + 1)) := by
    conv => lhs; rw [hsplit]
    simp [numsB]
  have h := num_at (be c 4 ++ be s 8 ++ be (uns r.e) 1 ++ be r.n.length 1 ++ numsB (r.n.take i)) (numsB (r.n.drop (i + 1))) (uns z) 8 (14 + 8 * i) (by simp [be_length, numsB_len]; omega)
  rw [Nat.mod_eq_of_lt (uns_lt z)] at h
  unfold replyB
  rw [e]
  simpa only [List.append_assoc] using h

def Reply.Ok (r : Reply) : Prop := I64 r.e ∧ ∀ z ∈ r.n, I64 z

theorem badR_no {r : Reply} (h : badR r = false) : 0 ≤ r.e ∧ r.e ≤ 255 ∧ r.n.length ≤ 29 := by
  unfold badR at h
  simp only [Bool.or_eq_false_iff, decide_eq_false_iff_not] at h
  omega

theorem getReply_replyB {c s : Nat} {r : Reply} (hc : c < 4294967296) (hs : s < 18446744073709551616) (hr : r.Ok) (hb : badR r = false) : getReply (replyB c s r) = (c, s, r, 0) := by
  obtain ⟨h1, h2, h3, h4⟩ := num_reply c s r
  obtain ⟨b1, b2, b3⟩ := badR_no hb
  have hn : r.n.length % 256 ^ 1 = r.n.length := Nat.mod_eq_of_lt (by omega)
  rw [hn] at h4
  unfold getReply
  have hok : replyOk (replyB c s r) = true := by
    unfold replyOk
    rw [h4, replyB_len]
    simp
    omega
  rw [hok, if_pos rfl, h1, h2, h3, h4]
  have e1 : c % 256 ^ 4 = c := Nat.mod_eq_of_lt (by omega)
  have e2 : s % 256 ^ 8 = s := Nat.mod_eq_of_lt (by omega)
  have e3 : ((uns r.e % 256 ^ 1 : Nat) : Int) = r.e := by have := uns_pos b1 (by omega); omega
  have e4 : numsOf (replyB c s r) r.n.length = r.n := by
    apply List.ext_getElem?
    intro i
    unfold numsOf
    rw [List.getElem?_map]
    by_cases hi : i < r.n.length
    · rw [List.getElem?_range hi, List.getElem?_eq_getElem hi]
      simp only [Option.map_some, Option.some.injEq]
      rw [num_reply_at c s r (List.getElem?_eq_getElem hi)]
      exact s64_uns (hr.2 _ (List.getElem_mem hi))
    · rw [List.getElem?_eq_none (by rw [List.length_range]; omega), List.getElem?_eq_none (by omega)]
      rfl
  rw [e1, e2, e3, e4]

theorem numsB_numsOf (bs : List UInt8) : ∀ k, 14 + 8 * k ≤ bs.length → numsB (numsOf bs k) = (bs.drop 14).take (8 * k)
  | 0, _ => by simp [numsOf, numsB]
  | k + 1, h => by
    rw [numsOf_succ, numsB_snoc, numsB_numsOf bs k (by omega), uns_s64 (num_lt bs _ 8), be_num _ _ _ (by omega), show 8 * (k + 1) = 8 * k + 8 by omega, List.take_add, List.drop_drop]

theorem putReply_getReply {bs : List UInt8} (h : (getReply bs).2.2.2 = 0) : putReply (getReply bs).1 (getReply bs).2.1 (getReply bs).2.2.1 = (bs, 0) := by
  unfold getReply at h ⊢
  split at h
  · rename_i hc
    rw [if_pos hc]
    unfold replyOk at hc
    simp only [Bool.and_eq_true, decide_eq_true_eq] at hc
    obtain ⟨⟨h1, h2⟩, h3⟩ := hc
    have n1 := num_lt bs 12 1
    have hlen : (numsOf bs (num bs 13 1)).length = num bs 13 1 := by simp [numsOf]
    have hg : badR ⟨(num bs 12 1 : Int), numsOf bs (num bs 13 1)⟩ = false := by
      unfold badR
      simp only [Bool.or_eq_false_iff, decide_eq_false_iff_not, hlen]
      omega
    unfold putReply
    simp only [hg, Bool.false_eq_true, if_false]
    unfold replyB
    simp only [hlen]
    have e2 : uns (num bs 12 1 : Int) = num bs 12 1 := by unfold uns; omega
    have d0 := drop_split bs 0 4
    have d1 := drop_split bs 4 8
    have d2 := drop_split bs 12 1
    have d3 := drop_split bs 13 1
    simp only [Nat.zero_add, Nat.reduceAdd] at d0 d1 d2 d3
    rw [e2, numsB_numsOf bs _ (by omega), be_num _ _ _ (by omega), be_num _ _ _ (by omega), be_num _ _ _ (by omega), be_num _ _ _ (by omega),
      List.take_of_length_le (l := bs.drop 14) (by rw [List.length_drop]; omega), List.append_assoc, d3, List.append_assoc, d2, List.append_assoc, d1, d0, List.drop_zero]
  · simp at h

theorem getReply_cut {c s : Nat} {r : Reply} (hb : badR r = false) : getReply ((replyB c s r).take ((replyB c s r).length - 1)) = (0, 0, zeroReply, 5) := by
  obtain ⟨b1, b2, b3⟩ := badR_no hb
  obtain ⟨h1, h2, h3, h4⟩ := num_reply c s r
  have hl := replyB_len c s r
  unfold getReply
  rw [if_neg]
  intro hok
  unfold replyOk at hok
  simp only [Bool.and_eq_true, decide_eq_true_eq, List.length_take, hl] at hok
  obtain ⟨⟨k1, k2⟩, k3⟩ := hok
  have e : num ((replyB c s r).take (14 + 8 * r.n.length - 1)) 13 1 = num (replyB c s r) 13 1 := by
    unfold num
    rw [List.drop_take, List.take_take, Nat.min_eq_left (by omega)]
  rw [e, h4] at k3
  omega

end Fra

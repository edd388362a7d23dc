/-
  The plain law of layer 1: numbers and byte strings as bytes that keep their order. No program is in sight here.
-/
namespace Oct

theorem snoc_ind {α : Type} {p : List α → Prop} (h0 : p []) (h1 : ∀ l c, p l → p (l ++ [c])) (l : List α) : p l := by
  have : ∀ m : List α, p m.reverse := by
    intro m
    induction m with
    | nil => exact h0
    | cons c m ih => rw [List.reverse_cons]; exact h1 _ _ ih
  simpa using this l.reverse

/-- The lowest k bytes of a number, the highest of these first. -/
def be (n : Nat) : Nat → List UInt8
  | 0 => []
  | k + 1 => be (n / 256) k ++ [UInt8.ofNat (n % 256)]

theorem be_length (n k : Nat) : (be n k).length = k := by
  induction k generalizing n with
  | zero => rfl
  | succ k ih => simp [be, ih]

/-- From the front: byte i of k. -/
theorem be_get (n k i : Nat) (hi : i < k) : (be n k)[i]? = some (UInt8.ofNat (n / 256 ^ (k - 1 - i) % 256)) := by
  induction k generalizing n with
  | zero => omega
  | succ k ih =>
    simp only [be]
    by_cases h : i < k
    · rw [List.getElem?_append_left (by rw [be_length]; exact h), ih _ h]
      congr 3
      rw [Nat.div_div_eq_div_mul, show k + 1 - 1 - i = (k - 1 - i) + 1 by omega, Nat.pow_succ, Nat.mul_comm]
    · have : i = k := by omega
      subst this
      rw [List.getElem?_append_right (by rw [be_length]; omega), be_length]
      simp

/-- The number that bytes are, the highest first. -/
def val (l : List UInt8) : Nat := l.foldl (fun n c => n * 256 + c.toNat) 0

theorem val_snoc (l : List UInt8) (c : UInt8) : val (l ++ [c]) = val l * 256 + c.toNat := by simp [val]

theorem val_lt (l : List UInt8) : val l < 256 ^ l.length := by
  refine snoc_ind (p := fun l => val l < 256 ^ l.length) ?_ ?_ l
  · simp [val]
  · intro l c ih
    rw [val_snoc, List.length_append, List.length_singleton, Nat.pow_succ]
    have := c.toNat_lt
    omega

theorem val_be (n k : Nat) : val (be n k) = n % 256 ^ k := by
  induction k generalizing n with
  | zero => simp [be, val, Nat.mod_one]
  | succ k ih =>
    simp only [be]
    rw [val_snoc, ih]
    have e : (UInt8.ofNat (n % 256)).toNat = n % 256 := by simp
    rw [e, Nat.pow_succ, Nat.mul_comm (256 ^ k) 256, Nat.mod_mul]
    omega

theorem be_val (l : List UInt8) : be (val l) l.length = l := by
  refine snoc_ind (p := fun l => be (val l) l.length = l) ?_ ?_ l
  · rfl
  · intro l c ih
    rw [val_snoc, List.length_append, List.length_singleton]
    have hc := c.toNat_lt
    simp only [be]
    rw [show (val l * 256 + c.toNat) / 256 = val l by omega, ih, show (val l * 256 + c.toNat) % 256 = c.toNat by omega]
    simp

/-- The order of two byte strings: -1, 0, 1. -/
def order : List UInt8 → List UInt8 → Int
  | [], [] => 0
  | [], _ :: _ => -1
  | _ :: _, [] => 1
  | a :: x, b :: y => if a < b then -1 else if b < a then 1 else order x y

theorem order_self (x : List UInt8) : order x x = 0 := by
  induction x with
  | nil => rfl
  | cons a x ih => simp [order, ih]

theorem order_swap : ∀ (x y : List UInt8), order y x = - order x y
  | [], [] => rfl
  | [], _ :: _ => rfl
  | _ :: _, [] => rfl
  | a :: x, b :: y => by
    have ih := order_swap x y
    simp only [order]
    by_cases h1 : a < b
    · have h2 : ¬ b < a := fun h => absurd (UInt8.lt_trans h1 h) (UInt8.lt_irrefl _)
      simp [h1, h2]
    · by_cases h2 : b < a
      · simp [h1, h2]
      · simp [h1, h2, ih]

theorem order_range (x y : List UInt8) : order x y = -1 ∨ order x y = 0 ∨ order x y = 1 := by
  induction x generalizing y with
  | nil => cases y <;> simp [order]
  | cons a x ih =>
    cases y with
    | nil => simp [order]
    | cons b y =>
      simp only [order]
      by_cases h1 : a < b
      · simp [h1]
      · by_cases h2 : b < a
        · simp [h1, h2]
        · simp [h1, h2, ih]

theorem u8_eq {a b : UInt8} (h1 : ¬ a < b) (h2 : ¬ b < a) : a = b := UInt8.le_antisymm (UInt8.not_lt.1 h2) (UInt8.not_lt.1 h1)

theorem order_eq {x y : List UInt8} (h : order x y = 0) : x = y := by
  induction x generalizing y with
  | nil => cases y with
    | nil => rfl
    | cons b y => simp [order] at h
  | cons a x ih =>
    cases y with
    | nil => simp [order] at h
    | cons b y =>
      simp only [order] at h
      by_cases h1 : a < b
      · simp [h1] at h
      · by_cases h2 : b < a
        · simp [h1, h2] at h
        · simp only [h1, h2, if_false] at h
          rw [u8_eq h1 h2, ih h]

theorem order_zero (x y : List UInt8) : order x y = 0 ↔ x = y := ⟨order_eq, fun h => by subst h; exact order_self x⟩

theorem order_append (h x y : List UInt8) : order (h ++ x) (h ++ y) = order x y := by
  induction h with
  | nil => rfl
  | cons a h ih => simp [order, ih]

/-- Order goes on. -/
theorem order_trans : ∀ (x y z : List UInt8), order x y ≤ 0 → order y z ≤ 0 → order x z ≤ 0
  | [], _, [], _, _ => by simp [order]
  | [], _, _ :: _, _, _ => by simp [order]
  | _ :: _, [], _, h, _ => by simp [order] at h
  | _ :: _, _ :: _, [], _, h => by simp [order] at h
  | a :: x, b :: y, c :: z, h1, h2 => by
    simp only [order] at h1 h2 ⊢
    by_cases ac : a < c
    · simp [ac]
    · by_cases ab : a < b
      · have cb : c < b := UInt8.lt_of_le_of_lt (UInt8.not_lt.1 ac) ab
        have bc : ¬ b < c := fun h => absurd (UInt8.lt_trans cb h) (UInt8.lt_irrefl _)
        simp [bc, cb] at h2
      · by_cases ba : b < a
        · simp [ab, ba] at h1
        · have e := u8_eq ab ba
          subst e
          by_cases ca : c < a
          · simp [ac, ca] at h2
          · simp only [ac, ca, if_false] at h2 ⊢
            simp only [ab, if_false] at h1
            exact order_trans x y z h1 h2

/-- The byte string next behind one. -/
def after (b : List UInt8) : List UInt8 := b ++ [0]

theorem order_after (a : List UInt8) : order a (after a) = -1 := by
  unfold after
  induction a with
  | nil => rfl
  | cons c a ih => simp [order, ih]

/-- No byte string is between. -/
theorem after_least : ∀ (a b : List UInt8), order a b < 0 → order (after a) b ≤ 0
  | [], [], h => by simp [order] at h
  | [], c :: b, _ => by
    simp only [after, List.nil_append, order]
    by_cases h1 : (0 : UInt8) < c
    · simp [h1]
    · have h2 : ¬ c < 0 := fun h => by simp at h
      simp only [h1, h2, if_false]
      cases b <;> simp [order]
  | _ :: _, [], h => by simp [order] at h
  | a :: x, b :: y, h => by
    simp only [after, List.cons_append, order] at h ⊢
    by_cases h1 : a < b
    · simp [h1]
    · by_cases h2 : b < a
      · simp [h1, h2] at h
      · simp only [h1, h2, if_false] at h ⊢
        exact after_least x y h

/-- Numbers of one size have the order of their bytes. -/
theorem order_be (k m n : Nat) (hm : m < 256 ^ k) (hn : n < 256 ^ k) : order (be m k) (be n k) = if m < n then -1 else if n < m then 1 else 0 := by
  have key : ∀ (x y : List UInt8), x.length = y.length → order x y = if val x < val y then -1 else if val y < val x then 1 else 0 := by
    intro x
    refine snoc_ind (p := fun x => ∀ y : List UInt8, x.length = y.length → order x y = if val x < val y then -1 else if val y < val x then 1 else 0) ?_ ?_ x
    · intro y h; cases y with
      | nil => simp [order]
      | cons b y => simp at h
    · intro x a ih y h
      rcases List.eq_nil_or_concat y with rfl | ⟨y, b, rfl⟩
      · simp at h
      · have hl : x.length = y.length := by simpa using h
        have ih' := ih y hl
        have ha := a.toNat_lt
        have hb := b.toNat_lt
        have hs : ∀ (x y : List UInt8) (a b : UInt8), x.length = y.length → order (x ++ [a]) (y ++ [b]) = if order x y = 0 then order [a] [b] else order x y := by
          intro x
          induction x with
          | nil => intro y a b h; cases y with
            | nil => simp [order]
            | cons => simp at h
          | cons c x ih2 => intro y a b h; cases y with
            | nil => simp at h
            | cons d y =>
              simp only [List.cons_append, order]
              by_cases h1 : c < d
              · simp [h1]
              · by_cases h2 : d < c
                · simp [h1, h2]
                · simp only [h1, h2, if_false]
                  exact ih2 y a b (by simpa using h)
        rw [List.concat_eq_append, hs x y a b hl, val_snoc, val_snoc, ih']
        have hab : order [a] [b] = if a.toNat < b.toNat then -1 else if b.toNat < a.toNat then 1 else 0 := by
          simp [order, UInt8.lt_iff_toNat_lt]
        rw [hab]
        by_cases h1 : val x < val y
        · rw [if_pos h1, if_neg (by decide), if_pos (by omega)]
        · by_cases h2 : val y < val x
          · rw [if_neg h1, if_pos h2, if_neg (by decide), if_neg (by omega), if_pos (by omega)]
          · rw [if_neg h1, if_neg h2, if_pos rfl]
            by_cases h3 : a.toNat < b.toNat
            · rw [if_pos h3, if_pos (by omega)]
            · by_cases h4 : b.toNat < a.toNat
              · rw [if_neg h3, if_pos h4, if_neg (by omega), if_pos (by omega)]
              · rw [if_neg h3, if_neg h4, if_neg (by omega), if_neg (by omega)]
  rw [key _ _ (by rw [be_length, be_length]), val_be, val_be, Nat.mod_eq_of_lt hm, Nat.mod_eq_of_lt hn]

/-! ### What the functions of the layer answer -/

def size (k : Int) : Bool := k == 1 || k == 2 || k == 4 || k == 8

theorem size_cases {k : Int} (h : size k = true) : k = 1 ∨ k = 2 ∨ k = 4 ∨ k = 8 := by
  simpa [size, or_assoc] using h

def put (b : List UInt8) (n : Nat) (k : Int) : List UInt8 := if size k then b ++ be n k.toNat else b

/-- The number, the place behind it, the error. -/
def take (b : List UInt8) (at_ k : Int) : Nat × Int × Int :=
  if size k = false ∨ at_ < 0 ∨ (b.length : Int) < at_ then (0, 0, 1)
  else if (b.length : Int) - at_ < k then (0, 0, 5)
  else (val ((b.drop at_.toNat).take k.toNat), at_ + k, 0)

def putBytes (b s : List UInt8) : List UInt8 × Int := if 65535 < s.length then ([], 6) else (b ++ be s.length 2 ++ s, 0)

def takeBytes (b : List UInt8) (at_ : Int) : List UInt8 × Int × Int :=
  match take b at_ 2 with
  | (n, next, e) => if e ≠ 0 then ([], 0, e) else if (b.length : Int) < next + n then ([], 0, 5) else ((b.drop next.toNat).take n, next + n, 0)

end Oct

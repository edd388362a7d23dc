/-
  Layer 23 (rows), plain: the rows of a state that fits are that state again. No program in sight.
-/
import Derived.Test.YtniekddoaokmkaaRiPlain
import Derived.Test.YtniekddoaokmkaaRdKindP
namespace Rws

/-! ### Numbers are taken as they were put -/
structure Left (r : Rd) (rest : List UInt8) : Prop where
  sh : r.sh = false
  is : r.b.drop r.at_ = rest
theorem left_mk (b : List UInt8) : Left ⟨b, 0, false⟩ b := ⟨rfl, rfl⟩
theorem take_be {r : Rd} {x k : Nat} {rest : List UInt8} (h : Left r (Oct.be x k ++ rest)) (hk : 0 < k) (hx : x < 256 ^ k) : (r.take k).1 = x ∧ Left (r.take k).2 rest := by
  have hlen : (r.b.drop r.at_).length = k + rest.length := by rw [h.is, List.length_append, Oct.be_length]
  rw [List.length_drop] at hlen
  have hc : ¬ ((r.sh || decide (r.b.length < r.at_ + k)) = true) := by
    rw [h.sh]
    simp
    omega
  unfold Rd.take
  rw [if_neg hc]
  refine ⟨?_, rfl, ?_⟩
  · show Oct.val ((r.b.drop r.at_).take k) = x
    rw [h.is, List.take_left' (Oct.be_length x k), Oct.val_be, Nat.mod_eq_of_lt hx]
  · show r.b.drop (r.at_ + k) = rest
    rw [← List.drop_drop, h.is, List.drop_left' (Oct.be_length x k)]
theorem take_num {r : Rd} {x : Int} {k : Nat} {l : List (Int × Nat)} {rest : List UInt8} (h : Left r (nums ((x, k) :: l) ++ rest)) (hk : 0 < k) (hx : u64 x < 256 ^ k) : (r.take k).1 = u64 x ∧ Left (r.take k).2 (nums l ++ rest) :=
  take_be (rest := nums l ++ rest) (by rw [nums_cons, List.append_assoc] at h; exact h) hk hx
theorem take_num' {r : Rd} {x : Int} {k : Nat} {l : List (Int × Nat)} (h : Left r (nums ((x, k) :: l))) (hk : 0 < k) (hx : u64 x < 256 ^ k) : (r.take k).1 = u64 x ∧ Left (r.take k).2 (nums l) := by
  have := take_num (rest := []) (by rw [List.append_nil]; exact h) hk hx
  rw [List.append_nil] at this
  exact this
theorem u64_8 (x : Int) : u64 x < 256 ^ 8 := u64_lt x
theorem u64_nn {x : Int} {n : Nat} (h0 : 0 ≤ x) (h : x < (n : Int)) (hn : n ≤ 18446744073709551616) : u64 x < n := by
  have h1 : ((u64 x : Nat) : Int) = x := u64_pos h0 (by omega)
  omega
theorem u64_1 {x : Int} (h0 : 0 ≤ x) (h : x ≤ 255) : u64 x < 256 ^ 1 := u64_nn h0 (by omega) (by decide)
theorem u64_2 {x : Int} (h0 : 0 ≤ x) (h : x ≤ 65535) : u64 x < 256 ^ 2 := u64_nn h0 (by omega) (by decide)
theorem u64_4 {x : Int} (h0 : 0 ≤ x) (h : x < 4294967296) : u64 x < 256 ^ 4 := u64_nn h0 (by omega) (by decide)

theorem row0 (s : St) (kb v : List UInt8) : readRow s (0 :: kb, v) = readHead s ⟨v, 0, false⟩ := rfl
theorem row1 (s : St) (kb v : List UInt8) : readRow s (1 :: kb, v) = readAcct s ⟨v, 0, false⟩ := rfl
theorem row2 (s : St) (kb v : List UInt8) : readRow s (2 :: kb, v) = readDue s ⟨kb, 0, false⟩ ⟨v, 0, false⟩ := rfl
theorem row3 (s : St) (kb v : List UInt8) : readRow s (3 :: kb, v) = readRound s ⟨kb, 0, false⟩ ⟨v, 0, false⟩ := rfl
theorem row4 (s : St) (kb v : List UInt8) : readRow s (4 :: kb, v) = readItem s 4 ⟨kb, 0, false⟩ ⟨v, 0, false⟩ := rfl
theorem row5 (s : St) (kb v : List UInt8) : readRow s (5 :: kb, v) = readItem s 5 ⟨kb, 0, false⟩ ⟨v, 0, false⟩ := rfl
theorem row6 (s : St) (kb v : List UInt8) : readRow s (6 :: kb, v) = readItem s 6 ⟨kb, 0, false⟩ ⟨v, 0, false⟩ := rfl
theorem row7 (s : St) (kb v : List UInt8) : readRow s (7 :: kb, v) = readItem s 7 ⟨kb, 0, false⟩ ⟨v, 0, false⟩ := rfl
theorem row8 (s : St) (kb v : List UInt8) : readRow s (8 :: kb, v) = readAsked s ⟨v, 0, false⟩ := rfl

/-! ### What numbers a state has -/
structure Rng (s : St) : Prop where
  day : -9223372036854775808 ≤ s.day ∧ s.day ≤ 9223372036854775807
  next : 0 ≤ s.next ∧ s.next < 18446744073709551616
  no : 0 ≤ s.no ∧ s.no < 18446744073709551616
  accts : ∀ x ∈ s.accts, (-9223372036854775808 ≤ x.bal ∧ x.bal ≤ 9223372036854775807) ∧ (-9223372036854775808 ≤ x.res ∧ x.res ≤ 9223372036854775807)
  dues : ∀ x ∈ s.dues, (0 ≤ x.id ∧ x.id < 18446744073709551616) ∧ (-9223372036854775808 ≤ x.amt ∧ x.amt ≤ 9223372036854775807) ∧ (-9223372036854775808 ≤ x.til ∧ x.til ≤ 9223372036854775807)
  rounds : ∀ x ∈ s.rounds, (0 ≤ x.no ∧ x.no < 18446744073709551616) ∧ (-9223372036854775808 ≤ x.day ∧ x.day ≤ 9223372036854775807)
  ids : ∀ x ∈ s.rounds, ∀ z ∈ x.ids, 0 ≤ z ∧ z < 18446744073709551616
  edges : ∀ x ∈ s.rounds, ∀ z ∈ x.edges, (-9223372036854775808 ≤ z.cap ∧ z.cap ≤ 9223372036854775807) ∧ (-9223372036854775808 ≤ z.cost ∧ z.cost ≤ 9223372036854775807)
  flow : ∀ x ∈ s.rounds, ∀ z ∈ x.flow, -9223372036854775808 ≤ z ∧ z ≤ 9223372036854775807
  pot : ∀ x ∈ s.rounds, ∀ z ∈ x.pot, -9223372036854775808 ≤ z ∧ z ≤ 9223372036854775807
  asked : ∀ x ∈ s.asked, (0 ≤ x.client ∧ x.client < 4294967296) ∧ (0 ≤ x.seq ∧ x.seq < 18446744073709551616)
theorem Rng.nums {s : St} (h : Rng s) : Nums s := ⟨fun d hd => (h.dues d hd).1, fun r hr => (h.rounds r hr).1⟩

/-! ### Each row, read -/
theorem read_head {s0 : St} (h : Rng s0) (s : St) : readRow s (headRow s0) = some { s with day := s0.day, next := s0.next, no := s0.no } := by
  unfold headRow key
  rw [row0]
  unfold readHead
  obtain ⟨a1, a2⟩ := take_num' (left_mk (nums [(s0.day, 8), (s0.next, 8), (s0.no, 8), ((s0.asked.length : Int), 2)])) (by omega) (u64_8 _)
  obtain ⟨b1, b2⟩ := take_num' a2 (by omega) (u64_8 _)
  obtain ⟨c1, c2⟩ := take_num' b2 (by omega) (u64_8 _)
  simp only
  rw [a1, b1, c1, c2.sh, if_neg (by simp), s64_u64 h.day.1 h.day.2, u64_pos h.next.1 h.next.2, u64_pos h.no.1 h.no.2]
theorem read_acct {x : Acct} (h1 : -9223372036854775808 ≤ x.bal ∧ x.bal ≤ 9223372036854775807) (h2 : -9223372036854775808 ≤ x.res ∧ x.res ≤ 9223372036854775807) (i : Nat) (s : St) : readRow s (acctRow i x) = some { s with accts := s.accts ++ [x] } := by
  unfold acctRow key
  rw [row1]
  unfold readAcct
  obtain ⟨a1, a2⟩ := take_num' (left_mk (nums [(x.bal, 8), (x.res, 8)])) (by omega) (u64_8 _)
  obtain ⟨b1, b2⟩ := take_num' a2 (by omega) (u64_8 _)
  simp only
  rw [a1, b1, b2.sh, if_neg (by simp), s64_u64 h1.1 h1.2, s64_u64 h2.1 h2.2]
theorem within_iff {x m : Int} : within x m = true ↔ 0 ≤ x ∧ x ≤ m := by simp [within]
theorem flag_lt (b : Bool) : u64 (flagN b) < 256 ^ 1 := by cases b <;> decide
theorem flag_back (b : Bool) : decide (u64 (flagN b) = 1) = b := by cases b <;> decide
theorem read_due {x : Due} (h0 : 0 ≤ x.id ∧ x.id < 18446744073709551616) (h1 : -9223372036854775808 ≤ x.amt ∧ x.amt ≤ 9223372036854775807) (h2 : -9223372036854775808 ≤ x.til ∧ x.til ≤ 9223372036854775807) (hf : dueFits x = true) (s : St) :
    readRow s (dueRow x) = some { s with dues := s.dues ++ [x] } := by
  unfold dueFits at hf
  simp only [Bool.and_eq_true, within_iff] at hf
  obtain ⟨⟨f1, f2⟩, f3⟩ := hf
  unfold dueRow key
  rw [row2]
  unfold readDue
  obtain ⟨k1, k2⟩ := take_num' (left_mk (nums [(x.id, 8)])) (by omega) (u64_8 _)
  obtain ⟨a1, a2⟩ := take_num' (left_mk (nums [(x.frm, 1), (x.to, 1), (x.amt, 8), (x.wt, 2), (x.til, 8), (flagN x.held, 1)])) (by omega) (u64_1 f1.1 f1.2)
  obtain ⟨b1, b2⟩ := take_num' a2 (by omega) (u64_1 f2.1 f2.2)
  obtain ⟨c1, c2⟩ := take_num' b2 (by omega) (u64_8 _)
  obtain ⟨d1, d2⟩ := take_num' c2 (by omega) (u64_2 f3.1 f3.2)
  obtain ⟨e1, e2⟩ := take_num' d2 (by omega) (u64_8 _)
  obtain ⟨g1, g2⟩ := take_num' e2 (by omega) (flag_lt _)
  simp only
  rw [k1, a1, b1, c1, d1, e1, g1, k2.sh, g2.sh, if_neg (by simp), flag_back, u64_pos h0.1 h0.2, u64_pos f1.1 (by omega), u64_pos f2.1 (by omega), u64_pos f3.1 (by omega), s64_u64 h1.1 h1.2, s64_u64 h2.1 h2.2]

/-- A round as it is behind the kinds up to one. -/
def up (k : Nat) (x : Round) : Round := { x with ids := if 4 ≤ k then x.ids else [], edges := if 5 ≤ k then x.edges else [], flow := if 6 ≤ k then x.flow else [], pot := if 7 ≤ k then x.pot else [] }
theorem up_no (k : Nat) (x : Round) : (up k x).no = x.no := rfl
theorem up_7 (x : Round) : up 7 x = x := rfl
theorem read_round {x : Round} (h0 : 0 ≤ x.no ∧ x.no < 18446744073709551616) (h1 : -9223372036854775808 ≤ x.day ∧ x.day ≤ 9223372036854775807) (hn : 0 ≤ x.n ∧ x.n ≤ 255) (s : St) :
    readRow s (roundRow x) = some { s with rounds := s.rounds ++ [up 3 x] } := by
  unfold roundRow key
  rw [row3]
  unfold readRound
  obtain ⟨k1, k2⟩ := take_num' (left_mk (nums [(x.no, 8)])) (by omega) (u64_8 _)
  obtain ⟨a1, a2⟩ := take_num' (left_mk (nums [(x.day, 8), (flagN x.comp, 1), (x.n, 1), ((x.edges.length : Int), 2), ((x.ids.length : Int), 2), ((x.flow.length : Int), 2), ((x.pot.length : Int), 2)])) (by omega) (u64_8 _)
  obtain ⟨b1, b2⟩ := take_num' a2 (by omega) (flag_lt _)
  obtain ⟨c1, c2⟩ := take_num' b2 (by omega) (u64_1 hn.1 hn.2)
  simp only
  rw [k1, a1, b1, c1, k2.sh, c2.sh, if_neg (by simp), flag_back, u64_pos h0.1 h0.2, u64_pos hn.1 (by omega), s64_u64 h1.1 h1.2]
  rfl
theorem read_asked {x : Asked} (h1 : 0 ≤ x.client ∧ x.client < 4294967296) (h2 : 0 ≤ x.seq ∧ x.seq < 18446744073709551616) (hl : x.ask.length ≤ 65535) (i : Nat) (s : St) : readRow s (askedRow i x) = some { s with asked := s.asked ++ [x] } := by
  unfold askedRow key
  rw [row8, List.append_assoc]
  unfold readAsked
  obtain ⟨b, hb⟩ : ∃ b, nums [(x.client, 4), (x.seq, 8), ((x.ask.length : Int), 2)] ++ (x.ask ++ x.reply) = b := ⟨_, rfl⟩
  rw [hb]
  have hL2 : Left ⟨b, 0, false⟩ (nums [(x.client, 4), (x.seq, 8), ((x.ask.length : Int), 2)] ++ (x.ask ++ x.reply)) := by rw [hb]; exact left_mk b
  obtain ⟨a1, a2⟩ := take_num hL2 (by omega) (u64_4 h1.1 h1.2)
  obtain ⟨b1, b2⟩ := take_num a2 (by omega) (u64_8 _)
  obtain ⟨c1, c2⟩ := take_num b2 (by omega) (u64_2 (by omega) (by omega))
  rw [nums_nil, List.nil_append] at c2
  simp only
  have hat : ((((⟨b, 0, false⟩ : Rd).take 4).2.take 8).2.take 2).2.at_ ≤ ((((⟨b, 0, false⟩ : Rd).take 4).2.take 8).2.take 2).2.b.length :=
    Rd.take_at _ _ (Rd.take_at _ _ (Rd.take_at _ _ (Nat.zero_le _)))
  obtain ⟨r, hr⟩ : ∃ r, ((((⟨b, 0, false⟩ : Rd).take 4).2.take 8).2.take 2).2 = r := ⟨_, rfl⟩
  rw [hr] at c2 hat
  have hlen := congrArg List.length c2.is
  rw [List.length_drop, List.length_append] at hlen
  rw [a1, b1, c1, hr, u64_nat (n := x.ask.length) (by omega), u64_pos h1.1 (by omega), u64_pos h2.1 h2.2]
  rw [if_neg (by rw [c2.sh]; simp; omega), ← List.drop_drop, c2.is, List.take_left, List.drop_left]

theorem readAll_mapI {α : Type} (f : Nat → α → Pair) (G : List α → St) : ∀ (l : List α), (∀ i acc x, l[i]? = some x → acc.length = i → readRow (G acc) (f i x) = some (G (acc ++ [x]))) → readAll (G []) (mapI f l) = some (G l) := by
  refine Oct.snoc_ind (fun _ => rfl) fun l c ih h => ?_
  rw [mapI_snoc, readAll_append, ih (fun i acc x hi ha => h i acc x (by
    have := (List.getElem?_eq_some_iff.1 hi).1
    rw [List.getElem?_append_left this]; exact hi) ha)]
  show ((readRow (G l) (f l.length c)).bind fun s'' => readAll s'' []) = _
  rw [h l.length l c (by simp) rfl]
  rfl
theorem map_mapI {α β : Type} (f : α → β) (l : List α) : l.map f = mapI (fun _ => f) l := by
  refine List.ext_getElem? fun i => ?_
  rw [mapI_get, List.getElem?_map]

/-! ### The items of rounds -/
theorem place_at {no : Int} {y : Round} (hy : y.no = no) : ∀ (A B : List Round), (∀ a ∈ A, a.no ≠ no) → placeOf no (A ++ y :: B) = some A.length
  | [], B, _ => by simp [placeOf, hy]
  | a :: A, B, h => by
    have ha : a.no ≠ no := h a (by simp)
    rw [List.cons_append, placeOf, if_neg ha, place_at hy A B (fun z hz => h z (by simp [hz]))]
    rfl
theorem item_key (no : Int) (i : Nat) : ((⟨nums [(no, 8), ((i : Int), 2)], 0, false⟩ : Rd).take 8).1 = u64 no ∧ ((⟨nums [(no, 8), ((i : Int), 2)], 0, false⟩ : Rd).take 8).2.sh = false := by
  obtain ⟨k1, k2⟩ := take_num' (left_mk (nums [(no, 8), ((i : Int), 2)])) (by omega) (u64_8 _)
  exact ⟨k1, k2.sh⟩
theorem set_at (A B : List Round) (y z : Round) : (A ++ y :: B).set A.length z = A ++ z :: B := by
  simp
theorem get_at (A B : List Round) (y : Round) : (A ++ y :: B)[A.length]? = some y := by simp
section
variable {s : St} {A B : List Round} {y : Round} (h0 : 0 ≤ y.no ∧ y.no < 18446744073709551616) (hA : ∀ a ∈ A, a.no ≠ y.no) (hs : s.rounds = A ++ y :: B) (i : Nat)
include h0 hA hs
theorem read_id {z : Int} (hz : 0 ≤ z ∧ z < 18446744073709551616) : readRow s (numRow 4 y.no i z) = some { s with rounds := A ++ { y with ids := y.ids ++ [z] } :: B } := by
  unfold numRow itemKey key
  rw [row4]
  obtain ⟨k1, k2⟩ := item_key y.no i
  obtain ⟨a1, a2⟩ := take_num' (left_mk (nums [(z, 8)])) (by omega) (u64_8 _)
  rw [readItem4, k1, k2, a1, a2.sh, if_neg (by simp), u64_pos h0.1 h0.2, hs, place_at rfl A B hA, Option.bind_some, get_at, Option.map_some, set_at, u64_pos hz.1 hz.2]
theorem read_flow {z : Int} (hz : -9223372036854775808 ≤ z ∧ z ≤ 9223372036854775807) : readRow s (numRow 6 y.no i z) = some { s with rounds := A ++ { y with flow := y.flow ++ [z] } :: B } := by
  unfold numRow itemKey key
  rw [row6]
  obtain ⟨k1, k2⟩ := item_key y.no i
  obtain ⟨a1, a2⟩ := take_num' (left_mk (nums [(z, 8)])) (by omega) (u64_8 _)
  rw [readItem6, k1, k2, a1, a2.sh, if_neg (by simp), u64_pos h0.1 h0.2, hs, place_at rfl A B hA, Option.bind_some, get_at, Option.map_some, set_at, s64_u64 hz.1 hz.2]
theorem read_pot {z : Int} (hz : -9223372036854775808 ≤ z ∧ z ≤ 9223372036854775807) : readRow s (numRow 7 y.no i z) = some { s with rounds := A ++ { y with pot := y.pot ++ [z] } :: B } := by
  unfold numRow itemKey key
  rw [row7]
  obtain ⟨k1, k2⟩ := item_key y.no i
  obtain ⟨a1, a2⟩ := take_num' (left_mk (nums [(z, 8)])) (by omega) (u64_8 _)
  rw [readItem7, k1, k2, a1, a2.sh, if_neg (by simp), u64_pos h0.1 h0.2, hs, place_at rfl A B hA, Option.bind_some, get_at, Option.map_some, set_at, s64_u64 hz.1 hz.2]
theorem read_edge {z : Edge} (h1 : -9223372036854775808 ≤ z.cap ∧ z.cap ≤ 9223372036854775807) (h2 : -9223372036854775808 ≤ z.cost ∧ z.cost ≤ 9223372036854775807) (hf : edgeFits z = true) :
    readRow s (edgeRow y.no i z) = some { s with rounds := A ++ { y with edges := y.edges ++ [z] } :: B } := by
  unfold edgeFits at hf
  simp only [Bool.and_eq_true, within_iff] at hf
  obtain ⟨f1, f2⟩ := hf
  unfold edgeRow itemKey key
  rw [row5]
  obtain ⟨k1, k2⟩ := item_key y.no i
  obtain ⟨a1, a2⟩ := take_num' (left_mk (nums [(z.frm, 1), (z.to, 1), (z.cap, 8), (z.cost, 8)])) (by omega) (u64_1 f1.1 f1.2)
  obtain ⟨b1, b2⟩ := take_num' a2 (by omega) (u64_1 f2.1 f2.2)
  obtain ⟨c1, c2⟩ := take_num' b2 (by omega) (u64_8 _)
  obtain ⟨d1, d2⟩ := take_num' c2 (by omega) (u64_8 _)
  rw [readItem5, k1, k2, a1, b1, c1, d1, d2.sh, if_neg (by simp), u64_pos h0.1 h0.2, hs, place_at rfl A B hA, Option.bind_some, get_at, Option.map_some, set_at, u64_pos f1.1 (by omega), u64_pos f2.1 (by omega), s64_u64 h1.1 h1.2, s64_u64 h2.1 h2.2]
end

/-- What of a round is to be of numbers. -/
structure RRng (x : Round) : Prop where
  no : 0 ≤ x.no ∧ x.no < 18446744073709551616
  ids : ∀ z ∈ x.ids, 0 ≤ z ∧ z < 18446744073709551616
  edges : ∀ z ∈ x.edges, (-9223372036854775808 ≤ z.cap ∧ z.cap ≤ 9223372036854775807) ∧ (-9223372036854775808 ≤ z.cost ∧ z.cost ≤ 9223372036854775807)
  flow : ∀ z ∈ x.flow, -9223372036854775808 ≤ z ∧ z ≤ 9223372036854775807
  pot : ∀ z ∈ x.pot, -9223372036854775808 ≤ z ∧ z ≤ 9223372036854775807
  fits : ∀ z ∈ x.edges, edgeFits z = true

theorem read_items {k : Nat} (hk : 4 ≤ k ∧ k ≤ 7) {x : Round} (hx : RRng x) {s : St} {A B : List Round} (hA : ∀ a ∈ A, a.no ≠ x.no) (hs : s.rounds = A ++ up (k - 1) x :: B) :
    readAll s (items k x) = some { s with rounds := A ++ up k x :: B } := by
  obtain rfl | rfl | rfl | rfl : k = 4 ∨ k = 5 ∨ k = 6 ∨ k = 7 := by omega
  · have h := readAll_mapI (numRow 4 x.no) (fun acc => { s with rounds := A ++ { up 3 x with ids := acc } :: B }) x.ids (fun i acc z hi _ =>
      read_id (s := { s with rounds := A ++ { up 3 x with ids := acc } :: B }) (y := { up 3 x with ids := acc }) hx.no hA rfl i (hx.ids z (List.mem_of_getElem? hi)))
    have e : ({ s with rounds := A ++ { up 3 x with ids := [] } :: B } : St) = s := by
      cases s; simp only at hs; subst hs; rfl
    simp only [e] at h
    exact h
  · have h := readAll_mapI (edgeRow x.no) (fun acc => { s with rounds := A ++ { up 4 x with edges := acc } :: B }) x.edges (fun i acc z hi _ =>
      read_edge (s := { s with rounds := A ++ { up 4 x with edges := acc } :: B }) (y := { up 4 x with edges := acc }) hx.no hA rfl i (hx.edges z (List.mem_of_getElem? hi)).1 (hx.edges z (List.mem_of_getElem? hi)).2 (hx.fits z (List.mem_of_getElem? hi)))
    have e : ({ s with rounds := A ++ { up 4 x with edges := [] } :: B } : St) = s := by
      cases s; simp only at hs; subst hs; rfl
    simp only [e] at h
    exact h
  · have h := readAll_mapI (numRow 6 x.no) (fun acc => { s with rounds := A ++ { up 5 x with flow := acc } :: B }) x.flow (fun i acc z hi _ =>
      read_flow (s := { s with rounds := A ++ { up 5 x with flow := acc } :: B }) (y := { up 5 x with flow := acc }) hx.no hA rfl i (hx.flow z (List.mem_of_getElem? hi)))
    have e : ({ s with rounds := A ++ { up 5 x with flow := [] } :: B } : St) = s := by
      cases s; simp only at hs; subst hs; rfl
    simp only [e] at h
    exact h
  · have h := readAll_mapI (numRow 7 x.no) (fun acc => { s with rounds := A ++ { up 6 x with pot := acc } :: B }) x.pot (fun i acc z hi _ =>
      read_pot (s := { s with rounds := A ++ { up 6 x with pot := acc } :: B }) (y := { up 6 x with pot := acc }) hx.no hA rfl i (hx.pot z (List.mem_of_getElem? hi)))
    have e : ({ s with rounds := A ++ { up 6 x with pot := [] } :: B } : St) = s := by
      cases s; simp only at hs; subst hs; rfl
    simp only [e] at h
    exact h

theorem read_fill {k : Nat} (hk : 4 ≤ k ∧ k ≤ 7) : ∀ (suf pre : List Round) (s : St), s.rounds = pre.map (up k) ++ suf.map (up (k - 1)) → ((pre ++ suf).Pairwise fun a b => a.no < b.no) → (∀ x ∈ suf, RRng x) →
    readAll s (suf.flatMap (items k)) = some { s with rounds := (pre ++ suf).map (up k) }
  | [], pre, s, hs, _, _ => by
    simp only [List.flatMap_nil, readAll, List.append_nil] at hs ⊢
    cases s; simp only [List.map_nil, List.append_nil] at hs; subst hs; rfl
  | x :: suf, pre, s, hs, hp, hx => by
    rw [List.flatMap_cons, readAll_append, read_items hk (hx x (by simp)) (A := pre.map (up k)) (B := suf.map (up (k - 1))) (fun a ha => by
      obtain ⟨b, hb, rfl⟩ := List.mem_map.1 ha
      rw [up_no]
      have := (List.pairwise_append.1 hp).2.2 b hb x (by simp)
      omega) (by rw [hs, List.map_cons])]
    rw [Option.bind_some, read_fill hk suf (pre ++ [x]) _ (by simp) (by simpa using hp) (fun z hz => hx z (by simp [hz]))]
    simp

/-! ### All of them -/
theorem rounds_lt {s : St} (hw : whole s = true) : s.rounds.Pairwise fun a b => a.no < b.no := by
  unfold whole at hw
  simp only [Bool.and_eq_true] at hw
  exact rises_ris (·.no) s.rounds hw.1.2.2
theorem read_rows {s : St} (hr : Rng s) (hw : whole s = true) : readAll st0 (rowsOf s) = some s := by
  have hp := rounds_lt hw
  unfold whole at hw
  simp only [Bool.and_eq_true, List.all_eq_true, decide_eq_true_eq] at hw
  obtain ⟨⟨⟨⟨w1, w2⟩, w3, _⟩, w4, _⟩, w5⟩ := hw
  have hrr : ∀ x ∈ s.rounds, RRng x := fun x hx => ⟨(hr.rounds x hx).1, hr.ids x hx, hr.edges x hx, hr.flow x hx, hr.pot x hx, by
    have := w4 x hx
    unfold roundFits at this
    simp only [Bool.and_eq_true, List.all_eq_true] at this
    exact this.2⟩
  have hnn : ∀ x ∈ s.rounds, 0 ≤ x.n ∧ x.n ≤ 255 := fun x hx => by
    have := w4 x hx
    unfold roundFits at this
    simp only [Bool.and_eq_true, within_iff] at this
    exact this.1.1
  unfold rowsOf
  rw [readAll_append, readAll_append, readAll_append, readAll_append, readAll_append]
  have e0 : readAll st0 [headRow s] = some { st0 with day := s.day, next := s.next, no := s.no } := by
    show ((readRow st0 (headRow s)).bind fun s' => readAll s' []) = _
    rw [read_head hr]
    rfl
  rw [e0, Option.bind_some]
  have e1 := readAll_mapI acctRow (fun acc => { st0 with day := s.day, next := s.next, no := s.no, accts := acc }) s.accts (fun i acc x hi _ => read_acct (hr.accts x (List.mem_of_getElem? hi)).1 (hr.accts x (List.mem_of_getElem? hi)).2 i _)
  rw [show ({ st0 with day := s.day, next := s.next, no := s.no } : St) = { st0 with day := s.day, next := s.next, no := s.no, accts := [] } from rfl, e1, Option.bind_some]
  have e2 := readAll_mapI (fun _ => dueRow) (fun acc => { st0 with day := s.day, next := s.next, no := s.no, accts := s.accts, dues := acc }) s.dues (fun i acc x hi _ => read_due (hr.dues x (List.mem_of_getElem? hi)).1 (hr.dues x (List.mem_of_getElem? hi)).2.1 (hr.dues x (List.mem_of_getElem? hi)).2.2 (w3 x (List.mem_of_getElem? hi)) _)
  rw [show ({ st0 with day := s.day, next := s.next, no := s.no, accts := s.accts } : St) = { st0 with day := s.day, next := s.next, no := s.no, accts := s.accts, dues := [] } from rfl, map_mapI, e2, Option.bind_some]
  have e3 := readAll_mapI (fun _ => roundRow) (fun acc => { st0 with day := s.day, next := s.next, no := s.no, accts := s.accts, dues := s.dues, rounds := acc.map (up 3) }) s.rounds (fun i acc x hi _ => by
    rw [read_round (hr.rounds x (List.mem_of_getElem? hi)).1 (hr.rounds x (List.mem_of_getElem? hi)).2 (hnn x (List.mem_of_getElem? hi)), List.map_append]
    rfl)
  rw [show ({ st0 with day := s.day, next := s.next, no := s.no, accts := s.accts, dues := s.dues } : St) = { st0 with day := s.day, next := s.next, no := s.no, accts := s.accts, dues := s.dues, rounds := ([] : List Round).map (up 3) } from rfl, map_mapI roundRow, e3, Option.bind_some]
  have fill : ∀ (k : Nat), 4 ≤ k ∧ k ≤ 7 → ∀ s' : St, s'.rounds = s.rounds.map (up (k - 1)) → readAll s' (s.rounds.flatMap (items k)) = some { s' with rounds := s.rounds.map (up k) } := fun k hk s' hs' => by
    have := read_fill hk s.rounds [] s' (by simpa using hs') (by simpa using hp) hrr
    simpa using this
  have e4 : ∀ s' : St, s'.rounds = s.rounds.map (up 3) → readAll s' (kinds.flatMap fun k => s.rounds.flatMap (items k)) = some { s' with rounds := s.rounds } := fun s' hs' => by
    have hkk : (kinds.flatMap fun k => s.rounds.flatMap (items k)) = s.rounds.flatMap (items 4) ++ (s.rounds.flatMap (items 5) ++ (s.rounds.flatMap (items 6) ++ s.rounds.flatMap (items 7))) := by simp [kinds]
    rw [hkk, readAll_append, fill 4 (by omega) s' hs', Option.bind_some, readAll_append, fill 5 (by omega) _ rfl, Option.bind_some, readAll_append, fill 6 (by omega) _ rfl, Option.bind_some, fill 7 (by omega) _ rfl]
    have : s.rounds.map (up 7) = s.rounds := by
      have h7 : up 7 = id := funext up_7
      rw [h7, List.map_id]
    rw [this]
  rw [e4 _ rfl, Option.bind_some]
  have e5 := readAll_mapI askedRow (fun acc => { st0 with day := s.day, next := s.next, no := s.no, accts := s.accts, dues := s.dues, rounds := s.rounds, asked := acc }) s.asked (fun i acc x hi _ => read_asked (hr.asked x (List.mem_of_getElem? hi)).1 (hr.asked x (List.mem_of_getElem? hi)).2 (w5 x (List.mem_of_getElem? hi)) i _)
  exact e5
theorem state_rows {s : St} (hr : Rng s) (hw : whole s = true) : stateOf (of s) = some s := by
  have e : of s = rowsOf s := by unfold of; rw [if_pos hw]
  rw [e]
  exact stateOf_some (read_rows hr hw) (by unfold rowsOf; simp) e

end Rws

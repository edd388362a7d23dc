/-
  RowsBack: pairs that lie in memory, as cells: parts of them, one that is replaced; and slices of them.
  Ahead of it, plain: pairs of a state's rows with one left out, or with a value a byte longer.
-/
import Derived.Test.YtniekddoaokmkaaRbPlain
import Derived.Test.YtniekddoaokmkaaRbBound
import Derived.Test.YtniekddoaokmkaaWrWalk
import Derived.Test.YtniekddoaokmkaaRdState
namespace Rws

def leave (l : List Pair) (k : Nat) : List Pair := l.take k ++ l.drop (k + 1)
def longer (l : List Pair) (k : Nat) (p : Pair) : List Pair := l.set k (p.1, p.2 ++ [0])
theorem leave_len {l : List Pair} {k : Nat} (h : k < l.length) : (leave l k).length = l.length - 1 := by
  unfold leave
  rw [List.length_append, List.length_take, List.length_drop]
  omega
theorem leave_ne {l : List Pair} {k : Nat} (h : k < l.length) : l ≠ leave l k := fun e => by
  have := congrArg List.length e
  rw [leave_len h] at this
  omega
theorem longer_ne {l : List Pair} {k : Nat} {p : Pair} (h : l[k]? = some p) : l ≠ longer l k p := fun e => by
  have h1 := congrArg (fun l => l[k]?) e
  unfold longer at h1
  simp only [h, List.getElem?_set, if_pos (List.getElem?_eq_some_iff.1 h).1, if_true] at h1
  injection h1 with h1
  have h2 := congrArg (fun p => p.2.length) h1
  simp at h2
/-- What a taking of such pairs needs of them. -/
structure Mine (l : List Pair) : Prop where
  len : l.length ≤ 400000
  each : ∀ p ∈ l, Kinded p ∧ p.1.length ≤ 1000 ∧ p.2.length ≤ 1000
theorem mine_rows {s : St} (h : (rowsOf s).length ≤ 400000) (ha : ∀ a ∈ s.asked, a.ask.length ≤ 300 ∧ a.reply.length ≤ 300) : Mine (rowsOf s) ∧ ∀ p ∈ rowsOf s, p.2.length ≤ 900 := by
  have h1 := rows_short (s := s) (M := 600) (fun a hs => by have := ha a hs; omega)
  refine ⟨⟨h, fun p hp => ⟨rows_kinded s p hp, ?_, ?_⟩⟩, fun p hp => ?_⟩
  · have := (h1 p hp).1; omega
  · have := (h1 p hp).2; omega
  · have := (h1 p hp).2; omega
theorem mine_leave {l : List Pair} (h : Mine l) {k : Nat} (hk : k < l.length) : Mine (leave l k) := by
  refine ⟨by rw [leave_len hk]; have := h.len; omega, fun p hp => h.each p ?_⟩
  unfold leave at hp
  rcases List.mem_append.1 hp with hp | hp
  · exact List.mem_of_mem_take hp
  · exact List.mem_of_mem_drop hp
theorem mine_longer {l : List Pair} (h : Mine l) (h9 : ∀ p ∈ l, p.2.length ≤ 900) {k : Nat} {p : Pair} (hk : l[k]? = some p) : Mine (longer l k p) := by
  refine ⟨by unfold longer; rw [List.length_set]; exact h.len, fun q hq => ?_⟩
  unfold longer at hq
  rcases List.mem_or_eq_of_mem_set hq with hq | hq
  · exact h.each q hq
  · subst hq
    have hm := List.mem_of_getElem? hk
    obtain ⟨⟨a, b, e, hle⟩, h1, h2⟩ := h.each p hm
    have h3 := h9 p hm
    exact ⟨⟨a, b, e, hle⟩, h1, by simp; omega⟩
/-- What a state is that such pairs give. -/
theorem mine_state {l : List Pair} {u : St} (h : Mine l) (hu : stateOf l = some u) : of u = l ∧ (rowsOf u).length ≤ 1900000 ∧ ∀ a ∈ u.asked, a.ask.length ≤ 274877906944 ∧ a.reply.length ≤ 274877906944 := by
  obtain ⟨h1, _, h2⟩ := stateOf_of hu
  have h3 := grown_all (M := 1000) l st0 u h1 (fun p hp => ⟨(h.each p hp).1, (h.each p hp).2.2⟩) (fun a ha => by simp [st0] at ha)
  have h4 := h.len
  rw [rows_st0] at h3
  refine ⟨h2, by omega, fun a ha => ?_⟩
  have := h3.2 a ha
  omega
end Rws

namespace Go.Proofs.Ytniekddoaokmkaa
open Go.RowKit Go.Gab
set_option linter.unusedVariables false

/-- Cells of pairs. -/
structure PCells (w : World) (B : Nat) (cs : List Value) (l : List Rws.Pair) : Prop where
  len : cs.length = l.length * 2
  at_ : ∀ i p, l[i]? = some p → ∃ A1 A2 c1 c2, cs[i * 2]? = some (.slice A1 p.1.length c1) ∧ cs[i * 2 + 1]? = some (.slice A2 p.2.length c2) ∧ BytesAt w B A1 p.1.length c1 p.1 ∧ BytesAt w B A2 p.2.length c2 p.2
section
variable {w w' : World} {B B' : Nat} {cs cs' : List Value} {l l' : List Rws.Pair}
theorem PCells.below (h : PCells w B cs l) (hb : Below B' w w') (hB : B ≤ B') : PCells w' B cs l := ⟨h.len, fun i p hp => by
  obtain ⟨A1, A2, c1, c2, e1, e2, b1, b2⟩ := h.at_ i p hp
  exact ⟨A1, A2, c1, c2, e1, e2, b1.below hb hB, b2.below hb hB⟩⟩
theorem PCells.more (h : PCells w B cs l) (hB : B ≤ B') : PCells w B' cs l := ⟨h.len, fun i p hp => by
  obtain ⟨A1, A2, c1, c2, e1, e2, b1, b2⟩ := h.at_ i p hp
  exact ⟨A1, A2, c1, c2, e1, e2, b1.more hB, b2.more hB⟩⟩
theorem PCells.one (h : PCells w B cs l) : ∀ u ∈ cs, u.oneCell' = true := by
  intro u hu
  obtain ⟨j, hj⟩ := List.getElem?_of_mem hu
  have hlt := (List.getElem?_eq_some_iff.1 hj).1
  have hi : j / 2 < l.length := by have := h.len; omega
  obtain ⟨A1, A2, c1, c2, e1, e2, _⟩ := h.at_ (j / 2) _ (List.getElem?_eq_getElem hi)
  rcases Nat.mod_two_eq_zero_or_one j with hm | hm
  · rw [show j / 2 * 2 = j by omega, hj] at e1
    injection e1 with e1
    subst e1
    rfl
  · rw [show j / 2 * 2 + 1 = j by omega, hj] at e2
    injection e2 with e2
    subst e2
    rfl
theorem PCells.take (h : PCells w B cs l) (k : Nat) : PCells w B (cs.take (k * 2)) (l.take k) := by
  refine ⟨by rw [List.length_take, List.length_take, h.len]; omega, fun i p hp => ?_⟩
  rw [List.getElem?_take] at hp
  split at hp
  · rename_i hi
    obtain ⟨A1, A2, c1, c2, e1, e2, b1, b2⟩ := h.at_ i p hp
    exact ⟨A1, A2, c1, c2, by rw [List.getElem?_take, if_pos (by omega)]; exact e1, by rw [List.getElem?_take, if_pos (by omega)]; exact e2, b1, b2⟩
  · cases hp
theorem PCells.drop (h : PCells w B cs l) (k : Nat) : PCells w B (cs.drop (k * 2)) (l.drop k) := by
  refine ⟨by rw [List.length_drop, List.length_drop, h.len]; omega, fun i p hp => ?_⟩
  rw [List.getElem?_drop] at hp
  obtain ⟨A1, A2, c1, c2, e1, e2, b1, b2⟩ := h.at_ _ p hp
  exact ⟨A1, A2, c1, c2, by rw [List.getElem?_drop, ← e1]; congr 1; omega, by rw [List.getElem?_drop, ← e2]; congr 1; omega, b1, b2⟩
theorem PCells.append (h : PCells w B cs l) (h' : PCells w B cs' l') : PCells w B (cs ++ cs') (l ++ l') := by
  refine ⟨by rw [List.length_append, List.length_append, h.len, h'.len]; omega, fun i p hp => ?_⟩
  have hl := h.len
  rw [List.getElem?_append] at hp
  split at hp
  · rename_i hi
    obtain ⟨A1, A2, c1, c2, e1, e2, b1, b2⟩ := h.at_ i p hp
    exact ⟨A1, A2, c1, c2, by rw [List.getElem?_append_left (by omega)]; exact e1, by rw [List.getElem?_append_left (by omega)]; exact e2, b1, b2⟩
  · rename_i hi
    obtain ⟨A1, A2, c1, c2, e1, e2, b1, b2⟩ := h'.at_ _ p hp
    exact ⟨A1, A2, c1, c2, by rw [List.getElem?_append_right (by omega), ← e1]; congr 1; omega, by rw [List.getElem?_append_right (by omega), ← e2]; congr 1; omega, b1, b2⟩
theorem PCells.set_ (h : PCells w B cs l) {k : Nat} (hk : k < l.length) {q : Rws.Pair} {A1 A2 : Option Addr} {c1 c2 : Nat} (b1 : BytesAt w B A1 q.1.length c1 q.1) (b2 : BytesAt w B A2 q.2.length c2 q.2) :
    PCells w B ((cs.set (k * 2) (.slice A1 q.1.length c1)).set (k * 2 + 1) (.slice A2 q.2.length c2)) (l.set k q) := by
  have hl := h.len
  refine ⟨by rw [List.length_set, List.length_set, List.length_set, hl], fun i p hp => ?_⟩
  rw [List.getElem?_set] at hp
  split at hp
  · rename_i e
    subst e
    injection hp with hp
    subst hp
    refine ⟨A1, A2, c1, c2, ?_, ?_, b1, b2⟩
    · rw [List.getElem?_set_ne (by omega), List.getElem?_set_self (by omega)]
    · rw [List.getElem?_set_self (by rw [List.length_set]; omega)]
  · obtain ⟨D1, D2, d1, d2, e1, e2, b1, b2⟩ := h.at_ i p hp
    refine ⟨D1, D2, d1, d2, ?_, ?_, b1, b2⟩
    · rw [List.getElem?_set_ne (by omega), List.getElem?_set_ne (by omega)]; exact e1
    · rw [List.getElem?_set_ne (by omega), List.getElem?_set_ne (by omega)]; exact e2
theorem PCells.of_own {base : Nat} {v : Value} (h : OwnPairs w base v l) : ∃ cs, w.ownsRow base 42 2 v l.length cs ∧ PCells w w.heap.size cs l := by
  obtain ⟨cells, o, hc⟩ := h
  refine ⟨cells, o, o.1, fun i p hp => ?_⟩
  obtain ⟨v1, v2, e1, e2, b1, b2⟩ := hc i p hp
  obtain ⟨A1, c1, rfl, B1⟩ := b1.bytesAt
  obtain ⟨A2, c2, rfl, B2⟩ := b2.bytesAt
  exact ⟨A1, A2, c1, c2, e1, e2, B1, B2⟩
theorem PCells.slr {base n : Nat} {A : Option Addr} {c : Nat} (h : PCells w B cs l) (hl : l.length = n) (ho : w.ownsRow base 42 2 (.slice A n c) n cs) (hB : B ≤ w.heap.size) : SlR pairR w w.heap.size A n c l := by
  have s := Sl.of_own ho
  refine ⟨hl, s.nc, s.cm, fun i hi => ?_⟩
  obtain ⟨b, off, hA, hb, hcell⟩ := s.rd.place (by omega) (by omega : 0 < n)
  obtain ⟨A1, A2, c1, c2, e1, e2, b1, b2⟩ := h.at_ i l[i] (List.getElem?_eq_getElem (by omega))
  refine ⟨b, off, l[i], _, hA, hb, List.getElem?_eq_getElem (by omega), pair_mk (b1.more hB) (b2.more hB), rfl, fun j v hv => ?_⟩
  match j, hv with
  | 0, hv =>
    injection hv with hv
    subst hv
    exact hcell _ _ e1
  | 1, hv =>
    injection hv with hv
    subst hv
    exact hcell _ _ e2
end

/-- A literal of one cell, as it is read. -/
theorem readsBlk1 {w : World} {g : Nat} {t : TypeId} {v : Value} (h : Blk w g t #[v]) : Reads w (g + 1) 1 (some ⟨g, 0, none⟩) 1 [v] :=
  ⟨rfl, fun _ => ⟨_, rfl, by simp, fun j u hu => by
    have hj : j = 0 := by
      have := (List.getElem?_eq_some_iff.1 hu).1
      simp at this
      omega
    subst hj
    have := h.cell 0
    simpa [Addr.add] using this.trans (by simpa using hu)⟩⟩

/-! ### Slices of pairs -/
theorem sliceRunP {A : Option Addr} {n c k : Nat} (hk : k ≤ c) (w : World) (hA : A.map (·.add 0) = A) :
    (Instr.slice 32 (.slice A n c) none (some (.int .i64 (k : Int))) none).run Try.prog w = .ok (.slice A k c) w := by
  have he : Try.prog.elem 32 = 42 := by kernel_rfl
  have hz : (sizeOf 42).run Try.prog w = .ok 2 w := by kernel_rfl
  rw [run_slice_h (P := Try.prog) w 32 A n c (by rw [he]; exact Try.underlying32) .i64 (k : Int) (by omega) (by omega), he, hz]
  simp only [Result.andThen, sliced]
  rw [show ((k : Int)).toNat = k by omega, Nat.zero_mul, hA]
  simp
theorem sliceRunPL {A : Option Addr} {n c k : Nat} (hk : k ≤ n) (w : World) {A' : Option Addr} (hA : A' = (if c = k then A else A.map (·.add (k * 2)))) :
    (Instr.slice 32 (.slice A n c) (some (.int .i64 (k : Int))) none none).run Try.prog w = .ok (.slice A' (n - k) (c - k)) w := by
  have he : Try.prog.elem 32 = 42 := by kernel_rfl
  have hz : (sizeOf 42).run Try.prog w = .ok 2 w := by kernel_rfl
  rw [run_slice_l (P := Try.prog) w 32 A n c (by rw [he]; exact Try.underlying32) .i64 (k : Int) (by omega) (by omega), he, hz]
  simp only [Result.andThen, sliced]
  rw [hA, show ((k : Int)).toNat = k by omega]
end Go.Proofs.Ytniekddoaokmkaa

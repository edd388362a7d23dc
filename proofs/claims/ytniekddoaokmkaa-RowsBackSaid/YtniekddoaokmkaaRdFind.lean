/-
  Layer 23 (rows): the round of a No among the last ones, walked.
-/
import Derived.Test.YtniekddoaokmkaaRdTurn
import Derived.Test.YtniekddoaokmkaaRdTake
namespace Go.Proofs.Ytniekddoaokmkaa
open Go.RowKit Go.Gab
set_option linter.unusedVariables false
attribute [local go_sem ↓] Go.wp_at_zero Go.wp_at_succ

theorem placeOf_drop {rs : List Rws.Round} {j : Nat} {x : Rws.Round} (hx : rs[j]? = some x) (no : Int) : Rws.placeOf no (rs.drop j) = if x.no = no then some 0 else (Rws.placeOf no (rs.drop (j + 1))).map (· + 1) := by
  obtain ⟨hj, rfl⟩ := List.getElem?_eq_some_iff.1 hx
  rw [List.drop_eq_getElem_cons hj, Rws.placeOf]
theorem placeOf_at {no : Int} : ∀ {rs : List Rws.Round} {j : Nat}, Rws.placeOf no rs = some j → ∃ x, rs[j]? = some x ∧ x.no = no
  | [], j, h => by simp [Rws.placeOf] at h
  | r :: l, j, h => by
    rw [Rws.placeOf] at h
    by_cases hr : r.no = no
    · rw [if_pos hr] at h
      injection h with h
      subst h
      exact ⟨r, rfl, hr⟩
    · rw [if_neg hr] at h
      obtain ⟨i, hi, rfl⟩ := Option.map_eq_some_iff.1 h
      obtain ⟨x, hx, e⟩ := placeOf_at hi
      exact ⟨x, by simpa using hx, e⟩
/-- What is found. -/
def FindTo (Ar : Option Addr) (o : Option Nat) (w : World) (e : Ending) (w' : World) : Prop :=
  (∀ j, o = some j → ∃ b, Ar = some ⟨b, 0, none⟩ ∧ e = .returned (.pointer (some ⟨b, j * 8, none⟩))) ∧ (o = none → e = .returned (.pointer none)) ∧ w = w'

set_option maxHeartbeats 1000000 in
theorem round_any (base g : Nat) (s : Rws.St) {Aa Ad Ar Aq : Option Addr} {ca cd cr cq : Nat} (no : Int) (w : World) (h : StInX w base g s Aa Ad Ar Aq ca cd cr cq) :
    Calls Try.prog 65 #[.pointer (some ⟨g, 0, none⟩), .int .u64 no] w (FindTo Ar (Rws.placeOf no s.rounds) w) := by
  obtain ⟨cells, fI, fE, fN, hr, hi⟩ := h.rounds
  have hlt : g < w.heap.size := h.blk.lt
  have c4 := h.blk.cell 4
  simp only [stC, List.getElem?_toArray, List.getElem?_cons_zero, List.getElem?_cons_succ] at c4
  have m1 := (Sl.of_own hr).nc
  have m2 := (Sl.of_own hr).cm
  have hA : 0 < s.rounds.length → ∃ b, Ar = some ⟨b, 0, none⟩ := fun hp => by
    obtain ⟨gg, cap, hv, _⟩ := hr.form hp
    exact ⟨gg, by injection hv⟩
  have HA := Lib.hid hA
  have HCE := Lib.hid (fun (b : Nat) (e : Ar = some ⟨b, 0, none⟩) (j : Nat) (x : Rws.Round) (hx : s.rounds[j]? = some x) => (show w.cell? ⟨b, j * 8, none⟩ = some (.int .u64 x.no) by
    have hj := (List.getElem?_eq_some_iff.1 hx).1
    subst e
    have h1 := hr.cellAt (j * 8) (by omega)
    rw [h1]
    simpa using hi.cells j x hx 0 _ rfl))
  obtain ⟨n, hn⟩ : ∃ n, s.rounds.length = n := ⟨_, rfl⟩
  have HN := Lib.hid hn
  rw [hn] at c4 m1 HA
  clear h hr hi hA hn
  go_enter Try.func65, Try.ntmps65
  go_wp2_with fail
  go_loop [11] (fun i => ∃ j : Nat, j ≤ n ∧ i = .int .i64 j ∧ Rws.placeOf no s.rounds = (Rws.placeOf no (s.rounds.drop j)).map (· + j)) (fun i => n - (intOf i).toNat)
  case atStart => exact ⟨0, Nat.zero_le _, rfl, by rw [List.drop_zero]; cases Rws.placeOf no s.rounds <;> rfl⟩
  case round =>
    obtain ⟨j, hj, rfl, hp⟩ := hrel
    have HP := Lib.hid hp
    clear hp
    by_cases hlt2 : j < n
    · obtain ⟨b, hb⟩ := HA.out (by omega)
      obtain ⟨x, hx⟩ : ∃ x, s.rounds[j]? = some x := ⟨_, List.getElem?_eq_getElem (by rw [HN.out]; exact hlt2)⟩
      have q0 := HCE.out b hb j x hx
      have HD := Lib.hid (placeOf_drop hx no)
      have g4 : (0 : Int) ≤ (j : Int) := by omega
      have g5 : (j : Int) < (n : Int) := by omega
      subst hb
      clear hx
      by_cases he : x.no = no
      · have he2 : (x.no == no) = true := by simp [he]
        have HR := Lib.hid (show Rws.placeOf no s.rounds = some j by rw [HP.out, HD.out, if_pos he]; simp)
        clear he
        go_wp2_with fail
        go_ret
        rw [HR.out]
        exact ⟨(fun i e => by injection e with e; subst e; exact ⟨b, rfl, rfl⟩), (fun e => by cases e), rfl⟩
      · have he2 : (x.no == no) = false := by simp [he]
        have HR := Lib.hid (show Rws.placeOf no s.rounds = (Rws.placeOf no (s.rounds.drop (j + 1))).map (· + (j + 1)) by
          rw [HP.out, HD.out, if_neg he, Option.map_map]
          congr 1
          funext a
          simp only [Function.comp]
          omega)
        clear he
        go_wp2_with fail
        go_round
        case rel => exact ⟨j + 1, by omega, by go_num, HR.out⟩
        case measure => simp [intOf]; omega
    · have HR := Lib.hid (show Rws.placeOf no s.rounds = none by rw [HP.out, List.drop_of_length_le (by rw [HN.out]; omega)]; rfl)
      have g5 : ¬ ((j : Int) < (n : Int)) := by omega
      go_wp2_with fail
      go_ret
      rw [HR.out]
      exact ⟨(fun i e => by cases e), fun _ => rfl, rfl⟩

end Go.Proofs.Ytniekddoaokmkaa

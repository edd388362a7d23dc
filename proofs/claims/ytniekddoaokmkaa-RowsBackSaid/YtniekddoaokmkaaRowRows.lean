/-
  Layer 23 (rows): all rows of a state, told, walked.
-/
import Derived.Test.YtniekddoaokmkaaRowItems
namespace Go.Proofs.Ytniekddoaokmkaa
open Go.RowKit Go.Gab
set_option linter.unusedVariables false
attribute [local go_sem ↓] Go.wp_at_zero Go.wp_at_succ

theorem items_any (base g B : Nat) (ps : List Rws.Pair) (x : Rws.Round) {Ai Ae Af Ap : Option Addr} {ci ce cf cp : Nat} (z : Int) (w : World) (hz : 4 ≤ z ∧ z ≤ 7) (hB : B ≤ base) (htold : Told w base g ps) (hfew : ps.length + (Rws.items z.toNat x).length ≤ 1900000) (ha : RoundAt w B x Ai Ae Af Ap ci ce cf cp) :
    Calls Try.prog 44 #[.int .u8 z, .agg (roundC x Ai Ae Af Ap ci ce cf cp).toArray, tellV g] w (ToldTo base g (ps ++ Rws.items z.toNat x) w) := by
  have h : z = 4 ∨ z = 5 ∨ z = 6 ∨ z = 7 := by omega
  rcases h with rfl | rfl | rfl | rfl
  · rw [show (4 : Int).toNat = 4 from rfl] at hfew ⊢
    exact items4_any base g B ps x w hB htold (by rw [items4, each_len, List.length_map] at hfew; exact hfew) ha
  · rw [show (5 : Int).toNat = 5 from rfl] at hfew ⊢
    exact items5_any base g B ps x w hB htold (by rw [items5, each_len, List.length_map] at hfew; exact hfew) ha
  · rw [show (6 : Int).toNat = 6 from rfl] at hfew ⊢
    exact items6_any base g B ps x w hB htold (by rw [items6, each_len, List.length_map] at hfew; exact hfew) ha
  · rw [show (7 : Int).toNat = 7 from rfl] at hfew ⊢
    exact items7_any base g B ps x w hB htold (by rw [items7, each_len, List.length_map] at hfew; exact hfew) ha

/-! ### What has been told on the way -/
def psA (s : Rws.St) (j : Nat) : List Rws.Pair := [Rws.headRow s] ++ Rws.mapI Rws.acctRow (s.accts.take j)
def psD (s : Rws.St) (j : Nat) : List Rws.Pair := [Rws.headRow s] ++ Rws.mapI Rws.acctRow s.accts ++ (s.dues.take j).map Rws.dueRow
def psR (s : Rws.St) (j : Nat) : List Rws.Pair := [Rws.headRow s] ++ Rws.mapI Rws.acctRow s.accts ++ s.dues.map Rws.dueRow ++ (s.rounds.take j).map Rws.roundRow
def psK (s : Rws.St) (k j : Nat) : List Rws.Pair := [Rws.headRow s] ++ Rws.mapI Rws.acctRow s.accts ++ s.dues.map Rws.dueRow ++ s.rounds.map Rws.roundRow ++ (Rws.kinds.take (k - 4)).flatMap (fun k => s.rounds.flatMap (Rws.items k)) ++ (s.rounds.take j).flatMap (Rws.items k)
def psQ (s : Rws.St) (j : Nat) : List Rws.Pair := [Rws.headRow s] ++ Rws.mapI Rws.acctRow s.accts ++ s.dues.map Rws.dueRow ++ s.rounds.map Rws.roundRow ++ Rws.kinds.flatMap (fun k => s.rounds.flatMap (Rws.items k)) ++ Rws.mapI Rws.askedRow (s.asked.take j)
section
variable {s : Rws.St} {j : Nat}
theorem psA_zero : psA s 0 = [Rws.headRow s] := by simp [psA, Rws.mapI]
theorem psA_step {x : Rws.Acct} (h : s.accts[j]? = some x) : psA s j ++ [Rws.acctRow j x] = psA s (j + 1) := by
  unfold psA
  rw [Rws.mapI_take _ h, List.append_assoc]
theorem psA_last : psA s s.accts.length = psD s 0 := by simp [psA, psD]
theorem psD_step {x : Rws.Due} (h : s.dues[j]? = some x) : psD s j ++ [Rws.dueRow x] = psD s (j + 1) := by
  unfold psD
  rw [Rws.map_take _ h]
  simp only [List.append_assoc]
theorem psD_last : psD s s.dues.length = psR s 0 := by simp [psD, psR]
theorem psR_step {x : Rws.Round} (h : s.rounds[j]? = some x) : psR s j ++ [Rws.roundRow x] = psR s (j + 1) := by
  unfold psR
  rw [Rws.map_take _ h]
  simp only [List.append_assoc]
theorem psR_last : psR s s.rounds.length = psK s 4 0 := by simp [psR, psK]
theorem psK_step {k : Nat} {x : Rws.Round} (h : s.rounds[j]? = some x) : psK s k j ++ Rws.items k x = psK s k (j + 1) := by
  unfold psK
  rw [Rws.flatMap_take _ h]
  simp only [List.append_assoc]
theorem psK_next {k : Nat} (h : 4 ≤ k ∧ k ≤ 7) : psK s k s.rounds.length = psK s (k + 1) 0 := by
  have hk : k = 4 ∨ k = 5 ∨ k = 6 ∨ k = 7 := by omega
  rcases hk with rfl | rfl | rfl | rfl <;> simp [psK, Rws.kinds]
theorem psK_last : psK s 8 0 = psQ s 0 := by simp [psK, psQ, Rws.kinds, Rws.mapI]
theorem psQ_step {x : Rws.Asked} (h : s.asked[j]? = some x) : psQ s j ++ [Rws.askedRow j x] = psQ s (j + 1) := by
  unfold psQ
  rw [Rws.mapI_take _ h]
  simp only [List.append_assoc]
theorem psQ_last : psQ s s.asked.length = Rws.rowsOf s := by simp [psQ, Rws.rowsOf]
theorem flat_take_len {α β : Type} (f : α → List β) (l : List α) (j : Nat) : ((l.take j).flatMap f).length ≤ (l.flatMap f).length := by
  conv => rhs; rw [← List.take_append_drop j l]
  rw [List.flatMap_append, List.length_append]
  omega
theorem rows_len : (Rws.rowsOf s).length = 1 + s.accts.length + s.dues.length + s.rounds.length + (Rws.kinds.flatMap (fun k => s.rounds.flatMap (Rws.items k))).length + s.asked.length := by
  unfold Rws.rowsOf
  simp only [List.length_append, List.length_map, Rws.mapI_length, List.length_singleton]
theorem psA_len (hj : j ≤ s.accts.length) : (psA s j).length = 1 + j := by
  unfold psA
  simp only [List.length_append, Rws.mapI_length, List.length_singleton, List.length_take]
  omega
theorem psD_len (hj : j ≤ s.dues.length) : (psD s j).length = 1 + s.accts.length + j := by
  unfold psD
  simp only [List.length_append, List.length_map, Rws.mapI_length, List.length_singleton, List.length_take]
  omega
theorem psR_len (hj : j ≤ s.rounds.length) : (psR s j).length = 1 + s.accts.length + s.dues.length + j := by
  unfold psR
  simp only [List.length_append, List.length_map, Rws.mapI_length, List.length_singleton, List.length_take]
  omega
theorem psK_len {k : Nat} (h : 4 ≤ k ∧ k ≤ 7) (hj : j ≤ s.rounds.length) : (psK s k j).length ≤ (Rws.rowsOf s).length := by
  rw [rows_len]
  have h1 : ((Rws.kinds.take (k - 4)).flatMap (fun k => s.rounds.flatMap (Rws.items k))).length + ((s.rounds.take j).flatMap (Rws.items k)).length ≤ (Rws.kinds.flatMap (fun k => s.rounds.flatMap (Rws.items k))).length := by
    have h2 := flat_take_len (Rws.items k) s.rounds j
    have h3 := flat_take_len (fun k => s.rounds.flatMap (Rws.items k)) Rws.kinds (k - 4 + 1)
    have h4 : (Rws.kinds.take (k - 4 + 1)).flatMap (fun k => s.rounds.flatMap (Rws.items k)) = (Rws.kinds.take (k - 4)).flatMap (fun k => s.rounds.flatMap (Rws.items k)) ++ s.rounds.flatMap (Rws.items k) := by
      have hk : k = 4 ∨ k = 5 ∨ k = 6 ∨ k = 7 := by omega
      rcases hk with rfl | rfl | rfl | rfl <;> simp [Rws.kinds]
    rw [h4, List.length_append] at h3
    omega
  unfold psK
  simp only [List.length_append, List.length_map, Rws.mapI_length, List.length_singleton]
  omega
theorem psQ_len (hj : j ≤ s.asked.length) : (psQ s j).length + s.asked.length = (Rws.rowsOf s).length + j := by
  rw [rows_len]
  unfold psQ
  simp only [List.length_append, List.length_map, Rws.mapI_length, List.length_singleton, List.length_take]
  omega
end

end Go.Proofs.Ytniekddoaokmkaa

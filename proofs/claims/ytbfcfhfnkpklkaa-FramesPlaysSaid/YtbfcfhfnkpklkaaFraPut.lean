/-
  Layer 24 (frames), the small functions walked: numbers put and taken.
-/
import Derived.Test.YtbfcfhfnkpklkaaOctWalks
import Derived.Test.YtbfcfhfnkpklkaaFraPlain
import Derived.Deep.RegionHeld3
import Derived.Deep.DrawnRows
namespace Go.Proofs.Ytbfcfhfnkpklkaa
open Go.RowKit Go.Gab
set_option linter.unusedVariables false
attribute [local go_sem ↓] Go.wp_at_zero Go.wp_at_succ

/-- Bytes with a number behind them, in memory that is new since W. -/
def PutTo (W : World) (bs : List UInt8) (e : Ending) (w' : World) : Prop := ∃ v, e = .returned v ∧ Fresh 5 W bs v w'

theorem Fresh_bel {t8 : TypeId} {w w' : World} {bs : List UInt8} {v : Value} (h : Fresh t8 w bs v w') : Below w.heap.size w w' := by
  obtain ⟨A, c, _, _, hb⟩ := h; exact hb
theorem Fresh_drew {t8 : TypeId} {w w' : World} {bs : List UInt8} {v : Value} (h : Fresh t8 w bs v w') : Fresh t8 w bs v w'.drew := by
  obtain ⟨A, c, h1, h2, hb⟩ := h; exact ⟨A, c, h1, h2.drew, hb.drew⟩

/-- octet.Put behind bytes of the call's own. -/
theorem put_fresh (W : World) (bs : List UInt8) (v : Value) (x : Nat) (z k : Int) (w : World) (h : Fresh 5 W bs v w) (hl : bs.length ≤ 1000000) (hz : z = (x : Int)) (hx : x < 18446744073709551616) :
    Calls Try.prog 30 #[v, .int .u64 z, .int .i64 k] w (PutTo W (Oct.put bs x k)) := by
  have hbel := Fresh_bel h
  obtain ⟨A, c, rfl, hs⟩ := h.sl
  refine (put_any w.heap.size A bs.length c bs x z k hz hx w hs (Nat.le_refl _) (by omega)).mono ?_
  rintro e w' ⟨v, rfl, hf⟩
  exact ⟨v, rfl, Fresh_base hf W hbel⟩

theorem fraPut64 (W : World) (bs : List UInt8) (v : Value) (x : Nat) (k : Int) (w : World) (h : Fresh 5 W bs v w) (hl : bs.length ≤ 1000000) (hx : x < 18446744073709551616) :
    Calls Try.prog 73 #[v, .int .u64 (x : Int), .int .i64 k] w (PutTo W (Oct.put bs x k)) := by
  go_enter Try.func73, Try.ntmps73
  go_wp2_with fail
  refine (put_fresh W bs v x _ k _ h hl rfl hx).mono ?_
  rintro e w' ⟨v, rfl, hf⟩
  go_wp2_with fail
  go_ret
  exact ⟨_, rfl, hf⟩
theorem fraPut32 (W : World) (bs : List UInt8) (v : Value) (x : Nat) (k : Int) (w : World) (h : Fresh 5 W bs v w) (hl : bs.length ≤ 1000000) (hx : x < 4294967296) :
    Calls Try.prog 74 #[v, .int .u32 (x : Int), .int .i64 k] w (PutTo W (Oct.put bs x k)) := by
  go_enter Try.func74, Try.ntmps74
  go_wp2_with fail
  refine (put_fresh W bs v x _ k _ h hl rfl (by omega)).mono ?_
  rintro e w' ⟨v, rfl, hf⟩
  go_wp2_with fail
  go_ret
  exact ⟨_, rfl, hf⟩
theorem fraPut8 (W : World) (bs : List UInt8) (v : Value) (x : UInt8) (k : Int) (w : World) (h : Fresh 5 W bs v w) (hl : bs.length ≤ 1000000) :
    Calls Try.prog 76 #[v, .int .u8 (x.toNat : Int), .int .i64 k] w (PutTo W (Oct.put bs x.toNat k)) := by
  have hx := x.toNat_lt
  go_enter Try.func76, Try.ntmps76
  go_wp2_with fail
  refine (put_fresh W bs v x.toNat _ k _ h hl rfl (by omega)).mono ?_
  rintro e w' ⟨v, rfl, hf⟩
  go_wp2_with fail
  go_ret
  exact ⟨_, rfl, hf⟩
theorem fraPutInt (W : World) (bs : List UInt8) (v : Value) (x : Int) (k : Int) (w : World) (h : Fresh 5 W bs v w) (hl : bs.length ≤ 1000000) :
    Calls Try.prog 75 #[v, .int .i64 x, .int .i64 k] w (PutTo W (Oct.put bs (Fra.uns x) k)) := by
  go_enter Try.func75, Try.ntmps75
  go_wp2_with fail
  refine (put_fresh W bs v (Fra.uns x) _ k _ h hl (by rw [Fra.uns_cast]; first | rfl | rw [IntKind.wrap_u64]) (Fra.uns_lt x)).mono ?_
  rintro e w' ⟨v, rfl, hf⟩
  go_wp2_with fail
  go_ret
  exact ⟨_, rfl, hf⟩
theorem fraPutI64 (W : World) (bs : List UInt8) (v : Value) (x : Int) (k : Int) (w : World) (h : Fresh 5 W bs v w) (hl : bs.length ≤ 1000000) :
    Calls Try.prog 77 #[v, .int .i64 x, .int .i64 k] w (PutTo W (Oct.put bs (Fra.uns x) k)) := by
  go_enter Try.func77, Try.ntmps77
  go_wp2_with fail
  refine (put_fresh W bs v (Fra.uns x) _ k _ h hl (by rw [Fra.uns_cast]; first | rfl | rw [IntKind.wrap_u64]) (Fra.uns_lt x)).mono ?_
  rintro e w' ⟨v, rfl, hf⟩
  go_wp2_with fail
  go_ret
  exact ⟨_, rfl, hf⟩
theorem fraPutErr (W : World) (bs : List UInt8) (v : Value) (x : Int) (k : Int) (w : World) (h : Fresh 5 W bs v w) (hl : bs.length ≤ 1000000) :
    Calls Try.prog 79 #[v, .int .i64 x, .int .i64 k] w (PutTo W (Oct.put bs (Fra.uns x) k)) := by
  go_enter Try.func79, Try.ntmps79
  go_wp2_with fail
  refine (put_fresh W bs v (Fra.uns x) _ k _ h hl (by rw [Fra.uns_cast]; first | rfl | rw [IntKind.wrap_u64]) (Fra.uns_lt x)).mono ?_
  rintro e w' ⟨v, rfl, hf⟩
  go_wp2_with fail
  go_ret
  exact ⟨_, rfl, hf⟩

/-! ### A reader of bytes that are long enough -/
/-- A reader: its bytes and its place. -/
structure RdAt (w : World) (h : Nat) (A : Option Addr) (n c : Nat) (bs : List UInt8) (p : Nat) : Prop where
  obj : Blk w h 101 #[.slice A n c, .int .i64 (p : Int)]
  sl : Sl w h 1 A n c (bs.map byteV)
  small : n ≤ 1000000

/-- The number is taken, the place goes on; nothing else that was there is written. -/
def TakeTo (w : World) (h : Nat) (A : Option Addr) (n c : Nat) (bs : List UInt8) (p k : Nat) (e : Ending) (w' : World) : Prop :=
  e = .returned (.int .u64 (Fra.num bs p k : Int)) ∧ RdAt w' h A n c bs (p + k) ∧ w.grownBy w' (some h)

theorem take_num {bs : List UInt8} {p k : Nat} (hk : Oct.size k = true) (h : p + k ≤ bs.length) : Oct.take bs (p : Int) (k : Int) = (Fra.num bs p k, ((p + k : Nat) : Int), 0) := by
  unfold Oct.take Fra.num
  rw [hk, if_neg (by simp; omega), if_neg (by omega), Int.toNat_natCast, Int.toNat_natCast]
  congr 2

theorem fraTake (h : Nat) (A : Option Addr) (n c : Nat) (bs : List UInt8) (p k : Nat) (w : World) (hr : RdAt w h A n c bs p) (hk : Oct.size k = true) (hp : p + k ≤ n) :
    Calls Try.prog 80 #[.pointer (some ⟨h, 0, none⟩), .int .i64 (k : Int)] w (TakeTo w h A n c bs p k) := by
  have hc0 := hr.obj.cell 0
  have hc1 := hr.obj.cell 1
  simp only [List.getElem?_toArray, List.getElem?_cons_zero, List.getElem?_cons_succ] at hc0 hc1
  have hlt := hr.obj.lt
  have hsm := hr.small
  have HT := Lib.hid (take_num (bs := bs) (p := p) hk (by rw [hr.sl.lenB]; exact hp))
  clear hk
  go_enter Try.func80, Try.ntmps80
  go_wp2_with fail
  go_region_held3 (fun w' => w'.cell? ⟨h, 0, none⟩ = some (.slice A n c) ∧ w'.cell? ⟨h, 1, none⟩ = some (.int .i64 (p : Int))) (first | exact ⟨hc0, hc1⟩ | exact HC.out)
    (first | (go_at_call 31; refine (take_any h A n c bs p k _ (hr.sl.drew) (Nat.le_of_lt hlt) (by omega)).mono ?_; rintro e w1 ⟨rfl, hb0⟩; rw [HT.out]; unfold takeV; have hb : Below w.heap.size w w1 := Below.trans (below_drewN (Below.refl _ _) 1) hb0; have hb' := Lib.hid hb; have hobj := hr.obj.below hb hlt; have hsl := Lib.hid (hr.sl.below' hb (Nat.le_of_lt hlt)); have hfz := hobj.frozen 1; have hd0 := hobj.cell 0; have hd1 := hobj.cell 1; simp only [List.getElem?_toArray, List.getElem?_cons_zero, List.getElem?_cons_succ] at hd0 hd1; have HC := Lib.hid (And.intro hd0 hd1); have HO := Lib.hid hobj; clear hd0 hobj hb hb0))
  go_wp2_with fail
  go_ret
  refine ⟨rfl, ⟨?_, ?_, hsm⟩, only_setCell (only_of_below hb'.out _) (.inl rfl) _⟩
  · have := HO.out.set_ 1 (.int .i64 ((p + k : Nat) : Int))
    simpa using this
  · exact hsl.out.setCell (p := ⟨h, 1, none⟩) (Nat.le_refl _) _

end Go.Proofs.Ytbfcfhfnkpklkaa

/-
  Ways of reading cells as plain data, whatever the type: numbers, bools, byte strings, slices of whatever, structs; each way is kept where what lies below a block is kept. And that the form's own reading of an argument gives just such a reading.
-/
import Derived.Test.YtniekddoaokmkaaBase
import Derived.ProofKit
import Derived.Deep.Slices
import Derived.ChangeOld
import Derived.SizedLaws
namespace Go.Gab
open Go.RowKit Go.WideShapes Go.ChangeShapes

/-- A way of reading cells. -/
structure Rep (α : Type) where
  size : Nat
  rel : World → Nat → List Value → α → Prop
  keep : ∀ {w w' : World} {B : Nat} {cs : List Value} {a : α}, (∀ p : Addr, p.block < B → w'.cell? p = w.cell? p) → rel w B cs a → rel w' B cs a
  more : ∀ {w : World} {B B' : Nat} {cs : List Value} {a : α}, B ≤ B' → rel w B cs a → rel w B' cs a

theorem Rep.below {α : Type} (r : Rep α) {w w' : World} {B B1 : Nat} {cs : List Value} {a : α} (h : r.rel w B cs a) (hb : Below B1 w w') (hB : B ≤ B1) : r.rel w' B cs a :=
  r.keep (fun _ hp => hb.cell (Nat.lt_of_lt_of_le hp hB)) h

/-- A number of some kind. -/
def Rep.int (k : IntKind) : Rep Int where
  size := 1
  rel _ _ cs z := cs = [.int k z] ∧ (Lit.int k z).wf = true
  keep _ h := h
  more _ h := h
def Rep.bool : Rep Bool where
  size := 1
  rel _ _ cs b := cs = [.bool b]
  keep _ h := h
  more _ h := h
/-- A byte string. -/
def Rep.bytes : Rep (List UInt8) where
  size := 1
  rel w B cs bs := ∃ A n c, cs = [.slice A n c] ∧ Sl w B 1 A n c (bs.map byteV) ∧ c ≤ 140737488355328
  keep hk h := by obtain ⟨A, n, c, h1, h2, h3⟩ := h; exact ⟨A, n, c, h1, h2.keep hk, h3⟩
  more hB h := by obtain ⟨A, n, c, h1, h2, h3⟩ := h; exact ⟨A, n, c, h1, h2.more hB, h3⟩

/-- A slice value that reads as a list, each element in its own way. -/
structure SlR {α : Type} (r : Rep α) (w : World) (B : Nat) (A : Option Addr) (n c : Nat) (l : List α) : Prop where
  len : l.length = n
  nc : n ≤ c
  cm : c ≤ 9223372036854775807
  row : ∀ i, i < n → ∃ b off x cs, A = some ⟨b, off, none⟩ ∧ b < B ∧ l[i]? = some x ∧ r.rel w B cs x ∧ cs.length = r.size ∧ ∀ j v, cs[j]? = some v → w.cell? ⟨b, off + (i * r.size + j), none⟩ = some v

section
variable {α : Type} {r : Rep α} {w w' : World} {B B' n c : Nat} {A : Option Addr} {l : List α}
theorem SlR.keep (hk : ∀ p : Addr, p.block < B → w'.cell? p = w.cell? p) (h : SlR r w B A n c l) : SlR r w' B A n c l :=
  ⟨h.len, h.nc, h.cm, fun i hi => by
    obtain ⟨b, off, x, cs, hA, hb, hx, hr, hl, hc⟩ := h.row i hi
    exact ⟨b, off, x, cs, hA, hb, hx, r.keep hk hr, hl, fun j v hv => (hk _ hb).trans (hc j v hv)⟩⟩
theorem SlR.more (hB : B ≤ B') (h : SlR r w B A n c l) : SlR r w B' A n c l :=
  ⟨h.len, h.nc, h.cm, fun i hi => by
    obtain ⟨b, off, x, cs, hA, hb, hx, hr, hl, hc⟩ := h.row i hi
    exact ⟨b, off, x, cs, hA, by omega, hx, r.more hB hr, hl, hc⟩⟩
theorem SlR.below (h : SlR r w B A n c l) {B1 : Nat} (hb : Below B1 w w') (hB : B ≤ B1) : SlR r w' B A n c l :=
  h.keep fun _ hp => hb.cell (Nat.lt_of_lt_of_le hp hB)
theorem SlR.drewN (h : SlR r w B A n c l) (k : Nat) : SlR r (w.drewN k) B A n c l := SlR.keep (w := w) (fun _ _ => rfl) h
end

def Rep.slice {α : Type} (r : Rep α) : Rep (List α) where
  size := 1
  rel w B cs l := ∃ A n c, cs = [.slice A n c] ∧ SlR r w B A n c l
  keep hk h := by obtain ⟨A, n, c, h1, h2⟩ := h; exact ⟨A, n, c, h1, h2.keep hk⟩
  more hB h := by obtain ⟨A, n, c, h1, h2⟩ := h; exact ⟨A, n, c, h1, h2.more hB⟩

def Rep.unit : Rep Unit where
  size := 0
  rel _ _ cs _ := cs = []
  keep _ h := h
  more _ h := h
/-- One behind the other. -/
def Rep.pair {α β : Type} (r : Rep α) (s : Rep β) : Rep (α × β) where
  size := r.size + s.size
  rel w B cs x := ∃ c1 c2, cs = c1 ++ c2 ∧ c1.length = r.size ∧ r.rel w B c1 x.1 ∧ s.rel w B c2 x.2
  keep hk h := by obtain ⟨c1, c2, h1, h2, h3, h4⟩ := h; exact ⟨c1, c2, h1, h2, r.keep hk h3, s.keep hk h4⟩
  more hB h := by obtain ⟨c1, c2, h1, h2, h3, h4⟩ := h; exact ⟨c1, c2, h1, h2, r.more hB h3, s.more hB h4⟩
/-- By other words. -/
def Rep.map {α β : Type} (r : Rep α) (f : α → β) : Rep β where
  size := r.size
  rel w B cs b := ∃ a, r.rel w B cs a ∧ f a = b
  keep hk h := by obtain ⟨a, h1, h2⟩ := h; exact ⟨a, r.keep hk h1, h2⟩
  more hB h := by obtain ⟨a, h1, h2⟩ := h; exact ⟨a, r.more hB h1, h2⟩

/-! ### The form's own reading gives such a one -/

/-- Of a type, each reading by the form is one by the way. -/
def Rep.Of {α : Type} (r : Rep α) (P : Program) (t : TypeId) : Prop :=
  P.cellsOf t = r.size ∧
  ∀ (H : Type) (enc : TypeId × Value → H) (W : World) (base : Nat) (held : Bool) (fuel : Nat) (cs : List Value) (x : DataW H × List MemPlace),
    DataW.trod enc P W base (fun _ => true) held fuel t cs = some x → (x.1.weights P t).all (· ≤ reachBytes) = true → ∃ a, r.rel W W.heap.size cs a

theorem Rep.of_int {P : Program} {t : TypeId} {k : IntKind} (ht : P.underlying t = some (.int k)) (hc : P.cellsOf t = 1) : (Rep.int k).Of P t := by
  refine ⟨hc, fun H enc W base held fuel cs x h _ => ?_⟩
  obtain ⟨z, rfl, _, hw⟩ := DataW.trod_int ht h
  exact ⟨z, rfl, hw⟩
theorem Rep.of_bool {P : Program} {t : TypeId} (ht : P.underlying t = some .bool) (hc : P.cellsOf t = 1) : Rep.bool.Of P t := by
  refine ⟨hc, fun H enc W base held fuel cs x h _ => ?_⟩
  obtain ⟨b, rfl, _⟩ := DataW.trod_bool ht h
  exact ⟨b, rfl⟩

theorem weightsAll_of_mem {H : Type} {P : Program} {e : TypeId} {f : Nat → Bool} : ∀ (l : List (DataW H)), (DataW.weightsAll P e l).all f = true → ∀ d, d ∈ l → (d.weights P e).all f = true
  | [], _, d, hd => by cases hd
  | d' :: l, h, d, hd => by
    simp only [DataW.weightsAll, List.all_append, Bool.and_eq_true] at h
    rcases List.mem_cons.1 hd with rfl | hd
    · exact h.1
    · exact weightsAll_of_mem l h.2 d hd

theorem slice_weights {H : Type} {P : Program} {t e : TypeId} (ht : P.underlying t = some (.slice e)) {elems spare : List (DataW H)} (h : ((DataW.slice elems spare).weights P t).all (· ≤ reachBytes) = true) :
    (elems.length + spare.length) * P.bytesOf e ≤ reachBytes ∧ ∀ d, d ∈ elems → (d.weights P e).all (· ≤ reachBytes) = true := by
  simp only [DataW.weights, ht, List.all_cons, List.all_append, Bool.and_eq_true, decide_eq_true_eq] at h
  exact ⟨h.1, weightsAll_of_mem elems h.2.1⟩

theorem Rep.slice_read {α : Type} {r : Rep α} {P : Program} {t e : TypeId} (ht : P.underlying t = some (.slice e)) (hb1 : 1 ≤ P.bytesOf e) (hsz : 1 ≤ r.size) (hr : r.Of P e)
    {H : Type} {enc : TypeId × Value → H} {W : World} {base : Nat} {held : Bool} {fuel : Nat} {cs : List Value} {x : DataW H × List MemPlace}
    (h : DataW.trod enc P W base (fun _ => true) held fuel t cs = some x) (hwt : (x.1.weights P t).all (· ≤ reachBytes) = true) :
    ∃ l A n c, cs = [.slice A n c] ∧ SlR r W W.heap.size A n c l ∧ c ≤ 140737488355328 := by
  rcases DataW.trod_slice ht h with ⟨rfl, _⟩ | ⟨a, len, cap, elems, rest, n, _, rfl, rfl, hbase, hl, hm, hlen, hel, hsp, hns⟩
  · exact ⟨[], none, 0, 0, rfl, ⟨rfl, Nat.le_refl _, by omega, fun i hi => absurd hi (by omega)⟩, by omega⟩
  · obtain ⟨hrest, _⟩ := hsp rfl
    obtain ⟨hw1, hw2⟩ := slice_weights ht hwt
    simp only [List.length_map, hlen, hrest] at hw1
    have hcap : cap ≤ reachBytes := by
      have : (len + (cap - len)) * 1 ≤ (len + (cap - len)) * P.bytesOf e := Nat.mul_le_mul_left _ hb1
      omega
    have key : ∀ i, i < len → ∃ y : List Value × α, y.1.length = r.size ∧ r.rel W W.heap.size y.1 y.2 ∧ ∀ j v, y.1[j]? = some v → W.cell? ((a.add (i * r.size)).add j) = some v := by
      intro i hi
      have h1 := hel i hi
      have hil : i < elems.length := by omega
      rw [List.getElem?_eq_getElem hil] at h1
      obtain ⟨cs', hc1, hc2⟩ := Option.bind_eq_some_iff.1 h1
      rw [hr.1] at hc1
      obtain ⟨_, hcl, hat⟩ := World.cells?_some hc1
      obtain ⟨y, hy⟩ := hr.2 H enc W base held n cs' _ hc2 (hw2 _ (List.mem_map.2 ⟨_, List.getElem_mem hil, rfl⟩))
      refine ⟨(cs', y), hcl, hy, fun j v hv => ?_⟩
      have hj : j < r.size := by
        have hlt := (List.getElem?_eq_some_iff.1 hv).1
        simp only at hlt
        omega
      rw [hat j hj]; exact hv
    classical
    obtain ⟨f, hf⟩ : ∃ f : ∀ i, i < len → List Value × α, ∀ i (hi : i < len), (f i hi).1.length = r.size ∧ r.rel W W.heap.size (f i hi).1 (f i hi).2 ∧ ∀ j v, (f i hi).1[j]? = some v → W.cell? ((a.add (i * r.size)).add j) = some v :=
      ⟨fun i hi => Classical.choose (key i hi), fun i hi => Classical.choose_spec (key i hi)⟩
    refine ⟨(List.range len).attach.map fun i => (f i.1 (List.mem_range.1 i.2)).2, some a, len, cap, rfl, ⟨by simp, hl, Nat.le_trans hcap (by decide), fun i hi => ?_⟩, Nat.le_trans hcap (by decide)⟩
    obtain ⟨hfl, hfr, hfc⟩ := hf i hi
    obtain ⟨b, off, spot⟩ := a
    have hspot : spot = none := by
      have h0 := (hf i hi).2.2 0 ((f i hi).1[0]'(by omega)) (List.getElem?_eq_getElem _)
      rw [add_of_add] at h0
      have hs := World.cell?_spot h0
      rcases Nat.eq_zero_or_pos (i * r.size + 0) with e | e
      · rw [e] at hs; simpa [Addr.add] using hs
      · by_cases hn : spot = none
        · exact hn
        · have hne : (i * r.size + 0 : Nat) ≠ 0 := by omega
          simp only [Addr.add, hne, if_false] at hs
          have hw0 := (hf 0 (by omega)).2.2 0 ((f 0 (by omega)).1[0]'(by have := (hf 0 (by omega)).1; omega)) (List.getElem?_eq_getElem _)
          have := World.cell?_spot hw0
          simpa [Addr.add] using this
    subst hspot
    have hform : ∀ j, ((⟨b, off, none⟩ : Addr).add (i * r.size)).add j = ⟨b, off + (i * r.size + j), none⟩ := by
      intro j
      rw [add_of_add]
      unfold Addr.add
      split
      · rename_i h0
        have : i * r.size + j = 0 := by simpa using h0
        rw [this]; rfl
      · rfl
    refine ⟨b, off, (f i hi).2, (f i hi).1, rfl, ?_, by simp [hi], hfr, hfl, fun j v hv => ?_⟩
    · have h0 := hfc 0 ((f i hi).1[0]'(by omega)) (List.getElem?_eq_getElem _)
      rw [hform] at h0
      exact World.block_lt_of_cell? W _ h0
    · rw [← hform]; exact hfc j v hv

theorem Rep.of_slice {α : Type} {r : Rep α} {P : Program} {t e : TypeId} (ht : P.underlying t = some (.slice e)) (hct : P.cellsOf t = 1) (hb1 : 1 ≤ P.bytesOf e) (hsz : 1 ≤ r.size) (hr : r.Of P e) : (Rep.slice r).Of P t :=
  ⟨hct, fun _ _ _ _ _ _ _ _ h hwt => by
    obtain ⟨l, A, n, c, h1, h2, _⟩ := Rep.slice_read ht hb1 hsz hr h hwt
    exact ⟨l, A, n, c, h1, h2⟩⟩

/-- The fields of a struct, one behind the other from a cell on. -/
def FieldsOf (P : Program) : List Field → Nat → (α : Type) → Rep α → Prop
  | [], _, α, r => ∃ h : α = Unit, h ▸ r = Rep.unit
  | f :: fs, off, α, r => ∃ (β γ : Type) (h : α = (β × γ)) (s : Rep β) (t : Rep γ), h ▸ r = Rep.pair s t ∧ f.offset = off ∧ s.Of P f.type ∧ FieldsOf P fs (off + s.size) γ t

theorem FieldsOf.nil_ {P : Program} {off : Nat} : FieldsOf P [] off Unit Rep.unit := ⟨rfl, rfl⟩
theorem FieldsOf.cons_ {P : Program} {f : Field} {fs : List Field} {off : Nat} {β γ : Type} {s : Rep β} {t : Rep γ} (h1 : f.offset = off) (h2 : s.Of P f.type) (h3 : FieldsOf P fs (off + s.size) γ t) :
    FieldsOf P (f :: fs) off (β × γ) (Rep.pair s t) := ⟨β, γ, rfl, s, t, rfl, h1, h2, h3⟩

theorem FieldsOf.read {P : Program} {H : Type} {enc : TypeId × Value → H} {W : World} {base : Nat} {held : Bool} {n : Nat} : ∀ (fs : List Field) (off : Nat) (α : Type) (r : Rep α) (cs : List Value) (xs : List (DataW H × List MemPlace)),
    FieldsOf P fs off α r → cs.length = off + r.size → xs.length = fs.length →
    (∀ (i : Nat) (f : Field), fs[i]? = some f → DataW.trod enc P W base (fun _ => true) held n f.type ((cs.drop f.offset).take (P.cellsOf f.type)) = xs[i]?) →
    (DataW.weightsEach P (fs.map (·.type)) (xs.map (·.1))).all (· ≤ reachBytes) = true → ∃ a, r.rel W W.heap.size (cs.drop off) a
  | [], off, α, r, cs, xs, hF, hl, _, _, _ => by
    obtain ⟨rfl, hr⟩ := hF
    have hr' : r = Rep.unit := hr
    subst hr'
    exact ⟨(), List.drop_eq_nil_of_le (by simp only [Rep.unit] at hl; omega)⟩
  | f :: fs, off, α, r, cs, xs, hF, hl, hx, hat, hw => by
    obtain ⟨β, γ, rfl, s, t, hr, hoff, hs, hrest⟩ := hF
    have hr' : r = Rep.pair s t := hr
    subst hr'
    match xs, hx with
    | x :: xs, hx =>
      simp only [List.map_cons, DataW.weightsEach, List.all_append, Bool.and_eq_true] at hw
      have h0 := hat 0 f rfl
      rw [hoff, hs.1] at h0
      obtain ⟨y, hy⟩ := hs.2 H enc W base held n _ x h0 hw.1
      have hl' : cs.length = off + s.size + t.size := by simp only [Rep.pair] at hl; omega
      obtain ⟨z, hz⟩ := FieldsOf.read fs (off + s.size) γ t cs xs hrest hl' (by simpa using hx) (fun i g hg => by have := hat (i + 1) g (by simpa using hg); simpa using this) hw.2
      refine ⟨(y, z), (cs.drop off).take s.size, cs.drop (off + s.size), ?_, ?_, hy, hz⟩
      · rw [← List.drop_drop, List.take_append_drop]
      · rw [List.length_take, List.length_drop]; omega

theorem Rep.of_struct {α : Type} {r : Rep α} {P : Program} {t : TypeId} {fs : Array Field} (ht : P.underlying t = some (.struct fs)) (hc : P.cellsOf t = r.size) (hF : FieldsOf P fs.toList 0 α r) : r.Of P t := by
  refine ⟨hc, fun H enc W base held fuel cs x h hwt => ?_⟩
  obtain ⟨xs, n, _, rfl, hlen, hxl, hat⟩ := DataW.trod_struct ht h
  simp only [DataW.weights, ht] at hwt
  have := FieldsOf.read fs.toList 0 α r cs xs hF (by rw [hlen, hc]; omega) (by simpa using hxl) (fun i f hf => hat i f (by simpa using hf)) (by simpa [List.map_map] using hwt)
  simpa using this

theorem Rep.of_map {α β : Type} {r : Rep α} {P : Program} {t : TypeId} (f : α → β) (h : r.Of P t) : (r.map f).Of P t :=
  ⟨h.1, fun H enc W base held fuel cs x hx hw => by
    obtain ⟨a, ha⟩ := h.2 H enc W base held fuel cs x hx hw
    exact ⟨f a, a, ha, rfl⟩⟩

theorem Rep.of_bytes {P : Program} {t e : TypeId} (ht : P.underlying t = some (.slice e)) (hct : P.cellsOf t = 1) (he : P.underlying e = some (.int .u8)) (hce : P.cellsOf e = 1) (hb1 : 1 ≤ P.bytesOf e) : Rep.bytes.Of P t := by
  refine ⟨hct, fun H enc W base held fuel cs x h hwt => ?_⟩
  obtain ⟨l, A, n, c, rfl, hs, hcap⟩ := Rep.slice_read (r := Rep.int .u8) ht hb1 (by decide) (Rep.of_int he hce) h hwt
  have hwf : ∀ (i : Nat) (z : Int), l[i]? = some z → 0 ≤ z ∧ z ≤ 255 := by
    intro i z hz
    have hi : i < n := by have := (List.getElem?_eq_some_iff.1 hz).1; have := hs.len; omega
    obtain ⟨b, off, x, cs', _, _, hx, ⟨_, hw⟩, _⟩ := hs.row i hi
    rw [hz] at hx; cases hx
    simp [Lit.wf, IntKind.min, IntKind.max, IntKind.signed, IntKind.bits] at hw
    simpa using hw
  refine ⟨l.map fun z => UInt8.ofNat z.toNat, A, n, c, rfl, ⟨⟨by simp [hs.len], fun hn => ?_⟩, hs.nc, by have := hs.cm; omega⟩, hcap⟩
  obtain ⟨b, off, x, cs', hA, hb, hx, ⟨rfl, _⟩, _, hc⟩ := hs.row 0 hn
  refine ⟨_, hA, hb, fun j u hu => ?_⟩
  rw [List.map_map, List.getElem?_map, Option.map_eq_some_iff] at hu
  obtain ⟨z, hz, rfl⟩ := hu
  have hj : j < n := by have := (List.getElem?_eq_some_iff.1 hz).1; have := hs.len; omega
  obtain ⟨b', off', x', cs'', hA', _, hx', ⟨rfl, _⟩, _, hc'⟩ := hs.row j hj
  rw [hA] at hA'; cases hA'
  rw [hz] at hx'; cases hx'
  have h1 := hc' 0 _ rfl
  have hform : (⟨b, off, none⟩ : Addr).add j = ⟨b, off + (j * (Rep.int .u8).size + 0), none⟩ := by
    unfold Addr.add
    split
    · rename_i h0
      have : j = 0 := by simpa using h0
      subst this; simp
    · simp [Rep.int]
  rw [hform, h1]
  have hb := hwf j z hz
  have e : (UInt8.ofNat z.toNat).toNat = z.toNat % 256 := by simp
  simp only [Function.comp, byteV, Option.some.injEq, Value.int.injEq, true_and]
  rw [e]; omega

theorem each_cons {H : Type} {P : Program} {t : TypeId} {ts : List TypeId} {d : DataW H} {ds : List (DataW H)} {f : Nat → Bool} (h : (DataW.weightsEach P (t :: ts) (d :: ds)).all f = true) :
    (d.weights P t).all f = true ∧ (DataW.weightsEach P ts ds).all f = true := by
  simpa only [DataW.weightsEach, List.all_append, Bool.and_eq_true] using h

/-- A slice argument. -/
theorem slr_in {α : Type} {r : Rep α} {P : Program} {t : TypeId} (hO : (Rep.slice r).Of P t) {H : Type} {enc : TypeId × Value → H} {W : World} {base : Nat} {held : Bool} {a : Option Addr} {len cap : Nat} {d : DataW H} {p : List MemPlace}
    (h : DataW.Trod enc P W base (fun _ => true) held t (.slice a len cap) d p) (hw : (d.weights P t).all (· ≤ reachBytes) = true) : ∃ l, SlR r W W.heap.size a len cap l := by
  obtain ⟨fuel, hf⟩ := h
  obtain ⟨l, A, n, c, hcs, hs⟩ := hO.2 H enc W base held fuel _ _ hf hw
  simp [Value.cells] at hcs
  obtain ⟨rfl, rfl, rfl⟩ := hcs
  exact ⟨l, hs⟩
/-- A byte string argument. -/
theorem bytes_in {P : Program} {t : TypeId} (hO : Rep.bytes.Of P t) {H : Type} {enc : TypeId × Value → H} {W : World} {base : Nat} {held : Bool} {a : Option Addr} {len cap : Nat} {d : DataW H} {p : List MemPlace}
    (h : DataW.Trod enc P W base (fun _ => true) held t (.slice a len cap) d p) (hw : (d.weights P t).all (· ≤ reachBytes) = true) : ∃ bs : List UInt8, Sl W W.heap.size 1 a len cap (bs.map byteV) := by
  obtain ⟨fuel, hf⟩ := h
  obtain ⟨l, A, n, c, hcs, hs, _⟩ := hO.2 H enc W base held fuel _ _ hf hw
  simp [Value.cells] at hcs
  obtain ⟨rfl, rfl, rfl⟩ := hcs
  exact ⟨l, hs⟩
/-- A struct argument. -/
theorem agg_in {α : Type} {r : Rep α} {P : Program} {t : TypeId} (hO : r.Of P t) {H : Type} {enc : TypeId × Value → H} {W : World} {base : Nat} {held : Bool} {cs : Array Value} {d : DataW H} {p : List MemPlace}
    (h : DataW.Trod enc P W base (fun _ => true) held t (.agg cs) d p) (hw : (d.weights P t).all (· ≤ reachBytes) = true) : ∃ a, r.rel W W.heap.size cs.toList a := by
  obtain ⟨fuel, hf⟩ := h
  exact hO.2 H enc W base held fuel _ _ hf hw

end Go.Gab

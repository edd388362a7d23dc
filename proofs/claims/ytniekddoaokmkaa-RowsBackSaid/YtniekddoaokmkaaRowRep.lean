/-
  Layer 23 (rows): how a state lies in memory.
-/
import Derived.Test.YtniekddoaokmkaaProg
import Derived.Test.YtniekddoaokmkaaRep
import Derived.Test.YtniekddoaokmkaaRowPlain
namespace Go.Proofs.Ytniekddoaokmkaa
open Go.RowKit Go.Gab
set_option linter.unusedVariables false

/-! ### Ways of reading -/
/-- A byte string, of any capacity, with its bound. -/
structure BytesAt (w : World) (B : Nat) (A : Option Addr) (n c : Nat) (bs : List UInt8) : Prop where
  sl : Sl w B 1 A n c (bs.map byteV)
  cm : n ≤ 140737488355328
def bytesR : Rep (List UInt8) where
  size := 1
  rel w B cs bs := ∃ A n c, cs = [.slice A n c] ∧ BytesAt w B A n c bs
  keep hk h := by obtain ⟨A, n, c, h1, h2⟩ := h; exact ⟨A, n, c, h1, h2.sl.keep hk, h2.cm⟩
  more hB h := by obtain ⟨A, n, c, h1, h2⟩ := h; exact ⟨A, n, c, h1, h2.sl.more hB, h2.cm⟩
theorem bytesR_of {P : Program} {t : TypeId} (h : Rep.bytes.Of P t) : bytesR.Of P t :=
  ⟨h.1, fun H enc W base held fuel cs x hx hw => by
    obtain ⟨a, A, n, c, h1, h2, h3⟩ := h.2 H enc W base held fuel cs x hx hw
    exact ⟨a, A, n, c, h1, h2, Nat.le_trans h2.nc h3⟩⟩
def acctR : Rep Rws.Acct := (Rep.pair (Rep.int .i64) (Rep.pair (Rep.int .i64) Rep.unit)).map fun x => ⟨x.1, x.2.1⟩
def edgeR : Rep Rws.Edge := (Rep.pair (Rep.int .i64) (Rep.pair (Rep.int .i64) (Rep.pair (Rep.int .i64) (Rep.pair (Rep.int .i64) Rep.unit)))).map fun x => ⟨x.1, x.2.1, x.2.2.1, x.2.2.2.1⟩
def dueR : Rep Rws.Due := (Rep.pair (Rep.int .u64) (Rep.pair (Rep.int .i64) (Rep.pair (Rep.int .i64) (Rep.pair (Rep.int .i64) (Rep.pair (Rep.int .i64) (Rep.pair (Rep.int .i64) (Rep.pair Rep.bool Rep.unit))))))).map
  fun x => ⟨x.1, x.2.1, x.2.2.1, x.2.2.2.1, x.2.2.2.2.1, x.2.2.2.2.2.1, x.2.2.2.2.2.2.1⟩
def netR := Rep.pair (Rep.int .i64) (Rep.pair (Rep.slice edgeR) Rep.unit)
def certR := Rep.pair (Rep.slice (Rep.int .i64)) (Rep.pair (Rep.slice (Rep.int .i64)) Rep.unit)
def roundR : Rep Rws.Round := (Rep.pair (Rep.int .u64) (Rep.pair (Rep.int .i64) (Rep.pair Rep.bool (Rep.pair (Rep.slice (Rep.int .u64)) (Rep.pair netR (Rep.pair certR Rep.unit)))))).map
  fun x => ⟨x.1, x.2.1, x.2.2.1, x.2.2.2.1, x.2.2.2.2.1.1, x.2.2.2.2.1.2.1, x.2.2.2.2.2.1.1, x.2.2.2.2.2.1.2.1⟩
def askedR : Rep Rws.Asked := (Rep.pair (Rep.int .u32) (Rep.pair (Rep.int .u64) (Rep.pair bytesR (Rep.pair bytesR Rep.unit)))).map fun x => ⟨x.1, x.2.1, x.2.2.1, x.2.2.2.1⟩
def stR : Rep Rws.St := (Rep.pair (Rep.int .i64) (Rep.pair (Rep.slice acctR) (Rep.pair (Rep.slice dueR) (Rep.pair (Rep.int .u64) (Rep.pair (Rep.slice roundR) (Rep.pair (Rep.int .u64) (Rep.pair (Rep.slice askedR) Rep.unit))))))).map
  fun x => ⟨x.1, x.2.1, x.2.2.1, x.2.2.2.1, x.2.2.2.2.1, x.2.2.2.2.2.1, x.2.2.2.2.2.2.1⟩
def pairR : Rep Rws.Pair := (Rep.pair bytesR (Rep.pair bytesR Rep.unit)).map fun x => (x.1, x.2.1)

def I64 (z : Int) : Prop := -9223372036854775808 ≤ z ∧ z ≤ 9223372036854775807
def U64 (z : Int) : Prop := 0 ≤ z ∧ z < 18446744073709551616
def U32 (z : Int) : Prop := 0 ≤ z ∧ z < 4294967296
theorem i64_of_wf {z : Int} (h : (Lit.int .i64 z).wf = true) : I64 z := by
  simp [Lit.wf, IntKind.min, IntKind.max, IntKind.signed, IntKind.bits] at h
  unfold I64
  simpa using h
theorem wf_i64 {z : Int} (h : I64 z) : (Lit.int .i64 z).wf = true := by
  unfold I64 at h
  simp [Lit.wf, IntKind.min, IntKind.max, IntKind.signed, IntKind.bits]
  exact h
theorem u64_of_wf {z : Int} (h : (Lit.int .u64 z).wf = true) : U64 z := by
  simp [Lit.wf, IntKind.min, IntKind.max, IntKind.signed, IntKind.bits] at h
  unfold U64
  omega
theorem wf_u64 {z : Int} (h : U64 z) : (Lit.int .u64 z).wf = true := by
  unfold U64 at h
  simp [Lit.wf, IntKind.min, IntKind.max, IntKind.signed, IntKind.bits]
  omega
theorem u32_of_wf {z : Int} (h : (Lit.int .u32 z).wf = true) : U32 z := by
  simp [Lit.wf, IntKind.min, IntKind.max, IntKind.signed, IntKind.bits] at h
  unfold U32
  omega
theorem wf_u32 {z : Int} (h : U32 z) : (Lit.int .u32 z).wf = true := by
  unfold U32 at h
  simp [Lit.wf, IntKind.min, IntKind.max, IntKind.signed, IntKind.bits]
  omega

section
variable {w : World} {B : Nat}
theorem acct_rel {cs : List Value} {x : Rws.Acct} (h : acctR.rel w B cs x) : cs = [.int .i64 x.bal, .int .i64 x.res] ∧ I64 x.bal ∧ I64 x.res := by
  obtain ⟨y, ⟨c1, r1, rfl, _, ⟨rfl, w1⟩, c2, r2, rfl, _, ⟨rfl, w2⟩, h3⟩, rfl⟩ := h
  have h3' : r2 = [] := h3
  subst h3'
  exact ⟨rfl, i64_of_wf w1, i64_of_wf w2⟩
theorem acct_mk {x : Rws.Acct} (h1 : I64 x.bal) (h2 : I64 x.res) : acctR.rel w B [.int .i64 x.bal, .int .i64 x.res] x :=
  ⟨(x.bal, x.res, ()), ⟨_, _, rfl, rfl, ⟨rfl, wf_i64 h1⟩, _, [], rfl, rfl, ⟨rfl, wf_i64 h2⟩, rfl⟩, rfl⟩
theorem edge_rel {cs : List Value} {x : Rws.Edge} (h : edgeR.rel w B cs x) : cs = [.int .i64 x.frm, .int .i64 x.to, .int .i64 x.cap, .int .i64 x.cost] ∧ I64 x.frm ∧ I64 x.to ∧ I64 x.cap ∧ I64 x.cost := by
  obtain ⟨y, ⟨c1, r1, rfl, _, ⟨rfl, w1⟩, c2, r2, rfl, _, ⟨rfl, w2⟩, c3, r3, rfl, _, ⟨rfl, w3⟩, c4, r4, rfl, _, ⟨rfl, w4⟩, h5⟩, rfl⟩ := h
  have h5' : r4 = [] := h5
  subst h5'
  exact ⟨rfl, i64_of_wf w1, i64_of_wf w2, i64_of_wf w3, i64_of_wf w4⟩
theorem edge_mk {x : Rws.Edge} (h1 : I64 x.frm) (h2 : I64 x.to) (h3 : I64 x.cap) (h4 : I64 x.cost) : edgeR.rel w B [.int .i64 x.frm, .int .i64 x.to, .int .i64 x.cap, .int .i64 x.cost] x :=
  ⟨(x.frm, x.to, x.cap, x.cost, ()), ⟨_, _, rfl, rfl, ⟨rfl, wf_i64 h1⟩, _, _, rfl, rfl, ⟨rfl, wf_i64 h2⟩, _, _, rfl, rfl, ⟨rfl, wf_i64 h3⟩, _, [], rfl, rfl, ⟨rfl, wf_i64 h4⟩, rfl⟩, rfl⟩
theorem due_rel {cs : List Value} {x : Rws.Due} (h : dueR.rel w B cs x) :
    cs = [.int .u64 x.id, .int .i64 x.frm, .int .i64 x.to, .int .i64 x.amt, .int .i64 x.wt, .int .i64 x.til, .bool x.held] ∧ U64 x.id ∧ I64 x.frm ∧ I64 x.to ∧ I64 x.amt ∧ I64 x.wt ∧ I64 x.til := by
  obtain ⟨y, ⟨c1, r1, rfl, _, ⟨rfl, w1⟩, c2, r2, rfl, _, ⟨rfl, w2⟩, c3, r3, rfl, _, ⟨rfl, w3⟩, c4, r4, rfl, _, ⟨rfl, w4⟩, c5, r5, rfl, _, ⟨rfl, w5⟩, c6, r6, rfl, _, ⟨rfl, w6⟩, c7, r7, rfl, _, h7, h8⟩, rfl⟩ := h
  have h7' : c7 = [.bool y.2.2.2.2.2.2.1] := h7
  have h8' : r7 = [] := h8
  subst h7'; subst h8'
  exact ⟨rfl, u64_of_wf w1, i64_of_wf w2, i64_of_wf w3, i64_of_wf w4, i64_of_wf w5, i64_of_wf w6⟩
theorem due_mk {x : Rws.Due} (h1 : U64 x.id) (h2 : I64 x.frm) (h3 : I64 x.to) (h4 : I64 x.amt) (h5 : I64 x.wt) (h6 : I64 x.til) :
    dueR.rel w B [.int .u64 x.id, .int .i64 x.frm, .int .i64 x.to, .int .i64 x.amt, .int .i64 x.wt, .int .i64 x.til, .bool x.held] x :=
  ⟨(x.id, x.frm, x.to, x.amt, x.wt, x.til, x.held, ()), ⟨_, _, rfl, rfl, ⟨rfl, wf_u64 h1⟩, _, _, rfl, rfl, ⟨rfl, wf_i64 h2⟩, _, _, rfl, rfl, ⟨rfl, wf_i64 h3⟩, _, _, rfl, rfl, ⟨rfl, wf_i64 h4⟩, _, _, rfl, rfl, ⟨rfl, wf_i64 h5⟩, _, _, rfl, rfl, ⟨rfl, wf_i64 h6⟩,
    _, [], rfl, rfl, rfl, rfl⟩, rfl⟩

/-- A round, whole. -/
structure RoundAt (w : World) (B : Nat) (x : Rws.Round) (Ai Ae Af Ap : Option Addr) (ci ce cf cp : Nat) : Prop where
  no : U64 x.no
  day : I64 x.day
  n : I64 x.n
  ids : SlR (Rep.int .u64) w B Ai x.ids.length ci x.ids
  edges : SlR edgeR w B Ae x.edges.length ce x.edges
  flow : SlR (Rep.int .i64) w B Af x.flow.length cf x.flow
  pot : SlR (Rep.int .i64) w B Ap x.pot.length cp x.pot
def roundC (x : Rws.Round) (Ai Ae Af Ap : Option Addr) (ci ce cf cp : Nat) : List Value :=
  [.int .u64 x.no, .int .i64 x.day, .bool x.comp, .slice Ai x.ids.length ci, .int .i64 x.n, .slice Ae x.edges.length ce, .slice Af x.flow.length cf, .slice Ap x.pot.length cp]
theorem round_rel {cs : List Value} {x : Rws.Round} (h : roundR.rel w B cs x) : ∃ Ai Ae Af Ap ci ce cf cp, cs = roundC x Ai Ae Af Ap ci ce cf cp ∧ RoundAt w B x Ai Ae Af Ap ci ce cf cp := by
  obtain ⟨y, ⟨c1, r1, rfl, _, ⟨rfl, w1⟩, c2, r2, rfl, _, ⟨rfl, w2⟩, c3, r3, rfl, _, w3, c4, r4, rfl, _, ⟨Ai, ni, ci, rfl, w4⟩, c5, r5, rfl, _, ⟨d1, q1, rfl, _, ⟨rfl, w5⟩, d2, q2, rfl, _, ⟨Ae, ne, ce, rfl, w6⟩, h6⟩, c6, r6, rfl, _, ⟨e1, s1, rfl, _, ⟨Af, nf, cf, rfl, w7⟩, e2, s2, rfl, _, ⟨Ap, np, cp, rfl, w8⟩, h8⟩, h9⟩, rfl⟩ := h
  have w3' : c3 = [.bool y.2.2.1] := w3
  have h6' : q2 = [] := h6
  have h8' : s2 = [] := h8
  have h9' : r6 = [] := h9
  subst w3' h6' h8' h9'
  have e4 := w4.len
  have e6 := w6.len
  have e7 := w7.len
  have e8 := w8.len
  subst e4 e6 e7 e8
  exact ⟨Ai, Ae, Af, Ap, ci, ce, cf, cp, rfl, u64_of_wf w1, i64_of_wf w2, i64_of_wf w5, w4, w6, w7, w8⟩
theorem round_mk {x : Rws.Round} {Ai Ae Af Ap : Option Addr} {ci ce cf cp : Nat} (h : RoundAt w B x Ai Ae Af Ap ci ce cf cp) : roundR.rel w B (roundC x Ai Ae Af Ap ci ce cf cp) x :=
  ⟨(x.no, x.day, x.comp, x.ids, (x.n, x.edges, ()), (x.flow, x.pot, ()), ()), ⟨_, _, rfl, rfl, ⟨rfl, wf_u64 h.no⟩, _, _, rfl, rfl, ⟨rfl, wf_i64 h.day⟩, _, _, rfl, rfl, rfl, _, _, rfl, rfl, ⟨Ai, _, ci, rfl, h.ids⟩,
    [.int .i64 x.n, .slice Ae x.edges.length ce], [.slice Af x.flow.length cf, .slice Ap x.pot.length cp], rfl, rfl, ⟨_, _, rfl, rfl, ⟨rfl, wf_i64 h.n⟩, _, [], rfl, rfl, ⟨Ae, _, ce, rfl, h.edges⟩, rfl⟩,
    [.slice Af x.flow.length cf, .slice Ap x.pot.length cp], [], rfl, rfl, ⟨_, _, rfl, rfl, ⟨Af, _, cf, rfl, h.flow⟩, _, [], rfl, rfl, ⟨Ap, _, cp, rfl, h.pot⟩, rfl⟩, rfl⟩, rfl⟩

theorem bytes_rel {cs : List Value} {bs : List UInt8} (h : bytesR.rel w B cs bs) : ∃ A c, cs = [.slice A bs.length c] ∧ BytesAt w B A bs.length c bs := by
  obtain ⟨A, n, c, rfl, hs⟩ := h
  have e := hs.sl.lenB
  subst e
  exact ⟨A, c, rfl, hs⟩
theorem bytes_mk {A : Option Addr} {c : Nat} {bs : List UInt8} (h : BytesAt w B A bs.length c bs) : bytesR.rel w B [.slice A bs.length c] bs := ⟨A, _, c, rfl, h⟩

theorem asked_rel {cs : List Value} {x : Rws.Asked} (h : askedR.rel w B cs x) :
    ∃ A1 A2 c1 c2, cs = [.int .u32 x.client, .int .u64 x.seq, .slice A1 x.ask.length c1, .slice A2 x.reply.length c2] ∧ U32 x.client ∧ U64 x.seq ∧ BytesAt w B A1 x.ask.length c1 x.ask ∧ BytesAt w B A2 x.reply.length c2 x.reply := by
  obtain ⟨y, ⟨c1, r1, rfl, _, ⟨rfl, w1⟩, c2, r2, rfl, _, ⟨rfl, w2⟩, c3, r3, rfl, _, w3, c4, r4, rfl, _, w4, h5⟩, rfl⟩ := h
  have h5' : r4 = [] := h5
  subst h5'
  obtain ⟨A1, d1, rfl, b1⟩ := bytes_rel w3
  obtain ⟨A2, d2, rfl, b2⟩ := bytes_rel w4
  exact ⟨A1, A2, d1, d2, rfl, u32_of_wf w1, u64_of_wf w2, b1, b2⟩
theorem asked_mk {x : Rws.Asked} {A1 A2 : Option Addr} {c1 c2 : Nat} (h1 : U32 x.client) (h2 : U64 x.seq) (h3 : BytesAt w B A1 x.ask.length c1 x.ask) (h4 : BytesAt w B A2 x.reply.length c2 x.reply) :
    askedR.rel w B [.int .u32 x.client, .int .u64 x.seq, .slice A1 x.ask.length c1, .slice A2 x.reply.length c2] x :=
  ⟨(x.client, x.seq, x.ask, x.reply, ()), ⟨_, _, rfl, rfl, ⟨rfl, wf_u32 h1⟩, _, _, rfl, rfl, ⟨rfl, wf_u64 h2⟩, _, _, rfl, rfl, bytes_mk h3, _, [], rfl, rfl, bytes_mk h4, rfl⟩, rfl⟩

theorem pair_rel {cs : List Value} {x : Rws.Pair} (h : pairR.rel w B cs x) : ∃ A1 A2 c1 c2, cs = [.slice A1 x.1.length c1, .slice A2 x.2.length c2] ∧ BytesAt w B A1 x.1.length c1 x.1 ∧ BytesAt w B A2 x.2.length c2 x.2 := by
  obtain ⟨y, ⟨c3, r3, rfl, _, w3, c4, r4, rfl, _, w4, h5⟩, rfl⟩ := h
  have h5' : r4 = [] := h5
  subst h5'
  obtain ⟨A1, d1, rfl, b1⟩ := bytes_rel w3
  obtain ⟨A2, d2, rfl, b2⟩ := bytes_rel w4
  exact ⟨A1, A2, d1, d2, rfl, b1, b2⟩
theorem pair_mk {x : Rws.Pair} {A1 A2 : Option Addr} {c1 c2 : Nat} (h3 : BytesAt w B A1 x.1.length c1 x.1) (h4 : BytesAt w B A2 x.2.length c2 x.2) :
    pairR.rel w B [.slice A1 x.1.length c1, .slice A2 x.2.length c2] x :=
  ⟨(x.1, x.2, ()), ⟨_, _, rfl, rfl, bytes_mk h3, _, [], rfl, rfl, bytes_mk h4, rfl⟩, rfl⟩

/-- A state, whole. -/
structure StAt (w : World) (B : Nat) (s : Rws.St) (Aa Ad Ar Aq : Option Addr) (ca cd cr cq : Nat) : Prop where
  day : I64 s.day
  next : U64 s.next
  no : U64 s.no
  accts : SlR acctR w B Aa s.accts.length ca s.accts
  dues : SlR dueR w B Ad s.dues.length cd s.dues
  rounds : SlR roundR w B Ar s.rounds.length cr s.rounds
  asked : SlR askedR w B Aq s.asked.length cq s.asked
def stC (s : Rws.St) (Aa Ad Ar Aq : Option Addr) (ca cd cr cq : Nat) : List Value :=
  [.int .i64 s.day, .slice Aa s.accts.length ca, .slice Ad s.dues.length cd, .int .u64 s.next, .slice Ar s.rounds.length cr, .int .u64 s.no, .slice Aq s.asked.length cq]
theorem st_rel {cs : List Value} {s : Rws.St} (h : stR.rel w B cs s) : ∃ Aa Ad Ar Aq ca cd cr cq, cs = stC s Aa Ad Ar Aq ca cd cr cq ∧ StAt w B s Aa Ad Ar Aq ca cd cr cq := by
  obtain ⟨y, ⟨c1, r1, rfl, _, ⟨rfl, w1⟩, c2, r2, rfl, _, ⟨Aa, na, ca, rfl, w2⟩, c3, r3, rfl, _, ⟨Ad, nd, cd, rfl, w3⟩, c4, r4, rfl, _, ⟨rfl, w4⟩, c5, r5, rfl, _, ⟨Ar, nr, cr, rfl, w5⟩, c6, r6, rfl, _, ⟨rfl, w6⟩, c7, r7, rfl, _, ⟨Aq, nq, cq, rfl, w7⟩, h8⟩, rfl⟩ := h
  have h8' : r7 = [] := h8
  subst h8'
  have e2 := w2.len
  have e3 := w3.len
  have e5 := w5.len
  have e7 := w7.len
  subst e2 e3 e5 e7
  exact ⟨Aa, Ad, Ar, Aq, ca, cd, cr, cq, rfl, i64_of_wf w1, u64_of_wf w4, u64_of_wf w6, w2, w3, w5, w7⟩
theorem st_mk {s : Rws.St} {Aa Ad Ar Aq : Option Addr} {ca cd cr cq : Nat} (h : StAt w B s Aa Ad Ar Aq ca cd cr cq) : stR.rel w B (stC s Aa Ad Ar Aq ca cd cr cq) s :=
  ⟨(s.day, s.accts, s.dues, s.next, s.rounds, s.no, s.asked, ()), ⟨_, _, rfl, rfl, ⟨rfl, wf_i64 h.day⟩, _, _, rfl, rfl, ⟨Aa, _, ca, rfl, h.accts⟩, _, _, rfl, rfl, ⟨Ad, _, cd, rfl, h.dues⟩, _, _, rfl, rfl, ⟨rfl, wf_u64 h.next⟩,
    _, _, rfl, rfl, ⟨Ar, _, cr, rfl, h.rounds⟩, _, _, rfl, rfl, ⟨rfl, wf_u64 h.no⟩, _, [], rfl, rfl, ⟨Aq, _, cq, rfl, h.asked⟩, rfl⟩, rfl⟩
end

section
variable {w w' : World} {B B1 : Nat}
theorem RoundAt.below {x : Rws.Round} {Ai Ae Af Ap : Option Addr} {ci ce cf cp : Nat} (h : RoundAt w B x Ai Ae Af Ap ci ce cf cp) (hb : Below B1 w w') (hB : B ≤ B1) : RoundAt w' B x Ai Ae Af Ap ci ce cf cp :=
  ⟨h.no, h.day, h.n, h.ids.below hb hB, h.edges.below hb hB, h.flow.below hb hB, h.pot.below hb hB⟩
theorem RoundAt.more {x : Rws.Round} {Ai Ae Af Ap : Option Addr} {ci ce cf cp : Nat} (h : RoundAt w B x Ai Ae Af Ap ci ce cf cp) (hB : B ≤ B1) : RoundAt w B1 x Ai Ae Af Ap ci ce cf cp :=
  ⟨h.no, h.day, h.n, h.ids.more hB, h.edges.more hB, h.flow.more hB, h.pot.more hB⟩
theorem BytesAt.below {A : Option Addr} {n c : Nat} {bs : List UInt8} (h : BytesAt w B A n c bs) (hb : Below B1 w w') (hB : B ≤ B1) : BytesAt w' B A n c bs := ⟨h.sl.below' hb hB, h.cm⟩
theorem BytesAt.more {A : Option Addr} {n c : Nat} {bs : List UInt8} (h : BytesAt w B A n c bs) (hB : B ≤ B1) : BytesAt w B1 A n c bs := ⟨h.sl.more hB, h.cm⟩
theorem StAt.below {s : Rws.St} {Aa Ad Ar Aq : Option Addr} {ca cd cr cq : Nat} (h : StAt w B s Aa Ad Ar Aq ca cd cr cq) (hb : Below B1 w w') (hB : B ≤ B1) : StAt w' B s Aa Ad Ar Aq ca cd cr cq :=
  ⟨h.day, h.next, h.no, h.accts.below hb hB, h.dues.below hb hB, h.rounds.below hb hB, h.asked.below hb hB⟩
theorem StAt.more {s : Rws.St} {Aa Ad Ar Aq : Option Addr} {ca cd cr cq : Nat} (h : StAt w B s Aa Ad Ar Aq ca cd cr cq) (hB : B ≤ B1) : StAt w B1 s Aa Ad Ar Aq ca cd cr cq :=
  ⟨h.day, h.next, h.no, h.accts.more hB, h.dues.more hB, h.rounds.more hB, h.asked.more hB⟩
end

/-! ### An element of a row -/
section
variable {w : World} {B : Nat} {A : Option Addr} {n c : Nat}
theorem int_at {k : IntKind} {ls : List Int} (hr : SlR (Rep.int k) w B A n c ls) {i : Nat} (hi : i < n) : ∃ b off z, A = some ⟨b, off, none⟩ ∧ b < B ∧ ls[i]? = some z ∧ w.cell? ⟨b, off + i, none⟩ = some (.int k z) ∧ (Lit.int k z).wf = true := by
  obtain ⟨b, off, z, cs, hA, hb, hx, ⟨rfl, hw⟩, hl, hc⟩ := hr.row i hi
  refine ⟨b, off, z, hA, hb, hx, ?_, hw⟩
  simpa [Rep.int] using hc 0 _ rfl
theorem acct_at {xs : List Rws.Acct} (hr : SlR acctR w B A n c xs) {i : Nat} (hi : i < n) :
    ∃ b off x, A = some ⟨b, off, none⟩ ∧ b < B ∧ xs[i]? = some x ∧ w.cell? ⟨b, off + i * 2, none⟩ = some (.int .i64 x.bal) ∧ w.cell? ⟨b, off + i * 2 + 1, none⟩ = some (.int .i64 x.res) ∧ I64 x.bal ∧ I64 x.res := by
  obtain ⟨b, off, x, cs, hA, hb, hx, hrel, hl, hc⟩ := hr.row i hi
  obtain ⟨rfl, h1, h2⟩ := acct_rel hrel
  exact ⟨b, off, x, hA, hb, hx, hc 0 _ rfl, hc 1 _ rfl, h1, h2⟩
theorem edge_at {xs : List Rws.Edge} (hr : SlR edgeR w B A n c xs) {i : Nat} (hi : i < n) :
    ∃ b off x, A = some ⟨b, off, none⟩ ∧ b < B ∧ xs[i]? = some x ∧ w.cell? ⟨b, off + i * 4, none⟩ = some (.int .i64 x.frm) ∧ w.cell? ⟨b, off + i * 4 + 1, none⟩ = some (.int .i64 x.to) ∧ w.cell? ⟨b, off + i * 4 + 2, none⟩ = some (.int .i64 x.cap) ∧
      w.cell? ⟨b, off + i * 4 + 3, none⟩ = some (.int .i64 x.cost) ∧ I64 x.frm ∧ I64 x.to ∧ I64 x.cap ∧ I64 x.cost := by
  obtain ⟨b, off, x, cs, hA, hb, hx, hrel, hl, hc⟩ := hr.row i hi
  obtain ⟨rfl, h1, h2, h3, h4⟩ := edge_rel hrel
  exact ⟨b, off, x, hA, hb, hx, hc 0 _ rfl, hc 1 _ rfl, hc 2 _ rfl, hc 3 _ rfl, h1, h2, h3, h4⟩
theorem due_at {xs : List Rws.Due} (hr : SlR dueR w B A n c xs) {i : Nat} (hi : i < n) :
    ∃ b off x, A = some ⟨b, off, none⟩ ∧ b < B ∧ xs[i]? = some x ∧ w.cell? ⟨b, off + i * 7, none⟩ = some (.int .u64 x.id) ∧ w.cell? ⟨b, off + i * 7 + 1, none⟩ = some (.int .i64 x.frm) ∧ w.cell? ⟨b, off + i * 7 + 2, none⟩ = some (.int .i64 x.to) ∧
      w.cell? ⟨b, off + i * 7 + 3, none⟩ = some (.int .i64 x.amt) ∧ w.cell? ⟨b, off + i * 7 + 4, none⟩ = some (.int .i64 x.wt) ∧ w.cell? ⟨b, off + i * 7 + 5, none⟩ = some (.int .i64 x.til) ∧ w.cell? ⟨b, off + i * 7 + 6, none⟩ = some (.bool x.held) ∧
      U64 x.id ∧ I64 x.frm ∧ I64 x.to ∧ I64 x.amt ∧ I64 x.wt ∧ I64 x.til := by
  obtain ⟨b, off, x, cs, hA, hb, hx, hrel, hl, hc⟩ := hr.row i hi
  obtain ⟨rfl, h1, h2, h3, h4, h5, h6⟩ := due_rel hrel
  exact ⟨b, off, x, hA, hb, hx, hc 0 _ rfl, hc 1 _ rfl, hc 2 _ rfl, hc 3 _ rfl, hc 4 _ rfl, hc 5 _ rfl, hc 6 _ rfl, h1, h2, h3, h4, h5, h6⟩
theorem round_at {xs : List Rws.Round} (hr : SlR roundR w B A n c xs) {i : Nat} (hi : i < n) :
    ∃ b off x Ai Ae Af Ap ci ce cf cp, A = some ⟨b, off, none⟩ ∧ b < B ∧ xs[i]? = some x ∧ RoundAt w B x Ai Ae Af Ap ci ce cf cp ∧ w.cell? ⟨b, off + i * 8, none⟩ = some (.int .u64 x.no) ∧ w.cell? ⟨b, off + i * 8 + 1, none⟩ = some (.int .i64 x.day) ∧
      w.cell? ⟨b, off + i * 8 + 2, none⟩ = some (.bool x.comp) ∧ w.cell? ⟨b, off + i * 8 + 3, none⟩ = some (.slice Ai x.ids.length ci) ∧ w.cell? ⟨b, off + i * 8 + 4, none⟩ = some (.int .i64 x.n) ∧
      w.cell? ⟨b, off + i * 8 + 5, none⟩ = some (.slice Ae x.edges.length ce) ∧ w.cell? ⟨b, off + i * 8 + 6, none⟩ = some (.slice Af x.flow.length cf) ∧ w.cell? ⟨b, off + i * 8 + 7, none⟩ = some (.slice Ap x.pot.length cp) := by
  obtain ⟨b, off, x, cs, hA, hb, hx, hrel, hl, hc⟩ := hr.row i hi
  obtain ⟨Ai, Ae, Af, Ap, ci, ce, cf, cp, rfl, h⟩ := round_rel hrel
  exact ⟨b, off, x, Ai, Ae, Af, Ap, ci, ce, cf, cp, hA, hb, hx, h, hc 0 _ rfl, hc 1 _ rfl, hc 2 _ rfl, hc 3 _ rfl, hc 4 _ rfl, hc 5 _ rfl, hc 6 _ rfl, hc 7 _ rfl⟩
theorem asked_at {xs : List Rws.Asked} (hr : SlR askedR w B A n c xs) {i : Nat} (hi : i < n) :
    ∃ b off x A1 A2 c1 c2, A = some ⟨b, off, none⟩ ∧ b < B ∧ xs[i]? = some x ∧ w.cell? ⟨b, off + i * 4, none⟩ = some (.int .u32 x.client) ∧ w.cell? ⟨b, off + i * 4 + 1, none⟩ = some (.int .u64 x.seq) ∧
      w.cell? ⟨b, off + i * 4 + 2, none⟩ = some (.slice A1 x.ask.length c1) ∧ w.cell? ⟨b, off + i * 4 + 3, none⟩ = some (.slice A2 x.reply.length c2) ∧ U32 x.client ∧ U64 x.seq ∧ BytesAt w B A1 x.ask.length c1 x.ask ∧ BytesAt w B A2 x.reply.length c2 x.reply := by
  obtain ⟨b, off, x, cs, hA, hb, hx, hrel, hl, hc⟩ := hr.row i hi
  obtain ⟨A1, A2, c1, c2, rfl, h1, h2, h3, h4⟩ := asked_rel hrel
  exact ⟨b, off, x, A1, A2, c1, c2, hA, hb, hx, hc 0 _ rfl, hc 1 _ rfl, hc 2 _ rfl, hc 3 _ rfl, h1, h2, h3, h4⟩
theorem pair_at {xs : List Rws.Pair} (hr : SlR pairR w B A n c xs) {i : Nat} (hi : i < n) :
    ∃ b off x A1 A2 c1 c2, A = some ⟨b, off, none⟩ ∧ b < B ∧ xs[i]? = some x ∧ w.cell? ⟨b, off + i * 2, none⟩ = some (.slice A1 x.1.length c1) ∧ w.cell? ⟨b, off + i * 2 + 1, none⟩ = some (.slice A2 x.2.length c2) ∧
      BytesAt w B A1 x.1.length c1 x.1 ∧ BytesAt w B A2 x.2.length c2 x.2 := by
  obtain ⟨b, off, x, cs, hA, hb, hx, hrel, hl, hc⟩ := hr.row i hi
  obtain ⟨A1, A2, c1, c2, rfl, h1, h2⟩ := pair_rel hrel
  exact ⟨b, off, x, A1, A2, c1, c2, hA, hb, hx, hc 0 _ rfl, hc 1 _ rfl, h1, h2⟩
end

end Go.Proofs.Ytniekddoaokmkaa

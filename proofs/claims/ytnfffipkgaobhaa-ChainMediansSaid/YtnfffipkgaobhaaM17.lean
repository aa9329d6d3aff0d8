/-
  The reference's certificate: its form. Conditions: what is laid down is plain; the marks lie in the world.
  The reference's CertId. Conditions: each number fits its kind; the marks lie in the world; the table reads as it was laid.
  The law's own helpers: num, sameBytes, turn. Conditions: sizes below 2^46; what is turned is the call's own.
  The law's helper turn: it writes over its slice, and appends to it: what else there is stays. Conditions: the slice is the call's own, below 2^46 bytes.
  The Go text of WireSigns returns true for whatever name, transfer, vote and proposal. Condition: each number fits its kind.
  An argument of the claim opened: a name, and what is signed of it, as numbers, bytes and a text. No condition.
-/
import Derived.Test.YtnfffipkgaobhaaM16
import Derived.Test.YtnfffipkgaobhaaM13
import Derived.Test.YtnfffipkgaobhaaM15
import Derived.ProofKit
namespace Go.Proofs.Ytnfffipkgaobhaa
set_option linter.unusedSimpArgs false
set_option linter.unusedVariables false
open Go.RowKit
set_option maxRecDepth 100000

def crtHd (x : Crt) : List UInt8 := varB x.height.toNat ++ varB x.round.toNat ++ x.id ++ varB x.n
theorem encCrt_hd (x : Crt) : encCrt x = crtHd x ++ x.ms.flatMap encMk := rfl
theorem crtHd_len {x : Crt} (hx : x.ok) (hp : CrtB x) : (crtHd x).length ≤ 2400 := by
  have := encCrt_len hx hp
  rw [encCrt_hd, List.length_append] at this
  omega
theorem Mk.ex_sl (m : Mk) (h : m.ok) : m.cl.toArray.extract 2 (2 + 16) = (bv m.sl).toArray := by
  refine extract_cl _ _ _ _ ?_
  have e : m.cl.drop 2 = bv m.sl ++ [] := by simp [Mk.cl]
  rw [e, show 2 + 16 - 2 = (bv m.sl).length from by rw [bv_length, h.sl]]
  exact List.take_left

end Go.Proofs.Ytnfffipkgaobhaa
namespace Go.Proofs.Ytnfffipkgaobhaa
set_option linter.unusedSimpArgs false
set_option linter.unusedVariables false
open Go.RowKit
set_option maxRecDepth 100000
end Go.Proofs.Ytnfffipkgaobhaa
namespace Go.Proofs.Ytnfffipkgaobhaa
set_option linter.unusedSimpArgs false
set_option linter.unusedVariables false
open Go.RowKit
set_option maxRecDepth 100000

theorem take_eq_succ {l1 l2 : List UInt8} {k : Nat} {a : UInt8} (h1 : l1[k]? = some a) (h2 : l2[k]? = some a) (h : l1.take k = l2.take k) : l1.take (k + 1) = l2.take (k + 1) := by
  rw [List.take_add_one, List.take_add_one, h, h1, h2]

theorem below_drewN {B n : Nat} {a w : World} (h : Below B a w) : Below B a (w.drewN n) := ⟨h.os, h.tape, h.output, h.size, h.block⟩
end Go.Proofs.Ytnfffipkgaobhaa
namespace Go.Proofs.Ytnfffipkgaobhaa
set_option linter.unusedSimpArgs false
set_option linter.unusedVariables false
open Go.RowKit
set_option maxRecDepth 100000

/-- a row of bytes of the call's own, whatever they are -/
def Bz (w : World) (B : Nat) (v : Value) (n : Nat) : Prop := ∃ zs : List Int, w.ownsRow B 5 1 v n (zs.map (Value.int .u8))
theorem Bs.bz {w : World} {B : Nat} {v : Value} {l : List UInt8} (h : Bs w B v l) : Bz w B v l.length := ⟨l.map fun b => (b.toNat : Int), by rw [List.map_map]; exact h⟩
theorem grown_trans {w w1 w2 : World} {r r' : Option Nat} (h1 : w.grownBy w1 r) (h2 : w1.grownBy w2 r') (h : r' = r ∨ r' = none ∨ ∃ k, r' = some k ∧ w.heap.size ≤ k) : w.grownBy w2 r :=
  ⟨h2.os.trans h1.os, h2.tape.trans h1.tape, h2.output.trans h1.output, Nat.le_trans h1.size h2.size, fun k hk hr => by
    rw [h2.block k (Nat.lt_of_lt_of_le hk h1.size) ?_, h1.block k hk hr]
    intro e
    rcases h with h | h | ⟨j, h, hj⟩
    · exact hr (e.trans h)
    · rw [h] at e; cases e
    · rw [h] at e; cases e; omega⟩
theorem grown_drewN {w w1 : World} {r : Option Nat} (h : w.grownBy w1 r) (n : Nat) : w.grownBy (w1.drewN n) r := ⟨h.os, h.tape, h.output, h.size, h.block⟩

theorem bz_set {w : World} {B g n c : Nat} {zs : List Int} (h : w.ownsRow B 5 1 (.slice (some ⟨g, 0, none⟩) n c) n (zs.map (Value.int .u8))) (k : Nat) (u : Int) : Bz (w.setCell ⟨g, k, none⟩ (.int .u8 u)) B (.slice (some ⟨g, 0, none⟩) n c) n := by
  refine ⟨zs.set k u, ?_⟩
  have := (h.stored k (.int .u8 u)).1
  rw [← List.map_set] at this
  exact this
end Go.Proofs.Ytnfffipkgaobhaa
namespace Go.Proofs.Ytnfffipkgaobhaa
set_option linter.unusedSimpArgs false
set_option linter.unusedVariables false
open Go.RowKit
set_option maxRecDepth 100000

def ansB (err : Int) (l : List UInt8) : List UInt8 := if err = 0 then l else []
theorem res_ans {w w' : World} {err : Int} {l : List UInt8} {e : Ending} (h : BytesRes w err l e w') : Below w.heap.size w w' ∧ ∃ A c, e = .returned (.tuple #[.slice A (ansB err l).length c, .int .i64 err]) ∧ Bs w' w.heap.size (.slice A (ansB err l).length c) (ansB err l) := by
  obtain ⟨hb, h⟩ := h
  refine ⟨hb, ?_⟩
  rcases h with ⟨hz, rfl⟩ | ⟨hz, v, rfl, hv⟩
  · have ha : ansB err l = [] := by unfold ansB; rw [if_neg hz]
    rw [ha]
    exact ⟨none, 0, rfl, Bs.nil _ _⟩
  · have ha : ansB err l = l := by unfold ansB; rw [if_pos hz]
    rw [ha]
    obtain ⟨A, c, rfl⟩ := hv.form
    subst hz
    exact ⟨A, c, rfl, hv⟩
theorem bs_kept {w w' : World} {B : Nat} {v : Value} {l : List UInt8} {r : Option Nat} (h : Bs w B v l) (hg : w.grownBy w' r) (hr : ∀ k, r = some k → k < B) : Bs w' B v l := by
  refine World.ownsRow.kept h hg ?_
  cases hv : v.ownBlock with
  | none => exact .inl rfl
  | some k =>
    right
    intro e
    have h1 := (World.ownsRow.lt h k hv).1
    have h2 := hr k e.symm
    omega
theorem bs_lt {w : World} {B : Nat} {v : Value} {l : List UInt8} (h : Bs w B v l) : ∀ k, v.ownBlock = some k → k < w.heap.size := fun k hk => (World.ownsRow.lt h k hk).2
theorem bs_kept' {w w' : World} {B : Nat} {v : Value} {l : List UInt8} {r : Option Nat} (h : Bs w B v l) (hg : w.grownBy w' r) (hr : ∀ k, r = some k → B ≤ k) (hv : ∀ k, v.ownBlock = some k → ∀ j, r = some j → k < j) : Bs w' B v l := by
  refine World.ownsRow.kept h hg ?_
  cases hv' : v.ownBlock with
  | none => exact .inl rfl
  | some k =>
    right
    intro e
    have := hv k hv' k e.symm
    omega

structure Name where
  chain : ByteArray
  tx : Tx
  vote : Vote
  prop : Proposal
def Name.cl (x : Name) : List Value := [.string x.chain] ++ x.tx.cl ++ x.vote.cl ++ x.prop.cl
structure Name.ok (x : Name) : Prop where
  chain : x.chain.size ≤ 9223372036854775807
  tx : x.tx.ok
  vote : x.vote.ok
  prop : x.prop.ok
theorem Name.cl_len (x : Name) (h : x.ok) : x.cl.length = 128 := by
  simp only [Name.cl, List.length_append, List.length_cons, List.length_nil, x.tx.cl_len h.tx, x.vote.cl_len h.vote, x.prop.cl_len h.prop]
theorem Name.cl_tx (x : Name) (h : x.ok) : x.cl.toArray.extract 1 (1 + 22) = x.tx.cl.toArray := by
  refine extract_cl _ _ _ _ ?_
  have e : x.cl.drop 1 = x.tx.cl ++ (x.vote.cl ++ x.prop.cl) := by simp [Name.cl]
  rw [e, show 1 + 22 - 1 = x.tx.cl.length from by rw [x.tx.cl_len h.tx]]
  exact List.take_left
theorem Name.cl_vote (x : Name) (h : x.ok) : x.cl.toArray.extract 23 (23 + 53) = x.vote.cl.toArray := by
  refine extract_cl _ _ _ _ ?_
  have e0 : x.cl = ([.string x.chain] ++ x.tx.cl) ++ (x.vote.cl ++ x.prop.cl) := by simp [Name.cl]
  have e1 : ([.string x.chain] ++ x.tx.cl : List Value).length = 23 := by rw [List.length_append, x.tx.cl_len h.tx]; rfl
  have e : x.cl.drop 23 = x.vote.cl ++ x.prop.cl := by rw [e0, ← e1]; exact List.drop_left
  rw [e, show 23 + 53 - 23 = x.vote.cl.length from by rw [x.vote.cl_len h.vote]]
  exact List.take_left
theorem Name.cl_prop (x : Name) (h : x.ok) : x.cl.toArray.extract 76 (76 + 52) = x.prop.cl.toArray := by
  refine extract_cl _ _ _ _ ?_
  have e0 : x.cl = ([.string x.chain] ++ x.tx.cl ++ x.vote.cl) ++ x.prop.cl := by simp [Name.cl]
  have e1 : ([.string x.chain] ++ x.tx.cl ++ x.vote.cl : List Value).length = 76 := by rw [List.length_append, List.length_append, x.tx.cl_len h.tx, x.vote.cl_len h.vote]; rfl
  have e : x.cl.drop 76 = x.prop.cl := by rw [e0, ← e1]; exact List.drop_left
  rw [e, show 76 + 52 - 76 = x.prop.cl.length from by rw [x.prop.cl_len h.prop]]
  exact List.take_length

theorem ansTx_len (x : Name) (h : x.ok) : (ansB (saidErr x.chain (plainTx x.tx)) (bytesTx x.chain x.tx)).length ≤ 200 := by
  unfold ansB
  split
  · rename_i hz
    obtain ⟨hz, c1, c2⟩ := saidErr_zero hz
    have := encTx_len h.tx (txB hz)
    have lc := varB_ten (n := x.chain.size) (by unfold two64; omega)
    have e : x.chain.data.size = x.chain.size := rfl
    simp only [bytesTx, textB, List.length_append, List.length_cons, List.length_nil, Array.length_toList]
    omega
  · simp
theorem ansVote_len (x : Name) (h : x.ok) : (ansB (saidErr x.chain (plainVote x.vote)) (bytesVote x.chain x.vote)).length ≤ 200 := by
  unfold ansB
  split
  · rename_i hz
    obtain ⟨hz, c1, c2⟩ := saidErr_zero hz
    have := encVote_len h.vote (voteB h.vote hz)
    have lc := varB_ten (n := x.chain.size) (by unfold two64; omega)
    have e : x.chain.data.size = x.chain.size := rfl
    simp only [bytesVote, textB, List.length_append, List.length_cons, List.length_nil, Array.length_toList]
    omega
  · simp
theorem ansProposal_len (x : Name) (h : x.ok) : (ansB (saidErr x.chain (plainProposal x.prop)) (bytesProposal x.chain x.prop)).length ≤ 200 := by
  unfold ansB
  split
  · rename_i hz
    obtain ⟨hz, c1, c2⟩ := saidErr_zero hz
    have := encProposal_len h.prop (proposalB h.prop hz)
    have lc := varB_ten (n := x.chain.size) (by unfold two64; omega)
    have e : x.chain.data.size = x.chain.size := rfl
    simp only [bytesProposal, textB, List.length_append, List.length_cons, List.length_nil, Array.length_toList]
    omega
  · simp
end Go.Proofs.Ytnfffipkgaobhaa
namespace Go.Proofs.Ytnfffipkgaobhaa
set_option linter.unusedSimpArgs false
set_option linter.unusedVariables false
open Go.RowKit
set_option maxRecDepth 100000

def All2 (R : TypeId → Value → Prop) : List TypeId → List Value → Prop
  | [], [] => True
  | t :: ts, v :: vs => R t v ∧ All2 R ts vs
  | _, _ => False
theorem All2.of {R : TypeId → Value → Prop} : ∀ {ts : List TypeId} {vs : List Value}, ts.length = vs.length → (∀ (i : Nat) (v : Value), vs[i]? = some v → ∃ u, ts[i]? = some u ∧ R u v) → All2 R ts vs
  | [], [], _, _ => trivial
  | [], _ :: _, h, _ => by simp at h
  | _ :: _, [], h, _ => by simp at h
  | t :: ts, v :: vs, h, hr => by
    refine ⟨?_, All2.of (ts := ts) (vs := vs) (by simpa using h) fun i u hu => by simpa using hr (i + 1) u (by simpa using hu)⟩
    obtain ⟨u, hu, h2⟩ := hr 0 v rfl
    simp at hu
    subst hu
    exact h2
theorem All2.cons {R : TypeId → Value → Prop} {t : TypeId} {ts : List TypeId} {vs : List Value} (h : All2 R (t :: ts) vs) : ∃ v vs', vs = v :: vs' ∧ R t v ∧ All2 R ts vs' := by
  cases vs with
  | nil => exact h.elim
  | cons v vs => exact ⟨v, vs, rfl, h.1, h.2⟩
theorem All2.nil {R : TypeId → Value → Prop} {vs : List Value} (h : All2 R [] vs) : vs = [] := by
  cases vs with
  | nil => rfl
  | cons v vs => exact h.elim

section
variable {w : World} {base : Nat}
def OkC (w : World) (base : Nat) (t : TypeId) (v : Value) : Prop := Cell.okWide Try.prog w .any base t v
theorem okc_int {t : TypeId} {k : IntKind} {v : Value} (hu : Try.prog.underlying t = some (.int k)) (h : OkC w base t v) : ∃ n : Int, v = .int k n ∧ k.has n := by
  unfold OkC Cell.okWide at h
  rw [hu] at h
  cases v <;> simp only [Cell.ok, hu] at h
  case int k' n => obtain ⟨rfl, h⟩ := h; exact ⟨n, rfl, h⟩
theorem okc_string {t : TypeId} {v : Value} (hu : Try.prog.underlying t = some .string) (h : OkC w base t v) : ∃ s : ByteArray, v = .string s ∧ s.size ≤ 9223372036854775807 := by
  unfold OkC Cell.okWide at h
  rw [hu] at h
  cases v <;> simp only [Cell.ok, hu] at h
  case string s => exact ⟨s, rfl, by have e : IntKind.i64.max = 9223372036854775807 := by decide
                                     rw [e] at h; omega⟩
theorem okc_i64 {t : TypeId} {v : Value} (hu : Try.prog.underlying t = some (.int .i64)) (h : OkC w base t v) : ∃ n : Int, v = .int .i64 n ∧ I64 n := by
  obtain ⟨n, rfl, hn⟩ := okc_int hu h
  refine ⟨n, rfl, ?_⟩
  simp [IntKind.has, IntKind.min, IntKind.max, IntKind.bits, IntKind.signed] at hn
  unfold I64
  omega
theorem okc_u64 {t : TypeId} {v : Value} (hu : Try.prog.underlying t = some (.int .u64)) (h : OkC w base t v) : ∃ n : Int, v = .int .u64 n ∧ U64 n := by
  obtain ⟨n, rfl, hn⟩ := okc_int hu h
  refine ⟨n, rfl, ?_⟩
  simp [IntKind.has, IntKind.min, IntKind.max, IntKind.bits, IntKind.signed] at hn
  unfold U64
  omega
theorem okc_u8 {t : TypeId} {v : Value} (hu : Try.prog.underlying t = some (.int .u8)) (h : OkC w base t v) : ∃ b : UInt8, v = .int .u8 (b.toNat : Int) := by
  obtain ⟨n, rfl, hn⟩ := okc_int hu h
  refine ⟨UInt8.ofNat n.toNat, ?_⟩
  simp [IntKind.has, IntKind.min, IntKind.max, IntKind.bits, IntKind.signed] at hn
  rw [byte_of]
  congr 1
  omega
theorem okc_bytes {t : TypeId} (hu : Try.prog.underlying t = some (.int .u8)) : ∀ {n : Nat} {ts : List TypeId} {vs : List Value}, All2 (OkC w base) (List.replicate n t ++ ts) vs → ∃ l vs', l.length = n ∧ vs = bv l ++ vs' ∧ All2 (OkC w base) ts vs'
  | 0, ts, vs, h => ⟨[], vs, rfl, rfl, h⟩
  | n + 1, ts, vs, h => by
    obtain ⟨v, vs1, rfl, h1, h2⟩ := All2.cons (t := t) (ts := List.replicate n t ++ ts) (by simpa [List.replicate_succ] using h)
    obtain ⟨b, rfl⟩ := okc_u8 hu h1
    obtain ⟨l, vs2, hl, rfl, h3⟩ := okc_bytes hu h2
    exact ⟨b :: l, vs2, by simp [hl], by simp [bv], h3⟩
end
def txTs : List TypeId := [3, 32, 32, 25, 25, 25]
def sealTs : List TypeId := List.replicate 16 5
def hashTs : List TypeId := List.replicate 32 5
theorem open_tx {w : World} {base : Nat} {ts : List TypeId} {vs : List Value} (h : All2 (OkC w base) (txTs ++ (sealTs ++ ts)) vs) : ∃ (x : Tx) (vs' : List Value), x.ok ∧ vs = x.cl ++ vs' ∧ All2 (OkC w base) ts vs' := by
  obtain ⟨v0, r0, rfl, h0, t1⟩ := All2.cons h
  obtain ⟨v1, r1, rfl, h1, t2⟩ := All2.cons t1
  obtain ⟨v2, r2, rfl, h2, t3⟩ := All2.cons t2
  obtain ⟨v3, r3, rfl, h3, t4⟩ := All2.cons t3
  obtain ⟨v4, r4, rfl, h4, t5⟩ := All2.cons t4
  obtain ⟨v5, r5, rfl, h5, t6⟩ := All2.cons t5
  obtain ⟨l, r6, hl, rfl, t7⟩ := okc_bytes Try.underlying5 t6
  obtain ⟨n0, rfl, k0⟩ := okc_i64 Try.underlying3 h0
  obtain ⟨n1, rfl, k1⟩ := okc_u64 Try.underlying32 h1
  obtain ⟨n2, rfl, k2⟩ := okc_u64 Try.underlying32 h2
  obtain ⟨n3, rfl, k3⟩ := okc_u64 Try.underlying25 h3
  obtain ⟨n4, rfl, k4⟩ := okc_u64 Try.underlying25 h4
  obtain ⟨n5, rfl, k5⟩ := okc_u64 Try.underlying25 h5
  exact ⟨⟨n0, n1, n2, n3, n4, n5, l⟩, r6, ⟨k0, k1, k2, k3, k4, k5, hl⟩, by simp [Tx.cl], t7⟩
theorem open_vote {w : World} {base : Nat} {ts : List TypeId} {vs : List Value} (h : All2 (OkC w base) ([3, 25, 3] ++ (hashTs ++ ([25, 32] ++ (sealTs ++ ts)))) vs) : ∃ (x : Vote) (vs' : List Value), x.ok ∧ vs = x.cl ++ vs' ∧ All2 (OkC w base) ts vs' := by
  obtain ⟨v0, r0, rfl, h0, t1⟩ := All2.cons h
  obtain ⟨v1, r1, rfl, h1, t2⟩ := All2.cons t1
  obtain ⟨v2, r2, rfl, h2, t3⟩ := All2.cons t2
  obtain ⟨l, r3, hl, rfl, t4⟩ := okc_bytes Try.underlying5 t3
  obtain ⟨v4, r4, rfl, h4, t5⟩ := All2.cons t4
  obtain ⟨v5, r5, rfl, h5, t6⟩ := All2.cons t5
  obtain ⟨l2, r6, hl2, rfl, t7⟩ := okc_bytes Try.underlying5 t6
  obtain ⟨n0, rfl, k0⟩ := okc_i64 Try.underlying3 h0
  obtain ⟨n1, rfl, k1⟩ := okc_u64 Try.underlying25 h1
  obtain ⟨n2, rfl, k2⟩ := okc_i64 Try.underlying3 h2
  obtain ⟨n4, rfl, k4⟩ := okc_u64 Try.underlying25 h4
  obtain ⟨n5, rfl, k5⟩ := okc_u64 Try.underlying32 h5
  exact ⟨⟨n0, n1, n2, l, n4, n5, l2⟩, r6, ⟨k0, k1, k2, hl, k4, k5, hl2⟩, by simp [Vote.cl], t7⟩
theorem open_prop {w : World} {base : Nat} {ts : List TypeId} {vs : List Value} (h : All2 (OkC w base) ([25, 3, 3] ++ (hashTs ++ ([32] ++ (sealTs ++ ts)))) vs) : ∃ (x : Proposal) (vs' : List Value), x.ok ∧ vs = x.cl ++ vs' ∧ All2 (OkC w base) ts vs' := by
  obtain ⟨v0, r0, rfl, h0, t1⟩ := All2.cons h
  obtain ⟨v1, r1, rfl, h1, t2⟩ := All2.cons t1
  obtain ⟨v2, r2, rfl, h2, t3⟩ := All2.cons t2
  obtain ⟨l, r3, hl, rfl, t4⟩ := okc_bytes Try.underlying5 t3
  obtain ⟨v4, r4, rfl, h4, t5⟩ := All2.cons t4
  obtain ⟨l2, r6, hl2, rfl, t6⟩ := okc_bytes Try.underlying5 t5
  obtain ⟨n0, rfl, k0⟩ := okc_u64 Try.underlying25 h0
  obtain ⟨n1, rfl, k1⟩ := okc_i64 Try.underlying3 h1
  obtain ⟨n2, rfl, k2⟩ := okc_i64 Try.underlying3 h2
  obtain ⟨n4, rfl, k4⟩ := okc_u64 Try.underlying32 h4
  exact ⟨⟨n0, n1, n2, l, n4, l2⟩, r6, ⟨k0, k1, k2, hl, k4, hl2⟩, by simp [Proposal.cl], t6⟩
def nameTs : List TypeId := [9] ++ (txTs ++ (sealTs ++ ([3, 25, 3] ++ (hashTs ++ ([25, 32] ++ (sealTs ++ ([25, 3, 3] ++ (hashTs ++ ([32] ++ (sealTs ++ []))))))))))
end Go.Proofs.Ytnfffipkgaobhaa

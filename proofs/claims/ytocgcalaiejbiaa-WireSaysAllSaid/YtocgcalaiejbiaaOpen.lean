/-
  An argument of the claim opened: a name, and what is signed of it, as numbers, bytes and a text. No condition.
-/
import Derived.Test.YtocgcalaiejbiaaSigns
import Derived.ProofKit
namespace Go.Proofs.Ytocgcalaiejbiaa
set_option linter.unusedSimpArgs false
set_option linter.unusedVariables false
open Go.RowKit
set_option maxRecDepth 100000

def All2 (R : TypeId → Value → Prop) : List TypeId → List Value → Prop
  | [], [] => True
  | t :: ts, v :: vs => R t v ∧ All2 R ts vs
  | _, _ => False
theorem All2.of {R : TypeId → Value → Prop} : ∀ {ts : List TypeId} {vs : List Value}, ts.length = vs.length → (∀ (i : Nat) (v : Value), vs[i]? = some v → ∃ u, ts[i]? = some u ∧ R u v) → All2 R ts vs
  | [], [], _, _ => trivial
  | [], _ :: _, h, _ => by simp at h
  | _ :: _, [], h, _ => by simp at h
  | t :: ts, v :: vs, h, hr => by
    refine ⟨?_, All2.of (ts := ts) (vs := vs) (by simpa using h) fun i u hu => by simpa using hr (i + 1) u (by simpa using hu)⟩
    obtain ⟨u, hu, h2⟩ := hr 0 v rfl
    simp at hu
    subst hu
    exact h2
theorem All2.cons {R : TypeId → Value → Prop} {t : TypeId} {ts : List TypeId} {vs : List Value} (h : All2 R (t :: ts) vs) : ∃ v vs', vs = v :: vs' ∧ R t v ∧ All2 R ts vs' := by
  cases vs with
  | nil => exact h.elim
  | cons v vs => exact ⟨v, vs, rfl, h.1, h.2⟩
theorem All2.nil {R : TypeId → Value → Prop} {vs : List Value} (h : All2 R [] vs) : vs = [] := by
  cases vs with
  | nil => rfl
  | cons v vs => exact h.elim

section
variable {w : World} {base : Nat}
def OkC (w : World) (base : Nat) (t : TypeId) (v : Value) : Prop := Cell.okWide Try.prog w .any base t v
theorem okc_int {t : TypeId} {k : IntKind} {v : Value} (hu : Try.prog.underlying t = some (.int k)) (h : OkC w base t v) : ∃ n : Int, v = .int k n ∧ k.has n := by
  unfold OkC Cell.okWide at h
  rw [hu] at h
  cases v <;> simp only [Cell.ok, hu] at h
  case int k' n => obtain ⟨rfl, h⟩ := h; exact ⟨n, rfl, h⟩
theorem okc_string {t : TypeId} {v : Value} (hu : Try.prog.underlying t = some .string) (h : OkC w base t v) : ∃ s : ByteArray, v = .string s ∧ s.size ≤ 9223372036854775807 := by
  unfold OkC Cell.okWide at h
  rw [hu] at h
  cases v <;> simp only [Cell.ok, hu] at h
  case string s => exact ⟨s, rfl, by have e : IntKind.i64.max = 9223372036854775807 := by decide
                                     rw [e] at h; omega⟩
theorem okc_i64 {t : TypeId} {v : Value} (hu : Try.prog.underlying t = some (.int .i64)) (h : OkC w base t v) : ∃ n : Int, v = .int .i64 n ∧ I64 n := by
  obtain ⟨n, rfl, hn⟩ := okc_int hu h
  refine ⟨n, rfl, ?_⟩
  simp [IntKind.has, IntKind.min, IntKind.max, IntKind.bits, IntKind.signed] at hn
  unfold I64
  omega
theorem okc_u64 {t : TypeId} {v : Value} (hu : Try.prog.underlying t = some (.int .u64)) (h : OkC w base t v) : ∃ n : Int, v = .int .u64 n ∧ U64 n := by
  obtain ⟨n, rfl, hn⟩ := okc_int hu h
  refine ⟨n, rfl, ?_⟩
  simp [IntKind.has, IntKind.min, IntKind.max, IntKind.bits, IntKind.signed] at hn
  unfold U64
  omega
theorem okc_u8 {t : TypeId} {v : Value} (hu : Try.prog.underlying t = some (.int .u8)) (h : OkC w base t v) : ∃ b : UInt8, v = .int .u8 (b.toNat : Int) := by
  obtain ⟨n, rfl, hn⟩ := okc_int hu h
  refine ⟨UInt8.ofNat n.toNat, ?_⟩
  simp [IntKind.has, IntKind.min, IntKind.max, IntKind.bits, IntKind.signed] at hn
  rw [byte_of]
  congr 1
  omega
theorem okc_bytes {t : TypeId} (hu : Try.prog.underlying t = some (.int .u8)) : ∀ {n : Nat} {ts : List TypeId} {vs : List Value}, All2 (OkC w base) (List.replicate n t ++ ts) vs → ∃ l vs', l.length = n ∧ vs = bv l ++ vs' ∧ All2 (OkC w base) ts vs'
  | 0, ts, vs, h => ⟨[], vs, rfl, rfl, h⟩
  | n + 1, ts, vs, h => by
    obtain ⟨v, vs1, rfl, h1, h2⟩ := All2.cons (t := t) (ts := List.replicate n t ++ ts) (by simpa [List.replicate_succ] using h)
    obtain ⟨b, rfl⟩ := okc_u8 hu h1
    obtain ⟨l, vs2, hl, rfl, h3⟩ := okc_bytes hu h2
    exact ⟨b :: l, vs2, by simp [hl], by simp [bv], h3⟩
end
def txTs : List TypeId := [3, 23, 23, 22, 22, 22]
def sealTs : List TypeId := List.replicate 16 5
def hashTs : List TypeId := List.replicate 32 5
theorem open_tx {w : World} {base : Nat} {ts : List TypeId} {vs : List Value} (h : All2 (OkC w base) (txTs ++ (sealTs ++ ts)) vs) : ∃ (x : Tx) (vs' : List Value), x.ok ∧ vs = x.cl ++ vs' ∧ All2 (OkC w base) ts vs' := by
  obtain ⟨v0, r0, rfl, h0, t1⟩ := All2.cons h
  obtain ⟨v1, r1, rfl, h1, t2⟩ := All2.cons t1
  obtain ⟨v2, r2, rfl, h2, t3⟩ := All2.cons t2
  obtain ⟨v3, r3, rfl, h3, t4⟩ := All2.cons t3
  obtain ⟨v4, r4, rfl, h4, t5⟩ := All2.cons t4
  obtain ⟨v5, r5, rfl, h5, t6⟩ := All2.cons t5
  obtain ⟨l, r6, hl, rfl, t7⟩ := okc_bytes Try.underlying5 t6
  obtain ⟨n0, rfl, k0⟩ := okc_i64 Try.underlying3 h0
  obtain ⟨n1, rfl, k1⟩ := okc_u64 Try.underlying23 h1
  obtain ⟨n2, rfl, k2⟩ := okc_u64 Try.underlying23 h2
  obtain ⟨n3, rfl, k3⟩ := okc_u64 Try.underlying22 h3
  obtain ⟨n4, rfl, k4⟩ := okc_u64 Try.underlying22 h4
  obtain ⟨n5, rfl, k5⟩ := okc_u64 Try.underlying22 h5
  exact ⟨⟨n0, n1, n2, n3, n4, n5, l⟩, r6, ⟨k0, k1, k2, k3, k4, k5, hl⟩, by simp [Tx.cl], t7⟩
theorem open_vote {w : World} {base : Nat} {ts : List TypeId} {vs : List Value} (h : All2 (OkC w base) ([3, 22, 3] ++ (hashTs ++ ([22, 23] ++ (sealTs ++ ts)))) vs) : ∃ (x : Vote) (vs' : List Value), x.ok ∧ vs = x.cl ++ vs' ∧ All2 (OkC w base) ts vs' := by
  obtain ⟨v0, r0, rfl, h0, t1⟩ := All2.cons h
  obtain ⟨v1, r1, rfl, h1, t2⟩ := All2.cons t1
  obtain ⟨v2, r2, rfl, h2, t3⟩ := All2.cons t2
  obtain ⟨l, r3, hl, rfl, t4⟩ := okc_bytes Try.underlying5 t3
  obtain ⟨v4, r4, rfl, h4, t5⟩ := All2.cons t4
  obtain ⟨v5, r5, rfl, h5, t6⟩ := All2.cons t5
  obtain ⟨l2, r6, hl2, rfl, t7⟩ := okc_bytes Try.underlying5 t6
  obtain ⟨n0, rfl, k0⟩ := okc_i64 Try.underlying3 h0
  obtain ⟨n1, rfl, k1⟩ := okc_u64 Try.underlying22 h1
  obtain ⟨n2, rfl, k2⟩ := okc_i64 Try.underlying3 h2
  obtain ⟨n4, rfl, k4⟩ := okc_u64 Try.underlying22 h4
  obtain ⟨n5, rfl, k5⟩ := okc_u64 Try.underlying23 h5
  exact ⟨⟨n0, n1, n2, l, n4, n5, l2⟩, r6, ⟨k0, k1, k2, hl, k4, k5, hl2⟩, by simp [Vote.cl], t7⟩
theorem open_prop {w : World} {base : Nat} {ts : List TypeId} {vs : List Value} (h : All2 (OkC w base) ([22, 3, 3] ++ (hashTs ++ ([23] ++ (sealTs ++ ts)))) vs) : ∃ (x : Proposal) (vs' : List Value), x.ok ∧ vs = x.cl ++ vs' ∧ All2 (OkC w base) ts vs' := by
  obtain ⟨v0, r0, rfl, h0, t1⟩ := All2.cons h
  obtain ⟨v1, r1, rfl, h1, t2⟩ := All2.cons t1
  obtain ⟨v2, r2, rfl, h2, t3⟩ := All2.cons t2
  obtain ⟨l, r3, hl, rfl, t4⟩ := okc_bytes Try.underlying5 t3
  obtain ⟨v4, r4, rfl, h4, t5⟩ := All2.cons t4
  obtain ⟨l2, r6, hl2, rfl, t6⟩ := okc_bytes Try.underlying5 t5
  obtain ⟨n0, rfl, k0⟩ := okc_u64 Try.underlying22 h0
  obtain ⟨n1, rfl, k1⟩ := okc_i64 Try.underlying3 h1
  obtain ⟨n2, rfl, k2⟩ := okc_i64 Try.underlying3 h2
  obtain ⟨n4, rfl, k4⟩ := okc_u64 Try.underlying23 h4
  exact ⟨⟨n0, n1, n2, l, n4, l2⟩, r6, ⟨k0, k1, k2, hl, k4, hl2⟩, by simp [Proposal.cl], t6⟩
def nameTs : List TypeId := [9] ++ (txTs ++ (sealTs ++ ([3, 22, 3] ++ (hashTs ++ ([22, 23] ++ (sealTs ++ ([22, 3, 3] ++ (hashTs ++ ([23] ++ (sealTs ++ []))))))))))
theorem open_name {w : World} {base : Nat} {v : Value} (h : Value.okWide Try.prog w .any base 35 v) : ∃ x : Name, x.ok ∧ v = .agg x.cl.toArray := by
  simp only [Value.okWide, Try.underlying35] at h
  obtain ⟨cs, rfl, hsz, ts, hts, _, hall⟩ := h
  have e1 : Try.prog.cellTypes Try.prog.depth 35 = some nameTs := by kernel_rfl
  have e2 : Try.prog.cellsOf 35 = 128 := by kernel_rfl
  have e3 : nameTs.length = 128 := by decide
  rw [e2] at hsz
  have e4 : ts = nameTs := Option.some.inj (hts.symm.trans e1)
  subst e4
  have ha : All2 (OkC w base) nameTs cs.toList := All2.of (by rw [e3]; simp [hsz]) fun i v hv => by
    have hv' : cs[i]? = some v := by simpa using hv
    obtain ⟨u, hu, hc⟩ := hall i v hv'
    have hi : i < 128 := by
      have := (Array.getElem?_eq_some_iff.1 hv').1
      omega
    rw [e3, Nat.mod_eq_of_lt hi] at hu
    exact ⟨u, hu, hc⟩
  obtain ⟨v0, r0, hcs, h0, t1⟩ := All2.cons (ts := txTs ++ _) ha
  obtain ⟨s, rfl, hs⟩ := okc_string Try.underlying9 h0
  obtain ⟨xt, r1, kt, rfl, t2⟩ := open_tx t1
  obtain ⟨xv, r2, kv, rfl, t3⟩ := open_vote t2
  obtain ⟨xp, r3, kp, rfl, t4⟩ := open_prop t3
  obtain rfl := All2.nil t4
  refine ⟨⟨s, xt, xv, xp⟩, ⟨hs, kt, kv, kp⟩, ?_⟩
  congr 1
  apply Array.ext'
  rw [hcs]
  simp [Name.cl]
end Go.Proofs.Ytocgcalaiejbiaa

/-
  The steps of the law of a head in whatever order. No condition: lemmas over any program.
  The document's own forms: a transfer, a vote, a proposal, without and with their seals. Conditions: the numbers fit their types.
-/
import Derived.Test.YtnfffipkgaobhaaM06
import Derived.Test.YtnfffipkgaobhaaM02
import Derived.Test.YtnfffipkgaobhaaM13
namespace Go.Proofs.Ytnfffipkgaobhaa
set_option linter.unusedSimpArgs false
set_option linter.unusedVariables false
open Go.RowKit

section
variable {P : Program} {ops : Array Oper} {ks : List Known} {w w0 : World} {a0 a : Act} {i e : Nat} {d t : Tmp} {ds : List (Nat × Tmp)} {its : List (Tmp × List (Nat × Tmp))} {body : Act → Prop}
theorem FreeSteps.nil : FreeSteps P ops ks w0 a0 i [] := trivial
theorem FreeSteps.cons (h1 : ∀ w, Below w0.heap.size w0 w → FreeStep P ops ks w a0 i t ds a0) (h2 : FreeSteps P ops ks w0 a0 (i + 1) its) : FreeSteps P ops ks w0 a0 i ((t, ds) :: its) := ⟨h1, h2⟩
theorem FreeStep.is {x : Value} (hk : kat ks e = Is x) (h : FreeStep P ops ks w a0 i d ds (a.put (some t) x)) : FreeStep P ops ks w a0 i d ((e, t) :: ds) a := fun v hv => by
  rw [hk] at hv; cases hv; exact h
theorem FreeStep.dep {K : Known} (hk : kat ks e = K) (h : ∀ v, K v w → FreeStep P ops ks w a0 i d ds (a.put (some t) v)) : FreeStep P ops ks w a0 i d ((e, t) :: ds) a := fun v hv => h v (hk ▸ hv)
theorem FreeEnd.is {x : Value} (hk : kat ks i = Is x) (h : FreeEnd ks w body (i + 1) its (a.put (some t) x)) : FreeEnd ks w body i ((t, ds) :: its) a := fun v hv => by
  rw [hk] at hv; cases hv; exact h
theorem FreeEnd.cons {K : Known} (hk : kat ks i = K) (h : ∀ v, K v w → FreeEnd ks w body (i + 1) its (a.put (some t) v)) : FreeEnd ks w body i ((t, ds) :: its) a := fun v hv => h v (hk ▸ hv)
theorem FreeEnd.nil (h : body a) : FreeEnd ks w body i [] a := h
theorem FreeStep.op {o : Oper} {K : Known} (ho : ops[i]? = some o) (hk : kat ks i = K) (h : wpList P ops (QStep a0 d K w) [o] a w) : FreeStep P ops ks w a0 i d [] a := ⟨o, ho, hk ▸ h⟩
theorem FreeStep.det {o : Oper} {x : Value} (ho : ops[i]? = some o) (hg : o.guard = none) (hd : o.dst = some d) (hs : decide (d < a.tmps.size) = true) (hf : a.defers = a0.defers) (hk : kat ks i = Is x)
    (hrun : (execOp a.eval o).run P w = .ok (.value x) w) : FreeStep P ops ks w a0 i d [] a := by
  refine FreeStep.op ho hk (wpList_plain hg fun K hK => ?_)
  unfold Oper.wp
  rw [hrun]
  refine hK _ _ ?_
  show QStep _ _ _ _ _ _ _
  refine ⟨by rw [hd]; exact hf, Below.refl _ _, ?_⟩
  rw [hd]
  exact put_get (by simpa using hs)
theorem FreeStep.load_part {o : Oper} {x : Value} (ty : TypeId) (p : Operand) (ho : ops[i]? = some o) (hop : o.op = .load ty p) (hg : o.guard = none) (hd : o.dst = some d) (hs : decide (d < a.tmps.size) = true) (hf : a.defers = a0.defers) (hk : kat ks i = Is x)
    (g off n : Nat) (hx : a.eval p = .pointer (some ⟨g, off, none⟩)) (cs : Array Value) (bt : TypeId) (td : TypeDesc) (hb : Bk w g cs bt) (hu : P.underlying ty = some td) (hda : aggD td = true) (hi : (P.info? ty).map (·.size) = some n) (hn : off + n ≤ cs.size)
    (v : Array Value) (hv : cs.extract off (off + n) = v) (hxv : x = .agg v) : FreeStep P ops ks w a0 i d [] a := by
  refine FreeStep.det ho hg hd hs hf hk ?_
  unfold execOp
  simp only [hop, hx, Instr.loadAt, Instr.sureAddr, Sem.run_bind, Sem.run_pure, Result.andThen_ok, run_loadVar_part hb hu hda hi hn, hv, hxv]
/-- the step is a call of a Go function -/
theorem FreeStep.call {o : Oper} {K : Known} {f : FuncId} {vs : Array Value} {post : Ending → World → Prop} (ho : ops[i]? = some o) (hg : o.guard = none) (hd : o.dst = some d) (hs : decide (d < a.tmps.size) = true) (hf : a.defers = a0.defers) (hk : kat ks i = K)
    (hrun : (execOp a.eval o).run P w = .ok (.enter f vs) w) (hc : Calls P f vs w post) (hp : ∀ e w', post e w' → ∃ v, e = .returned v ∧ Below w.heap.size w w' ∧ K v w') : FreeStep P ops ks w a0 i d [] a := by
  refine FreeStep.op ho hk (wpList_plain hg fun K' hK => ?_)
  unfold Oper.wp
  rw [hrun]
  refine Calls.mono hc fun e w' he => ?_
  obtain ⟨v, rfl, hb, hv⟩ := hp e w' he
  refine hK _ _ ?_
  show QStep _ _ _ _ _ _ _
  refine ⟨by rw [hd]; exact hf, hb, ?_⟩
  rw [hd, put_get (by simpa using hs)]
  exact hv
end

theorem QStep.mk {a0 a' : Act} {d : Tmp} {K : Known} {w w' : World} (h1 : a'.defers = a0.defers) (h2 : Below w.heap.size w w') (h3 : K (a'.tmps.getD d undef) w') : QStep a0 d K w .normal a' w' := ⟨h1, h2, h3⟩
def PartK (l : List UInt8) : Known := fun v w => Part w v l
theorem PartK.steady (l : List UInt8) : Steady (PartK l) := fun _ _ _ h hb => Part.below h hb
end Go.Proofs.Ytnfffipkgaobhaa
namespace Go.Proofs.Ytnfffipkgaobhaa
set_option linter.unusedSimpArgs false
set_option linter.unusedVariables false
open Go.RowKit
set_option maxRecDepth 100000

theorem Tx.cl_sl (x : Tx) (h : x.sl.length = 16) : x.cl.toArray.extract 6 (6 + 16) = (bv x.sl).toArray := by
  refine extract_cl _ _ _ _ ?_
  have e : x.cl.drop 6 = bv x.sl ++ [] := by simp [Tx.cl]
  rw [e, show 6 + 16 - 6 = (bv x.sl).length from by rw [bv_length, h]]
  exact List.take_left
theorem Vote.cl_sl (x : Vote) (h : x.ok) : x.cl.toArray.extract 37 (37 + 16) = (bv x.sl).toArray := by
  refine extract_cl _ _ _ _ ?_
  have e : x.cl.drop 37 = bv x.sl := by simp [Vote.cl, bv_length, h.id, List.drop_append]
  rw [e, show 37 + 16 - 37 = (bv x.sl).length from by rw [bv_length, h.sl]]
  exact List.take_length
theorem Proposal.cl_sl (x : Proposal) (h : x.ok) : x.cl.toArray.extract 36 (36 + 16) = (bv x.sl).toArray := by
  refine extract_cl _ _ _ _ ?_
  have e : x.cl.drop 36 = bv x.sl := by simp [Proposal.cl, bv_length, h.id, List.drop_append]
  rw [e, show 36 + 16 - 36 = (bv x.sl).length from by rw [bv_length, h.sl]]
  exact List.take_length
def optB (b : Bool) (l : List UInt8) : List UInt8 := if b then l else []
def refTx (x : Tx) (b : Bool) : List UInt8 := [UInt8.ofNat x.kind.toNat] ++ varB x.frm.toNat ++ varB x.to.toNat ++ varB x.amount.toNat ++ varB x.fee.toNat ++ varB x.nonce.toNat ++ optB b x.sl
def refVote (x : Vote) (b : Bool) : List UInt8 := [UInt8.ofNat x.kind.toNat] ++ varB x.height.toNat ++ varB x.round.toNat ++ x.id ++ varB x.time.toNat ++ varB x.frm.toNat ++ optB b x.sl
def refProposal (x : Proposal) (b : Bool) : List UInt8 := varB x.height.toNat ++ varB x.round.toNat ++ varB (x.valid + 1).toNat ++ x.id ++ varB x.frm.toNat ++ optB b x.sl
end Go.Proofs.Ytnfffipkgaobhaa

/-
  A certificate laid down; EncodeCert. Conditions: each number fits its kind; the marks lie in the world.
  The document's own forms, further: join. Condition: the pieces have less than 2^46 bytes together.
  The steps of the law of a head in whatever order. No condition: lemmas over any program.
  The document's own forms: a transfer, a vote, a proposal, without and with their seals. Conditions: the numbers fit their types.
  The program's top of a list's leaves. Conditions: the leaves lie in memory, each of 32 bytes; the tables read as they were laid.
  Lists of records in memory; a list of byte slices that grows. No condition.
  A region that draws its order and holds guarded operations: the law of XFree with guards: an operation whose guard bars it leaves 'undef'. No condition: lemmas over any program.
-/
import Derived.Test.YtlhnhjglcbggmaaGreatRRY07
import Derived.Test.YtlhnhjglcbggmaaGreatRRY05
import Derived.Test.YtlhnhjglcbggmaaGreatRRY03
import Derived.OwnWalk
namespace Go.Proofs.YtlhnhjglcbggmaaGreatRR
set_option linter.unusedSimpArgs false
set_option linter.unusedVariables false
open Go.RowKit
set_option maxRecDepth 100000

theorem rd_lt {w : World} {A : Option Addr} {xs : List Value} (h : Rd w A xs) {ad : Addr} (ha : A = some ad) (hne : xs ≠ []) : ad.block < w.heap.size := by
 have hl : 0 < xs.length := List.length_pos_iff.2 hne
 obtain ⟨ad', ha', hc⟩ := h 0 _ (List.getElem?_eq_getElem hl)
 rw [ha] at ha'; injection ha' with ha'; subst ha'
 rcases Nat.lt_or_ge ad.block w.heap.size with hl' | hl'
 ·exact hl'
 ·have hn : w.cell? (ad.add 0) = none := by simp [World.cell?, add_block, Array.getElem?_eq_none hl']
  rw [hn] at hc; cases hc
theorem mkB {m : Mk} (hm : m.ok) (h : mkErr m = 0) : MkB m := by
 have hall := firstErr_zero h
 have a1 := field_zero (hall (field (decide (m.idx < 0) || decide (64 ≤ m.idx))) (by simp))
 have a2 := of_decide_eq_false (field_zero (hall (moment m.time) (by simp)))
 have ht := hm.time
 unfold U64 at ht
 simp only [Bool.or_eq_false_iff, decide_eq_false_iff_not] at a1
 exact ⟨by omega, by omega, ht.1, by omega⟩
theorem plainMks_rest {p : Option Int} {a : Mk} {ms : List Mk} (h : plainMks p (a :: ms) = 0) : mkErr a = 0 ∧ plainMks (some a.idx) ms = 0 := by
 by_cases he : mkErr a = 0
 ·refine ⟨he, ?_⟩
  cases p with
  | none => simpa [plainMks_cons, he] using h
  | some q =>
   by_cases hq : a.idx ≤ q
   ·simp [plainMks_cons, he, hq] at h
   ·simpa [plainMks_cons, he, hq] using h
 ·rw [plainMks_cons, if_pos he] at h; exact absurd h he
theorem mksB : ∀ (ms : List Mk) (p : Option Int), (∀ m ∈ ms, m.ok) → plainMks p ms = 0 → ∀ m ∈ ms, MkB m
 | [], _, _, _, m, hm => by cases hm
 | a :: ms, p, ho, h, m, hm => by
  have hr := plainMks_rest h
  rcases List.mem_cons.1 hm with rfl | hm
  ·exact mkB (ho _ (List.mem_cons_self ..)) hr.1
  ·exact mksB ms _ (fun q hq => ho q (List.mem_cons_of_mem _ hq)) hr.2 m hm
theorem crtB {x : Crt} (hx : x.ok) (h : plainCrt x = 0) : CrtB x := by
 unfold plainCrt at h
 by_cases hz : zeroC x = true
 ·unfold zeroC at hz
  simp only [Bool.and_eq_true, beq_iff_eq] at hz
  obtain ⟨z1, z2, _, z4⟩ := hz
  have hn := hx.n
  have hm : x.ms = [] := List.eq_nil_of_length_eq_zero (by omega)
  exact ⟨by omega, by omega, by omega, by omega, by omega, fun m hm' => by rw [hm] at hm'; cases hm'⟩
 ·rw [if_neg hz] at h
  by_cases he : headC x = 0
  ·rw [if_neg (by simp [he])] at h
   have hall := firstErr_zero he
   have b1 := of_decide_eq_false (field_zero (hall (height x.height) (by simp)))
   have b2 := of_decide_eq_false (field_zero (hall (round x.round) (by simp)))
   by_cases hn : 64 < (x.n : Int)
   ·rw [if_pos hn] at h; cases h
   ·rw [if_neg hn] at h
    exact ⟨by omega, by omega, by omega, by omega, by omega, mksB _ _ hx.ms h⟩
  ·rw [if_pos he] at h; exact absurd h he
set_option maxHeartbeats 2000000 in
theorem encodeCrt_any (w : World) (x : Crt) (hx : x.ok) (hat : x.at w) :
  Calls Tryz.prog 38 #[.agg x.cl.toArray, .int .i64 9223372036854775807, .func (.func 39) #[] #[], .func (.func 40) #[] #[]] w (BytesRes w (plainCrt x) (encCrt x)) := by
 have HX := Lib.hid hx
 have HAT := Lib.hid (show Rd w x.A (x.ms.flatMap Mk.cl) from hat)
 clear hat
 have HL := Lib.hid (x.cl_len hx)
 clear hx
 obtain ⟨F, hF⟩ : ∃ F, plainCrt x = F := ⟨_, rfl⟩
 have HF := Lib.hid hF
 rw [hF]
 clear hF
 by_cases hf : F = 0
 ·have HB := Lib.hid (crtB HX.out (HF.out.trans hf))
  have f1 : (F != 0) = false := by simp [hf]
  have f2 : (F == 0) = true := by simp [hf]
  have HZ := Lib.hid hf
  clear hf
  go_enter Tryz.func38, Tryz.ntmps38
  go_wp2_with (first
   | (with_reducible show wpList _ _ _ (Oper.mk _ (Op.box _ _) _ _ _ _ :: _) _ _; refine wpList_box_bk rfl _ _ rfl _ rfl ?_; intro bx w1 hk hbl hg hs; have HK1 := Lib.hid (bk_eqT (cs' := x.cl.toArray) hk rfl); have HB1 := Lib.hid hbl; clear hk hbl hg hs)
   | (with_reducible show wpList _ _ _ (Oper.mk (some 15) (Op.load _ _) _ _ _ _ :: _) _ _; refine wpList_load_part rfl 36 _ rfl bx 0 35 rfl _ _ _ HK1.out Tryz.underlying36 rfl info_Crt (by simp [HL.out]) _ (cl_all35 HL.out) ?_))
  refine (plainCrt_any w1 x HX.out (show x.at w1 from HAT.out.below HB1.out)).mono ?_
  rintro e w2 ⟨rfl, e2⟩
  rw [HF.out]
  have HB2 := Lib.hid (HB1.out.trans (e2.mono HB1.out.size))
  have HK2 := Lib.hid (HK1.out.below e2 HK1.out.lt)
  clear e2 HB1 HK1
  go_wp2_with fail
  refine (newWriter_any w2).mono ?_
  rintro e w3 ⟨g, rfl, hw3, e3⟩
  have HK3 := Lib.hid (HK2.out.below e3 HK2.out.lt)
  have HS2 := Lib.hid HB2.out.size
  have HS3 := Lib.hid e3.size
  have HB3 := Lib.hid (HB2.out.trans (e3.mono HB2.out.size))
  clear e3 HK2
  go_wp2_with (with_reducible show wpList _ _ _ (Oper.mk (some 23) (Op.load _ _) _ _ _ _ :: _) _ _; refine wpList_load_part rfl 36 _ rfl bx 0 35 rfl _ _ _ HK3.out Tryz.underlying36 rfl info_Crt (by simp [HL.out]) _ (cl_all35 HL.out) ?_)
  refine (putCert_any w3 _ g [] x HX.out HB.out (show x.at w3 from HAT.out.below HB3.out) (fun ad ha hne => Nat.lt_of_lt_of_le (rd_lt HAT.out ha hne) HS2.out) HS3.out hw3 (by unfold room46; simp)).mono ?_
  rintro e w4 ⟨rfl, hw4, e4⟩
  have hlen : ([] ++ encCrt x).length ≤ reach47 ∧ ([] ++ encCrt x).length ≤ 2400 := by
   have h1 := encCrt_len HX.out HB.out
   unfold reach47
   rw [List.nil_append]
   omega
  have HLEN := Lib.hid hlen
  have HB4 := Lib.hid (HB3.out.trans (e4.to HS2.out HS3.out))
  clear hlen e4
  go_wp2_with fail
  refine (out_any w4 _ g _ hw4 HLEN.out.1).mono ?_
  rintro e w5 ⟨v, rfl, hv, e5⟩
  obtain ⟨Av, cv, rfl⟩ := hv.form
  have HB5 := Lib.hid (HB4.out.trans (e5.mono HB4.out.size))
  have HV := Lib.hid (hv.mono HB4.out.size)
  have HE := Lib.hid (show ([] ++ encCrt x : List UInt8) = encCrt x from rfl)
  rw [HE.out] at HLEN HV ⊢
  obtain ⟨bs, hbs⟩ : ∃ bs, encCrt x = bs := ⟨_, rfl⟩
  rw [hbs] at HLEN HV ⊢
  obtain ⟨L, hL⟩ : ∃ L, bs.length = L := ⟨_, rfl⟩
  have HLL := Lib.hid hL
  have HBS := Lib.hid hbs
  rw [hL] at HLEN HV ⊢
  have hl9 : ¬ ((9223372036854775807 : Int) < (L : Int)) := by have := HLEN.out.2; omega
  have HX2 := Lib.hid HLEN
  clear hv e5 hw3 hw4 hbs HE HLEN hL
  go_wp2
  go_ret2
  exact ⟨HB5.out, .inr ⟨HZ.out, .slice Av L cv, rfl, by rw [HBS.out]; exact HV.out⟩⟩
 ·have f1 : (F != 0) = true := by simp [hf]
  have f2 : (F == 0) = false := by simp [hf]
  have HZ := Lib.hid hf
  clear hf
  go_enter Tryz.func38, Tryz.ntmps38
  go_wp2_with (first
   | (with_reducible show wpList _ _ _ (Oper.mk _ (Op.box _ _) _ _ _ _ :: _) _ _; refine wpList_box_bk rfl _ _ rfl _ rfl ?_; intro bx w1 hk hbl hg hs; have HK1 := Lib.hid (bk_eqT (cs' := x.cl.toArray) hk rfl); have HB1 := Lib.hid hbl; clear hk hbl hg hs)
   | (with_reducible show wpList _ _ _ (Oper.mk (some 15) (Op.load _ _) _ _ _ _ :: _) _ _; refine wpList_load_part rfl 36 _ rfl bx 0 35 rfl _ _ _ HK1.out Tryz.underlying36 rfl info_Crt (by simp [HL.out]) _ (cl_all35 HL.out) ?_))
  refine (plainCrt_any w1 x HX.out (show x.at w1 from HAT.out.below HB1.out)).mono ?_
  rintro e w2 ⟨rfl, e2⟩
  rw [HF.out]
  have HB2 := Lib.hid (HB1.out.trans (e2.mono HB1.out.size))
  clear e2
  go_wp2
  go_ret2
  exact ⟨HB2.out, .inl ⟨HZ.out, rfl⟩⟩

set_option maxHeartbeats 1000000 in
theorem EncodeCert_any (w : World) (x : Crt) (hx : x.ok) (hat : x.at w) :
  Calls Tryz.prog 15 #[.agg x.cl.toArray] w (BytesRes w (plainCrt x) (encCrt x)) := by
 have HL := Lib.hid (x.cl_len hx)
 have HX := Lib.hid hx
 have HAT := Lib.hid (show Rd w x.A (x.ms.flatMap Mk.cl) from hat)
 clear hat
 clear hx
 generalize hF : plainCrt x = F
 have HF := Lib.hid hF
 clear hF
 go_enter Tryz.func15, Tryz.ntmps15
 go_wp2_with (first
   | (with_reducible show wpList _ _ _ (Oper.mk _ (Op.box _ _) _ _ _ _ :: _) _ _; refine wpList_box_bk rfl _ _ rfl _ rfl ?_; intro bx w1 hk hbl hg hs; have HK1 := Lib.hid (bk_eqT (cs' := x.cl.toArray) hk rfl); have HB1 := Lib.hid hbl; clear hk hbl hg hs)
   | (with_reducible show wpList _ _ _ (Oper.mk (some 4) (Op.load _ _) _ _ _ _ :: _) _ _; refine wpList_load_part rfl 36 _ rfl bx 0 35 rfl _ _ _ HK1.out Tryz.underlying36 rfl info_Crt (by simp [HL.out]) _ (cl_all35 HL.out) ?_))
 refine (encodeCrt_any w1 x HX.out (show x.at w1 from HAT.out.below HB1.out)).mono ?_
 rw [HF.out]
 rintro e w2 ⟨e2, ⟨hz, rfl⟩ | ⟨hz, v, rfl, hv⟩⟩
 ·have HZ := Lib.hid hz
  have HB2 := Lib.hid (HB1.out.trans (e2.mono HB1.out.size))
  clear hz e2
  go_wp2
  go_ret2
  exact ⟨HB2.out, .inl ⟨HZ.out, rfl⟩⟩
 ·obtain ⟨Av, cv, rfl⟩ := hv.form
  have HZ := Lib.hid hz
  have HB2 := Lib.hid (HB1.out.trans (e2.mono HB1.out.size))
  have HV := Lib.hid (hv.mono HB1.out.size)
  clear hz e2 hv
  go_wp2
  go_ret2
  exact ⟨HB2.out, .inr ⟨HZ.out, _, rfl, HV.out⟩⟩
end Go.Proofs.YtlhnhjglcbggmaaGreatRR
namespace Go.Proofs.YtlhnhjglcbggmaaGreatRR
set_option linter.unusedSimpArgs false
set_option linter.unusedVariables false
open Go.RowKit
set_option maxRecDepth 100000

/-- a slice value that reads as these bytes -/
def Part (w : World) (v : Value) (l : List UInt8) : Prop := ∃ A c, v = .slice A l.length c ∧ Rd w A (bv l)
theorem Bs.part {w : World} {B : Nat} {v : Value} {l : List UInt8} (h : Bs w B v l) : Part w v l := by
 obtain ⟨A, c, rfl⟩ := h.form
 exact ⟨A, c, rfl, h.rd⟩
theorem Part.below {w w' : World} {v : Value} {l : List UInt8} (h : Part w v l) (hb : Below w.heap.size w w') : Part w' v l := by
 obtain ⟨A, c, rfl, hr⟩ := h
 exact ⟨A, c, rfl, hr.below hb⟩
end Go.Proofs.YtlhnhjglcbggmaaGreatRR
namespace Go.Proofs.YtlhnhjglcbggmaaGreatRR
set_option linter.unusedSimpArgs false
set_option linter.unusedVariables false
open Go.RowKit

section
variable {P : Program} {ops : Array Oper} {ks : List Known} {w w0 : World} {a0 a : Act} {i e : Nat} {d t : Tmp} {ds : List (Nat × Tmp)} {its : List (Tmp × List (Nat × Tmp))} {body : Act → Prop}
theorem FreeSteps.nil : FreeSteps P ops ks w0 a0 i [] := trivial
theorem FreeSteps.cons (h1 : ∀ w, Below w0.heap.size w0 w → FreeStep P ops ks w a0 i t ds a0) (h2 : FreeSteps P ops ks w0 a0 (i + 1) its) : FreeSteps P ops ks w0 a0 i ((t, ds) :: its) := ⟨h1, h2⟩
theorem FreeStep.is {x : Value} (hk : kat ks e = Is x) (h : FreeStep P ops ks w a0 i d ds (a.put (some t) x)) : FreeStep P ops ks w a0 i d ((e, t) :: ds) a := fun v hv => by
 rw [hk] at hv; cases hv; exact h
theorem FreeStep.dep {K : Known} (hk : kat ks e = K) (h : ∀ v, K v w → FreeStep P ops ks w a0 i d ds (a.put (some t) v)) : FreeStep P ops ks w a0 i d ((e, t) :: ds) a := fun v hv => h v (hk ▸ hv)
theorem FreeEnd.is {x : Value} (hk : kat ks i = Is x) (h : FreeEnd ks w body (i + 1) its (a.put (some t) x)) : FreeEnd ks w body i ((t, ds) :: its) a := fun v hv => by
 rw [hk] at hv; cases hv; exact h
theorem FreeEnd.cons {K : Known} (hk : kat ks i = K) (h : ∀ v, K v w → FreeEnd ks w body (i + 1) its (a.put (some t) v)) : FreeEnd ks w body i ((t, ds) :: its) a := fun v hv => h v (hk ▸ hv)
theorem FreeEnd.nil (h : body a) : FreeEnd ks w body i [] a := h
theorem FreeStep.op {o : Oper} {K : Known} (ho : ops[i]? = some o) (hk : kat ks i = K) (h : wpList P ops (QStep a0 d K w) [o] a w) : FreeStep P ops ks w a0 i d [] a := ⟨o, ho, hk ▸ h⟩
theorem FreeStep.det {o : Oper} {x : Value} (ho : ops[i]? = some o) (hg : o.guard = none) (hd : o.dst = some d) (hs : decide (d < a.tmps.size) = true) (hf : a.defers = a0.defers) (hk : kat ks i = Is x)
  (hrun : (execOp a.eval o).run P w = .ok (.value x) w) : FreeStep P ops ks w a0 i d [] a := by
 refine FreeStep.op ho hk (wpList_plain hg fun K hK => ?_)
 unfold Oper.wp
 rw [hrun]
 refine hK _ _ ?_
 show QStep _ _ _ _ _ _ _
 refine ⟨by rw [hd]; exact hf, Below.refl _ _, ?_⟩
 rw [hd]
 exact put_get (by simpa using hs)
theorem FreeStep.load_part {o : Oper} {x : Value} (ty : TypeId) (p : Operand) (ho : ops[i]? = some o) (hop : o.op = .load ty p) (hg : o.guard = none) (hd : o.dst = some d) (hs : decide (d < a.tmps.size) = true) (hf : a.defers = a0.defers) (hk : kat ks i = Is x)
  (g off n : Nat) (hx : a.eval p = .pointer (some ⟨g, off, none⟩)) (cs : Array Value) (bt : TypeId) (td : TypeDesc) (hb : Bk w g cs bt) (hu : P.underlying ty = some td) (hda : aggD td = true) (hi : (P.info? ty).map (·.size) = some n) (hn : off + n ≤ cs.size)
  (v : Array Value) (hv : cs.extract off (off + n) = v) (hxv : x = .agg v) : FreeStep P ops ks w a0 i d [] a := by
 refine FreeStep.det ho hg hd hs hf hk ?_
 unfold execOp
 simp only [hop, hx, Instr.loadAt, Instr.sureAddr, Sem.run_bind, Sem.run_pure, Result.andThen_ok, run_loadVar_part hb hu hda hi hn, hv, hxv]
/-- the step is a call of a Go function -/
theorem FreeStep.call {o : Oper} {K : Known} {f : FuncId} {vs : Array Value} {post : Ending → World → Prop} (ho : ops[i]? = some o) (hg : o.guard = none) (hd : o.dst = some d) (hs : decide (d < a.tmps.size) = true) (hf : a.defers = a0.defers) (hk : kat ks i = K)
  (hrun : (execOp a.eval o).run P w = .ok (.enter f vs) w) (hc : Calls P f vs w post) (hp : ∀ e w', post e w' → ∃ v, e = .returned v ∧ Below w.heap.size w w' ∧ K v w') : FreeStep P ops ks w a0 i d [] a := by
 refine FreeStep.op ho hk (wpList_plain hg fun K' hK => ?_)
 unfold Oper.wp
 rw [hrun]
 refine Calls.mono hc fun e w' he => ?_
 obtain ⟨v, rfl, hb, hv⟩ := hp e w' he
 refine hK _ _ ?_
 show QStep _ _ _ _ _ _ _
 refine ⟨by rw [hd]; exact hf, hb, ?_⟩
 rw [hd, put_get (by simpa using hs)]
 exact hv
end

theorem QStep.mk {a0 a' : Act} {d : Tmp} {K : Known} {w w' : World} (h1 : a'.defers = a0.defers) (h2 : Below w.heap.size w w') (h3 : K (a'.tmps.getD d undef) w') : QStep a0 d K w .normal a' w' := ⟨h1, h2, h3⟩
section
variable {P : Program} {ops : Array Oper} {ks : List Known} {w : World} {a0 a : Act} {i : Nat} {d : Tmp}
theorem zA {α : Type _} (l : List α) (i : Nat) (a : α) : l.toArray.setIfInBounds i a = (l.set i a).toArray := List.setIfInBounds_toArray l i a
theorem zB {α : Type _} {x : α} {xs : List α} {a : α} : (x :: xs).set 0 a = a :: xs := List.set_cons_zero
theorem zC {α : Type _} {x : α} {xs : List α} {i : Nat} {a : α} : (x :: xs).set (i + 1) a = x :: xs.set i a := List.set_cons_succ
theorem qsA {a' : Act} {K : Known} (h1 : a'.defers = a0.defers) (h3 : K (a'.tmps.getD d undef) w) : QStep a0 d K w .normal a' w := QStep.mk h1 (Below.refl _ _) h3
theorem foA {o : Oper} {K : Known} (ho : ops[i]? = some o) (hk : kat ks i = K) (h : wpList P ops (QStep a0 d K w) [o] a w) : FreeStep P ops ks w a0 i d [] a := FreeStep.op ho hk h
theorem fcA {w0 : World} {t : Tmp} {ds : List (Nat × Tmp)} {its : List (Tmp × List (Nat × Tmp))} (h1 : ∀ w, Below w0.heap.size w0 w → FreeStep P ops ks w a0 i t ds a0) (h2 : FreeSteps P ops ks w0 a0 (i + 1) its) : FreeSteps P ops ks w0 a0 i ((t, ds) :: its) := FreeSteps.cons h1 h2
theorem fiA {e : Nat} {t : Tmp} {ds : List (Nat × Tmp)} {x : Value} (hk : kat ks e = Is x) (h : FreeStep P ops ks w a0 i d ds (a.put (some t) x)) : FreeStep P ops ks w a0 i d ((e, t) :: ds) a := FreeStep.is hk h
end
end Go.Proofs.YtlhnhjglcbggmaaGreatRR
namespace Go.Proofs.YtlhnhjglcbggmaaGreatRR
set_option linter.unusedSimpArgs false
set_option linter.unusedVariables false
open Go.RowKit
set_option maxRecDepth 100000

theorem Tx.cl_sl (x : Tx) (h : x.sl.length = 16) : x.cl.toArray.extract 6 (6 + 16) = (bv x.sl).toArray := by
 refine extract_cl _ _ _ _ ?_
 have e : x.cl.drop 6 = bv x.sl ++ [] := by simp [Tx.cl]
 rw [e, show 6 + 16 - 6 = (bv x.sl).length from by rw [bv_length, h]]
 exact List.take_left
theorem Vote.cl_sl (x : Vote) (h : x.ok) : x.cl.toArray.extract 37 (37 + 16) = (bv x.sl).toArray := by
 refine extract_cl _ _ _ _ ?_
 have e : x.cl.drop 37 = bv x.sl := by simp [Vote.cl, bv_length, h.id, List.drop_append]
 rw [e, show 37 + 16 - 37 = (bv x.sl).length from by rw [bv_length, h.sl]]
 exact List.take_length
theorem Proposal.cl_sl (x : Proposal) (h : x.ok) : x.cl.toArray.extract 36 (36 + 16) = (bv x.sl).toArray := by
 refine extract_cl _ _ _ _ ?_
 have e : x.cl.drop 36 = bv x.sl := by simp [Proposal.cl, bv_length, h.id, List.drop_append]
 rw [e, show 36 + 16 - 36 = (bv x.sl).length from by rw [bv_length, h.sl]]
 exact List.take_length
end Go.Proofs.YtlhnhjglcbggmaaGreatRR
namespace Go.Proofs.YtlhnhjglcbggmaaGreatRR
set_option linter.unusedSimpArgs false
set_option linter.unusedVariables false
open Go.RowKit
set_option maxRecDepth 100000

/-- hashes, one behind the other -/
def hv (hs : List (List UInt8)) : List Value := hs.flatMap bv
theorem add_comm' (ad : Addr) (p j : Nat) : (ad.add p).add j = ad.add (p + j) := by
 unfold Addr.add
 split <;> split <;> simp_all <;> omega
end Go.Proofs.YtlhnhjglcbggmaaGreatRR
namespace Go.Proofs.YtlhnhjglcbggmaaGreatRR
set_option linter.unusedSimpArgs false
set_option linter.unusedVariables false
open Go.RowKit
set_option maxRecDepth 100000

section
variable {α : Type} {cl : α → List Value} {N : Nat}
theorem fl_at : ∀ (xs : List α) (_ : ∀ x ∈ xs, (cl x).length = N) (k : Nat) (hk : k < xs.length) (j : Nat) (u : Value), (cl xs[k])[j]? = some u → (xs.flatMap cl)[N * k + j]? = some u
 | m :: ms, hm, 0, hk, j, u, hu => by
  rw [List.flatMap_cons, Nat.mul_zero, Nat.zero_add]
  exact List.getElem?_append_left (List.getElem?_eq_some_iff.1 hu).1 |>.trans hu
 | m :: ms, hm, k + 1, hk, j, u, hu => by
  have hl := hm m (List.mem_cons_self ..)
  rw [List.flatMap_cons, List.getElem?_append_right (by rw [hl, Nat.mul_add]; omega), hl, show N * (k + 1) + j - N = N * k + j by rw [Nat.mul_add]; omega]
  exact fl_at ms (fun m' h' => hm m' (List.mem_cons_of_mem _ h')) k (by simpa using hk) j u (by simpa using hu)
theorem rd_elem {w : World} {A : Option Addr} {xs : List α} (hN : 0 < N) (hm : ∀ x ∈ xs, (cl x).length = N) (h : Rd w A (xs.flatMap cl)) {k : Nat} (hk : k < xs.length) :
  ∃ ad, A = some ad ∧ ∀ j u, (cl xs[k])[j]? = some u → w.cell? ((ad.add (k * N)).add j) = some u := by
 have hl := hm _ (List.getElem_mem hk)
 have h0 := fl_at xs hm k hk 0 _ (List.getElem?_eq_getElem (by omega))
 obtain ⟨ad, ha, _⟩ := h _ _ h0
 refine ⟨ad, ha, fun j u hu => ?_⟩
 obtain ⟨a', ha', hc⟩ := h _ _ (fl_at xs hm k hk j u hu)
 rw [ha] at ha'; injection ha' with ha'; subst ha'
 rw [add_comm', Nat.mul_comm]
 exact hc
end

/-- the first error of a list of things -/
def rootsErr (lim n : Nat) (es : List Int) : Int := if lim < n then 4 else firstErr es
theorem firstErr_take_zero {es : List Int} {k : Nat} {e : Int} (h : ∀ x ∈ es.take k, x = 0) (he : es[k]? = some e) (hne : e ≠ 0) : firstErr es = e := by
 induction es generalizing k with
 | nil => simp at he
 | cons a l ih =>
  cases k with
  | zero =>
   simp at he
   subst he
   unfold firstErr
   rw [if_pos hne]
  | succ k =>
   have ha : a = 0 := h a (by simp)
   subst ha
   unfold firstErr
   rw [if_neg (by simp)]
   exact ih (k := k) (fun x hx => h x (by rw [List.take_succ_cons]; exact List.mem_cons_of_mem _ hx)) (by simpa using he)
theorem firstErr_all_zero {es : List Int} (h : ∀ x ∈ es, x = 0) : firstErr es = 0 := by
 induction es with
 | nil => rfl
 | cons a l ih =>
  unfold firstErr
  rw [if_neg (by simp [h a (by simp)])]
  exact ih (fun x hx => h x (List.mem_cons_of_mem _ hx))
end Go.Proofs.YtlhnhjglcbggmaaGreatRR
namespace Go.Proofs.YtlhnhjglcbggmaaGreatRR
set_option linter.unusedSimpArgs false
set_option linter.unusedVariables false
open Go.RowKit

def freeOneG (ops : Array Oper) (its : List (Tmp × List (Nat × Tmp))) (i : Nat) : Bool :=
 match ops[i]?, its[i]? with
 | some o, some (d, ds) => o.dst == some d && o.after.all (fun e => !Region.binds .any e || decide (e.on < i)) &&
   ds.all (fun x => Region.waitsFor .any ops i x.1 && decide (x.1 < its.length) && (its[x.1]?).map (·.1) == some x.2) &&
   (List.range its.length).all (fun j => match its[j]? with | some (t, _) => (j == i || t != d) && (ds.any (fun x => x.1 == j) || !(o.looksAt ops).contains t) | none => false)
 | _, _ => false
def freeBG (ops : Array Oper) (its : List (Tmp × List (Nat × Tmp))) : Bool :=
 Region.noSelect ops && decide (its.length < ops.size) && Region.sinkB .any ops its.length && Region.chainB .any ops its.length &&
 (List.range its.length).all (freeOneG ops its) && Region.seqB .any ops (ops.size - its.length) its.length (allTrue ops.size its.length)

section
variable {P : Program} {ops : Array Oper} {ks : List Known} {Q : Exit → Act → World → Prop}
theorem freeOneG_spec {its : List (Tmp × List (Nat × Tmp))} {i : Nat} (h : freeOneG ops its i = true) :
  ∃ o d ds, ops[i]? = some o ∧ its[i]? = some (d, ds) ∧ o.dst = some d ∧ (∀ e ∈ o.after, Region.binds .any e = true → e.on < i) ∧
   (∀ x ∈ ds, Region.waitsFor .any ops i x.1 = true ∧ x.1 < its.length ∧ (its[x.1]?).map (·.1) = some x.2) ∧
   (∀ j t es, its[j]? = some (t, es) → (j = i ∨ t ≠ d) ∧ ((∃ x ∈ ds, x.1 = j) ∨ t ∉ o.looksAt ops)) := by
 unfold freeOneG at h
 split at h
 ·rename_i o d ds ho hi
  simp only [Bool.and_eq_true, List.all_eq_true, Array.all_eq_true_iff_forall_mem, Bool.or_eq_true, Bool.not_eq_true', decide_eq_true_eq, beq_iff_eq] at h
  obtain ⟨⟨⟨h2, h3⟩, h4⟩, h5⟩ := h
  refine ⟨o, d, ds, ho, hi, h2, fun e he hb => ?_, fun x hx => ⟨(h4 x hx).1.1, (h4 x hx).1.2, (h4 x hx).2⟩, fun j t es hj => ?_⟩
  ·rcases h3 e he with h | h
   ·rw [hb] at h; cases h
   ·exact h
  ·have hjl : j < its.length := (List.getElem?_eq_some_iff.1 hj).1
   have h6 := h5 j (List.mem_range.2 hjl)
   rw [hj] at h6
   simp only [Bool.and_eq_true, Bool.or_eq_true, beq_iff_eq, bne_iff_ne, List.any_eq_true, Bool.not_eq_true', List.contains_eq_mem, decide_eq_false_iff_not] at h6
   exact h6
 ·cases h

theorem wanted_same {o : Oper} {a b : Act} (hs : a.tmps.size = b.tmps.size) (h : ∀ t ∈ o.looksAt ops, a.tmps.getD t undef = b.tmps.getD t undef) : Region.wanted o (yielded ops a.tmps) = Region.wanted o (yielded ops b.tmps) := by
 unfold Region.wanted
 cases hg : o.guard with
 | none => rfl
 | some x =>
  obtain ⟨g, v⟩ := x
  have e : yielded ops a.tmps g = yielded ops b.tmps g := by
   unfold yielded
   cases hd : (ops[g]?).bind (·.dst) with
   | none => rfl
   | some t =>
    have ht : t ∈ o.looksAt ops := by
     unfold Oper.looksAt
     rw [hg]
     simp [hd]
    have e1 := h t ht
    have e2 : a.tmps[t]? = b.tmps[t]? := by
     rcases Nat.lt_or_ge t a.tmps.size with hl | hl
     ·have hl' : t < b.tmps.size := hs ▸ hl
      simpa [hl, hl'] using e1
     ·rw [Array.getElem?_eq_none hl, Array.getElem?_eq_none (show b.tmps.size ≤ t from hs ▸ hl)]
    simp only [Option.bind_some, e2]
  simp only [e]
theorem wp_carryG {o : Oper} {a b a0 : Act} {d : Tmp} {K : Known} {w : World} {next : Act → World → Prop} (hd : o.dst = some d) (hw : Region.wanted o (yielded ops a.tmps) = Region.wanted o (yielded ops b.tmps)) (he : execOp a.eval o = execOp b.eval o) (hb : b.defers = a0.defers) (hdb : d < b.tmps.size)
  (h : wpList P ops (QStep a0 d K w) [o] b w) (hn : ∀ v w', Below w.heap.size w w' → K v w' → next (a.put (some d) v) w') : if Region.wanted o (yielded ops a.tmps) then o.wp P a w next Q ∨ (o.asks P a w ∧ LetsOut Q) else next (a.put o.dst undef) w := by
 unfold wpList at h
 rw [← hw] at h
 by_cases hwt : Region.wanted o (yielded ops a.tmps) = true
 case neg =>
  rw [if_neg hwt] at h ⊢
  unfold wpList at h
  obtain ⟨_, h2, h3⟩ := h
  rw [hd] at h3 ⊢
  rw [put_get hdb] at h3
  exact hn _ _ h2 h3
 rw [if_pos hwt] at h ⊢
 rcases h with h | ⟨_, _, _, h⟩
 case inr => exact h.elim
 left
 unfold Oper.wp at *
 rw [he]
 have key : ∀ v w', wpList P ops (QStep a0 d K w) [] (b.put o.dst v) w' → next (a.put o.dst v) w' := by
  intro v w' h'
  rw [hd] at h' ⊢
  obtain ⟨_, h2, h3⟩ := h'
  rw [put_get hdb] at h3
  exact hn v w' h2 h3
 generalize (execOp b.eval o).run P w = r at h
 cases r with
 | ok n w' =>
  cases n <;> simp only [Oper.upon] at h ⊢
  case value v => exact key v w' h
  case skip => exact key undef w' h
  case defer x =>
   obtain ⟨h1, _⟩ := h
   exfalso
   have h2 : ({ b with defers := x :: b.defers }.put o.dst undef).defers = x :: b.defers := by rw [hd]; rfl
   rw [h2, hb] at h1
   have := congrArg List.length h1
   simp at this
  case enter f args =>
   refine Calls.mono h fun e w'' he => ?_
   cases e with
   | returned u => exact key u w'' he
   | panicked c => exact he.elim
   | outgrown => obtain ⟨_, _, h⟩ := he; exact h.elim
  case row row args => exact Rows.mono h fun u w'' he => key u w'' he
 | halt x w' =>
  cases x <;> simp only [Oper.upon] at h ⊢
  case panic u => exact h.elim

theorem wpAny_freeG {l : List Oper} {its : List (Tmp × List (Nat × Tmp))} {a0 : Act} {w0 : World} (hB : freeBG l.toArray its = true) (hsz : ∀ x ∈ its, x.1 < a0.tmps.size) (hst : Steadys ks)
  (hsteps : FreeSteps P l.toArray ks w0 a0 0 its)
  (hend : ∀ w, Below w0.heap.size w0 w → FreeEnd ks w (fun a => wpList P l.toArray Q (l.drop its.length) a w) 0 its a0) :
  ∀ (m : Nat) (L : Array Bool) (a : Act) (w : World), left L its.length = m → FreeInv l.toArray its ks a0 w0 L a w → wpAny P .any l.toArray Q (m + (l.length - its.length)) L a w := by
 simp only [freeBG, Bool.and_eq_true, decide_eq_true_eq, List.all_eq_true, List.mem_range] at hB
 obtain ⟨⟨⟨⟨⟨hsel, hn⟩, hs⟩, hc⟩, hone⟩, hseq⟩ := hB
 have hn' : its.length < l.length := by simpa using hn
 intro m
 induction m with
 | zero =>
  intro L a w hL inv
  have hall := left_zero its.length hL
  have hLe : L = allTrue l.toArray.size its.length := by
   apply Array.ext
   ·rw [allTrue_size]; exact inv.head.size
   ·intro j hj hj'
    have hj2 : j < l.toArray.size := by rw [allTrue_size] at hj'; exact hj'
    have e1 := allTrue_get l.toArray.size its.length j hj2
    have e2 : L.getD j false = decide (j < its.length) := by
     by_cases hlt : j < its.length
     ·rw [hall j hlt]; simp [hlt]
     ·rw [getD_both (inv.head.tail j (by omega) hj2)]; simp [hlt]
    have e3 := e2.trans e1.symm
    have e4 : L.getD j false = L[j] := by simp [hj]
    have e5 : (allTrue l.toArray.size its.length).getD j false = (allTrue l.toArray.size its.length)[j] := by simp only [Array.getD_eq_getD_getElem?, Array.getElem?_eq_getElem hj', Option.getD_some]
    rw [← e4, ← e5]
    exact e3
  have hfe := (hend w inv.rely).open (a := a) (fun j x hx => by
   have hlt : j < its.length := (List.getElem?_eq_some_iff.1 hx).1
   rw [Nat.zero_add]
   exact inv.known j x hx (hall j hlt))
  have hae : over a (its.map (·.1)) a0 = a := by
   refine act_ext ?_ ?_ fun t => ?_
   ·rw [over_defers, inv.defers]
   ·rw [over_size, inv.size]
   ·refine over_get a t _ a0 inv.size ?_
    by_cases ht : t ∈ its.map (·.1)
    ·exact .inl ht
    ·refine .inr (inv.off t fun x hx e => ht (List.mem_map.2 ⟨x, hx, e⟩)).symm
  rw [hae] at hfe
  have hdl : (l.drop its.length).length = l.length - its.length := by simp
  have := wpAny_of_seq (md := .any) (P := P) (Q' := Q) (l.drop its.length) its.length L a w (fun j => by simp [List.getElem?_drop]) (by rw [hdl, hLe]; simpa using hseq) hfe
  rw [hdl] at this
  rw [Nat.zero_add]
  exact this
 | succ m ih =>
  intro L a w hL inv
  obtain ⟨i0, hi0, hf0, hmin⟩ := left_pos (L := L) its.length (by rw [hL]; exact Nat.succ_pos m)
  have hun0 : L.getD i0 true = false := getD_in (by rw [inv.head.size]; exact Nat.lt_trans hi0 hn) hf0
  have hfu : m + 1 + (l.length - its.length) = (m + (l.length - its.length)) + 1 := by clear hL hun0 hf0; omega
  rw [hfu]
  refine ⟨fun hr => ?_, fun i hi => ?_⟩
  ·exfalso
   obtain ⟨o, d, ds, ho, _, _, haf, _, _⟩ := freeOneG_spec (hone i0 hi0)
   have : i0 ∈ Region.ready .any l.toArray L := mem_ready.2 ⟨hun0, o, ho, fun e he hb => hmin e.on (haf e he hb)⟩
   rw [hr] at this
   cases this
  ·have hin : i < its.length := by
    rcases Nat.lt_or_ge i its.length with h | h
    ·exact h
    ·exact absurd hi (tail_waits hs hc hn inv.head _ i0 rfl hi0 hun0 i h)
   obtain ⟨hun, o', ho', hall⟩ := mem_ready.1 hi
   obtain ⟨o, d, ds, ho, hit, hd, haf, hdeps, hdist⟩ := freeOneG_spec (hone i hin)
   have hoe : o' = o := Option.some.inj (ho'.symm.trans ho)
   subst hoe
   have hlisted : ∀ x ∈ ds, L.getD x.1 false = true := by
    intro x hx
    obtain ⟨o2, ho2, e, he, hb, hon⟩ := Region.waitsFor_spec (hdeps x hx).1
    have : o2 = o' := Option.some.inj (ho2.symm.trans ho)
    subst this
    rw [← hon]
    exact hall e he hb
   have hdk : ∀ x ∈ ds, ∃ y, its[x.1]? = some y ∧ y.1 = x.2 := by
    intro x hx
    have h3 := (hdeps x hx).2.2
    cases hy : its[x.1]? with
    | none => rw [hy] at h3; cases h3
    | some y => rw [hy] at h3; exact ⟨y, rfl, Option.some.inj h3⟩
   have hst1 := hsteps.at i (d, ds) hit w inv.rely
   rw [Nat.zero_add] at hst1
   obtain ⟨o2, ho2, hwp⟩ := hst1.open (a := a) (fun x hx => by
    obtain ⟨y, hy, hy2⟩ := hdk x hx
    have := inv.known x.1 y hy (hlisted x hx)
    rwa [hy2] at this)
   have hoe2 : o2 = o' := Option.some.inj (ho2.symm.trans ho)
   subst hoe2
   have hsize : d < a0.tmps.size := hsz (d, ds) (List.mem_of_getElem? hit)
   have hlook : ∀ t ∈ o2.looksAt l.toArray, a.tmps.getD t undef = (over a (ds.map (·.2)) a0).tmps.getD t undef := by
    intro t ht
    refine (over_get a t _ a0 inv.size ?_).symm
    by_cases htd : t ∈ ds.map (·.2)
    ·exact .inl htd
    ·refine .inr (inv.off t fun x hx e => ?_).symm
     obtain ⟨j, hj, hjx⟩ := List.getElem_of_mem hx
     have hjs : its[j]? = some x := by rw [← hjx]; exact List.getElem?_eq_getElem hj
     rcases (hdist j x.1 x.2 hjs).2 with ⟨y, hy, hyj⟩ | hno
     ·obtain ⟨z, hz, hz2⟩ := hdk y hy
      rw [hyj, hjs] at hz
      have : x = z := Option.some.inj hz
      subst this
      exact htd (List.mem_map.2 ⟨y, hy, by rw [← hz2, e]⟩)
     ·rw [e] at hno
      exact hno ht
   have hsame : execOp a.eval o2 = execOp (over a (ds.map (·.2)) a0).eval o2 := run_same (ops := l.toArray) (Region.noSelect_spec hsel i o2 · · ho) hlook
   unfold wpOp
   simp only [ho]
   refine wp_carryG hd (wanted_same (by rw [over_size]; exact inv.size) hlook) hsame (by rw [over_defers]) (by rw [over_size]; exact hsize) hwp fun v w' hbel hk => ?_
   have hLs : i < L.size := by rw [inv.head.size]; exact Nat.lt_trans hin hn
   refine ih (L.setIfInBounds i true) _ w' ?_ ?_
   ·have := left_set hLs (getD_both hun) its.length hin
    omega
   ·refine ⟨inv.head.set hi hin, inv.defers, by simp [Act.put, inv.size], fun t ht => ?_, inv.rely.trans (hbel.mono inv.rely.size), fun j x hj hl => ?_⟩
    ·rw [put_get_ne (ht (d, ds) (List.mem_of_getElem? hit))]
     exact inv.off t ht
    ·by_cases hji : i = j
     ·subst hji
      rw [hit] at hj
      cases hj
      rw [put_get (by rw [inv.size]; exact hsize)]
      exact hk
     ·rw [getD_set_ne false hji] at hl
      have hne : x.1 ≠ d := by
       rcases (hdist j x.1 x.2 hj).1 with h | h
       ·exact absurd h.symm hji
       ·exact h
      rw [put_get_ne (fun e => hne e.symm)]
      exact hst.at j _ _ _ (inv.known j x hj hl) hbel

/-- the law: n operations in whatever order, each shown by itself; the rest in turn -/
theorem wp_region_freeG {id : Nat} {l : List Oper} {a0 : Act} {w : World} (its : List (Tmp × List (Nat × Tmp))) (ks : List Known) (hm : P.follows .mixedOrders = true) (hB : freeBG l.toArray its = true) (hsz : (its.all fun x => decide (x.1 < a0.tmps.size)) = true) (hst : Steadys ks)
  (hsteps : FreeSteps P l.toArray ks w.drew a0 0 its)
  (hend : ∀ w', Below w.heap.size w.drew w' → FreeEnd ks w' (fun a => wpList P l.toArray Q (l.drop its.length) a w') 0 its a0) : (Code.region id l.toArray true).wp P Q a0 w := by
 refine wp_region_any hm ?_
 have hn : its.length < l.length := by
  simp only [freeBG, Bool.and_eq_true, decide_eq_true_eq] at hB
  simpa using hB.1.1.1.1.2
 have hsz' : ∀ x ∈ its, x.1 < a0.tmps.size := fun x hx => by simpa using List.all_eq_true.1 hsz x hx
 have := wpAny_freeG (Q := Q) (w0 := w.drew) hB hsz' hst hsteps hend its.length (Array.replicate l.toArray.size false) a0 w.drew (left_all _ _)
  ⟨⟨by simp, fun j oj _ hl => (by rw [getD_replicate_false] at hl; cases hl), fun t _ ht => getD_in (by simpa using ht) (getD_replicate_false _ _)⟩, rfl, rfl, fun _ _ => rfl, Below.refl _ _, fun i x _ hl => (by rw [getD_replicate_false] at hl; cases hl)⟩
 rw [show its.length + (l.length - its.length) = l.toArray.size by simp; omega] at this
 exact this
end
end Go.Proofs.YtlhnhjglcbggmaaGreatRR

/-
  A transaction laid down with its seal; EncodeTx. Conditions: each number fits its kind; the Writer has room.
  SHA-256 in plain Lean: the words, the rounds, bytes eaten 64 at a time; a hasher that takes them piece by piece comes to what one that takes them at once does. No program.
  The turns of a 32-bit word: math/bits.RotateLeft32 at a negative count, the document's turn. No condition but that the word fits.
  More laws at single operations: a new variable under a name of its own. No condition: lemmas over any program.
  Results that lie in memory, read out at the return. No condition: lemmas over any program.
  Words of 32 bits kept as words: one operation at a time, inside a region that draws its order and outside one. No condition: lemmas over any program.
  The compression of one chunk: package digest's mix.
  A Hasher's cells, and what a piece of bytes does to them. Plain Lean over lists and blocks; no walk.
-/
import Derived.Test.YtlhnhjglcbggmaaGreatRRY03
import Derived.Test.YtlhnhjglcbggmaaGreatRRChecked
import Derived.Test.YtlhnhjglcbggmaaGreatRRY01
import Derived.StillTailTactics
import Derived.Laws.CopyOwn
namespace Go.Proofs.YtlhnhjglcbggmaaGreatRR
set_option linter.unusedSimpArgs false
set_option linter.unusedVariables false
open Go.RowKit
set_option maxRecDepth 100000

theorem cl_sealTx (x : Tx) (j : Nat) (u : Value) (h : (bv x.sl)[j]? = some u) : x.cl.toArray[6 + j]? = some u := by
 rw [List.getElem?_toArray, Tx.cl, List.getElem?_append_right (by simp)]
 simpa using h
theorem bk_eqT {w : World} {g : Nat} {t : TypeId} {cs cs' : Array Value} (h : Bk w g cs t) (e : cs = cs') : Bk w g cs' t := e ▸ h
set_option maxHeartbeats 1000000 in
theorem putTx_raw (w : World) (B g : Nat) (bs : List UInt8) (x : Tx) (hx : x.ok) (hp : TxB x) (hw : Wr w B g bs) (hb : bs.length + 200 ≤ room46) :
  Calls Tryz.prog 82 #[.pointer (some ⟨g, 0, none⟩), .agg x.cl.toArray, .func (.func 77) #[.pointer (some ⟨g, 0, none⟩)] #[]] w fun e w' => e = .returned (.tuple #[]) ∧ Wr w' B g (bs ++ (encTx x ++ x.sl)) ∧ Eff B WrT w w' := by
 have k1 := hp.k1
 have k2 := hp.k2
 obtain ⟨fa, fb⟩ := hx.frm
 obtain ⟨ta, tb⟩ := hx.to
 obtain ⟨aa, ab⟩ := hx.amount
 obtain ⟨ea, eb⟩ := hx.fee
 obtain ⟨na, nb⟩ := hx.nonce
 have l1 := varB_int (n := x.frm) (by omega) (by unfold two64; omega)
 have l2 := varB_int (n := x.to) (by omega) (by unfold two64; omega)
 have l3 := varB_int (n := x.amount) (by omega) (by unfold two64; omega)
 have l4 := varB_int (n := x.fee) (by omega) (by unfold two64; omega)
 have l5 := varB_int (n := x.nonce) (by omega) (by unfold two64; omega)
 have FB := Lib.hid fb; clear fb
 have TB := Lib.hid tb; clear tb
 have AB := Lib.hid ab; clear ab
 have EB := Lib.hid eb; clear eb
 have NB := Lib.hid nb; clear nb
 have hlen := Lib.hid (x.cl_len hx)
 go_enter Tryz.func82, Tryz.ntmps82
 go_wp2_with (refine wpList_box_bk rfl _ _ rfl _ rfl ?_)
 intro bx w1 hk1 hbl hg hs
 clear hg hs
 have hw1 := hw.below hbl
 have c0 : w1.cell? ⟨bx, 0, none⟩ = some (.int .i64 x.kind) := hk1.cell 0
 go_wp2_with fail
 refine (byte_int _ B g bs x.kind hw1 (by omega) (by omega) (by omega)).mono ?_
 rintro e w2 ⟨rfl, hw2, e2⟩
 have hk2 := hk1.effT e2 (by decide)
 have d1 : w2.cell? ⟨bx, 1, none⟩ = some (.int .u64 x.frm) := hk2.cell 1
 have d2 : w2.cell? ⟨bx, 2, none⟩ = some (.int .u64 x.to) := hk2.cell 2
 have d3 : w2.cell? ⟨bx, 3, none⟩ = some (.int .u64 x.amount) := hk2.cell 3
 have d4 : w2.cell? ⟨bx, 4, none⟩ = some (.int .u64 x.fee) := hk2.cell 4
 have d5 : w2.cell? ⟨bx, 5, none⟩ = some (.int .u64 x.nonce) := hk2.cell 5
 go_wp2_with fail
 have i0 : ∀ wx : World, (Instr.index 224 (.agg #[.int .u64 x.frm, .int .u64 x.to, .int .u64 x.amount, .int .u64 x.fee, .int .u64 x.nonce]) (.int .i64 0)).run Tryz.prog wx = .ok (.int .u64 x.frm) wx := fun _ => by kernel_rfl
 have i1 : ∀ wx : World, (Instr.index 224 (.agg #[.int .u64 x.frm, .int .u64 x.to, .int .u64 x.amount, .int .u64 x.fee, .int .u64 x.nonce]) (.int .i64 1)).run Tryz.prog wx = .ok (.int .u64 x.to) wx := fun _ => by kernel_rfl
 have i2 : ∀ wx : World, (Instr.index 224 (.agg #[.int .u64 x.frm, .int .u64 x.to, .int .u64 x.amount, .int .u64 x.fee, .int .u64 x.nonce]) (.int .i64 2)).run Tryz.prog wx = .ok (.int .u64 x.amount) wx := fun _ => by kernel_rfl
 have i3 : ∀ wx : World, (Instr.index 224 (.agg #[.int .u64 x.frm, .int .u64 x.to, .int .u64 x.amount, .int .u64 x.fee, .int .u64 x.nonce]) (.int .i64 3)).run Tryz.prog wx = .ok (.int .u64 x.fee) wx := fun _ => by kernel_rfl
 have i4 : ∀ wx : World, (Instr.index 224 (.agg #[.int .u64 x.frm, .int .u64 x.to, .int .u64 x.amount, .int .u64 x.fee, .int .u64 x.nonce]) (.int .i64 4)).run Tryz.prog wx = .ok (.int .u64 x.nonce) wx := fun _ => by kernel_rfl
 refine wp_loop_rounds 6 ?_
 rw [rounds_succ]
 go_wp2_with fail
 refine (var_int _ B g _ x.frm hw2 (by omega) (by unfold two64; exact FB.out) (by simp only [List.length_append, List.length_cons, List.length_nil]; omega)).mono ?_
 rintro e w3 ⟨rfl, hw3, e3⟩
 go_wp2_with fail
 rw [rounds_succ]
 go_wp2_with fail
 refine (var_int _ B g _ x.to hw3 (by omega) (by unfold two64; exact TB.out) (by simp only [List.length_append, List.length_cons, List.length_nil]; omega)).mono ?_
 rintro e w4 ⟨rfl, hw4, e4⟩
 go_wp2_with fail
 rw [rounds_succ]
 go_wp2_with fail
 refine (var_int _ B g _ x.amount hw4 (by omega) (by unfold two64; exact AB.out) (by simp only [List.length_append, List.length_cons, List.length_nil]; omega)).mono ?_
 rintro e w5 ⟨rfl, hw5, e5⟩
 go_wp2_with fail
 rw [rounds_succ]
 go_wp2_with fail
 refine (var_int _ B g _ x.fee hw5 (by omega) (by unfold two64; exact EB.out) (by simp only [List.length_append, List.length_cons, List.length_nil]; omega)).mono ?_
 rintro e w6 ⟨rfl, hw6, e6⟩
 go_wp2_with fail
 rw [rounds_succ]
 go_wp2_with fail
 refine (var_int _ B g _ x.nonce hw6 (by omega) (by unfold two64; exact NB.out) (by simp only [List.length_append, List.length_cons, List.length_nil]; omega)).mono ?_
 rintro e w7 ⟨rfl, hw7, e7⟩
 go_wp2_with fail
 rw [rounds_succ]
 have hk7 := ((((hk2.effT e3 (by decide)).effT e4 (by decide)).effT e5 (by decide)).effT e6 (by decide)).effT e7 (by decide)
 have hr7 : Rd w7 (some ⟨bx, 6, none⟩) (bv x.sl) := Rd.of_bk hk7 6 _ (fun j u hu => cl_sealTx x j u hu)
 have Ls := Lib.hid hx.sl
 go_wp2_with fail
 refine (raw_any _ B g _ x.sl _ 16 16 hw7 hr7 Ls.out (by simp only [List.length_append, List.length_cons, List.length_nil]; omega)).mono ?_
 rintro e w8 ⟨rfl, hw8, e8⟩
 go_wp2
 go_end0
 refine ⟨rfl, ?_, (Eff.of_below hbl _ _).trans (e2.trans (e3.trans (e4.trans (e5.trans (e6.trans (e7.trans e8))))))⟩
 unfold encTx
 simpa only [List.append_assoc] using hw8

set_option maxHeartbeats 1000000 in
theorem putSealedTx_any (w : World) (B g : Nat) (bs : List UInt8) (x : Tx) (hx : x.ok) (hp : TxB x) (hw : Wr w B g bs) (hb : bs.length + 200 ≤ room46) :
  Calls Tryz.prog 34 #[.pointer (some ⟨g, 0, none⟩), .agg x.cl.toArray] w fun e w' => e = .returned (.tuple #[]) ∧ Wr w' B g (bs ++ (encTx x ++ x.sl)) ∧ Eff B WrT w w' := by
 have HP := Lib.hid hp
 have HB := Lib.hid hb
 clear hp hb
 go_enter Tryz.func34, Tryz.ntmps34
 go_wp2_with (with_reducible show wpList _ _ _ (Oper.mk _ (Op.box _ _) _ _ _ _ :: _) _ _; refine wpList_box_bk rfl _ _ rfl _ rfl ?_)
 intro bx w1 hk hbl hg hs
 clear hg hs
 have hw1 := hw.below hbl
 go_wp2_with (with_reducible show wpList _ _ _ (Oper.mk _ (Op.load _ _) _ _ _ _ :: _) _ _; refine wpList_load_part rfl 27 _ rfl bx 0 22 rfl _ _ _ hk Tryz.underlying27 rfl info_Tx (by have := x.cl_len hx; simp [Value.cells, this]) _ (cl_all (x.cl_len hx)) ?_)
 refine (putTx_raw w1 B g bs x hx HP.out hw1 HB.out).mono ?_
 rintro e w2 ⟨rfl, hw2, e2⟩
 go_wp2
 go_end0
 exact ⟨rfl, hw2, (Eff.of_below hbl _ _).trans e2⟩

def formTx (x : Tx) : List UInt8 := encTx x ++ x.sl
set_option maxHeartbeats 2000000 in
theorem encodeTx_any (w : World) (x : Tx) (hx : x.ok) :
  Calls Tryz.prog 32 #[.agg x.cl.toArray, .int .i64 9223372036854775807, .func (.func 33) #[] #[], .func (.func 34) #[] #[]] w (BytesRes w (plainTx x) (formTx x)) := by
 have HX := Lib.hid hx
 have HL := Lib.hid (x.cl_len hx)
 clear hx
 obtain ⟨F, hF⟩ : ∃ F, plainTx x = F := ⟨_, rfl⟩
 have HF := Lib.hid hF
 rw [hF]
 clear hF
 by_cases hf : F = 0
 ·have HB := Lib.hid (txB (HF.out.trans hf))
  have f1 : (F != 0) = false := by simp [hf]
  have f2 : (F == 0) = true := by simp [hf]
  have HZ := Lib.hid hf
  clear hf
  go_enter Tryz.func32, Tryz.ntmps32
  go_wp2_with (first
   | (with_reducible show wpList _ _ _ (Oper.mk _ (Op.box _ _) _ _ _ _ :: _) _ _; refine wpList_box_bk rfl _ _ rfl _ rfl ?_; intro bx w1 hk hbl hg hs; have HK1 := Lib.hid (bk_eqT (cs' := x.cl.toArray) hk rfl); have HB1 := Lib.hid hbl; clear hk hbl hg hs)
   | (with_reducible show wpList _ _ _ (Oper.mk (some 15) (Op.load _ _) _ _ _ _ :: _) _ _; refine wpList_load_part rfl 27 _ rfl bx 0 22 rfl _ _ _ HK1.out Tryz.underlying27 rfl info_Tx (by simp [HL.out]) _ (cl_all HL.out) ?_))
  refine (plainTx_any w1 x).mono ?_
  rintro e w2 ⟨rfl, e2⟩
  rw [HF.out]
  have HB2 := Lib.hid (HB1.out.trans (e2.mono HB1.out.size))
  have HK2 := Lib.hid (HK1.out.below e2 HK1.out.lt)
  clear e2 HB1 HK1
  go_wp2_with fail
  refine (newWriter_any w2).mono ?_
  rintro e w3 ⟨g, rfl, hw3, e3⟩
  have HK3 := Lib.hid (HK2.out.below e3 HK2.out.lt)
  have HS2 := Lib.hid HB2.out.size
  have HS3 := Lib.hid e3.size
  have HB3 := Lib.hid (HB2.out.trans (e3.mono HB2.out.size))
  clear e3 HK2
  go_wp2_with (with_reducible show wpList _ _ _ (Oper.mk (some 23) (Op.load _ _) _ _ _ _ :: _) _ _; refine wpList_load_part rfl 27 _ rfl bx 0 22 rfl _ _ _ HK3.out Tryz.underlying27 rfl info_Tx (by simp [HL.out]) _ (cl_all HL.out) ?_)
  refine (putSealedTx_any w3 _ g [] x HX.out HB.out hw3 (by unfold room46; simp)).mono ?_
  rintro e w4 ⟨rfl, hw4, e4⟩
  have hlen : ([] ++ (encTx x ++ x.sl)).length ≤ reach47 ∧ ([] ++ (encTx x ++ x.sl)).length ≤ 300 := by
   have h1 := encTx_len HX.out HB.out
   have h2 := HX.out.sl
   unfold reach47
   simp only [List.nil_append, List.length_append, h2]
   omega
  have HLEN := Lib.hid hlen
  have HB4 := Lib.hid (HB3.out.trans (e4.to HS2.out HS3.out))
  clear hlen e4
  go_wp2_with fail
  refine (out_any w4 _ g _ hw4 HLEN.out.1).mono ?_
  rintro e w5 ⟨v, rfl, hv, e5⟩
  obtain ⟨Av, cv, rfl⟩ := hv.form
  have HB5 := Lib.hid (HB4.out.trans (e5.mono HB4.out.size))
  have HV := Lib.hid (hv.mono HB4.out.size)
  have HE := Lib.hid (show ([] ++ (encTx x ++ x.sl) : List UInt8) = formTx x from rfl)
  rw [HE.out] at HLEN HV ⊢
  obtain ⟨bs, hbs⟩ : ∃ bs, formTx x = bs := ⟨_, rfl⟩
  rw [hbs] at HLEN HV ⊢
  obtain ⟨L, hL⟩ : ∃ L, bs.length = L := ⟨_, rfl⟩
  have HLL := Lib.hid hL
  have HBS := Lib.hid hbs
  rw [hL] at HLEN HV ⊢
  have hl9 : ¬ ((9223372036854775807 : Int) < (L : Int)) := by have := HLEN.out.2; omega
  have HX2 := Lib.hid HLEN
  clear hv e5 hw3 hw4 hbs HE HLEN hL
  go_wp2
  go_ret2
  exact ⟨HB5.out, .inr ⟨HZ.out, .slice Av L cv, rfl, by rw [HBS.out]; exact HV.out⟩⟩
 ·have f1 : (F != 0) = true := by simp [hf]
  have f2 : (F == 0) = false := by simp [hf]
  have HZ := Lib.hid hf
  clear hf
  go_enter Tryz.func32, Tryz.ntmps32
  go_wp2_with (first
   | (with_reducible show wpList _ _ _ (Oper.mk _ (Op.box _ _) _ _ _ _ :: _) _ _; refine wpList_box_bk rfl _ _ rfl _ rfl ?_; intro bx w1 hk hbl hg hs; have HK1 := Lib.hid (bk_eqT (cs' := x.cl.toArray) hk rfl); have HB1 := Lib.hid hbl; clear hk hbl hg hs)
   | (with_reducible show wpList _ _ _ (Oper.mk (some 15) (Op.load _ _) _ _ _ _ :: _) _ _; refine wpList_load_part rfl 27 _ rfl bx 0 22 rfl _ _ _ HK1.out Tryz.underlying27 rfl info_Tx (by simp [HL.out]) _ (cl_all HL.out) ?_))
  refine (plainTx_any w1 x).mono ?_
  rintro e w2 ⟨rfl, e2⟩
  rw [HF.out]
  have HB2 := Lib.hid (HB1.out.trans (e2.mono HB1.out.size))
  clear e2
  go_wp2
  go_ret2
  exact ⟨HB2.out, .inl ⟨HZ.out, rfl⟩⟩

set_option maxHeartbeats 1000000 in
theorem EncodeTx_any (w : World) (x : Tx) (hx : x.ok) :
  Calls Tryz.prog 13 #[.agg x.cl.toArray] w (BytesRes w (plainTx x) (formTx x)) := by
 have HL := Lib.hid (x.cl_len hx)
 have HX := Lib.hid hx
 clear hx
 generalize hF : plainTx x = F
 have HF := Lib.hid hF
 clear hF
 go_enter Tryz.func13, Tryz.ntmps13
 go_wp2_with (first
   | (with_reducible show wpList _ _ _ (Oper.mk _ (Op.box _ _) _ _ _ _ :: _) _ _; refine wpList_box_bk rfl _ _ rfl _ rfl ?_; intro bx w1 hk hbl hg hs; have HK1 := Lib.hid (bk_eqT (cs' := x.cl.toArray) hk rfl); have HB1 := Lib.hid hbl; clear hk hbl hg hs)
   | (with_reducible show wpList _ _ _ (Oper.mk (some 4) (Op.load _ _) _ _ _ _ :: _) _ _; refine wpList_load_part rfl 27 _ rfl bx 0 22 rfl _ _ _ HK1.out Tryz.underlying27 rfl info_Tx (by simp [HL.out]) _ (cl_all HL.out) ?_))
 refine (encodeTx_any w1 x HX.out).mono ?_
 rw [HF.out]
 rintro e w2 ⟨e2, ⟨hz, rfl⟩ | ⟨hz, v, rfl, hv⟩⟩
 ·have HZ := Lib.hid hz
  have HB2 := Lib.hid (HB1.out.trans (e2.mono HB1.out.size))
  clear hz e2
  go_wp2
  go_ret2
  exact ⟨HB2.out, .inl ⟨HZ.out, rfl⟩⟩
 ·obtain ⟨Av, cv, rfl⟩ := hv.form
  have HZ := Lib.hid hz
  have HB2 := Lib.hid (HB1.out.trans (e2.mono HB1.out.size))
  have HV := Lib.hid (hv.mono HB1.out.size)
  clear hz e2 hv
  go_wp2
  go_ret2
  exact ⟨HB2.out, .inr ⟨HZ.out, _, rfl, HV.out⟩⟩
end Go.Proofs.YtlhnhjglcbggmaaGreatRR
namespace Go.Proofs.YtlhnhjglcbggmaaGreatRR
set_option linter.unusedSimpArgs false
set_option linter.unusedVariables false

section
variable {S : Type}
def rest (l : List UInt8) : List UInt8 := l.drop (64 * (l.length / 64))
end
/-! the words -/
structure S8 where
 (a b c d e f g h : UInt32)
deriving DecidableEq
def S8.list (s : S8) : List UInt32 := [s.a, s.b, s.c, s.d, s.e, s.f, s.g, s.h]
def bytes4 (x : UInt32) : List UInt8 := [(x >>> 24).toUInt8, (x >>> 16).toUInt8, (x >>> 8).toUInt8, x.toUInt8]
def S8.bytes (s : S8) : List UInt8 := s.list.flatMap bytes4
end Go.Proofs.YtlhnhjglcbggmaaGreatRR
namespace Go.Proofs.YtlhnhjglcbggmaaGreatRR
set_option linter.unusedSimpArgs false
set_option linter.unusedVariables false
open Go.RowKit
set_option maxRecDepth 100000

/-- a word as the model's number -/
def uI (x : UInt32) : Int := (x.toNat : Int)
end Go.Proofs.YtlhnhjglcbggmaaGreatRR
namespace Go.Proofs.YtlhnhjglcbggmaaGreatRR
set_option linter.unusedSimpArgs false
set_option linter.unusedVariables false
open Go.RowKit

section
variable {P : Program}
theorem run_zero {t : TypeId} {z : Value} (hz : (P.info? t).bind (·.zero) = some z) (w : World) : (zeroValue t).run P w = .ok z w := by
 cases hq : P.info? t with
 | none => simp [hq] at hz
 | some i =>
  simp [hq] at hz
  simp [zeroValue, typeInfo, hq, hz]
/-- a new variable, zero -/
theorem wpList_alloc_bk {ops : Array Oper} {rest : List Oper} {o : Oper} {a : Act} {w : World} {Q : Exit → Act → World → Prop} (hgd : o.guard = none) (t : TypeId) (ho : o.op = .alloc t) (z : Value) (hz : (P.info? t).bind (·.zero) = some z)
  (h : ∀ g w', Bk w' g z.cells t → Below w.heap.size w w' → w.heap.size = g → w'.heap.size = g + 1 → wpList P ops Q rest (a.put o.dst (.pointer (some ⟨g, 0, none⟩))) w') : wpList P ops Q (o :: rest) a w := by
 refine wpList_plain hgd fun K hK => ?_
 unfold Oper.wp execOp
 simp only [ho, Instr.alloc, run_zero hz, newVar, newRow, newObj, Sem.run_bind, Sem.run_pure, Result.andThen_ok]
 refine hK _ _ (h w.heap.size (w.alloc (.cells z.cells t)) (Bk.new w t _) ((Below.refl _ _).alloc (Nat.le_refl _) _) rfl (by simp))
end
end Go.Proofs.YtlhnhjglcbggmaaGreatRR
namespace Go.Proofs.YtlhnhjglcbggmaaGreatRR
set_option linter.unusedSimpArgs false
set_option linter.unusedVariables false
open Go.RowKit

section
variable {P : Program}
theorem run_results_cell {fn : Func} {a t : Nat} {tmps : Array Value} {ad : Addr} {v : Value} {w : World} (hr : fn.results = #[.cell a t]) (ht : tmps.getD a undef = .pointer (some ad)) (hl : (loadVar t ad).run P w = .ok v w) :
  (results fn tmps).run P w = .ok v w := by
 simp only [Array.getD_eq_getD_getElem?] at ht
 simp [results, hr, ht, hl, asAddr, Sem.run_bind, Sem.run_pure]
theorem bodyPost_cell {fn : Func} {R : Ending → World → Prop} {act : Act} {w : World} {a t n g : Nat} {cs : Array Value} {bt : TypeId} {d : TypeDesc} (hr : fn.results = #[.cell a t]) (ht : act.tmps.getD a undef = .pointer (some ⟨g, 0, none⟩)) (hk : Bk w g cs bt) (hu : P.underlying t = some d) (hda : aggD d = true) (hi : (P.info? t).map (·.size) = some n) (hn : n = cs.size) (hd : act.defers = []) (hR : R (.returned (.agg cs)) w) : bodyPost P fn R .ret act w := by
 have hl := run_loadVar_part (P := P) (off := 0) hk hu hda hi (by omega)
 have e : cs.extract 0 (0 + n) = cs := by subst hn; simp
 rw [e] at hl
 exact bodyPost_ret (run_results_cell hr ht hl) hd hR
/-- a variable written whole -/
theorem wpList_store_bk {ops : Array Oper} {rest : List Oper} {o : Oper} {a : Act} {w : World} {Q : Exit → Act → World → Prop} (hw : Region.wanted o (yielded ops a.tmps) = true) (ty : TypeId) (x y : Operand) (ho : o.op = .store ty x y)
  (g : Nat) (hx : a.eval x = .pointer (some ⟨g, 0, none⟩)) (v : Value) (hy : a.eval y = v) (cs : Array Value) (t : TypeId) (hk : Bk w g cs t) (hi : (P.info? ty).map (·.size) = some v.cells.size) (hn : v.cells.size = cs.size) (h1 : ∀ u ∈ v.cells.toList, u.oneCell' = true)
  (h : ∀ w', Bk w' g v.cells t → w.grownBy w' (some g) → w'.heap.size = w.heap.size → wpList P ops Q rest (a.put o.dst undef) w') : wpList P ops Q (o :: rest) a w := by
 refine wpList_store_part hw ty x y ho g 0 hx v hy cs t hk hi (by omega) h1 fun w' hk' hg hs => h w' ?_ hg hs
 have e : splice cs 0 v.cells.toList = v.cells := by
  apply Array.ext'
  simp [splice, hn]
 rw [e] at hk'
 exact hk'
end
end Go.Proofs.YtlhnhjglcbggmaaGreatRR
namespace Go.Proofs.YtlhnhjglcbggmaaGreatRR
set_option linter.unusedSimpArgs false
set_option linter.unusedVariables false
open Go.RowKit
set_option maxRecDepth 100000

section
variable {P : Program} {ρ : Operand → Value} {o : Oper} {ty ty' : TypeId} {x y : Operand} {p q : UInt32}
end
section
variable {P : Program} {ops : Array Oper} {C : World → Prop} {o : Oper} {a : Act} {K : Act → Prop} {w : World} {Q : Exit → Act → World → Prop} {rest : List Oper}
theorem wpList_exec (hw : Region.wanted o (yielded ops a.tmps) = true) {v : Value} (hr : ∀ w, (execOp a.eval o).run P w = .ok (.value v) w) (h : wpList P ops Q rest (a.put o.dst v) w) : wpList P ops Q (o :: rest) a w := by
 refine wpList_want hw fun K hK => ?_
 unfold Oper.wp
 rw [hr]
 exact hK _ _ h
end
end Go.Proofs.YtlhnhjglcbggmaaGreatRR
namespace Go.Proofs.YtlhnhjglcbggmaaGreatRR
set_option linter.unusedSimpArgs false
set_option linter.unusedVariables false
open Go.RowKit
set_option maxRecDepth 100000

/-- words as cells -/
def uv (l : List UInt32) : List Value := l.map fun x => .int .u32 (uI x)
section
variable {P : Program}
/-- a new block, without an equation on the heap's size -/
theorem wpList_box_i {ops : Array Oper} {rest : List Oper} {o : Oper} {a : Act} {w : World} {Q : Exit → Act → World → Prop} (hgd : o.guard = none) (t : TypeId) (x : Operand) (ho : o.op = .box t x) (v : Value) (hx : a.eval x = v)
  (h : ∀ g w', Bk w' g v.cells t → Below w.heap.size w w' → w.heap.size ≤ g → g < w'.heap.size → wpList P ops Q rest (a.put o.dst (.pointer (some ⟨g, 0, none⟩))) w') : wpList P ops Q (o :: rest) a w :=
 wpList_box_bk hgd t x ho v hx fun g w' h1 h2 h3 h4 => h g w' h1 h2 (by omega) (by omega)
theorem wpList_alloc_i {ops : Array Oper} {rest : List Oper} {o : Oper} {a : Act} {w : World} {Q : Exit → Act → World → Prop} (hgd : o.guard = none) (t : TypeId) (ho : o.op = .alloc t) (z : Value) (hz : (P.info? t).bind (·.zero) = some z)
  (h : ∀ g w', Bk w' g z.cells t → Below w.heap.size w w' → w.heap.size ≤ g → g < w'.heap.size → wpList P ops Q rest (a.put o.dst (.pointer (some ⟨g, 0, none⟩))) w') : wpList P ops Q (o :: rest) a w :=
 wpList_alloc_bk hgd t ho z hz fun g w' h1 h2 h3 h4 => h g w' h1 h2 (by omega) (by omega)
end
theorem below_grown2 {B : Nat} {w0 wr w5 : World} {b : Nat} (hb : Below B w0 wr) (hg : wr.grownBy w5 (some b)) (hB : B ≤ b) (hs : B ≤ wr.heap.size := by omega) : Below B w0 w5 :=
 hb.trans ⟨hg.os, hg.tape, hg.output, hg.size, fun k hk => hg.block k (Nat.lt_of_lt_of_le hk hs) (fun e => by injection e with e; omega)⟩
end Go.Proofs.YtlhnhjglcbggmaaGreatRR
namespace Go.Proofs.YtlhnhjglcbggmaaGreatRR
set_option linter.unusedSimpArgs false
set_option linter.unusedVariables false
open Go.RowKit
set_option maxRecDepth 100000

/-- a Hasher's cells -/
def hc (s : S8) (part : List UInt8) (h t : Int) : List Value := (.bool true :: uv s.list) ++ (bv part ++ [.int .i64 h, .int .u64 t])
theorem Rd.grown {w w' : World} {A : Option Addr} {xs : List Value} {g : Nat} (h : Rd w A xs) (hg : w.grownBy w' (some g)) (hne : ∀ ad, A = some ad → ad.block ≠ g) : Rd w' A xs := h.of_cells fun ad j ha hn => by
 have hl : ad.block < w.heap.size := by
  rcases Nat.lt_or_ge ad.block w.heap.size with hl | hl
  ·exact hl
  ·exact absurd (by simp [World.cell?, add_block, Array.getElem?_eq_none hl]) hn
 have hb := hg.block ad.block hl (fun e => hne ad ha (by injection e))
 simp only [World.cell?, add_block, hb]
section
variable {P : Program}
end
end Go.Proofs.YtlhnhjglcbggmaaGreatRR

/-
  EncodeEvidence. Condition: each number fits its kind.
  The program's roots of lists of transfers. Conditions: the list lies in memory; each number fits its kind; the tables read as they were laid.
  The program's roots of lists of evidence. Conditions: the list lies in memory; each number fits its kind; the tables read as they were laid.
  The reference's roots of lists of transfers and of evidence. Conditions: the list lies in memory; each number fits its kind; the table reads as it was laid.
  The law's own helpers: num, sameBytes, turn. Conditions: sizes below 2^46; what is turned is the call's own.
  The law's certificates and blocks: are they alike? Conditions: each number fits its kind; the lists lie in the world.
  The law's blocks, as they are handed in, with marks in the room behind each list. Conditions: each number fits its kind; the lists lie in the world.
  The law's helper turn: it writes over its slice, and appends to it: what else there is stays. Conditions: the slice is the call's own, below 2^46 bytes.
  A Reader of package codec: what it holds, and what its calls may change. No condition: each is a lemma.
  What reading comes to, in plain Lean: a byte, so many bytes, a number in groups of seven bits. No condition.
  Reader.take: so many bytes of what is left, or the error. No condition.
-/
import Derived.Test.YtlhnhjglcbggmaaGreatRRYEv2
import Derived.Test.YtlhnhjglcbggmaaGreatRRY06
import Derived.Test.YtlhnhjglcbggmaaGreatRRY08
import Derived.Test.YtlhnhjglcbggmaaGreatRRY05
import Derived.Test.YtlhnhjglcbggmaaGreatRRY01
namespace Go.Proofs.YtlhnhjglcbggmaaGreatRR
set_option linter.unusedSimpArgs false
set_option linter.unusedVariables false
open Go.RowKit
set_option maxRecDepth 100000

theorem evB {x : Ev} (hx : x.ok) (h : plainEv x = 0) : VoteB x.a ∧ VoteB x.b := by
 unfold plainEv at h
 by_cases he : headEv x = 0
 ·have hall := firstErr_zero he
  exact ⟨voteB hx.a (hall (plainVote x.a) (by simp)), voteB hx.b (hall (plainVote x.b) (by simp))⟩
 ·rw [if_pos he] at h
  exact absurd h he
theorem formEv_len {x : Ev} (hx : x.ok) (ha : VoteB x.a) (hb : VoteB x.b) : (formEv x).length ≤ 190 := by
 have h1 := encVote_len hx.a ha
 have h2 := encVote_len hx.b hb
 have h3 := hx.a.sl
 have h4 := hx.b.sl
 simp only [formEv, fvE, List.length_append]
 omega
set_option maxHeartbeats 2000000 in
theorem encodeEv_any (w : World) (x : Ev) (hx : x.ok) :
  Calls Tryz.prog 41 #[.agg x.cl.toArray, .int .i64 9223372036854775807, .func (.func 42) #[] #[], .func (.func 43) #[] #[]] w (BytesRes w (plainEv x) (formEv x)) := by
 have HX := Lib.hid hx
 have HL := Lib.hid (x.cl_len hx)
 clear hx
 obtain ⟨F, hF⟩ : ∃ F, plainEv x = F := ⟨_, rfl⟩
 have HF := Lib.hid hF
 rw [hF]
 clear hF
 by_cases hf : F = 0
 ·have HB := Lib.hid (evB HX.out (HF.out.trans hf))
  have f1 : (F != 0) = false := by simp [hf]
  have f2 : (F == 0) = true := by simp [hf]
  have HZ := Lib.hid hf
  clear hf
  go_enter Tryz.func41, Tryz.ntmps41
  go_wp2_with (first
   | (with_reducible show wpList _ _ _ (Oper.mk _ (Op.box _ _) _ _ _ _ :: _) _ _; refine wpList_box_bk rfl _ _ rfl _ rfl ?_; intro bx w1 hk hbl hg hs; have HK1 := Lib.hid (bk_eqT (cs' := x.cl.toArray) hk rfl); have HB1 := Lib.hid hbl; clear hk hbl hg hs)
   | (with_reducible show wpList _ _ _ (Oper.mk (some 15) (Op.load _ _) _ _ _ _ :: _) _ _; refine wpList_load_part rfl 38 _ rfl bx 0 106 rfl _ _ _ HK1.out Tryz.underlying38 rfl info_Ev (by simp [HL.out]) _ (cl_allN HL.out) ?_))
  refine (plainEv_any w1 x HX.out).mono ?_
  rintro e w2 ⟨rfl, e2⟩
  rw [HF.out]
  have HB2 := Lib.hid (HB1.out.trans (e2.mono HB1.out.size))
  have HK2 := Lib.hid (HK1.out.below e2 HK1.out.lt)
  clear e2 HB1 HK1
  go_wp2_with fail
  refine (newWriter_any w2).mono ?_
  rintro e w3 ⟨g, rfl, hw3, e3⟩
  have HK3 := Lib.hid (HK2.out.below e3 HK2.out.lt)
  have HS2 := Lib.hid HB2.out.size
  have HS3 := Lib.hid e3.size
  have HB3 := Lib.hid (HB2.out.trans (e3.mono HB2.out.size))
  clear e3 HK2
  go_wp2_with (with_reducible show wpList _ _ _ (Oper.mk (some 23) (Op.load _ _) _ _ _ _ :: _) _ _; refine wpList_load_part rfl 38 _ rfl bx 0 106 rfl _ _ _ HK3.out Tryz.underlying38 rfl info_Ev (by simp [HL.out]) _ (cl_allN HL.out) ?_)
  refine (putEvidence_any w3 _ g [] x HX.out HB.out.1 HB.out.2 hw3 (by unfold room46; simp)).mono ?_
  rintro e w4 ⟨rfl, hw4, e4⟩
  have hlen : ([] ++ formEv x).length ≤ reach47 ∧ ([] ++ formEv x).length ≤ 300 := by
   have h1 := formEv_len HX.out HB.out.1 HB.out.2
   unfold reach47
   rw [List.nil_append]
   omega
  have HLEN := Lib.hid hlen
  have HB4 := Lib.hid (HB3.out.trans (e4.to HS2.out HS3.out))
  clear hlen e4
  go_wp2_with fail
  refine (out_any w4 _ g _ hw4 HLEN.out.1).mono ?_
  rintro e w5 ⟨v, rfl, hv, e5⟩
  obtain ⟨Av, cv, rfl⟩ := hv.form
  have HB5 := Lib.hid (HB4.out.trans (e5.mono HB4.out.size))
  have HV := Lib.hid (hv.mono HB4.out.size)
  have HE := Lib.hid (show ([] ++ formEv x : List UInt8) = formEv x from rfl)
  rw [HE.out] at HLEN HV ⊢
  obtain ⟨bs, hbs⟩ : ∃ bs, formEv x = bs := ⟨_, rfl⟩
  rw [hbs] at HLEN HV ⊢
  obtain ⟨L, hL⟩ : ∃ L, bs.length = L := ⟨_, rfl⟩
  have HLL := Lib.hid hL
  have HBS := Lib.hid hbs
  rw [hL] at HLEN HV ⊢
  have hl9 : ¬ ((9223372036854775807 : Int) < (L : Int)) := by have := HLEN.out.2; omega
  have HX2 := Lib.hid HLEN
  clear hv e5 hw3 hw4 hbs HE HLEN hL
  go_wp2
  go_ret2
  exact ⟨HB5.out, .inr ⟨HZ.out, .slice Av L cv, rfl, by rw [HBS.out]; exact HV.out⟩⟩
 ·have f1 : (F != 0) = true := by simp [hf]
  have f2 : (F == 0) = false := by simp [hf]
  have HZ := Lib.hid hf
  clear hf
  go_enter Tryz.func41, Tryz.ntmps41
  go_wp2_with (first
   | (with_reducible show wpList _ _ _ (Oper.mk _ (Op.box _ _) _ _ _ _ :: _) _ _; refine wpList_box_bk rfl _ _ rfl _ rfl ?_; intro bx w1 hk hbl hg hs; have HK1 := Lib.hid (bk_eqT (cs' := x.cl.toArray) hk rfl); have HB1 := Lib.hid hbl; clear hk hbl hg hs)
   | (with_reducible show wpList _ _ _ (Oper.mk (some 15) (Op.load _ _) _ _ _ _ :: _) _ _; refine wpList_load_part rfl 38 _ rfl bx 0 106 rfl _ _ _ HK1.out Tryz.underlying38 rfl info_Ev (by simp [HL.out]) _ (cl_allN HL.out) ?_))
  refine (plainEv_any w1 x HX.out).mono ?_
  rintro e w2 ⟨rfl, e2⟩
  rw [HF.out]
  have HB2 := Lib.hid (HB1.out.trans (e2.mono HB1.out.size))
  clear e2
  go_wp2
  go_ret2
  exact ⟨HB2.out, .inl ⟨HZ.out, rfl⟩⟩

set_option maxHeartbeats 1000000 in
theorem EncodeEvidence_any (w : World) (x : Ev) (hx : x.ok) :
  Calls Tryz.prog 16 #[.agg x.cl.toArray] w (BytesRes w (plainEv x) (formEv x)) := by
 have HL := Lib.hid (x.cl_len hx)
 have HX := Lib.hid hx
 clear hx
 generalize hF : plainEv x = F
 have HF := Lib.hid hF
 clear hF
 go_enter Tryz.func16, Tryz.ntmps16
 go_wp2_with (first
   | (with_reducible show wpList _ _ _ (Oper.mk _ (Op.box _ _) _ _ _ _ :: _) _ _; refine wpList_box_bk rfl _ _ rfl _ rfl ?_; intro bx w1 hk hbl hg hs; have HK1 := Lib.hid (bk_eqT (cs' := x.cl.toArray) hk rfl); have HB1 := Lib.hid hbl; clear hk hbl hg hs)
   | (with_reducible show wpList _ _ _ (Oper.mk (some 4) (Op.load _ _) _ _ _ _ :: _) _ _; refine wpList_load_part rfl 38 _ rfl bx 0 106 rfl _ _ _ HK1.out Tryz.underlying38 rfl info_Ev (by simp [HL.out]) _ (cl_allN HL.out) ?_))
 refine (encodeEv_any w1 x HX.out).mono ?_
 rw [HF.out]
 rintro e w2 ⟨e2, ⟨hz, rfl⟩ | ⟨hz, v, rfl, hv⟩⟩
 ·have HZ := Lib.hid hz
  have HB2 := Lib.hid (HB1.out.trans (e2.mono HB1.out.size))
  clear hz e2
  go_wp2
  go_ret2
  exact ⟨HB2.out, .inl ⟨HZ.out, rfl⟩⟩
 ·obtain ⟨Av, cv, rfl⟩ := hv.form
  have HZ := Lib.hid hz
  have HB2 := Lib.hid (HB1.out.trans (e2.mono HB1.out.size))
  have HV := Lib.hid (hv.mono HB1.out.size)
  clear hz e2 hv
  go_wp2
  go_ret2
  exact ⟨HB2.out, .inr ⟨HZ.out, _, rfl, HV.out⟩⟩
end Go.Proofs.YtlhnhjglcbggmaaGreatRR
namespace Go.Proofs.YtlhnhjglcbggmaaGreatRR
set_option linter.unusedSimpArgs false
set_option linter.unusedVariables false
open Go.RowKit
set_option maxRecDepth 100000

theorem tx_one (x : Tx) : ∀ u ∈ (Value.agg x.cl.toArray).cells.toList, u.oneCell' = true := by
 intro u hu
 simp only [Value.cells, Tx.cl, List.mem_append, List.mem_cons, List.not_mem_nil, or_false] at hu
 rcases hu with (rfl | rfl | rfl | rfl | rfl | rfl) | hu
 all_goals first | rfl | exact bv_one _ u (by simpa [Value.cells] using hu)
def zeroTxC : List Value := [.int .i64 0, .int .u64 0, .int .u64 0, .int .u64 0, .int .u64 0, .int .u64 0] ++ bv (zer 16)
theorem zero_TxC : (Tryz.prog.info? 27).bind (·.zero) = some (.agg zeroTxC.toArray) := by kernel_rfl
theorem zeroTxC_len : zeroTxC.length = 22 := rfl

end Go.Proofs.YtlhnhjglcbggmaaGreatRR
namespace Go.Proofs.YtlhnhjglcbggmaaGreatRR
set_option linter.unusedSimpArgs false
set_option linter.unusedVariables false
open Go.RowKit
set_option maxRecDepth 100000

theorem ev_one (x : Ev) : ∀ u ∈ (Value.agg x.cl.toArray).cells.toList, u.oneCell' = true := by
 intro u hu
 simp only [Value.cells, Ev.cl, List.mem_append] at hu
 rcases hu with hu | hu
 ·exact vote_one x.a u (by simpa [Value.cells] using hu)
 ·exact vote_one x.b u (by simpa [Value.cells] using hu)
def zeroEvC : List Value := zeroVote ++ zeroVote
theorem zero_EvC : (Tryz.prog.info? 38).bind (·.zero) = some (.agg zeroEvC.toArray) := by kernel_rfl
theorem zeroEvC_len : zeroEvC.length = 106 := rfl

end Go.Proofs.YtlhnhjglcbggmaaGreatRR
namespace Go.Proofs.YtlhnhjglcbggmaaGreatRR
set_option linter.unusedSimpArgs false
set_option linter.unusedVariables false
open Go.RowKit
set_option maxRecDepth 100000

theorem cell_keep {w w' : World} {p : Addr} {u : Value} (h : w.cell? p = some u) (hb : Below w.heap.size w w') : w'.cell? p = some u := by
 have hl : p.block < w.heap.size := by
  rcases Nat.lt_or_ge p.block w.heap.size with hl | hl
  ·exact hl
  ·have hn : w.cell? p = none := by simp [World.cell?, Array.getElem?_eq_none hl]
   rw [hn] at h; cases h
 exact (hb.cell hl).trans h
end Go.Proofs.YtlhnhjglcbggmaaGreatRR
namespace Go.Proofs.YtlhnhjglcbggmaaGreatRR
set_option linter.unusedSimpArgs false
set_option linter.unusedVariables false
open Go.RowKit
set_option maxRecDepth 100000

set_option maxHeartbeats 400000 in
theorem lawNum_any (w : World) (n : Int) :
  Calls Tryz.prog 12 #[.int .i64 n] w fun e w' => e = .returned (.int .i64 n) ∧ w = w' := by
 go_enter Tryz.func12, Tryz.ntmps12
 go_wp2
 go_ret
 exact ⟨rfl, rfl⟩

theorem take_eq_succ {l1 l2 : List UInt8} {k : Nat} {a : UInt8} (h1 : l1[k]? = some a) (h2 : l2[k]? = some a) (h : l1.take k = l2.take k) : l1.take (k + 1) = l2.take (k + 1) := by
 rw [List.take_add_one, List.take_add_one, h, h1, h2]

theorem below_drewN {B n : Nat} {a w : World} (h : Below B a w) : Below B a (w.drewN n) := ⟨h.os, h.tape, h.output, h.size, h.block⟩
set_option maxHeartbeats 1000000 in
theorem sameBytes_any (w : World) (A1 A2 : Option Addr) (n1 c1 n2 c2 : Nat) (l1 l2 : List UInt8) (e1 : l1.length = n1) (e2 : l2.length = n2) (r1 : Rd w A1 (bv l1)) (r2 : Rd w A2 (bv l2)) (hm : n1 ≤ reach47 + 100) :
  Calls Tryz.prog 8 #[.slice A1 n1 c1, .slice A2 n2 c2] w fun e w' => e = .returned (.bool (l1 == l2)) ∧ Below w.heap.size w w' := by
 have E1 := Lib.hid e1; clear e1
 have E2 := Lib.hid e2; clear e2
 have hm' : n1 ≤ 9000000000000000000 := by unfold reach47 at hm; omega
 clear hm
 by_cases hn : n1 = n2
 case neg =>
  have hf : (l1 == l2) = false := by
   rw [beq_eq_false_iff_ne]; intro h; exact hn (by rw [← E1.out, ← E2.out, h])
  have hn' : ¬ ((n1 : Int) = (n2 : Int)) := by omega
  go_enter Tryz.func8, Tryz.ntmps8
  go_wp2
  go_ret
  exact ⟨ret_bool hf.symm, Below.refl _ _⟩
 case pos =>
  subst hn
  go_enter Tryz.func8, Tryz.ntmps8
  go_wp2
  go_loopw [5] (fun i wr => ∃ k : Nat, k ≤ n1 ∧ i = .int .i64 k ∧ l1.take k = l2.take k ∧ Below w.heap.size w wr) (fun i _ => n1 - (intOf i).toNat)
  case atStart => exact ⟨0, Nat.zero_le _, rfl, rfl, Below.refl _ _⟩
  case round =>
   obtain ⟨k, hk, rfl, htk, hbl⟩ := hrel
   have Htk := Lib.hid htk; clear htk
   by_cases hlt : k < n1
   ·have hk1 : k < l1.length := by rw [E1.out]; exact hlt
    have hk2 : k < l2.length := by rw [E2.out]; exact hlt
    obtain ⟨a1, hA1, hc1⟩ := rd_at (r1.below hbl) (j := k) (u := .int .u8 (l1[k].toNat : Int)) (by simp [bv, hk1])
    obtain ⟨a2, hA2, hc2⟩ := rd_at (r2.below hbl) (j := k) (u := .int .u8 (l2[k].toNat : Int)) (by simp [bv, hk2])
    by_cases hb : l1[k] = l2[k]
    ·rw [← hb] at hc2
     have hs : l1.take (k + 1) = l2.take (k + 1) := take_eq_succ (a := l1[k]) (by simp [hk1]) (by rw [List.getElem?_eq_getElem hk2, hb]) Htk.out
     have HsB := Lib.hid hs; clear hs hb
     generalize (l1[k].toNat : Int) = z at hc1 hc2
     clear hk1 hk2
     subst hA1 hA2
     go_wp2
     go_quiet (fail)
     go_wp2
     refine ⟨⟨k + 1, by omega, by go_num, HsB.out, below_drewN hbl⟩, by simp [intOf]; omega⟩
    ·have hf : (l1 == l2) = false := by
      rw [beq_eq_false_iff_ne]; intro h; subst h; exact hb rfl
     have hz : ¬ ((l1[k].toNat : Int) = (l2[k].toNat : Int)) := by
      intro h; apply hb; exact UInt8.toNat_inj.mp (by omega)
     clear hb
     generalize (l1[k].toNat : Int) = z1 at hc1 hz
     generalize (l2[k].toNat : Int) = z2 at hc2 hz
     clear hk1 hk2
     subst hA1 hA2
     go_wp2
     go_quiet (fail)
     go_wp2
     go_ret
     exact ⟨ret_bool hf.symm, below_drewN hbl⟩
   ·have hk' : k = n1 := by omega
    have ht : l1 = l2 := by
     have := Htk.out
     rwa [List.take_of_length_le (by rw [E1.out]; omega), List.take_of_length_le (by rw [E2.out]; omega)] at this
    have hT : (l1 == l2) = true := by rw [ht]; exact beq_self_eq_true l2
    clear ht
    go_wp2
    go_ret
    exact ⟨ret_bool hT.symm, hbl⟩
end Go.Proofs.YtlhnhjglcbggmaaGreatRR
namespace Go.Proofs.YtlhnhjglcbggmaaGreatRR
set_option linter.unusedSimpArgs false
set_option linter.unusedVariables false
open Go.RowKit
set_option maxRecDepth 100000

section
variable {P : Program} {ops : Array Oper} {ks : List Known} {w : World} {a0 a : Act} {i : Nat} {d : Tmp}
theorem FreeStep.load_at {o : Oper} {x : Value} (ty : TypeId) (p : Operand) (ho : ops[i]? = some o) (hop : o.op = .load ty p) (hg : o.guard = none) (hd : o.dst = some d) (hs : decide (d < a.tmps.size) = true) (hf : a.defers = a0.defers) (hk : kat ks i = Is x)
  (ad : Addr) (n : Nat) (hx : a.eval p = .pointer (some ad)) (vs : List Value) (hc : ∀ j v, vs[j]? = some v → w.cell? (ad.add j) = some v) (td : TypeDesc) (hu : P.underlying ty = some td) (hda : aggD td = true) (hi : (P.info? ty).map (·.size) = some n) (hn : vs.length = n)
  (hxv : x = .agg vs.toArray) : FreeStep P ops ks w a0 i d [] a := by
 refine FreeStep.det ho hg hd hs hf hk ?_
 have hl : (loadCells ad vs.length).run P w = .ok vs.toArray w := run_loadCells_list (P := P) w ad vs hc
 rw [hn] at hl
 have hagg : (isAgg ty).run P w = .ok true w := by
  rw [run_isAgg hu w]
  congr 1
  unfold isAggT
  rw [hu]
  cases td <;> simp [aggD] at hda ⊢
 have hv : (loadVar ty ad).run P w = .ok (.agg vs.toArray) w := by
  simp [loadVar, Sem.run_bind, hagg, run_sizeOf' hi, hl]
 unfold execOp
 simp only [hop, hx, Instr.loadAt, Instr.sureAddr, Sem.run_bind, Sem.run_pure, Result.andThen_ok, hv, hxv]
end
theorem cell_keepB {w0 w' : World} {p : Addr} {u : Value} (h : w0.cell? p = some u) (hb : Below w0.heap.size w0.drew w') : w'.cell? p = some u :=
 cell_keep (w := w0.drew) h hb
theorem flat_Mk : flat Tryz.prog 3 139 = some ([.int .i64, .int .u64] ++ List.replicate 16 (.int .u8)) := by kernel_rfl
theorem agg_Mk : isAggT Tryz.prog 139 = true := by kernel_rfl
theorem guard_Mk : Tryz.prog.eqGuardType Tryz.prog.depth 139 = false := by kernel_rfl
theorem fits_Mk {m : Mk} (h : m.ok) : Fits ([.int .i64, .int .u64] ++ List.replicate 16 (.int .u8)) m.cl := Fits.app ⟨rfl, rfl, trivial⟩ (by rw [← h.sl]; exact Fits.bytes m.sl)

end Go.Proofs.YtlhnhjglcbggmaaGreatRR
namespace Go.Proofs.YtlhnhjglcbggmaaGreatRR
set_option linter.unusedSimpArgs false
set_option linter.unusedVariables false
open Go.RowKit
set_option maxRecDepth 100000

/-- a block; its transfers lie at tA, its evidence at eA -/
structure Blk where
 hd : Hdr
 tA : Option Addr
 tn : Nat
 tc : Nat
 ts : List Tx
 eA : Option Addr
 en : Nat
 ec : Nat
 es : List Ev
 ct : Crt
def Blk.cl (x : Blk) : List Value := x.hd.cl ++ ([.slice x.tA x.tn x.tc, .slice x.eA x.en x.ec] ++ x.ct.cl)
structure Blk.ok (x : Blk) : Prop where
 hd : x.hd.ok
 tn : x.tn = x.ts.length
 ts : ∀ t ∈ x.ts, t.ok
 tb : x.tn * 64 ≤ 140737488351232
 en : x.en = x.es.length
 es : ∀ e ∈ x.es, e.ok
 eb : x.en * 176 ≤ 140737488351232
 ct : x.ct.ok
 cb : x.ct.n * 32 ≤ 140737488351232
structure Blk.at (x : Blk) (w : World) : Prop where
 t : Rd w x.tA (x.ts.flatMap Tx.cl)
 e : Rd w x.eA (x.es.flatMap Ev.cl)
 c : x.ct.at w
theorem Blk.at.below {x : Blk} {w w' : World} (h : x.at w) (hb : Below w.heap.size w w') : x.at w' := ⟨h.t.below hb, h.e.below hb, Rd.below (xs := x.ct.ms.flatMap Mk.cl) h.c hb⟩
section
variable {H C : List Value} {a b : Value}
theorem bl_at1 (hH : H.length = 228) : (H ++ ([a, b] ++ C)).toArray[228]? = some a := by
 rw [List.getElem?_toArray, List.getElem?_append_right (by omega), hH]; rfl
theorem bl_at2 (hH : H.length = 228) : (H ++ ([a, b] ++ C)).toArray[229]? = some b := by
 rw [List.getElem?_toArray, List.getElem?_append_right (by omega), hH]; rfl
theorem bl_ex (hH : H.length = 228) (hC : C.length = 35) : (H ++ ([a, b] ++ C)).toArray.extract 230 (230 + 35) = C.toArray := by
 refine extract_cl _ _ _ _ ?_
 have e : (H ++ ([a, b] ++ C)).drop 230 = C := by
  rw [show H ++ ([a, b] ++ C) = (H ++ [a, b]) ++ C by simp, List.drop_left' (by simp [hH])]
 rw [e, show 230 + 35 - 230 = C.length by omega, List.take_length]
theorem bl_hd (hH : H.length = 228) : (H ++ ([a, b] ++ C)).toArray.extract 0 (0 + 228) = H.toArray := by
 refine extract_cl _ _ _ _ ?_
 rw [List.drop_zero, show 0 + 228 - 0 = H.length by omega, List.take_left]
theorem bl_len (hH : H.length = 228) (hC : C.length = 35) : (H ++ ([a, b] ++ C)).length = 265 := by simp [hH, hC]
end
def Blk.alike (x : Blk) (tA : Option Addr) (tc : Nat) (eA : Option Addr) (ec : Nat) (cA : Option Addr) (cc : Nat) : Blk := { x with tA := tA, tc := tc, eA := eA, ec := ec, ct := { x.ct with A := cA, c := cc } }
theorem own_slice {w : World} {B : Nat} {e : TypeId} {size n : Nat} {v : Value} {xs : List Value} (h : w.ownsRow B e size v n xs) (hn : 0 < n) : ∃ g c, v = .slice (some ⟨g, 0, none⟩) n c ∧ n ≤ c ∧ B ≤ g ∧ g < w.heap.size := by
 rcases h.2 with ⟨_, h2⟩ | ⟨g', cap, cur, h1, hb, hh, h2, _⟩
 ·omega
 ·exact ⟨g', cap, h1, h2, hb, (Array.getElem?_eq_some_iff.1 hh).1⟩

end Go.Proofs.YtlhnhjglcbggmaaGreatRR
namespace Go.Proofs.YtlhnhjglcbggmaaGreatRR
set_option linter.unusedSimpArgs false
set_option linter.unusedVariables false
open Go.RowKit
set_option maxRecDepth 100000

/-- a row of bytes of the call's own, whatever they are -/
def Bz (w : World) (B : Nat) (v : Value) (n : Nat) : Prop := ∃ zs : List Int, w.ownsRow B 5 1 v n (zs.map (Value.int .u8))
end Go.Proofs.YtlhnhjglcbggmaaGreatRR
namespace Go.Proofs.YtlhnhjglcbggmaaGreatRR
set_option linter.unusedSimpArgs false
set_option linter.unusedVariables false
open Go.RowKit
set_option maxRecDepth 100000

/-- what may change between two worlds: of the old blocks these alone -/
structure Ch (ks : List Nat) (w w' : World) : Prop where
 os : w'.os = w.os
 tape : w'.tape = w.tape
 output : w'.output = w.output
 size : w.heap.size ≤ w'.heap.size
 block : ∀ k, k < w.heap.size → k ∉ ks → w'.heap[k]? = w.heap[k]?
theorem Ch.refl (ks : List Nat) (w : World) : Ch ks w w := ⟨rfl, rfl, rfl, Nat.le_refl _, fun _ _ _ => rfl⟩
theorem Ch.trans {ks ks' : List Nat} {a b c : World} (h : Ch ks a b) (h' : Ch ks' b c) (hk : ∀ k ∈ ks', k ∈ ks ∨ a.heap.size ≤ k) : Ch ks a c :=
 ⟨h'.os.trans h.os, h'.tape.trans h.tape, h'.output.trans h.output, Nat.le_trans h.size h'.size, fun k hlt hn => by
  rw [h'.block k (Nat.lt_of_lt_of_le hlt h.size) ?_, h.block k hlt hn]
  intro hm
  rcases hk k hm with h | h
  ·exact hn h
  ·omega⟩
theorem Ch.same {ks : List Nat} {a b c : World} (h : Ch ks a b) (h' : Ch ks b c) : Ch ks a c := h.trans h' fun _ hk => .inl hk
theorem Ch.wide {ks ks' : List Nat} {a b : World} (h : Ch ks a b) (hk : ∀ k ∈ ks, k ∈ ks') : Ch ks' a b := ⟨h.os, h.tape, h.output, h.size, fun k hlt hn => h.block k hlt (fun hm => hn (hk k hm))⟩
theorem Ch.of_below {w w' : World} (ks : List Nat) (h : Below w.heap.size w w') : Ch ks w w' := ⟨h.os, h.tape, h.output, h.size, fun k hk _ => h.block k hk⟩
theorem Ch.of_grown {w w' : World} {g : Nat} (h : w.grownBy w' (some g)) : Ch [g] w w' := ⟨h.os, h.tape, h.output, h.size, fun k hk hn => h.block k hk (fun e => hn (by simp at e; simp [e]))⟩
theorem Ch.drewN {ks : List Nat} {a w : World} (h : Ch ks a w) (n : Nat) : Ch ks a (w.drewN n) := ⟨h.os, h.tape, h.output, h.size, h.block⟩
theorem Ch.alloc {ks : List Nat} {a w : World} (h : Ch ks a w) (o : Obj) : Ch ks a (w.alloc o) := h.same (Ch.of_below ks ((Below.refl _ _).alloc (Nat.le_refl _) o))
theorem Ch.setCell {ks : List Nat} {a w : World} (h : Ch ks a w) {p : Addr} (hp : p.block ∈ ks) (u : Value) : Ch ks a (w.setCell p u) :=
 h.same ⟨rfl, rfl, rfl, by simp [World.setCell], fun k _ hn => Below.heap_setCell _ _ _ _ (fun e => hn (e ▸ hp))⟩
theorem Ch.below {ks : List Nat} {B : Nat} {w w' : World} (h : Ch ks w w') (hB : B ≤ w.heap.size) (hk : ∀ k ∈ ks, B ≤ k) : Below B w w' :=
 ⟨h.os, h.tape, h.output, h.size, fun k hlt => h.block k (by omega) (fun hm => by have := hk k hm; omega)⟩
theorem Bk.ch {w w' : World} {g : Nat} {cs : Array Value} {t : TypeId} {ks : List Nat} (h : Bk w g cs t) (hc : Ch ks w w') (hn : g ∉ ks) : Bk w' g cs t := (hc.block g h.lt hn).trans h
theorem Rd.ch {w w' : World} {A : Option Addr} {xs : List Value} {ks : List Nat} (h : Rd w A xs) (hc : Ch ks w w') (hn : ∀ a, A = some a → a.block ∉ ks) : Rd w' A xs := by
 intro j u hu
 obtain ⟨ad, rfl, hcell⟩ := h j u hu
 refine ⟨ad, rfl, ?_⟩
 have hb : (ad.add j).block = ad.block := by unfold Addr.add; split <;> rfl
 rw [World.cell?_of_block (w := w) (hc.block _ (World.block_lt_of_cell? w _ hcell) (by rw [hb]; exact hn ad rfl))]
 exact hcell

/-- a Reader in block g over these bytes, at this place, with this error -/
structure Re (w : World) (g : Nat) (A : Option Addr) (c : Nat) (l : List UInt8) (p : Nat) (e : Int) : Prop where
 bk : Bk w g #[.bool true, .slice A l.length c, .int .i64 p, .int .i64 e] 217
 rd : Rd w A (bv l)
 ne : ∀ a, A = some a → a.block ≠ g
 lt : ∀ a, A = some a → a.block < w.heap.size
 le : p ≤ l.length
 cap : l.length ≤ c
 room : c ≤ 9223372036854775807
 reach : l.length ≤ reach47
namespace Re
variable {w w' : World} {g : Nat} {A : Option Addr} {c : Nat} {l : List UInt8} {p : Nat} {e : Int}
theorem ch {ks : List Nat} (h : Re w g A c l p e) (hc : Ch ks w w') (hg : g ∉ ks) (hd : ∀ a, A = some a → a.block ∉ ks) : Re w' g A c l p e :=
 ⟨h.bk.ch hc hg, h.rd.ch hc hd, h.ne, fun a ha => Nat.lt_of_lt_of_le (h.lt a ha) hc.size, h.le, h.cap, h.room, h.reach⟩
theorem below (h : Re w g A c l p e) (hb : Below w.heap.size w w') : Re w' g A c l p e := h.ch (Ch.of_below [] hb) (by simp) (by simp)
/-- the place moved -/
theorem at_ (h : Re w g A c l p e) (q : Nat) (hq : q ≤ l.length) : Re (w.setCell ⟨g, 2, none⟩ (.int .i64 q)) g A c l q e := by
 have hne := h.ne
 refine ⟨h.bk.set_ 2 _, ?_, h.ne, fun a ha => by have := h.lt a ha; simpa [World.setCell] using this, hq, h.cap, h.room, h.reach⟩
 refine h.rd.ch (ks := [g]) ((Ch.refl [g] w).setCell (by simp) _) (fun a ha => by simpa using hne a ha)
/-- the error laid -/
theorem err_ (h : Re w g A c l p e) (x : Int) : Re (w.setCell ⟨g, 3, none⟩ (.int .i64 x)) g A c l p x := by
 have hne := h.ne
 refine ⟨h.bk.set_ 3 _, ?_, h.ne, fun a ha => by have := h.lt a ha; simpa [World.setCell] using this, h.le, h.cap, h.room, h.reach⟩
 refine h.rd.ch (ks := [g]) ((Ch.refl [g] w).setCell (by simp) _) (fun a ha => by simpa using hne a ha)
theorem drewN (h : Re w g A c l p e) (n : Nat) : Re (w.drewN n) g A c l p e := ⟨h.bk, h.rd, h.ne, h.lt, h.le, h.cap, h.room, h.reach⟩
end Re
end Go.Proofs.YtlhnhjglcbggmaaGreatRR
namespace Go.Proofs.YtlhnhjglcbggmaaGreatRR
set_option linter.unusedSimpArgs false
set_option linter.unusedVariables false

/-- what a read answers: the value, the place behind, the error -/
structure Got (α : Type) where
 val : α
 at' : Nat
 err : Int
/-- the groups: the bytes yet to be read, how many were, what they came to: an error, or the number and how many -/
def groups : List UInt8 → Nat → Nat → Int ⊕ (Nat × Nat)
 | [], _, _ => .inl 10
 | c :: rest, k, acc =>
  if (k = 9 ∧ 1 < c.toNat) ∨ (0 < k ∧ c.toNat = 0) then .inl 11
  else if c.toNat < 128 then .inr (acc + c.toNat * 128 ^ k, k + 1)
  else groups rest (k + 1) (acc + (c.toNat - 128) * 128 ^ k)
end Go.Proofs.YtlhnhjglcbggmaaGreatRR
namespace Go.Proofs.YtlhnhjglcbggmaaGreatRR
set_option linter.unusedSimpArgs false
set_option linter.unusedVariables false
open Go.RowKit
set_option maxRecDepth 100000

/-- what lies in a part of a slice -/
theorem Rd.drop {w : World} {A : Option Addr} {xs : List Value} (h : Rd w A xs) (p n : Nat) : Rd w (A.map fun a => a.add p) ((xs.drop p).take n) := by
 intro j u hu
 rw [List.getElem?_take] at hu
 split at hu
 ·rw [List.getElem?_drop] at hu
  obtain ⟨ad, rfl, hc⟩ := h (p + j) u hu
  refine ⟨ad.add p, rfl, ?_⟩
  rw [Addr.add_add]
  exact hc
 ·cases hu

/-- what take answers -/
def TakeRes (g : Nat) (A : Option Addr) (c : Nat) (l : List UInt8) (p : Nat) (e : Int) (n : Nat) (w : World) (en : Ending) (w' : World) : Prop :=
 Ch [g] w w' ∧
   ((l.length - p < n ∧ en = .returned (.tuple #[.slice none 0 0, .int .i64 10]) ∧ Re w' g A c l p e) ∨
    (n ≤ l.length - p ∧ ∃ A' c', en = .returned (.tuple #[.slice A' n c', .int .i64 0]) ∧ Rd w' A' (bv ((l.drop p).take n)) ∧ Re w' g A c l (p + n) e))
set_option maxHeartbeats 2000000 in
theorem take_any (w : World) (g : Nat) (A : Option Addr) (c : Nat) (l : List UInt8) (p : Nat) (e : Int) (n : Nat) (h : Re w g A c l p e) (hn : n ≤ 9223372036854775807) :
  Calls Tryz.prog 189 #[.pointer (some ⟨g, 0, none⟩), .int .i64 n] w (TakeRes g A c l p e n w) := by
 have hle := h.le
 have hcap := h.cap
 have hroom := h.room
 have H := Lib.hid h
 have c1 : w.cell? ⟨g, 1, none⟩ = some (.slice A l.length c) := h.bk.cell 1
 have c2 : w.cell? ⟨g, 2, none⟩ = some (.int .i64 p) := h.bk.cell 2
 clear h
 go_enter Tryz.func189, Tryz.ntmps189
 have W1 : IntKind.i64.wrap ((l.length : Int) - p) = (l.length : Int) - p := by rw [IntKind.wrap_i64]; omega
 by_cases hlt : (l.length : Int) - p < n
 ·go_wp2
  go_quiet (fail)
  go_wp2
  go_ret2
  exact ⟨(Ch.refl _ _).drewN _, .inl ⟨by omega, rfl, H.out.drewN _⟩⟩
 ·have W2 : IntKind.i64.wrap ((p : Int) + n) = (p : Int) + n := by rw [IntKind.wrap_i64]; omega
  have W3 : IntKind.i64.wrap ((p : Int) + n - n) = p := by rw [IntKind.wrap_i64]; omega
  have W4 : IntKind.i64.wrap (p : Int) = p := by rw [IntKind.wrap_i64]; omega
  have z2 := H.out.bk.frozen 2
  go_wp2
  go_quiet (fail)
  go_wp2
  have R2 := (H.out.drewN nq).at_ (p + n) (by omega)
  have C2 : Ch [g] w ((w.drewN nq).setCell ⟨g, 2, none⟩ (.int .i64 ((p : Int) + n))) := ((Ch.refl [g] w).drewN nq).setCell (by simp) _
  rw [Int.natCast_add] at R2
  generalize (w.drewN nq).setCell ⟨g, 2, none⟩ (.int .i64 ((p : Int) + n)) = w2 at R2 C2 ⊢
  have d1 : w2.cell? ⟨g, 1, none⟩ = some (.slice A l.length c) := R2.bk.cell 1
  have d2 : w2.cell? ⟨g, 2, none⟩ = some (.int .i64 ((p : Int) + n)) := by have := R2.bk.cell 2; simpa using this
  have b0 : (0 : Int) ≤ p := by omega
  have b1 : (p : Int) ≤ (p : Int) + n := by omega
  have b2 : (p : Int) + n ≤ c := by omega
  have HR := Lib.hid R2; clear R2
  have HC := Lib.hid C2; clear C2
  clear c1 c2 z2
  have hrd : Rd w2 (A.map fun a => a.add p) (bv ((l.drop p).take n)) := by
   have := HR.out.rd.drop p n
   rwa [show ((bv l).drop p).take n = bv ((l.drop p).take n) from by simp [bv, List.map_take, List.map_drop]] at this
  have HRD := Lib.hid hrd; clear hrd
  by_cases hcp : c = p
  ·subst hcp
   have hn0 : n = 0 := by omega
   subst hn0
   go_quiet (fail)
   go_wp2
   go_ret2
   refine ⟨HC.out.drewN _, .inr ⟨by omega, _, _, rfl, ?_, HR.out.drewN _⟩⟩
   intro j u hu
   simp [bv] at hu
  ·have Hcp := Lib.hid hcp
   go_quiet (fail)
   go_wp2
   go_ret2
   refine ⟨HC.out.drewN _, .inr ⟨by omega, A.map fun a => a.add p, c - p, ?_, HRD.out, HR.out.drewN _⟩⟩
   show Ending.returned (.tuple #[.slice (A.map fun a => a.add p) (p + n - p) (c - p), .int .i64 0]) = _
   rw [Nat.add_sub_cancel_left]
end Go.Proofs.YtlhnhjglcbggmaaGreatRR

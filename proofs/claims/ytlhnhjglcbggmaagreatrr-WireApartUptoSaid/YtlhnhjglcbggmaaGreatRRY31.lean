/-
  What the law's comparisons rest on: lists alike as far as k, records that are the same if their cells are. Conditions: as said at each.
  The law's comparisons: certificates. Conditions: each number fits its kind; the lists lie in the world.
-/
import Derived.Test.YtlhnhjglcbggmaaGreatRRYPb18
import Derived.Test.YtlhnhjglcbggmaaGreatRRY18
namespace Go.Proofs.YtlhnhjglcbggmaaGreatRR
set_option linter.unusedSimpArgs false
set_option linter.unusedVariables false
open Go.RowKit
set_option maxRecDepth 100000

/-- two lists are alike as far as k -/
def EqTo {α : Type} (xs ys : List α) (k : Nat) : Prop := xs.take k = ys.take k
theorem EqTo.zero {α : Type} (xs ys : List α) : EqTo xs ys 0 := by simp [EqTo]
theorem EqTo.step {α : Type} {xs ys : List α} {k : Nat} (h : EqTo xs ys k) (hx : k < xs.length) (hy : k < ys.length) (he : xs[k] = ys[k]) : EqTo xs ys (k + 1) := by
 unfold EqTo at h ⊢
 rw [List.take_succ_eq_append_getElem hx, List.take_succ_eq_append_getElem hy, h, he]
theorem EqTo.all {α : Type} {xs ys : List α} {k : Nat} (h : EqTo xs ys k) (hx : k = xs.length) (hy : k = ys.length) : xs = ys := by
 unfold EqTo at h
 rwa [List.take_of_length_le (by omega), List.take_of_length_le (by omega)] at h
theorem ne_at {α : Type} {xs ys : List α} {k : Nat} (hx : k < xs.length) (hy : k < ys.length) (he : xs[k] ≠ ys[k]) : xs ≠ ys := fun h => he (by subst h; rfl)
theorem same_bool (p : Prop) : ∃ q : Bool, q = true ↔ p := by
 classical
 exact ⟨decide p, decide_eq_true_iff⟩
section
variable {P : Program}
theorem wpList_load_one {ops : Array Oper} {rest : List Oper} {o : Oper} {a : Act} {w : World} {Q : Exit → Act → World → Prop} (hw : Region.wanted o (yielded ops a.tmps) = true) (ty : TypeId) (x : Operand) (ho : o.op = .load ty x)
  (ad : Addr) (hx : a.eval x = .pointer (some ad)) (v : Value) (hc : w.cell? ad = some v) (d : TypeDesc) (hu : P.underlying ty = some d) (hd : isAggT P ty = false)
  (h : wpList P ops Q rest (a.put o.dst v) w) : wpList P ops Q (o :: rest) a w := by
 refine wpList_want hw fun K hK => ?_
 have hagg : (isAgg ty).run P w = .ok false w := by rw [run_isAgg hu w, hd]
 have hv : (loadVar ty ad).run P w = .ok v w := by
  simp [loadVar, Sem.run_bind, hagg, run_load, hc]
 unfold Oper.wp execOp
 simp only [ho, hx, Instr.loadAt, Instr.sureAddr, Sem.run_bind, Sem.run_pure, Result.andThen_ok, hv]
 exact hK _ _ h
end
/-- it answers whether p -/
def RetB (e : Ending) (p : Prop) : Prop := ∃ r : Bool, e = .returned (.bool r) ∧ (r = true ↔ p)
theorem RetB.yes {p : Prop} (h : p) : RetB (.returned (.bool true)) p := ⟨true, rfl, fun _ => h, fun _ => rfl⟩
theorem RetB.no {p : Prop} (h : ¬ p) : RetB (.returned (.bool false)) p := ⟨false, rfl, fun h => (by cases h), fun k => absurd k h⟩
theorem RetB.of {e : Ending} {p : Prop} {r : Bool} (he : e = .returned (.bool r)) (h : r = true ↔ p) : RetB e p := ⟨r, he, h⟩
theorem RetB.iff {e : Ending} {p q : Prop} (h : RetB e p) (hpq : p ↔ q) : RetB e q := by
 obtain ⟨r, h1, h2⟩ := h
 exact ⟨r, h1, h2.trans hpq⟩
theorem Mk.eq_of {x y : Mk} (h : x.cl = y.cl) : x = y := by
 obtain ⟨a1, a2, a3⟩ := x
 obtain ⟨b1, b2, b3⟩ := y
 simp only [Mk.cl, List.cons_append, List.nil_append, List.cons.injEq, Value.int.injEq, true_and] at h
 obtain ⟨h1, h2, h3⟩ := h
 rw [h1, h2, bv_inj h3]
theorem Mem.eq_of {x y : Mem} (h : x.cl = y.cl) : x = y := by
 cases x; cases y
 simp only [Mem.cl, List.cons.injEq, Value.int.injEq, true_and, and_true] at h
 simp [h]
theorem Off.eq_of {x y : Off} (h : x.cl = y.cl) : x = y := by
 cases x; cases y
 simp only [Off.cl, List.cons.injEq, Value.int.injEq, true_and, and_true] at h
 simp [h]
theorem Acc.eq_of {x y : Acc} (h : x.cl = y.cl) : x = y := by
 cases x; cases y
 simp only [Acc.cl, List.cons.injEq, Value.int.injEq, Value.bool.injEq, true_and, and_true] at h
 simp [h]
theorem Rls.eq_of {x y : Rls} (h : x.cl = y.cl) : x = y := by
 cases x; cases y
 simp only [Rls.cl, List.cons.injEq, Value.int.injEq, true_and, and_true] at h
 simp [h]
theorem Par.eq_of {x y : Par} (h : x.cl = y.cl) : x = y := by
 cases x; cases y
 simp only [Par.cl, List.cons.injEq, Value.int.injEq, true_and, and_true] at h
 simp [h]
theorem flat_MemC : flat Tryz.prog 3 182 = some [.int .u64, .int .u64, .int .i64] := by kernel_rfl
theorem agg_MemC : isAggT Tryz.prog 182 = true := by kernel_rfl
theorem guard_MemC : Tryz.prog.eqGuardType Tryz.prog.depth 182 = false := by kernel_rfl
theorem fits_MemC {m : Mem} (h : m.ok) : Fits [.int .u64, .int .u64, .int .i64] m.cl := ⟨rfl, rfl, rfl, trivial⟩
theorem flat_OffC : flat Tryz.prog 3 145 = some [.int .u64, .int .u64] := by kernel_rfl
theorem agg_OffC : isAggT Tryz.prog 145 = true := by kernel_rfl
theorem guard_OffC : Tryz.prog.eqGuardType Tryz.prog.depth 145 = false := by kernel_rfl
theorem fits_OffC {m : Off} (h : m.ok) : Fits [.int .u64, .int .u64] m.cl := ⟨rfl, rfl, trivial⟩
theorem flat_AccC : flat Tryz.prog 3 191 = some [.int .u64, .int .u64, .int .u64, .int .u64, .bool] := by kernel_rfl
theorem agg_AccC : isAggT Tryz.prog 191 = true := by kernel_rfl
theorem guard_AccC : Tryz.prog.eqGuardType Tryz.prog.depth 191 = false := by kernel_rfl
theorem fits_AccC {m : Acc} (h : m.ok) : Fits [.int .u64, .int .u64, .int .u64, .int .u64, .bool] m.cl := ⟨rfl, rfl, rfl, rfl, trivial, trivial⟩
theorem flat_RlsC : flat Tryz.prog 3 195 = some [.int .u64, .int .u64, .int .u64, .int .u64] := by kernel_rfl
theorem agg_RlsC : isAggT Tryz.prog 195 = true := by kernel_rfl
theorem guard_RlsC : Tryz.prog.eqGuardType Tryz.prog.depth 195 = false := by kernel_rfl
theorem fits_RlsC {m : Rls} (h : m.ok) : Fits [.int .u64, .int .u64, .int .u64, .int .u64] m.cl := ⟨rfl, rfl, rfl, rfl, trivial⟩
theorem flat_VoteC : flat Tryz.prog 3 31 = some voteKs := by kernel_rfl
theorem agg_VoteC : isAggT Tryz.prog 31 = true := by kernel_rfl
theorem guard_VoteC : Tryz.prog.eqGuardType Tryz.prog.depth 31 = false := by kernel_rfl
theorem infoC_Vote : (Tryz.prog.info? 31).map (·.size) = some 53 := by kernel_rfl
theorem infoC_Mem : (Tryz.prog.info? 182).map (·.size) = some 3 := by kernel_rfl
theorem infoC_Off : (Tryz.prog.info? 145).map (·.size) = some 2 := by kernel_rfl
theorem infoC_Acc : (Tryz.prog.info? 191).map (·.size) = some 5 := by kernel_rfl
theorem infoC_Rls : (Tryz.prog.info? 195).map (·.size) = some 4 := by kernel_rfl
theorem infoC_Tx : (Tryz.prog.info? 27).map (·.size) = some 22 := by kernel_rfl
theorem infoC_Ev : (Tryz.prog.info? 38).map (·.size) = some 106 := by kernel_rfl
theorem infoC_Prop : (Tryz.prog.info? 33).map (·.size) = some 52 := by kernel_rfl
theorem infoC_Hdr : (Tryz.prog.info? 40).map (·.size) = some 228 := by kernel_rfl
end Go.Proofs.YtlhnhjglcbggmaaGreatRR
namespace Go.Proofs.YtlhnhjglcbggmaaGreatRR
set_option linter.unusedSimpArgs false
set_option linter.unusedVariables false
open Go.RowKit
set_option maxRecDepth 100000

set_option maxHeartbeats 2000000 in
theorem cmpCert_f1 (w : World) (x y : Crt) (hx : x.ok) (hy : y.ok) (d : ¬ x.height = y.height) :
  Calls Tryz.prog 22 #[.agg x.cl.toArray, .agg y.cl.toArray] w fun e w' => e = .returned (.bool false) ∧ Below w.heap.size w w' := by
 have HX := Lib.hid hx
 have HY := Lib.hid hy
 have HLX := Lib.hid (x.cl_len hx)
 have HLY := Lib.hid (y.cl_len hy)
 go_enter Tryz.func22, Tryz.ntmps22
 go_wp2_with (with_reducible show wpList _ _ _ (Oper.mk _ (Op.box _ _) _ _ _ _ :: _) _ _; refine wpList_box_i rfl _ _ rfl _ rfl ?_)
 intro ga w1 hk1 hb1 hg1 hs1
 go_wp2_with (with_reducible show wpList _ _ _ (Oper.mk _ (Op.box _ _) _ _ _ _ :: _) _ _; refine wpList_box_i rfl _ _ rfl _ rfl ?_)
 intro gb w2 hk2 hb2 hg2 hs2
 have HKA := Lib.hid ((bk_eqT (cs' := x.cl.toArray) hk1 rfl).below hb2 hk1.lt)
 have HKB := Lib.hid (bk_eqT (cs' := y.cl.toArray) hk2 rfl)
 have HB2 := Lib.hid (hb1.trans (hb2.mono hb1.size))
 have a0 : w2.cell? ⟨ga, 0, none⟩ = some (.int .u64 x.height) := (HKA.out.cell 0)
 have b0 : w2.cell? ⟨gb, 0, none⟩ = some (.int .u64 y.height) := (HKB.out.cell 0)
 have f1 : (x.height != y.height) = true := by simpa using d
 clear hk1 hb1 hg1 hs1 hk2 hb2 hg2 hs2  d hx hy
 go_wp2_with fail
 go_ret
 exact ⟨rfl, HB2.out⟩

set_option maxHeartbeats 2000000 in
theorem cmpCert_f2 (w : World) (x y : Crt) (hx : x.ok) (hy : y.ok) (e1 : x.height = y.height) (d : ¬ x.round = y.round) :
  Calls Tryz.prog 22 #[.agg x.cl.toArray, .agg y.cl.toArray] w fun e w' => e = .returned (.bool false) ∧ Below w.heap.size w w' := by
 have HX := Lib.hid hx
 have HY := Lib.hid hy
 have HLX := Lib.hid (x.cl_len hx)
 have HLY := Lib.hid (y.cl_len hy)
 go_enter Tryz.func22, Tryz.ntmps22
 go_wp2_with (with_reducible show wpList _ _ _ (Oper.mk _ (Op.box _ _) _ _ _ _ :: _) _ _; refine wpList_box_i rfl _ _ rfl _ rfl ?_)
 intro ga w1 hk1 hb1 hg1 hs1
 go_wp2_with (with_reducible show wpList _ _ _ (Oper.mk _ (Op.box _ _) _ _ _ _ :: _) _ _; refine wpList_box_i rfl _ _ rfl _ rfl ?_)
 intro gb w2 hk2 hb2 hg2 hs2
 have HKA := Lib.hid ((bk_eqT (cs' := x.cl.toArray) hk1 rfl).below hb2 hk1.lt)
 have HKB := Lib.hid (bk_eqT (cs' := y.cl.toArray) hk2 rfl)
 have HB2 := Lib.hid (hb1.trans (hb2.mono hb1.size))
 have a0 : w2.cell? ⟨ga, 0, none⟩ = some (.int .u64 x.height) := (HKA.out.cell 0)
 have b0 : w2.cell? ⟨gb, 0, none⟩ = some (.int .u64 y.height) := (HKB.out.cell 0)
 have a1 : w2.cell? ⟨ga, 1, none⟩ = some (.int .i64 x.round) := (HKA.out.cell 1)
 have b1 : w2.cell? ⟨gb, 1, none⟩ = some (.int .i64 y.round) := (HKB.out.cell 1)
 have f1 : (x.height != y.height) = false := by simp [e1]
 have f2 : (x.round != y.round) = true := by simpa using d
 clear hk1 hb1 hg1 hs1 hk2 hb2 hg2 hs2 e1 d hx hy
 go_wp2_with fail
 go_ret
 exact ⟨rfl, HB2.out⟩

set_option maxHeartbeats 2000000 in
theorem cmpCert_f3 (w : World) (x y : Crt) (hx : x.ok) (hy : y.ok) (e1 : x.height = y.height) (e2 : x.round = y.round) (d : ¬ bv x.id = bv y.id) :
  Calls Tryz.prog 22 #[.agg x.cl.toArray, .agg y.cl.toArray] w fun e w' => e = .returned (.bool false) ∧ Below w.heap.size w w' := by
 have HX := Lib.hid hx
 have HY := Lib.hid hy
 have HLX := Lib.hid (x.cl_len hx)
 have HLY := Lib.hid (y.cl_len hy)
 go_enter Tryz.func22, Tryz.ntmps22
 go_wp2_with (with_reducible show wpList _ _ _ (Oper.mk _ (Op.box _ _) _ _ _ _ :: _) _ _; refine wpList_box_i rfl _ _ rfl _ rfl ?_)
 intro ga w1 hk1 hb1 hg1 hs1
 go_wp2_with (with_reducible show wpList _ _ _ (Oper.mk _ (Op.box _ _) _ _ _ _ :: _) _ _; refine wpList_box_i rfl _ _ rfl _ rfl ?_)
 intro gb w2 hk2 hb2 hg2 hs2
 have HKA := Lib.hid ((bk_eqT (cs' := x.cl.toArray) hk1 rfl).below hb2 hk1.lt)
 have HKB := Lib.hid (bk_eqT (cs' := y.cl.toArray) hk2 rfl)
 have HB2 := Lib.hid (hb1.trans (hb2.mono hb1.size))
 have a0 : w2.cell? ⟨ga, 0, none⟩ = some (.int .u64 x.height) := (HKA.out.cell 0)
 have b0 : w2.cell? ⟨gb, 0, none⟩ = some (.int .u64 y.height) := (HKB.out.cell 0)
 have a1 : w2.cell? ⟨ga, 1, none⟩ = some (.int .i64 x.round) := (HKA.out.cell 1)
 have b1 : w2.cell? ⟨gb, 1, none⟩ = some (.int .i64 y.round) := (HKB.out.cell 1)
 have f1 : (x.height != y.height) = false := by simp [e1]
 have f2 : (x.round != y.round) = false := by simp [e2]
 have E3 := Lib.hid d
 clear hk1 hb1 hg1 hs1 hk2 hb2 hg2 hs2 e1 e2 d hx hy
 go_wp2_with (first
  | (with_reducible show wpList _ _ _ (Oper.mk (some 20) (Op.load 29 _) _ _ _ _ :: _) _ _; go_must (refine wpList_load_part rfl 29 _ rfl ga 2 32 rfl _ _ _ HKA.out Tryz.underlying29 rfl info_hash (by simp [HLX.out]) _ (x.cl_id HX.out.id) ?_))
  | (with_reducible show wpList _ _ _ (Oper.mk (some 22) (Op.load 29 _) _ _ _ _ :: _) _ _; go_must (refine wpList_load_part rfl 29 _ rfl gb 2 32 rfl _ _ _ HKB.out Tryz.underlying29 rfl info_hash (by simp [HLY.out]) _ (y.cl_id HY.out.id) ?_))
  | (with_reducible show wpList _ _ _ (Oper.mk (some 23) (Op.binOp BinOp.neq _ _ _ _) _ _ _ _ :: _) _ _; go_must (refine wpList_neq_flat rfl 29 _ _ _ rfl (bv x.id) (bv y.id) rfl rfl 2 _ flat_hash (by omega) agg_hash guard_hash (fits_hash HX.out.id) (fits_hash HY.out.id) false (⟨fun h => (by cases h), fun h => absurd h E3.out⟩) ?_)))
 go_ret
 exact ⟨rfl, HB2.out⟩

set_option maxHeartbeats 2000000 in
theorem cmpCert_f4 (w : World) (x y : Crt) (hx : x.ok) (hy : y.ok) (e1 : x.height = y.height) (e2 : x.round = y.round) (e3 : bv x.id = bv y.id) (d : ¬ x.n = y.n) :
  Calls Tryz.prog 22 #[.agg x.cl.toArray, .agg y.cl.toArray] w fun e w' => e = .returned (.bool false) ∧ Below w.heap.size w w' := by
 have HX := Lib.hid hx
 have HY := Lib.hid hy
 have HLX := Lib.hid (x.cl_len hx)
 have HLY := Lib.hid (y.cl_len hy)
 go_enter Tryz.func22, Tryz.ntmps22
 go_wp2_with (with_reducible show wpList _ _ _ (Oper.mk _ (Op.box _ _) _ _ _ _ :: _) _ _; refine wpList_box_i rfl _ _ rfl _ rfl ?_)
 intro ga w1 hk1 hb1 hg1 hs1
 go_wp2_with (with_reducible show wpList _ _ _ (Oper.mk _ (Op.box _ _) _ _ _ _ :: _) _ _; refine wpList_box_i rfl _ _ rfl _ rfl ?_)
 intro gb w2 hk2 hb2 hg2 hs2
 have HKA := Lib.hid ((bk_eqT (cs' := x.cl.toArray) hk1 rfl).below hb2 hk1.lt)
 have HKB := Lib.hid (bk_eqT (cs' := y.cl.toArray) hk2 rfl)
 have HB2 := Lib.hid (hb1.trans (hb2.mono hb1.size))
 have a0 : w2.cell? ⟨ga, 0, none⟩ = some (.int .u64 x.height) := (HKA.out.cell 0)
 have b0 : w2.cell? ⟨gb, 0, none⟩ = some (.int .u64 y.height) := (HKB.out.cell 0)
 have a1 : w2.cell? ⟨ga, 1, none⟩ = some (.int .i64 x.round) := (HKA.out.cell 1)
 have b1 : w2.cell? ⟨gb, 1, none⟩ = some (.int .i64 y.round) := (HKB.out.cell 1)
 have a34 : w2.cell? ⟨ga, 34, none⟩ = some (.slice x.A x.n x.c) := (HKA.out.cell 34).trans (x.cl_34 HX.out.id)
 have b34 : w2.cell? ⟨gb, 34, none⟩ = some (.slice y.A y.n y.c) := (HKB.out.cell 34).trans (y.cl_34 HY.out.id)
 have f1 : (x.height != y.height) = false := by simp [e1]
 have f2 : (x.round != y.round) = false := by simp [e2]
 have E3 := Lib.hid e3
 have f4 : ((x.n : Int) != (y.n : Int)) = true := by simp; omega
 have g4 : (x.n != y.n) = true := by simpa using d
 clear hk1 hb1 hg1 hs1 hk2 hb2 hg2 hs2 e1 e2 e3 d hx hy
 go_wp2_with (first
  | (with_reducible show wpList _ _ _ (Oper.mk (some 20) (Op.load 29 _) _ _ _ _ :: _) _ _; go_must (refine wpList_load_part rfl 29 _ rfl ga 2 32 rfl _ _ _ HKA.out Tryz.underlying29 rfl info_hash (by simp [HLX.out]) _ (x.cl_id HX.out.id) ?_))
  | (with_reducible show wpList _ _ _ (Oper.mk (some 22) (Op.load 29 _) _ _ _ _ :: _) _ _; go_must (refine wpList_load_part rfl 29 _ rfl gb 2 32 rfl _ _ _ HKB.out Tryz.underlying29 rfl info_hash (by simp [HLY.out]) _ (y.cl_id HY.out.id) ?_))
  | (with_reducible show wpList _ _ _ (Oper.mk (some 23) (Op.binOp BinOp.neq _ _ _ _) _ _ _ _ :: _) _ _; go_must (refine wpList_neq_flat rfl 29 _ _ _ rfl (bv x.id) (bv y.id) rfl rfl 2 _ flat_hash (by omega) agg_hash guard_hash (fits_hash HX.out.id) (fits_hash HY.out.id) true (⟨fun _ => E3.out, fun _ => rfl⟩) ?_)))
 go_ret
 exact ⟨rfl, HB2.out⟩

set_option maxHeartbeats 4000000 in
theorem cmpCert_m (w : World) (x y : Crt) (hx : x.ok) (hy : y.ok) (hax : x.at w) (hay : y.at w) (hbig : x.n ≤ 5000000000000) (e1 : x.height = y.height) (e2 : x.round = y.round) (e3 : bv x.id = bv y.id) (e4 : x.n = y.n) :
  Calls Tryz.prog 22 #[.agg x.cl.toArray, .agg y.cl.toArray] w fun e w' => RetB e (x.ms = y.ms) ∧ Below w.heap.size w w' := by
 have HX := Lib.hid hx
 have HY := Lib.hid hy
 have HLX := Lib.hid (x.cl_len hx)
 have HLY := Lib.hid (y.cl_len hy)
 go_enter Tryz.func22, Tryz.ntmps22
 go_wp2_with (with_reducible show wpList _ _ _ (Oper.mk _ (Op.box _ _) _ _ _ _ :: _) _ _; refine wpList_box_i rfl _ _ rfl _ rfl ?_)
 intro ga w1 hk1 hb1 hg1 hs1
 go_wp2_with (with_reducible show wpList _ _ _ (Oper.mk _ (Op.box _ _) _ _ _ _ :: _) _ _; refine wpList_box_i rfl _ _ rfl _ rfl ?_)
 intro gb w2 hk2 hb2 hg2 hs2
 have HKA := Lib.hid ((bk_eqT (cs' := x.cl.toArray) hk1 rfl).below hb2 hk1.lt)
 have HKB := Lib.hid (bk_eqT (cs' := y.cl.toArray) hk2 rfl)
 have HB2 := Lib.hid (hb1.trans (hb2.mono hb1.size))
 have a0 : w2.cell? ⟨ga, 0, none⟩ = some (.int .u64 x.height) := (HKA.out.cell 0)
 have b0 : w2.cell? ⟨gb, 0, none⟩ = some (.int .u64 y.height) := (HKB.out.cell 0)
 have a1 : w2.cell? ⟨ga, 1, none⟩ = some (.int .i64 x.round) := (HKA.out.cell 1)
 have b1 : w2.cell? ⟨gb, 1, none⟩ = some (.int .i64 y.round) := (HKB.out.cell 1)
 have a34 : w2.cell? ⟨ga, 34, none⟩ = some (.slice x.A x.n x.c) := (HKA.out.cell 34).trans (x.cl_34 HX.out.id)
 have b34 : w2.cell? ⟨gb, 34, none⟩ = some (.slice y.A y.n y.c) := (HKB.out.cell 34).trans (y.cl_34 HY.out.id)
 have f1 : (x.height != y.height) = false := by simp [e1]
 have f2 : (x.round != y.round) = false := by simp [e2]
 have E3 := Lib.hid e3
 have f4 : ((x.n : Int) != (y.n : Int)) = false := by simp [e4]
 have g4 : (x.n != y.n) = false := by simp [e4]
 have HAX := Lib.hid hax
 have HAY := Lib.hid hay
 obtain ⟨A0, hA⟩ : ∃ A, x.A = A := ⟨_, rfl⟩
 obtain ⟨n0, hn⟩ : ∃ n, x.n = n := ⟨_, rfl⟩
 obtain ⟨c0, hc⟩ : ∃ c, x.c = c := ⟨_, rfl⟩
 obtain ⟨l0, hl⟩ : ∃ l, x.ms = l := ⟨_, rfl⟩
 obtain ⟨B0, hB⟩ : ∃ A, y.A = A := ⟨_, rfl⟩
 obtain ⟨d0, hd⟩ : ∃ c, y.c = c := ⟨_, rfl⟩
 obtain ⟨m0, hm⟩ : ∃ l, y.ms = l := ⟨_, rfl⟩
 have XA0 := Lib.hid (show x.cl.toArray[34]? = some (.slice A0 n0 c0) by rw [x.cl_34 HX.out.id, hA, hn, hc])
 have YA0 := Lib.hid (show y.cl.toArray[34]? = some (.slice B0 n0 d0) by rw [y.cl_34 HY.out.id, hB, ← e4, hn, hd])
 have XN0 := Lib.hid (show n0 = l0.length by rw [← hn, ← hl]; exact HX.out.n)
 have YN0 := Lib.hid (show n0 = m0.length by rw [← hn, ← hm, e4]; exact HY.out.n)
 have XO0 := Lib.hid (show ∀ e ∈ l0, e.ok by rw [← hl]; exact HX.out.ms)
 have YO0 := Lib.hid (show ∀ e ∈ m0, e.ok by rw [← hm]; exact HY.out.ms)
 have XR0 := Lib.hid (show Rd w A0 (l0.flatMap Mk.cl) by rw [← hA, ← hl]; exact HAX.out)
 have YR0 := Lib.hid (show Rd w B0 (m0.flatMap Mk.cl) by rw [← hB, ← hm]; exact HAY.out)
 have XL0 := Lib.hid (show ∀ e ∈ l0, e.cl.length = 18 from fun e he => e.cl_len (XO0.out e he))
 have YL0 := Lib.hid (show ∀ e ∈ m0, e.cl.length = 18 from fun e he => e.cl_len (YO0.out e he))
 have XE0 := Lib.hid hl
 have YE0 := Lib.hid hm
 have XB0 := Lib.hid (show n0 ≤ 5000000000000 by rw [← hn]; exact hbig)
 clear hA hc hl hB hd hm hn
 clear hk1 hb1 hg1 hs1 hk2 hb2 hg2 hs2 e1 e2 e3 e4 hx hy hax hay
 go_wp2_with (first
  | (with_reducible show wpList _ _ _ (Oper.mk (some 20) (Op.load 29 _) _ _ _ _ :: _) _ _; go_must (refine wpList_load_part rfl 29 _ rfl ga 2 32 rfl _ _ _ HKA.out Tryz.underlying29 rfl info_hash (by simp [HLX.out]) _ (x.cl_id HX.out.id) ?_))
  | (with_reducible show wpList _ _ _ (Oper.mk (some 22) (Op.load 29 _) _ _ _ _ :: _) _ _; go_must (refine wpList_load_part rfl 29 _ rfl gb 2 32 rfl _ _ _ HKB.out Tryz.underlying29 rfl info_hash (by simp [HLY.out]) _ (y.cl_id HY.out.id) ?_))
  | (with_reducible show wpList _ _ _ (Oper.mk (some 23) (Op.binOp BinOp.neq _ _ _ _) _ _ _ _ :: _) _ _; go_must (refine wpList_neq_flat rfl 29 _ _ _ rfl (bv x.id) (bv y.id) rfl rfl 2 _ flat_hash (by omega) agg_hash guard_hash (fits_hash HX.out.id) (fits_hash HY.out.id) true (⟨fun _ => E3.out, fun _ => rfl⟩) ?_)))
 clear a0 b0 a1 b1 a34 b34 f1 f2 f4 g4
 go_loopw [5] (fun i wr => ∃ k : Nat, k ≤ n0 ∧ i = .int .i64 (k : Int) ∧ Bk wr ga x.cl.toArray 36 ∧ Bk wr gb y.cl.toArray 36 ∧ Below w.heap.size w wr ∧ EqTo l0 m0 k) (fun i _ => n0 - (intOf i).toNat)
 case atStart => exact ⟨0, by omega, rfl, HKA.out, HKB.out, HB2.out, EqTo.zero _ _⟩
 case round =>
  clear HKA HKB HB2
  obtain ⟨k, hk, rfl, h4, h5, h6, h7⟩ := hrel
  have HKA := Lib.hid h4
  have HKB := Lib.hid h5
  have HW := Lib.hid h6
  have HEQ := Lib.hid h7
  have ca : wr.cell? ⟨ga, 34, none⟩ = some (.slice A0 n0 c0) := (h4.cell 34).trans XA0.out
  clear h4 h5 h6 h7
  by_cases hlt : k < n0
  ·have hkl : k < l0.length := by rw [← XN0.out]; exact hlt
   have hkm : k < m0.length := by rw [← YN0.out]; exact hlt
   obtain ⟨aa, hA, hcA⟩ := rd_elem (by omega) XL0.out (XR0.out.below HW.out) hkl
   obtain ⟨ab, hB, hcB⟩ := rd_elem (by omega) YL0.out (YR0.out.below HW.out) hkm
   obtain ⟨u, hu⟩ : ∃ u, l0[k] = u := ⟨_, rfl⟩
   obtain ⟨v, hv⟩ : ∃ v, m0[k] = v := ⟨_, rfl⟩
   have HUO := Lib.hid (XO0.out u (by rw [← hu]; exact List.getElem_mem hkl))
   have HVO := Lib.hid (YO0.out v (by rw [← hv]; exact List.getElem_mem hkm))
   have HST := Lib.hid (fun (he : u = v) => HEQ.out.step hkl hkm (by rw [hu, hv, he]))
   have HNE := Lib.hid (fun (he : u ≠ v) => ne_at hkl hkm (by rw [hu, hv]; exact he))
   rw [hu] at hcA
   rw [hv] at hcB
   have HCA := Lib.hid hcA
   have HCB := Lib.hid hcB
   subst hA hB
   have HKAD := Lib.hid (show Bk wr.drew ga x.cl.toArray 36 from HKA.out.drew)
   have HKBD := Lib.hid (show Bk wr.drew gb y.cl.toArray 36 from HKB.out.drew)
   clear hcA hcB hu hv
   have hi : (k : Int) < n0 := by omega
   have p1 : IntKind.i64.wrap ((k : Int) + 1) = (k : Int) + 1 := by rw [IntKind.wrap_i64]; have := XB0.out; omega
   go_wp2_with fail
   refine wp_region_free [(41, []), (42, [(0, 41)]), (43, []), (44, [(1, 42), (2, 43)]), (45, [(3, 44)]), (46, []), (47, [(5, 46)]), (48, []), (49, [(6, 47), (7, 48)]), (50, [(8, 49)])]
    [Is (.pointer (some ⟨ga, 34, none⟩)), Is (.slice (some aa) n0 c0), Is (.int .i64 (k : Int)), Is (.pointer (some (aa.add (k * 18)))), Is (.agg u.cl.toArray), Is (.pointer (some ⟨gb, 34, none⟩)), Is (.slice (some ab) n0 d0), Is (.int .i64 (k : Int)), Is (.pointer (some (ab.add (k * 18)))), Is (.agg v.cl.toArray)]
    (by kernel_rfl) (by kernel_rfl) (by rfl) ?st ?steps ?fin
   case st => exact ⟨Is.steady _, Is.steady _, Is.steady _, Is.steady _, Is.steady _, Is.steady _, Is.steady _, Is.steady _, Is.steady _, Is.steady _, trivial⟩
   case steps =>
    refine fcA (fun w4 hw4 => ?_) ?_
    ·refine foA rfl rfl ?_; (try simp only [Act.put, zA, zB, zC]); (go_wp2_with fail); exact qsA rfl rfl
    refine fcA (fun w4 hw4 => fiA rfl ?_) ?_
    ·have c : w4.cell? ⟨ga, 34, none⟩ = some (.slice (some aa) n0 c0) := ((HKAD.out.below hw4 HKAD.out.lt).cell 34).trans XA0.out
     refine foA rfl rfl ?_; (try simp only [Act.put, zA, zB, zC]); (go_wp2_with fail); exact qsA rfl rfl
    refine fcA (fun w4 hw4 => ?_) ?_
    ·refine foA rfl rfl ?_; (try simp only [Act.put, zA, zB, zC]); (go_wp2_with fail); exact qsA rfl rfl
    refine fcA (fun w4 hw4 => fiA rfl (fiA rfl ?_)) ?_
    ·refine foA rfl rfl ?_; (try simp only [Act.put, zA, zB, zC]); (go_wp2_with fail); exact qsA rfl rfl
    refine fcA (fun w4 hw4 => fiA rfl ?_) ?_
    ·exact FreeStep.load_at 139 _ rfl rfl rfl rfl (by rfl) rfl rfl (aa.add (k * 18)) 18 rfl u.cl (fun j z hz => cell_keepB (w0 := wr) (HCA.out j z hz) hw4) _ Tryz.underlying139 rfl info_Mk (u.cl_len HUO.out) rfl
    refine fcA (fun w4 hw4 => ?_) ?_
    ·refine foA rfl rfl ?_; (try simp only [Act.put, zA, zB, zC]); (go_wp2_with fail); exact qsA rfl rfl
    refine fcA (fun w4 hw4 => fiA rfl ?_) ?_
    ·have c : w4.cell? ⟨gb, 34, none⟩ = some (.slice (some ab) n0 d0) := ((HKBD.out.below hw4 HKBD.out.lt).cell 34).trans YA0.out
     refine foA rfl rfl ?_; (try simp only [Act.put, zA, zB, zC]); (go_wp2_with fail); exact qsA rfl rfl
    refine fcA (fun w4 hw4 => ?_) ?_
    ·refine foA rfl rfl ?_; (try simp only [Act.put, zA, zB, zC]); (go_wp2_with fail); exact qsA rfl rfl
    refine fcA (fun w4 hw4 => fiA rfl (fiA rfl ?_)) ?_
    ·refine foA rfl rfl ?_; (try simp only [Act.put, zA, zB, zC]); (go_wp2_with fail); exact qsA rfl rfl
    refine fcA (fun w4 hw4 => fiA rfl ?_) ?_
    ·exact FreeStep.load_at 139 _ rfl rfl rfl rfl (by rfl) rfl rfl (ab.add (k * 18)) 18 rfl v.cl (fun j z hz => cell_keepB (w0 := wr) (HCB.out j z hz) hw4) _ Tryz.underlying139 rfl info_Mk (v.cl_len HVO.out) rfl
    exact FreeSteps.nil
   case fin =>
    intro w4 hw4
    iterate 10 refine FreeEnd.is rfl ?_
    refine FreeEnd.nil ?_
    (try simp only [Act.put, zA, zB, zC])
    simp only [List.length_cons, List.length_nil, Nat.reduceAdd, List.drop_succ_cons, List.drop_zero]
    have HW4 := Lib.hid (show Below wr.heap.size wr w4 from (Below.refl _ _).drew.trans hw4)
    clear hw4
    obtain ⟨q, hq⟩ := same_bool (u.cl = v.cl)
    have HQ := Lib.hid hq
    clear hq
    go_wp2_with (with_reducible show wpList _ _ _ (Oper.mk _ (Op.binOp BinOp.neq _ _ _ _) _ _ _ _ :: _) _ _; go_must (refine wpList_neq_flat rfl 139 _ _ _ rfl u.cl v.cl rfl rfl 3 _ flat_Mk (by omega) agg_Mk guard_Mk (fits_Mk HUO.out) (fits_Mk HVO.out) q HQ.out ?_); cases q)
    ·go_wp2
     go_ret
     exact ⟨RetB.no fun h => absurd (h) (by rw [XE0.out, YE0.out]; exact HNE.out (fun he => by have := HQ.out.2 (by rw [he]); cases this)), HW.out.trans (HW4.out.mono HW.out.size)⟩
    ·go_wp2
     go_round
     case rel => exact ⟨k + 1, by omega, by go_num, HKA.out.below HW4.out HKA.out.lt, HKB.out.below HW4.out HKB.out.lt, HW.out.trans (HW4.out.mono HW.out.size), HST.out (Mk.eq_of (HQ.out.1 rfl))⟩
     case measure => simp [intOf]; omega
  ·have hkn : k = n0 := by omega
   subst hkn
   have HALL0 := Lib.hid (show x.ms = y.ms by rw [XE0.out, YE0.out]; exact HEQ.out.all XN0.out YN0.out)
   have hi : ¬ (k : Int) < (k : Int) := by omega
   go_wp2
   go_ret
   exact ⟨RetB.yes (HALL0.out), HW.out⟩

theorem cmpCert (w : World) (x y : Crt) (hx : x.ok) (hy : y.ok) (hax : x.at w) (hay : y.at w) (hbig : x.n ≤ 5000000000000) :
  Calls Tryz.prog 22 #[.agg x.cl.toArray, .agg y.cl.toArray] w fun e w' => RetB e (x.same y) ∧ Below w.heap.size w w' := by
 by_cases e1 : x.height = y.height
 case neg => exact (cmpCert_f1 w x y hx hy e1).mono fun e w' ⟨h1, h2⟩ => ⟨by rw [h1]; exact RetB.no fun h => absurd (h.height) e1, h2⟩
 by_cases e2 : x.round = y.round
 case neg => exact (cmpCert_f2 w x y hx hy e1 e2).mono fun e w' ⟨h1, h2⟩ => ⟨by rw [h1]; exact RetB.no fun h => absurd (h.round) e2, h2⟩
 by_cases e3 : bv x.id = bv y.id
 case neg => exact (cmpCert_f3 w x y hx hy e1 e2 e3).mono fun e w' ⟨h1, h2⟩ => ⟨by rw [h1]; exact RetB.no fun h => absurd (congrArg bv h.id) e3, h2⟩
 by_cases e4 : x.n = y.n
 case neg => exact (cmpCert_f4 w x y hx hy e1 e2 e3 e4).mono fun e w' ⟨h1, h2⟩ => ⟨by rw [h1]; exact RetB.no fun h => absurd ((by rw [hx.n, hy.n, h.ms] : x.n = y.n)) e4, h2⟩
 exact (cmpCert_m w x y hx hy hax hay hbig e1 e2 e3 e4).mono fun e w' ⟨h1, h3⟩ => ⟨h1.iff ⟨fun h => ⟨e1, e2, bv_inj e3, h⟩, fun h => h.ms⟩, h3⟩
end Go.Proofs.YtlhnhjglcbggmaaGreatRR

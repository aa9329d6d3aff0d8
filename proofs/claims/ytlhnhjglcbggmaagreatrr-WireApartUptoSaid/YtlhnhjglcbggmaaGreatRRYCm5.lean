/-
  The law's comparisons: messages, inputs. Conditions: each number fits its kind; the lists lie in the world.
-/
import Derived.Test.YtlhnhjglcbggmaaGreatRRY32
import Derived.Test.YtlhnhjglcbggmaaGreatRRYCm3
namespace Go.Proofs.YtlhnhjglcbggmaaGreatRR
set_option linter.unusedSimpArgs false
set_option linter.unusedVariables false
open Go.RowKit
set_option maxRecDepth 100000
theorem infoC_Blk : (Tryz.prog.info? 44).map (·.size) = some 265 := by kernel_rfl
theorem Mg.ok.ok {x : Mg} (h : x.ok) : x.p.ok := MsgOk.ok h
theorem Mg.ok.good {x : Mg} (h : x.ok) : x.p.good = false := MsgOk.good h
theorem Mg.ok.step {x : Mg} (h : x.ok) : x.p.step = 0 := MsgOk.step h
theorem Ip.ok.ok {x : Ip} (h : x.ok) : x.p.ok := InputOk.ok h
theorem Ip.ok.crt {x : Ip} (h : x.ok) : x.p.crt = zeroCt := InputOk.crt h
theorem Ip.ok.tx {x : Ip} (h : x.ok) : x.p.tx = zeroT := InputOk.tx h
theorem Ip.ok.ev {x : Ip} (h : x.ok) : x.p.ev = zeroE := InputOk.ev h
theorem Ip.ok.height {x : Ip} (h : x.ok) : x.p.height = 0 := InputOk.height h
theorem Prts.mk_same {p q : Prts} (h0 : p.prop = q.prop) (h1 : p.blk.same q.blk) (h2 : p.vs = q.vs) (h3 : p.crt.same q.crt) (h4 : p.tx = q.tx) (h5 : p.ev = q.ev) (h6 : p.height = q.height) (h7 : p.round = q.round) (h8 : p.good = q.good) (h9 : p.step = q.step) : p.same q := fun m hm =>
 match m, hm with
 | 0, _ => h0
 | 1, _ => h1
 | 2, _ => h2
 | 3, _ => h3
 | 4, _ => h4
 | 5, _ => h5
 | 6, _ => h6
 | 7, _ => h7
 | 8, _ => h8
 | 9, _ => h9
 | m + 10, hm => by omega
theorem Mg.ex_prop (x : Mg) (h : x.ok) : x.cl.toArray.extract 1 (1 + 52) = (x.p.prop.cl).toArray := seg_ex (A := [.int .i64 x.k]) (C := x.p.blk.cl ++ ([.slice x.p.vA x.p.vn x.p.vc] ++ (x.p.crt.cl ++ (x.p.tx.cl ++ (x.p.ev.cl ++ ([.int .u64 x.p.height] ++ ([.int .i64 x.p.round]))))))) (by simp [Mg.cl, msgCl]) (by simp [x.p.prop.cl_len h.ok.prop, x.p.blk.len h.ok.blk, x.p.crt.cl_len h.ok.crt, x.p.tx.cl_len h.ok.tx, x.p.ev.cl_len h.ok.ev]) (by simp [x.p.prop.cl_len h.ok.prop, x.p.blk.len h.ok.blk, x.p.crt.cl_len h.ok.crt, x.p.tx.cl_len h.ok.tx, x.p.ev.cl_len h.ok.ev])
theorem Mg.ex_blk (x : Mg) (h : x.ok) : x.cl.toArray.extract 53 (53 + 265) = (x.p.blk.cl).toArray := seg_ex (A := [.int .i64 x.k] ++ (x.p.prop.cl)) (C := [.slice x.p.vA x.p.vn x.p.vc] ++ (x.p.crt.cl ++ (x.p.tx.cl ++ (x.p.ev.cl ++ ([.int .u64 x.p.height] ++ ([.int .i64 x.p.round])))))) (by simp [Mg.cl, msgCl]) (by simp [x.p.prop.cl_len h.ok.prop, x.p.blk.len h.ok.blk, x.p.crt.cl_len h.ok.crt, x.p.tx.cl_len h.ok.tx, x.p.ev.cl_len h.ok.ev]) (by simp [x.p.prop.cl_len h.ok.prop, x.p.blk.len h.ok.blk, x.p.crt.cl_len h.ok.crt, x.p.tx.cl_len h.ok.tx, x.p.ev.cl_len h.ok.ev])
theorem Mg.at_vs (x : Mg) (h : x.ok) : x.cl.toArray[318]? = some (.slice x.p.vA x.p.vn x.p.vc) := seg_at (A := [.int .i64 x.k] ++ (x.p.prop.cl ++ (x.p.blk.cl))) (C := x.p.crt.cl ++ (x.p.tx.cl ++ (x.p.ev.cl ++ ([.int .u64 x.p.height] ++ ([.int .i64 x.p.round]))))) (by simp [Mg.cl, msgCl]) (by simp [x.p.prop.cl_len h.ok.prop, x.p.blk.len h.ok.blk, x.p.crt.cl_len h.ok.crt, x.p.tx.cl_len h.ok.tx, x.p.ev.cl_len h.ok.ev])
theorem Mg.ex_crt (x : Mg) (h : x.ok) : x.cl.toArray.extract 319 (319 + 35) = (x.p.crt.cl).toArray := seg_ex (A := [.int .i64 x.k] ++ (x.p.prop.cl ++ (x.p.blk.cl ++ ([.slice x.p.vA x.p.vn x.p.vc])))) (C := x.p.tx.cl ++ (x.p.ev.cl ++ ([.int .u64 x.p.height] ++ ([.int .i64 x.p.round])))) (by simp [Mg.cl, msgCl]) (by simp [x.p.prop.cl_len h.ok.prop, x.p.blk.len h.ok.blk, x.p.crt.cl_len h.ok.crt, x.p.tx.cl_len h.ok.tx, x.p.ev.cl_len h.ok.ev]) (by simp [x.p.prop.cl_len h.ok.prop, x.p.blk.len h.ok.blk, x.p.crt.cl_len h.ok.crt, x.p.tx.cl_len h.ok.tx, x.p.ev.cl_len h.ok.ev])
theorem Mg.ex_tx (x : Mg) (h : x.ok) : x.cl.toArray.extract 354 (354 + 22) = (x.p.tx.cl).toArray := seg_ex (A := [.int .i64 x.k] ++ (x.p.prop.cl ++ (x.p.blk.cl ++ ([.slice x.p.vA x.p.vn x.p.vc] ++ (x.p.crt.cl))))) (C := x.p.ev.cl ++ ([.int .u64 x.p.height] ++ ([.int .i64 x.p.round]))) (by simp [Mg.cl, msgCl]) (by simp [x.p.prop.cl_len h.ok.prop, x.p.blk.len h.ok.blk, x.p.crt.cl_len h.ok.crt, x.p.tx.cl_len h.ok.tx, x.p.ev.cl_len h.ok.ev]) (by simp [x.p.prop.cl_len h.ok.prop, x.p.blk.len h.ok.blk, x.p.crt.cl_len h.ok.crt, x.p.tx.cl_len h.ok.tx, x.p.ev.cl_len h.ok.ev])
theorem Mg.ex_ev (x : Mg) (h : x.ok) : x.cl.toArray.extract 376 (376 + 106) = (x.p.ev.cl).toArray := seg_ex (A := [.int .i64 x.k] ++ (x.p.prop.cl ++ (x.p.blk.cl ++ ([.slice x.p.vA x.p.vn x.p.vc] ++ (x.p.crt.cl ++ (x.p.tx.cl)))))) (C := [.int .u64 x.p.height] ++ ([.int .i64 x.p.round])) (by simp [Mg.cl, msgCl]) (by simp [x.p.prop.cl_len h.ok.prop, x.p.blk.len h.ok.blk, x.p.crt.cl_len h.ok.crt, x.p.tx.cl_len h.ok.tx, x.p.ev.cl_len h.ok.ev]) (by simp [x.p.prop.cl_len h.ok.prop, x.p.blk.len h.ok.blk, x.p.crt.cl_len h.ok.crt, x.p.tx.cl_len h.ok.tx, x.p.ev.cl_len h.ok.ev])
theorem Mg.at_height (x : Mg) (h : x.ok) : x.cl.toArray[482]? = some (.int .u64 x.p.height) := seg_at (A := [.int .i64 x.k] ++ (x.p.prop.cl ++ (x.p.blk.cl ++ ([.slice x.p.vA x.p.vn x.p.vc] ++ (x.p.crt.cl ++ (x.p.tx.cl ++ (x.p.ev.cl))))))) (C := [.int .i64 x.p.round]) (by simp [Mg.cl, msgCl]) (by simp [x.p.prop.cl_len h.ok.prop, x.p.blk.len h.ok.blk, x.p.crt.cl_len h.ok.crt, x.p.tx.cl_len h.ok.tx, x.p.ev.cl_len h.ok.ev])
theorem Mg.at_round (x : Mg) (h : x.ok) : x.cl.toArray[483]? = some (.int .i64 x.p.round) := seg_at (A := [.int .i64 x.k] ++ (x.p.prop.cl ++ (x.p.blk.cl ++ ([.slice x.p.vA x.p.vn x.p.vc] ++ (x.p.crt.cl ++ (x.p.tx.cl ++ (x.p.ev.cl ++ ([.int .u64 x.p.height])))))))) (C := []) (by simp [Mg.cl, msgCl]) (by simp [x.p.prop.cl_len h.ok.prop, x.p.blk.len h.ok.blk, x.p.crt.cl_len h.ok.crt, x.p.tx.cl_len h.ok.tx, x.p.ev.cl_len h.ok.ev])
theorem Ip.ex_prop (x : Ip) (h : x.ok) : x.cl.toArray.extract 2 (2 + 52) = (x.p.prop.cl).toArray := seg_ex (A := [.int .i64 x.k] ++ ([.int .u64 x.now])) (C := x.p.blk.cl ++ ([.slice x.p.vA x.p.vn x.p.vc] ++ ([.bool x.p.good] ++ ([.int .i64 x.p.step] ++ ([.int .i64 x.p.round]))))) (by simp [Ip.cl, inputCl]) (by simp [x.p.prop.cl_len h.ok.prop, x.p.blk.len h.ok.blk, x.p.crt.cl_len h.ok.crt, x.p.tx.cl_len h.ok.tx, x.p.ev.cl_len h.ok.ev]) (by simp [x.p.prop.cl_len h.ok.prop, x.p.blk.len h.ok.blk, x.p.crt.cl_len h.ok.crt, x.p.tx.cl_len h.ok.tx, x.p.ev.cl_len h.ok.ev])
theorem Ip.ex_blk (x : Ip) (h : x.ok) : x.cl.toArray.extract 54 (54 + 265) = (x.p.blk.cl).toArray := seg_ex (A := [.int .i64 x.k] ++ ([.int .u64 x.now] ++ (x.p.prop.cl))) (C := [.slice x.p.vA x.p.vn x.p.vc] ++ ([.bool x.p.good] ++ ([.int .i64 x.p.step] ++ ([.int .i64 x.p.round])))) (by simp [Ip.cl, inputCl]) (by simp [x.p.prop.cl_len h.ok.prop, x.p.blk.len h.ok.blk, x.p.crt.cl_len h.ok.crt, x.p.tx.cl_len h.ok.tx, x.p.ev.cl_len h.ok.ev]) (by simp [x.p.prop.cl_len h.ok.prop, x.p.blk.len h.ok.blk, x.p.crt.cl_len h.ok.crt, x.p.tx.cl_len h.ok.tx, x.p.ev.cl_len h.ok.ev])
theorem Ip.at_vs (x : Ip) (h : x.ok) : x.cl.toArray[319]? = some (.slice x.p.vA x.p.vn x.p.vc) := seg_at (A := [.int .i64 x.k] ++ ([.int .u64 x.now] ++ (x.p.prop.cl ++ (x.p.blk.cl)))) (C := [.bool x.p.good] ++ ([.int .i64 x.p.step] ++ ([.int .i64 x.p.round]))) (by simp [Ip.cl, inputCl]) (by simp [x.p.prop.cl_len h.ok.prop, x.p.blk.len h.ok.blk, x.p.crt.cl_len h.ok.crt, x.p.tx.cl_len h.ok.tx, x.p.ev.cl_len h.ok.ev])
theorem Ip.at_good (x : Ip) (h : x.ok) : x.cl.toArray[320]? = some (.bool x.p.good) := seg_at (A := [.int .i64 x.k] ++ ([.int .u64 x.now] ++ (x.p.prop.cl ++ (x.p.blk.cl ++ ([.slice x.p.vA x.p.vn x.p.vc]))))) (C := [.int .i64 x.p.step] ++ ([.int .i64 x.p.round])) (by simp [Ip.cl, inputCl]) (by simp [x.p.prop.cl_len h.ok.prop, x.p.blk.len h.ok.blk, x.p.crt.cl_len h.ok.crt, x.p.tx.cl_len h.ok.tx, x.p.ev.cl_len h.ok.ev])
theorem Ip.at_step (x : Ip) (h : x.ok) : x.cl.toArray[321]? = some (.int .i64 x.p.step) := seg_at (A := [.int .i64 x.k] ++ ([.int .u64 x.now] ++ (x.p.prop.cl ++ (x.p.blk.cl ++ ([.slice x.p.vA x.p.vn x.p.vc] ++ ([.bool x.p.good])))))) (C := [.int .i64 x.p.round]) (by simp [Ip.cl, inputCl]) (by simp [x.p.prop.cl_len h.ok.prop, x.p.blk.len h.ok.blk, x.p.crt.cl_len h.ok.crt, x.p.tx.cl_len h.ok.tx, x.p.ev.cl_len h.ok.ev])
theorem Ip.at_round (x : Ip) (h : x.ok) : x.cl.toArray[322]? = some (.int .i64 x.p.round) := seg_at (A := [.int .i64 x.k] ++ ([.int .u64 x.now] ++ (x.p.prop.cl ++ (x.p.blk.cl ++ ([.slice x.p.vA x.p.vn x.p.vc] ++ ([.bool x.p.good] ++ ([.int .i64 x.p.step]))))))) (C := []) (by simp [Ip.cl, inputCl]) (by simp [x.p.prop.cl_len h.ok.prop, x.p.blk.len h.ok.blk, x.p.crt.cl_len h.ok.crt, x.p.tx.cl_len h.ok.tx, x.p.ev.cl_len h.ok.ev])

set_option maxHeartbeats 2000000 in
theorem cmpMg_f1 (w : World) (x y : Mg) (hx : x.ok) (hy : y.ok) (d : ¬ x.k = y.k) :
  Calls Tryz.prog 24 #[.agg x.cl.toArray, .agg y.cl.toArray] w fun e w' => e = .returned (.bool false) ∧ Below w.heap.size w w' := by
 have HX := Lib.hid hx
 have HY := Lib.hid hy
 have HLX := Lib.hid (x.cl_len hx)
 have HLY := Lib.hid (y.cl_len hy)
 go_enter Tryz.func24, Tryz.ntmps24
 go_wp2_with (with_reducible show wpList _ _ _ (Oper.mk _ (Op.box _ _) _ _ _ _ :: _) _ _; refine wpList_box_i rfl _ _ rfl _ rfl ?_)
 intro ga w1 hk1 hb1 hg1 hs1
 go_wp2_with (with_reducible show wpList _ _ _ (Oper.mk _ (Op.box _ _) _ _ _ _ :: _) _ _; refine wpList_box_i rfl _ _ rfl _ rfl ?_)
 intro gb w2 hk2 hb2 hg2 hs2
 have HKA := Lib.hid ((bk_eqT (cs' := x.cl.toArray) hk1 rfl).below hb2 hk1.lt)
 have HKB := Lib.hid (bk_eqT (cs' := y.cl.toArray) hk2 rfl)
 have HB2 := Lib.hid (hb1.trans (hb2.mono hb1.size))
 have a0 : w2.cell? ⟨ga, 0, none⟩ = some (.int .i64 x.k) := (HKA.out.cell 0)
 have b0 : w2.cell? ⟨gb, 0, none⟩ = some (.int .i64 y.k) := (HKB.out.cell 0)
 have f1 : (x.k != y.k) = true := by simpa using d
 clear hk1 hb1 hg1 hs1 hk2 hb2 hg2 hs2  d hx hy
 go_wp2_with fail
 go_ret
 exact ⟨rfl, HB2.out⟩

set_option maxHeartbeats 2000000 in
theorem cmpMg_f2 (w : World) (x y : Mg) (hx : x.ok) (hy : y.ok) (e1 : x.k = y.k) (d : ¬ x.p.prop.cl = y.p.prop.cl) :
  Calls Tryz.prog 24 #[.agg x.cl.toArray, .agg y.cl.toArray] w fun e w' => e = .returned (.bool false) ∧ Below w.heap.size w w' := by
 have HX := Lib.hid hx
 have HY := Lib.hid hy
 have HLX := Lib.hid (x.cl_len hx)
 have HLY := Lib.hid (y.cl_len hy)
 go_enter Tryz.func24, Tryz.ntmps24
 go_wp2_with (with_reducible show wpList _ _ _ (Oper.mk _ (Op.box _ _) _ _ _ _ :: _) _ _; refine wpList_box_i rfl _ _ rfl _ rfl ?_)
 intro ga w1 hk1 hb1 hg1 hs1
 go_wp2_with (with_reducible show wpList _ _ _ (Oper.mk _ (Op.box _ _) _ _ _ _ :: _) _ _; refine wpList_box_i rfl _ _ rfl _ rfl ?_)
 intro gb w2 hk2 hb2 hg2 hs2
 have HKA := Lib.hid ((bk_eqT (cs' := x.cl.toArray) hk1 rfl).below hb2 hk1.lt)
 have HKB := Lib.hid (bk_eqT (cs' := y.cl.toArray) hk2 rfl)
 have HB2 := Lib.hid (hb1.trans (hb2.mono hb1.size))
 have a0 : w2.cell? ⟨ga, 0, none⟩ = some (.int .i64 x.k) := (HKA.out.cell 0)
 have b0 : w2.cell? ⟨gb, 0, none⟩ = some (.int .i64 y.k) := (HKB.out.cell 0)
 have f1 : (x.k != y.k) = false := by simp [e1]
 have E2 := Lib.hid d
 clear hk1 hb1 hg1 hs1 hk2 hb2 hg2 hs2 e1 d hx hy
 go_wp2_with (first
  | (with_reducible show wpList _ _ _ (Oper.mk (some 12) (Op.load 33 _) _ _ _ _ :: _) _ _; go_must (refine wpList_load_part rfl 33 _ rfl ga 1 52 rfl _ _ _ HKA.out Tryz.underlying33 rfl infoC_Prop (by simp [HLX.out]) _ (x.ex_prop HX.out) ?_))
  | (with_reducible show wpList _ _ _ (Oper.mk (some 14) (Op.load 33 _) _ _ _ _ :: _) _ _; go_must (refine wpList_load_part rfl 33 _ rfl gb 1 52 rfl _ _ _ HKB.out Tryz.underlying33 rfl infoC_Prop (by simp [HLY.out]) _ (y.ex_prop HY.out) ?_))
  | (with_reducible show wpList _ _ _ (Oper.mk (some 15) (Op.binOp BinOp.neq _ _ _ _) _ _ _ _ :: _) _ _; go_must (refine wpList_neq_flat rfl 33 _ _ _ rfl (x.p.prop.cl) (y.p.prop.cl) rfl rfl 3 _ flat_Prop (by omega) agg_Prop guard_Prop (fits_Prop HX.out.ok.prop) (fits_Prop HY.out.ok.prop) false (⟨fun h => (by cases h), fun h => absurd h E2.out⟩) ?_)))
 go_ret
 exact ⟨rfl, HB2.out⟩

set_option maxHeartbeats 2000000 in
theorem cmpMg_f3 (w : World) (x y : Mg) (hx : x.ok) (hy : y.ok) (e1 : x.k = y.k) (e2 : x.p.prop.cl = y.p.prop.cl) (d : ¬ x.p.tx.cl = y.p.tx.cl) :
  Calls Tryz.prog 24 #[.agg x.cl.toArray, .agg y.cl.toArray] w fun e w' => e = .returned (.bool false) ∧ Below w.heap.size w w' := by
 have HX := Lib.hid hx
 have HY := Lib.hid hy
 have HLX := Lib.hid (x.cl_len hx)
 have HLY := Lib.hid (y.cl_len hy)
 go_enter Tryz.func24, Tryz.ntmps24
 go_wp2_with (with_reducible show wpList _ _ _ (Oper.mk _ (Op.box _ _) _ _ _ _ :: _) _ _; refine wpList_box_i rfl _ _ rfl _ rfl ?_)
 intro ga w1 hk1 hb1 hg1 hs1
 go_wp2_with (with_reducible show wpList _ _ _ (Oper.mk _ (Op.box _ _) _ _ _ _ :: _) _ _; refine wpList_box_i rfl _ _ rfl _ rfl ?_)
 intro gb w2 hk2 hb2 hg2 hs2
 have HKA := Lib.hid ((bk_eqT (cs' := x.cl.toArray) hk1 rfl).below hb2 hk1.lt)
 have HKB := Lib.hid (bk_eqT (cs' := y.cl.toArray) hk2 rfl)
 have HB2 := Lib.hid (hb1.trans (hb2.mono hb1.size))
 have a0 : w2.cell? ⟨ga, 0, none⟩ = some (.int .i64 x.k) := (HKA.out.cell 0)
 have b0 : w2.cell? ⟨gb, 0, none⟩ = some (.int .i64 y.k) := (HKB.out.cell 0)
 have f1 : (x.k != y.k) = false := by simp [e1]
 have E2 := Lib.hid e2
 have E3 := Lib.hid d
 clear hk1 hb1 hg1 hs1 hk2 hb2 hg2 hs2 e1 e2 d hx hy
 go_wp2_with (first
  | (with_reducible show wpList _ _ _ (Oper.mk (some 12) (Op.load 33 _) _ _ _ _ :: _) _ _; go_must (refine wpList_load_part rfl 33 _ rfl ga 1 52 rfl _ _ _ HKA.out Tryz.underlying33 rfl infoC_Prop (by simp [HLX.out]) _ (x.ex_prop HX.out) ?_))
  | (with_reducible show wpList _ _ _ (Oper.mk (some 14) (Op.load 33 _) _ _ _ _ :: _) _ _; go_must (refine wpList_load_part rfl 33 _ rfl gb 1 52 rfl _ _ _ HKB.out Tryz.underlying33 rfl infoC_Prop (by simp [HLY.out]) _ (y.ex_prop HY.out) ?_))
  | (with_reducible show wpList _ _ _ (Oper.mk (some 15) (Op.binOp BinOp.neq _ _ _ _) _ _ _ _ :: _) _ _; go_must (refine wpList_neq_flat rfl 33 _ _ _ rfl (x.p.prop.cl) (y.p.prop.cl) rfl rfl 3 _ flat_Prop (by omega) agg_Prop guard_Prop (fits_Prop HX.out.ok.prop) (fits_Prop HY.out.ok.prop) true (⟨fun _ => E2.out, fun _ => rfl⟩) ?_))
  | (with_reducible show wpList _ _ _ (Oper.mk (some 19) (Op.load 27 _) _ _ _ _ :: _) _ _; go_must (refine wpList_load_part rfl 27 _ rfl ga 354 22 rfl _ _ _ HKA.out Tryz.underlying27 rfl infoC_Tx (by simp [HLX.out]) _ (x.ex_tx HX.out) ?_))
  | (with_reducible show wpList _ _ _ (Oper.mk (some 21) (Op.load 27 _) _ _ _ _ :: _) _ _; go_must (refine wpList_load_part rfl 27 _ rfl gb 354 22 rfl _ _ _ HKB.out Tryz.underlying27 rfl infoC_Tx (by simp [HLY.out]) _ (y.ex_tx HY.out) ?_))
  | (with_reducible show wpList _ _ _ (Oper.mk (some 22) (Op.binOp BinOp.neq _ _ _ _) _ _ _ _ :: _) _ _; go_must (refine wpList_neq_flat rfl 27 _ _ _ rfl (x.p.tx.cl) (y.p.tx.cl) rfl rfl 3 _ flat_Tx (by omega) agg_Tx guard_Tx (fits_Tx HX.out.ok.tx) (fits_Tx HY.out.ok.tx) false (⟨fun h => (by cases h), fun h => absurd h E3.out⟩) ?_)))
 go_ret
 exact ⟨rfl, HB2.out⟩

set_option maxHeartbeats 2000000 in
theorem cmpMg_f4 (w : World) (x y : Mg) (hx : x.ok) (hy : y.ok) (e1 : x.k = y.k) (e2 : x.p.prop.cl = y.p.prop.cl) (e3 : x.p.tx.cl = y.p.tx.cl) (d : ¬ x.p.ev.cl = y.p.ev.cl) :
  Calls Tryz.prog 24 #[.agg x.cl.toArray, .agg y.cl.toArray] w fun e w' => e = .returned (.bool false) ∧ Below w.heap.size w w' := by
 have HX := Lib.hid hx
 have HY := Lib.hid hy
 have HLX := Lib.hid (x.cl_len hx)
 have HLY := Lib.hid (y.cl_len hy)
 go_enter Tryz.func24, Tryz.ntmps24
 go_wp2_with (with_reducible show wpList _ _ _ (Oper.mk _ (Op.box _ _) _ _ _ _ :: _) _ _; refine wpList_box_i rfl _ _ rfl _ rfl ?_)
 intro ga w1 hk1 hb1 hg1 hs1
 go_wp2_with (with_reducible show wpList _ _ _ (Oper.mk _ (Op.box _ _) _ _ _ _ :: _) _ _; refine wpList_box_i rfl _ _ rfl _ rfl ?_)
 intro gb w2 hk2 hb2 hg2 hs2
 have HKA := Lib.hid ((bk_eqT (cs' := x.cl.toArray) hk1 rfl).below hb2 hk1.lt)
 have HKB := Lib.hid (bk_eqT (cs' := y.cl.toArray) hk2 rfl)
 have HB2 := Lib.hid (hb1.trans (hb2.mono hb1.size))
 have a0 : w2.cell? ⟨ga, 0, none⟩ = some (.int .i64 x.k) := (HKA.out.cell 0)
 have b0 : w2.cell? ⟨gb, 0, none⟩ = some (.int .i64 y.k) := (HKB.out.cell 0)
 have f1 : (x.k != y.k) = false := by simp [e1]
 have E2 := Lib.hid e2
 have E3 := Lib.hid e3
 have E4 := Lib.hid d
 clear hk1 hb1 hg1 hs1 hk2 hb2 hg2 hs2 e1 e2 e3 d hx hy
 go_wp2_with (first
  | (with_reducible show wpList _ _ _ (Oper.mk (some 12) (Op.load 33 _) _ _ _ _ :: _) _ _; go_must (refine wpList_load_part rfl 33 _ rfl ga 1 52 rfl _ _ _ HKA.out Tryz.underlying33 rfl infoC_Prop (by simp [HLX.out]) _ (x.ex_prop HX.out) ?_))
  | (with_reducible show wpList _ _ _ (Oper.mk (some 14) (Op.load 33 _) _ _ _ _ :: _) _ _; go_must (refine wpList_load_part rfl 33 _ rfl gb 1 52 rfl _ _ _ HKB.out Tryz.underlying33 rfl infoC_Prop (by simp [HLY.out]) _ (y.ex_prop HY.out) ?_))
  | (with_reducible show wpList _ _ _ (Oper.mk (some 15) (Op.binOp BinOp.neq _ _ _ _) _ _ _ _ :: _) _ _; go_must (refine wpList_neq_flat rfl 33 _ _ _ rfl (x.p.prop.cl) (y.p.prop.cl) rfl rfl 3 _ flat_Prop (by omega) agg_Prop guard_Prop (fits_Prop HX.out.ok.prop) (fits_Prop HY.out.ok.prop) true (⟨fun _ => E2.out, fun _ => rfl⟩) ?_))
  | (with_reducible show wpList _ _ _ (Oper.mk (some 19) (Op.load 27 _) _ _ _ _ :: _) _ _; go_must (refine wpList_load_part rfl 27 _ rfl ga 354 22 rfl _ _ _ HKA.out Tryz.underlying27 rfl infoC_Tx (by simp [HLX.out]) _ (x.ex_tx HX.out) ?_))
  | (with_reducible show wpList _ _ _ (Oper.mk (some 21) (Op.load 27 _) _ _ _ _ :: _) _ _; go_must (refine wpList_load_part rfl 27 _ rfl gb 354 22 rfl _ _ _ HKB.out Tryz.underlying27 rfl infoC_Tx (by simp [HLY.out]) _ (y.ex_tx HY.out) ?_))
  | (with_reducible show wpList _ _ _ (Oper.mk (some 22) (Op.binOp BinOp.neq _ _ _ _) _ _ _ _ :: _) _ _; go_must (refine wpList_neq_flat rfl 27 _ _ _ rfl (x.p.tx.cl) (y.p.tx.cl) rfl rfl 3 _ flat_Tx (by omega) agg_Tx guard_Tx (fits_Tx HX.out.ok.tx) (fits_Tx HY.out.ok.tx) true (⟨fun _ => E3.out, fun _ => rfl⟩) ?_))
  | (with_reducible show wpList _ _ _ (Oper.mk (some 26) (Op.load 38 _) _ _ _ _ :: _) _ _; go_must (refine wpList_load_part rfl 38 _ rfl ga 376 106 rfl _ _ _ HKA.out Tryz.underlying38 rfl infoC_Ev (by simp [HLX.out]) _ (x.ex_ev HX.out) ?_))
  | (with_reducible show wpList _ _ _ (Oper.mk (some 28) (Op.load 38 _) _ _ _ _ :: _) _ _; go_must (refine wpList_load_part rfl 38 _ rfl gb 376 106 rfl _ _ _ HKB.out Tryz.underlying38 rfl infoC_Ev (by simp [HLY.out]) _ (y.ex_ev HY.out) ?_))
  | (with_reducible show wpList _ _ _ (Oper.mk (some 29) (Op.binOp BinOp.neq _ _ _ _) _ _ _ _ :: _) _ _; go_must (refine wpList_neq_flat rfl 38 _ _ _ rfl (x.p.ev.cl) (y.p.ev.cl) rfl rfl 4 _ flat_Ev (by omega) agg_Ev guard_Ev (fits_Ev HX.out.ok.ev) (fits_Ev HY.out.ok.ev) false (⟨fun h => (by cases h), fun h => absurd h E4.out⟩) ?_)))
 go_ret
 exact ⟨rfl, HB2.out⟩

set_option maxHeartbeats 2000000 in
theorem cmpMg_f5 (w : World) (x y : Mg) (hx : x.ok) (hy : y.ok) (e1 : x.k = y.k) (e2 : x.p.prop.cl = y.p.prop.cl) (e3 : x.p.tx.cl = y.p.tx.cl) (e4 : x.p.ev.cl = y.p.ev.cl) (d : ¬ x.p.height = y.p.height) :
  Calls Tryz.prog 24 #[.agg x.cl.toArray, .agg y.cl.toArray] w fun e w' => e = .returned (.bool false) ∧ Below w.heap.size w w' := by
 have HX := Lib.hid hx
 have HY := Lib.hid hy
 have HLX := Lib.hid (x.cl_len hx)
 have HLY := Lib.hid (y.cl_len hy)
 go_enter Tryz.func24, Tryz.ntmps24
 go_wp2_with (with_reducible show wpList _ _ _ (Oper.mk _ (Op.box _ _) _ _ _ _ :: _) _ _; refine wpList_box_i rfl _ _ rfl _ rfl ?_)
 intro ga w1 hk1 hb1 hg1 hs1
 go_wp2_with (with_reducible show wpList _ _ _ (Oper.mk _ (Op.box _ _) _ _ _ _ :: _) _ _; refine wpList_box_i rfl _ _ rfl _ rfl ?_)
 intro gb w2 hk2 hb2 hg2 hs2
 have HKA := Lib.hid ((bk_eqT (cs' := x.cl.toArray) hk1 rfl).below hb2 hk1.lt)
 have HKB := Lib.hid (bk_eqT (cs' := y.cl.toArray) hk2 rfl)
 have HB2 := Lib.hid (hb1.trans (hb2.mono hb1.size))
 have a0 : w2.cell? ⟨ga, 0, none⟩ = some (.int .i64 x.k) := (HKA.out.cell 0)
 have b0 : w2.cell? ⟨gb, 0, none⟩ = some (.int .i64 y.k) := (HKB.out.cell 0)
 have a482 : w2.cell? ⟨ga, 482, none⟩ = some (.int .u64 x.p.height) := (HKA.out.cell 482).trans (x.at_height HX.out)
 have b482 : w2.cell? ⟨gb, 482, none⟩ = some (.int .u64 y.p.height) := (HKB.out.cell 482).trans (y.at_height HY.out)
 have f1 : (x.k != y.k) = false := by simp [e1]
 have E2 := Lib.hid e2
 have E3 := Lib.hid e3
 have E4 := Lib.hid e4
 have f5 : (x.p.height != y.p.height) = true := by simpa using d
 clear hk1 hb1 hg1 hs1 hk2 hb2 hg2 hs2 e1 e2 e3 e4 d hx hy
 go_wp2_with (first
  | (with_reducible show wpList _ _ _ (Oper.mk (some 12) (Op.load 33 _) _ _ _ _ :: _) _ _; go_must (refine wpList_load_part rfl 33 _ rfl ga 1 52 rfl _ _ _ HKA.out Tryz.underlying33 rfl infoC_Prop (by simp [HLX.out]) _ (x.ex_prop HX.out) ?_))
  | (with_reducible show wpList _ _ _ (Oper.mk (some 14) (Op.load 33 _) _ _ _ _ :: _) _ _; go_must (refine wpList_load_part rfl 33 _ rfl gb 1 52 rfl _ _ _ HKB.out Tryz.underlying33 rfl infoC_Prop (by simp [HLY.out]) _ (y.ex_prop HY.out) ?_))
  | (with_reducible show wpList _ _ _ (Oper.mk (some 15) (Op.binOp BinOp.neq _ _ _ _) _ _ _ _ :: _) _ _; go_must (refine wpList_neq_flat rfl 33 _ _ _ rfl (x.p.prop.cl) (y.p.prop.cl) rfl rfl 3 _ flat_Prop (by omega) agg_Prop guard_Prop (fits_Prop HX.out.ok.prop) (fits_Prop HY.out.ok.prop) true (⟨fun _ => E2.out, fun _ => rfl⟩) ?_))
  | (with_reducible show wpList _ _ _ (Oper.mk (some 19) (Op.load 27 _) _ _ _ _ :: _) _ _; go_must (refine wpList_load_part rfl 27 _ rfl ga 354 22 rfl _ _ _ HKA.out Tryz.underlying27 rfl infoC_Tx (by simp [HLX.out]) _ (x.ex_tx HX.out) ?_))
  | (with_reducible show wpList _ _ _ (Oper.mk (some 21) (Op.load 27 _) _ _ _ _ :: _) _ _; go_must (refine wpList_load_part rfl 27 _ rfl gb 354 22 rfl _ _ _ HKB.out Tryz.underlying27 rfl infoC_Tx (by simp [HLY.out]) _ (y.ex_tx HY.out) ?_))
  | (with_reducible show wpList _ _ _ (Oper.mk (some 22) (Op.binOp BinOp.neq _ _ _ _) _ _ _ _ :: _) _ _; go_must (refine wpList_neq_flat rfl 27 _ _ _ rfl (x.p.tx.cl) (y.p.tx.cl) rfl rfl 3 _ flat_Tx (by omega) agg_Tx guard_Tx (fits_Tx HX.out.ok.tx) (fits_Tx HY.out.ok.tx) true (⟨fun _ => E3.out, fun _ => rfl⟩) ?_))
  | (with_reducible show wpList _ _ _ (Oper.mk (some 26) (Op.load 38 _) _ _ _ _ :: _) _ _; go_must (refine wpList_load_part rfl 38 _ rfl ga 376 106 rfl _ _ _ HKA.out Tryz.underlying38 rfl infoC_Ev (by simp [HLX.out]) _ (x.ex_ev HX.out) ?_))
  | (with_reducible show wpList _ _ _ (Oper.mk (some 28) (Op.load 38 _) _ _ _ _ :: _) _ _; go_must (refine wpList_load_part rfl 38 _ rfl gb 376 106 rfl _ _ _ HKB.out Tryz.underlying38 rfl infoC_Ev (by simp [HLY.out]) _ (y.ex_ev HY.out) ?_))
  | (with_reducible show wpList _ _ _ (Oper.mk (some 29) (Op.binOp BinOp.neq _ _ _ _) _ _ _ _ :: _) _ _; go_must (refine wpList_neq_flat rfl 38 _ _ _ rfl (x.p.ev.cl) (y.p.ev.cl) rfl rfl 4 _ flat_Ev (by omega) agg_Ev guard_Ev (fits_Ev HX.out.ok.ev) (fits_Ev HY.out.ok.ev) true (⟨fun _ => E4.out, fun _ => rfl⟩) ?_)))
 go_ret
 exact ⟨rfl, HB2.out⟩

set_option maxHeartbeats 2000000 in
theorem cmpMg_f6 (w : World) (x y : Mg) (hx : x.ok) (hy : y.ok) (e1 : x.k = y.k) (e2 : x.p.prop.cl = y.p.prop.cl) (e3 : x.p.tx.cl = y.p.tx.cl) (e4 : x.p.ev.cl = y.p.ev.cl) (e5 : x.p.height = y.p.height) (d : ¬ x.p.round = y.p.round) :
  Calls Tryz.prog 24 #[.agg x.cl.toArray, .agg y.cl.toArray] w fun e w' => e = .returned (.bool false) ∧ Below w.heap.size w w' := by
 have HX := Lib.hid hx
 have HY := Lib.hid hy
 have HLX := Lib.hid (x.cl_len hx)
 have HLY := Lib.hid (y.cl_len hy)
 go_enter Tryz.func24, Tryz.ntmps24
 go_wp2_with (with_reducible show wpList _ _ _ (Oper.mk _ (Op.box _ _) _ _ _ _ :: _) _ _; refine wpList_box_i rfl _ _ rfl _ rfl ?_)
 intro ga w1 hk1 hb1 hg1 hs1
 go_wp2_with (with_reducible show wpList _ _ _ (Oper.mk _ (Op.box _ _) _ _ _ _ :: _) _ _; refine wpList_box_i rfl _ _ rfl _ rfl ?_)
 intro gb w2 hk2 hb2 hg2 hs2
 have HKA := Lib.hid ((bk_eqT (cs' := x.cl.toArray) hk1 rfl).below hb2 hk1.lt)
 have HKB := Lib.hid (bk_eqT (cs' := y.cl.toArray) hk2 rfl)
 have HB2 := Lib.hid (hb1.trans (hb2.mono hb1.size))
 have a0 : w2.cell? ⟨ga, 0, none⟩ = some (.int .i64 x.k) := (HKA.out.cell 0)
 have b0 : w2.cell? ⟨gb, 0, none⟩ = some (.int .i64 y.k) := (HKB.out.cell 0)
 have a482 : w2.cell? ⟨ga, 482, none⟩ = some (.int .u64 x.p.height) := (HKA.out.cell 482).trans (x.at_height HX.out)
 have b482 : w2.cell? ⟨gb, 482, none⟩ = some (.int .u64 y.p.height) := (HKB.out.cell 482).trans (y.at_height HY.out)
 have a483 : w2.cell? ⟨ga, 483, none⟩ = some (.int .i64 x.p.round) := (HKA.out.cell 483).trans (x.at_round HX.out)
 have b483 : w2.cell? ⟨gb, 483, none⟩ = some (.int .i64 y.p.round) := (HKB.out.cell 483).trans (y.at_round HY.out)
 have f1 : (x.k != y.k) = false := by simp [e1]
 have E2 := Lib.hid e2
 have E3 := Lib.hid e3
 have E4 := Lib.hid e4
 have f5 : (x.p.height != y.p.height) = false := by simp [e5]
 have f6 : (x.p.round != y.p.round) = true := by simpa using d
 clear hk1 hb1 hg1 hs1 hk2 hb2 hg2 hs2 e1 e2 e3 e4 e5 d hx hy
 go_wp2_with (first
  | (with_reducible show wpList _ _ _ (Oper.mk (some 12) (Op.load 33 _) _ _ _ _ :: _) _ _; go_must (refine wpList_load_part rfl 33 _ rfl ga 1 52 rfl _ _ _ HKA.out Tryz.underlying33 rfl infoC_Prop (by simp [HLX.out]) _ (x.ex_prop HX.out) ?_))
  | (with_reducible show wpList _ _ _ (Oper.mk (some 14) (Op.load 33 _) _ _ _ _ :: _) _ _; go_must (refine wpList_load_part rfl 33 _ rfl gb 1 52 rfl _ _ _ HKB.out Tryz.underlying33 rfl infoC_Prop (by simp [HLY.out]) _ (y.ex_prop HY.out) ?_))
  | (with_reducible show wpList _ _ _ (Oper.mk (some 15) (Op.binOp BinOp.neq _ _ _ _) _ _ _ _ :: _) _ _; go_must (refine wpList_neq_flat rfl 33 _ _ _ rfl (x.p.prop.cl) (y.p.prop.cl) rfl rfl 3 _ flat_Prop (by omega) agg_Prop guard_Prop (fits_Prop HX.out.ok.prop) (fits_Prop HY.out.ok.prop) true (⟨fun _ => E2.out, fun _ => rfl⟩) ?_))
  | (with_reducible show wpList _ _ _ (Oper.mk (some 19) (Op.load 27 _) _ _ _ _ :: _) _ _; go_must (refine wpList_load_part rfl 27 _ rfl ga 354 22 rfl _ _ _ HKA.out Tryz.underlying27 rfl infoC_Tx (by simp [HLX.out]) _ (x.ex_tx HX.out) ?_))
  | (with_reducible show wpList _ _ _ (Oper.mk (some 21) (Op.load 27 _) _ _ _ _ :: _) _ _; go_must (refine wpList_load_part rfl 27 _ rfl gb 354 22 rfl _ _ _ HKB.out Tryz.underlying27 rfl infoC_Tx (by simp [HLY.out]) _ (y.ex_tx HY.out) ?_))
  | (with_reducible show wpList _ _ _ (Oper.mk (some 22) (Op.binOp BinOp.neq _ _ _ _) _ _ _ _ :: _) _ _; go_must (refine wpList_neq_flat rfl 27 _ _ _ rfl (x.p.tx.cl) (y.p.tx.cl) rfl rfl 3 _ flat_Tx (by omega) agg_Tx guard_Tx (fits_Tx HX.out.ok.tx) (fits_Tx HY.out.ok.tx) true (⟨fun _ => E3.out, fun _ => rfl⟩) ?_))
  | (with_reducible show wpList _ _ _ (Oper.mk (some 26) (Op.load 38 _) _ _ _ _ :: _) _ _; go_must (refine wpList_load_part rfl 38 _ rfl ga 376 106 rfl _ _ _ HKA.out Tryz.underlying38 rfl infoC_Ev (by simp [HLX.out]) _ (x.ex_ev HX.out) ?_))
  | (with_reducible show wpList _ _ _ (Oper.mk (some 28) (Op.load 38 _) _ _ _ _ :: _) _ _; go_must (refine wpList_load_part rfl 38 _ rfl gb 376 106 rfl _ _ _ HKB.out Tryz.underlying38 rfl infoC_Ev (by simp [HLY.out]) _ (y.ex_ev HY.out) ?_))
  | (with_reducible show wpList _ _ _ (Oper.mk (some 29) (Op.binOp BinOp.neq _ _ _ _) _ _ _ _ :: _) _ _; go_must (refine wpList_neq_flat rfl 38 _ _ _ rfl (x.p.ev.cl) (y.p.ev.cl) rfl rfl 4 _ flat_Ev (by omega) agg_Ev guard_Ev (fits_Ev HX.out.ok.ev) (fits_Ev HY.out.ok.ev) true (⟨fun _ => E4.out, fun _ => rfl⟩) ?_)))
 go_ret
 exact ⟨rfl, HB2.out⟩

set_option maxHeartbeats 4000000 in
theorem cmpMg_m (w : World) (x y : Mg) (hx : x.ok) (hy : y.ok) (hax : x.at w) (hay : y.at w) (e1 : x.k = y.k) (e2 : x.p.prop.cl = y.p.prop.cl) (e3 : x.p.tx.cl = y.p.tx.cl) (e4 : x.p.ev.cl = y.p.ev.cl) (e5 : x.p.height = y.p.height) (e6 : x.p.round = y.p.round) :
  Calls Tryz.prog 24 #[.agg x.cl.toArray, .agg y.cl.toArray] w fun e w' => RetB e (x.p.blk.same y.p.blk ∧ x.p.vs = y.p.vs ∧ x.p.crt.same y.p.crt) ∧ Below w.heap.size w w' := by
 have HX := Lib.hid hx
 have HY := Lib.hid hy
 have HLX := Lib.hid (x.cl_len hx)
 have HLY := Lib.hid (y.cl_len hy)
 go_enter Tryz.func24, Tryz.ntmps24
 go_wp2_with (with_reducible show wpList _ _ _ (Oper.mk _ (Op.box _ _) _ _ _ _ :: _) _ _; refine wpList_box_i rfl _ _ rfl _ rfl ?_)
 intro ga w1 hk1 hb1 hg1 hs1
 go_wp2_with (with_reducible show wpList _ _ _ (Oper.mk _ (Op.box _ _) _ _ _ _ :: _) _ _; refine wpList_box_i rfl _ _ rfl _ rfl ?_)
 intro gb w2 hk2 hb2 hg2 hs2
 have HKA := Lib.hid ((bk_eqT (cs' := x.cl.toArray) hk1 rfl).below hb2 hk1.lt)
 have HKB := Lib.hid (bk_eqT (cs' := y.cl.toArray) hk2 rfl)
 have HB2 := Lib.hid (hb1.trans (hb2.mono hb1.size))
 have a0 : w2.cell? ⟨ga, 0, none⟩ = some (.int .i64 x.k) := (HKA.out.cell 0)
 have b0 : w2.cell? ⟨gb, 0, none⟩ = some (.int .i64 y.k) := (HKB.out.cell 0)
 have a482 : w2.cell? ⟨ga, 482, none⟩ = some (.int .u64 x.p.height) := (HKA.out.cell 482).trans (x.at_height HX.out)
 have b482 : w2.cell? ⟨gb, 482, none⟩ = some (.int .u64 y.p.height) := (HKB.out.cell 482).trans (y.at_height HY.out)
 have a483 : w2.cell? ⟨ga, 483, none⟩ = some (.int .i64 x.p.round) := (HKA.out.cell 483).trans (x.at_round HX.out)
 have b483 : w2.cell? ⟨gb, 483, none⟩ = some (.int .i64 y.p.round) := (HKB.out.cell 483).trans (y.at_round HY.out)
 have f1 : (x.k != y.k) = false := by simp [e1]
 have E2 := Lib.hid e2
 have E3 := Lib.hid e3
 have E4 := Lib.hid e4
 have f5 : (x.p.height != y.p.height) = false := by simp [e5]
 have f6 : (x.p.round != y.p.round) = false := by simp [e6]
 have HAX := Lib.hid hax
 have HAY := Lib.hid hay
 clear hk1 hb1 hg1 hs1 hk2 hb2 hg2 hs2 e1 e2 e3 e4 e5 e6 hx hy hax hay
 go_wp2_with (first
  | (with_reducible show wpList _ _ _ (Oper.mk (some 12) (Op.load 33 _) _ _ _ _ :: _) _ _; go_must (refine wpList_load_part rfl 33 _ rfl ga 1 52 rfl _ _ _ HKA.out Tryz.underlying33 rfl infoC_Prop (by simp [HLX.out]) _ (x.ex_prop HX.out) ?_))
  | (with_reducible show wpList _ _ _ (Oper.mk (some 14) (Op.load 33 _) _ _ _ _ :: _) _ _; go_must (refine wpList_load_part rfl 33 _ rfl gb 1 52 rfl _ _ _ HKB.out Tryz.underlying33 rfl infoC_Prop (by simp [HLY.out]) _ (y.ex_prop HY.out) ?_))
  | (with_reducible show wpList _ _ _ (Oper.mk (some 15) (Op.binOp BinOp.neq _ _ _ _) _ _ _ _ :: _) _ _; go_must (refine wpList_neq_flat rfl 33 _ _ _ rfl (x.p.prop.cl) (y.p.prop.cl) rfl rfl 3 _ flat_Prop (by omega) agg_Prop guard_Prop (fits_Prop HX.out.ok.prop) (fits_Prop HY.out.ok.prop) true (⟨fun _ => E2.out, fun _ => rfl⟩) ?_))
  | (with_reducible show wpList _ _ _ (Oper.mk (some 19) (Op.load 27 _) _ _ _ _ :: _) _ _; go_must (refine wpList_load_part rfl 27 _ rfl ga 354 22 rfl _ _ _ HKA.out Tryz.underlying27 rfl infoC_Tx (by simp [HLX.out]) _ (x.ex_tx HX.out) ?_))
  | (with_reducible show wpList _ _ _ (Oper.mk (some 21) (Op.load 27 _) _ _ _ _ :: _) _ _; go_must (refine wpList_load_part rfl 27 _ rfl gb 354 22 rfl _ _ _ HKB.out Tryz.underlying27 rfl infoC_Tx (by simp [HLY.out]) _ (y.ex_tx HY.out) ?_))
  | (with_reducible show wpList _ _ _ (Oper.mk (some 22) (Op.binOp BinOp.neq _ _ _ _) _ _ _ _ :: _) _ _; go_must (refine wpList_neq_flat rfl 27 _ _ _ rfl (x.p.tx.cl) (y.p.tx.cl) rfl rfl 3 _ flat_Tx (by omega) agg_Tx guard_Tx (fits_Tx HX.out.ok.tx) (fits_Tx HY.out.ok.tx) true (⟨fun _ => E3.out, fun _ => rfl⟩) ?_))
  | (with_reducible show wpList _ _ _ (Oper.mk (some 26) (Op.load 38 _) _ _ _ _ :: _) _ _; go_must (refine wpList_load_part rfl 38 _ rfl ga 376 106 rfl _ _ _ HKA.out Tryz.underlying38 rfl infoC_Ev (by simp [HLX.out]) _ (x.ex_ev HX.out) ?_))
  | (with_reducible show wpList _ _ _ (Oper.mk (some 28) (Op.load 38 _) _ _ _ _ :: _) _ _; go_must (refine wpList_load_part rfl 38 _ rfl gb 376 106 rfl _ _ _ HKB.out Tryz.underlying38 rfl infoC_Ev (by simp [HLY.out]) _ (y.ex_ev HY.out) ?_))
  | (with_reducible show wpList _ _ _ (Oper.mk (some 29) (Op.binOp BinOp.neq _ _ _ _) _ _ _ _ :: _) _ _; go_must (refine wpList_neq_flat rfl 38 _ _ _ rfl (x.p.ev.cl) (y.p.ev.cl) rfl rfl 4 _ flat_Ev (by omega) agg_Ev guard_Ev (fits_Ev HX.out.ok.ev) (fits_Ev HY.out.ok.ev) true (⟨fun _ => E4.out, fun _ => rfl⟩) ?_))
  | (with_reducible show wpList _ _ _ (Oper.mk (some 46) (Op.load _ _) _ _ _ _ :: _) _ _; go_must (refine wpList_load_part rfl 44 _ rfl ga 53 265 rfl _ _ _ HKA.out Tryz.underlying44 rfl infoC_Blk (by simp [HLX.out]) _ (x.ex_blk HX.out) ?_))
  | (with_reducible show wpList _ _ _ (Oper.mk (some 48) (Op.load _ _) _ _ _ _ :: _) _ _; go_must (refine wpList_load_part rfl 44 _ rfl gb 53 265 rfl _ _ _ HKB.out Tryz.underlying44 rfl infoC_Blk (by simp [HLY.out]) _ (y.ex_blk HY.out) ?_)))
 clear a0 b0 a482 b482 a483 b483 f1 f5 f6
 refine (cmpBlk w2 x.p.blk y.p.blk HX.out.ok.blk HY.out.ok.blk (Prts.at.below HAX.out HB2.out).b (Prts.at.below HAY.out HB2.out).b).mono ?_
 rintro e w3 ⟨⟨r1, rfl, h1⟩, hb3⟩
 have HR1 := Lib.hid h1
 have HB3 := Lib.hid (HB2.out.trans (hb3.mono HB2.out.size))
 have HKA3 := Lib.hid (HKA.out.below hb3 HKA.out.lt)
 have HKB3 := Lib.hid (HKB.out.below hb3 HKB.out.lt)
 clear h1 hb3 HKA HKB HB2
 have va : w3.cell? ⟨ga, 318, none⟩ = some (.slice x.p.vA x.p.vn x.p.vc) := (HKA3.out.cell 318).trans (x.at_vs HX.out)
 have vb : w3.cell? ⟨gb, 318, none⟩ = some (.slice y.p.vA y.p.vn y.p.vc) := (HKB3.out.cell 318).trans (y.at_vs HY.out)
 cases r1 with
 | false =>
  go_wp2
  go_ret
  exact ⟨RetB.no fun h => (by have := HR1.out.2 h.1; cases this), HB3.out⟩
 | true =>
  go_wp2_with fail
  refine (cmpVotes w3 x.p.vA y.p.vA x.p.vn y.p.vn x.p.vc y.p.vc x.p.vs y.p.vs HX.out.ok.vn HY.out.ok.vn HX.out.ok.vs HY.out.ok.vs (Prts.at.below HAX.out HB3.out).v (Prts.at.below HAY.out HB3.out).v (by have := HX.out.ok.vb; omega)).mono ?_
  rintro e w4 ⟨⟨r2, rfl, h2⟩, hb4⟩
  have HR2 := Lib.hid h2
  have HB4 := Lib.hid (HB3.out.trans (hb4.mono HB3.out.size))
  have HKA4 := Lib.hid (HKA3.out.below hb4 HKA3.out.lt)
  have HKB4 := Lib.hid (HKB3.out.below hb4 HKB3.out.lt)
  clear h2 hb4 HKA3 HKB3 HB3 va vb
  cases r2 with
  | false =>
   go_wp2
   go_ret
   exact ⟨RetB.no fun h => (by have := HR2.out.2 h.2.1; cases this), HB4.out⟩
  | true =>
   go_wp2_with (first
  | (with_reducible show wpList _ _ _ (Oper.mk (some 59) (Op.load _ _) _ _ _ _ :: _) _ _; go_must (refine wpList_load_part rfl 36 _ rfl ga 319 35 rfl _ _ _ HKA4.out Tryz.underlying36 rfl infoC_Crt (by simp [HLX.out]) _ (x.ex_crt HX.out) ?_))
  | (with_reducible show wpList _ _ _ (Oper.mk (some 61) (Op.load _ _) _ _ _ _ :: _) _ _; go_must (refine wpList_load_part rfl 36 _ rfl gb 319 35 rfl _ _ _ HKB4.out Tryz.underlying36 rfl infoC_Crt (by simp [HLY.out]) _ (y.ex_crt HY.out) ?_)))
   refine (cmpCert w4 x.p.crt y.p.crt HX.out.ok.crt HY.out.ok.crt (Prts.at.below HAX.out HB4.out).c (Prts.at.below HAY.out HB4.out).c (by have := HX.out.ok.cb; omega)).mono ?_
   rintro e w5 ⟨⟨r3, rfl, h3⟩, hb5⟩
   have HR3 := Lib.hid h3
   have HB5 := Lib.hid (HB4.out.trans (hb5.mono HB4.out.size))
   clear h3 hb5
   go_wp2
   go_ret
   exact ⟨RetB.of rfl ⟨fun h => ⟨HR1.out.1 (by simp), HR2.out.1 (by simp), HR3.out.1 h⟩, fun h => HR3.out.2 h.2.2⟩, HB5.out⟩

theorem cmpMg (w : World) (x y : Mg) (hx : x.ok) (hy : y.ok) (hax : x.at w) (hay : y.at w) :
  Calls Tryz.prog 24 #[.agg x.cl.toArray, .agg y.cl.toArray] w fun e w' => RetB e (x.k = y.k ∧ x.p.same y.p) ∧ Below w.heap.size w w' := by
 by_cases e1 : x.k = y.k
 case neg => exact (cmpMg_f1 w x y hx hy e1).mono fun e w' ⟨h1, h2⟩ => ⟨by rw [h1]; exact RetB.no fun h => absurd (h.1) e1, h2⟩
 by_cases e2 : x.p.prop.cl = y.p.prop.cl
 case neg => exact (cmpMg_f2 w x y hx hy e1 e2).mono fun e w' ⟨h1, h2⟩ => ⟨by rw [h1]; exact RetB.no fun h => absurd (congrArg Proposal.cl (h.2 0 (by omega))) e2, h2⟩
 by_cases e3 : x.p.tx.cl = y.p.tx.cl
 case neg => exact (cmpMg_f3 w x y hx hy e1 e2 e3).mono fun e w' ⟨h1, h2⟩ => ⟨by rw [h1]; exact RetB.no fun h => absurd (congrArg Tx.cl (h.2 4 (by omega))) e3, h2⟩
 by_cases e4 : x.p.ev.cl = y.p.ev.cl
 case neg => exact (cmpMg_f4 w x y hx hy e1 e2 e3 e4).mono fun e w' ⟨h1, h2⟩ => ⟨by rw [h1]; exact RetB.no fun h => absurd (congrArg Ev.cl (h.2 5 (by omega))) e4, h2⟩
 by_cases e5 : x.p.height = y.p.height
 case neg => exact (cmpMg_f5 w x y hx hy e1 e2 e3 e4 e5).mono fun e w' ⟨h1, h2⟩ => ⟨by rw [h1]; exact RetB.no fun h => absurd (h.2 6 (by omega)) e5, h2⟩
 by_cases e6 : x.p.round = y.p.round
 case neg => exact (cmpMg_f6 w x y hx hy e1 e2 e3 e4 e5 e6).mono fun e w' ⟨h1, h2⟩ => ⟨by rw [h1]; exact RetB.no fun h => absurd (h.2 7 (by omega)) e6, h2⟩
 exact (cmpMg_m w x y hx hy hax hay e1 e2 e3 e4 e5 e6).mono fun e w' ⟨h1, h3⟩ => ⟨h1.iff ⟨fun h => ⟨e1, Prts.mk_same (Proposal.eq_of e2 hx.ok.prop hy.ok.prop) h.1 h.2.1 h.2.2 (Tx.eq_of e3) (Ev.eq_of e4 hx.ok.ev hy.ok.ev) e5 e6 (hx.good.trans hy.good.symm) (hx.step.trans hy.step.symm)⟩, fun h => ⟨h.2 1 (by omega), h.2 2 (by omega), h.2 3 (by omega)⟩⟩, h3⟩

set_option maxHeartbeats 2000000 in
theorem cmpIp_f1 (w : World) (x y : Ip) (hx : x.ok) (hy : y.ok) (d : ¬ x.k = y.k) :
  Calls Tryz.prog 25 #[.agg x.cl.toArray, .agg y.cl.toArray] w fun e w' => e = .returned (.bool false) ∧ Below w.heap.size w w' := by
 have HX := Lib.hid hx
 have HY := Lib.hid hy
 have HLX := Lib.hid (x.cl_len hx)
 have HLY := Lib.hid (y.cl_len hy)
 go_enter Tryz.func25, Tryz.ntmps25
 go_wp2_with (with_reducible show wpList _ _ _ (Oper.mk _ (Op.box _ _) _ _ _ _ :: _) _ _; refine wpList_box_i rfl _ _ rfl _ rfl ?_)
 intro ga w1 hk1 hb1 hg1 hs1
 go_wp2_with (with_reducible show wpList _ _ _ (Oper.mk _ (Op.box _ _) _ _ _ _ :: _) _ _; refine wpList_box_i rfl _ _ rfl _ rfl ?_)
 intro gb w2 hk2 hb2 hg2 hs2
 have HKA := Lib.hid ((bk_eqT (cs' := x.cl.toArray) hk1 rfl).below hb2 hk1.lt)
 have HKB := Lib.hid (bk_eqT (cs' := y.cl.toArray) hk2 rfl)
 have HB2 := Lib.hid (hb1.trans (hb2.mono hb1.size))
 have a0 : w2.cell? ⟨ga, 0, none⟩ = some (.int .i64 x.k) := (HKA.out.cell 0)
 have b0 : w2.cell? ⟨gb, 0, none⟩ = some (.int .i64 y.k) := (HKB.out.cell 0)
 have f1 : (x.k != y.k) = true := by simpa using d
 clear hk1 hb1 hg1 hs1 hk2 hb2 hg2 hs2  d hx hy
 go_wp2_with fail
 go_ret
 exact ⟨rfl, HB2.out⟩

set_option maxHeartbeats 2000000 in
theorem cmpIp_f2 (w : World) (x y : Ip) (hx : x.ok) (hy : y.ok) (e1 : x.k = y.k) (d : ¬ x.now = y.now) :
  Calls Tryz.prog 25 #[.agg x.cl.toArray, .agg y.cl.toArray] w fun e w' => e = .returned (.bool false) ∧ Below w.heap.size w w' := by
 have HX := Lib.hid hx
 have HY := Lib.hid hy
 have HLX := Lib.hid (x.cl_len hx)
 have HLY := Lib.hid (y.cl_len hy)
 go_enter Tryz.func25, Tryz.ntmps25
 go_wp2_with (with_reducible show wpList _ _ _ (Oper.mk _ (Op.box _ _) _ _ _ _ :: _) _ _; refine wpList_box_i rfl _ _ rfl _ rfl ?_)
 intro ga w1 hk1 hb1 hg1 hs1
 go_wp2_with (with_reducible show wpList _ _ _ (Oper.mk _ (Op.box _ _) _ _ _ _ :: _) _ _; refine wpList_box_i rfl _ _ rfl _ rfl ?_)
 intro gb w2 hk2 hb2 hg2 hs2
 have HKA := Lib.hid ((bk_eqT (cs' := x.cl.toArray) hk1 rfl).below hb2 hk1.lt)
 have HKB := Lib.hid (bk_eqT (cs' := y.cl.toArray) hk2 rfl)
 have HB2 := Lib.hid (hb1.trans (hb2.mono hb1.size))
 have a0 : w2.cell? ⟨ga, 0, none⟩ = some (.int .i64 x.k) := (HKA.out.cell 0)
 have b0 : w2.cell? ⟨gb, 0, none⟩ = some (.int .i64 y.k) := (HKB.out.cell 0)
 have a1 : w2.cell? ⟨ga, 1, none⟩ = some (.int .u64 x.now) := (HKA.out.cell 1)
 have b1 : w2.cell? ⟨gb, 1, none⟩ = some (.int .u64 y.now) := (HKB.out.cell 1)
 have f1 : (x.k != y.k) = false := by simp [e1]
 have f2 : (x.now != y.now) = true := by simpa using d
 clear hk1 hb1 hg1 hs1 hk2 hb2 hg2 hs2 e1 d hx hy
 go_wp2_with fail
 go_ret
 exact ⟨rfl, HB2.out⟩

set_option maxHeartbeats 2000000 in
theorem cmpIp_f3 (w : World) (x y : Ip) (hx : x.ok) (hy : y.ok) (e1 : x.k = y.k) (e2 : x.now = y.now) (d : ¬ x.p.prop.cl = y.p.prop.cl) :
  Calls Tryz.prog 25 #[.agg x.cl.toArray, .agg y.cl.toArray] w fun e w' => e = .returned (.bool false) ∧ Below w.heap.size w w' := by
 have HX := Lib.hid hx
 have HY := Lib.hid hy
 have HLX := Lib.hid (x.cl_len hx)
 have HLY := Lib.hid (y.cl_len hy)
 go_enter Tryz.func25, Tryz.ntmps25
 go_wp2_with (with_reducible show wpList _ _ _ (Oper.mk _ (Op.box _ _) _ _ _ _ :: _) _ _; refine wpList_box_i rfl _ _ rfl _ rfl ?_)
 intro ga w1 hk1 hb1 hg1 hs1
 go_wp2_with (with_reducible show wpList _ _ _ (Oper.mk _ (Op.box _ _) _ _ _ _ :: _) _ _; refine wpList_box_i rfl _ _ rfl _ rfl ?_)
 intro gb w2 hk2 hb2 hg2 hs2
 have HKA := Lib.hid ((bk_eqT (cs' := x.cl.toArray) hk1 rfl).below hb2 hk1.lt)
 have HKB := Lib.hid (bk_eqT (cs' := y.cl.toArray) hk2 rfl)
 have HB2 := Lib.hid (hb1.trans (hb2.mono hb1.size))
 have a0 : w2.cell? ⟨ga, 0, none⟩ = some (.int .i64 x.k) := (HKA.out.cell 0)
 have b0 : w2.cell? ⟨gb, 0, none⟩ = some (.int .i64 y.k) := (HKB.out.cell 0)
 have a1 : w2.cell? ⟨ga, 1, none⟩ = some (.int .u64 x.now) := (HKA.out.cell 1)
 have b1 : w2.cell? ⟨gb, 1, none⟩ = some (.int .u64 y.now) := (HKB.out.cell 1)
 have f1 : (x.k != y.k) = false := by simp [e1]
 have f2 : (x.now != y.now) = false := by simp [e2]
 have E3 := Lib.hid d
 clear hk1 hb1 hg1 hs1 hk2 hb2 hg2 hs2 e1 e2 d hx hy
 go_wp2_with (first
  | (with_reducible show wpList _ _ _ (Oper.mk (some 19) (Op.load 33 _) _ _ _ _ :: _) _ _; go_must (refine wpList_load_part rfl 33 _ rfl ga 2 52 rfl _ _ _ HKA.out Tryz.underlying33 rfl infoC_Prop (by simp [HLX.out]) _ (x.ex_prop HX.out) ?_))
  | (with_reducible show wpList _ _ _ (Oper.mk (some 21) (Op.load 33 _) _ _ _ _ :: _) _ _; go_must (refine wpList_load_part rfl 33 _ rfl gb 2 52 rfl _ _ _ HKB.out Tryz.underlying33 rfl infoC_Prop (by simp [HLY.out]) _ (y.ex_prop HY.out) ?_))
  | (with_reducible show wpList _ _ _ (Oper.mk (some 22) (Op.binOp BinOp.neq _ _ _ _) _ _ _ _ :: _) _ _; go_must (refine wpList_neq_flat rfl 33 _ _ _ rfl (x.p.prop.cl) (y.p.prop.cl) rfl rfl 3 _ flat_Prop (by omega) agg_Prop guard_Prop (fits_Prop HX.out.ok.prop) (fits_Prop HY.out.ok.prop) false (⟨fun h => (by cases h), fun h => absurd h E3.out⟩) ?_)))
 go_ret
 exact ⟨rfl, HB2.out⟩

set_option maxHeartbeats 2000000 in
theorem cmpIp_f4 (w : World) (x y : Ip) (hx : x.ok) (hy : y.ok) (e1 : x.k = y.k) (e2 : x.now = y.now) (e3 : x.p.prop.cl = y.p.prop.cl) (d : ¬ x.p.good = y.p.good) :
  Calls Tryz.prog 25 #[.agg x.cl.toArray, .agg y.cl.toArray] w fun e w' => e = .returned (.bool false) ∧ Below w.heap.size w w' := by
 have HX := Lib.hid hx
 have HY := Lib.hid hy
 have HLX := Lib.hid (x.cl_len hx)
 have HLY := Lib.hid (y.cl_len hy)
 go_enter Tryz.func25, Tryz.ntmps25
 go_wp2_with (with_reducible show wpList _ _ _ (Oper.mk _ (Op.box _ _) _ _ _ _ :: _) _ _; refine wpList_box_i rfl _ _ rfl _ rfl ?_)
 intro ga w1 hk1 hb1 hg1 hs1
 go_wp2_with (with_reducible show wpList _ _ _ (Oper.mk _ (Op.box _ _) _ _ _ _ :: _) _ _; refine wpList_box_i rfl _ _ rfl _ rfl ?_)
 intro gb w2 hk2 hb2 hg2 hs2
 have HKA := Lib.hid ((bk_eqT (cs' := x.cl.toArray) hk1 rfl).below hb2 hk1.lt)
 have HKB := Lib.hid (bk_eqT (cs' := y.cl.toArray) hk2 rfl)
 have HB2 := Lib.hid (hb1.trans (hb2.mono hb1.size))
 have a0 : w2.cell? ⟨ga, 0, none⟩ = some (.int .i64 x.k) := (HKA.out.cell 0)
 have b0 : w2.cell? ⟨gb, 0, none⟩ = some (.int .i64 y.k) := (HKB.out.cell 0)
 have a1 : w2.cell? ⟨ga, 1, none⟩ = some (.int .u64 x.now) := (HKA.out.cell 1)
 have b1 : w2.cell? ⟨gb, 1, none⟩ = some (.int .u64 y.now) := (HKB.out.cell 1)
 have a320 : w2.cell? ⟨ga, 320, none⟩ = some (.bool x.p.good) := (HKA.out.cell 320).trans (x.at_good HX.out)
 have b320 : w2.cell? ⟨gb, 320, none⟩ = some (.bool y.p.good) := (HKB.out.cell 320).trans (y.at_good HY.out)
 have f1 : (x.k != y.k) = false := by simp [e1]
 have f2 : (x.now != y.now) = false := by simp [e2]
 have E3 := Lib.hid e3
 have f4 : ¬ x.p.good = y.p.good := d
 have g4 : (x.p.good == y.p.good) = false := by simpa using d
 have k4 : ((!x.p.good) == y.p.good) = true := by cases h1 : x.p.good <;> cases h2 : y.p.good <;> simp_all
 clear hk1 hb1 hg1 hs1 hk2 hb2 hg2 hs2 e1 e2 e3 d hx hy
 go_wp2_with (first
  | (with_reducible show wpList _ _ _ (Oper.mk (some 19) (Op.load 33 _) _ _ _ _ :: _) _ _; go_must (refine wpList_load_part rfl 33 _ rfl ga 2 52 rfl _ _ _ HKA.out Tryz.underlying33 rfl infoC_Prop (by simp [HLX.out]) _ (x.ex_prop HX.out) ?_))
  | (with_reducible show wpList _ _ _ (Oper.mk (some 21) (Op.load 33 _) _ _ _ _ :: _) _ _; go_must (refine wpList_load_part rfl 33 _ rfl gb 2 52 rfl _ _ _ HKB.out Tryz.underlying33 rfl infoC_Prop (by simp [HLY.out]) _ (y.ex_prop HY.out) ?_))
  | (with_reducible show wpList _ _ _ (Oper.mk (some 22) (Op.binOp BinOp.neq _ _ _ _) _ _ _ _ :: _) _ _; go_must (refine wpList_neq_flat rfl 33 _ _ _ rfl (x.p.prop.cl) (y.p.prop.cl) rfl rfl 3 _ flat_Prop (by omega) agg_Prop guard_Prop (fits_Prop HX.out.ok.prop) (fits_Prop HY.out.ok.prop) true (⟨fun _ => E3.out, fun _ => rfl⟩) ?_)))
 go_ret
 exact ⟨rfl, HB2.out⟩

set_option maxHeartbeats 2000000 in
theorem cmpIp_f5 (w : World) (x y : Ip) (hx : x.ok) (hy : y.ok) (e1 : x.k = y.k) (e2 : x.now = y.now) (e3 : x.p.prop.cl = y.p.prop.cl) (e4 : x.p.good = y.p.good) (d : ¬ x.p.step = y.p.step) :
  Calls Tryz.prog 25 #[.agg x.cl.toArray, .agg y.cl.toArray] w fun e w' => e = .returned (.bool false) ∧ Below w.heap.size w w' := by
 have HX := Lib.hid hx
 have HY := Lib.hid hy
 have HLX := Lib.hid (x.cl_len hx)
 have HLY := Lib.hid (y.cl_len hy)
 go_enter Tryz.func25, Tryz.ntmps25
 go_wp2_with (with_reducible show wpList _ _ _ (Oper.mk _ (Op.box _ _) _ _ _ _ :: _) _ _; refine wpList_box_i rfl _ _ rfl _ rfl ?_)
 intro ga w1 hk1 hb1 hg1 hs1
 go_wp2_with (with_reducible show wpList _ _ _ (Oper.mk _ (Op.box _ _) _ _ _ _ :: _) _ _; refine wpList_box_i rfl _ _ rfl _ rfl ?_)
 intro gb w2 hk2 hb2 hg2 hs2
 have HKA := Lib.hid ((bk_eqT (cs' := x.cl.toArray) hk1 rfl).below hb2 hk1.lt)
 have HKB := Lib.hid (bk_eqT (cs' := y.cl.toArray) hk2 rfl)
 have HB2 := Lib.hid (hb1.trans (hb2.mono hb1.size))
 have a0 : w2.cell? ⟨ga, 0, none⟩ = some (.int .i64 x.k) := (HKA.out.cell 0)
 have b0 : w2.cell? ⟨gb, 0, none⟩ = some (.int .i64 y.k) := (HKB.out.cell 0)
 have a1 : w2.cell? ⟨ga, 1, none⟩ = some (.int .u64 x.now) := (HKA.out.cell 1)
 have b1 : w2.cell? ⟨gb, 1, none⟩ = some (.int .u64 y.now) := (HKB.out.cell 1)
 have a320 : w2.cell? ⟨ga, 320, none⟩ = some (.bool x.p.good) := (HKA.out.cell 320).trans (x.at_good HX.out)
 have b320 : w2.cell? ⟨gb, 320, none⟩ = some (.bool y.p.good) := (HKB.out.cell 320).trans (y.at_good HY.out)
 have a321 : w2.cell? ⟨ga, 321, none⟩ = some (.int .i64 x.p.step) := (HKA.out.cell 321).trans (x.at_step HX.out)
 have b321 : w2.cell? ⟨gb, 321, none⟩ = some (.int .i64 y.p.step) := (HKB.out.cell 321).trans (y.at_step HY.out)
 have f1 : (x.k != y.k) = false := by simp [e1]
 have f2 : (x.now != y.now) = false := by simp [e2]
 have E3 := Lib.hid e3
 have f4 : x.p.good = y.p.good := e4
 have g4 : (x.p.good == y.p.good) = true := by simp [e4]
 have f5 : (x.p.step != y.p.step) = true := by simpa using d
 clear hk1 hb1 hg1 hs1 hk2 hb2 hg2 hs2 e1 e2 e3 e4 d hx hy
 go_wp2_with (first
  | (with_reducible show wpList _ _ _ (Oper.mk (some 19) (Op.load 33 _) _ _ _ _ :: _) _ _; go_must (refine wpList_load_part rfl 33 _ rfl ga 2 52 rfl _ _ _ HKA.out Tryz.underlying33 rfl infoC_Prop (by simp [HLX.out]) _ (x.ex_prop HX.out) ?_))
  | (with_reducible show wpList _ _ _ (Oper.mk (some 21) (Op.load 33 _) _ _ _ _ :: _) _ _; go_must (refine wpList_load_part rfl 33 _ rfl gb 2 52 rfl _ _ _ HKB.out Tryz.underlying33 rfl infoC_Prop (by simp [HLY.out]) _ (y.ex_prop HY.out) ?_))
  | (with_reducible show wpList _ _ _ (Oper.mk (some 22) (Op.binOp BinOp.neq _ _ _ _) _ _ _ _ :: _) _ _; go_must (refine wpList_neq_flat rfl 33 _ _ _ rfl (x.p.prop.cl) (y.p.prop.cl) rfl rfl 3 _ flat_Prop (by omega) agg_Prop guard_Prop (fits_Prop HX.out.ok.prop) (fits_Prop HY.out.ok.prop) true (⟨fun _ => E3.out, fun _ => rfl⟩) ?_)))
 go_ret
 exact ⟨rfl, HB2.out⟩

set_option maxHeartbeats 2000000 in
theorem cmpIp_f6 (w : World) (x y : Ip) (hx : x.ok) (hy : y.ok) (e1 : x.k = y.k) (e2 : x.now = y.now) (e3 : x.p.prop.cl = y.p.prop.cl) (e4 : x.p.good = y.p.good) (e5 : x.p.step = y.p.step) (d : ¬ x.p.round = y.p.round) :
  Calls Tryz.prog 25 #[.agg x.cl.toArray, .agg y.cl.toArray] w fun e w' => e = .returned (.bool false) ∧ Below w.heap.size w w' := by
 have HX := Lib.hid hx
 have HY := Lib.hid hy
 have HLX := Lib.hid (x.cl_len hx)
 have HLY := Lib.hid (y.cl_len hy)
 go_enter Tryz.func25, Tryz.ntmps25
 go_wp2_with (with_reducible show wpList _ _ _ (Oper.mk _ (Op.box _ _) _ _ _ _ :: _) _ _; refine wpList_box_i rfl _ _ rfl _ rfl ?_)
 intro ga w1 hk1 hb1 hg1 hs1
 go_wp2_with (with_reducible show wpList _ _ _ (Oper.mk _ (Op.box _ _) _ _ _ _ :: _) _ _; refine wpList_box_i rfl _ _ rfl _ rfl ?_)
 intro gb w2 hk2 hb2 hg2 hs2
 have HKA := Lib.hid ((bk_eqT (cs' := x.cl.toArray) hk1 rfl).below hb2 hk1.lt)
 have HKB := Lib.hid (bk_eqT (cs' := y.cl.toArray) hk2 rfl)
 have HB2 := Lib.hid (hb1.trans (hb2.mono hb1.size))
 have a0 : w2.cell? ⟨ga, 0, none⟩ = some (.int .i64 x.k) := (HKA.out.cell 0)
 have b0 : w2.cell? ⟨gb, 0, none⟩ = some (.int .i64 y.k) := (HKB.out.cell 0)
 have a1 : w2.cell? ⟨ga, 1, none⟩ = some (.int .u64 x.now) := (HKA.out.cell 1)
 have b1 : w2.cell? ⟨gb, 1, none⟩ = some (.int .u64 y.now) := (HKB.out.cell 1)
 have a320 : w2.cell? ⟨ga, 320, none⟩ = some (.bool x.p.good) := (HKA.out.cell 320).trans (x.at_good HX.out)
 have b320 : w2.cell? ⟨gb, 320, none⟩ = some (.bool y.p.good) := (HKB.out.cell 320).trans (y.at_good HY.out)
 have a321 : w2.cell? ⟨ga, 321, none⟩ = some (.int .i64 x.p.step) := (HKA.out.cell 321).trans (x.at_step HX.out)
 have b321 : w2.cell? ⟨gb, 321, none⟩ = some (.int .i64 y.p.step) := (HKB.out.cell 321).trans (y.at_step HY.out)
 have a322 : w2.cell? ⟨ga, 322, none⟩ = some (.int .i64 x.p.round) := (HKA.out.cell 322).trans (x.at_round HX.out)
 have b322 : w2.cell? ⟨gb, 322, none⟩ = some (.int .i64 y.p.round) := (HKB.out.cell 322).trans (y.at_round HY.out)
 have f1 : (x.k != y.k) = false := by simp [e1]
 have f2 : (x.now != y.now) = false := by simp [e2]
 have E3 := Lib.hid e3
 have f4 : x.p.good = y.p.good := e4
 have g4 : (x.p.good == y.p.good) = true := by simp [e4]
 have f5 : (x.p.step != y.p.step) = false := by simp [e5]
 have f6 : (x.p.round != y.p.round) = true := by simpa using d
 clear hk1 hb1 hg1 hs1 hk2 hb2 hg2 hs2 e1 e2 e3 e4 e5 d hx hy
 go_wp2_with (first
  | (with_reducible show wpList _ _ _ (Oper.mk (some 19) (Op.load 33 _) _ _ _ _ :: _) _ _; go_must (refine wpList_load_part rfl 33 _ rfl ga 2 52 rfl _ _ _ HKA.out Tryz.underlying33 rfl infoC_Prop (by simp [HLX.out]) _ (x.ex_prop HX.out) ?_))
  | (with_reducible show wpList _ _ _ (Oper.mk (some 21) (Op.load 33 _) _ _ _ _ :: _) _ _; go_must (refine wpList_load_part rfl 33 _ rfl gb 2 52 rfl _ _ _ HKB.out Tryz.underlying33 rfl infoC_Prop (by simp [HLY.out]) _ (y.ex_prop HY.out) ?_))
  | (with_reducible show wpList _ _ _ (Oper.mk (some 22) (Op.binOp BinOp.neq _ _ _ _) _ _ _ _ :: _) _ _; go_must (refine wpList_neq_flat rfl 33 _ _ _ rfl (x.p.prop.cl) (y.p.prop.cl) rfl rfl 3 _ flat_Prop (by omega) agg_Prop guard_Prop (fits_Prop HX.out.ok.prop) (fits_Prop HY.out.ok.prop) true (⟨fun _ => E3.out, fun _ => rfl⟩) ?_)))
 go_ret
 exact ⟨rfl, HB2.out⟩

set_option maxHeartbeats 4000000 in
theorem cmpIp_m (w : World) (x y : Ip) (hx : x.ok) (hy : y.ok) (hax : x.at w) (hay : y.at w) (e1 : x.k = y.k) (e2 : x.now = y.now) (e3 : x.p.prop.cl = y.p.prop.cl) (e4 : x.p.good = y.p.good) (e5 : x.p.step = y.p.step) (e6 : x.p.round = y.p.round) :
  Calls Tryz.prog 25 #[.agg x.cl.toArray, .agg y.cl.toArray] w fun e w' => RetB e (x.p.blk.same y.p.blk ∧ x.p.vs = y.p.vs) ∧ Below w.heap.size w w' := by
 have HX := Lib.hid hx
 have HY := Lib.hid hy
 have HLX := Lib.hid (x.cl_len hx)
 have HLY := Lib.hid (y.cl_len hy)
 go_enter Tryz.func25, Tryz.ntmps25
 go_wp2_with (with_reducible show wpList _ _ _ (Oper.mk _ (Op.box _ _) _ _ _ _ :: _) _ _; refine wpList_box_i rfl _ _ rfl _ rfl ?_)
 intro ga w1 hk1 hb1 hg1 hs1
 go_wp2_with (with_reducible show wpList _ _ _ (Oper.mk _ (Op.box _ _) _ _ _ _ :: _) _ _; refine wpList_box_i rfl _ _ rfl _ rfl ?_)
 intro gb w2 hk2 hb2 hg2 hs2
 have HKA := Lib.hid ((bk_eqT (cs' := x.cl.toArray) hk1 rfl).below hb2 hk1.lt)
 have HKB := Lib.hid (bk_eqT (cs' := y.cl.toArray) hk2 rfl)
 have HB2 := Lib.hid (hb1.trans (hb2.mono hb1.size))
 have a0 : w2.cell? ⟨ga, 0, none⟩ = some (.int .i64 x.k) := (HKA.out.cell 0)
 have b0 : w2.cell? ⟨gb, 0, none⟩ = some (.int .i64 y.k) := (HKB.out.cell 0)
 have a1 : w2.cell? ⟨ga, 1, none⟩ = some (.int .u64 x.now) := (HKA.out.cell 1)
 have b1 : w2.cell? ⟨gb, 1, none⟩ = some (.int .u64 y.now) := (HKB.out.cell 1)
 have a320 : w2.cell? ⟨ga, 320, none⟩ = some (.bool x.p.good) := (HKA.out.cell 320).trans (x.at_good HX.out)
 have b320 : w2.cell? ⟨gb, 320, none⟩ = some (.bool y.p.good) := (HKB.out.cell 320).trans (y.at_good HY.out)
 have a321 : w2.cell? ⟨ga, 321, none⟩ = some (.int .i64 x.p.step) := (HKA.out.cell 321).trans (x.at_step HX.out)
 have b321 : w2.cell? ⟨gb, 321, none⟩ = some (.int .i64 y.p.step) := (HKB.out.cell 321).trans (y.at_step HY.out)
 have a322 : w2.cell? ⟨ga, 322, none⟩ = some (.int .i64 x.p.round) := (HKA.out.cell 322).trans (x.at_round HX.out)
 have b322 : w2.cell? ⟨gb, 322, none⟩ = some (.int .i64 y.p.round) := (HKB.out.cell 322).trans (y.at_round HY.out)
 have f1 : (x.k != y.k) = false := by simp [e1]
 have f2 : (x.now != y.now) = false := by simp [e2]
 have E3 := Lib.hid e3
 have f4 : x.p.good = y.p.good := e4
 have g4 : (x.p.good == y.p.good) = true := by simp [e4]
 have f5 : (x.p.step != y.p.step) = false := by simp [e5]
 have f6 : (x.p.round != y.p.round) = false := by simp [e6]
 have HAX := Lib.hid hax
 have HAY := Lib.hid hay
 clear hk1 hb1 hg1 hs1 hk2 hb2 hg2 hs2 e1 e2 e3 e4 e5 e6 hx hy hax hay
 go_wp2_with (first
  | (with_reducible show wpList _ _ _ (Oper.mk (some 19) (Op.load 33 _) _ _ _ _ :: _) _ _; go_must (refine wpList_load_part rfl 33 _ rfl ga 2 52 rfl _ _ _ HKA.out Tryz.underlying33 rfl infoC_Prop (by simp [HLX.out]) _ (x.ex_prop HX.out) ?_))
  | (with_reducible show wpList _ _ _ (Oper.mk (some 21) (Op.load 33 _) _ _ _ _ :: _) _ _; go_must (refine wpList_load_part rfl 33 _ rfl gb 2 52 rfl _ _ _ HKB.out Tryz.underlying33 rfl infoC_Prop (by simp [HLY.out]) _ (y.ex_prop HY.out) ?_))
  | (with_reducible show wpList _ _ _ (Oper.mk (some 22) (Op.binOp BinOp.neq _ _ _ _) _ _ _ _ :: _) _ _; go_must (refine wpList_neq_flat rfl 33 _ _ _ rfl (x.p.prop.cl) (y.p.prop.cl) rfl rfl 3 _ flat_Prop (by omega) agg_Prop guard_Prop (fits_Prop HX.out.ok.prop) (fits_Prop HY.out.ok.prop) true (⟨fun _ => E3.out, fun _ => rfl⟩) ?_))
  | (with_reducible show wpList _ _ _ (Oper.mk (some 46) (Op.load _ _) _ _ _ _ :: _) _ _; go_must (refine wpList_load_part rfl 44 _ rfl ga 54 265 rfl _ _ _ HKA.out Tryz.underlying44 rfl infoC_Blk (by simp [HLX.out]) _ (x.ex_blk HX.out) ?_))
  | (with_reducible show wpList _ _ _ (Oper.mk (some 48) (Op.load _ _) _ _ _ _ :: _) _ _; go_must (refine wpList_load_part rfl 44 _ rfl gb 54 265 rfl _ _ _ HKB.out Tryz.underlying44 rfl infoC_Blk (by simp [HLY.out]) _ (y.ex_blk HY.out) ?_)))
 clear a0 b0 a1 b1 a320 b320 a321 b321 a322 b322 f1 f2 f4 g4 f5 f6
 refine (cmpBlk w2 x.p.blk y.p.blk HX.out.ok.blk HY.out.ok.blk (Prts.at.below HAX.out HB2.out).b (Prts.at.below HAY.out HB2.out).b).mono ?_
 rintro e w3 ⟨⟨r1, rfl, h1⟩, hb3⟩
 have HR1 := Lib.hid h1
 have HB3 := Lib.hid (HB2.out.trans (hb3.mono HB2.out.size))
 have HKA3 := Lib.hid (HKA.out.below hb3 HKA.out.lt)
 have HKB3 := Lib.hid (HKB.out.below hb3 HKB.out.lt)
 clear h1 hb3 HKA HKB HB2
 have va : w3.cell? ⟨ga, 319, none⟩ = some (.slice x.p.vA x.p.vn x.p.vc) := (HKA3.out.cell 319).trans (x.at_vs HX.out)
 have vb : w3.cell? ⟨gb, 319, none⟩ = some (.slice y.p.vA y.p.vn y.p.vc) := (HKB3.out.cell 319).trans (y.at_vs HY.out)
 cases r1 with
 | false =>
  go_wp2
  go_ret
  exact ⟨RetB.no fun h => (by have := HR1.out.2 h.1; cases this), HB3.out⟩
 | true =>
  go_wp2_with fail
  refine (cmpVotes w3 x.p.vA y.p.vA x.p.vn y.p.vn x.p.vc y.p.vc x.p.vs y.p.vs HX.out.ok.vn HY.out.ok.vn HX.out.ok.vs HY.out.ok.vs (Prts.at.below HAX.out HB3.out).v (Prts.at.below HAY.out HB3.out).v (by have := HX.out.ok.vb; omega)).mono ?_
  rintro e w4 ⟨⟨r2, rfl, h2⟩, hb4⟩
  have HR2 := Lib.hid h2
  have HB4 := Lib.hid (HB3.out.trans (hb4.mono HB3.out.size))
  have HKA4 := Lib.hid (HKA3.out.below hb4 HKA3.out.lt)
  have HKB4 := Lib.hid (HKB3.out.below hb4 HKB3.out.lt)
  clear h2 hb4 HKA3 HKB3 HB3 va vb
  go_wp2
  go_ret
  exact ⟨RetB.of rfl ⟨fun h => ⟨HR1.out.1 (by simp), HR2.out.1 h⟩, fun h => HR2.out.2 h.2⟩, HB4.out⟩

theorem cmpIp (w : World) (x y : Ip) (hx : x.ok) (hy : y.ok) (hax : x.at w) (hay : y.at w) :
  Calls Tryz.prog 25 #[.agg x.cl.toArray, .agg y.cl.toArray] w fun e w' => RetB e (x.k = y.k ∧ x.now = y.now ∧ x.p.same y.p) ∧ Below w.heap.size w w' := by
 by_cases e1 : x.k = y.k
 case neg => exact (cmpIp_f1 w x y hx hy e1).mono fun e w' ⟨h1, h2⟩ => ⟨by rw [h1]; exact RetB.no fun h => absurd (h.1) e1, h2⟩
 by_cases e2 : x.now = y.now
 case neg => exact (cmpIp_f2 w x y hx hy e1 e2).mono fun e w' ⟨h1, h2⟩ => ⟨by rw [h1]; exact RetB.no fun h => absurd (h.2.1) e2, h2⟩
 by_cases e3 : x.p.prop.cl = y.p.prop.cl
 case neg => exact (cmpIp_f3 w x y hx hy e1 e2 e3).mono fun e w' ⟨h1, h2⟩ => ⟨by rw [h1]; exact RetB.no fun h => absurd (congrArg Proposal.cl (h.2.2 0 (by omega))) e3, h2⟩
 by_cases e4 : x.p.good = y.p.good
 case neg => exact (cmpIp_f4 w x y hx hy e1 e2 e3 e4).mono fun e w' ⟨h1, h2⟩ => ⟨by rw [h1]; exact RetB.no fun h => absurd (h.2.2 8 (by omega)) e4, h2⟩
 by_cases e5 : x.p.step = y.p.step
 case neg => exact (cmpIp_f5 w x y hx hy e1 e2 e3 e4 e5).mono fun e w' ⟨h1, h2⟩ => ⟨by rw [h1]; exact RetB.no fun h => absurd (h.2.2 9 (by omega)) e5, h2⟩
 by_cases e6 : x.p.round = y.p.round
 case neg => exact (cmpIp_f6 w x y hx hy e1 e2 e3 e4 e5 e6).mono fun e w' ⟨h1, h2⟩ => ⟨by rw [h1]; exact RetB.no fun h => absurd (h.2.2 7 (by omega)) e6, h2⟩
 exact (cmpIp_m w x y hx hy hax hay e1 e2 e3 e4 e5 e6).mono fun e w' ⟨h1, h3⟩ => ⟨h1.iff ⟨fun h => ⟨e1, e2, Prts.mk_same (Proposal.eq_of e3 hx.ok.prop hy.ok.prop) h.1 h.2 (by rw [hx.crt, hy.crt]; exact ⟨rfl, rfl, rfl, rfl⟩) (hx.tx.trans hy.tx.symm) (hx.ev.trans hy.ev.symm) (hx.height.trans hy.height.symm) e6 e4 e5⟩, fun h => ⟨h.2.2 1 (by omega), h.2.2 2 (by omega)⟩⟩, h3⟩
end Go.Proofs.YtlhnhjglcbggmaaGreatRR

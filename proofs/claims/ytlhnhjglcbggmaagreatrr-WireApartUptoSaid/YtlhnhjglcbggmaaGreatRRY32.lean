/-
  The law's comparisons: blocks. Conditions: each number fits its kind; the lists lie in the world.
  An argument of the claim opened: a slice of bytes. No condition.
  A header and a certificate among the arguments opened. No condition.
-/
import Derived.Test.YtlhnhjglcbggmaaGreatRRY31
import Derived.ProofKit
import Derived.OpenShut
import Derived.SizedLaws
import Derived.Test.YtlhnhjglcbggmaaGreatRRY12
import Derived.Test.YtlhnhjglcbggmaaGreatRRY08
import Derived.FnData
import Derived.Test.YtlhnhjglcbggmaaGreatRRY05
import Derived.Test.YtlhnhjglcbggmaaGreatRRRows
namespace Go.Proofs.YtlhnhjglcbggmaaGreatRR
set_option linter.unusedSimpArgs false
set_option linter.unusedVariables false
open Go.RowKit
set_option maxRecDepth 100000
theorem infoC_Crt : (Tryz.prog.info? 36).map (·.size) = some 35 := by kernel_rfl
theorem Blk.ex_hd (x : Blk) (h : x.ok) : x.cl.toArray.extract 0 (0 + 228) = x.hd.cl.toArray := seg_ex (A := []) (C := [.slice x.tA x.tn x.tc, .slice x.eA x.en x.ec] ++ x.ct.cl) (by simp [Blk.cl]) rfl (x.hd.cl_len h.hd)

set_option maxHeartbeats 2000000 in
theorem cmpBlk_f1 (w : World) (x y : Blk) (hx : x.ok) (hy : y.ok) (d : ¬ x.hd.cl = y.hd.cl) :
  Calls Tryz.prog 23 #[.agg x.cl.toArray, .agg y.cl.toArray] w fun e w' => e = .returned (.bool false) ∧ Below w.heap.size w w' := by
 have HX := Lib.hid hx
 have HY := Lib.hid hy
 have HLX := Lib.hid (x.len hx)
 have HLY := Lib.hid (y.len hy)
 go_enter Tryz.func23, Tryz.ntmps23
 go_wp2_with (with_reducible show wpList _ _ _ (Oper.mk _ (Op.box _ _) _ _ _ _ :: _) _ _; refine wpList_box_i rfl _ _ rfl _ rfl ?_)
 intro ga w1 hk1 hb1 hg1 hs1
 go_wp2_with (with_reducible show wpList _ _ _ (Oper.mk _ (Op.box _ _) _ _ _ _ :: _) _ _; refine wpList_box_i rfl _ _ rfl _ rfl ?_)
 intro gb w2 hk2 hb2 hg2 hs2
 have HKA := Lib.hid ((bk_eqT (cs' := x.cl.toArray) hk1 rfl).below hb2 hk1.lt)
 have HKB := Lib.hid (bk_eqT (cs' := y.cl.toArray) hk2 rfl)
 have HB2 := Lib.hid (hb1.trans (hb2.mono hb1.size))
 have E1 := Lib.hid d
 clear hk1 hb1 hg1 hs1 hk2 hb2 hg2 hs2  d hx hy
 go_wp2_with (first
  | (with_reducible show wpList _ _ _ (Oper.mk (some 8) (Op.load 40 _) _ _ _ _ :: _) _ _; go_must (refine wpList_load_part rfl 40 _ rfl ga 0 228 rfl _ _ _ HKA.out Tryz.underlying40 rfl infoC_Hdr (by simp [HLX.out]) _ (x.ex_hd HX.out) ?_))
  | (with_reducible show wpList _ _ _ (Oper.mk (some 10) (Op.load 40 _) _ _ _ _ :: _) _ _; go_must (refine wpList_load_part rfl 40 _ rfl gb 0 228 rfl _ _ _ HKB.out Tryz.underlying40 rfl infoC_Hdr (by simp [HLY.out]) _ (y.ex_hd HY.out) ?_))
  | (with_reducible show wpList _ _ _ (Oper.mk (some 11) (Op.binOp BinOp.neq _ _ _ _) _ _ _ _ :: _) _ _; go_must (refine wpList_neq_flat rfl 40 _ _ _ rfl (x.hd.cl) (y.hd.cl) rfl rfl 3 _ flat_Hdr (by omega) agg_Hdr guard_Hdr (fits_Hdr HX.out.hd) (fits_Hdr HY.out.hd) false (⟨fun h => (by cases h), fun h => absurd h E1.out⟩) ?_)))
 go_ret
 exact ⟨rfl, HB2.out⟩

set_option maxHeartbeats 2000000 in
theorem cmpBlk_f2 (w : World) (x y : Blk) (hx : x.ok) (hy : y.ok) (e1 : x.hd.cl = y.hd.cl) (d : ¬ x.tn = y.tn) :
  Calls Tryz.prog 23 #[.agg x.cl.toArray, .agg y.cl.toArray] w fun e w' => e = .returned (.bool false) ∧ Below w.heap.size w w' := by
 have HX := Lib.hid hx
 have HY := Lib.hid hy
 have HLX := Lib.hid (x.len hx)
 have HLY := Lib.hid (y.len hy)
 go_enter Tryz.func23, Tryz.ntmps23
 go_wp2_with (with_reducible show wpList _ _ _ (Oper.mk _ (Op.box _ _) _ _ _ _ :: _) _ _; refine wpList_box_i rfl _ _ rfl _ rfl ?_)
 intro ga w1 hk1 hb1 hg1 hs1
 go_wp2_with (with_reducible show wpList _ _ _ (Oper.mk _ (Op.box _ _) _ _ _ _ :: _) _ _; refine wpList_box_i rfl _ _ rfl _ rfl ?_)
 intro gb w2 hk2 hb2 hg2 hs2
 have HKA := Lib.hid ((bk_eqT (cs' := x.cl.toArray) hk1 rfl).below hb2 hk1.lt)
 have HKB := Lib.hid (bk_eqT (cs' := y.cl.toArray) hk2 rfl)
 have HB2 := Lib.hid (hb1.trans (hb2.mono hb1.size))
 have a228 : w2.cell? ⟨ga, 228, none⟩ = some (.slice x.tA x.tn x.tc) := (HKA.out.cell 228).trans ((show x.cl.toArray[228]? = some (.slice x.tA x.tn x.tc) from bl_at1 (x.hd.cl_len HX.out.hd)))
 have b228 : w2.cell? ⟨gb, 228, none⟩ = some (.slice y.tA y.tn y.tc) := (HKB.out.cell 228).trans ((show y.cl.toArray[228]? = some (.slice y.tA y.tn y.tc) from bl_at1 (y.hd.cl_len HY.out.hd)))
 have E1 := Lib.hid e1
 have f2 : ((x.tn : Int) != (y.tn : Int)) = true := by simp; omega
 have g2 : (x.tn != y.tn) = true := by simpa using d
 clear hk1 hb1 hg1 hs1 hk2 hb2 hg2 hs2 e1 d hx hy
 go_wp2_with (first
  | (with_reducible show wpList _ _ _ (Oper.mk (some 8) (Op.load 40 _) _ _ _ _ :: _) _ _; go_must (refine wpList_load_part rfl 40 _ rfl ga 0 228 rfl _ _ _ HKA.out Tryz.underlying40 rfl infoC_Hdr (by simp [HLX.out]) _ (x.ex_hd HX.out) ?_))
  | (with_reducible show wpList _ _ _ (Oper.mk (some 10) (Op.load 40 _) _ _ _ _ :: _) _ _; go_must (refine wpList_load_part rfl 40 _ rfl gb 0 228 rfl _ _ _ HKB.out Tryz.underlying40 rfl infoC_Hdr (by simp [HLY.out]) _ (y.ex_hd HY.out) ?_))
  | (with_reducible show wpList _ _ _ (Oper.mk (some 11) (Op.binOp BinOp.neq _ _ _ _) _ _ _ _ :: _) _ _; go_must (refine wpList_neq_flat rfl 40 _ _ _ rfl (x.hd.cl) (y.hd.cl) rfl rfl 3 _ flat_Hdr (by omega) agg_Hdr guard_Hdr (fits_Hdr HX.out.hd) (fits_Hdr HY.out.hd) true (⟨fun _ => E1.out, fun _ => rfl⟩) ?_)))
 go_ret
 exact ⟨rfl, HB2.out⟩

set_option maxHeartbeats 2000000 in
theorem cmpBlk_f3 (w : World) (x y : Blk) (hx : x.ok) (hy : y.ok) (e1 : x.hd.cl = y.hd.cl) (e2 : x.tn = y.tn) (d : ¬ x.en = y.en) :
  Calls Tryz.prog 23 #[.agg x.cl.toArray, .agg y.cl.toArray] w fun e w' => e = .returned (.bool false) ∧ Below w.heap.size w w' := by
 have HX := Lib.hid hx
 have HY := Lib.hid hy
 have HLX := Lib.hid (x.len hx)
 have HLY := Lib.hid (y.len hy)
 go_enter Tryz.func23, Tryz.ntmps23
 go_wp2_with (with_reducible show wpList _ _ _ (Oper.mk _ (Op.box _ _) _ _ _ _ :: _) _ _; refine wpList_box_i rfl _ _ rfl _ rfl ?_)
 intro ga w1 hk1 hb1 hg1 hs1
 go_wp2_with (with_reducible show wpList _ _ _ (Oper.mk _ (Op.box _ _) _ _ _ _ :: _) _ _; refine wpList_box_i rfl _ _ rfl _ rfl ?_)
 intro gb w2 hk2 hb2 hg2 hs2
 have HKA := Lib.hid ((bk_eqT (cs' := x.cl.toArray) hk1 rfl).below hb2 hk1.lt)
 have HKB := Lib.hid (bk_eqT (cs' := y.cl.toArray) hk2 rfl)
 have HB2 := Lib.hid (hb1.trans (hb2.mono hb1.size))
 have a228 : w2.cell? ⟨ga, 228, none⟩ = some (.slice x.tA x.tn x.tc) := (HKA.out.cell 228).trans ((show x.cl.toArray[228]? = some (.slice x.tA x.tn x.tc) from bl_at1 (x.hd.cl_len HX.out.hd)))
 have b228 : w2.cell? ⟨gb, 228, none⟩ = some (.slice y.tA y.tn y.tc) := (HKB.out.cell 228).trans ((show y.cl.toArray[228]? = some (.slice y.tA y.tn y.tc) from bl_at1 (y.hd.cl_len HY.out.hd)))
 have a229 : w2.cell? ⟨ga, 229, none⟩ = some (.slice x.eA x.en x.ec) := (HKA.out.cell 229).trans ((show x.cl.toArray[229]? = some (.slice x.eA x.en x.ec) from bl_at2 (x.hd.cl_len HX.out.hd)))
 have b229 : w2.cell? ⟨gb, 229, none⟩ = some (.slice y.eA y.en y.ec) := (HKB.out.cell 229).trans ((show y.cl.toArray[229]? = some (.slice y.eA y.en y.ec) from bl_at2 (y.hd.cl_len HY.out.hd)))
 have E1 := Lib.hid e1
 have f2 : ((x.tn : Int) != (y.tn : Int)) = false := by simp [e2]
 have g2 : (x.tn != y.tn) = false := by simp [e2]
 have f3 : ((x.en : Int) != (y.en : Int)) = true := by simp; omega
 have g3 : (x.en != y.en) = true := by simpa using d
 clear hk1 hb1 hg1 hs1 hk2 hb2 hg2 hs2 e1 e2 d hx hy
 go_wp2_with (first
  | (with_reducible show wpList _ _ _ (Oper.mk (some 8) (Op.load 40 _) _ _ _ _ :: _) _ _; go_must (refine wpList_load_part rfl 40 _ rfl ga 0 228 rfl _ _ _ HKA.out Tryz.underlying40 rfl infoC_Hdr (by simp [HLX.out]) _ (x.ex_hd HX.out) ?_))
  | (with_reducible show wpList _ _ _ (Oper.mk (some 10) (Op.load 40 _) _ _ _ _ :: _) _ _; go_must (refine wpList_load_part rfl 40 _ rfl gb 0 228 rfl _ _ _ HKB.out Tryz.underlying40 rfl infoC_Hdr (by simp [HLY.out]) _ (y.ex_hd HY.out) ?_))
  | (with_reducible show wpList _ _ _ (Oper.mk (some 11) (Op.binOp BinOp.neq _ _ _ _) _ _ _ _ :: _) _ _; go_must (refine wpList_neq_flat rfl 40 _ _ _ rfl (x.hd.cl) (y.hd.cl) rfl rfl 3 _ flat_Hdr (by omega) agg_Hdr guard_Hdr (fits_Hdr HX.out.hd) (fits_Hdr HY.out.hd) true (⟨fun _ => E1.out, fun _ => rfl⟩) ?_)))
 go_ret
 exact ⟨rfl, HB2.out⟩

set_option maxHeartbeats 4000000 in
theorem cmpBlk_m (w : World) (x y : Blk) (hx : x.ok) (hy : y.ok) (hax : x.at w) (hay : y.at w) (e1 : x.hd.cl = y.hd.cl) (e2 : x.tn = y.tn) (e3 : x.en = y.en) :
  Calls Tryz.prog 23 #[.agg x.cl.toArray, .agg y.cl.toArray] w fun e w' => RetB e (x.ts = y.ts ∧ x.es = y.es ∧ x.ct.same y.ct) ∧ Below w.heap.size w w' := by
 have HX := Lib.hid hx
 have HY := Lib.hid hy
 have HLX := Lib.hid (x.len hx)
 have HLY := Lib.hid (y.len hy)
 go_enter Tryz.func23, Tryz.ntmps23
 go_wp2_with (with_reducible show wpList _ _ _ (Oper.mk _ (Op.box _ _) _ _ _ _ :: _) _ _; refine wpList_box_i rfl _ _ rfl _ rfl ?_)
 intro ga w1 hk1 hb1 hg1 hs1
 go_wp2_with (with_reducible show wpList _ _ _ (Oper.mk _ (Op.box _ _) _ _ _ _ :: _) _ _; refine wpList_box_i rfl _ _ rfl _ rfl ?_)
 intro gb w2 hk2 hb2 hg2 hs2
 have HKA := Lib.hid ((bk_eqT (cs' := x.cl.toArray) hk1 rfl).below hb2 hk1.lt)
 have HKB := Lib.hid (bk_eqT (cs' := y.cl.toArray) hk2 rfl)
 have HB2 := Lib.hid (hb1.trans (hb2.mono hb1.size))
 have a228 : w2.cell? ⟨ga, 228, none⟩ = some (.slice x.tA x.tn x.tc) := (HKA.out.cell 228).trans ((show x.cl.toArray[228]? = some (.slice x.tA x.tn x.tc) from bl_at1 (x.hd.cl_len HX.out.hd)))
 have b228 : w2.cell? ⟨gb, 228, none⟩ = some (.slice y.tA y.tn y.tc) := (HKB.out.cell 228).trans ((show y.cl.toArray[228]? = some (.slice y.tA y.tn y.tc) from bl_at1 (y.hd.cl_len HY.out.hd)))
 have a229 : w2.cell? ⟨ga, 229, none⟩ = some (.slice x.eA x.en x.ec) := (HKA.out.cell 229).trans ((show x.cl.toArray[229]? = some (.slice x.eA x.en x.ec) from bl_at2 (x.hd.cl_len HX.out.hd)))
 have b229 : w2.cell? ⟨gb, 229, none⟩ = some (.slice y.eA y.en y.ec) := (HKB.out.cell 229).trans ((show y.cl.toArray[229]? = some (.slice y.eA y.en y.ec) from bl_at2 (y.hd.cl_len HY.out.hd)))
 have E1 := Lib.hid e1
 have f2 : ((x.tn : Int) != (y.tn : Int)) = false := by simp [e2]
 have g2 : (x.tn != y.tn) = false := by simp [e2]
 have f3 : ((x.en : Int) != (y.en : Int)) = false := by simp [e3]
 have g3 : (x.en != y.en) = false := by simp [e3]
 have HAX := Lib.hid hax
 have HAY := Lib.hid hay
 obtain ⟨A0, hA⟩ : ∃ A, x.tA = A := ⟨_, rfl⟩
 obtain ⟨n0, hn⟩ : ∃ n, x.tn = n := ⟨_, rfl⟩
 obtain ⟨c0, hc⟩ : ∃ c, x.tc = c := ⟨_, rfl⟩
 obtain ⟨l0, hl⟩ : ∃ l, x.ts = l := ⟨_, rfl⟩
 obtain ⟨B0, hB⟩ : ∃ A, y.tA = A := ⟨_, rfl⟩
 obtain ⟨d0, hd⟩ : ∃ c, y.tc = c := ⟨_, rfl⟩
 obtain ⟨m0, hm⟩ : ∃ l, y.ts = l := ⟨_, rfl⟩
 have XA0 := Lib.hid (show x.cl.toArray[228]? = some (.slice A0 n0 c0) by rw [(show x.cl.toArray[228]? = some (.slice x.tA x.tn x.tc) from bl_at1 (x.hd.cl_len HX.out.hd)), hA, hn, hc])
 have YA0 := Lib.hid (show y.cl.toArray[228]? = some (.slice B0 n0 d0) by rw [(show y.cl.toArray[228]? = some (.slice y.tA y.tn y.tc) from bl_at1 (y.hd.cl_len HY.out.hd)), hB, ← e2, hn, hd])
 have XN0 := Lib.hid (show n0 = l0.length by rw [← hn, ← hl]; exact HX.out.tn)
 have YN0 := Lib.hid (show n0 = m0.length by rw [← hn, ← hm, e2]; exact HY.out.tn)
 have XO0 := Lib.hid (show ∀ e ∈ l0, e.ok by rw [← hl]; exact HX.out.ts)
 have YO0 := Lib.hid (show ∀ e ∈ m0, e.ok by rw [← hm]; exact HY.out.ts)
 have XR0 := Lib.hid (show Rd w A0 (l0.flatMap Tx.cl) by rw [← hA, ← hl]; exact HAX.out.t)
 have YR0 := Lib.hid (show Rd w B0 (m0.flatMap Tx.cl) by rw [← hB, ← hm]; exact HAY.out.t)
 have XL0 := Lib.hid (show ∀ e ∈ l0, e.cl.length = 22 from fun e he => e.cl_len (XO0.out e he))
 have YL0 := Lib.hid (show ∀ e ∈ m0, e.cl.length = 22 from fun e he => e.cl_len (YO0.out e he))
 have XE0 := Lib.hid hl
 have YE0 := Lib.hid hm
 have XB0 := Lib.hid (show n0 ≤ 5000000000000 by rw [← hn]; have := HX.out.tb; omega)
 clear hA hc hl hB hd hm hn
 obtain ⟨A1, hA⟩ : ∃ A, x.eA = A := ⟨_, rfl⟩
 obtain ⟨n1, hn⟩ : ∃ n, x.en = n := ⟨_, rfl⟩
 obtain ⟨c1, hc⟩ : ∃ c, x.ec = c := ⟨_, rfl⟩
 obtain ⟨l1, hl⟩ : ∃ l, x.es = l := ⟨_, rfl⟩
 obtain ⟨B1, hB⟩ : ∃ A, y.eA = A := ⟨_, rfl⟩
 obtain ⟨d1, hd⟩ : ∃ c, y.ec = c := ⟨_, rfl⟩
 obtain ⟨m1, hm⟩ : ∃ l, y.es = l := ⟨_, rfl⟩
 have XA1 := Lib.hid (show x.cl.toArray[229]? = some (.slice A1 n1 c1) by rw [(show x.cl.toArray[229]? = some (.slice x.eA x.en x.ec) from bl_at2 (x.hd.cl_len HX.out.hd)), hA, hn, hc])
 have YA1 := Lib.hid (show y.cl.toArray[229]? = some (.slice B1 n1 d1) by rw [(show y.cl.toArray[229]? = some (.slice y.eA y.en y.ec) from bl_at2 (y.hd.cl_len HY.out.hd)), hB, ← e3, hn, hd])
 have XN1 := Lib.hid (show n1 = l1.length by rw [← hn, ← hl]; exact HX.out.en)
 have YN1 := Lib.hid (show n1 = m1.length by rw [← hn, ← hm, e3]; exact HY.out.en)
 have XO1 := Lib.hid (show ∀ e ∈ l1, e.ok by rw [← hl]; exact HX.out.es)
 have YO1 := Lib.hid (show ∀ e ∈ m1, e.ok by rw [← hm]; exact HY.out.es)
 have XR1 := Lib.hid (show Rd w A1 (l1.flatMap Ev.cl) by rw [← hA, ← hl]; exact HAX.out.e)
 have YR1 := Lib.hid (show Rd w B1 (m1.flatMap Ev.cl) by rw [← hB, ← hm]; exact HAY.out.e)
 have XL1 := Lib.hid (show ∀ e ∈ l1, e.cl.length = 106 from fun e he => e.cl_len (XO1.out e he))
 have YL1 := Lib.hid (show ∀ e ∈ m1, e.cl.length = 106 from fun e he => e.cl_len (YO1.out e he))
 have XE1 := Lib.hid hl
 have YE1 := Lib.hid hm
 have XB1 := Lib.hid (show n1 ≤ 5000000000000 by rw [← hn]; have := HX.out.eb; omega)
 clear hA hc hl hB hd hm hn
 clear hk1 hb1 hg1 hs1 hk2 hb2 hg2 hs2 e1 e2 e3 hx hy hax hay
 go_wp2_with (first
  | (with_reducible show wpList _ _ _ (Oper.mk (some 8) (Op.load 40 _) _ _ _ _ :: _) _ _; go_must (refine wpList_load_part rfl 40 _ rfl ga 0 228 rfl _ _ _ HKA.out Tryz.underlying40 rfl infoC_Hdr (by simp [HLX.out]) _ (x.ex_hd HX.out) ?_))
  | (with_reducible show wpList _ _ _ (Oper.mk (some 10) (Op.load 40 _) _ _ _ _ :: _) _ _; go_must (refine wpList_load_part rfl 40 _ rfl gb 0 228 rfl _ _ _ HKB.out Tryz.underlying40 rfl infoC_Hdr (by simp [HLY.out]) _ (y.ex_hd HY.out) ?_))
  | (with_reducible show wpList _ _ _ (Oper.mk (some 11) (Op.binOp BinOp.neq _ _ _ _) _ _ _ _ :: _) _ _; go_must (refine wpList_neq_flat rfl 40 _ _ _ rfl (x.hd.cl) (y.hd.cl) rfl rfl 3 _ flat_Hdr (by omega) agg_Hdr guard_Hdr (fits_Hdr HX.out.hd) (fits_Hdr HY.out.hd) true (⟨fun _ => E1.out, fun _ => rfl⟩) ?_)))
 clear a228 b228 a229 b229 f2 g2 f3 g3
 go_loopw [5] (fun i wr => ∃ k : Nat, k ≤ n0 ∧ i = .int .i64 (k : Int) ∧ Bk wr ga x.cl.toArray 44 ∧ Bk wr gb y.cl.toArray 44 ∧ Below w.heap.size w wr ∧ EqTo l0 m0 k) (fun i _ => n0 - (intOf i).toNat)
 case atStart => exact ⟨0, by omega, rfl, HKA.out, HKB.out, HB2.out, EqTo.zero _ _⟩
 case round =>
  clear HKA HKB HB2
  obtain ⟨k, hk, rfl, h4, h5, h6, h7⟩ := hrel
  have HKA := Lib.hid h4
  have HKB := Lib.hid h5
  have HW := Lib.hid h6
  have HEQ := Lib.hid h7
  have ca : wr.cell? ⟨ga, 228, none⟩ = some (.slice A0 n0 c0) := (h4.cell 228).trans XA0.out
  clear h4 h5 h6 h7
  by_cases hlt : k < n0
  ·have hkl : k < l0.length := by rw [← XN0.out]; exact hlt
   have hkm : k < m0.length := by rw [← YN0.out]; exact hlt
   obtain ⟨aa, hA, hcA⟩ := rd_elem (by omega) XL0.out (XR0.out.below HW.out) hkl
   obtain ⟨ab, hB, hcB⟩ := rd_elem (by omega) YL0.out (YR0.out.below HW.out) hkm
   obtain ⟨u, hu⟩ : ∃ u, l0[k] = u := ⟨_, rfl⟩
   obtain ⟨v, hv⟩ : ∃ v, m0[k] = v := ⟨_, rfl⟩
   have HUO := Lib.hid (XO0.out u (by rw [← hu]; exact List.getElem_mem hkl))
   have HVO := Lib.hid (YO0.out v (by rw [← hv]; exact List.getElem_mem hkm))
   have HST := Lib.hid (fun (he : u = v) => HEQ.out.step hkl hkm (by rw [hu, hv, he]))
   have HNE := Lib.hid (fun (he : u ≠ v) => ne_at hkl hkm (by rw [hu, hv]; exact he))
   rw [hu] at hcA
   rw [hv] at hcB
   have HCA := Lib.hid hcA
   have HCB := Lib.hid hcB
   subst hA hB
   have HKAD := Lib.hid (show Bk wr.drew ga x.cl.toArray 44 from HKA.out.drew)
   have HKBD := Lib.hid (show Bk wr.drew gb y.cl.toArray 44 from HKB.out.drew)
   clear hcA hcB hu hv
   have hi : (k : Int) < n0 := by omega
   have p1 : IntKind.i64.wrap ((k : Int) + 1) = (k : Int) + 1 := by rw [IntKind.wrap_i64]; have := XB0.out; omega
   go_wp2_with fail
   refine wp_region_free [(37, []), (38, [(0, 37)]), (39, []), (40, [(1, 38), (2, 39)]), (41, [(3, 40)]), (42, []), (43, [(5, 42)]), (44, []), (45, [(6, 43), (7, 44)]), (46, [(8, 45)])]
    [Is (.pointer (some ⟨ga, 228, none⟩)), Is (.slice (some aa) n0 c0), Is (.int .i64 (k : Int)), Is (.pointer (some (aa.add (k * 22)))), Is (.agg u.cl.toArray), Is (.pointer (some ⟨gb, 228, none⟩)), Is (.slice (some ab) n0 d0), Is (.int .i64 (k : Int)), Is (.pointer (some (ab.add (k * 22)))), Is (.agg v.cl.toArray)]
    (by kernel_rfl) (by kernel_rfl) (by rfl) ?st ?steps ?fin
   case st => exact ⟨Is.steady _, Is.steady _, Is.steady _, Is.steady _, Is.steady _, Is.steady _, Is.steady _, Is.steady _, Is.steady _, Is.steady _, trivial⟩
   case steps =>
    refine fcA (fun w4 hw4 => ?_) ?_
    ·refine foA rfl rfl ?_; (try simp only [Act.put, zA, zB, zC]); (go_wp2_with fail); exact qsA rfl rfl
    refine fcA (fun w4 hw4 => fiA rfl ?_) ?_
    ·have c : w4.cell? ⟨ga, 228, none⟩ = some (.slice (some aa) n0 c0) := ((HKAD.out.below hw4 HKAD.out.lt).cell 228).trans XA0.out
     refine foA rfl rfl ?_; (try simp only [Act.put, zA, zB, zC]); (go_wp2_with fail); exact qsA rfl rfl
    refine fcA (fun w4 hw4 => ?_) ?_
    ·refine foA rfl rfl ?_; (try simp only [Act.put, zA, zB, zC]); (go_wp2_with fail); exact qsA rfl rfl
    refine fcA (fun w4 hw4 => fiA rfl (fiA rfl ?_)) ?_
    ·refine foA rfl rfl ?_; (try simp only [Act.put, zA, zB, zC]); (go_wp2_with fail); exact qsA rfl rfl
    refine fcA (fun w4 hw4 => fiA rfl ?_) ?_
    ·exact FreeStep.load_at 27 _ rfl rfl rfl rfl (by rfl) rfl rfl (aa.add (k * 22)) 22 rfl u.cl (fun j z hz => cell_keepB (w0 := wr) (HCA.out j z hz) hw4) _ Tryz.underlying27 rfl infoC_Tx (u.cl_len HUO.out) rfl
    refine fcA (fun w4 hw4 => ?_) ?_
    ·refine foA rfl rfl ?_; (try simp only [Act.put, zA, zB, zC]); (go_wp2_with fail); exact qsA rfl rfl
    refine fcA (fun w4 hw4 => fiA rfl ?_) ?_
    ·have c : w4.cell? ⟨gb, 228, none⟩ = some (.slice (some ab) n0 d0) := ((HKBD.out.below hw4 HKBD.out.lt).cell 228).trans YA0.out
     refine foA rfl rfl ?_; (try simp only [Act.put, zA, zB, zC]); (go_wp2_with fail); exact qsA rfl rfl
    refine fcA (fun w4 hw4 => ?_) ?_
    ·refine foA rfl rfl ?_; (try simp only [Act.put, zA, zB, zC]); (go_wp2_with fail); exact qsA rfl rfl
    refine fcA (fun w4 hw4 => fiA rfl (fiA rfl ?_)) ?_
    ·refine foA rfl rfl ?_; (try simp only [Act.put, zA, zB, zC]); (go_wp2_with fail); exact qsA rfl rfl
    refine fcA (fun w4 hw4 => fiA rfl ?_) ?_
    ·exact FreeStep.load_at 27 _ rfl rfl rfl rfl (by rfl) rfl rfl (ab.add (k * 22)) 22 rfl v.cl (fun j z hz => cell_keepB (w0 := wr) (HCB.out j z hz) hw4) _ Tryz.underlying27 rfl infoC_Tx (v.cl_len HVO.out) rfl
    exact FreeSteps.nil
   case fin =>
    intro w4 hw4
    iterate 10 refine FreeEnd.is rfl ?_
    refine FreeEnd.nil ?_
    (try simp only [Act.put, zA, zB, zC])
    simp only [List.length_cons, List.length_nil, Nat.reduceAdd, List.drop_succ_cons, List.drop_zero]
    have HW4 := Lib.hid (show Below wr.heap.size wr w4 from (Below.refl _ _).drew.trans hw4)
    clear hw4
    obtain ⟨q, hq⟩ := same_bool (u.cl = v.cl)
    have HQ := Lib.hid hq
    clear hq
    go_wp2_with (with_reducible show wpList _ _ _ (Oper.mk _ (Op.binOp BinOp.neq _ _ _ _) _ _ _ _ :: _) _ _; go_must (refine wpList_neq_flat rfl 27 _ _ _ rfl u.cl v.cl rfl rfl 3 _ flat_Tx (by omega) agg_Tx guard_Tx (fits_Tx HUO.out) (fits_Tx HVO.out) q HQ.out ?_); cases q)
    ·go_wp2
     go_ret
     exact ⟨RetB.no fun h => absurd (h.1) (by rw [XE0.out, YE0.out]; exact HNE.out (fun he => by have := HQ.out.2 (by rw [he]); cases this)), HW.out.trans (HW4.out.mono HW.out.size)⟩
    ·go_wp2
     go_round
     case rel => exact ⟨k + 1, by omega, by go_num, HKA.out.below HW4.out HKA.out.lt, HKB.out.below HW4.out HKB.out.lt, HW.out.trans (HW4.out.mono HW.out.size), HST.out (Tx.eq_of (HQ.out.1 rfl))⟩
     case measure => simp [intOf]; omega
  ·have hkn : k = n0 := by omega
   subst hkn
   have HALL0 := Lib.hid (show x.ts = y.ts by rw [XE0.out, YE0.out]; exact HEQ.out.all XN0.out YN0.out)
   have hi : ¬ (k : Int) < (k : Int) := by omega
   go_wp2_with fail
   go_loopw [6] (fun i wr => ∃ k : Nat, k ≤ n1 ∧ i = .int .i64 (k : Int) ∧ Bk wr ga x.cl.toArray 44 ∧ Bk wr gb y.cl.toArray 44 ∧ Below w.heap.size w wr ∧ EqTo l1 m1 k) (fun i _ => n1 - (intOf i).toNat)
   case atStart => exact ⟨0, by omega, rfl, HKA.out, HKB.out, HW.out, EqTo.zero _ _⟩
   case round =>
    clear HKA HKB HW
    obtain ⟨k, hk, rfl, h4, h5, h6, h7⟩ := hrel
    have HKA := Lib.hid h4
    have HKB := Lib.hid h5
    have HW := Lib.hid h6
    have HEQ := Lib.hid h7
    have ca : wr.cell? ⟨ga, 229, none⟩ = some (.slice A1 n1 c1) := (h4.cell 229).trans XA1.out
    clear h4 h5 h6 h7
    by_cases hlt : k < n1
    ·have hkl : k < l1.length := by rw [← XN1.out]; exact hlt
     have hkm : k < m1.length := by rw [← YN1.out]; exact hlt
     obtain ⟨aa, hA, hcA⟩ := rd_elem (by omega) XL1.out (XR1.out.below HW.out) hkl
     obtain ⟨ab, hB, hcB⟩ := rd_elem (by omega) YL1.out (YR1.out.below HW.out) hkm
     obtain ⟨u, hu⟩ : ∃ u, l1[k] = u := ⟨_, rfl⟩
     obtain ⟨v, hv⟩ : ∃ v, m1[k] = v := ⟨_, rfl⟩
     have HUO := Lib.hid (XO1.out u (by rw [← hu]; exact List.getElem_mem hkl))
     have HVO := Lib.hid (YO1.out v (by rw [← hv]; exact List.getElem_mem hkm))
     have HST := Lib.hid (fun (he : u = v) => HEQ.out.step hkl hkm (by rw [hu, hv, he]))
     have HNE := Lib.hid (fun (he : u ≠ v) => ne_at hkl hkm (by rw [hu, hv]; exact he))
     rw [hu] at hcA
     rw [hv] at hcB
     have HCA := Lib.hid hcA
     have HCB := Lib.hid hcB
     subst hA hB
     have HKAD := Lib.hid (show Bk wr.drew ga x.cl.toArray 44 from HKA.out.drew)
     have HKBD := Lib.hid (show Bk wr.drew gb y.cl.toArray 44 from HKB.out.drew)
     clear hcA hcB hu hv
     have hi : (k : Int) < n1 := by omega
     have p1 : IntKind.i64.wrap ((k : Int) + 1) = (k : Int) + 1 := by rw [IntKind.wrap_i64]; have := XB1.out; omega
     go_wp2_with fail
     refine wp_region_free [(55, []), (56, [(0, 55)]), (57, []), (58, [(1, 56), (2, 57)]), (59, [(3, 58)]), (60, []), (61, [(5, 60)]), (62, []), (63, [(6, 61), (7, 62)]), (64, [(8, 63)])]
      [Is (.pointer (some ⟨ga, 229, none⟩)), Is (.slice (some aa) n1 c1), Is (.int .i64 (k : Int)), Is (.pointer (some (aa.add (k * 106)))), Is (.agg u.cl.toArray), Is (.pointer (some ⟨gb, 229, none⟩)), Is (.slice (some ab) n1 d1), Is (.int .i64 (k : Int)), Is (.pointer (some (ab.add (k * 106)))), Is (.agg v.cl.toArray)]
      (by kernel_rfl) (by kernel_rfl) (by rfl) ?st ?steps ?fin
     case st => exact ⟨Is.steady _, Is.steady _, Is.steady _, Is.steady _, Is.steady _, Is.steady _, Is.steady _, Is.steady _, Is.steady _, Is.steady _, trivial⟩
     case steps =>
      refine fcA (fun w4 hw4 => ?_) ?_
      ·refine foA rfl rfl ?_; (try simp only [Act.put, zA, zB, zC]); (go_wp2_with fail); exact qsA rfl rfl
      refine fcA (fun w4 hw4 => fiA rfl ?_) ?_
      ·have c : w4.cell? ⟨ga, 229, none⟩ = some (.slice (some aa) n1 c1) := ((HKAD.out.below hw4 HKAD.out.lt).cell 229).trans XA1.out
       refine foA rfl rfl ?_; (try simp only [Act.put, zA, zB, zC]); (go_wp2_with fail); exact qsA rfl rfl
      refine fcA (fun w4 hw4 => ?_) ?_
      ·refine foA rfl rfl ?_; (try simp only [Act.put, zA, zB, zC]); (go_wp2_with fail); exact qsA rfl rfl
      refine fcA (fun w4 hw4 => fiA rfl (fiA rfl ?_)) ?_
      ·refine foA rfl rfl ?_; (try simp only [Act.put, zA, zB, zC]); (go_wp2_with fail); exact qsA rfl rfl
      refine fcA (fun w4 hw4 => fiA rfl ?_) ?_
      ·exact FreeStep.load_at 38 _ rfl rfl rfl rfl (by rfl) rfl rfl (aa.add (k * 106)) 106 rfl u.cl (fun j z hz => cell_keepB (w0 := wr) (HCA.out j z hz) hw4) _ Tryz.underlying38 rfl infoC_Ev (u.cl_len HUO.out) rfl
      refine fcA (fun w4 hw4 => ?_) ?_
      ·refine foA rfl rfl ?_; (try simp only [Act.put, zA, zB, zC]); (go_wp2_with fail); exact qsA rfl rfl
      refine fcA (fun w4 hw4 => fiA rfl ?_) ?_
      ·have c : w4.cell? ⟨gb, 229, none⟩ = some (.slice (some ab) n1 d1) := ((HKBD.out.below hw4 HKBD.out.lt).cell 229).trans YA1.out
       refine foA rfl rfl ?_; (try simp only [Act.put, zA, zB, zC]); (go_wp2_with fail); exact qsA rfl rfl
      refine fcA (fun w4 hw4 => ?_) ?_
      ·refine foA rfl rfl ?_; (try simp only [Act.put, zA, zB, zC]); (go_wp2_with fail); exact qsA rfl rfl
      refine fcA (fun w4 hw4 => fiA rfl (fiA rfl ?_)) ?_
      ·refine foA rfl rfl ?_; (try simp only [Act.put, zA, zB, zC]); (go_wp2_with fail); exact qsA rfl rfl
      refine fcA (fun w4 hw4 => fiA rfl ?_) ?_
      ·exact FreeStep.load_at 38 _ rfl rfl rfl rfl (by rfl) rfl rfl (ab.add (k * 106)) 106 rfl v.cl (fun j z hz => cell_keepB (w0 := wr) (HCB.out j z hz) hw4) _ Tryz.underlying38 rfl infoC_Ev (v.cl_len HVO.out) rfl
      exact FreeSteps.nil
     case fin =>
      intro w4 hw4
      iterate 10 refine FreeEnd.is rfl ?_
      refine FreeEnd.nil ?_
      (try simp only [Act.put, zA, zB, zC])
      simp only [List.length_cons, List.length_nil, Nat.reduceAdd, List.drop_succ_cons, List.drop_zero]
      have HW4 := Lib.hid (show Below wr.heap.size wr w4 from (Below.refl _ _).drew.trans hw4)
      clear hw4
      obtain ⟨q, hq⟩ := same_bool (u.cl = v.cl)
      have HQ := Lib.hid hq
      clear hq
      go_wp2_with (with_reducible show wpList _ _ _ (Oper.mk _ (Op.binOp BinOp.neq _ _ _ _) _ _ _ _ :: _) _ _; go_must (refine wpList_neq_flat rfl 38 _ _ _ rfl u.cl v.cl rfl rfl 4 _ flat_Ev (by omega) agg_Ev guard_Ev (fits_Ev HUO.out) (fits_Ev HVO.out) q HQ.out ?_); cases q)
      ·go_wp2
       go_ret
       exact ⟨RetB.no fun h => absurd (h.2.1) (by rw [XE1.out, YE1.out]; exact HNE.out (fun he => by have := HQ.out.2 (by rw [he]); cases this)), HW.out.trans (HW4.out.mono HW.out.size)⟩
      ·go_wp2
       go_round
       case rel => exact ⟨k + 1, by omega, by go_num, HKA.out.below HW4.out HKA.out.lt, HKB.out.below HW4.out HKB.out.lt, HW.out.trans (HW4.out.mono HW.out.size), HST.out (Ev.eq_of (HQ.out.1 rfl) HUO.out HVO.out)⟩
       case measure => simp [intOf]; omega
    ·have hkn : k = n1 := by omega
     subst hkn
     have HALL1 := Lib.hid (show x.es = y.es by rw [XE1.out, YE1.out]; exact HEQ.out.all XN1.out YN1.out)
     have hi : ¬ (k : Int) < (k : Int) := by omega
     go_wp2_with (first
      | (with_reducible show wpList _ _ _ (Oper.mk (some 67) (Op.load _ _) _ _ _ _ :: _) _ _; go_must (refine wpList_load_part rfl 36 _ rfl ga 230 35 rfl _ _ _ HKA.out Tryz.underlying36 rfl infoC_Crt (by simp [HLX.out]) _ (x.ex_ct HX.out) ?_))
      | (with_reducible show wpList _ _ _ (Oper.mk (some 69) (Op.load _ _) _ _ _ _ :: _) _ _; go_must (refine wpList_load_part rfl 36 _ rfl gb 230 35 rfl _ _ _ HKB.out Tryz.underlying36 rfl infoC_Crt (by simp [HLY.out]) _ (y.ex_ct HY.out) ?_)))
     refine (cmpCert wr x.ct y.ct HX.out.ct HY.out.ct (HAX.out.below HW.out).c (HAY.out.below HW.out).c (by have := HX.out.cb; omega)).mono ?_
     rintro e w9 ⟨⟨r, rfl, hr⟩, hb9⟩
     have HR := Lib.hid hr
     have HW9 := Lib.hid (HW.out.trans (hb9.mono HW.out.size))
     clear hr hb9
     go_wp2
     go_ret
     exact ⟨RetB.of rfl ⟨fun h => ⟨HALL0.out, HALL1.out, HR.out.1 h⟩, fun h => HR.out.2 h.2.2⟩, HW9.out⟩

theorem cmpBlk (w : World) (x y : Blk) (hx : x.ok) (hy : y.ok) (hax : x.at w) (hay : y.at w) :
  Calls Tryz.prog 23 #[.agg x.cl.toArray, .agg y.cl.toArray] w fun e w' => RetB e (x.same y) ∧ Below w.heap.size w w' := by
 by_cases e1 : x.hd.cl = y.hd.cl
 case neg => exact (cmpBlk_f1 w x y hx hy e1).mono fun e w' ⟨h1, h2⟩ => ⟨by rw [h1]; exact RetB.no fun h => absurd (congrArg Hdr.cl h.hd) e1, h2⟩
 by_cases e2 : x.tn = y.tn
 case neg => exact (cmpBlk_f2 w x y hx hy e1 e2).mono fun e w' ⟨h1, h2⟩ => ⟨by rw [h1]; exact RetB.no fun h => absurd ((by rw [hx.tn, hy.tn, h.ts] : x.tn = y.tn)) e2, h2⟩
 by_cases e3 : x.en = y.en
 case neg => exact (cmpBlk_f3 w x y hx hy e1 e2 e3).mono fun e w' ⟨h1, h2⟩ => ⟨by rw [h1]; exact RetB.no fun h => absurd ((by rw [hx.en, hy.en, h.es] : x.en = y.en)) e3, h2⟩
 exact (cmpBlk_m w x y hx hy hax hay e1 e2 e3).mono fun e w' ⟨h1, h3⟩ => ⟨h1.iff ⟨fun h => ⟨Hdr.eq_of e1 hx.hd hy.hd.hh, h.1, h.2.1, h.2.2⟩, fun h => ⟨h.ts, h.es, h.ct⟩⟩, h3⟩
end Go.Proofs.YtlhnhjglcbggmaaGreatRR
namespace Go.Proofs.YtlhnhjglcbggmaaGreatRR
set_option linter.unusedSimpArgs false
set_option linter.unusedVariables false
open Go.ChangeShapes Go.WideShapes Go.ChangeAt Go.RowKit
set_option maxRecDepth 100000

theorem cells_u8 : Tryz.prog.cellsOf 5 = 1 := by kernel_rfl
section
variable {H : Type} {enc : TypeId × Value → H}
end
end Go.Proofs.YtlhnhjglcbggmaaGreatRR
namespace Go.Proofs.YtlhnhjglcbggmaaGreatRR
set_option linter.unusedSimpArgs false
set_option linter.unusedVariables false
open Go.ChangeShapes Go.WideShapes Go.ChangeAt Go.RowKit
set_option maxRecDepth 100000

section
variable {H : Type} {enc : TypeId × Value → H} {W : World} {sp : Nat → Bool} {held : Bool}
theorem wf_i64 {n : Int} (h : (Lit.int .i64 n).wf = true) : I64 n := by
 simp [Lit.wf, IntKind.min, IntKind.max, IntKind.signed, IntKind.bits] at h
 unfold I64; omega
theorem wf_u64 {n : Int} (h : (Lit.int .u64 n).wf = true) : U64 n := by
 simp [Lit.wf, IntKind.min, IntKind.max, IntKind.signed, IntKind.bits] at h
 unfold U64; omega
theorem one_at {l : List Value} {k : Nat} {v : Value} (h : (l.drop k).take 1 = [v]) : l[k]? = some v := by
 have := congrArg (fun l : List Value => l[0]?) h
 simpa using this
/-- cells that read as bytes -/
theorem trod_bytes {n fuel : Nat} {t : TypeId} {cs : List Value} {x : DataW H × List MemPlace} (ht : Tryz.prog.underlying t = some (.array n 5)) (hn : Tryz.prog.cellsOf t = n) (h : DataW.trod enc Tryz.prog W 0 sp held fuel t cs = some x) :
  ∃ l : List UInt8, l.length = n ∧ cs = bv l := by
 obtain ⟨xs, m, _, hx, hc, hl, hi⟩ := DataW.trod_array ht h
 rw [hn] at hc
 have hb : ∀ i, i < n → ∃ b : UInt8, cs[i]? = some (.int .u8 (b.toNat : Int)) := fun i hin => by
  have h2 := hi i hin
  rw [cells_u8, Nat.mul_one, List.getElem?_eq_getElem (by omega)] at h2
  obtain ⟨k, hk, _, hw⟩ := DataW.trod_int Tryz.underlying5 h2
  refine ⟨UInt8.ofNat k.toNat, ?_⟩
  rw [one_at hk, byte_of]
  simp [Lit.wf, IntKind.min, IntKind.max, IntKind.signed, IntKind.bits] at hw
  congr 2
  omega
 refine ⟨cs.map fun v => match v with | .int _ k => UInt8.ofNat k.toNat | _ => 0, by simp [hc], ?_⟩
 apply List.ext_getElem?
 intro i
 rw [bv_get, List.getElem?_map]
 rcases Nat.lt_or_ge i n with hin | hin
 ·obtain ⟨b, hb⟩ := hb i hin
  rw [hb]
  simp
 ·rw [List.getElem?_eq_none (by omega)]; rfl
theorem trod_field {t : TypeId} {fs : Array Field} {fuel : Nat} {cs : List Value} {x : DataW H × List MemPlace} (hu : Tryz.prog.underlying t = some (.struct fs)) (h : DataW.trod enc Tryz.prog W 0 sp held fuel t cs = some x) (i : Nat) {ft : TypeId} {off : Nat} (hi : i < fs.size) (hf : (fs[i]?).map (fun f => (f.type, f.offset)) = some (ft, off)) :
  ∃ n y, DataW.trod enc Tryz.prog W 0 sp held n ft ((cs.drop off).take (Tryz.prog.cellsOf ft)) = some y := by
 obtain ⟨xs, n, _, _, _, hl, ht⟩ := DataW.trod_struct hu h
 obtain ⟨f, hf1, hf2⟩ := Option.map_eq_some_iff.1 hf
 have := ht i f hf1
 simp only [Prod.mk.injEq] at hf2
 rw [hf2.1, hf2.2, List.getElem?_eq_getElem (by omega)] at this
 exact ⟨n, _, this⟩
theorem list_of {α : Type} {P : Nat → α → Prop} : ∀ {n : Nat}, (∀ i, i < n → ∃ a, P i a) → ∃ l : List α, l.length = n ∧ ∀ (i : Nat) (h : i < l.length), P i l[i]
 | 0, _ => ⟨[], rfl, fun i h => absurd h (by simp)⟩
 | n + 1, h => by
  obtain ⟨l, hl, hp⟩ := list_of (n := n) fun i hi => h i (by omega)
  obtain ⟨a, ha⟩ := h n (by omega)
  refine ⟨l ++ [a], by simp [hl], fun i hi => ?_⟩
  rcases Nat.lt_or_ge i l.length with h1 | h1
  ·rw [List.getElem_append_left h1]; exact hp i h1
  ·have e : i = n := by simp at hi; omega
   subst e
   rw [List.getElem_append_right h1]
   simpa using ha
end
end Go.Proofs.YtlhnhjglcbggmaaGreatRR

/-
  The law's comparisons: states. Conditions: each number fits its kind; the lists lie in the world.
-/
import Derived.Test.YtlhnhjglcbggmaaGreatRRYCm5
namespace Go.Proofs.YtlhnhjglcbggmaaGreatRR
set_option linter.unusedSimpArgs false
set_option linter.unusedVariables false
open Go.RowKit
set_option maxRecDepth 100000
structure Sta.sm (x : Sta) : Prop where
 cou : x.cou.n ≤ 5000000000000
 next : x.next.n ≤ 5000000000000
 p : x.pn ≤ 5000000000000
 ps : ∀ p ∈ x.ps, p.cou.n ≤ 5000000000000
 o : x.on ≤ 5000000000000
 a : x.an ≤ 5000000000000
 r : x.rn ≤ 5000000000000
def Sta.led (x : Sta) : Led := ⟨x.aA, x.an, x.ac, x.acs, x.rA, x.rn, x.rc, x.rs, x.burnt, x.supply⟩
theorem Sta.ok.led {x : Sta} (h : x.ok) : x.led.ok := ⟨h.an, h.acs, h.rn, h.rs, h.burnt, h.supply⟩
theorem Sta.at.led {x : Sta} {w : World} (h : x.at w) : x.led.at w := ⟨h.a, h.r⟩
theorem Sta.ex_par (x : Sta) (h : x.ok) : x.cl.toArray.extract 1 (1 + 12) = x.par.cl.toArray := seg_ex (A := [.string x.chain]) (C := [.int .u64 x.height, .int .u64 x.time] ++ bv x.last ++ x.cou.cl ++ x.next.cl ++ [.slice x.pA x.pn x.pc, .slice x.oA x.on x.oc, .slice x.aA x.an x.ac, .slice x.rA x.rn x.rc, .int .u64 x.burnt, .int .u64 x.supply]) (by simp [Sta.cl]) rfl rfl
theorem Sta.ex_led (x : Sta) (h : x.last.length = 32) : x.cl.toArray.extract 51 (51 + 4) = x.led.cl.toArray := seg_ex (A := [.string x.chain] ++ x.par.cl ++ [.int .u64 x.height, .int .u64 x.time] ++ bv x.last ++ x.cou.cl ++ x.next.cl ++ [.slice x.pA x.pn x.pc, .slice x.oA x.on x.oc]) (C := []) (by simp [Sta.cl, Sta.led, Led.cl]) (by simp [Par.cl, Cou.cl, bv_length, h]) rfl
theorem infoC_Par : (Tryz.prog.info? 51).map (·.size) = some 12 := by kernel_rfl
theorem infoC_Cou : (Tryz.prog.info? 54).map (·.size) = some 1 := by kernel_rfl
theorem infoC_Led : (Tryz.prog.info? 60).map (·.size) = some 4 := by kernel_rfl
theorem flat_ParC : flat Tryz.prog 3 51 = some [.int .u64, .int .i64, .int .u64, .int .u64, .int .u64, .int .i64, .int .u64, .int .u64, .int .u64, .int .u64, .int .u64, .int .u64] := by kernel_rfl
theorem agg_ParC : isAggT Tryz.prog 51 = true := by kernel_rfl
theorem guard_ParC : Tryz.prog.eqGuardType Tryz.prog.depth 51 = false := by kernel_rfl
theorem fits_ParC {m : Par} (h : m.ok) : Fits [.int .u64, .int .i64, .int .u64, .int .u64, .int .u64, .int .i64, .int .u64, .int .u64, .int .u64, .int .u64, .int .u64, .int .u64] m.cl := ⟨rfl, rfl, rfl, rfl, rfl, rfl, rfl, rfl, rfl, rfl, rfl, rfl, trivial⟩
theorem strC_same {a b : ByteArray} (h : a = b) : (a.toList == b.toList) = true := by rw [h]; exact beq_self_eq_true _
theorem strC_unlike {a b : ByteArray} (h : ¬ a = b) : (a.toList == b.toList) = false := by
 rw [beq_eq_false_iff_ne, ByteArray.toList_eq, ByteArray.toList_eq]
 exact fun e => h (Go.WideShapes.bytes_inj e)
theorem alike_len {α : Type} {R : α → α → Prop} : ∀ {l m : List α}, Alike R l m → l.length = m.length
 | [], [], _ => rfl
 | x :: l, y :: m, h => by rw [List.length_cons, List.length_cons, alike_len h.2]
 | [], _ :: _, h => h.elim
 | _ :: _, [], h => h.elim
theorem alike_at {α : Type} {R : α → α → Prop} : ∀ {l m : List α} {k : Nat}, Alike R l m → (h1 : k < l.length) → (h2 : k < m.length) → R l[k] m[k]
 | x :: l, y :: m, 0, h, _, _ => h.1
 | x :: l, y :: m, k + 1, h, h1, h2 => alike_at (k := k) h.2 (by simpa using h1) (by simpa using h2)
 | [], _, _, _, h1, _ => absurd h1 (by simp)
 | _ :: _, [], _, _, _, h2 => absurd h2 (by simp)
theorem alike_step {α : Type} {R : α → α → Prop} : ∀ {l m : List α} {k : Nat}, Alike R (l.take k) (m.take k) → (h1 : k < l.length) → (h2 : k < m.length) → R l[k] m[k] → Alike R (l.take (k + 1)) (m.take (k + 1))
 | x :: l, y :: m, 0, _, _, _, hr => ⟨hr, by simp [Alike]⟩
 | x :: l, y :: m, k + 1, h, h1, h2, hr => ⟨h.1, alike_step (k := k) h.2 (by simpa using h1) (by simpa using h2) hr⟩
 | [], _, _, _, h1, _, _ => absurd h1 (by simp)
 | _ :: _, [], _, _, _, h2, _ => absurd h2 (by simp)
theorem bool_eq {a b : Bool} (h : a = true ↔ b = true) : a = b := by cases a <;> cases b <;> simp_all
theorem add_zeroA (p : Addr) (n : Nat) : (p.add n).add 0 = p.add n := by
 unfold Addr.add
 split <;> split <;> simp_all
theorem cou_cell {u : Pst} {w : World} {p : Addr} (h : ∀ j z, u.cl[j]? = some z → w.cell? (p.add j) = some z) : ∀ j z, u.cou.cl[j]? = some z → w.cell? ((p.add 2).add j) = some z := fun j z hz => by
 match j, hz with
 | 0, hz => rw [add_zeroA]; exact h 2 z hz
 | j + 1, hz => simp [Cou.cl] at hz

set_option maxHeartbeats 2000000 in
theorem cmpSta_f1 (w : World) (x y : Sta) (hx : x.ok) (hy : y.ok) (d : ¬ x.chain = y.chain) :
  Calls Tryz.prog 26 #[.agg x.cl.toArray, .agg y.cl.toArray] w fun e w' => e = .returned (.bool false) ∧ Below w.heap.size w w' := by
 have HX := Lib.hid hx
 have HY := Lib.hid hy
 have HLX := Lib.hid (x.len hx.last)
 have HLY := Lib.hid (y.len hy.last)
 go_enter Tryz.func26, Tryz.ntmps26
 go_wp2_with (with_reducible show wpList _ _ _ (Oper.mk _ (Op.box _ _) _ _ _ _ :: _) _ _; refine wpList_box_i rfl _ _ rfl _ rfl ?_)
 intro ga w1 hk1 hb1 hg1 hs1
 go_wp2_with (with_reducible show wpList _ _ _ (Oper.mk _ (Op.box _ _) _ _ _ _ :: _) _ _; refine wpList_box_i rfl _ _ rfl _ rfl ?_)
 intro gb w2 hk2 hb2 hg2 hs2
 have HKA := Lib.hid ((bk_eqT (cs' := x.cl.toArray) hk1 rfl).below hb2 hk1.lt)
 have HKB := Lib.hid (bk_eqT (cs' := y.cl.toArray) hk2 rfl)
 have HB2 := Lib.hid (hb1.trans (hb2.mono hb1.size))
 have a0 : w2.cell? ⟨ga, 0, none⟩ = some (.string x.chain) := (HKA.out.cell 0)
 have b0 : w2.cell? ⟨gb, 0, none⟩ = some (.string y.chain) := (HKB.out.cell 0)
 have f1 : (x.chain.toList == y.chain.toList) = false := strC_unlike d
 clear hk1 hb1 hg1 hs1 hk2 hb2 hg2 hs2  d hx hy
 go_wp2_with fail
 go_ret
 exact ⟨rfl, HB2.out⟩

set_option maxHeartbeats 2000000 in
theorem cmpSta_f2 (w : World) (x y : Sta) (hx : x.ok) (hy : y.ok) (e1 : x.chain = y.chain) (d : ¬ x.par.cl = y.par.cl) :
  Calls Tryz.prog 26 #[.agg x.cl.toArray, .agg y.cl.toArray] w fun e w' => e = .returned (.bool false) ∧ Below w.heap.size w w' := by
 have HX := Lib.hid hx
 have HY := Lib.hid hy
 have HLX := Lib.hid (x.len hx.last)
 have HLY := Lib.hid (y.len hy.last)
 go_enter Tryz.func26, Tryz.ntmps26
 go_wp2_with (with_reducible show wpList _ _ _ (Oper.mk _ (Op.box _ _) _ _ _ _ :: _) _ _; refine wpList_box_i rfl _ _ rfl _ rfl ?_)
 intro ga w1 hk1 hb1 hg1 hs1
 go_wp2_with (with_reducible show wpList _ _ _ (Oper.mk _ (Op.box _ _) _ _ _ _ :: _) _ _; refine wpList_box_i rfl _ _ rfl _ rfl ?_)
 intro gb w2 hk2 hb2 hg2 hs2
 have HKA := Lib.hid ((bk_eqT (cs' := x.cl.toArray) hk1 rfl).below hb2 hk1.lt)
 have HKB := Lib.hid (bk_eqT (cs' := y.cl.toArray) hk2 rfl)
 have HB2 := Lib.hid (hb1.trans (hb2.mono hb1.size))
 have a0 : w2.cell? ⟨ga, 0, none⟩ = some (.string x.chain) := (HKA.out.cell 0)
 have b0 : w2.cell? ⟨gb, 0, none⟩ = some (.string y.chain) := (HKB.out.cell 0)
 have f1 : (x.chain.toList == y.chain.toList) = true := strC_same e1
 have E2 := Lib.hid d
 clear hk1 hb1 hg1 hs1 hk2 hb2 hg2 hs2 e1 d hx hy
 go_wp2_with (first
  | (with_reducible show wpList _ _ _ (Oper.mk (some 14) (Op.load 51 _) _ _ _ _ :: _) _ _; go_must (refine wpList_load_part rfl 51 _ rfl ga 1 12 rfl _ _ _ HKA.out Tryz.underlying51 rfl infoC_Par (by simp [HLX.out]) _ (x.ex_par HX.out) ?_))
  | (with_reducible show wpList _ _ _ (Oper.mk (some 16) (Op.load 51 _) _ _ _ _ :: _) _ _; go_must (refine wpList_load_part rfl 51 _ rfl gb 1 12 rfl _ _ _ HKB.out Tryz.underlying51 rfl infoC_Par (by simp [HLY.out]) _ (y.ex_par HY.out) ?_))
  | (with_reducible show wpList _ _ _ (Oper.mk (some 17) (Op.binOp BinOp.neq _ _ _ _) _ _ _ _ :: _) _ _; go_must (refine wpList_neq_flat rfl 51 _ _ _ rfl (x.par.cl) (y.par.cl) rfl rfl 3 _ flat_ParC (by omega) agg_ParC guard_ParC (fits_ParC HX.out.par) (fits_ParC HY.out.par) false (⟨fun h => (by cases h), fun h => absurd h E2.out⟩) ?_)))
 go_ret
 exact ⟨rfl, HB2.out⟩

set_option maxHeartbeats 2000000 in
theorem cmpSta_f3 (w : World) (x y : Sta) (hx : x.ok) (hy : y.ok) (e1 : x.chain = y.chain) (e2 : x.par.cl = y.par.cl) (d : ¬ x.height = y.height) :
  Calls Tryz.prog 26 #[.agg x.cl.toArray, .agg y.cl.toArray] w fun e w' => e = .returned (.bool false) ∧ Below w.heap.size w w' := by
 have HX := Lib.hid hx
 have HY := Lib.hid hy
 have HLX := Lib.hid (x.len hx.last)
 have HLY := Lib.hid (y.len hy.last)
 go_enter Tryz.func26, Tryz.ntmps26
 go_wp2_with (with_reducible show wpList _ _ _ (Oper.mk _ (Op.box _ _) _ _ _ _ :: _) _ _; refine wpList_box_i rfl _ _ rfl _ rfl ?_)
 intro ga w1 hk1 hb1 hg1 hs1
 go_wp2_with (with_reducible show wpList _ _ _ (Oper.mk _ (Op.box _ _) _ _ _ _ :: _) _ _; refine wpList_box_i rfl _ _ rfl _ rfl ?_)
 intro gb w2 hk2 hb2 hg2 hs2
 have HKA := Lib.hid ((bk_eqT (cs' := x.cl.toArray) hk1 rfl).below hb2 hk1.lt)
 have HKB := Lib.hid (bk_eqT (cs' := y.cl.toArray) hk2 rfl)
 have HB2 := Lib.hid (hb1.trans (hb2.mono hb1.size))
 have a0 : w2.cell? ⟨ga, 0, none⟩ = some (.string x.chain) := (HKA.out.cell 0)
 have b0 : w2.cell? ⟨gb, 0, none⟩ = some (.string y.chain) := (HKB.out.cell 0)
 have a13 : w2.cell? ⟨ga, 13, none⟩ = some (.int .u64 x.height) := (HKA.out.cell 13)
 have b13 : w2.cell? ⟨gb, 13, none⟩ = some (.int .u64 y.height) := (HKB.out.cell 13)
 have f1 : (x.chain.toList == y.chain.toList) = true := strC_same e1
 have E2 := Lib.hid e2
 have f3 : (x.height != y.height) = true := by simpa using d
 clear hk1 hb1 hg1 hs1 hk2 hb2 hg2 hs2 e1 e2 d hx hy
 go_wp2_with (first
  | (with_reducible show wpList _ _ _ (Oper.mk (some 14) (Op.load 51 _) _ _ _ _ :: _) _ _; go_must (refine wpList_load_part rfl 51 _ rfl ga 1 12 rfl _ _ _ HKA.out Tryz.underlying51 rfl infoC_Par (by simp [HLX.out]) _ (x.ex_par HX.out) ?_))
  | (with_reducible show wpList _ _ _ (Oper.mk (some 16) (Op.load 51 _) _ _ _ _ :: _) _ _; go_must (refine wpList_load_part rfl 51 _ rfl gb 1 12 rfl _ _ _ HKB.out Tryz.underlying51 rfl infoC_Par (by simp [HLY.out]) _ (y.ex_par HY.out) ?_))
  | (with_reducible show wpList _ _ _ (Oper.mk (some 17) (Op.binOp BinOp.neq _ _ _ _) _ _ _ _ :: _) _ _; go_must (refine wpList_neq_flat rfl 51 _ _ _ rfl (x.par.cl) (y.par.cl) rfl rfl 3 _ flat_ParC (by omega) agg_ParC guard_ParC (fits_ParC HX.out.par) (fits_ParC HY.out.par) true (⟨fun _ => E2.out, fun _ => rfl⟩) ?_)))
 go_ret
 exact ⟨rfl, HB2.out⟩

set_option maxHeartbeats 2000000 in
theorem cmpSta_f4 (w : World) (x y : Sta) (hx : x.ok) (hy : y.ok) (e1 : x.chain = y.chain) (e2 : x.par.cl = y.par.cl) (e3 : x.height = y.height) (d : ¬ x.time = y.time) :
  Calls Tryz.prog 26 #[.agg x.cl.toArray, .agg y.cl.toArray] w fun e w' => e = .returned (.bool false) ∧ Below w.heap.size w w' := by
 have HX := Lib.hid hx
 have HY := Lib.hid hy
 have HLX := Lib.hid (x.len hx.last)
 have HLY := Lib.hid (y.len hy.last)
 go_enter Tryz.func26, Tryz.ntmps26
 go_wp2_with (with_reducible show wpList _ _ _ (Oper.mk _ (Op.box _ _) _ _ _ _ :: _) _ _; refine wpList_box_i rfl _ _ rfl _ rfl ?_)
 intro ga w1 hk1 hb1 hg1 hs1
 go_wp2_with (with_reducible show wpList _ _ _ (Oper.mk _ (Op.box _ _) _ _ _ _ :: _) _ _; refine wpList_box_i rfl _ _ rfl _ rfl ?_)
 intro gb w2 hk2 hb2 hg2 hs2
 have HKA := Lib.hid ((bk_eqT (cs' := x.cl.toArray) hk1 rfl).below hb2 hk1.lt)
 have HKB := Lib.hid (bk_eqT (cs' := y.cl.toArray) hk2 rfl)
 have HB2 := Lib.hid (hb1.trans (hb2.mono hb1.size))
 have a0 : w2.cell? ⟨ga, 0, none⟩ = some (.string x.chain) := (HKA.out.cell 0)
 have b0 : w2.cell? ⟨gb, 0, none⟩ = some (.string y.chain) := (HKB.out.cell 0)
 have a13 : w2.cell? ⟨ga, 13, none⟩ = some (.int .u64 x.height) := (HKA.out.cell 13)
 have b13 : w2.cell? ⟨gb, 13, none⟩ = some (.int .u64 y.height) := (HKB.out.cell 13)
 have a14 : w2.cell? ⟨ga, 14, none⟩ = some (.int .u64 x.time) := (HKA.out.cell 14)
 have b14 : w2.cell? ⟨gb, 14, none⟩ = some (.int .u64 y.time) := (HKB.out.cell 14)
 have f1 : (x.chain.toList == y.chain.toList) = true := strC_same e1
 have E2 := Lib.hid e2
 have f3 : (x.height != y.height) = false := by simp [e3]
 have f4 : (x.time != y.time) = true := by simpa using d
 clear hk1 hb1 hg1 hs1 hk2 hb2 hg2 hs2 e1 e2 e3 d hx hy
 go_wp2_with (first
  | (with_reducible show wpList _ _ _ (Oper.mk (some 14) (Op.load 51 _) _ _ _ _ :: _) _ _; go_must (refine wpList_load_part rfl 51 _ rfl ga 1 12 rfl _ _ _ HKA.out Tryz.underlying51 rfl infoC_Par (by simp [HLX.out]) _ (x.ex_par HX.out) ?_))
  | (with_reducible show wpList _ _ _ (Oper.mk (some 16) (Op.load 51 _) _ _ _ _ :: _) _ _; go_must (refine wpList_load_part rfl 51 _ rfl gb 1 12 rfl _ _ _ HKB.out Tryz.underlying51 rfl infoC_Par (by simp [HLY.out]) _ (y.ex_par HY.out) ?_))
  | (with_reducible show wpList _ _ _ (Oper.mk (some 17) (Op.binOp BinOp.neq _ _ _ _) _ _ _ _ :: _) _ _; go_must (refine wpList_neq_flat rfl 51 _ _ _ rfl (x.par.cl) (y.par.cl) rfl rfl 3 _ flat_ParC (by omega) agg_ParC guard_ParC (fits_ParC HX.out.par) (fits_ParC HY.out.par) true (⟨fun _ => E2.out, fun _ => rfl⟩) ?_)))
 go_ret
 exact ⟨rfl, HB2.out⟩

set_option maxHeartbeats 2000000 in
theorem cmpSta_f5 (w : World) (x y : Sta) (hx : x.ok) (hy : y.ok) (e1 : x.chain = y.chain) (e2 : x.par.cl = y.par.cl) (e3 : x.height = y.height) (e4 : x.time = y.time) (d : ¬ bv x.last = bv y.last) :
  Calls Tryz.prog 26 #[.agg x.cl.toArray, .agg y.cl.toArray] w fun e w' => e = .returned (.bool false) ∧ Below w.heap.size w w' := by
 have HX := Lib.hid hx
 have HY := Lib.hid hy
 have HLX := Lib.hid (x.len hx.last)
 have HLY := Lib.hid (y.len hy.last)
 go_enter Tryz.func26, Tryz.ntmps26
 go_wp2_with (with_reducible show wpList _ _ _ (Oper.mk _ (Op.box _ _) _ _ _ _ :: _) _ _; refine wpList_box_i rfl _ _ rfl _ rfl ?_)
 intro ga w1 hk1 hb1 hg1 hs1
 go_wp2_with (with_reducible show wpList _ _ _ (Oper.mk _ (Op.box _ _) _ _ _ _ :: _) _ _; refine wpList_box_i rfl _ _ rfl _ rfl ?_)
 intro gb w2 hk2 hb2 hg2 hs2
 have HKA := Lib.hid ((bk_eqT (cs' := x.cl.toArray) hk1 rfl).below hb2 hk1.lt)
 have HKB := Lib.hid (bk_eqT (cs' := y.cl.toArray) hk2 rfl)
 have HB2 := Lib.hid (hb1.trans (hb2.mono hb1.size))
 have a0 : w2.cell? ⟨ga, 0, none⟩ = some (.string x.chain) := (HKA.out.cell 0)
 have b0 : w2.cell? ⟨gb, 0, none⟩ = some (.string y.chain) := (HKB.out.cell 0)
 have a13 : w2.cell? ⟨ga, 13, none⟩ = some (.int .u64 x.height) := (HKA.out.cell 13)
 have b13 : w2.cell? ⟨gb, 13, none⟩ = some (.int .u64 y.height) := (HKB.out.cell 13)
 have a14 : w2.cell? ⟨ga, 14, none⟩ = some (.int .u64 x.time) := (HKA.out.cell 14)
 have b14 : w2.cell? ⟨gb, 14, none⟩ = some (.int .u64 y.time) := (HKB.out.cell 14)
 have f1 : (x.chain.toList == y.chain.toList) = true := strC_same e1
 have E2 := Lib.hid e2
 have f3 : (x.height != y.height) = false := by simp [e3]
 have f4 : (x.time != y.time) = false := by simp [e4]
 have E5 := Lib.hid d
 clear hk1 hb1 hg1 hs1 hk2 hb2 hg2 hs2 e1 e2 e3 e4 d hx hy
 go_wp2_with (first
  | (with_reducible show wpList _ _ _ (Oper.mk (some 14) (Op.load 51 _) _ _ _ _ :: _) _ _; go_must (refine wpList_load_part rfl 51 _ rfl ga 1 12 rfl _ _ _ HKA.out Tryz.underlying51 rfl infoC_Par (by simp [HLX.out]) _ (x.ex_par HX.out) ?_))
  | (with_reducible show wpList _ _ _ (Oper.mk (some 16) (Op.load 51 _) _ _ _ _ :: _) _ _; go_must (refine wpList_load_part rfl 51 _ rfl gb 1 12 rfl _ _ _ HKB.out Tryz.underlying51 rfl infoC_Par (by simp [HLY.out]) _ (y.ex_par HY.out) ?_))
  | (with_reducible show wpList _ _ _ (Oper.mk (some 17) (Op.binOp BinOp.neq _ _ _ _) _ _ _ _ :: _) _ _; go_must (refine wpList_neq_flat rfl 51 _ _ _ rfl (x.par.cl) (y.par.cl) rfl rfl 3 _ flat_ParC (by omega) agg_ParC guard_ParC (fits_ParC HX.out.par) (fits_ParC HY.out.par) true (⟨fun _ => E2.out, fun _ => rfl⟩) ?_))
  | (with_reducible show wpList _ _ _ (Oper.mk (some 35) (Op.load 29 _) _ _ _ _ :: _) _ _; go_must (refine wpList_load_part rfl 29 _ rfl ga 15 32 rfl _ _ _ HKA.out Tryz.underlying29 rfl info_hash (by simp [HLX.out]) _ (x.ex_last HX.out.last) ?_))
  | (with_reducible show wpList _ _ _ (Oper.mk (some 37) (Op.load 29 _) _ _ _ _ :: _) _ _; go_must (refine wpList_load_part rfl 29 _ rfl gb 15 32 rfl _ _ _ HKB.out Tryz.underlying29 rfl info_hash (by simp [HLY.out]) _ (y.ex_last HY.out.last) ?_))
  | (with_reducible show wpList _ _ _ (Oper.mk (some 38) (Op.binOp BinOp.neq _ _ _ _) _ _ _ _ :: _) _ _; go_must (refine wpList_neq_flat rfl 29 _ _ _ rfl (bv x.last) (bv y.last) rfl rfl 2 _ flat_hash (by omega) agg_hash guard_hash (fits_hash HX.out.last) (fits_hash HY.out.last) false (⟨fun h => (by cases h), fun h => absurd h E5.out⟩) ?_)))
 go_ret
 exact ⟨rfl, HB2.out⟩

set_option maxHeartbeats 2000000 in
theorem cmpSta_f6 (w : World) (x y : Sta) (hx : x.ok) (hy : y.ok) (e1 : x.chain = y.chain) (e2 : x.par.cl = y.par.cl) (e3 : x.height = y.height) (e4 : x.time = y.time) (e5 : bv x.last = bv y.last) (d : ¬ x.pn = y.pn) :
  Calls Tryz.prog 26 #[.agg x.cl.toArray, .agg y.cl.toArray] w fun e w' => e = .returned (.bool false) ∧ Below w.heap.size w w' := by
 have HX := Lib.hid hx
 have HY := Lib.hid hy
 have HLX := Lib.hid (x.len hx.last)
 have HLY := Lib.hid (y.len hy.last)
 go_enter Tryz.func26, Tryz.ntmps26
 go_wp2_with (with_reducible show wpList _ _ _ (Oper.mk _ (Op.box _ _) _ _ _ _ :: _) _ _; refine wpList_box_i rfl _ _ rfl _ rfl ?_)
 intro ga w1 hk1 hb1 hg1 hs1
 go_wp2_with (with_reducible show wpList _ _ _ (Oper.mk _ (Op.box _ _) _ _ _ _ :: _) _ _; refine wpList_box_i rfl _ _ rfl _ rfl ?_)
 intro gb w2 hk2 hb2 hg2 hs2
 have HKA := Lib.hid ((bk_eqT (cs' := x.cl.toArray) hk1 rfl).below hb2 hk1.lt)
 have HKB := Lib.hid (bk_eqT (cs' := y.cl.toArray) hk2 rfl)
 have HB2 := Lib.hid (hb1.trans (hb2.mono hb1.size))
 have a0 : w2.cell? ⟨ga, 0, none⟩ = some (.string x.chain) := (HKA.out.cell 0)
 have b0 : w2.cell? ⟨gb, 0, none⟩ = some (.string y.chain) := (HKB.out.cell 0)
 have a13 : w2.cell? ⟨ga, 13, none⟩ = some (.int .u64 x.height) := (HKA.out.cell 13)
 have b13 : w2.cell? ⟨gb, 13, none⟩ = some (.int .u64 y.height) := (HKB.out.cell 13)
 have a14 : w2.cell? ⟨ga, 14, none⟩ = some (.int .u64 x.time) := (HKA.out.cell 14)
 have b14 : w2.cell? ⟨gb, 14, none⟩ = some (.int .u64 y.time) := (HKB.out.cell 14)
 have a49 : w2.cell? ⟨ga, 49, none⟩ = some (.slice x.pA x.pn x.pc) := (HKA.out.cell 49).trans (x.at_49 HX.out.last)
 have b49 : w2.cell? ⟨gb, 49, none⟩ = some (.slice y.pA y.pn y.pc) := (HKB.out.cell 49).trans (y.at_49 HY.out.last)
 have f1 : (x.chain.toList == y.chain.toList) = true := strC_same e1
 have E2 := Lib.hid e2
 have f3 : (x.height != y.height) = false := by simp [e3]
 have f4 : (x.time != y.time) = false := by simp [e4]
 have E5 := Lib.hid e5
 have f6 : ((x.pn : Int) != (y.pn : Int)) = true := by simp; omega
 have g6 : (x.pn != y.pn) = true := by simpa using d
 clear hk1 hb1 hg1 hs1 hk2 hb2 hg2 hs2 e1 e2 e3 e4 e5 d hx hy
 go_wp2_with (first
  | (with_reducible show wpList _ _ _ (Oper.mk (some 14) (Op.load 51 _) _ _ _ _ :: _) _ _; go_must (refine wpList_load_part rfl 51 _ rfl ga 1 12 rfl _ _ _ HKA.out Tryz.underlying51 rfl infoC_Par (by simp [HLX.out]) _ (x.ex_par HX.out) ?_))
  | (with_reducible show wpList _ _ _ (Oper.mk (some 16) (Op.load 51 _) _ _ _ _ :: _) _ _; go_must (refine wpList_load_part rfl 51 _ rfl gb 1 12 rfl _ _ _ HKB.out Tryz.underlying51 rfl infoC_Par (by simp [HLY.out]) _ (y.ex_par HY.out) ?_))
  | (with_reducible show wpList _ _ _ (Oper.mk (some 17) (Op.binOp BinOp.neq _ _ _ _) _ _ _ _ :: _) _ _; go_must (refine wpList_neq_flat rfl 51 _ _ _ rfl (x.par.cl) (y.par.cl) rfl rfl 3 _ flat_ParC (by omega) agg_ParC guard_ParC (fits_ParC HX.out.par) (fits_ParC HY.out.par) true (⟨fun _ => E2.out, fun _ => rfl⟩) ?_))
  | (with_reducible show wpList _ _ _ (Oper.mk (some 35) (Op.load 29 _) _ _ _ _ :: _) _ _; go_must (refine wpList_load_part rfl 29 _ rfl ga 15 32 rfl _ _ _ HKA.out Tryz.underlying29 rfl info_hash (by simp [HLX.out]) _ (x.ex_last HX.out.last) ?_))
  | (with_reducible show wpList _ _ _ (Oper.mk (some 37) (Op.load 29 _) _ _ _ _ :: _) _ _; go_must (refine wpList_load_part rfl 29 _ rfl gb 15 32 rfl _ _ _ HKB.out Tryz.underlying29 rfl info_hash (by simp [HLY.out]) _ (y.ex_last HY.out.last) ?_))
  | (with_reducible show wpList _ _ _ (Oper.mk (some 38) (Op.binOp BinOp.neq _ _ _ _) _ _ _ _ :: _) _ _; go_must (refine wpList_neq_flat rfl 29 _ _ _ rfl (bv x.last) (bv y.last) rfl rfl 2 _ flat_hash (by omega) agg_hash guard_hash (fits_hash HX.out.last) (fits_hash HY.out.last) true (⟨fun _ => E5.out, fun _ => rfl⟩) ?_)))
 go_ret
 exact ⟨rfl, HB2.out⟩

set_option maxHeartbeats 2000000 in
theorem cmpSta_f7 (w : World) (x y : Sta) (hx : x.ok) (hy : y.ok) (e1 : x.chain = y.chain) (e2 : x.par.cl = y.par.cl) (e3 : x.height = y.height) (e4 : x.time = y.time) (e5 : bv x.last = bv y.last) (e6 : x.pn = y.pn) (d : ¬ x.on = y.on) :
  Calls Tryz.prog 26 #[.agg x.cl.toArray, .agg y.cl.toArray] w fun e w' => e = .returned (.bool false) ∧ Below w.heap.size w w' := by
 have HX := Lib.hid hx
 have HY := Lib.hid hy
 have HLX := Lib.hid (x.len hx.last)
 have HLY := Lib.hid (y.len hy.last)
 go_enter Tryz.func26, Tryz.ntmps26
 go_wp2_with (with_reducible show wpList _ _ _ (Oper.mk _ (Op.box _ _) _ _ _ _ :: _) _ _; refine wpList_box_i rfl _ _ rfl _ rfl ?_)
 intro ga w1 hk1 hb1 hg1 hs1
 go_wp2_with (with_reducible show wpList _ _ _ (Oper.mk _ (Op.box _ _) _ _ _ _ :: _) _ _; refine wpList_box_i rfl _ _ rfl _ rfl ?_)
 intro gb w2 hk2 hb2 hg2 hs2
 have HKA := Lib.hid ((bk_eqT (cs' := x.cl.toArray) hk1 rfl).below hb2 hk1.lt)
 have HKB := Lib.hid (bk_eqT (cs' := y.cl.toArray) hk2 rfl)
 have HB2 := Lib.hid (hb1.trans (hb2.mono hb1.size))
 have a0 : w2.cell? ⟨ga, 0, none⟩ = some (.string x.chain) := (HKA.out.cell 0)
 have b0 : w2.cell? ⟨gb, 0, none⟩ = some (.string y.chain) := (HKB.out.cell 0)
 have a13 : w2.cell? ⟨ga, 13, none⟩ = some (.int .u64 x.height) := (HKA.out.cell 13)
 have b13 : w2.cell? ⟨gb, 13, none⟩ = some (.int .u64 y.height) := (HKB.out.cell 13)
 have a14 : w2.cell? ⟨ga, 14, none⟩ = some (.int .u64 x.time) := (HKA.out.cell 14)
 have b14 : w2.cell? ⟨gb, 14, none⟩ = some (.int .u64 y.time) := (HKB.out.cell 14)
 have a49 : w2.cell? ⟨ga, 49, none⟩ = some (.slice x.pA x.pn x.pc) := (HKA.out.cell 49).trans (x.at_49 HX.out.last)
 have b49 : w2.cell? ⟨gb, 49, none⟩ = some (.slice y.pA y.pn y.pc) := (HKB.out.cell 49).trans (y.at_49 HY.out.last)
 have a50 : w2.cell? ⟨ga, 50, none⟩ = some (.slice x.oA x.on x.oc) := (HKA.out.cell 50).trans (x.at_50 HX.out.last)
 have b50 : w2.cell? ⟨gb, 50, none⟩ = some (.slice y.oA y.on y.oc) := (HKB.out.cell 50).trans (y.at_50 HY.out.last)
 have f1 : (x.chain.toList == y.chain.toList) = true := strC_same e1
 have E2 := Lib.hid e2
 have f3 : (x.height != y.height) = false := by simp [e3]
 have f4 : (x.time != y.time) = false := by simp [e4]
 have E5 := Lib.hid e5
 have f6 : ((x.pn : Int) != (y.pn : Int)) = false := by simp [e6]
 have g6 : (x.pn != y.pn) = false := by simp [e6]
 have f7 : ((x.on : Int) != (y.on : Int)) = true := by simp; omega
 have g7 : (x.on != y.on) = true := by simpa using d
 clear hk1 hb1 hg1 hs1 hk2 hb2 hg2 hs2 e1 e2 e3 e4 e5 e6 d hx hy
 go_wp2_with (first
  | (with_reducible show wpList _ _ _ (Oper.mk (some 14) (Op.load 51 _) _ _ _ _ :: _) _ _; go_must (refine wpList_load_part rfl 51 _ rfl ga 1 12 rfl _ _ _ HKA.out Tryz.underlying51 rfl infoC_Par (by simp [HLX.out]) _ (x.ex_par HX.out) ?_))
  | (with_reducible show wpList _ _ _ (Oper.mk (some 16) (Op.load 51 _) _ _ _ _ :: _) _ _; go_must (refine wpList_load_part rfl 51 _ rfl gb 1 12 rfl _ _ _ HKB.out Tryz.underlying51 rfl infoC_Par (by simp [HLY.out]) _ (y.ex_par HY.out) ?_))
  | (with_reducible show wpList _ _ _ (Oper.mk (some 17) (Op.binOp BinOp.neq _ _ _ _) _ _ _ _ :: _) _ _; go_must (refine wpList_neq_flat rfl 51 _ _ _ rfl (x.par.cl) (y.par.cl) rfl rfl 3 _ flat_ParC (by omega) agg_ParC guard_ParC (fits_ParC HX.out.par) (fits_ParC HY.out.par) true (⟨fun _ => E2.out, fun _ => rfl⟩) ?_))
  | (with_reducible show wpList _ _ _ (Oper.mk (some 35) (Op.load 29 _) _ _ _ _ :: _) _ _; go_must (refine wpList_load_part rfl 29 _ rfl ga 15 32 rfl _ _ _ HKA.out Tryz.underlying29 rfl info_hash (by simp [HLX.out]) _ (x.ex_last HX.out.last) ?_))
  | (with_reducible show wpList _ _ _ (Oper.mk (some 37) (Op.load 29 _) _ _ _ _ :: _) _ _; go_must (refine wpList_load_part rfl 29 _ rfl gb 15 32 rfl _ _ _ HKB.out Tryz.underlying29 rfl info_hash (by simp [HLY.out]) _ (y.ex_last HY.out.last) ?_))
  | (with_reducible show wpList _ _ _ (Oper.mk (some 38) (Op.binOp BinOp.neq _ _ _ _) _ _ _ _ :: _) _ _; go_must (refine wpList_neq_flat rfl 29 _ _ _ rfl (bv x.last) (bv y.last) rfl rfl 2 _ flat_hash (by omega) agg_hash guard_hash (fits_hash HX.out.last) (fits_hash HY.out.last) true (⟨fun _ => E5.out, fun _ => rfl⟩) ?_)))
 go_ret
 exact ⟨rfl, HB2.out⟩

set_option maxHeartbeats 4000000 in
theorem cmpSta_m (w : World) (x y : Sta) (hx : x.ok) (hy : y.ok) (hax : x.at w) (hay : y.at w) (hbig : x.sm) (e1 : x.chain = y.chain) (e2 : x.par.cl = y.par.cl) (e3 : x.height = y.height) (e4 : x.time = y.time) (e5 : bv x.last = bv y.last) (e6 : x.pn = y.pn) (e7 : x.on = y.on) :
  Calls Tryz.prog 26 #[.agg x.cl.toArray, .agg y.cl.toArray] w fun e w' => RetB e (Alike Pst.same x.ps y.ps ∧ x.os = y.os ∧ x.cou.ms = y.cou.ms ∧ x.next.ms = y.next.ms ∧ x.led.same y.led) ∧ Below w.heap.size w w' := by
 have HX := Lib.hid hx
 have HY := Lib.hid hy
 have HLX := Lib.hid (x.len hx.last)
 have HLY := Lib.hid (y.len hy.last)
 go_enter Tryz.func26, Tryz.ntmps26
 go_wp2_with (with_reducible show wpList _ _ _ (Oper.mk _ (Op.box _ _) _ _ _ _ :: _) _ _; refine wpList_box_i rfl _ _ rfl _ rfl ?_)
 intro ga w1 hk1 hb1 hg1 hs1
 go_wp2_with (with_reducible show wpList _ _ _ (Oper.mk _ (Op.box _ _) _ _ _ _ :: _) _ _; refine wpList_box_i rfl _ _ rfl _ rfl ?_)
 intro gb w2 hk2 hb2 hg2 hs2
 have HKA := Lib.hid ((bk_eqT (cs' := x.cl.toArray) hk1 rfl).below hb2 hk1.lt)
 have HKB := Lib.hid (bk_eqT (cs' := y.cl.toArray) hk2 rfl)
 have HB2 := Lib.hid (hb1.trans (hb2.mono hb1.size))
 have a0 : w2.cell? ⟨ga, 0, none⟩ = some (.string x.chain) := (HKA.out.cell 0)
 have b0 : w2.cell? ⟨gb, 0, none⟩ = some (.string y.chain) := (HKB.out.cell 0)
 have a13 : w2.cell? ⟨ga, 13, none⟩ = some (.int .u64 x.height) := (HKA.out.cell 13)
 have b13 : w2.cell? ⟨gb, 13, none⟩ = some (.int .u64 y.height) := (HKB.out.cell 13)
 have a14 : w2.cell? ⟨ga, 14, none⟩ = some (.int .u64 x.time) := (HKA.out.cell 14)
 have b14 : w2.cell? ⟨gb, 14, none⟩ = some (.int .u64 y.time) := (HKB.out.cell 14)
 have a49 : w2.cell? ⟨ga, 49, none⟩ = some (.slice x.pA x.pn x.pc) := (HKA.out.cell 49).trans (x.at_49 HX.out.last)
 have b49 : w2.cell? ⟨gb, 49, none⟩ = some (.slice y.pA y.pn y.pc) := (HKB.out.cell 49).trans (y.at_49 HY.out.last)
 have a50 : w2.cell? ⟨ga, 50, none⟩ = some (.slice x.oA x.on x.oc) := (HKA.out.cell 50).trans (x.at_50 HX.out.last)
 have b50 : w2.cell? ⟨gb, 50, none⟩ = some (.slice y.oA y.on y.oc) := (HKB.out.cell 50).trans (y.at_50 HY.out.last)
 have f1 : (x.chain.toList == y.chain.toList) = true := strC_same e1
 have E2 := Lib.hid e2
 have f3 : (x.height != y.height) = false := by simp [e3]
 have f4 : (x.time != y.time) = false := by simp [e4]
 have E5 := Lib.hid e5
 have f6 : ((x.pn : Int) != (y.pn : Int)) = false := by simp [e6]
 have g6 : (x.pn != y.pn) = false := by simp [e6]
 have f7 : ((x.on : Int) != (y.on : Int)) = false := by simp [e7]
 have g7 : (x.on != y.on) = false := by simp [e7]
 have HAX := Lib.hid hax
 have HBG := Lib.hid hbig
 have HAY := Lib.hid hay
 obtain ⟨A0, hA⟩ : ∃ A, x.pA = A := ⟨_, rfl⟩
 obtain ⟨n0, hn⟩ : ∃ n, x.pn = n := ⟨_, rfl⟩
 obtain ⟨c0, hc⟩ : ∃ c, x.pc = c := ⟨_, rfl⟩
 obtain ⟨l0, hl⟩ : ∃ l, x.ps = l := ⟨_, rfl⟩
 obtain ⟨B0, hB⟩ : ∃ A, y.pA = A := ⟨_, rfl⟩
 obtain ⟨d0, hd⟩ : ∃ c, y.pc = c := ⟨_, rfl⟩
 obtain ⟨m0, hm⟩ : ∃ l, y.ps = l := ⟨_, rfl⟩
 have XA0 := Lib.hid (show x.cl.toArray[49]? = some (.slice A0 n0 c0) by rw [x.at_49 HX.out.last, hA, hn, hc])
 have YA0 := Lib.hid (show y.cl.toArray[49]? = some (.slice B0 n0 d0) by rw [y.at_49 HY.out.last, hB, ← e6, hn, hd])
 have XN0 := Lib.hid (show n0 = l0.length by rw [← hn, ← hl]; exact HX.out.pn)
 have YN0 := Lib.hid (show n0 = m0.length by rw [← hn, ← hm, e6]; exact HY.out.pn)
 have XO0 := Lib.hid (show ∀ e ∈ l0, e.ok by rw [← hl]; exact HX.out.ps)
 have YO0 := Lib.hid (show ∀ e ∈ m0, e.ok by rw [← hm]; exact HY.out.ps)
 have XR0 := Lib.hid (show Rd w A0 (l0.flatMap Pst.cl) by rw [← hA, ← hl]; exact HAX.out.p)
 have YR0 := Lib.hid (show Rd w B0 (m0.flatMap Pst.cl) by rw [← hB, ← hm]; exact HAY.out.p)
 have XL0 := Lib.hid (show ∀ e ∈ l0, e.cl.length = 3 from fun e he => (show e.cl.length = 3 from rfl))
 have YL0 := Lib.hid (show ∀ e ∈ m0, e.cl.length = 3 from fun e he => (show e.cl.length = 3 from rfl))
 have XE0 := Lib.hid hl
 have YE0 := Lib.hid hm
 have XB0 := Lib.hid (show n0 ≤ 5000000000000 by rw [← hn]; exact hbig.p)
 clear hA hc hl hB hd hm hn
 obtain ⟨A1, hA⟩ : ∃ A, x.oA = A := ⟨_, rfl⟩
 obtain ⟨n1, hn⟩ : ∃ n, x.on = n := ⟨_, rfl⟩
 obtain ⟨c1, hc⟩ : ∃ c, x.oc = c := ⟨_, rfl⟩
 obtain ⟨l1, hl⟩ : ∃ l, x.os = l := ⟨_, rfl⟩
 obtain ⟨B1, hB⟩ : ∃ A, y.oA = A := ⟨_, rfl⟩
 obtain ⟨d1, hd⟩ : ∃ c, y.oc = c := ⟨_, rfl⟩
 obtain ⟨m1, hm⟩ : ∃ l, y.os = l := ⟨_, rfl⟩
 have XA1 := Lib.hid (show x.cl.toArray[50]? = some (.slice A1 n1 c1) by rw [x.at_50 HX.out.last, hA, hn, hc])
 have YA1 := Lib.hid (show y.cl.toArray[50]? = some (.slice B1 n1 d1) by rw [y.at_50 HY.out.last, hB, ← e7, hn, hd])
 have XN1 := Lib.hid (show n1 = l1.length by rw [← hn, ← hl]; exact HX.out.on)
 have YN1 := Lib.hid (show n1 = m1.length by rw [← hn, ← hm, e7]; exact HY.out.on)
 have XO1 := Lib.hid (show ∀ e ∈ l1, e.ok by rw [← hl]; exact HX.out.os)
 have YO1 := Lib.hid (show ∀ e ∈ m1, e.ok by rw [← hm]; exact HY.out.os)
 have XR1 := Lib.hid (show Rd w A1 (l1.flatMap Off.cl) by rw [← hA, ← hl]; exact HAX.out.o)
 have YR1 := Lib.hid (show Rd w B1 (m1.flatMap Off.cl) by rw [← hB, ← hm]; exact HAY.out.o)
 have XL1 := Lib.hid (show ∀ e ∈ l1, e.cl.length = 2 from fun e he => (show e.cl.length = 2 from rfl))
 have YL1 := Lib.hid (show ∀ e ∈ m1, e.cl.length = 2 from fun e he => (show e.cl.length = 2 from rfl))
 have XE1 := Lib.hid hl
 have YE1 := Lib.hid hm
 have XB1 := Lib.hid (show n1 ≤ 5000000000000 by rw [← hn]; exact hbig.o)
 clear hA hc hl hB hd hm hn
 clear hk1 hb1 hg1 hs1 hk2 hb2 hg2 hs2 e1 e2 e3 e4 e5 e6 e7 hx hy hax hay
 go_wp2_with (first
  | (with_reducible show wpList _ _ _ (Oper.mk (some 14) (Op.load 51 _) _ _ _ _ :: _) _ _; go_must (refine wpList_load_part rfl 51 _ rfl ga 1 12 rfl _ _ _ HKA.out Tryz.underlying51 rfl infoC_Par (by simp [HLX.out]) _ (x.ex_par HX.out) ?_))
  | (with_reducible show wpList _ _ _ (Oper.mk (some 16) (Op.load 51 _) _ _ _ _ :: _) _ _; go_must (refine wpList_load_part rfl 51 _ rfl gb 1 12 rfl _ _ _ HKB.out Tryz.underlying51 rfl infoC_Par (by simp [HLY.out]) _ (y.ex_par HY.out) ?_))
  | (with_reducible show wpList _ _ _ (Oper.mk (some 17) (Op.binOp BinOp.neq _ _ _ _) _ _ _ _ :: _) _ _; go_must (refine wpList_neq_flat rfl 51 _ _ _ rfl (x.par.cl) (y.par.cl) rfl rfl 3 _ flat_ParC (by omega) agg_ParC guard_ParC (fits_ParC HX.out.par) (fits_ParC HY.out.par) true (⟨fun _ => E2.out, fun _ => rfl⟩) ?_))
  | (with_reducible show wpList _ _ _ (Oper.mk (some 35) (Op.load 29 _) _ _ _ _ :: _) _ _; go_must (refine wpList_load_part rfl 29 _ rfl ga 15 32 rfl _ _ _ HKA.out Tryz.underlying29 rfl info_hash (by simp [HLX.out]) _ (x.ex_last HX.out.last) ?_))
  | (with_reducible show wpList _ _ _ (Oper.mk (some 37) (Op.load 29 _) _ _ _ _ :: _) _ _; go_must (refine wpList_load_part rfl 29 _ rfl gb 15 32 rfl _ _ _ HKB.out Tryz.underlying29 rfl info_hash (by simp [HLY.out]) _ (y.ex_last HY.out.last) ?_))
  | (with_reducible show wpList _ _ _ (Oper.mk (some 38) (Op.binOp BinOp.neq _ _ _ _) _ _ _ _ :: _) _ _; go_must (refine wpList_neq_flat rfl 29 _ _ _ rfl (bv x.last) (bv y.last) rfl rfl 2 _ flat_hash (by omega) agg_hash guard_hash (fits_hash HX.out.last) (fits_hash HY.out.last) true (⟨fun _ => E5.out, fun _ => rfl⟩) ?_)))
 clear a0 b0 a13 b13 a14 b14 a49 b49 a50 b50 f1 f3 f4 f6 g6 f7 g7
 go_loopw [5] (fun i wr => ∃ k : Nat, k ≤ n0 ∧ i = .int .i64 (k : Int) ∧ Bk wr ga x.cl.toArray 62 ∧ Bk wr gb y.cl.toArray 62 ∧ Below w.heap.size w wr ∧ Alike Pst.same (l0.take k) (m0.take k)) (fun i _ => n0 - (intOf i).toNat)
 case atStart => exact ⟨0, by omega, rfl, HKA.out, HKB.out, HB2.out, by simp [Alike]⟩
 case round =>
  clear HKA HKB HB2
  obtain ⟨k, hk, rfl, h4, h5, h6, h7⟩ := hrel
  have HKA := Lib.hid h4
  have HKB := Lib.hid h5
  have HW := Lib.hid h6
  have HEQ := Lib.hid h7
  have ca : wr.cell? ⟨ga, 49, none⟩ = some (.slice A0 n0 c0) := (h4.cell 49).trans XA0.out
  clear h4 h5 h6 h7
  by_cases hlt : k < n0
  ·have hkl : k < l0.length := by rw [← XN0.out]; exact hlt
   have hkm : k < m0.length := by rw [← YN0.out]; exact hlt
   obtain ⟨aa, hA, hcA⟩ := rd_elem (by omega) XL0.out (XR0.out.below HW.out) hkl
   obtain ⟨ab, hB, hcB⟩ := rd_elem (by omega) YL0.out (YR0.out.below HW.out) hkm
   obtain ⟨u, hu⟩ : ∃ u, l0[k] = u := ⟨_, rfl⟩
   obtain ⟨v, hv⟩ : ∃ v, m0[k] = v := ⟨_, rfl⟩
   have hum : u ∈ x.ps := by rw [XE0.out, ← hu]; exact List.getElem_mem hkl
   have hvm : v ∈ y.ps := by rw [YE0.out, ← hv]; exact List.getElem_mem hkm
   have HUO := Lib.hid (HX.out.ps u hum)
   have HVO := Lib.hid (HY.out.ps v hvm)
   have HUB := Lib.hid (HBG.out.ps u hum)
   have HUA := Lib.hid (fun (w4 : World) (hw4 : Below wr.heap.size wr.drew w4) => Rd.below (xs := u.cou.ms.flatMap Mem.cl) (HAX.out.pc u hum) (HW.out.trans (((Below.refl _ _).drew.trans hw4).mono HW.out.size)))
   have HVA := Lib.hid (fun (w4 : World) (hw4 : Below wr.heap.size wr.drew w4) => Rd.below (xs := v.cou.ms.flatMap Mem.cl) (HAY.out.pc v hvm) (HW.out.trans (((Below.refl _ _).drew.trans hw4).mono HW.out.size)))
   have HST := Lib.hid (fun (he : Pst.same u v) => alike_step HEQ.out hkl hkm (by rw [hu, hv]; exact he))
   have HNE := Lib.hid (fun (he : ¬ Pst.same u v) (h : Alike Pst.same x.ps y.ps) => he (by rw [← hu, ← hv]; exact alike_at (by rw [← XE0.out, ← YE0.out]; exact h) hkl hkm))
   rw [hu] at hcA
   rw [hv] at hcB
   have HCA := Lib.hid hcA
   have HCB := Lib.hid hcB
   subst hA hB
   have HKAD := Lib.hid (show Bk wr.drew ga x.cl.toArray 62 from HKA.out.drew)
   have HKBD := Lib.hid (show Bk wr.drew gb y.cl.toArray 62 from HKB.out.drew)
   clear hcA hcB hu hv hum hvm
   have hi : (k : Int) < n0 := by omega
   have p1 : IntKind.i64.wrap ((k : Int) + 1) = (k : Int) + 1 := by rw [IntKind.wrap_i64]; have := XB0.out; omega
   obtain ⟨r, hr⟩ := same_bool (u.cou.ms = v.cou.ms)
   have HR := Lib.hid hr
   clear hr
   by_cases hh : u.height = v.height
   ·by_cases ht : u.time = v.time
    ·have HHT := Lib.hid (And.intro hh ht)
     have f1 : (u.height != v.height) = false := by simp [hh]
     have f2 : (u.time != v.time) = false := by simp [ht]
     clear hh ht
     go_wp2_with fail
     refine wp_region_freeG [(65, []), (66, [(0, 65)]), (67, []), (68, [(1, 66), (2, 67)]), (69, [(3, 68)]), (70, [(4, 69)]), (71, []), (72, [(6, 71)]), (73, []), (74, [(7, 72), (8, 73)]), (75, [(9, 74)]), (76, [(10, 75)]), (77, [(5, 70), (11, 76)]), (78, [(12, 77)]), (79, [(13, 78)]), (80, [(14, 79), (13, 78)]), (81, [(13, 78)]), (82, [(15, 80), (16, 81), (13, 78)]), (83, [(17, 82), (13, 78)]), (84, [(18, 83), (13, 78)]), (85, [(13, 78)]), (86, [(20, 85), (13, 78)]), (87, [(13, 78)]), (88, [(21, 86), (22, 87), (13, 78)]), (89, [(23, 88), (13, 78)]), (90, [(24, 89), (13, 78)]), (91, [(19, 84), (25, 90), (13, 78)]), (92, [(13, 78), (26, 91)]), (93, [(27, 92)]), (94, [(28, 93)]), (95, [(29, 94), (28, 93)]), (96, [(28, 93)]), (97, [(30, 95), (31, 96), (28, 93)]), (98, [(32, 97), (28, 93)]), (99, [(33, 98), (28, 93)]), (100, [(28, 93)]), (101, [(35, 100), (28, 93)]), (102, [(28, 93)]), (103, [(36, 101), (37, 102), (28, 93)]), (104, [(38, 103), (28, 93)]), (105, [(39, 104), (28, 93)]), (106, [(34, 99), (40, 105), (28, 93)]), (107, [(41, 106), (28, 93)])]
      [Is (.pointer (some ⟨ga, 49, none⟩)), Is (.slice (some aa) n0 c0), Is (.int .i64 (k : Int)), Is (.pointer (some (aa.add (k * 3)))), Is (.pointer (some ((aa.add (k * 3)).add 0))), Is (.int .u64 u.height), Is (.pointer (some ⟨gb, 49, none⟩)), Is (.slice (some ab) n0 d0), Is (.int .i64 (k : Int)), Is (.pointer (some (ab.add (k * 3)))), Is (.pointer (some ((ab.add (k * 3)).add 0))), Is (.int .u64 v.height), Is (.bool false), Is (.bool false), Is (.pointer (some ⟨ga, 49, none⟩)), Is (.slice (some aa) n0 c0), Is (.int .i64 (k : Int)), Is (.pointer (some (aa.add (k * 3)))), Is (.pointer (some ((aa.add (k * 3)).add 1))), Is (.int .u64 u.time), Is (.pointer (some ⟨gb, 49, none⟩)), Is (.slice (some ab) n0 d0), Is (.int .i64 (k : Int)), Is (.pointer (some (ab.add (k * 3)))), Is (.pointer (some ((ab.add (k * 3)).add 1))), Is (.int .u64 v.time), Is (.bool false), Is (.bool false), Is (.bool false), Is (.pointer (some ⟨ga, 49, none⟩)), Is (.slice (some aa) n0 c0), Is (.int .i64 (k : Int)), Is (.pointer (some (aa.add (k * 3)))), Is (.pointer (some ((aa.add (k * 3)).add 2))), Is (.agg u.cou.cl.toArray), Is (.pointer (some ⟨gb, 49, none⟩)), Is (.slice (some ab) n0 d0), Is (.int .i64 (k : Int)), Is (.pointer (some (ab.add (k * 3)))), Is (.pointer (some ((ab.add (k * 3)).add 2))), Is (.agg v.cou.cl.toArray), Is (.bool r), Is (.bool (!r))]
      (by kernel_rfl) (by kernel_rfl) (by rfl) ?st ?steps ?fin
     case st => exact ⟨Is.steady _, Is.steady _, Is.steady _, Is.steady _, Is.steady _, Is.steady _, Is.steady _, Is.steady _, Is.steady _, Is.steady _, Is.steady _, Is.steady _, Is.steady _, Is.steady _, Is.steady _, Is.steady _, Is.steady _, Is.steady _, Is.steady _, Is.steady _, Is.steady _, Is.steady _, Is.steady _, Is.steady _, Is.steady _, Is.steady _, Is.steady _, Is.steady _, Is.steady _, Is.steady _, Is.steady _, Is.steady _, Is.steady _, Is.steady _, Is.steady _, Is.steady _, Is.steady _, Is.steady _, Is.steady _, Is.steady _, Is.steady _, Is.steady _, Is.steady _, trivial⟩
     case steps =>
      refine fcA (fun w4 hw4 => ?_) ?_
      ·refine foA rfl rfl ?_; (try simp only [Act.put, zA, zB, zC]); (go_wp2_with fail); exact qsA rfl rfl
      refine fcA (fun w4 hw4 => fiA rfl ?_) ?_
      ·have c : w4.cell? ⟨ga, 49, none⟩ = some (.slice (some aa) n0 c0) := ((HKAD.out.below hw4 HKAD.out.lt).cell 49).trans XA0.out
       refine foA rfl rfl ?_; (try simp only [Act.put, zA, zB, zC]); (go_wp2_with fail); exact qsA rfl rfl
      refine fcA (fun w4 hw4 => ?_) ?_
      ·refine foA rfl rfl ?_; (try simp only [Act.put, zA, zB, zC]); (go_wp2_with fail); exact qsA rfl rfl
      refine fcA (fun w4 hw4 => fiA rfl (fiA rfl ?_)) ?_
      ·refine foA rfl rfl ?_; (try simp only [Act.put, zA, zB, zC]); (go_wp2_with fail); exact qsA rfl rfl
      refine fcA (fun w4 hw4 => fiA rfl ?_) ?_
      ·refine foA rfl rfl ?_; (try simp only [Act.put, zA, zB, zC]); (go_wp2_with fail); exact qsA rfl rfl
      refine fcA (fun w4 hw4 => fiA rfl ?_) ?_
      ·refine FreeStep.op rfl rfl ?_
       (try simp only [Act.put, zA, zB, zC])
       refine wpList_load_one rfl 22 _ rfl ((aa.add (k * 3)).add 0) rfl (.int .u64 u.height) (cell_keepB (w0 := wr) (HCA.out 0 _ rfl) hw4) _ Tryz.underlying22 (by kernel_rfl) ?_
       exact QStep.mk rfl (Below.refl _ _) rfl
      refine fcA (fun w4 hw4 => ?_) ?_
      ·refine foA rfl rfl ?_; (try simp only [Act.put, zA, zB, zC]); (go_wp2_with fail); exact qsA rfl rfl
      refine fcA (fun w4 hw4 => fiA rfl ?_) ?_
      ·have c : w4.cell? ⟨gb, 49, none⟩ = some (.slice (some ab) n0 d0) := ((HKBD.out.below hw4 HKBD.out.lt).cell 49).trans YA0.out
       refine foA rfl rfl ?_; (try simp only [Act.put, zA, zB, zC]); (go_wp2_with fail); exact qsA rfl rfl
      refine fcA (fun w4 hw4 => ?_) ?_
      ·refine foA rfl rfl ?_; (try simp only [Act.put, zA, zB, zC]); (go_wp2_with fail); exact qsA rfl rfl
      refine fcA (fun w4 hw4 => fiA rfl (fiA rfl ?_)) ?_
      ·refine foA rfl rfl ?_; (try simp only [Act.put, zA, zB, zC]); (go_wp2_with fail); exact qsA rfl rfl
      refine fcA (fun w4 hw4 => fiA rfl ?_) ?_
      ·refine foA rfl rfl ?_; (try simp only [Act.put, zA, zB, zC]); (go_wp2_with fail); exact qsA rfl rfl
      refine fcA (fun w4 hw4 => fiA rfl ?_) ?_
      ·refine FreeStep.op rfl rfl ?_
       (try simp only [Act.put, zA, zB, zC])
       refine wpList_load_one rfl 22 _ rfl ((ab.add (k * 3)).add 0) rfl (.int .u64 v.height) (cell_keepB (w0 := wr) (HCB.out 0 _ rfl) hw4) _ Tryz.underlying22 (by kernel_rfl) ?_
       exact QStep.mk rfl (Below.refl _ _) rfl
      refine fcA (fun w4 hw4 => fiA rfl (fiA rfl ?_)) ?_
      ·refine foA rfl rfl ?_; (try simp only [Act.put, zA, zB, zC]); (go_wp2_with fail); exact qsA rfl rfl
      refine fcA (fun w4 hw4 => fiA rfl ?_) ?_
      ·refine foA rfl rfl ?_; (try simp only [Act.put, zA, zB, zC]); (go_wp2_with fail); exact qsA rfl rfl
      refine fcA (fun w4 hw4 => fiA rfl ?_) ?_
      ·refine foA rfl rfl ?_; (try simp only [Act.put, zA, zB, zC]); (go_wp2_with fail); exact qsA rfl rfl
      refine fcA (fun w4 hw4 => fiA rfl (fiA rfl ?_)) ?_
      ·have c : w4.cell? ⟨ga, 49, none⟩ = some (.slice (some aa) n0 c0) := ((HKAD.out.below hw4 HKAD.out.lt).cell 49).trans XA0.out
       refine foA rfl rfl ?_; (try simp only [Act.put, zA, zB, zC]); (go_wp2_with fail); exact qsA rfl rfl
      refine fcA (fun w4 hw4 => fiA rfl ?_) ?_
      ·refine foA rfl rfl ?_; (try simp only [Act.put, zA, zB, zC]); (go_wp2_with fail); exact qsA rfl rfl
      refine fcA (fun w4 hw4 => fiA rfl (fiA rfl (fiA rfl ?_))) ?_
      ·refine foA rfl rfl ?_; (try simp only [Act.put, zA, zB, zC]); (go_wp2_with fail); exact qsA rfl rfl
      refine fcA (fun w4 hw4 => fiA rfl (fiA rfl ?_)) ?_
      ·refine foA rfl rfl ?_; (try simp only [Act.put, zA, zB, zC]); (go_wp2_with fail); exact qsA rfl rfl
      refine fcA (fun w4 hw4 => fiA rfl (fiA rfl ?_)) ?_
      ·refine FreeStep.op rfl rfl ?_
       (try simp only [Act.put, zA, zB, zC])
       refine wpList_load_one rfl 22 _ rfl ((aa.add (k * 3)).add 1) rfl (.int .u64 u.time) (cell_keepB (w0 := wr) (HCA.out 1 _ rfl) hw4) _ Tryz.underlying22 (by kernel_rfl) ?_
       exact QStep.mk rfl (Below.refl _ _) rfl
      refine fcA (fun w4 hw4 => fiA rfl ?_) ?_
      ·refine foA rfl rfl ?_; (try simp only [Act.put, zA, zB, zC]); (go_wp2_with fail); exact qsA rfl rfl
      refine fcA (fun w4 hw4 => fiA rfl (fiA rfl ?_)) ?_
      ·have c : w4.cell? ⟨gb, 49, none⟩ = some (.slice (some ab) n0 d0) := ((HKBD.out.below hw4 HKBD.out.lt).cell 49).trans YA0.out
       refine foA rfl rfl ?_; (try simp only [Act.put, zA, zB, zC]); (go_wp2_with fail); exact qsA rfl rfl
      refine fcA (fun w4 hw4 => fiA rfl ?_) ?_
      ·refine foA rfl rfl ?_; (try simp only [Act.put, zA, zB, zC]); (go_wp2_with fail); exact qsA rfl rfl
      refine fcA (fun w4 hw4 => fiA rfl (fiA rfl (fiA rfl ?_))) ?_
      ·refine foA rfl rfl ?_; (try simp only [Act.put, zA, zB, zC]); (go_wp2_with fail); exact qsA rfl rfl
      refine fcA (fun w4 hw4 => fiA rfl (fiA rfl ?_)) ?_
      ·refine foA rfl rfl ?_; (try simp only [Act.put, zA, zB, zC]); (go_wp2_with fail); exact qsA rfl rfl
      refine fcA (fun w4 hw4 => fiA rfl (fiA rfl ?_)) ?_
      ·refine FreeStep.op rfl rfl ?_
       (try simp only [Act.put, zA, zB, zC])
       refine wpList_load_one rfl 22 _ rfl ((ab.add (k * 3)).add 1) rfl (.int .u64 v.time) (cell_keepB (w0 := wr) (HCB.out 1 _ rfl) hw4) _ Tryz.underlying22 (by kernel_rfl) ?_
       exact QStep.mk rfl (Below.refl _ _) rfl
      refine fcA (fun w4 hw4 => fiA rfl (fiA rfl (fiA rfl ?_))) ?_
      ·refine foA rfl rfl ?_; (try simp only [Act.put, zA, zB, zC]); (go_wp2_with fail); exact qsA rfl rfl
      refine fcA (fun w4 hw4 => fiA rfl (fiA rfl ?_)) ?_
      ·refine foA rfl rfl ?_; (try simp only [Act.put, zA, zB, zC]); (go_wp2_with fail); exact qsA rfl rfl
      refine fcA (fun w4 hw4 => fiA rfl ?_) ?_
      ·refine foA rfl rfl ?_; (try simp only [Act.put, zA, zB, zC]); (go_wp2_with fail); exact qsA rfl rfl
      refine fcA (fun w4 hw4 => fiA rfl ?_) ?_
      ·refine foA rfl rfl ?_; (try simp only [Act.put, zA, zB, zC]); (go_wp2_with fail); exact qsA rfl rfl
      refine fcA (fun w4 hw4 => fiA rfl (fiA rfl ?_)) ?_
      ·have c : w4.cell? ⟨ga, 49, none⟩ = some (.slice (some aa) n0 c0) := ((HKAD.out.below hw4 HKAD.out.lt).cell 49).trans XA0.out
       refine foA rfl rfl ?_; (try simp only [Act.put, zA, zB, zC]); (go_wp2_with fail); exact qsA rfl rfl
      refine fcA (fun w4 hw4 => fiA rfl ?_) ?_
      ·refine foA rfl rfl ?_; (try simp only [Act.put, zA, zB, zC]); (go_wp2_with fail); exact qsA rfl rfl
      refine fcA (fun w4 hw4 => fiA rfl (fiA rfl (fiA rfl ?_))) ?_
      ·refine foA rfl rfl ?_; (try simp only [Act.put, zA, zB, zC]); (go_wp2_with fail); exact qsA rfl rfl
      refine fcA (fun w4 hw4 => fiA rfl (fiA rfl ?_)) ?_
      ·refine foA rfl rfl ?_; (try simp only [Act.put, zA, zB, zC]); (go_wp2_with fail); exact qsA rfl rfl
      refine fcA (fun w4 hw4 => fiA rfl (fiA rfl ?_)) ?_
      ·refine FreeStep.op rfl rfl ?_
       (try simp only [Act.put, zA, zB, zC])
       refine wpList_load_at rfl 54 _ rfl ((aa.add (k * 3)).add 2) 1 rfl u.cou.cl (fun j z hz => cell_keepB (w0 := wr) (cou_cell HCA.out j z hz) hw4) _ Tryz.underlying54 rfl infoC_Cou rfl ?_
       exact QStep.mk rfl (Below.refl _ _) rfl
      refine fcA (fun w4 hw4 => fiA rfl ?_) ?_
      ·refine foA rfl rfl ?_; (try simp only [Act.put, zA, zB, zC]); (go_wp2_with fail); exact qsA rfl rfl
      refine fcA (fun w4 hw4 => fiA rfl (fiA rfl ?_)) ?_
      ·have c : w4.cell? ⟨gb, 49, none⟩ = some (.slice (some ab) n0 d0) := ((HKBD.out.below hw4 HKBD.out.lt).cell 49).trans YA0.out
       refine foA rfl rfl ?_; (try simp only [Act.put, zA, zB, zC]); (go_wp2_with fail); exact qsA rfl rfl
      refine fcA (fun w4 hw4 => fiA rfl ?_) ?_
      ·refine foA rfl rfl ?_; (try simp only [Act.put, zA, zB, zC]); (go_wp2_with fail); exact qsA rfl rfl
      refine fcA (fun w4 hw4 => fiA rfl (fiA rfl (fiA rfl ?_))) ?_
      ·refine foA rfl rfl ?_; (try simp only [Act.put, zA, zB, zC]); (go_wp2_with fail); exact qsA rfl rfl
      refine fcA (fun w4 hw4 => fiA rfl (fiA rfl ?_)) ?_
      ·refine foA rfl rfl ?_; (try simp only [Act.put, zA, zB, zC]); (go_wp2_with fail); exact qsA rfl rfl
      refine fcA (fun w4 hw4 => fiA rfl (fiA rfl ?_)) ?_
      ·refine FreeStep.op rfl rfl ?_
       (try simp only [Act.put, zA, zB, zC])
       refine wpList_load_at rfl 54 _ rfl ((ab.add (k * 3)).add 2) 1 rfl v.cou.cl (fun j z hz => cell_keepB (w0 := wr) (cou_cell HCB.out j z hz) hw4) _ Tryz.underlying54 rfl infoC_Cou rfl ?_
       exact QStep.mk rfl (Below.refl _ _) rfl
      refine fcA (fun w4 hw4 => fiA rfl (fiA rfl (fiA rfl ?_))) ?_
      ·refine FreeStep.op rfl rfl ?_
       (try simp only [Act.put, zA, zB, zC])
       go_wp2_with fail
       refine (cmpCou w4 u.cou v.cou HUO.out.cou HVO.out.cou (HUA.out w4 hw4) (HVA.out w4 hw4) HUB.out).mono ?_
       rintro e w5 ⟨⟨r1, rfl, hr⟩, hb5⟩
       obtain rfl : r1 = r := bool_eq (hr.trans HR.out.symm)
       have HB5 := Lib.hid hb5
       clear hr hb5
       go_wp2_with fail
       exact QStep.mk rfl HB5.out rfl
      refine fcA (fun w4 hw4 => fiA rfl (fiA rfl ?_)) ?_
      ·refine foA rfl rfl ?_; (try simp only [Act.put, zA, zB, zC]); (go_wp2_with fail); exact qsA rfl rfl
      exact FreeSteps.nil
     case fin =>
      intro w4 hw4
      iterate 43 refine FreeEnd.is rfl ?_
      refine FreeEnd.nil ?_
      (try simp only [Act.put, zA, zB, zC])
      simp only [List.length_cons, List.length_nil, Nat.reduceAdd, List.drop_succ_cons, List.drop_zero]
      have HW4 := Lib.hid (show Below wr.heap.size wr w4 from (Below.refl _ _).drew.trans hw4)
      clear hw4
      cases r with
      | true =>
       go_wp2
       go_round
       case rel => exact ⟨k + 1, by omega, by go_num, HKA.out.below HW4.out HKA.out.lt, HKB.out.below HW4.out HKB.out.lt, HW.out.trans (HW4.out.mono HW.out.size), HST.out ⟨HHT.out.1, HHT.out.2, HR.out.1 (by simp)⟩⟩
       case measure => simp [intOf]; omega
      | false =>
       go_wp2
       go_ret
       exact ⟨RetB.no fun h => HNE.out (fun he => by have := HR.out.2 he.ms; cases this) h.1, HW.out.trans (HW4.out.mono HW.out.size)⟩
    ·have HHT := Lib.hid ht
     have f1 : (u.height != v.height) = false := by simp [hh]
     have f2 : (u.time != v.time) = true := by simpa using ht
     clear hh ht
     go_wp2_with fail
     refine wp_region_freeG [(65, []), (66, [(0, 65)]), (67, []), (68, [(1, 66), (2, 67)]), (69, [(3, 68)]), (70, [(4, 69)]), (71, []), (72, [(6, 71)]), (73, []), (74, [(7, 72), (8, 73)]), (75, [(9, 74)]), (76, [(10, 75)]), (77, [(5, 70), (11, 76)]), (78, [(12, 77)]), (79, [(13, 78)]), (80, [(14, 79), (13, 78)]), (81, [(13, 78)]), (82, [(15, 80), (16, 81), (13, 78)]), (83, [(17, 82), (13, 78)]), (84, [(18, 83), (13, 78)]), (85, [(13, 78)]), (86, [(20, 85), (13, 78)]), (87, [(13, 78)]), (88, [(21, 86), (22, 87), (13, 78)]), (89, [(23, 88), (13, 78)]), (90, [(24, 89), (13, 78)]), (91, [(19, 84), (25, 90), (13, 78)]), (92, [(13, 78), (26, 91)]), (93, [(27, 92)]), (94, [(28, 93)]), (95, [(29, 94), (28, 93)]), (96, [(28, 93)]), (97, [(30, 95), (31, 96), (28, 93)]), (98, [(32, 97), (28, 93)]), (99, [(33, 98), (28, 93)]), (100, [(28, 93)]), (101, [(35, 100), (28, 93)]), (102, [(28, 93)]), (103, [(36, 101), (37, 102), (28, 93)]), (104, [(38, 103), (28, 93)]), (105, [(39, 104), (28, 93)]), (106, [(34, 99), (40, 105), (28, 93)]), (107, [(41, 106), (28, 93)])]
      [Is (.pointer (some ⟨ga, 49, none⟩)), Is (.slice (some aa) n0 c0), Is (.int .i64 (k : Int)), Is (.pointer (some (aa.add (k * 3)))), Is (.pointer (some ((aa.add (k * 3)).add 0))), Is (.int .u64 u.height), Is (.pointer (some ⟨gb, 49, none⟩)), Is (.slice (some ab) n0 d0), Is (.int .i64 (k : Int)), Is (.pointer (some (ab.add (k * 3)))), Is (.pointer (some ((ab.add (k * 3)).add 0))), Is (.int .u64 v.height), Is (.bool false), Is (.bool false), Is (.pointer (some ⟨ga, 49, none⟩)), Is (.slice (some aa) n0 c0), Is (.int .i64 (k : Int)), Is (.pointer (some (aa.add (k * 3)))), Is (.pointer (some ((aa.add (k * 3)).add 1))), Is (.int .u64 u.time), Is (.pointer (some ⟨gb, 49, none⟩)), Is (.slice (some ab) n0 d0), Is (.int .i64 (k : Int)), Is (.pointer (some (ab.add (k * 3)))), Is (.pointer (some ((ab.add (k * 3)).add 1))), Is (.int .u64 v.time), Is (.bool true), Is (.bool true), Is (.bool true), Is undef, Is undef, Is undef, Is undef, Is undef, Is undef, Is undef, Is undef, Is undef, Is undef, Is undef, Is undef, Is undef, Is undef]
      (by kernel_rfl) (by kernel_rfl) (by rfl) ?st ?steps ?fin
     case st => exact ⟨Is.steady _, Is.steady _, Is.steady _, Is.steady _, Is.steady _, Is.steady _, Is.steady _, Is.steady _, Is.steady _, Is.steady _, Is.steady _, Is.steady _, Is.steady _, Is.steady _, Is.steady _, Is.steady _, Is.steady _, Is.steady _, Is.steady _, Is.steady _, Is.steady _, Is.steady _, Is.steady _, Is.steady _, Is.steady _, Is.steady _, Is.steady _, Is.steady _, Is.steady _, Is.steady _, Is.steady _, Is.steady _, Is.steady _, Is.steady _, Is.steady _, Is.steady _, Is.steady _, Is.steady _, Is.steady _, Is.steady _, Is.steady _, Is.steady _, Is.steady _, trivial⟩
     case steps =>
      refine fcA (fun w4 hw4 => ?_) ?_
      ·refine foA rfl rfl ?_; (try simp only [Act.put, zA, zB, zC]); (go_wp2_with fail); exact qsA rfl rfl
      refine fcA (fun w4 hw4 => fiA rfl ?_) ?_
      ·have c : w4.cell? ⟨ga, 49, none⟩ = some (.slice (some aa) n0 c0) := ((HKAD.out.below hw4 HKAD.out.lt).cell 49).trans XA0.out
       refine foA rfl rfl ?_; (try simp only [Act.put, zA, zB, zC]); (go_wp2_with fail); exact qsA rfl rfl
      refine fcA (fun w4 hw4 => ?_) ?_
      ·refine foA rfl rfl ?_; (try simp only [Act.put, zA, zB, zC]); (go_wp2_with fail); exact qsA rfl rfl
      refine fcA (fun w4 hw4 => fiA rfl (fiA rfl ?_)) ?_
      ·refine foA rfl rfl ?_; (try simp only [Act.put, zA, zB, zC]); (go_wp2_with fail); exact qsA rfl rfl
      refine fcA (fun w4 hw4 => fiA rfl ?_) ?_
      ·refine foA rfl rfl ?_; (try simp only [Act.put, zA, zB, zC]); (go_wp2_with fail); exact qsA rfl rfl
      refine fcA (fun w4 hw4 => fiA rfl ?_) ?_
      ·refine FreeStep.op rfl rfl ?_
       (try simp only [Act.put, zA, zB, zC])
       refine wpList_load_one rfl 22 _ rfl ((aa.add (k * 3)).add 0) rfl (.int .u64 u.height) (cell_keepB (w0 := wr) (HCA.out 0 _ rfl) hw4) _ Tryz.underlying22 (by kernel_rfl) ?_
       exact QStep.mk rfl (Below.refl _ _) rfl
      refine fcA (fun w4 hw4 => ?_) ?_
      ·refine foA rfl rfl ?_; (try simp only [Act.put, zA, zB, zC]); (go_wp2_with fail); exact qsA rfl rfl
      refine fcA (fun w4 hw4 => fiA rfl ?_) ?_
      ·have c : w4.cell? ⟨gb, 49, none⟩ = some (.slice (some ab) n0 d0) := ((HKBD.out.below hw4 HKBD.out.lt).cell 49).trans YA0.out
       refine foA rfl rfl ?_; (try simp only [Act.put, zA, zB, zC]); (go_wp2_with fail); exact qsA rfl rfl
      refine fcA (fun w4 hw4 => ?_) ?_
      ·refine foA rfl rfl ?_; (try simp only [Act.put, zA, zB, zC]); (go_wp2_with fail); exact qsA rfl rfl
      refine fcA (fun w4 hw4 => fiA rfl (fiA rfl ?_)) ?_
      ·refine foA rfl rfl ?_; (try simp only [Act.put, zA, zB, zC]); (go_wp2_with fail); exact qsA rfl rfl
      refine fcA (fun w4 hw4 => fiA rfl ?_) ?_
      ·refine foA rfl rfl ?_; (try simp only [Act.put, zA, zB, zC]); (go_wp2_with fail); exact qsA rfl rfl
      refine fcA (fun w4 hw4 => fiA rfl ?_) ?_
      ·refine FreeStep.op rfl rfl ?_
       (try simp only [Act.put, zA, zB, zC])
       refine wpList_load_one rfl 22 _ rfl ((ab.add (k * 3)).add 0) rfl (.int .u64 v.height) (cell_keepB (w0 := wr) (HCB.out 0 _ rfl) hw4) _ Tryz.underlying22 (by kernel_rfl) ?_
       exact QStep.mk rfl (Below.refl _ _) rfl
      refine fcA (fun w4 hw4 => fiA rfl (fiA rfl ?_)) ?_
      ·refine foA rfl rfl ?_; (try simp only [Act.put, zA, zB, zC]); (go_wp2_with fail); exact qsA rfl rfl
      refine fcA (fun w4 hw4 => fiA rfl ?_) ?_
      ·refine foA rfl rfl ?_; (try simp only [Act.put, zA, zB, zC]); (go_wp2_with fail); exact qsA rfl rfl
      refine fcA (fun w4 hw4 => fiA rfl ?_) ?_
      ·refine foA rfl rfl ?_; (try simp only [Act.put, zA, zB, zC]); (go_wp2_with fail); exact qsA rfl rfl
      refine fcA (fun w4 hw4 => fiA rfl (fiA rfl ?_)) ?_
      ·have c : w4.cell? ⟨ga, 49, none⟩ = some (.slice (some aa) n0 c0) := ((HKAD.out.below hw4 HKAD.out.lt).cell 49).trans XA0.out
       refine foA rfl rfl ?_; (try simp only [Act.put, zA, zB, zC]); (go_wp2_with fail); exact qsA rfl rfl
      refine fcA (fun w4 hw4 => fiA rfl ?_) ?_
      ·refine foA rfl rfl ?_; (try simp only [Act.put, zA, zB, zC]); (go_wp2_with fail); exact qsA rfl rfl
      refine fcA (fun w4 hw4 => fiA rfl (fiA rfl (fiA rfl ?_))) ?_
      ·refine foA rfl rfl ?_; (try simp only [Act.put, zA, zB, zC]); (go_wp2_with fail); exact qsA rfl rfl
      refine fcA (fun w4 hw4 => fiA rfl (fiA rfl ?_)) ?_
      ·refine foA rfl rfl ?_; (try simp only [Act.put, zA, zB, zC]); (go_wp2_with fail); exact qsA rfl rfl
      refine fcA (fun w4 hw4 => fiA rfl (fiA rfl ?_)) ?_
      ·refine FreeStep.op rfl rfl ?_
       (try simp only [Act.put, zA, zB, zC])
       refine wpList_load_one rfl 22 _ rfl ((aa.add (k * 3)).add 1) rfl (.int .u64 u.time) (cell_keepB (w0 := wr) (HCA.out 1 _ rfl) hw4) _ Tryz.underlying22 (by kernel_rfl) ?_
       exact QStep.mk rfl (Below.refl _ _) rfl
      refine fcA (fun w4 hw4 => fiA rfl ?_) ?_
      ·refine foA rfl rfl ?_; (try simp only [Act.put, zA, zB, zC]); (go_wp2_with fail); exact qsA rfl rfl
      refine fcA (fun w4 hw4 => fiA rfl (fiA rfl ?_)) ?_
      ·have c : w4.cell? ⟨gb, 49, none⟩ = some (.slice (some ab) n0 d0) := ((HKBD.out.below hw4 HKBD.out.lt).cell 49).trans YA0.out
       refine foA rfl rfl ?_; (try simp only [Act.put, zA, zB, zC]); (go_wp2_with fail); exact qsA rfl rfl
      refine fcA (fun w4 hw4 => fiA rfl ?_) ?_
      ·refine foA rfl rfl ?_; (try simp only [Act.put, zA, zB, zC]); (go_wp2_with fail); exact qsA rfl rfl
      refine fcA (fun w4 hw4 => fiA rfl (fiA rfl (fiA rfl ?_))) ?_
      ·refine foA rfl rfl ?_; (try simp only [Act.put, zA, zB, zC]); (go_wp2_with fail); exact qsA rfl rfl
      refine fcA (fun w4 hw4 => fiA rfl (fiA rfl ?_)) ?_
      ·refine foA rfl rfl ?_; (try simp only [Act.put, zA, zB, zC]); (go_wp2_with fail); exact qsA rfl rfl
      refine fcA (fun w4 hw4 => fiA rfl (fiA rfl ?_)) ?_
      ·refine FreeStep.op rfl rfl ?_
       (try simp only [Act.put, zA, zB, zC])
       refine wpList_load_one rfl 22 _ rfl ((ab.add (k * 3)).add 1) rfl (.int .u64 v.time) (cell_keepB (w0 := wr) (HCB.out 1 _ rfl) hw4) _ Tryz.underlying22 (by kernel_rfl) ?_
       exact QStep.mk rfl (Below.refl _ _) rfl
      refine fcA (fun w4 hw4 => fiA rfl (fiA rfl (fiA rfl ?_))) ?_
      ·refine foA rfl rfl ?_; (try simp only [Act.put, zA, zB, zC]); (go_wp2_with fail); exact qsA rfl rfl
      refine fcA (fun w4 hw4 => fiA rfl (fiA rfl ?_)) ?_
      ·refine foA rfl rfl ?_; (try simp only [Act.put, zA, zB, zC]); (go_wp2_with fail); exact qsA rfl rfl
      refine fcA (fun w4 hw4 => fiA rfl ?_) ?_
      ·refine foA rfl rfl ?_; (try simp only [Act.put, zA, zB, zC]); (go_wp2_with fail); exact qsA rfl rfl
      refine fcA (fun w4 hw4 => fiA rfl ?_) ?_
      ·refine foA rfl rfl ?_; (try simp only [Act.put, zA, zB, zC]); (go_wp2_with fail); exact qsA rfl rfl
      refine fcA (fun w4 hw4 => fiA rfl (fiA rfl ?_)) ?_
      ·refine foA rfl rfl ?_; (try simp only [Act.put, zA, zB, zC]); (go_wp2_with fail); exact qsA rfl rfl
      refine fcA (fun w4 hw4 => fiA rfl ?_) ?_
      ·refine foA rfl rfl ?_; (try simp only [Act.put, zA, zB, zC]); (go_wp2_with fail); exact qsA rfl rfl
      refine fcA (fun w4 hw4 => fiA rfl (fiA rfl (fiA rfl ?_))) ?_
      ·refine foA rfl rfl ?_; (try simp only [Act.put, zA, zB, zC]); (go_wp2_with fail); exact qsA rfl rfl
      refine fcA (fun w4 hw4 => fiA rfl (fiA rfl ?_)) ?_
      ·refine foA rfl rfl ?_; (try simp only [Act.put, zA, zB, zC]); (go_wp2_with fail); exact qsA rfl rfl
      refine fcA (fun w4 hw4 => fiA rfl (fiA rfl ?_)) ?_
      ·refine foA rfl rfl ?_; (try simp only [Act.put, zA, zB, zC]); (go_wp2_with fail); exact qsA rfl rfl
      refine fcA (fun w4 hw4 => fiA rfl ?_) ?_
      ·refine foA rfl rfl ?_; (try simp only [Act.put, zA, zB, zC]); (go_wp2_with fail); exact qsA rfl rfl
      refine fcA (fun w4 hw4 => fiA rfl (fiA rfl ?_)) ?_
      ·refine foA rfl rfl ?_; (try simp only [Act.put, zA, zB, zC]); (go_wp2_with fail); exact qsA rfl rfl
      refine fcA (fun w4 hw4 => fiA rfl ?_) ?_
      ·refine foA rfl rfl ?_; (try simp only [Act.put, zA, zB, zC]); (go_wp2_with fail); exact qsA rfl rfl
      refine fcA (fun w4 hw4 => fiA rfl (fiA rfl (fiA rfl ?_))) ?_
      ·refine foA rfl rfl ?_; (try simp only [Act.put, zA, zB, zC]); (go_wp2_with fail); exact qsA rfl rfl
      refine fcA (fun w4 hw4 => fiA rfl (fiA rfl ?_)) ?_
      ·refine foA rfl rfl ?_; (try simp only [Act.put, zA, zB, zC]); (go_wp2_with fail); exact qsA rfl rfl
      refine fcA (fun w4 hw4 => fiA rfl (fiA rfl ?_)) ?_
      ·refine foA rfl rfl ?_; (try simp only [Act.put, zA, zB, zC]); (go_wp2_with fail); exact qsA rfl rfl
      refine fcA (fun w4 hw4 => fiA rfl (fiA rfl (fiA rfl ?_))) ?_
      ·refine foA rfl rfl ?_; (try simp only [Act.put, zA, zB, zC]); (go_wp2_with fail); exact qsA rfl rfl
      refine fcA (fun w4 hw4 => fiA rfl (fiA rfl ?_)) ?_
      ·refine foA rfl rfl ?_; (try simp only [Act.put, zA, zB, zC]); (go_wp2_with fail); exact qsA rfl rfl
      exact FreeSteps.nil
     case fin =>
      intro w4 hw4
      iterate 43 refine FreeEnd.is rfl ?_
      refine FreeEnd.nil ?_
      (try simp only [Act.put, zA, zB, zC])
      simp only [List.length_cons, List.length_nil, Nat.reduceAdd, List.drop_succ_cons, List.drop_zero]
      have HW4 := Lib.hid (show Below wr.heap.size wr w4 from (Below.refl _ _).drew.trans hw4)
      clear hw4
      go_wp2
      go_ret
      exact ⟨RetB.no fun h => HNE.out (fun he => HHT.out he.time) h.1, HW.out.trans (HW4.out.mono HW.out.size)⟩
   ·have HHT := Lib.hid hh
    have f1 : (u.height != v.height) = true := by simpa using hh
    clear hh
    go_wp2_with fail
    refine wp_region_freeG [(65, []), (66, [(0, 65)]), (67, []), (68, [(1, 66), (2, 67)]), (69, [(3, 68)]), (70, [(4, 69)]), (71, []), (72, [(6, 71)]), (73, []), (74, [(7, 72), (8, 73)]), (75, [(9, 74)]), (76, [(10, 75)]), (77, [(5, 70), (11, 76)]), (78, [(12, 77)]), (79, [(13, 78)]), (80, [(14, 79), (13, 78)]), (81, [(13, 78)]), (82, [(15, 80), (16, 81), (13, 78)]), (83, [(17, 82), (13, 78)]), (84, [(18, 83), (13, 78)]), (85, [(13, 78)]), (86, [(20, 85), (13, 78)]), (87, [(13, 78)]), (88, [(21, 86), (22, 87), (13, 78)]), (89, [(23, 88), (13, 78)]), (90, [(24, 89), (13, 78)]), (91, [(19, 84), (25, 90), (13, 78)]), (92, [(13, 78), (26, 91)]), (93, [(27, 92)]), (94, [(28, 93)]), (95, [(29, 94), (28, 93)]), (96, [(28, 93)]), (97, [(30, 95), (31, 96), (28, 93)]), (98, [(32, 97), (28, 93)]), (99, [(33, 98), (28, 93)]), (100, [(28, 93)]), (101, [(35, 100), (28, 93)]), (102, [(28, 93)]), (103, [(36, 101), (37, 102), (28, 93)]), (104, [(38, 103), (28, 93)]), (105, [(39, 104), (28, 93)]), (106, [(34, 99), (40, 105), (28, 93)]), (107, [(41, 106), (28, 93)])]
     [Is (.pointer (some ⟨ga, 49, none⟩)), Is (.slice (some aa) n0 c0), Is (.int .i64 (k : Int)), Is (.pointer (some (aa.add (k * 3)))), Is (.pointer (some ((aa.add (k * 3)).add 0))), Is (.int .u64 u.height), Is (.pointer (some ⟨gb, 49, none⟩)), Is (.slice (some ab) n0 d0), Is (.int .i64 (k : Int)), Is (.pointer (some (ab.add (k * 3)))), Is (.pointer (some ((ab.add (k * 3)).add 0))), Is (.int .u64 v.height), Is (.bool true), Is (.bool true), Is undef, Is undef, Is undef, Is undef, Is undef, Is undef, Is undef, Is undef, Is undef, Is undef, Is undef, Is undef, Is undef, Is (.bool true), Is (.bool true), Is undef, Is undef, Is undef, Is undef, Is undef, Is undef, Is undef, Is undef, Is undef, Is undef, Is undef, Is undef, Is undef, Is undef]
     (by kernel_rfl) (by kernel_rfl) (by rfl) ?st ?steps ?fin
    case st => exact ⟨Is.steady _, Is.steady _, Is.steady _, Is.steady _, Is.steady _, Is.steady _, Is.steady _, Is.steady _, Is.steady _, Is.steady _, Is.steady _, Is.steady _, Is.steady _, Is.steady _, Is.steady _, Is.steady _, Is.steady _, Is.steady _, Is.steady _, Is.steady _, Is.steady _, Is.steady _, Is.steady _, Is.steady _, Is.steady _, Is.steady _, Is.steady _, Is.steady _, Is.steady _, Is.steady _, Is.steady _, Is.steady _, Is.steady _, Is.steady _, Is.steady _, Is.steady _, Is.steady _, Is.steady _, Is.steady _, Is.steady _, Is.steady _, Is.steady _, Is.steady _, trivial⟩
    case steps =>
     refine fcA (fun w4 hw4 => ?_) ?_
     ·refine foA rfl rfl ?_; (try simp only [Act.put, zA, zB, zC]); (go_wp2_with fail); exact qsA rfl rfl
     refine fcA (fun w4 hw4 => fiA rfl ?_) ?_
     ·have c : w4.cell? ⟨ga, 49, none⟩ = some (.slice (some aa) n0 c0) := ((HKAD.out.below hw4 HKAD.out.lt).cell 49).trans XA0.out
      refine foA rfl rfl ?_; (try simp only [Act.put, zA, zB, zC]); (go_wp2_with fail); exact qsA rfl rfl
     refine fcA (fun w4 hw4 => ?_) ?_
     ·refine foA rfl rfl ?_; (try simp only [Act.put, zA, zB, zC]); (go_wp2_with fail); exact qsA rfl rfl
     refine fcA (fun w4 hw4 => fiA rfl (fiA rfl ?_)) ?_
     ·refine foA rfl rfl ?_; (try simp only [Act.put, zA, zB, zC]); (go_wp2_with fail); exact qsA rfl rfl
     refine fcA (fun w4 hw4 => fiA rfl ?_) ?_
     ·refine foA rfl rfl ?_; (try simp only [Act.put, zA, zB, zC]); (go_wp2_with fail); exact qsA rfl rfl
     refine fcA (fun w4 hw4 => fiA rfl ?_) ?_
     ·refine FreeStep.op rfl rfl ?_
      (try simp only [Act.put, zA, zB, zC])
      refine wpList_load_one rfl 22 _ rfl ((aa.add (k * 3)).add 0) rfl (.int .u64 u.height) (cell_keepB (w0 := wr) (HCA.out 0 _ rfl) hw4) _ Tryz.underlying22 (by kernel_rfl) ?_
      exact QStep.mk rfl (Below.refl _ _) rfl
     refine fcA (fun w4 hw4 => ?_) ?_
     ·refine foA rfl rfl ?_; (try simp only [Act.put, zA, zB, zC]); (go_wp2_with fail); exact qsA rfl rfl
     refine fcA (fun w4 hw4 => fiA rfl ?_) ?_
     ·have c : w4.cell? ⟨gb, 49, none⟩ = some (.slice (some ab) n0 d0) := ((HKBD.out.below hw4 HKBD.out.lt).cell 49).trans YA0.out
      refine foA rfl rfl ?_; (try simp only [Act.put, zA, zB, zC]); (go_wp2_with fail); exact qsA rfl rfl
     refine fcA (fun w4 hw4 => ?_) ?_
     ·refine foA rfl rfl ?_; (try simp only [Act.put, zA, zB, zC]); (go_wp2_with fail); exact qsA rfl rfl
     refine fcA (fun w4 hw4 => fiA rfl (fiA rfl ?_)) ?_
     ·refine foA rfl rfl ?_; (try simp only [Act.put, zA, zB, zC]); (go_wp2_with fail); exact qsA rfl rfl
     refine fcA (fun w4 hw4 => fiA rfl ?_) ?_
     ·refine foA rfl rfl ?_; (try simp only [Act.put, zA, zB, zC]); (go_wp2_with fail); exact qsA rfl rfl
     refine fcA (fun w4 hw4 => fiA rfl ?_) ?_
     ·refine FreeStep.op rfl rfl ?_
      (try simp only [Act.put, zA, zB, zC])
      refine wpList_load_one rfl 22 _ rfl ((ab.add (k * 3)).add 0) rfl (.int .u64 v.height) (cell_keepB (w0 := wr) (HCB.out 0 _ rfl) hw4) _ Tryz.underlying22 (by kernel_rfl) ?_
      exact QStep.mk rfl (Below.refl _ _) rfl
     refine fcA (fun w4 hw4 => fiA rfl (fiA rfl ?_)) ?_
     ·refine foA rfl rfl ?_; (try simp only [Act.put, zA, zB, zC]); (go_wp2_with fail); exact qsA rfl rfl
     refine fcA (fun w4 hw4 => fiA rfl ?_) ?_
     ·refine foA rfl rfl ?_; (try simp only [Act.put, zA, zB, zC]); (go_wp2_with fail); exact qsA rfl rfl
     refine fcA (fun w4 hw4 => fiA rfl ?_) ?_
     ·refine foA rfl rfl ?_; (try simp only [Act.put, zA, zB, zC]); (go_wp2_with fail); exact qsA rfl rfl
     refine fcA (fun w4 hw4 => fiA rfl (fiA rfl ?_)) ?_
     ·refine foA rfl rfl ?_; (try simp only [Act.put, zA, zB, zC]); (go_wp2_with fail); exact qsA rfl rfl
     refine fcA (fun w4 hw4 => fiA rfl ?_) ?_
     ·refine foA rfl rfl ?_; (try simp only [Act.put, zA, zB, zC]); (go_wp2_with fail); exact qsA rfl rfl
     refine fcA (fun w4 hw4 => fiA rfl (fiA rfl (fiA rfl ?_))) ?_
     ·refine foA rfl rfl ?_; (try simp only [Act.put, zA, zB, zC]); (go_wp2_with fail); exact qsA rfl rfl
     refine fcA (fun w4 hw4 => fiA rfl (fiA rfl ?_)) ?_
     ·refine foA rfl rfl ?_; (try simp only [Act.put, zA, zB, zC]); (go_wp2_with fail); exact qsA rfl rfl
     refine fcA (fun w4 hw4 => fiA rfl (fiA rfl ?_)) ?_
     ·refine foA rfl rfl ?_; (try simp only [Act.put, zA, zB, zC]); (go_wp2_with fail); exact qsA rfl rfl
     refine fcA (fun w4 hw4 => fiA rfl ?_) ?_
     ·refine foA rfl rfl ?_; (try simp only [Act.put, zA, zB, zC]); (go_wp2_with fail); exact qsA rfl rfl
     refine fcA (fun w4 hw4 => fiA rfl (fiA rfl ?_)) ?_
     ·refine foA rfl rfl ?_; (try simp only [Act.put, zA, zB, zC]); (go_wp2_with fail); exact qsA rfl rfl
     refine fcA (fun w4 hw4 => fiA rfl ?_) ?_
     ·refine foA rfl rfl ?_; (try simp only [Act.put, zA, zB, zC]); (go_wp2_with fail); exact qsA rfl rfl
     refine fcA (fun w4 hw4 => fiA rfl (fiA rfl (fiA rfl ?_))) ?_
     ·refine foA rfl rfl ?_; (try simp only [Act.put, zA, zB, zC]); (go_wp2_with fail); exact qsA rfl rfl
     refine fcA (fun w4 hw4 => fiA rfl (fiA rfl ?_)) ?_
     ·refine foA rfl rfl ?_; (try simp only [Act.put, zA, zB, zC]); (go_wp2_with fail); exact qsA rfl rfl
     refine fcA (fun w4 hw4 => fiA rfl (fiA rfl ?_)) ?_
     ·refine foA rfl rfl ?_; (try simp only [Act.put, zA, zB, zC]); (go_wp2_with fail); exact qsA rfl rfl
     refine fcA (fun w4 hw4 => fiA rfl (fiA rfl (fiA rfl ?_))) ?_
     ·refine foA rfl rfl ?_; (try simp only [Act.put, zA, zB, zC]); (go_wp2_with fail); exact qsA rfl rfl
     refine fcA (fun w4 hw4 => fiA rfl (fiA rfl ?_)) ?_
     ·refine foA rfl rfl ?_; (try simp only [Act.put, zA, zB, zC]); (go_wp2_with fail); exact qsA rfl rfl
     refine fcA (fun w4 hw4 => fiA rfl ?_) ?_
     ·refine foA rfl rfl ?_; (try simp only [Act.put, zA, zB, zC]); (go_wp2_with fail); exact qsA rfl rfl
     refine fcA (fun w4 hw4 => fiA rfl ?_) ?_
     ·refine foA rfl rfl ?_; (try simp only [Act.put, zA, zB, zC]); (go_wp2_with fail); exact qsA rfl rfl
     refine fcA (fun w4 hw4 => fiA rfl (fiA rfl ?_)) ?_
     ·refine foA rfl rfl ?_; (try simp only [Act.put, zA, zB, zC]); (go_wp2_with fail); exact qsA rfl rfl
     refine fcA (fun w4 hw4 => fiA rfl ?_) ?_
     ·refine foA rfl rfl ?_; (try simp only [Act.put, zA, zB, zC]); (go_wp2_with fail); exact qsA rfl rfl
     refine fcA (fun w4 hw4 => fiA rfl (fiA rfl (fiA rfl ?_))) ?_
     ·refine foA rfl rfl ?_; (try simp only [Act.put, zA, zB, zC]); (go_wp2_with fail); exact qsA rfl rfl
     refine fcA (fun w4 hw4 => fiA rfl (fiA rfl ?_)) ?_
     ·refine foA rfl rfl ?_; (try simp only [Act.put, zA, zB, zC]); (go_wp2_with fail); exact qsA rfl rfl
     refine fcA (fun w4 hw4 => fiA rfl (fiA rfl ?_)) ?_
     ·refine foA rfl rfl ?_; (try simp only [Act.put, zA, zB, zC]); (go_wp2_with fail); exact qsA rfl rfl
     refine fcA (fun w4 hw4 => fiA rfl ?_) ?_
     ·refine foA rfl rfl ?_; (try simp only [Act.put, zA, zB, zC]); (go_wp2_with fail); exact qsA rfl rfl
     refine fcA (fun w4 hw4 => fiA rfl (fiA rfl ?_)) ?_
     ·refine foA rfl rfl ?_; (try simp only [Act.put, zA, zB, zC]); (go_wp2_with fail); exact qsA rfl rfl
     refine fcA (fun w4 hw4 => fiA rfl ?_) ?_
     ·refine foA rfl rfl ?_; (try simp only [Act.put, zA, zB, zC]); (go_wp2_with fail); exact qsA rfl rfl
     refine fcA (fun w4 hw4 => fiA rfl (fiA rfl (fiA rfl ?_))) ?_
     ·refine foA rfl rfl ?_; (try simp only [Act.put, zA, zB, zC]); (go_wp2_with fail); exact qsA rfl rfl
     refine fcA (fun w4 hw4 => fiA rfl (fiA rfl ?_)) ?_
     ·refine foA rfl rfl ?_; (try simp only [Act.put, zA, zB, zC]); (go_wp2_with fail); exact qsA rfl rfl
     refine fcA (fun w4 hw4 => fiA rfl (fiA rfl ?_)) ?_
     ·refine foA rfl rfl ?_; (try simp only [Act.put, zA, zB, zC]); (go_wp2_with fail); exact qsA rfl rfl
     refine fcA (fun w4 hw4 => fiA rfl (fiA rfl (fiA rfl ?_))) ?_
     ·refine foA rfl rfl ?_; (try simp only [Act.put, zA, zB, zC]); (go_wp2_with fail); exact qsA rfl rfl
     refine fcA (fun w4 hw4 => fiA rfl (fiA rfl ?_)) ?_
     ·refine foA rfl rfl ?_; (try simp only [Act.put, zA, zB, zC]); (go_wp2_with fail); exact qsA rfl rfl
     exact FreeSteps.nil
    case fin =>
     intro w4 hw4
     iterate 43 refine FreeEnd.is rfl ?_
     refine FreeEnd.nil ?_
     (try simp only [Act.put, zA, zB, zC])
     simp only [List.length_cons, List.length_nil, Nat.reduceAdd, List.drop_succ_cons, List.drop_zero]
     have HW4 := Lib.hid (show Below wr.heap.size wr w4 from (Below.refl _ _).drew.trans hw4)
     clear hw4
     go_wp2
     go_ret
     exact ⟨RetB.no fun h => HNE.out (fun he => HHT.out he.height) h.1, HW.out.trans (HW4.out.mono HW.out.size)⟩
  ·have hkn : k = n0 := by omega
   subst hkn
   have HALL0 := Lib.hid (show Alike Pst.same x.ps y.ps by rw [XE0.out, YE0.out]; have h := HEQ.out; rwa [List.take_of_length_le (by rw [← XN0.out]; exact Nat.le_refl _), List.take_of_length_le (by rw [← YN0.out]; exact Nat.le_refl _)] at h)
   have hi : ¬ (k : Int) < (k : Int) := by omega
   go_wp2_with fail
   go_loopw [6] (fun i wr => ∃ k : Nat, k ≤ n1 ∧ i = .int .i64 (k : Int) ∧ Bk wr ga x.cl.toArray 62 ∧ Bk wr gb y.cl.toArray 62 ∧ Below w.heap.size w wr ∧ EqTo l1 m1 k) (fun i _ => n1 - (intOf i).toNat)
   case atStart => exact ⟨0, by omega, rfl, HKA.out, HKB.out, HW.out, EqTo.zero _ _⟩
   case round =>
    clear HKA HKB HW
    obtain ⟨k, hk, rfl, h4, h5, h6, h7⟩ := hrel
    have HKA := Lib.hid h4
    have HKB := Lib.hid h5
    have HW := Lib.hid h6
    have HEQ := Lib.hid h7
    have ca : wr.cell? ⟨ga, 50, none⟩ = some (.slice A1 n1 c1) := (h4.cell 50).trans XA1.out
    clear h4 h5 h6 h7
    by_cases hlt : k < n1
    ·have hkl : k < l1.length := by rw [← XN1.out]; exact hlt
     have hkm : k < m1.length := by rw [← YN1.out]; exact hlt
     obtain ⟨aa, hA, hcA⟩ := rd_elem (by omega) XL1.out (XR1.out.below HW.out) hkl
     obtain ⟨ab, hB, hcB⟩ := rd_elem (by omega) YL1.out (YR1.out.below HW.out) hkm
     obtain ⟨u, hu⟩ : ∃ u, l1[k] = u := ⟨_, rfl⟩
     obtain ⟨v, hv⟩ : ∃ v, m1[k] = v := ⟨_, rfl⟩
     have HUO := Lib.hid (XO1.out u (by rw [← hu]; exact List.getElem_mem hkl))
     have HVO := Lib.hid (YO1.out v (by rw [← hv]; exact List.getElem_mem hkm))
     have HST := Lib.hid (fun (he : u = v) => HEQ.out.step hkl hkm (by rw [hu, hv, he]))
     have HNE := Lib.hid (fun (he : u ≠ v) => ne_at hkl hkm (by rw [hu, hv]; exact he))
     rw [hu] at hcA
     rw [hv] at hcB
     have HCA := Lib.hid hcA
     have HCB := Lib.hid hcB
     subst hA hB
     have HKAD := Lib.hid (show Bk wr.drew ga x.cl.toArray 62 from HKA.out.drew)
     have HKBD := Lib.hid (show Bk wr.drew gb y.cl.toArray 62 from HKB.out.drew)
     clear hcA hcB hu hv
     have hi : (k : Int) < n1 := by omega
     have p1 : IntKind.i64.wrap ((k : Int) + 1) = (k : Int) + 1 := by rw [IntKind.wrap_i64]; have := XB1.out; omega
     go_wp2_with fail
     refine wp_region_free [(116, []), (117, [(0, 116)]), (118, []), (119, [(1, 117), (2, 118)]), (120, [(3, 119)]), (121, []), (122, [(5, 121)]), (123, []), (124, [(6, 122), (7, 123)]), (125, [(8, 124)])]
      [Is (.pointer (some ⟨ga, 50, none⟩)), Is (.slice (some aa) n1 c1), Is (.int .i64 (k : Int)), Is (.pointer (some (aa.add (k * 2)))), Is (.agg u.cl.toArray), Is (.pointer (some ⟨gb, 50, none⟩)), Is (.slice (some ab) n1 d1), Is (.int .i64 (k : Int)), Is (.pointer (some (ab.add (k * 2)))), Is (.agg v.cl.toArray)]
      (by kernel_rfl) (by kernel_rfl) (by rfl) ?st ?steps ?fin
     case st => exact ⟨Is.steady _, Is.steady _, Is.steady _, Is.steady _, Is.steady _, Is.steady _, Is.steady _, Is.steady _, Is.steady _, Is.steady _, trivial⟩
     case steps =>
      refine fcA (fun w4 hw4 => ?_) ?_
      ·refine foA rfl rfl ?_; (try simp only [Act.put, zA, zB, zC]); (go_wp2_with fail); exact qsA rfl rfl
      refine fcA (fun w4 hw4 => fiA rfl ?_) ?_
      ·have c : w4.cell? ⟨ga, 50, none⟩ = some (.slice (some aa) n1 c1) := ((HKAD.out.below hw4 HKAD.out.lt).cell 50).trans XA1.out
       refine foA rfl rfl ?_; (try simp only [Act.put, zA, zB, zC]); (go_wp2_with fail); exact qsA rfl rfl
      refine fcA (fun w4 hw4 => ?_) ?_
      ·refine foA rfl rfl ?_; (try simp only [Act.put, zA, zB, zC]); (go_wp2_with fail); exact qsA rfl rfl
      refine fcA (fun w4 hw4 => fiA rfl (fiA rfl ?_)) ?_
      ·refine foA rfl rfl ?_; (try simp only [Act.put, zA, zB, zC]); (go_wp2_with fail); exact qsA rfl rfl
      refine fcA (fun w4 hw4 => fiA rfl ?_) ?_
      ·exact FreeStep.load_at 145 _ rfl rfl rfl rfl (by rfl) rfl rfl (aa.add (k * 2)) 2 rfl u.cl (fun j z hz => cell_keepB (w0 := wr) (HCA.out j z hz) hw4) _ Tryz.underlying145 rfl infoC_Off ((show u.cl.length = 2 from rfl)) rfl
      refine fcA (fun w4 hw4 => ?_) ?_
      ·refine foA rfl rfl ?_; (try simp only [Act.put, zA, zB, zC]); (go_wp2_with fail); exact qsA rfl rfl
      refine fcA (fun w4 hw4 => fiA rfl ?_) ?_
      ·have c : w4.cell? ⟨gb, 50, none⟩ = some (.slice (some ab) n1 d1) := ((HKBD.out.below hw4 HKBD.out.lt).cell 50).trans YA1.out
       refine foA rfl rfl ?_; (try simp only [Act.put, zA, zB, zC]); (go_wp2_with fail); exact qsA rfl rfl
      refine fcA (fun w4 hw4 => ?_) ?_
      ·refine foA rfl rfl ?_; (try simp only [Act.put, zA, zB, zC]); (go_wp2_with fail); exact qsA rfl rfl
      refine fcA (fun w4 hw4 => fiA rfl (fiA rfl ?_)) ?_
      ·refine foA rfl rfl ?_; (try simp only [Act.put, zA, zB, zC]); (go_wp2_with fail); exact qsA rfl rfl
      refine fcA (fun w4 hw4 => fiA rfl ?_) ?_
      ·exact FreeStep.load_at 145 _ rfl rfl rfl rfl (by rfl) rfl rfl (ab.add (k * 2)) 2 rfl v.cl (fun j z hz => cell_keepB (w0 := wr) (HCB.out j z hz) hw4) _ Tryz.underlying145 rfl infoC_Off ((show v.cl.length = 2 from rfl)) rfl
      exact FreeSteps.nil
     case fin =>
      intro w4 hw4
      iterate 10 refine FreeEnd.is rfl ?_
      refine FreeEnd.nil ?_
      (try simp only [Act.put, zA, zB, zC])
      simp only [List.length_cons, List.length_nil, Nat.reduceAdd, List.drop_succ_cons, List.drop_zero]
      have HW4 := Lib.hid (show Below wr.heap.size wr w4 from (Below.refl _ _).drew.trans hw4)
      clear hw4
      obtain ⟨q, hq⟩ := same_bool (u.cl = v.cl)
      have HQ := Lib.hid hq
      clear hq
      go_wp2_with (with_reducible show wpList _ _ _ (Oper.mk _ (Op.binOp BinOp.neq _ _ _ _) _ _ _ _ :: _) _ _; go_must (refine wpList_neq_flat rfl 145 _ _ _ rfl u.cl v.cl rfl rfl 3 _ flat_OffC (by omega) agg_OffC guard_OffC (fits_OffC HUO.out) (fits_OffC HVO.out) q HQ.out ?_); cases q)
      ·go_wp2
       go_ret
       exact ⟨RetB.no fun h => absurd (h.2.1) (by rw [XE1.out, YE1.out]; exact HNE.out (fun he => by have := HQ.out.2 (by rw [he]); cases this)), HW.out.trans (HW4.out.mono HW.out.size)⟩
      ·go_wp2
       go_round
       case rel => exact ⟨k + 1, by omega, by go_num, HKA.out.below HW4.out HKA.out.lt, HKB.out.below HW4.out HKB.out.lt, HW.out.trans (HW4.out.mono HW.out.size), HST.out (Off.eq_of (HQ.out.1 rfl))⟩
       case measure => simp [intOf]; omega
    ·have hkn : k = n1 := by omega
     subst hkn
     have HALL1 := Lib.hid (show x.os = y.os by rw [XE1.out, YE1.out]; exact HEQ.out.all XN1.out YN1.out)
     have hi : ¬ (k : Int) < (k : Int) := by omega
     go_wp2_with (first
      | (with_reducible show wpList _ _ _ (Oper.mk (some 128) (Op.load _ _) _ _ _ _ :: _) _ _; go_must (refine wpList_load_part rfl 54 _ rfl ga 47 1 rfl _ _ _ HKA.out Tryz.underlying54 rfl infoC_Cou (by simp [HLX.out]) _ (x.ex_cou HX.out.last) ?_))
      | (with_reducible show wpList _ _ _ (Oper.mk (some 130) (Op.load _ _) _ _ _ _ :: _) _ _; go_must (refine wpList_load_part rfl 54 _ rfl gb 47 1 rfl _ _ _ HKB.out Tryz.underlying54 rfl infoC_Cou (by simp [HLY.out]) _ (y.ex_cou HY.out.last) ?_)))
     refine (cmpCou wr x.cou y.cou HX.out.cou HY.out.cou (HAX.out.below HW.out).cou (HAY.out.below HW.out).cou HBG.out.cou).mono ?_
     rintro e w3 ⟨⟨r1, rfl, h1⟩, hb3⟩
     have HR1 := Lib.hid h1
     have HB3 := Lib.hid (HW.out.trans (hb3.mono HW.out.size))
     have HKA3 := Lib.hid (HKA.out.below hb3 HKA.out.lt)
     have HKB3 := Lib.hid (HKB.out.below hb3 HKB.out.lt)
     clear h1 hb3 HKA HKB HW
     cases r1 with
     | false =>
      go_wp2
      go_ret
      exact ⟨RetB.no fun h => (by have := HR1.out.2 h.2.2.1; cases this), HB3.out⟩
     | true =>
      go_wp2_with (first
      | (with_reducible show wpList _ _ _ (Oper.mk (some 134) (Op.load _ _) _ _ _ _ :: _) _ _; go_must (refine wpList_load_part rfl 54 _ rfl ga 48 1 rfl _ _ _ HKA3.out Tryz.underlying54 rfl infoC_Cou (by simp [HLX.out]) _ (x.ex_next HX.out.last) ?_))
      | (with_reducible show wpList _ _ _ (Oper.mk (some 136) (Op.load _ _) _ _ _ _ :: _) _ _; go_must (refine wpList_load_part rfl 54 _ rfl gb 48 1 rfl _ _ _ HKB3.out Tryz.underlying54 rfl infoC_Cou (by simp [HLY.out]) _ (y.ex_next HY.out.last) ?_)))
      refine (cmpCou w3 x.next y.next HX.out.next HY.out.next (HAX.out.below HB3.out).next (HAY.out.below HB3.out).next HBG.out.next).mono ?_
      rintro e w4 ⟨⟨r2, rfl, h2⟩, hb4⟩
      have HR2 := Lib.hid h2
      have HB4 := Lib.hid (HB3.out.trans (hb4.mono HB3.out.size))
      have HKA4 := Lib.hid (HKA3.out.below hb4 HKA3.out.lt)
      have HKB4 := Lib.hid (HKB3.out.below hb4 HKB3.out.lt)
      clear h2 hb4 HKA3 HKB3 HB3
      cases r2 with
      | false =>
       go_wp2
       go_ret
       exact ⟨RetB.no fun h => (by have := HR2.out.2 h.2.2.2.1; cases this), HB4.out⟩
      | true =>
       go_wp2_with (first
        | (with_reducible show wpList _ _ _ (Oper.mk (some 141) (Op.load _ _) _ _ _ _ :: _) _ _; go_must (refine wpList_load_part rfl 60 _ rfl ga 51 4 rfl _ _ _ HKA4.out Tryz.underlying60 rfl infoC_Led (by simp [HLX.out]) _ (x.ex_led HX.out.last) ?_))
        | (with_reducible show wpList _ _ _ (Oper.mk (some 143) (Op.load _ _) _ _ _ _ :: _) _ _; go_must (refine wpList_load_part rfl 60 _ rfl gb 51 4 rfl _ _ _ HKB4.out Tryz.underlying60 rfl infoC_Led (by simp [HLY.out]) _ (y.ex_led HY.out.last) ?_)))
       refine (cmpLed w4 x.led y.led HX.out.led HY.out.led (HAX.out.below HB4.out).led (HAY.out.below HB4.out).led ⟨HBG.out.a, HBG.out.r⟩).mono ?_
       rintro e w5 ⟨⟨r3, rfl, h3⟩, hb5⟩
       have HR3 := Lib.hid h3
       have HB5 := Lib.hid (HB4.out.trans (hb5.mono HB4.out.size))
       clear h3 hb5
       go_wp2
       go_ret
       exact ⟨RetB.of rfl ⟨fun h => ⟨HALL0.out, HALL1.out, HR1.out.1 (by simp), HR2.out.1 (by simp), HR3.out.1 h⟩, fun h => HR3.out.2 h.2.2.2.2⟩, HB5.out⟩

theorem cmpSta (w : World) (x y : Sta) (hx : x.ok) (hy : y.ok) (hax : x.at w) (hay : y.at w) (hbig : x.sm) :
  Calls Tryz.prog 26 #[.agg x.cl.toArray, .agg y.cl.toArray] w fun e w' => RetB e (x.same y) ∧ Below w.heap.size w w' := by
 by_cases e1 : x.chain = y.chain
 case neg => exact (cmpSta_f1 w x y hx hy e1).mono fun e w' ⟨h1, h2⟩ => ⟨by rw [h1]; exact RetB.no fun h => absurd (h.chain) e1, h2⟩
 by_cases e2 : x.par.cl = y.par.cl
 case neg => exact (cmpSta_f2 w x y hx hy e1 e2).mono fun e w' ⟨h1, h2⟩ => ⟨by rw [h1]; exact RetB.no fun h => absurd (congrArg Par.cl h.par) e2, h2⟩
 by_cases e3 : x.height = y.height
 case neg => exact (cmpSta_f3 w x y hx hy e1 e2 e3).mono fun e w' ⟨h1, h2⟩ => ⟨by rw [h1]; exact RetB.no fun h => absurd (h.height) e3, h2⟩
 by_cases e4 : x.time = y.time
 case neg => exact (cmpSta_f4 w x y hx hy e1 e2 e3 e4).mono fun e w' ⟨h1, h2⟩ => ⟨by rw [h1]; exact RetB.no fun h => absurd (h.time) e4, h2⟩
 by_cases e5 : bv x.last = bv y.last
 case neg => exact (cmpSta_f5 w x y hx hy e1 e2 e3 e4 e5).mono fun e w' ⟨h1, h2⟩ => ⟨by rw [h1]; exact RetB.no fun h => absurd (congrArg bv h.last) e5, h2⟩
 by_cases e6 : x.pn = y.pn
 case neg => exact (cmpSta_f6 w x y hx hy e1 e2 e3 e4 e5 e6).mono fun e w' ⟨h1, h2⟩ => ⟨by rw [h1]; exact RetB.no fun h => absurd ((by rw [hx.pn, hy.pn]; exact alike_len h.ps : x.pn = y.pn)) e6, h2⟩
 by_cases e7 : x.on = y.on
 case neg => exact (cmpSta_f7 w x y hx hy e1 e2 e3 e4 e5 e6 e7).mono fun e w' ⟨h1, h2⟩ => ⟨by rw [h1]; exact RetB.no fun h => absurd ((by rw [hx.on, hy.on, h.os] : x.on = y.on)) e7, h2⟩
 exact (cmpSta_m w x y hx hy hax hay hbig e1 e2 e3 e4 e5 e6 e7).mono fun e w' ⟨h1, h3⟩ => ⟨h1.iff ⟨fun h => ⟨e1, Par.eq_of e2, e3, e4, bv_inj e5, h.2.2.1, h.2.2.2.1, h.1, h.2.1, h.2.2.2.2.acs, h.2.2.2.2.rs, h.2.2.2.2.burnt, h.2.2.2.2.supply⟩, fun h => ⟨h.ps, h.os, h.cou, h.next, ⟨h.burnt, h.supply, h.acs, h.rs⟩⟩⟩, h3⟩
end Go.Proofs.YtlhnhjglcbggmaaGreatRR

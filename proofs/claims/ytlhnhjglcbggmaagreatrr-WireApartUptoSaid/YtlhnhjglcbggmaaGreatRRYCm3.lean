/-
  The law's comparisons: councils, ledgers, votes. Conditions: each number fits its kind; the lists lie in the world.
-/
import Derived.Test.YtlhnhjglcbggmaaGreatRRY31
import Derived.Test.YtlhnhjglcbggmaaGreatRRYTd1
namespace Go.Proofs.YtlhnhjglcbggmaaGreatRR
set_option linter.unusedSimpArgs false
set_option linter.unusedVariables false
open Go.RowKit
set_option maxRecDepth 100000
structure Led.ok (x : Led) : Prop where
 an : x.an = x.acs.length
 acs : ∀ p ∈ x.acs, p.ok
 rn : x.rn = x.rs.length
 rs : ∀ p ∈ x.rs, p.ok
 burnt : U64 x.burnt
 supply : U64 x.supply
structure Led.at (x : Led) (w : World) : Prop where
 a : Rd w x.aA (x.acs.flatMap Acc.cl)
 r : Rd w x.rA (x.rs.flatMap Rls.cl)
structure Led.same (x y : Led) : Prop where
 burnt : x.burnt = y.burnt
 supply : x.supply = y.supply
 acs : x.acs = y.acs
 rs : x.rs = y.rs

set_option maxHeartbeats 2000000 in
theorem cmpCou_f1 (w : World) (x y : Cou) (hx : x.ok) (hy : y.ok) (d : ¬ x.n = y.n) :
  Calls Tryz.prog 66 #[.agg x.cl.toArray, .agg y.cl.toArray] w fun e w' => e = .returned (.bool false) ∧ Below w.heap.size w w' := by
 have HX := Lib.hid hx
 have HY := Lib.hid hy
 have HLX := Lib.hid ((show x.cl.length = 1 from rfl))
 have HLY := Lib.hid ((show y.cl.length = 1 from rfl))
 go_enter Tryz.func66, Tryz.ntmps66
 go_wp2_with (with_reducible show wpList _ _ _ (Oper.mk _ (Op.box _ _) _ _ _ _ :: _) _ _; refine wpList_box_i rfl _ _ rfl _ rfl ?_)
 intro ga w1 hk1 hb1 hg1 hs1
 go_wp2_with (with_reducible show wpList _ _ _ (Oper.mk _ (Op.box _ _) _ _ _ _ :: _) _ _; refine wpList_box_i rfl _ _ rfl _ rfl ?_)
 intro gb w2 hk2 hb2 hg2 hs2
 have HKA := Lib.hid ((bk_eqT (cs' := x.cl.toArray) hk1 rfl).below hb2 hk1.lt)
 have HKB := Lib.hid (bk_eqT (cs' := y.cl.toArray) hk2 rfl)
 have HB2 := Lib.hid (hb1.trans (hb2.mono hb1.size))
 have a0 : w2.cell? ⟨ga, 0, none⟩ = some (.slice x.A x.n x.c) := (HKA.out.cell 0)
 have b0 : w2.cell? ⟨gb, 0, none⟩ = some (.slice y.A y.n y.c) := (HKB.out.cell 0)
 have f1 : ((x.n : Int) != (y.n : Int)) = true := by simp; omega
 have g1 : (x.n != y.n) = true := by simpa using d
 clear hk1 hb1 hg1 hs1 hk2 hb2 hg2 hs2  d hx hy
 go_wp2_with fail
 go_ret
 exact ⟨rfl, HB2.out⟩

set_option maxHeartbeats 4000000 in
theorem cmpCou_m (w : World) (x y : Cou) (hx : x.ok) (hy : y.ok) (hax : x.at w) (hay : y.at w) (hbig : x.n ≤ 5000000000000) (e1 : x.n = y.n) :
  Calls Tryz.prog 66 #[.agg x.cl.toArray, .agg y.cl.toArray] w fun e w' => RetB e (x.ms = y.ms) ∧ Below w.heap.size w w' := by
 have HX := Lib.hid hx
 have HY := Lib.hid hy
 have HLX := Lib.hid ((show x.cl.length = 1 from rfl))
 have HLY := Lib.hid ((show y.cl.length = 1 from rfl))
 go_enter Tryz.func66, Tryz.ntmps66
 go_wp2_with (with_reducible show wpList _ _ _ (Oper.mk _ (Op.box _ _) _ _ _ _ :: _) _ _; refine wpList_box_i rfl _ _ rfl _ rfl ?_)
 intro ga w1 hk1 hb1 hg1 hs1
 go_wp2_with (with_reducible show wpList _ _ _ (Oper.mk _ (Op.box _ _) _ _ _ _ :: _) _ _; refine wpList_box_i rfl _ _ rfl _ rfl ?_)
 intro gb w2 hk2 hb2 hg2 hs2
 have HKA := Lib.hid ((bk_eqT (cs' := x.cl.toArray) hk1 rfl).below hb2 hk1.lt)
 have HKB := Lib.hid (bk_eqT (cs' := y.cl.toArray) hk2 rfl)
 have HB2 := Lib.hid (hb1.trans (hb2.mono hb1.size))
 have a0 : w2.cell? ⟨ga, 0, none⟩ = some (.slice x.A x.n x.c) := (HKA.out.cell 0)
 have b0 : w2.cell? ⟨gb, 0, none⟩ = some (.slice y.A y.n y.c) := (HKB.out.cell 0)
 have f1 : ((x.n : Int) != (y.n : Int)) = false := by simp [e1]
 have g1 : (x.n != y.n) = false := by simp [e1]
 have HAX := Lib.hid hax
 have HAY := Lib.hid hay
 obtain ⟨A0, hA⟩ : ∃ A, x.A = A := ⟨_, rfl⟩
 obtain ⟨n0, hn⟩ : ∃ n, x.n = n := ⟨_, rfl⟩
 obtain ⟨c0, hc⟩ : ∃ c, x.c = c := ⟨_, rfl⟩
 obtain ⟨l0, hl⟩ : ∃ l, x.ms = l := ⟨_, rfl⟩
 obtain ⟨B0, hB⟩ : ∃ A, y.A = A := ⟨_, rfl⟩
 obtain ⟨d0, hd⟩ : ∃ c, y.c = c := ⟨_, rfl⟩
 obtain ⟨m0, hm⟩ : ∃ l, y.ms = l := ⟨_, rfl⟩
 have XA0 := Lib.hid (show x.cl.toArray[0]? = some (.slice A0 n0 c0) by rw [(show x.cl.toArray[0]? = some (.slice x.A x.n x.c) from rfl), hA, hn, hc])
 have YA0 := Lib.hid (show y.cl.toArray[0]? = some (.slice B0 n0 d0) by rw [(show y.cl.toArray[0]? = some (.slice y.A y.n y.c) from rfl), hB, ← e1, hn, hd])
 have XN0 := Lib.hid (show n0 = l0.length by rw [← hn, ← hl]; exact HX.out.n)
 have YN0 := Lib.hid (show n0 = m0.length by rw [← hn, ← hm, e1]; exact HY.out.n)
 have XO0 := Lib.hid (show ∀ e ∈ l0, e.ok by rw [← hl]; exact HX.out.ms)
 have YO0 := Lib.hid (show ∀ e ∈ m0, e.ok by rw [← hm]; exact HY.out.ms)
 have XR0 := Lib.hid (show Rd w A0 (l0.flatMap Mem.cl) by rw [← hA, ← hl]; exact HAX.out)
 have YR0 := Lib.hid (show Rd w B0 (m0.flatMap Mem.cl) by rw [← hB, ← hm]; exact HAY.out)
 have XL0 := Lib.hid (show ∀ e ∈ l0, e.cl.length = 3 from fun e he => (show e.cl.length = 3 from rfl))
 have YL0 := Lib.hid (show ∀ e ∈ m0, e.cl.length = 3 from fun e he => (show e.cl.length = 3 from rfl))
 have XE0 := Lib.hid hl
 have YE0 := Lib.hid hm
 have XB0 := Lib.hid (show n0 ≤ 5000000000000 by rw [← hn]; exact hbig)
 clear hA hc hl hB hd hm hn
 clear hk1 hb1 hg1 hs1 hk2 hb2 hg2 hs2 e1 hx hy hax hay
 go_wp2_with fail
 clear a0 b0 f1 g1
 go_loopw [5] (fun i wr => ∃ k : Nat, k ≤ n0 ∧ i = .int .i64 (k : Int) ∧ Bk wr ga x.cl.toArray 54 ∧ Bk wr gb y.cl.toArray 54 ∧ Below w.heap.size w wr ∧ EqTo l0 m0 k) (fun i _ => n0 - (intOf i).toNat)
 case atStart => exact ⟨0, by omega, rfl, HKA.out, HKB.out, HB2.out, EqTo.zero _ _⟩
 case round =>
  clear HKA HKB HB2
  obtain ⟨k, hk, rfl, h4, h5, h6, h7⟩ := hrel
  have HKA := Lib.hid h4
  have HKB := Lib.hid h5
  have HW := Lib.hid h6
  have HEQ := Lib.hid h7
  have ca : wr.cell? ⟨ga, 0, none⟩ = some (.slice A0 n0 c0) := (h4.cell 0).trans XA0.out
  clear h4 h5 h6 h7
  by_cases hlt : k < n0
  ·have hkl : k < l0.length := by rw [← XN0.out]; exact hlt
   have hkm : k < m0.length := by rw [← YN0.out]; exact hlt
   obtain ⟨aa, hA, hcA⟩ := rd_elem (by omega) XL0.out (XR0.out.below HW.out) hkl
   obtain ⟨ab, hB, hcB⟩ := rd_elem (by omega) YL0.out (YR0.out.below HW.out) hkm
   obtain ⟨u, hu⟩ : ∃ u, l0[k] = u := ⟨_, rfl⟩
   obtain ⟨v, hv⟩ : ∃ v, m0[k] = v := ⟨_, rfl⟩
   have HUO := Lib.hid (XO0.out u (by rw [← hu]; exact List.getElem_mem hkl))
   have HVO := Lib.hid (YO0.out v (by rw [← hv]; exact List.getElem_mem hkm))
   have HST := Lib.hid (fun (he : u = v) => HEQ.out.step hkl hkm (by rw [hu, hv, he]))
   have HNE := Lib.hid (fun (he : u ≠ v) => ne_at hkl hkm (by rw [hu, hv]; exact he))
   rw [hu] at hcA
   rw [hv] at hcB
   have HCA := Lib.hid hcA
   have HCB := Lib.hid hcB
   subst hA hB
   have HKAD := Lib.hid (show Bk wr.drew ga x.cl.toArray 54 from HKA.out.drew)
   have HKBD := Lib.hid (show Bk wr.drew gb y.cl.toArray 54 from HKB.out.drew)
   clear hcA hcB hu hv
   have hi : (k : Int) < n0 := by omega
   have p1 : IntKind.i64.wrap ((k : Int) + 1) = (k : Int) + 1 := by rw [IntKind.wrap_i64]; have := XB0.out; omega
   go_wp2_with fail
   refine wp_region_free [(20, []), (21, [(0, 20)]), (22, []), (23, [(1, 21), (2, 22)]), (24, [(3, 23)]), (25, []), (26, [(5, 25)]), (27, []), (28, [(6, 26), (7, 27)]), (29, [(8, 28)])]
    [Is (.pointer (some ⟨ga, 0, none⟩)), Is (.slice (some aa) n0 c0), Is (.int .i64 (k : Int)), Is (.pointer (some (aa.add (k * 3)))), Is (.agg u.cl.toArray), Is (.pointer (some ⟨gb, 0, none⟩)), Is (.slice (some ab) n0 d0), Is (.int .i64 (k : Int)), Is (.pointer (some (ab.add (k * 3)))), Is (.agg v.cl.toArray)]
    (by kernel_rfl) (by kernel_rfl) (by rfl) ?st ?steps ?fin
   case st => exact ⟨Is.steady _, Is.steady _, Is.steady _, Is.steady _, Is.steady _, Is.steady _, Is.steady _, Is.steady _, Is.steady _, Is.steady _, trivial⟩
   case steps =>
    refine fcA (fun w4 hw4 => ?_) ?_
    ·refine foA rfl rfl ?_; (try simp only [Act.put, zA, zB, zC]); (go_wp2_with fail); exact qsA rfl rfl
    refine fcA (fun w4 hw4 => fiA rfl ?_) ?_
    ·have c : w4.cell? ⟨ga, 0, none⟩ = some (.slice (some aa) n0 c0) := ((HKAD.out.below hw4 HKAD.out.lt).cell 0).trans XA0.out
     refine foA rfl rfl ?_; (try simp only [Act.put, zA, zB, zC]); (go_wp2_with fail); exact qsA rfl rfl
    refine fcA (fun w4 hw4 => ?_) ?_
    ·refine foA rfl rfl ?_; (try simp only [Act.put, zA, zB, zC]); (go_wp2_with fail); exact qsA rfl rfl
    refine fcA (fun w4 hw4 => fiA rfl (fiA rfl ?_)) ?_
    ·refine foA rfl rfl ?_; (try simp only [Act.put, zA, zB, zC]); (go_wp2_with fail); exact qsA rfl rfl
    refine fcA (fun w4 hw4 => fiA rfl ?_) ?_
    ·exact FreeStep.load_at 182 _ rfl rfl rfl rfl (by rfl) rfl rfl (aa.add (k * 3)) 3 rfl u.cl (fun j z hz => cell_keepB (w0 := wr) (HCA.out j z hz) hw4) _ Tryz.underlying182 rfl infoC_Mem ((show u.cl.length = 3 from rfl)) rfl
    refine fcA (fun w4 hw4 => ?_) ?_
    ·refine foA rfl rfl ?_; (try simp only [Act.put, zA, zB, zC]); (go_wp2_with fail); exact qsA rfl rfl
    refine fcA (fun w4 hw4 => fiA rfl ?_) ?_
    ·have c : w4.cell? ⟨gb, 0, none⟩ = some (.slice (some ab) n0 d0) := ((HKBD.out.below hw4 HKBD.out.lt).cell 0).trans YA0.out
     refine foA rfl rfl ?_; (try simp only [Act.put, zA, zB, zC]); (go_wp2_with fail); exact qsA rfl rfl
    refine fcA (fun w4 hw4 => ?_) ?_
    ·refine foA rfl rfl ?_; (try simp only [Act.put, zA, zB, zC]); (go_wp2_with fail); exact qsA rfl rfl
    refine fcA (fun w4 hw4 => fiA rfl (fiA rfl ?_)) ?_
    ·refine foA rfl rfl ?_; (try simp only [Act.put, zA, zB, zC]); (go_wp2_with fail); exact qsA rfl rfl
    refine fcA (fun w4 hw4 => fiA rfl ?_) ?_
    ·exact FreeStep.load_at 182 _ rfl rfl rfl rfl (by rfl) rfl rfl (ab.add (k * 3)) 3 rfl v.cl (fun j z hz => cell_keepB (w0 := wr) (HCB.out j z hz) hw4) _ Tryz.underlying182 rfl infoC_Mem ((show v.cl.length = 3 from rfl)) rfl
    exact FreeSteps.nil
   case fin =>
    intro w4 hw4
    iterate 10 refine FreeEnd.is rfl ?_
    refine FreeEnd.nil ?_
    (try simp only [Act.put, zA, zB, zC])
    simp only [List.length_cons, List.length_nil, Nat.reduceAdd, List.drop_succ_cons, List.drop_zero]
    have HW4 := Lib.hid (show Below wr.heap.size wr w4 from (Below.refl _ _).drew.trans hw4)
    clear hw4
    obtain ⟨q, hq⟩ := same_bool (u.cl = v.cl)
    have HQ := Lib.hid hq
    clear hq
    go_wp2_with (with_reducible show wpList _ _ _ (Oper.mk _ (Op.binOp BinOp.neq _ _ _ _) _ _ _ _ :: _) _ _; go_must (refine wpList_neq_flat rfl 182 _ _ _ rfl u.cl v.cl rfl rfl 3 _ flat_MemC (by omega) agg_MemC guard_MemC (fits_MemC HUO.out) (fits_MemC HVO.out) q HQ.out ?_); cases q)
    ·go_wp2
     go_ret
     exact ⟨RetB.no fun h => absurd (h) (by rw [XE0.out, YE0.out]; exact HNE.out (fun he => by have := HQ.out.2 (by rw [he]); cases this)), HW.out.trans (HW4.out.mono HW.out.size)⟩
    ·go_wp2
     go_round
     case rel => exact ⟨k + 1, by omega, by go_num, HKA.out.below HW4.out HKA.out.lt, HKB.out.below HW4.out HKB.out.lt, HW.out.trans (HW4.out.mono HW.out.size), HST.out (Mem.eq_of (HQ.out.1 rfl))⟩
     case measure => simp [intOf]; omega
  ·have hkn : k = n0 := by omega
   subst hkn
   have HALL0 := Lib.hid (show x.ms = y.ms by rw [XE0.out, YE0.out]; exact HEQ.out.all XN0.out YN0.out)
   have hi : ¬ (k : Int) < (k : Int) := by omega
   go_wp2
   go_ret
   exact ⟨RetB.yes (HALL0.out), HW.out⟩

theorem cmpCou (w : World) (x y : Cou) (hx : x.ok) (hy : y.ok) (hax : x.at w) (hay : y.at w) (hbig : x.n ≤ 5000000000000) :
  Calls Tryz.prog 66 #[.agg x.cl.toArray, .agg y.cl.toArray] w fun e w' => RetB e (x.ms = y.ms) ∧ Below w.heap.size w w' := by
 by_cases e1 : x.n = y.n
 case neg => exact (cmpCou_f1 w x y hx hy e1).mono fun e w' ⟨h1, h2⟩ => ⟨by rw [h1]; exact RetB.no fun h => absurd ((by rw [hx.n, hy.n, h] : x.n = y.n)) e1, h2⟩
 exact (cmpCou_m w x y hx hy hax hay hbig e1).mono fun e w' ⟨h1, h3⟩ => ⟨h1.iff ⟨fun h => h, fun h => h⟩, h3⟩

set_option maxHeartbeats 2000000 in
theorem cmpLed_f1 (w : World) (x y : Led) (hx : x.ok) (hy : y.ok) (d : ¬ x.burnt = y.burnt) :
  Calls Tryz.prog 67 #[.agg x.cl.toArray, .agg y.cl.toArray] w fun e w' => e = .returned (.bool false) ∧ Below w.heap.size w w' := by
 have HX := Lib.hid hx
 have HY := Lib.hid hy
 have HLX := Lib.hid ((show x.cl.length = 4 from rfl))
 have HLY := Lib.hid ((show y.cl.length = 4 from rfl))
 go_enter Tryz.func67, Tryz.ntmps67
 go_wp2_with (with_reducible show wpList _ _ _ (Oper.mk _ (Op.box _ _) _ _ _ _ :: _) _ _; refine wpList_box_i rfl _ _ rfl _ rfl ?_)
 intro ga w1 hk1 hb1 hg1 hs1
 go_wp2_with (with_reducible show wpList _ _ _ (Oper.mk _ (Op.box _ _) _ _ _ _ :: _) _ _; refine wpList_box_i rfl _ _ rfl _ rfl ?_)
 intro gb w2 hk2 hb2 hg2 hs2
 have HKA := Lib.hid ((bk_eqT (cs' := x.cl.toArray) hk1 rfl).below hb2 hk1.lt)
 have HKB := Lib.hid (bk_eqT (cs' := y.cl.toArray) hk2 rfl)
 have HB2 := Lib.hid (hb1.trans (hb2.mono hb1.size))
 have a2 : w2.cell? ⟨ga, 2, none⟩ = some (.int .u64 x.burnt) := (HKA.out.cell 2)
 have b2 : w2.cell? ⟨gb, 2, none⟩ = some (.int .u64 y.burnt) := (HKB.out.cell 2)
 have f1 : (x.burnt != y.burnt) = true := by simpa using d
 clear hk1 hb1 hg1 hs1 hk2 hb2 hg2 hs2  d hx hy
 go_wp2_with fail
 go_ret
 exact ⟨rfl, HB2.out⟩

set_option maxHeartbeats 2000000 in
theorem cmpLed_f2 (w : World) (x y : Led) (hx : x.ok) (hy : y.ok) (e1 : x.burnt = y.burnt) (d : ¬ x.supply = y.supply) :
  Calls Tryz.prog 67 #[.agg x.cl.toArray, .agg y.cl.toArray] w fun e w' => e = .returned (.bool false) ∧ Below w.heap.size w w' := by
 have HX := Lib.hid hx
 have HY := Lib.hid hy
 have HLX := Lib.hid ((show x.cl.length = 4 from rfl))
 have HLY := Lib.hid ((show y.cl.length = 4 from rfl))
 go_enter Tryz.func67, Tryz.ntmps67
 go_wp2_with (with_reducible show wpList _ _ _ (Oper.mk _ (Op.box _ _) _ _ _ _ :: _) _ _; refine wpList_box_i rfl _ _ rfl _ rfl ?_)
 intro ga w1 hk1 hb1 hg1 hs1
 go_wp2_with (with_reducible show wpList _ _ _ (Oper.mk _ (Op.box _ _) _ _ _ _ :: _) _ _; refine wpList_box_i rfl _ _ rfl _ rfl ?_)
 intro gb w2 hk2 hb2 hg2 hs2
 have HKA := Lib.hid ((bk_eqT (cs' := x.cl.toArray) hk1 rfl).below hb2 hk1.lt)
 have HKB := Lib.hid (bk_eqT (cs' := y.cl.toArray) hk2 rfl)
 have HB2 := Lib.hid (hb1.trans (hb2.mono hb1.size))
 have a2 : w2.cell? ⟨ga, 2, none⟩ = some (.int .u64 x.burnt) := (HKA.out.cell 2)
 have b2 : w2.cell? ⟨gb, 2, none⟩ = some (.int .u64 y.burnt) := (HKB.out.cell 2)
 have a3 : w2.cell? ⟨ga, 3, none⟩ = some (.int .u64 x.supply) := (HKA.out.cell 3)
 have b3 : w2.cell? ⟨gb, 3, none⟩ = some (.int .u64 y.supply) := (HKB.out.cell 3)
 have f1 : (x.burnt != y.burnt) = false := by simp [e1]
 have f2 : (x.supply != y.supply) = true := by simpa using d
 clear hk1 hb1 hg1 hs1 hk2 hb2 hg2 hs2 e1 d hx hy
 go_wp2_with fail
 go_ret
 exact ⟨rfl, HB2.out⟩

set_option maxHeartbeats 2000000 in
theorem cmpLed_f3 (w : World) (x y : Led) (hx : x.ok) (hy : y.ok) (e1 : x.burnt = y.burnt) (e2 : x.supply = y.supply) (d : ¬ x.an = y.an) :
  Calls Tryz.prog 67 #[.agg x.cl.toArray, .agg y.cl.toArray] w fun e w' => e = .returned (.bool false) ∧ Below w.heap.size w w' := by
 have HX := Lib.hid hx
 have HY := Lib.hid hy
 have HLX := Lib.hid ((show x.cl.length = 4 from rfl))
 have HLY := Lib.hid ((show y.cl.length = 4 from rfl))
 go_enter Tryz.func67, Tryz.ntmps67
 go_wp2_with (with_reducible show wpList _ _ _ (Oper.mk _ (Op.box _ _) _ _ _ _ :: _) _ _; refine wpList_box_i rfl _ _ rfl _ rfl ?_)
 intro ga w1 hk1 hb1 hg1 hs1
 go_wp2_with (with_reducible show wpList _ _ _ (Oper.mk _ (Op.box _ _) _ _ _ _ :: _) _ _; refine wpList_box_i rfl _ _ rfl _ rfl ?_)
 intro gb w2 hk2 hb2 hg2 hs2
 have HKA := Lib.hid ((bk_eqT (cs' := x.cl.toArray) hk1 rfl).below hb2 hk1.lt)
 have HKB := Lib.hid (bk_eqT (cs' := y.cl.toArray) hk2 rfl)
 have HB2 := Lib.hid (hb1.trans (hb2.mono hb1.size))
 have a2 : w2.cell? ⟨ga, 2, none⟩ = some (.int .u64 x.burnt) := (HKA.out.cell 2)
 have b2 : w2.cell? ⟨gb, 2, none⟩ = some (.int .u64 y.burnt) := (HKB.out.cell 2)
 have a3 : w2.cell? ⟨ga, 3, none⟩ = some (.int .u64 x.supply) := (HKA.out.cell 3)
 have b3 : w2.cell? ⟨gb, 3, none⟩ = some (.int .u64 y.supply) := (HKB.out.cell 3)
 have a0 : w2.cell? ⟨ga, 0, none⟩ = some (.slice x.aA x.an x.ac) := (HKA.out.cell 0)
 have b0 : w2.cell? ⟨gb, 0, none⟩ = some (.slice y.aA y.an y.ac) := (HKB.out.cell 0)
 have f1 : (x.burnt != y.burnt) = false := by simp [e1]
 have f2 : (x.supply != y.supply) = false := by simp [e2]
 have f3 : ((x.an : Int) != (y.an : Int)) = true := by simp; omega
 have g3 : (x.an != y.an) = true := by simpa using d
 clear hk1 hb1 hg1 hs1 hk2 hb2 hg2 hs2 e1 e2 d hx hy
 go_wp2_with fail
 go_ret
 exact ⟨rfl, HB2.out⟩

set_option maxHeartbeats 2000000 in
theorem cmpLed_f4 (w : World) (x y : Led) (hx : x.ok) (hy : y.ok) (e1 : x.burnt = y.burnt) (e2 : x.supply = y.supply) (e3 : x.an = y.an) (d : ¬ x.rn = y.rn) :
  Calls Tryz.prog 67 #[.agg x.cl.toArray, .agg y.cl.toArray] w fun e w' => e = .returned (.bool false) ∧ Below w.heap.size w w' := by
 have HX := Lib.hid hx
 have HY := Lib.hid hy
 have HLX := Lib.hid ((show x.cl.length = 4 from rfl))
 have HLY := Lib.hid ((show y.cl.length = 4 from rfl))
 go_enter Tryz.func67, Tryz.ntmps67
 go_wp2_with (with_reducible show wpList _ _ _ (Oper.mk _ (Op.box _ _) _ _ _ _ :: _) _ _; refine wpList_box_i rfl _ _ rfl _ rfl ?_)
 intro ga w1 hk1 hb1 hg1 hs1
 go_wp2_with (with_reducible show wpList _ _ _ (Oper.mk _ (Op.box _ _) _ _ _ _ :: _) _ _; refine wpList_box_i rfl _ _ rfl _ rfl ?_)
 intro gb w2 hk2 hb2 hg2 hs2
 have HKA := Lib.hid ((bk_eqT (cs' := x.cl.toArray) hk1 rfl).below hb2 hk1.lt)
 have HKB := Lib.hid (bk_eqT (cs' := y.cl.toArray) hk2 rfl)
 have HB2 := Lib.hid (hb1.trans (hb2.mono hb1.size))
 have a2 : w2.cell? ⟨ga, 2, none⟩ = some (.int .u64 x.burnt) := (HKA.out.cell 2)
 have b2 : w2.cell? ⟨gb, 2, none⟩ = some (.int .u64 y.burnt) := (HKB.out.cell 2)
 have a3 : w2.cell? ⟨ga, 3, none⟩ = some (.int .u64 x.supply) := (HKA.out.cell 3)
 have b3 : w2.cell? ⟨gb, 3, none⟩ = some (.int .u64 y.supply) := (HKB.out.cell 3)
 have a0 : w2.cell? ⟨ga, 0, none⟩ = some (.slice x.aA x.an x.ac) := (HKA.out.cell 0)
 have b0 : w2.cell? ⟨gb, 0, none⟩ = some (.slice y.aA y.an y.ac) := (HKB.out.cell 0)
 have a1 : w2.cell? ⟨ga, 1, none⟩ = some (.slice x.rA x.rn x.rc) := (HKA.out.cell 1)
 have b1 : w2.cell? ⟨gb, 1, none⟩ = some (.slice y.rA y.rn y.rc) := (HKB.out.cell 1)
 have f1 : (x.burnt != y.burnt) = false := by simp [e1]
 have f2 : (x.supply != y.supply) = false := by simp [e2]
 have f3 : ((x.an : Int) != (y.an : Int)) = false := by simp [e3]
 have g3 : (x.an != y.an) = false := by simp [e3]
 have f4 : ((x.rn : Int) != (y.rn : Int)) = true := by simp; omega
 have g4 : (x.rn != y.rn) = true := by simpa using d
 clear hk1 hb1 hg1 hs1 hk2 hb2 hg2 hs2 e1 e2 e3 d hx hy
 go_wp2_with fail
 go_ret
 exact ⟨rfl, HB2.out⟩

set_option maxHeartbeats 4000000 in
theorem cmpLed_m (w : World) (x y : Led) (hx : x.ok) (hy : y.ok) (hax : x.at w) (hay : y.at w) (hbig : x.an ≤ 5000000000000 ∧ x.rn ≤ 5000000000000) (e1 : x.burnt = y.burnt) (e2 : x.supply = y.supply) (e3 : x.an = y.an) (e4 : x.rn = y.rn) :
  Calls Tryz.prog 67 #[.agg x.cl.toArray, .agg y.cl.toArray] w fun e w' => RetB e (x.acs = y.acs ∧ x.rs = y.rs) ∧ Below w.heap.size w w' := by
 have HX := Lib.hid hx
 have HY := Lib.hid hy
 have HLX := Lib.hid ((show x.cl.length = 4 from rfl))
 have HLY := Lib.hid ((show y.cl.length = 4 from rfl))
 go_enter Tryz.func67, Tryz.ntmps67
 go_wp2_with (with_reducible show wpList _ _ _ (Oper.mk _ (Op.box _ _) _ _ _ _ :: _) _ _; refine wpList_box_i rfl _ _ rfl _ rfl ?_)
 intro ga w1 hk1 hb1 hg1 hs1
 go_wp2_with (with_reducible show wpList _ _ _ (Oper.mk _ (Op.box _ _) _ _ _ _ :: _) _ _; refine wpList_box_i rfl _ _ rfl _ rfl ?_)
 intro gb w2 hk2 hb2 hg2 hs2
 have HKA := Lib.hid ((bk_eqT (cs' := x.cl.toArray) hk1 rfl).below hb2 hk1.lt)
 have HKB := Lib.hid (bk_eqT (cs' := y.cl.toArray) hk2 rfl)
 have HB2 := Lib.hid (hb1.trans (hb2.mono hb1.size))
 have a2 : w2.cell? ⟨ga, 2, none⟩ = some (.int .u64 x.burnt) := (HKA.out.cell 2)
 have b2 : w2.cell? ⟨gb, 2, none⟩ = some (.int .u64 y.burnt) := (HKB.out.cell 2)
 have a3 : w2.cell? ⟨ga, 3, none⟩ = some (.int .u64 x.supply) := (HKA.out.cell 3)
 have b3 : w2.cell? ⟨gb, 3, none⟩ = some (.int .u64 y.supply) := (HKB.out.cell 3)
 have a0 : w2.cell? ⟨ga, 0, none⟩ = some (.slice x.aA x.an x.ac) := (HKA.out.cell 0)
 have b0 : w2.cell? ⟨gb, 0, none⟩ = some (.slice y.aA y.an y.ac) := (HKB.out.cell 0)
 have a1 : w2.cell? ⟨ga, 1, none⟩ = some (.slice x.rA x.rn x.rc) := (HKA.out.cell 1)
 have b1 : w2.cell? ⟨gb, 1, none⟩ = some (.slice y.rA y.rn y.rc) := (HKB.out.cell 1)
 have f1 : (x.burnt != y.burnt) = false := by simp [e1]
 have f2 : (x.supply != y.supply) = false := by simp [e2]
 have f3 : ((x.an : Int) != (y.an : Int)) = false := by simp [e3]
 have g3 : (x.an != y.an) = false := by simp [e3]
 have f4 : ((x.rn : Int) != (y.rn : Int)) = false := by simp [e4]
 have g4 : (x.rn != y.rn) = false := by simp [e4]
 have HAX := Lib.hid hax
 have HAY := Lib.hid hay
 obtain ⟨A0, hA⟩ : ∃ A, x.aA = A := ⟨_, rfl⟩
 obtain ⟨n0, hn⟩ : ∃ n, x.an = n := ⟨_, rfl⟩
 obtain ⟨c0, hc⟩ : ∃ c, x.ac = c := ⟨_, rfl⟩
 obtain ⟨l0, hl⟩ : ∃ l, x.acs = l := ⟨_, rfl⟩
 obtain ⟨B0, hB⟩ : ∃ A, y.aA = A := ⟨_, rfl⟩
 obtain ⟨d0, hd⟩ : ∃ c, y.ac = c := ⟨_, rfl⟩
 obtain ⟨m0, hm⟩ : ∃ l, y.acs = l := ⟨_, rfl⟩
 have XA0 := Lib.hid (show x.cl.toArray[0]? = some (.slice A0 n0 c0) by rw [(show x.cl.toArray[0]? = some (.slice x.aA x.an x.ac) from rfl), hA, hn, hc])
 have YA0 := Lib.hid (show y.cl.toArray[0]? = some (.slice B0 n0 d0) by rw [(show y.cl.toArray[0]? = some (.slice y.aA y.an y.ac) from rfl), hB, ← e3, hn, hd])
 have XN0 := Lib.hid (show n0 = l0.length by rw [← hn, ← hl]; exact HX.out.an)
 have YN0 := Lib.hid (show n0 = m0.length by rw [← hn, ← hm, e3]; exact HY.out.an)
 have XO0 := Lib.hid (show ∀ e ∈ l0, e.ok by rw [← hl]; exact HX.out.acs)
 have YO0 := Lib.hid (show ∀ e ∈ m0, e.ok by rw [← hm]; exact HY.out.acs)
 have XR0 := Lib.hid (show Rd w A0 (l0.flatMap Acc.cl) by rw [← hA, ← hl]; exact HAX.out.a)
 have YR0 := Lib.hid (show Rd w B0 (m0.flatMap Acc.cl) by rw [← hB, ← hm]; exact HAY.out.a)
 have XL0 := Lib.hid (show ∀ e ∈ l0, e.cl.length = 5 from fun e he => (show e.cl.length = 5 from rfl))
 have YL0 := Lib.hid (show ∀ e ∈ m0, e.cl.length = 5 from fun e he => (show e.cl.length = 5 from rfl))
 have XE0 := Lib.hid hl
 have YE0 := Lib.hid hm
 have XB0 := Lib.hid (show n0 ≤ 5000000000000 by rw [← hn]; exact hbig.1)
 clear hA hc hl hB hd hm hn
 obtain ⟨A1, hA⟩ : ∃ A, x.rA = A := ⟨_, rfl⟩
 obtain ⟨n1, hn⟩ : ∃ n, x.rn = n := ⟨_, rfl⟩
 obtain ⟨c1, hc⟩ : ∃ c, x.rc = c := ⟨_, rfl⟩
 obtain ⟨l1, hl⟩ : ∃ l, x.rs = l := ⟨_, rfl⟩
 obtain ⟨B1, hB⟩ : ∃ A, y.rA = A := ⟨_, rfl⟩
 obtain ⟨d1, hd⟩ : ∃ c, y.rc = c := ⟨_, rfl⟩
 obtain ⟨m1, hm⟩ : ∃ l, y.rs = l := ⟨_, rfl⟩
 have XA1 := Lib.hid (show x.cl.toArray[1]? = some (.slice A1 n1 c1) by rw [(show x.cl.toArray[1]? = some (.slice x.rA x.rn x.rc) from rfl), hA, hn, hc])
 have YA1 := Lib.hid (show y.cl.toArray[1]? = some (.slice B1 n1 d1) by rw [(show y.cl.toArray[1]? = some (.slice y.rA y.rn y.rc) from rfl), hB, ← e4, hn, hd])
 have XN1 := Lib.hid (show n1 = l1.length by rw [← hn, ← hl]; exact HX.out.rn)
 have YN1 := Lib.hid (show n1 = m1.length by rw [← hn, ← hm, e4]; exact HY.out.rn)
 have XO1 := Lib.hid (show ∀ e ∈ l1, e.ok by rw [← hl]; exact HX.out.rs)
 have YO1 := Lib.hid (show ∀ e ∈ m1, e.ok by rw [← hm]; exact HY.out.rs)
 have XR1 := Lib.hid (show Rd w A1 (l1.flatMap Rls.cl) by rw [← hA, ← hl]; exact HAX.out.r)
 have YR1 := Lib.hid (show Rd w B1 (m1.flatMap Rls.cl) by rw [← hB, ← hm]; exact HAY.out.r)
 have XL1 := Lib.hid (show ∀ e ∈ l1, e.cl.length = 4 from fun e he => (show e.cl.length = 4 from rfl))
 have YL1 := Lib.hid (show ∀ e ∈ m1, e.cl.length = 4 from fun e he => (show e.cl.length = 4 from rfl))
 have XE1 := Lib.hid hl
 have YE1 := Lib.hid hm
 have XB1 := Lib.hid (show n1 ≤ 5000000000000 by rw [← hn]; exact hbig.2)
 clear hA hc hl hB hd hm hn
 clear hk1 hb1 hg1 hs1 hk2 hb2 hg2 hs2 e1 e2 e3 e4 hx hy hax hay
 go_wp2_with fail
 clear a2 b2 a3 b3 a0 b0 a1 b1 f1 f2 f3 g3 f4 g4
 go_loopw [5] (fun i wr => ∃ k : Nat, k ≤ n0 ∧ i = .int .i64 (k : Int) ∧ Bk wr ga x.cl.toArray 60 ∧ Bk wr gb y.cl.toArray 60 ∧ Below w.heap.size w wr ∧ EqTo l0 m0 k) (fun i _ => n0 - (intOf i).toNat)
 case atStart => exact ⟨0, by omega, rfl, HKA.out, HKB.out, HB2.out, EqTo.zero _ _⟩
 case round =>
  clear HKA HKB HB2
  obtain ⟨k, hk, rfl, h4, h5, h6, h7⟩ := hrel
  have HKA := Lib.hid h4
  have HKB := Lib.hid h5
  have HW := Lib.hid h6
  have HEQ := Lib.hid h7
  have ca : wr.cell? ⟨ga, 0, none⟩ = some (.slice A0 n0 c0) := (h4.cell 0).trans XA0.out
  clear h4 h5 h6 h7
  by_cases hlt : k < n0
  ·have hkl : k < l0.length := by rw [← XN0.out]; exact hlt
   have hkm : k < m0.length := by rw [← YN0.out]; exact hlt
   obtain ⟨aa, hA, hcA⟩ := rd_elem (by omega) XL0.out (XR0.out.below HW.out) hkl
   obtain ⟨ab, hB, hcB⟩ := rd_elem (by omega) YL0.out (YR0.out.below HW.out) hkm
   obtain ⟨u, hu⟩ : ∃ u, l0[k] = u := ⟨_, rfl⟩
   obtain ⟨v, hv⟩ : ∃ v, m0[k] = v := ⟨_, rfl⟩
   have HUO := Lib.hid (XO0.out u (by rw [← hu]; exact List.getElem_mem hkl))
   have HVO := Lib.hid (YO0.out v (by rw [← hv]; exact List.getElem_mem hkm))
   have HST := Lib.hid (fun (he : u = v) => HEQ.out.step hkl hkm (by rw [hu, hv, he]))
   have HNE := Lib.hid (fun (he : u ≠ v) => ne_at hkl hkm (by rw [hu, hv]; exact he))
   rw [hu] at hcA
   rw [hv] at hcB
   have HCA := Lib.hid hcA
   have HCB := Lib.hid hcB
   subst hA hB
   have HKAD := Lib.hid (show Bk wr.drew ga x.cl.toArray 60 from HKA.out.drew)
   have HKBD := Lib.hid (show Bk wr.drew gb y.cl.toArray 60 from HKB.out.drew)
   clear hcA hcB hu hv
   have hi : (k : Int) < n0 := by omega
   have p1 : IntKind.i64.wrap ((k : Int) + 1) = (k : Int) + 1 := by rw [IntKind.wrap_i64]; have := XB0.out; omega
   go_wp2_with fail
   refine wp_region_free [(44, []), (45, [(0, 44)]), (46, []), (47, [(1, 45), (2, 46)]), (48, [(3, 47)]), (49, []), (50, [(5, 49)]), (51, []), (52, [(6, 50), (7, 51)]), (53, [(8, 52)])]
    [Is (.pointer (some ⟨ga, 0, none⟩)), Is (.slice (some aa) n0 c0), Is (.int .i64 (k : Int)), Is (.pointer (some (aa.add (k * 5)))), Is (.agg u.cl.toArray), Is (.pointer (some ⟨gb, 0, none⟩)), Is (.slice (some ab) n0 d0), Is (.int .i64 (k : Int)), Is (.pointer (some (ab.add (k * 5)))), Is (.agg v.cl.toArray)]
    (by kernel_rfl) (by kernel_rfl) (by rfl) ?st ?steps ?fin
   case st => exact ⟨Is.steady _, Is.steady _, Is.steady _, Is.steady _, Is.steady _, Is.steady _, Is.steady _, Is.steady _, Is.steady _, Is.steady _, trivial⟩
   case steps =>
    refine fcA (fun w4 hw4 => ?_) ?_
    ·refine foA rfl rfl ?_; (try simp only [Act.put, zA, zB, zC]); (go_wp2_with fail); exact qsA rfl rfl
    refine fcA (fun w4 hw4 => fiA rfl ?_) ?_
    ·have c : w4.cell? ⟨ga, 0, none⟩ = some (.slice (some aa) n0 c0) := ((HKAD.out.below hw4 HKAD.out.lt).cell 0).trans XA0.out
     refine foA rfl rfl ?_; (try simp only [Act.put, zA, zB, zC]); (go_wp2_with fail); exact qsA rfl rfl
    refine fcA (fun w4 hw4 => ?_) ?_
    ·refine foA rfl rfl ?_; (try simp only [Act.put, zA, zB, zC]); (go_wp2_with fail); exact qsA rfl rfl
    refine fcA (fun w4 hw4 => fiA rfl (fiA rfl ?_)) ?_
    ·refine foA rfl rfl ?_; (try simp only [Act.put, zA, zB, zC]); (go_wp2_with fail); exact qsA rfl rfl
    refine fcA (fun w4 hw4 => fiA rfl ?_) ?_
    ·exact FreeStep.load_at 191 _ rfl rfl rfl rfl (by rfl) rfl rfl (aa.add (k * 5)) 5 rfl u.cl (fun j z hz => cell_keepB (w0 := wr) (HCA.out j z hz) hw4) _ Tryz.underlying191 rfl infoC_Acc ((show u.cl.length = 5 from rfl)) rfl
    refine fcA (fun w4 hw4 => ?_) ?_
    ·refine foA rfl rfl ?_; (try simp only [Act.put, zA, zB, zC]); (go_wp2_with fail); exact qsA rfl rfl
    refine fcA (fun w4 hw4 => fiA rfl ?_) ?_
    ·have c : w4.cell? ⟨gb, 0, none⟩ = some (.slice (some ab) n0 d0) := ((HKBD.out.below hw4 HKBD.out.lt).cell 0).trans YA0.out
     refine foA rfl rfl ?_; (try simp only [Act.put, zA, zB, zC]); (go_wp2_with fail); exact qsA rfl rfl
    refine fcA (fun w4 hw4 => ?_) ?_
    ·refine foA rfl rfl ?_; (try simp only [Act.put, zA, zB, zC]); (go_wp2_with fail); exact qsA rfl rfl
    refine fcA (fun w4 hw4 => fiA rfl (fiA rfl ?_)) ?_
    ·refine foA rfl rfl ?_; (try simp only [Act.put, zA, zB, zC]); (go_wp2_with fail); exact qsA rfl rfl
    refine fcA (fun w4 hw4 => fiA rfl ?_) ?_
    ·exact FreeStep.load_at 191 _ rfl rfl rfl rfl (by rfl) rfl rfl (ab.add (k * 5)) 5 rfl v.cl (fun j z hz => cell_keepB (w0 := wr) (HCB.out j z hz) hw4) _ Tryz.underlying191 rfl infoC_Acc ((show v.cl.length = 5 from rfl)) rfl
    exact FreeSteps.nil
   case fin =>
    intro w4 hw4
    iterate 10 refine FreeEnd.is rfl ?_
    refine FreeEnd.nil ?_
    (try simp only [Act.put, zA, zB, zC])
    simp only [List.length_cons, List.length_nil, Nat.reduceAdd, List.drop_succ_cons, List.drop_zero]
    have HW4 := Lib.hid (show Below wr.heap.size wr w4 from (Below.refl _ _).drew.trans hw4)
    clear hw4
    obtain ⟨q, hq⟩ := same_bool (u.cl = v.cl)
    have HQ := Lib.hid hq
    clear hq
    go_wp2_with (with_reducible show wpList _ _ _ (Oper.mk _ (Op.binOp BinOp.neq _ _ _ _) _ _ _ _ :: _) _ _; go_must (refine wpList_neq_flat rfl 191 _ _ _ rfl u.cl v.cl rfl rfl 3 _ flat_AccC (by omega) agg_AccC guard_AccC (fits_AccC HUO.out) (fits_AccC HVO.out) q HQ.out ?_); cases q)
    ·go_wp2
     go_ret
     exact ⟨RetB.no fun h => absurd (h.1) (by rw [XE0.out, YE0.out]; exact HNE.out (fun he => by have := HQ.out.2 (by rw [he]); cases this)), HW.out.trans (HW4.out.mono HW.out.size)⟩
    ·go_wp2
     go_round
     case rel => exact ⟨k + 1, by omega, by go_num, HKA.out.below HW4.out HKA.out.lt, HKB.out.below HW4.out HKB.out.lt, HW.out.trans (HW4.out.mono HW.out.size), HST.out (Acc.eq_of (HQ.out.1 rfl))⟩
     case measure => simp [intOf]; omega
  ·have hkn : k = n0 := by omega
   subst hkn
   have HALL0 := Lib.hid (show x.acs = y.acs by rw [XE0.out, YE0.out]; exact HEQ.out.all XN0.out YN0.out)
   have hi : ¬ (k : Int) < (k : Int) := by omega
   go_wp2_with fail
   go_loopw [6] (fun i wr => ∃ k : Nat, k ≤ n1 ∧ i = .int .i64 (k : Int) ∧ Bk wr ga x.cl.toArray 60 ∧ Bk wr gb y.cl.toArray 60 ∧ Below w.heap.size w wr ∧ EqTo l1 m1 k) (fun i _ => n1 - (intOf i).toNat)
   case atStart => exact ⟨0, by omega, rfl, HKA.out, HKB.out, HW.out, EqTo.zero _ _⟩
   case round =>
    clear HKA HKB HW
    obtain ⟨k, hk, rfl, h4, h5, h6, h7⟩ := hrel
    have HKA := Lib.hid h4
    have HKB := Lib.hid h5
    have HW := Lib.hid h6
    have HEQ := Lib.hid h7
    have ca : wr.cell? ⟨ga, 1, none⟩ = some (.slice A1 n1 c1) := (h4.cell 1).trans XA1.out
    clear h4 h5 h6 h7
    by_cases hlt : k < n1
    ·have hkl : k < l1.length := by rw [← XN1.out]; exact hlt
     have hkm : k < m1.length := by rw [← YN1.out]; exact hlt
     obtain ⟨aa, hA, hcA⟩ := rd_elem (by omega) XL1.out (XR1.out.below HW.out) hkl
     obtain ⟨ab, hB, hcB⟩ := rd_elem (by omega) YL1.out (YR1.out.below HW.out) hkm
     obtain ⟨u, hu⟩ : ∃ u, l1[k] = u := ⟨_, rfl⟩
     obtain ⟨v, hv⟩ : ∃ v, m1[k] = v := ⟨_, rfl⟩
     have HUO := Lib.hid (XO1.out u (by rw [← hu]; exact List.getElem_mem hkl))
     have HVO := Lib.hid (YO1.out v (by rw [← hv]; exact List.getElem_mem hkm))
     have HST := Lib.hid (fun (he : u = v) => HEQ.out.step hkl hkm (by rw [hu, hv, he]))
     have HNE := Lib.hid (fun (he : u ≠ v) => ne_at hkl hkm (by rw [hu, hv]; exact he))
     rw [hu] at hcA
     rw [hv] at hcB
     have HCA := Lib.hid hcA
     have HCB := Lib.hid hcB
     subst hA hB
     have HKAD := Lib.hid (show Bk wr.drew ga x.cl.toArray 60 from HKA.out.drew)
     have HKBD := Lib.hid (show Bk wr.drew gb y.cl.toArray 60 from HKB.out.drew)
     clear hcA hcB hu hv
     have hi : (k : Int) < n1 := by omega
     have p1 : IntKind.i64.wrap ((k : Int) + 1) = (k : Int) + 1 := by rw [IntKind.wrap_i64]; have := XB1.out; omega
     go_wp2_with fail
     refine wp_region_free [(62, []), (63, [(0, 62)]), (64, []), (65, [(1, 63), (2, 64)]), (66, [(3, 65)]), (67, []), (68, [(5, 67)]), (69, []), (70, [(6, 68), (7, 69)]), (71, [(8, 70)])]
      [Is (.pointer (some ⟨ga, 1, none⟩)), Is (.slice (some aa) n1 c1), Is (.int .i64 (k : Int)), Is (.pointer (some (aa.add (k * 4)))), Is (.agg u.cl.toArray), Is (.pointer (some ⟨gb, 1, none⟩)), Is (.slice (some ab) n1 d1), Is (.int .i64 (k : Int)), Is (.pointer (some (ab.add (k * 4)))), Is (.agg v.cl.toArray)]
      (by kernel_rfl) (by kernel_rfl) (by rfl) ?st ?steps ?fin
     case st => exact ⟨Is.steady _, Is.steady _, Is.steady _, Is.steady _, Is.steady _, Is.steady _, Is.steady _, Is.steady _, Is.steady _, Is.steady _, trivial⟩
     case steps =>
      refine fcA (fun w4 hw4 => ?_) ?_
      ·refine foA rfl rfl ?_; (try simp only [Act.put, zA, zB, zC]); (go_wp2_with fail); exact qsA rfl rfl
      refine fcA (fun w4 hw4 => fiA rfl ?_) ?_
      ·have c : w4.cell? ⟨ga, 1, none⟩ = some (.slice (some aa) n1 c1) := ((HKAD.out.below hw4 HKAD.out.lt).cell 1).trans XA1.out
       refine foA rfl rfl ?_; (try simp only [Act.put, zA, zB, zC]); (go_wp2_with fail); exact qsA rfl rfl
      refine fcA (fun w4 hw4 => ?_) ?_
      ·refine foA rfl rfl ?_; (try simp only [Act.put, zA, zB, zC]); (go_wp2_with fail); exact qsA rfl rfl
      refine fcA (fun w4 hw4 => fiA rfl (fiA rfl ?_)) ?_
      ·refine foA rfl rfl ?_; (try simp only [Act.put, zA, zB, zC]); (go_wp2_with fail); exact qsA rfl rfl
      refine fcA (fun w4 hw4 => fiA rfl ?_) ?_
      ·exact FreeStep.load_at 195 _ rfl rfl rfl rfl (by rfl) rfl rfl (aa.add (k * 4)) 4 rfl u.cl (fun j z hz => cell_keepB (w0 := wr) (HCA.out j z hz) hw4) _ Tryz.underlying195 rfl infoC_Rls ((show u.cl.length = 4 from rfl)) rfl
      refine fcA (fun w4 hw4 => ?_) ?_
      ·refine foA rfl rfl ?_; (try simp only [Act.put, zA, zB, zC]); (go_wp2_with fail); exact qsA rfl rfl
      refine fcA (fun w4 hw4 => fiA rfl ?_) ?_
      ·have c : w4.cell? ⟨gb, 1, none⟩ = some (.slice (some ab) n1 d1) := ((HKBD.out.below hw4 HKBD.out.lt).cell 1).trans YA1.out
       refine foA rfl rfl ?_; (try simp only [Act.put, zA, zB, zC]); (go_wp2_with fail); exact qsA rfl rfl
      refine fcA (fun w4 hw4 => ?_) ?_
      ·refine foA rfl rfl ?_; (try simp only [Act.put, zA, zB, zC]); (go_wp2_with fail); exact qsA rfl rfl
      refine fcA (fun w4 hw4 => fiA rfl (fiA rfl ?_)) ?_
      ·refine foA rfl rfl ?_; (try simp only [Act.put, zA, zB, zC]); (go_wp2_with fail); exact qsA rfl rfl
      refine fcA (fun w4 hw4 => fiA rfl ?_) ?_
      ·exact FreeStep.load_at 195 _ rfl rfl rfl rfl (by rfl) rfl rfl (ab.add (k * 4)) 4 rfl v.cl (fun j z hz => cell_keepB (w0 := wr) (HCB.out j z hz) hw4) _ Tryz.underlying195 rfl infoC_Rls ((show v.cl.length = 4 from rfl)) rfl
      exact FreeSteps.nil
     case fin =>
      intro w4 hw4
      iterate 10 refine FreeEnd.is rfl ?_
      refine FreeEnd.nil ?_
      (try simp only [Act.put, zA, zB, zC])
      simp only [List.length_cons, List.length_nil, Nat.reduceAdd, List.drop_succ_cons, List.drop_zero]
      have HW4 := Lib.hid (show Below wr.heap.size wr w4 from (Below.refl _ _).drew.trans hw4)
      clear hw4
      obtain ⟨q, hq⟩ := same_bool (u.cl = v.cl)
      have HQ := Lib.hid hq
      clear hq
      go_wp2_with (with_reducible show wpList _ _ _ (Oper.mk _ (Op.binOp BinOp.neq _ _ _ _) _ _ _ _ :: _) _ _; go_must (refine wpList_neq_flat rfl 195 _ _ _ rfl u.cl v.cl rfl rfl 3 _ flat_RlsC (by omega) agg_RlsC guard_RlsC (fits_RlsC HUO.out) (fits_RlsC HVO.out) q HQ.out ?_); cases q)
      ·go_wp2
       go_ret
       exact ⟨RetB.no fun h => absurd (h.2) (by rw [XE1.out, YE1.out]; exact HNE.out (fun he => by have := HQ.out.2 (by rw [he]); cases this)), HW.out.trans (HW4.out.mono HW.out.size)⟩
      ·go_wp2
       go_round
       case rel => exact ⟨k + 1, by omega, by go_num, HKA.out.below HW4.out HKA.out.lt, HKB.out.below HW4.out HKB.out.lt, HW.out.trans (HW4.out.mono HW.out.size), HST.out (Rls.eq_of (HQ.out.1 rfl))⟩
       case measure => simp [intOf]; omega
    ·have hkn : k = n1 := by omega
     subst hkn
     have HALL1 := Lib.hid (show x.rs = y.rs by rw [XE1.out, YE1.out]; exact HEQ.out.all XN1.out YN1.out)
     have hi : ¬ (k : Int) < (k : Int) := by omega
     go_wp2
     go_ret
     exact ⟨RetB.yes (⟨HALL0.out, HALL1.out⟩), HW.out⟩

theorem cmpLed (w : World) (x y : Led) (hx : x.ok) (hy : y.ok) (hax : x.at w) (hay : y.at w) (hbig : x.an ≤ 5000000000000 ∧ x.rn ≤ 5000000000000) :
  Calls Tryz.prog 67 #[.agg x.cl.toArray, .agg y.cl.toArray] w fun e w' => RetB e (x.same y) ∧ Below w.heap.size w w' := by
 by_cases e1 : x.burnt = y.burnt
 case neg => exact (cmpLed_f1 w x y hx hy e1).mono fun e w' ⟨h1, h2⟩ => ⟨by rw [h1]; exact RetB.no fun h => absurd (h.burnt) e1, h2⟩
 by_cases e2 : x.supply = y.supply
 case neg => exact (cmpLed_f2 w x y hx hy e1 e2).mono fun e w' ⟨h1, h2⟩ => ⟨by rw [h1]; exact RetB.no fun h => absurd (h.supply) e2, h2⟩
 by_cases e3 : x.an = y.an
 case neg => exact (cmpLed_f3 w x y hx hy e1 e2 e3).mono fun e w' ⟨h1, h2⟩ => ⟨by rw [h1]; exact RetB.no fun h => absurd ((by rw [hx.an, hy.an, h.acs] : x.an = y.an)) e3, h2⟩
 by_cases e4 : x.rn = y.rn
 case neg => exact (cmpLed_f4 w x y hx hy e1 e2 e3 e4).mono fun e w' ⟨h1, h2⟩ => ⟨by rw [h1]; exact RetB.no fun h => absurd ((by rw [hx.rn, hy.rn, h.rs] : x.rn = y.rn)) e4, h2⟩
 exact (cmpLed_m w x y hx hy hax hay hbig e1 e2 e3 e4).mono fun e w' ⟨h1, h3⟩ => ⟨h1.iff ⟨fun h => ⟨e1, e2, h.1, h.2⟩, fun h => ⟨h.acs, h.rs⟩⟩, h3⟩

set_option maxHeartbeats 4000000 in
theorem cmpVotes (w : World) (A B : Option Addr) (n m c d : Nat) (l0 m0 : List Vote) (hn : n = l0.length) (hm : m = m0.length) (hx : ∀ v ∈ l0, v.ok) (hy : ∀ v ∈ m0, v.ok) (h1 : Rd w A (l0.flatMap Vote.cl)) (h2 : Rd w B (m0.flatMap Vote.cl)) (hbig : n ≤ 5000000000000) :
  Calls Tryz.prog 65 #[.slice A n c, .slice B m d] w fun e w' => RetB e (l0 = m0) ∧ Below w.heap.size w w' := by
 by_cases e1 : n = m
 case neg =>
  have f1 : ((n : Int) != (m : Int)) = true := by simp; omega
  have g1 : (n != m) = true := by simpa using e1
  have HNE := Lib.hid (show ¬ l0 = m0 from fun h => e1 (by rw [hn, hm, h]))
  clear hx hy h1 h2 e1 hn hm
  go_enter Tryz.func65, Tryz.ntmps65
  go_wp2
  go_ret
  exact ⟨RetB.no HNE.out, Below.refl _ _⟩
 subst e1
 have XN0 := Lib.hid hn
 have YN0 := Lib.hid hm
 have XO0 := Lib.hid hx
 have YO0 := Lib.hid hy
 have XR0 := Lib.hid h1
 have YR0 := Lib.hid h2
 have XL0 := Lib.hid (show ∀ e ∈ l0, e.cl.length = 53 from fun e he => e.cl_len (hx e he))
 have YL0 := Lib.hid (show ∀ e ∈ m0, e.cl.length = 53 from fun e he => e.cl_len (hy e he))
 have XB0 := Lib.hid hbig
 clear hn hm hx hy h1 h2
 go_enter Tryz.func65, Tryz.ntmps65
 go_wp2
 go_loopw [5] (fun i wr => ∃ k : Nat, k ≤ n ∧ i = .int .i64 (k : Int) ∧ Below w.heap.size w wr ∧ EqTo l0 m0 k) (fun i _ => n - (intOf i).toNat)
 case atStart => exact ⟨0, by omega, rfl, Below.refl _ _, EqTo.zero _ _⟩
 case round =>
  obtain ⟨k, hk, rfl, h6, h7⟩ := hrel
  have HW := Lib.hid h6
  have HEQ := Lib.hid h7
  clear h6 h7
  by_cases hlt : k < n
  ·have hkl : k < l0.length := by rw [← XN0.out]; exact hlt
   have hkm : k < m0.length := by rw [← YN0.out]; exact hlt
   obtain ⟨aa, hA, hcA⟩ := rd_elem (by omega) XL0.out (XR0.out.below HW.out) hkl
   obtain ⟨ab, hB, hcB⟩ := rd_elem (by omega) YL0.out (YR0.out.below HW.out) hkm
   obtain ⟨u, hu⟩ : ∃ u, l0[k] = u := ⟨_, rfl⟩
   obtain ⟨v, hv⟩ : ∃ v, m0[k] = v := ⟨_, rfl⟩
   have HUO := Lib.hid (XO0.out u (by rw [← hu]; exact List.getElem_mem hkl))
   have HVO := Lib.hid (YO0.out v (by rw [← hv]; exact List.getElem_mem hkm))
   have HST := Lib.hid (fun (he : u = v) => HEQ.out.step hkl hkm (by rw [hu, hv, he]))
   have HNE := Lib.hid (fun (he : u ≠ v) => ne_at hkl hkm (by rw [hu, hv]; exact he))
   rw [hu] at hcA
   rw [hv] at hcB
   have HCA := Lib.hid hcA
   have HCB := Lib.hid hcB
   subst hA hB
   clear hcA hcB hu hv
   have hi : (k : Int) < n := by omega
   have p1 : IntKind.i64.wrap ((k : Int) + 1) = (k : Int) + 1 := by rw [IntKind.wrap_i64]; have := XB0.out; omega
   go_wp2_with fail
   refine wp_region_free [(17, []), (18, []), (19, [(0, 17), (1, 18)]), (20, [(2, 19)]), (21, []), (22, []), (23, [(4, 21), (5, 22)]), (24, [(6, 23)])]
    [Is (.slice (some aa) n c), Is (.int .i64 (k : Int)), Is (.pointer (some (aa.add (k * 53)))), Is (.agg u.cl.toArray), Is (.slice (some ab) n d), Is (.int .i64 (k : Int)), Is (.pointer (some (ab.add (k * 53)))), Is (.agg v.cl.toArray)]
    (by kernel_rfl) (by kernel_rfl) (by rfl) ?st ?steps ?fin
   case st => exact ⟨Is.steady _, Is.steady _, Is.steady _, Is.steady _, Is.steady _, Is.steady _, Is.steady _, Is.steady _, trivial⟩
   case steps =>
    refine fcA (fun w4 hw4 => ?_) ?_
    ·refine foA rfl rfl ?_; (try simp only [Act.put, zA, zB, zC]); (go_wp2_with fail); exact qsA rfl rfl
    refine fcA (fun w4 hw4 => ?_) ?_
    ·refine foA rfl rfl ?_; (try simp only [Act.put, zA, zB, zC]); (go_wp2_with fail); exact qsA rfl rfl
    refine fcA (fun w4 hw4 => fiA rfl (fiA rfl ?_)) ?_
    ·refine foA rfl rfl ?_; (try simp only [Act.put, zA, zB, zC]); (go_wp2_with fail); exact qsA rfl rfl
    refine fcA (fun w4 hw4 => fiA rfl ?_) ?_
    ·exact FreeStep.load_at 31 _ rfl rfl rfl rfl (by rfl) rfl rfl (aa.add (k * 53)) 53 rfl u.cl (fun j z hz => cell_keepB (w0 := wr) (HCA.out j z hz) hw4) _ Tryz.underlying31 rfl infoC_Vote (u.cl_len HUO.out) rfl
    refine fcA (fun w4 hw4 => ?_) ?_
    ·refine foA rfl rfl ?_; (try simp only [Act.put, zA, zB, zC]); (go_wp2_with fail); exact qsA rfl rfl
    refine fcA (fun w4 hw4 => ?_) ?_
    ·refine foA rfl rfl ?_; (try simp only [Act.put, zA, zB, zC]); (go_wp2_with fail); exact qsA rfl rfl
    refine fcA (fun w4 hw4 => fiA rfl (fiA rfl ?_)) ?_
    ·refine foA rfl rfl ?_; (try simp only [Act.put, zA, zB, zC]); (go_wp2_with fail); exact qsA rfl rfl
    refine fcA (fun w4 hw4 => fiA rfl ?_) ?_
    ·exact FreeStep.load_at 31 _ rfl rfl rfl rfl (by rfl) rfl rfl (ab.add (k * 53)) 53 rfl v.cl (fun j z hz => cell_keepB (w0 := wr) (HCB.out j z hz) hw4) _ Tryz.underlying31 rfl infoC_Vote (v.cl_len HVO.out) rfl
    exact FreeSteps.nil
   case fin =>
    intro w4 hw4
    iterate 8 refine FreeEnd.is rfl ?_
    refine FreeEnd.nil ?_
    (try simp only [Act.put, zA, zB, zC])
    simp only [List.length_cons, List.length_nil, Nat.reduceAdd, List.drop_succ_cons, List.drop_zero]
    have HW4 := Lib.hid (show Below wr.heap.size wr w4 from (Below.refl _ _).drew.trans hw4)
    clear hw4
    obtain ⟨q, hq⟩ := same_bool (u.cl = v.cl)
    have HQ := Lib.hid hq
    clear hq
    go_wp2_with (with_reducible show wpList _ _ _ (Oper.mk _ (Op.binOp BinOp.neq _ _ _ _) _ _ _ _ :: _) _ _; go_must (refine wpList_neq_flat rfl 31 _ _ _ rfl u.cl v.cl rfl rfl 3 _ flat_VoteC (by omega) agg_VoteC guard_VoteC (fits_VoteK HUO.out) (fits_VoteK HVO.out) q HQ.out ?_); cases q)
    ·go_wp2
     go_ret
     exact ⟨RetB.no (HNE.out (fun he => by have := HQ.out.2 (by rw [he]); cases this)), HW.out.trans (HW4.out.mono HW.out.size)⟩
    ·go_wp2
     go_round
     case rel => exact ⟨k + 1, by omega, by go_num, HW.out.trans (HW4.out.mono HW.out.size), HST.out (Vote.eq_of (HQ.out.1 rfl) HUO.out HVO.out)⟩
     case measure => simp [intOf]; omega
  ·have hkn : k = n := by omega
   subst hkn
   have HALL0 := Lib.hid (HEQ.out.all XN0.out YN0.out)
   have hi : ¬ (k : Int) < (k : Int) := by omega
   go_wp2
   go_ret
   exact ⟨RetB.yes HALL0.out, HW.out⟩
end Go.Proofs.YtlhnhjglcbggmaaGreatRR

/-
  alike: two things of one kind compared. Conditions: each number fits its kind; the lists lie in the world; a State's of at most 5 * 10^12 elements.
-/
import Derived.Test.YtlhnhjglcbggmaaGreatRRYCm6
import Derived.Test.YtlhnhjglcbggmaaGreatRRY37
import Derived.Test.YtlhnhjglcbggmaaGreatRRYWs2
namespace Go.Proofs.YtlhnhjglcbggmaaGreatRR
set_option linter.unusedSimpArgs false
set_option linter.unusedVariables false
open Go.RowKit
set_option maxRecDepth 100000

set_option maxHeartbeats 2000000 in
theorem alike_0 (w : World) (x y : Thg) (hx : x.ok) (hy : y.ok) (hax : x.at w) (hay : y.at w) (hcb : x.crt.n ≤ 5000000000000) (hk : modt x.which = 0) :
  Calls Tryz.prog 7 #[.agg x.cl.toArray, .agg y.cl.toArray] w fun e w' => RetB e (x.sameK y 0) ∧ Below w.heap.size w w' := by
 have HX := Lib.hid hx
 have HY := Lib.hid hy
 have HAX := Lib.hid hax
 have HAY := Lib.hid hay
 have HCB := Lib.hid hcb
 have HK := Lib.hid hk
 have HLX := Lib.hid (x.cl_len hx)
 have HLY := Lib.hid (y.cl_len hy)
 clear hax hay hk hcb
 go_enter Tryz.func7, Tryz.ntmps7
 go_wp2_with (with_reducible show wpList _ _ _ (Oper.mk _ (Op.box _ _) _ _ _ _ :: _) _ _; refine wpList_box_i rfl _ _ rfl _ rfl ?_)
 intro ga w1 hk1 hb1 hg1 hs1
 go_wp2_with (with_reducible show wpList _ _ _ (Oper.mk _ (Op.box _ _) _ _ _ _ :: _) _ _; refine wpList_box_i rfl _ _ rfl _ rfl ?_)
 intro gb w2 hk2 hb2 hg2 hs2
 have HKA := Lib.hid ((bk_eqT (cs' := x.cl.toArray) hk1 rfl).below hb2 hk1.lt)
 have HKB := Lib.hid (bk_eqT (cs' := y.cl.toArray) hk2 rfl)
 have HB2 := Lib.hid (hb1.trans (hb2.mono hb1.size))
 have c0 : w2.cell? ⟨ga, 0, none⟩ = some (.int .i64 x.which) := HKA.out.cell 0
 clear hk1 hb1 hg1 hs1 hk2 hb2 hg2 hs2 hx hy
 go_wp2_with fail
 refine (mod10_any w2 x.which HX.out.which).mono ?_
 rintro e w3 ⟨rfl, rfl⟩
 rw [HK.out]
 clear c0
 obtain ⟨q, hq⟩ := same_bool (x.tx.cl = y.tx.cl)
 have HQ := Lib.hid hq
 clear hq
 go_wp2_with (first
  | (with_reducible show wpList _ _ _ (Oper.mk (some 11) (Op.load _ _) _ _ _ _ :: _) _ _; go_must (refine wpList_load_part rfl 27 _ rfl ga 1 22 rfl _ _ _ HKA.out Tryz.underlying27 rfl infoT_tx (by simp [HLX.out]) _ (x.ex_tx HX.out) ?_))
  | (with_reducible show wpList _ _ _ (Oper.mk (some 13) (Op.load _ _) _ _ _ _ :: _) _ _; go_must (refine wpList_load_part rfl 27 _ rfl gb 1 22 rfl _ _ _ HKB.out Tryz.underlying27 rfl infoT_tx (by simp [HLY.out]) _ (y.ex_tx HY.out) ?_))
  | (with_reducible show wpList _ _ _ (Oper.mk (some 14) (Op.binOp BinOp.eql _ _ _ _) _ _ _ _ :: _) _ _; go_must (refine wpList_eql_flat rfl 27 _ _ _ rfl x.tx.cl y.tx.cl rfl rfl 3 _ flat_Tx (by omega) agg_Tx guard_Tx (fits_Tx HX.out.tx) (fits_Tx HY.out.tx) q HQ.out ?_)))
 go_ret
 exact ⟨RetB.of rfl (HQ.out.trans ⟨fun h => Tx.eq_of h, fun h => congrArg Tx.cl h⟩), HB2.out⟩

set_option maxHeartbeats 2000000 in
theorem alike_1 (w : World) (x y : Thg) (hx : x.ok) (hy : y.ok) (hax : x.at w) (hay : y.at w) (hcb : x.crt.n ≤ 5000000000000) (hk : modt x.which = 1) :
  Calls Tryz.prog 7 #[.agg x.cl.toArray, .agg y.cl.toArray] w fun e w' => RetB e (x.sameK y 1) ∧ Below w.heap.size w w' := by
 have HX := Lib.hid hx
 have HY := Lib.hid hy
 have HAX := Lib.hid hax
 have HAY := Lib.hid hay
 have HCB := Lib.hid hcb
 have HK := Lib.hid hk
 have HLX := Lib.hid (x.cl_len hx)
 have HLY := Lib.hid (y.cl_len hy)
 clear hax hay hk hcb
 go_enter Tryz.func7, Tryz.ntmps7
 go_wp2_with (with_reducible show wpList _ _ _ (Oper.mk _ (Op.box _ _) _ _ _ _ :: _) _ _; refine wpList_box_i rfl _ _ rfl _ rfl ?_)
 intro ga w1 hk1 hb1 hg1 hs1
 go_wp2_with (with_reducible show wpList _ _ _ (Oper.mk _ (Op.box _ _) _ _ _ _ :: _) _ _; refine wpList_box_i rfl _ _ rfl _ rfl ?_)
 intro gb w2 hk2 hb2 hg2 hs2
 have HKA := Lib.hid ((bk_eqT (cs' := x.cl.toArray) hk1 rfl).below hb2 hk1.lt)
 have HKB := Lib.hid (bk_eqT (cs' := y.cl.toArray) hk2 rfl)
 have HB2 := Lib.hid (hb1.trans (hb2.mono hb1.size))
 have c0 : w2.cell? ⟨ga, 0, none⟩ = some (.int .i64 x.which) := HKA.out.cell 0
 clear hk1 hb1 hg1 hs1 hk2 hb2 hg2 hs2 hx hy
 go_wp2_with fail
 refine (mod10_any w2 x.which HX.out.which).mono ?_
 rintro e w3 ⟨rfl, rfl⟩
 rw [HK.out]
 clear c0
 obtain ⟨q, hq⟩ := same_bool (x.vote.cl = y.vote.cl)
 have HQ := Lib.hid hq
 clear hq
 go_wp2_with (first
  | (with_reducible show wpList _ _ _ (Oper.mk (some 18) (Op.load _ _) _ _ _ _ :: _) _ _; go_must (refine wpList_load_part rfl 31 _ rfl ga 23 53 rfl _ _ _ HKA.out Tryz.underlying31 rfl infoT_vote (by simp [HLX.out]) _ (x.ex_vote HX.out) ?_))
  | (with_reducible show wpList _ _ _ (Oper.mk (some 20) (Op.load _ _) _ _ _ _ :: _) _ _; go_must (refine wpList_load_part rfl 31 _ rfl gb 23 53 rfl _ _ _ HKB.out Tryz.underlying31 rfl infoT_vote (by simp [HLY.out]) _ (y.ex_vote HY.out) ?_))
  | (with_reducible show wpList _ _ _ (Oper.mk (some 21) (Op.binOp BinOp.eql _ _ _ _) _ _ _ _ :: _) _ _; go_must (refine wpList_eql_flat rfl 31 _ _ _ rfl x.vote.cl y.vote.cl rfl rfl 3 _ flat_VoteC (by omega) agg_VoteC guard_VoteC (fits_VoteK HX.out.vote) (fits_VoteK HY.out.vote) q HQ.out ?_)))
 go_ret
 exact ⟨RetB.of rfl (HQ.out.trans ⟨fun h => Vote.eq_of h HX.out.vote HY.out.vote, fun h => congrArg Vote.cl h⟩), HB2.out⟩

set_option maxHeartbeats 2000000 in
theorem alike_2 (w : World) (x y : Thg) (hx : x.ok) (hy : y.ok) (hax : x.at w) (hay : y.at w) (hcb : x.crt.n ≤ 5000000000000) (hk : modt x.which = 2) :
  Calls Tryz.prog 7 #[.agg x.cl.toArray, .agg y.cl.toArray] w fun e w' => RetB e (x.sameK y 2) ∧ Below w.heap.size w w' := by
 have HX := Lib.hid hx
 have HY := Lib.hid hy
 have HAX := Lib.hid hax
 have HAY := Lib.hid hay
 have HCB := Lib.hid hcb
 have HK := Lib.hid hk
 have HLX := Lib.hid (x.cl_len hx)
 have HLY := Lib.hid (y.cl_len hy)
 clear hax hay hk hcb
 go_enter Tryz.func7, Tryz.ntmps7
 go_wp2_with (with_reducible show wpList _ _ _ (Oper.mk _ (Op.box _ _) _ _ _ _ :: _) _ _; refine wpList_box_i rfl _ _ rfl _ rfl ?_)
 intro ga w1 hk1 hb1 hg1 hs1
 go_wp2_with (with_reducible show wpList _ _ _ (Oper.mk _ (Op.box _ _) _ _ _ _ :: _) _ _; refine wpList_box_i rfl _ _ rfl _ rfl ?_)
 intro gb w2 hk2 hb2 hg2 hs2
 have HKA := Lib.hid ((bk_eqT (cs' := x.cl.toArray) hk1 rfl).below hb2 hk1.lt)
 have HKB := Lib.hid (bk_eqT (cs' := y.cl.toArray) hk2 rfl)
 have HB2 := Lib.hid (hb1.trans (hb2.mono hb1.size))
 have c0 : w2.cell? ⟨ga, 0, none⟩ = some (.int .i64 x.which) := HKA.out.cell 0
 clear hk1 hb1 hg1 hs1 hk2 hb2 hg2 hs2 hx hy
 go_wp2_with fail
 refine (mod10_any w2 x.which HX.out.which).mono ?_
 rintro e w3 ⟨rfl, rfl⟩
 rw [HK.out]
 clear c0
 obtain ⟨q, hq⟩ := same_bool (x.prop.cl = y.prop.cl)
 have HQ := Lib.hid hq
 clear hq
 go_wp2_with (first
  | (with_reducible show wpList _ _ _ (Oper.mk (some 25) (Op.load _ _) _ _ _ _ :: _) _ _; go_must (refine wpList_load_part rfl 33 _ rfl ga 76 52 rfl _ _ _ HKA.out Tryz.underlying33 rfl infoT_prop (by simp [HLX.out]) _ (x.ex_prop HX.out) ?_))
  | (with_reducible show wpList _ _ _ (Oper.mk (some 27) (Op.load _ _) _ _ _ _ :: _) _ _; go_must (refine wpList_load_part rfl 33 _ rfl gb 76 52 rfl _ _ _ HKB.out Tryz.underlying33 rfl infoT_prop (by simp [HLY.out]) _ (y.ex_prop HY.out) ?_))
  | (with_reducible show wpList _ _ _ (Oper.mk (some 28) (Op.binOp BinOp.eql _ _ _ _) _ _ _ _ :: _) _ _; go_must (refine wpList_eql_flat rfl 33 _ _ _ rfl x.prop.cl y.prop.cl rfl rfl 3 _ flat_Prop (by omega) agg_Prop guard_Prop (fits_Prop HX.out.prop) (fits_Prop HY.out.prop) q HQ.out ?_)))
 go_ret
 exact ⟨RetB.of rfl (HQ.out.trans ⟨fun h => Proposal.eq_of h HX.out.prop HY.out.prop, fun h => congrArg Proposal.cl h⟩), HB2.out⟩

set_option maxHeartbeats 2000000 in
theorem alike_3 (w : World) (x y : Thg) (hx : x.ok) (hy : y.ok) (hax : x.at w) (hay : y.at w) (hcb : x.crt.n ≤ 5000000000000) (hk : modt x.which = 3) :
  Calls Tryz.prog 7 #[.agg x.cl.toArray, .agg y.cl.toArray] w fun e w' => RetB e (x.sameK y 3) ∧ Below w.heap.size w w' := by
 have HX := Lib.hid hx
 have HY := Lib.hid hy
 have HAX := Lib.hid hax
 have HAY := Lib.hid hay
 have HCB := Lib.hid hcb
 have HK := Lib.hid hk
 have HLX := Lib.hid (x.cl_len hx)
 have HLY := Lib.hid (y.cl_len hy)
 clear hax hay hk hcb
 go_enter Tryz.func7, Tryz.ntmps7
 go_wp2_with (with_reducible show wpList _ _ _ (Oper.mk _ (Op.box _ _) _ _ _ _ :: _) _ _; refine wpList_box_i rfl _ _ rfl _ rfl ?_)
 intro ga w1 hk1 hb1 hg1 hs1
 go_wp2_with (with_reducible show wpList _ _ _ (Oper.mk _ (Op.box _ _) _ _ _ _ :: _) _ _; refine wpList_box_i rfl _ _ rfl _ rfl ?_)
 intro gb w2 hk2 hb2 hg2 hs2
 have HKA := Lib.hid ((bk_eqT (cs' := x.cl.toArray) hk1 rfl).below hb2 hk1.lt)
 have HKB := Lib.hid (bk_eqT (cs' := y.cl.toArray) hk2 rfl)
 have HB2 := Lib.hid (hb1.trans (hb2.mono hb1.size))
 have c0 : w2.cell? ⟨ga, 0, none⟩ = some (.int .i64 x.which) := HKA.out.cell 0
 clear hk1 hb1 hg1 hs1 hk2 hb2 hg2 hs2 hx hy
 go_wp2_with fail
 refine (mod10_any w2 x.which HX.out.which).mono ?_
 rintro e w3 ⟨rfl, rfl⟩
 rw [HK.out]
 clear c0
 go_wp2_with (first
  | (with_reducible show wpList _ _ _ (Oper.mk (some 32) (Op.load _ _) _ _ _ _ :: _) _ _; go_must (refine wpList_load_part rfl 36 _ rfl ga 128 35 rfl _ _ _ HKA.out Tryz.underlying36 rfl infoT_crt (by simp [HLX.out]) _ (x.ex_crt HX.out) ?_))
  | (with_reducible show wpList _ _ _ (Oper.mk (some 34) (Op.load _ _) _ _ _ _ :: _) _ _; go_must (refine wpList_load_part rfl 36 _ rfl gb 128 35 rfl _ _ _ HKB.out Tryz.underlying36 rfl infoT_crt (by simp [HLY.out]) _ (y.ex_crt HY.out) ?_)))
 refine (cmpCert w2 x.crt y.crt HX.out.crt HY.out.crt (HAX.out.below HB2.out).crt (HAY.out.below HB2.out).crt HCB.out).mono ?_
 rintro e w4 ⟨⟨r, rfl, hr⟩, hb4⟩
 have HR := Lib.hid hr
 have HB4 := Lib.hid (HB2.out.trans (hb4.mono HB2.out.size))
 clear hr hb4
 go_wp2
 go_ret
 exact ⟨RetB.of rfl HR.out, HB4.out⟩

set_option maxHeartbeats 2000000 in
theorem alike_4 (w : World) (x y : Thg) (hx : x.ok) (hy : y.ok) (hax : x.at w) (hay : y.at w) (hcb : x.crt.n ≤ 5000000000000) (hk : modt x.which = 4) :
  Calls Tryz.prog 7 #[.agg x.cl.toArray, .agg y.cl.toArray] w fun e w' => RetB e (x.sameK y 4) ∧ Below w.heap.size w w' := by
 have HX := Lib.hid hx
 have HY := Lib.hid hy
 have HAX := Lib.hid hax
 have HAY := Lib.hid hay
 have HCB := Lib.hid hcb
 have HK := Lib.hid hk
 have HLX := Lib.hid (x.cl_len hx)
 have HLY := Lib.hid (y.cl_len hy)
 clear hax hay hk hcb
 go_enter Tryz.func7, Tryz.ntmps7
 go_wp2_with (with_reducible show wpList _ _ _ (Oper.mk _ (Op.box _ _) _ _ _ _ :: _) _ _; refine wpList_box_i rfl _ _ rfl _ rfl ?_)
 intro ga w1 hk1 hb1 hg1 hs1
 go_wp2_with (with_reducible show wpList _ _ _ (Oper.mk _ (Op.box _ _) _ _ _ _ :: _) _ _; refine wpList_box_i rfl _ _ rfl _ rfl ?_)
 intro gb w2 hk2 hb2 hg2 hs2
 have HKA := Lib.hid ((bk_eqT (cs' := x.cl.toArray) hk1 rfl).below hb2 hk1.lt)
 have HKB := Lib.hid (bk_eqT (cs' := y.cl.toArray) hk2 rfl)
 have HB2 := Lib.hid (hb1.trans (hb2.mono hb1.size))
 have c0 : w2.cell? ⟨ga, 0, none⟩ = some (.int .i64 x.which) := HKA.out.cell 0
 clear hk1 hb1 hg1 hs1 hk2 hb2 hg2 hs2 hx hy
 go_wp2_with fail
 refine (mod10_any w2 x.which HX.out.which).mono ?_
 rintro e w3 ⟨rfl, rfl⟩
 rw [HK.out]
 clear c0
 obtain ⟨q, hq⟩ := same_bool (x.ev.cl = y.ev.cl)
 have HQ := Lib.hid hq
 clear hq
 go_wp2_with (first
  | (with_reducible show wpList _ _ _ (Oper.mk (some 39) (Op.load _ _) _ _ _ _ :: _) _ _; go_must (refine wpList_load_part rfl 38 _ rfl ga 163 106 rfl _ _ _ HKA.out Tryz.underlying38 rfl infoT_ev (by simp [HLX.out]) _ (x.ex_ev HX.out) ?_))
  | (with_reducible show wpList _ _ _ (Oper.mk (some 41) (Op.load _ _) _ _ _ _ :: _) _ _; go_must (refine wpList_load_part rfl 38 _ rfl gb 163 106 rfl _ _ _ HKB.out Tryz.underlying38 rfl infoT_ev (by simp [HLY.out]) _ (y.ex_ev HY.out) ?_))
  | (with_reducible show wpList _ _ _ (Oper.mk (some 42) (Op.binOp BinOp.eql _ _ _ _) _ _ _ _ :: _) _ _; go_must (refine wpList_eql_flat rfl 38 _ _ _ rfl x.ev.cl y.ev.cl rfl rfl 4 _ flat_Ev (by omega) agg_Ev guard_Ev (fits_Ev HX.out.ev) (fits_Ev HY.out.ev) q HQ.out ?_)))
 go_ret
 exact ⟨RetB.of rfl (HQ.out.trans ⟨fun h => Ev.eq_of h HX.out.ev HY.out.ev, fun h => congrArg Ev.cl h⟩), HB2.out⟩

set_option maxHeartbeats 2000000 in
theorem alike_5 (w : World) (x y : Thg) (hx : x.ok) (hy : y.ok) (hax : x.at w) (hay : y.at w) (hcb : x.crt.n ≤ 5000000000000) (hk : modt x.which = 5) :
  Calls Tryz.prog 7 #[.agg x.cl.toArray, .agg y.cl.toArray] w fun e w' => RetB e (x.sameK y 5) ∧ Below w.heap.size w w' := by
 have HX := Lib.hid hx
 have HY := Lib.hid hy
 have HAX := Lib.hid hax
 have HAY := Lib.hid hay
 have HCB := Lib.hid hcb
 have HK := Lib.hid hk
 have HLX := Lib.hid (x.cl_len hx)
 have HLY := Lib.hid (y.cl_len hy)
 clear hax hay hk hcb
 go_enter Tryz.func7, Tryz.ntmps7
 go_wp2_with (with_reducible show wpList _ _ _ (Oper.mk _ (Op.box _ _) _ _ _ _ :: _) _ _; refine wpList_box_i rfl _ _ rfl _ rfl ?_)
 intro ga w1 hk1 hb1 hg1 hs1
 go_wp2_with (with_reducible show wpList _ _ _ (Oper.mk _ (Op.box _ _) _ _ _ _ :: _) _ _; refine wpList_box_i rfl _ _ rfl _ rfl ?_)
 intro gb w2 hk2 hb2 hg2 hs2
 have HKA := Lib.hid ((bk_eqT (cs' := x.cl.toArray) hk1 rfl).below hb2 hk1.lt)
 have HKB := Lib.hid (bk_eqT (cs' := y.cl.toArray) hk2 rfl)
 have HB2 := Lib.hid (hb1.trans (hb2.mono hb1.size))
 have c0 : w2.cell? ⟨ga, 0, none⟩ = some (.int .i64 x.which) := HKA.out.cell 0
 clear hk1 hb1 hg1 hs1 hk2 hb2 hg2 hs2 hx hy
 go_wp2_with fail
 refine (mod10_any w2 x.which HX.out.which).mono ?_
 rintro e w3 ⟨rfl, rfl⟩
 rw [HK.out]
 clear c0
 obtain ⟨q, hq⟩ := same_bool (x.hd.cl = y.hd.cl)
 have HQ := Lib.hid hq
 clear hq
 go_wp2_with (first
  | (with_reducible show wpList _ _ _ (Oper.mk (some 46) (Op.load _ _) _ _ _ _ :: _) _ _; go_must (refine wpList_load_part rfl 40 _ rfl ga 269 228 rfl _ _ _ HKA.out Tryz.underlying40 rfl infoT_hd (by simp [HLX.out]) _ (x.ex_hd HX.out) ?_))
  | (with_reducible show wpList _ _ _ (Oper.mk (some 48) (Op.load _ _) _ _ _ _ :: _) _ _; go_must (refine wpList_load_part rfl 40 _ rfl gb 269 228 rfl _ _ _ HKB.out Tryz.underlying40 rfl infoT_hd (by simp [HLY.out]) _ (y.ex_hd HY.out) ?_))
  | (with_reducible show wpList _ _ _ (Oper.mk (some 49) (Op.binOp BinOp.eql _ _ _ _) _ _ _ _ :: _) _ _; go_must (refine wpList_eql_flat rfl 40 _ _ _ rfl x.hd.cl y.hd.cl rfl rfl 3 _ flat_Hdr (by omega) agg_Hdr guard_Hdr (fits_Hdr HX.out.hd) (fits_Hdr HY.out.hd) q HQ.out ?_)))
 go_ret
 exact ⟨RetB.of rfl (HQ.out.trans ⟨fun h => Hdr.eq_of h HX.out.hd HY.out.hd.hh, fun h => congrArg Hdr.cl h⟩), HB2.out⟩

set_option maxHeartbeats 2000000 in
theorem alike_6 (w : World) (x y : Thg) (hx : x.ok) (hy : y.ok) (hax : x.at w) (hay : y.at w) (hcb : x.crt.n ≤ 5000000000000) (hk : modt x.which = 6) :
  Calls Tryz.prog 7 #[.agg x.cl.toArray, .agg y.cl.toArray] w fun e w' => RetB e (x.sameK y 6) ∧ Below w.heap.size w w' := by
 have HX := Lib.hid hx
 have HY := Lib.hid hy
 have HAX := Lib.hid hax
 have HAY := Lib.hid hay
 have HCB := Lib.hid hcb
 have HK := Lib.hid hk
 have HLX := Lib.hid (x.cl_len hx)
 have HLY := Lib.hid (y.cl_len hy)
 clear hax hay hk hcb
 go_enter Tryz.func7, Tryz.ntmps7
 go_wp2_with (with_reducible show wpList _ _ _ (Oper.mk _ (Op.box _ _) _ _ _ _ :: _) _ _; refine wpList_box_i rfl _ _ rfl _ rfl ?_)
 intro ga w1 hk1 hb1 hg1 hs1
 go_wp2_with (with_reducible show wpList _ _ _ (Oper.mk _ (Op.box _ _) _ _ _ _ :: _) _ _; refine wpList_box_i rfl _ _ rfl _ rfl ?_)
 intro gb w2 hk2 hb2 hg2 hs2
 have HKA := Lib.hid ((bk_eqT (cs' := x.cl.toArray) hk1 rfl).below hb2 hk1.lt)
 have HKB := Lib.hid (bk_eqT (cs' := y.cl.toArray) hk2 rfl)
 have HB2 := Lib.hid (hb1.trans (hb2.mono hb1.size))
 have c0 : w2.cell? ⟨ga, 0, none⟩ = some (.int .i64 x.which) := HKA.out.cell 0
 clear hk1 hb1 hg1 hs1 hk2 hb2 hg2 hs2 hx hy
 go_wp2_with fail
 refine (mod10_any w2 x.which HX.out.which).mono ?_
 rintro e w3 ⟨rfl, rfl⟩
 rw [HK.out]
 clear c0
 go_wp2_with (first
  | (with_reducible show wpList _ _ _ (Oper.mk (some 53) (Op.load _ _) _ _ _ _ :: _) _ _; go_must (refine wpList_load_part rfl 44 _ rfl ga 497 265 rfl _ _ _ HKA.out Tryz.underlying44 rfl infoT_blk (by simp [HLX.out]) _ (x.ex_blk HX.out) ?_))
  | (with_reducible show wpList _ _ _ (Oper.mk (some 55) (Op.load _ _) _ _ _ _ :: _) _ _; go_must (refine wpList_load_part rfl 44 _ rfl gb 497 265 rfl _ _ _ HKB.out Tryz.underlying44 rfl infoT_blk (by simp [HLY.out]) _ (y.ex_blk HY.out) ?_)))
 refine (cmpBlk w2 x.blk y.blk HX.out.blk HY.out.blk (HAX.out.below HB2.out).blk (HAY.out.below HB2.out).blk).mono ?_
 rintro e w4 ⟨⟨r, rfl, hr⟩, hb4⟩
 have HR := Lib.hid hr
 have HB4 := Lib.hid (HB2.out.trans (hb4.mono HB2.out.size))
 clear hr hb4
 go_wp2
 go_ret
 exact ⟨RetB.of rfl HR.out, HB4.out⟩

set_option maxHeartbeats 2000000 in
theorem alike_7 (w : World) (x y : Thg) (hx : x.ok) (hy : y.ok) (hax : x.at w) (hay : y.at w) (hcb : x.crt.n ≤ 5000000000000) (hk : modt x.which = 7) :
  Calls Tryz.prog 7 #[.agg x.cl.toArray, .agg y.cl.toArray] w fun e w' => RetB e (x.sameK y 7) ∧ Below w.heap.size w w' := by
 have HX := Lib.hid hx
 have HY := Lib.hid hy
 have HAX := Lib.hid hax
 have HAY := Lib.hid hay
 have HCB := Lib.hid hcb
 have HK := Lib.hid hk
 have HLX := Lib.hid (x.cl_len hx)
 have HLY := Lib.hid (y.cl_len hy)
 clear hax hay hk hcb
 go_enter Tryz.func7, Tryz.ntmps7
 go_wp2_with (with_reducible show wpList _ _ _ (Oper.mk _ (Op.box _ _) _ _ _ _ :: _) _ _; refine wpList_box_i rfl _ _ rfl _ rfl ?_)
 intro ga w1 hk1 hb1 hg1 hs1
 go_wp2_with (with_reducible show wpList _ _ _ (Oper.mk _ (Op.box _ _) _ _ _ _ :: _) _ _; refine wpList_box_i rfl _ _ rfl _ rfl ?_)
 intro gb w2 hk2 hb2 hg2 hs2
 have HKA := Lib.hid ((bk_eqT (cs' := x.cl.toArray) hk1 rfl).below hb2 hk1.lt)
 have HKB := Lib.hid (bk_eqT (cs' := y.cl.toArray) hk2 rfl)
 have HB2 := Lib.hid (hb1.trans (hb2.mono hb1.size))
 have c0 : w2.cell? ⟨ga, 0, none⟩ = some (.int .i64 x.which) := HKA.out.cell 0
 clear hk1 hb1 hg1 hs1 hk2 hb2 hg2 hs2 hx hy
 go_wp2_with fail
 refine (mod10_any w2 x.which HX.out.which).mono ?_
 rintro e w3 ⟨rfl, rfl⟩
 rw [HK.out]
 clear c0
 go_wp2_with (first
  | (with_reducible show wpList _ _ _ (Oper.mk (some 60) (Op.load _ _) _ _ _ _ :: _) _ _; go_must (refine wpList_load_part rfl 47 _ rfl ga 762 484 rfl _ _ _ HKA.out Tryz.underlying47 rfl infoT_mg (by simp [HLX.out]) _ (x.ex_mg HX.out) ?_))
  | (with_reducible show wpList _ _ _ (Oper.mk (some 62) (Op.load _ _) _ _ _ _ :: _) _ _; go_must (refine wpList_load_part rfl 47 _ rfl gb 762 484 rfl _ _ _ HKB.out Tryz.underlying47 rfl infoT_mg (by simp [HLY.out]) _ (y.ex_mg HY.out) ?_)))
 refine (cmpMg w2 x.mg y.mg HX.out.mg HY.out.mg (HAX.out.below HB2.out).mg (HAY.out.below HB2.out).mg).mono ?_
 rintro e w4 ⟨⟨r, rfl, hr⟩, hb4⟩
 have HR := Lib.hid hr
 have HB4 := Lib.hid (HB2.out.trans (hb4.mono HB2.out.size))
 clear hr hb4
 go_wp2
 go_ret
 exact ⟨RetB.of rfl HR.out, HB4.out⟩

set_option maxHeartbeats 2000000 in
theorem alike_8 (w : World) (x y : Thg) (hx : x.ok) (hy : y.ok) (hax : x.at w) (hay : y.at w) (hcb : x.crt.n ≤ 5000000000000) (hk : modt x.which = 8) :
  Calls Tryz.prog 7 #[.agg x.cl.toArray, .agg y.cl.toArray] w fun e w' => RetB e (x.sameK y 8) ∧ Below w.heap.size w w' := by
 have HX := Lib.hid hx
 have HY := Lib.hid hy
 have HAX := Lib.hid hax
 have HAY := Lib.hid hay
 have HCB := Lib.hid hcb
 have HK := Lib.hid hk
 have HLX := Lib.hid (x.cl_len hx)
 have HLY := Lib.hid (y.cl_len hy)
 clear hax hay hk hcb
 go_enter Tryz.func7, Tryz.ntmps7
 go_wp2_with (with_reducible show wpList _ _ _ (Oper.mk _ (Op.box _ _) _ _ _ _ :: _) _ _; refine wpList_box_i rfl _ _ rfl _ rfl ?_)
 intro ga w1 hk1 hb1 hg1 hs1
 go_wp2_with (with_reducible show wpList _ _ _ (Oper.mk _ (Op.box _ _) _ _ _ _ :: _) _ _; refine wpList_box_i rfl _ _ rfl _ rfl ?_)
 intro gb w2 hk2 hb2 hg2 hs2
 have HKA := Lib.hid ((bk_eqT (cs' := x.cl.toArray) hk1 rfl).below hb2 hk1.lt)
 have HKB := Lib.hid (bk_eqT (cs' := y.cl.toArray) hk2 rfl)
 have HB2 := Lib.hid (hb1.trans (hb2.mono hb1.size))
 have c0 : w2.cell? ⟨ga, 0, none⟩ = some (.int .i64 x.which) := HKA.out.cell 0
 clear hk1 hb1 hg1 hs1 hk2 hb2 hg2 hs2 hx hy
 go_wp2_with fail
 refine (mod10_any w2 x.which HX.out.which).mono ?_
 rintro e w3 ⟨rfl, rfl⟩
 rw [HK.out]
 clear c0
 go_wp2_with (first
  | (with_reducible show wpList _ _ _ (Oper.mk (some 67) (Op.load _ _) _ _ _ _ :: _) _ _; go_must (refine wpList_load_part rfl 49 _ rfl ga 1246 323 rfl _ _ _ HKA.out Tryz.underlying49 rfl infoT_ip (by simp [HLX.out]) _ (x.ex_ip HX.out) ?_))
  | (with_reducible show wpList _ _ _ (Oper.mk (some 69) (Op.load _ _) _ _ _ _ :: _) _ _; go_must (refine wpList_load_part rfl 49 _ rfl gb 1246 323 rfl _ _ _ HKB.out Tryz.underlying49 rfl infoT_ip (by simp [HLY.out]) _ (y.ex_ip HY.out) ?_)))
 refine (cmpIp w2 x.ip y.ip HX.out.ip HY.out.ip (HAX.out.below HB2.out).ip (HAY.out.below HB2.out).ip).mono ?_
 rintro e w4 ⟨⟨r, rfl, hr⟩, hb4⟩
 have HR := Lib.hid hr
 have HB4 := Lib.hid (HB2.out.trans (hb4.mono HB2.out.size))
 clear hr hb4
 go_wp2
 go_ret
 exact ⟨RetB.of rfl HR.out, HB4.out⟩

set_option maxHeartbeats 2000000 in
theorem alike_9 (w : World) (x y : Thg) (hx : x.ok) (hy : y.ok) (hax : x.at w) (hay : y.at w) (hcb : x.crt.n ≤ 5000000000000) (hk : modt x.which = 9) (hsm : x.st.sm) :
  Calls Tryz.prog 7 #[.agg x.cl.toArray, .agg y.cl.toArray] w fun e w' => RetB e (x.sameK y 9) ∧ Below w.heap.size w w' := by
 have HX := Lib.hid hx
 have HY := Lib.hid hy
 have HAX := Lib.hid hax
 have HAY := Lib.hid hay
 have HCB := Lib.hid hcb
 have HK := Lib.hid hk
 have HLX := Lib.hid (x.cl_len hx)
 have HLY := Lib.hid (y.cl_len hy)
 have HSM := Lib.hid hsm
 clear hsm
 clear hax hay hk hcb
 go_enter Tryz.func7, Tryz.ntmps7
 go_wp2_with (with_reducible show wpList _ _ _ (Oper.mk _ (Op.box _ _) _ _ _ _ :: _) _ _; refine wpList_box_i rfl _ _ rfl _ rfl ?_)
 intro ga w1 hk1 hb1 hg1 hs1
 go_wp2_with (with_reducible show wpList _ _ _ (Oper.mk _ (Op.box _ _) _ _ _ _ :: _) _ _; refine wpList_box_i rfl _ _ rfl _ rfl ?_)
 intro gb w2 hk2 hb2 hg2 hs2
 have HKA := Lib.hid ((bk_eqT (cs' := x.cl.toArray) hk1 rfl).below hb2 hk1.lt)
 have HKB := Lib.hid (bk_eqT (cs' := y.cl.toArray) hk2 rfl)
 have HB2 := Lib.hid (hb1.trans (hb2.mono hb1.size))
 have c0 : w2.cell? ⟨ga, 0, none⟩ = some (.int .i64 x.which) := HKA.out.cell 0
 clear hk1 hb1 hg1 hs1 hk2 hb2 hg2 hs2 hx hy
 go_wp2_with fail
 refine (mod10_any w2 x.which HX.out.which).mono ?_
 rintro e w3 ⟨rfl, rfl⟩
 rw [HK.out]
 clear c0
 go_wp2_with (first
  | (with_reducible show wpList _ _ _ (Oper.mk (some 72) (Op.load _ _) _ _ _ _ :: _) _ _; go_must (refine wpList_load_part rfl 62 _ rfl ga 1569 55 rfl _ _ _ HKA.out Tryz.underlying62 rfl infoT_st (by simp [HLX.out]) _ (x.ex_st HX.out) ?_))
  | (with_reducible show wpList _ _ _ (Oper.mk (some 74) (Op.load _ _) _ _ _ _ :: _) _ _; go_must (refine wpList_load_part rfl 62 _ rfl gb 1569 55 rfl _ _ _ HKB.out Tryz.underlying62 rfl infoT_st (by simp [HLY.out]) _ (y.ex_st HY.out) ?_)))
 refine (cmpSta w2 x.st y.st HX.out.st HY.out.st (HAX.out.below HB2.out).st (HAY.out.below HB2.out).st HSM.out).mono ?_
 rintro e w4 ⟨⟨r, rfl, hr⟩, hb4⟩
 have HR := Lib.hid hr
 have HB4 := Lib.hid (HB2.out.trans (hb4.mono HB2.out.size))
 clear hr hb4
 go_wp2
 go_ret
 exact ⟨RetB.of rfl HR.out, HB4.out⟩

theorem alike_any (w : World) (x y : Thg) (hx : x.ok) (hy : y.ok) (hax : x.at w) (hay : y.at w) (hcb : x.crt.n ≤ 5000000000000) (hsm : x.kn = 9 → x.st.sm) : Calls Tryz.prog 7 #[.agg x.cl.toArray, .agg y.cl.toArray] w fun e w' => RetB e (x.sameK y x.kn) ∧ Below w.heap.size w w' := by
 have h1 := x.kn_lt
 have h2 := x.kn_eq
 obtain ⟨k, hk⟩ : ∃ k, x.kn = k := ⟨_, rfl⟩
 rw [hk] at h1 h2 hsm ⊢
 match k, h1, h2, hsm with
 | 0, _, h2, hsm => exact alike_0 w x y hx hy hax hay hcb h2
 | 1, _, h2, hsm => exact alike_1 w x y hx hy hax hay hcb h2
 | 2, _, h2, hsm => exact alike_2 w x y hx hy hax hay hcb h2
 | 3, _, h2, hsm => exact alike_3 w x y hx hy hax hay hcb h2
 | 4, _, h2, hsm => exact alike_4 w x y hx hy hax hay hcb h2
 | 5, _, h2, hsm => exact alike_5 w x y hx hy hax hay hcb h2
 | 6, _, h2, hsm => exact alike_6 w x y hx hy hax hay hcb h2
 | 7, _, h2, hsm => exact alike_7 w x y hx hy hax hay hcb h2
 | 8, _, h2, hsm => exact alike_8 w x y hx hy hax hay hcb h2
 | 9, _, h2, hsm => exact alike_9 w x y hx hy hax hay hcb h2 (hsm rfl)
 | k + 10, h1, _, _ => omega
end Go.Proofs.YtlhnhjglcbggmaaGreatRR

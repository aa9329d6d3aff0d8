/-
  What is wrong with a State's form, where its head is wrong or it is too big. Conditions: each number fits its kind; its lists lie in the world.
-/
import Derived.Test.YtlhnhjglcbggmaaGreatRRYPb20b
import Derived.Test.YtlhnhjglcbggmaaGreatRRY08
namespace Go.Proofs.YtlhnhjglcbggmaaGreatRR
set_option linter.unusedSimpArgs false
set_option linter.unusedVariables false
open Go.RowKit
set_option maxRecDepth 100000

def farP (p : Pst) : Bool := decide (64 < p.cou.n)

set_option maxHeartbeats 4000000 in
theorem whole_head01 (w : World) (x : Sta) (hx : x.ok) (hat : x.at w) (ha1 : decide (x.par.seats < 1) = false) (hb1 : decide (x.par.txs < 0) = true) (hne : headS x ≠ 0) :
  Calls Tryz.prog 63 #[.agg x.cl.toArray] w fun e w' => e = .returned (.int .i64 (plainSta x)) ∧ Below w.heap.size w w' := by
 have HNE := Lib.hid hne
 clear hne
 have HX := Lib.hid hx
 have HL := Lib.hid (x.len hx.last)
 have HAT := Lib.hid hat
 obtain ⟨E1, h1⟩ : ∃ E, named x.chain.size = E := ⟨_, rfl⟩
 obtain ⟨E3, h3⟩ : ∃ E, moment x.time = E := ⟨_, rfl⟩
 obtain ⟨q2, h2⟩ : ∃ q, decide (1099511627776 < x.height) = q := ⟨_, rfl⟩
 obtain ⟨a2, h5⟩ : ∃ q, decide (64 < x.par.seats) = q := ⟨_, rfl⟩
 obtain ⟨b2, h7⟩ : ∃ q, decide (1000 < x.par.txs) = q := ⟨_, rfl⟩
 have HE := Lib.hid (show firstErr [E1, field q2, E3, field (false || a2), field (true || b2)] = headS x by unfold headS; rw [ha1, hb1, h1, h2, h3, h5, h7])
 have HE1 := Lib.hid h1
 have HE3 := Lib.hid h3
 clear hx h1 h3 hat
 go_enter Tryz.func63, Tryz.ntmps63
 go_wp2_with (with_reducible show wpList _ _ _ (Oper.mk _ (Op.box _ _) _ _ _ _ :: _) _ _; refine wpList_box_bk rfl _ _ rfl _ rfl ?_)
 intro bx w0 hk hbl hg hs
 clear hg hs
 have HB0 := Lib.hid hbl
 have HK := Lib.hid (show Bk w0.drew bx x.cl.toArray 62 from Bk.drew (bk_eqT (cs' := x.cl.toArray) hk rfl))
 clear hk hbl
 go_wp2_with fail
 refine wp_region_freeG [(10, []), (11, [(0, 10)]), (12, [(1, 11)]), (13, []), (14, [(3, 13)]), (15, [(4, 14)]), (16, [(5, 15)]), (17, []), (18, [(7, 17)]), (19, [(8, 18)]), (20, []), (21, [(10, 20)]), (22, [(11, 21)]), (23, [(12, 22)]), (24, [(13, 23)]), (25, [(14, 24)]), (26, [(15, 25), (14, 24)]), (27, [(16, 26), (14, 24)]), (28, [(17, 27), (14, 24)]), (29, [(14, 24), (18, 28)]), (30, [(19, 29)]), (31, []), (32, [(21, 31)]), (33, [(22, 32)]), (34, [(23, 33)]), (35, [(24, 34)]), (36, [(25, 35)]), (37, [(26, 36), (25, 35)]), (38, [(27, 37), (25, 35)]), (39, [(28, 38), (25, 35)]), (40, [(25, 35), (29, 39)]), (41, [(30, 40)])]
  [Is (.pointer (some ⟨bx, 0, none⟩)), Is (.string x.chain), Is (.int .i64 E1), Is (.pointer (some ⟨bx, 13, none⟩)), Is (.int .u64 x.height), Is (.bool q2), Is (.int .i64 (field q2)), Is (.pointer (some ⟨bx, 14, none⟩)), Is (.int .u64 x.time), Is (.int .i64 E3), Is (.pointer (some ⟨bx, 1, none⟩)), Is (.pointer (some ⟨bx, 2, none⟩)), Is (.int .i64 x.par.seats), Is (.bool false), Is (.bool false), Is (.pointer (some ⟨bx, 1, none⟩)), Is (.pointer (some ⟨bx, 2, none⟩)), Is (.int .i64 x.par.seats), Is (.bool a2), Is (.bool a2), Is (.int .i64 (field a2)), Is (.pointer (some ⟨bx, 1, none⟩)), Is (.pointer (some ⟨bx, 6, none⟩)), Is (.int .i64 x.par.txs), Is (.bool true), Is (.bool true), Is undef, Is undef, Is undef, Is undef, Is (.bool true), Is (.int .i64 (field true))]
  (by kernel_rfl) (by kernel_rfl) (by rfl) ?st ?steps ?fin
 case st => exact ⟨Is.steady _, Is.steady _, Is.steady _, Is.steady _, Is.steady _, Is.steady _, Is.steady _, Is.steady _, Is.steady _, Is.steady _, Is.steady _, Is.steady _, Is.steady _, Is.steady _, Is.steady _, Is.steady _, Is.steady _, Is.steady _, Is.steady _, Is.steady _, Is.steady _, Is.steady _, Is.steady _, Is.steady _, Is.steady _, Is.steady _, Is.steady _, Is.steady _, Is.steady _, Is.steady _, Is.steady _, Is.steady _, trivial⟩
 case steps =>
  refine fcA (fun w4 hw4 => ?_) ?_
  ·refine foA rfl rfl ?_; (try simp only [Act.put, zA, zB, zC]); (go_wp2_with fail); exact qsA rfl rfl
  refine fcA (fun w4 hw4 => fiA rfl ?_) ?_
  ·have c0 : w4.cell? ⟨bx, 0, none⟩ = some (.string x.chain) := ((HK.out.below hw4 HK.out.lt).cell 0)
   refine foA rfl rfl ?_; (try simp only [Act.put, zA, zB, zC]); (go_wp2_with fail); exact qsA rfl rfl
  refine fcA (fun w4 hw4 => fiA rfl ?_) ?_
  ·refine FreeStep.call rfl rfl rfl (by rfl) rfl rfl (by (try simp only [Act.put, zA, zB, zC]); go_simp; (try with_reducible rfl)) (named_any w4 x.chain HX.out.chain) ?_
   rintro e w5 ⟨rfl, rfl⟩; exact ⟨_, rfl, Below.refl _ _, by rw [HE1.out]; rfl⟩
  refine fcA (fun w4 hw4 => ?_) ?_
  ·refine foA rfl rfl ?_; (try simp only [Act.put, zA, zB, zC]); (go_wp2_with fail); exact qsA rfl rfl
  refine fcA (fun w4 hw4 => fiA rfl ?_) ?_
  ·have c13 : w4.cell? ⟨bx, 13, none⟩ = some (.int .u64 x.height) := ((HK.out.below hw4 HK.out.lt).cell 13)
   refine foA rfl rfl ?_; (try simp only [Act.put, zA, zB, zC]); (go_wp2_with fail); exact qsA rfl rfl
  refine fcA (fun w4 hw4 => fiA rfl ?_) ?_
  ·refine foA rfl rfl ?_; (try simp only [Act.put, zA, zB, zC]); (go_wp2_with fail); exact qsA rfl rfl
  refine fcA (fun w4 hw4 => fiA rfl ?_) ?_
  ·refine FreeStep.call rfl rfl rfl (by rfl) rfl rfl (by (try simp only [Act.put, zA, zB, zC]); go_simp; (try with_reducible rfl)) (field_any w4 q2) ?_
   rintro e w5 ⟨rfl, rfl⟩; exact ⟨_, rfl, Below.refl _ _, rfl⟩
  refine fcA (fun w4 hw4 => ?_) ?_
  ·refine foA rfl rfl ?_; (try simp only [Act.put, zA, zB, zC]); (go_wp2_with fail); exact qsA rfl rfl
  refine fcA (fun w4 hw4 => fiA rfl ?_) ?_
  ·have c14 : w4.cell? ⟨bx, 14, none⟩ = some (.int .u64 x.time) := ((HK.out.below hw4 HK.out.lt).cell 14)
   refine foA rfl rfl ?_; (try simp only [Act.put, zA, zB, zC]); (go_wp2_with fail); exact qsA rfl rfl
  refine fcA (fun w4 hw4 => fiA rfl ?_) ?_
  ·refine FreeStep.call rfl rfl rfl (by rfl) rfl rfl (by (try simp only [Act.put, zA, zB, zC]); go_simp; (try with_reducible rfl)) (moment_any w4 x.time) ?_
   rintro e w5 ⟨rfl, rfl⟩; exact ⟨_, rfl, Below.refl _ _, by rw [HE3.out]; rfl⟩
  refine fcA (fun w4 hw4 => ?_) ?_
  ·refine foA rfl rfl ?_; (try simp only [Act.put, zA, zB, zC]); (go_wp2_with fail); exact qsA rfl rfl
  refine fcA (fun w4 hw4 => fiA rfl ?_) ?_
  ·refine foA rfl rfl ?_; (try simp only [Act.put, zA, zB, zC]); (go_wp2_with fail); exact qsA rfl rfl
  refine fcA (fun w4 hw4 => fiA rfl ?_) ?_
  ·have c2 : w4.cell? ⟨bx, 2, none⟩ = some (.int .i64 x.par.seats) := ((HK.out.below hw4 HK.out.lt).cell 2)
   refine foA rfl rfl ?_; (try simp only [Act.put, zA, zB, zC]); (go_wp2_with fail); exact qsA rfl rfl
  refine fcA (fun w4 hw4 => fiA rfl ?_) ?_
  ·refine foA rfl rfl ?_; (try simp only [Act.put, zA, zB, zC]); (go_wp2_with fail); exact qsA rfl rfl
  refine fcA (fun w4 hw4 => fiA rfl ?_) ?_
  ·refine foA rfl rfl ?_; (try simp only [Act.put, zA, zB, zC]); (go_wp2_with fail); exact qsA rfl rfl
  refine fcA (fun w4 hw4 => fiA rfl ?_) ?_
  ·refine foA rfl rfl ?_; (try simp only [Act.put, zA, zB, zC]); (go_wp2_with fail); exact qsA rfl rfl
  refine fcA (fun w4 hw4 => fiA rfl (fiA rfl ?_)) ?_
  ·refine foA rfl rfl ?_; (try simp only [Act.put, zA, zB, zC]); (go_wp2_with fail); exact qsA rfl rfl
  refine fcA (fun w4 hw4 => fiA rfl (fiA rfl ?_)) ?_
  ·have c2 : w4.cell? ⟨bx, 2, none⟩ = some (.int .i64 x.par.seats) := ((HK.out.below hw4 HK.out.lt).cell 2)
   refine foA rfl rfl ?_; (try simp only [Act.put, zA, zB, zC]); (go_wp2_with fail); exact qsA rfl rfl
  refine fcA (fun w4 hw4 => fiA rfl (fiA rfl ?_)) ?_
  ·refine foA rfl rfl ?_; (try simp only [Act.put, zA, zB, zC]); (go_wp2_with fail); exact qsA rfl rfl
  refine fcA (fun w4 hw4 => fiA rfl (fiA rfl ?_)) ?_
  ·refine foA rfl rfl ?_; (try simp only [Act.put, zA, zB, zC]); (go_wp2_with fail); exact qsA rfl rfl
  refine fcA (fun w4 hw4 => fiA rfl ?_) ?_
  ·refine FreeStep.call rfl rfl rfl (by rfl) rfl rfl (by (try simp only [Act.put, zA, zB, zC]); go_simp; (try with_reducible rfl)) (field_any w4 a2) ?_
   rintro e w5 ⟨rfl, rfl⟩; exact ⟨_, rfl, Below.refl _ _, rfl⟩
  refine fcA (fun w4 hw4 => ?_) ?_
  ·refine foA rfl rfl ?_; (try simp only [Act.put, zA, zB, zC]); (go_wp2_with fail); exact qsA rfl rfl
  refine fcA (fun w4 hw4 => fiA rfl ?_) ?_
  ·refine foA rfl rfl ?_; (try simp only [Act.put, zA, zB, zC]); (go_wp2_with fail); exact qsA rfl rfl
  refine fcA (fun w4 hw4 => fiA rfl ?_) ?_
  ·have c6 : w4.cell? ⟨bx, 6, none⟩ = some (.int .i64 x.par.txs) := ((HK.out.below hw4 HK.out.lt).cell 6)
   refine foA rfl rfl ?_; (try simp only [Act.put, zA, zB, zC]); (go_wp2_with fail); exact qsA rfl rfl
  refine fcA (fun w4 hw4 => fiA rfl ?_) ?_
  ·refine foA rfl rfl ?_; (try simp only [Act.put, zA, zB, zC]); (go_wp2_with fail); exact qsA rfl rfl
  refine fcA (fun w4 hw4 => fiA rfl ?_) ?_
  ·refine foA rfl rfl ?_; (try simp only [Act.put, zA, zB, zC]); (go_wp2_with fail); exact qsA rfl rfl
  refine fcA (fun w4 hw4 => fiA rfl ?_) ?_
  ·refine foA rfl rfl ?_; (try simp only [Act.put, zA, zB, zC]); (go_wp2_with fail); exact qsA rfl rfl
  refine fcA (fun w4 hw4 => fiA rfl (fiA rfl ?_)) ?_
  ·refine foA rfl rfl ?_; (try simp only [Act.put, zA, zB, zC]); (go_wp2_with fail); exact qsA rfl rfl
  refine fcA (fun w4 hw4 => fiA rfl (fiA rfl ?_)) ?_
  ·have c6 : w4.cell? ⟨bx, 6, none⟩ = some (.int .i64 x.par.txs) := ((HK.out.below hw4 HK.out.lt).cell 6)
   refine foA rfl rfl ?_; (try simp only [Act.put, zA, zB, zC]); (go_wp2_with fail); exact qsA rfl rfl
  refine fcA (fun w4 hw4 => fiA rfl (fiA rfl ?_)) ?_
  ·refine foA rfl rfl ?_; (try simp only [Act.put, zA, zB, zC]); (go_wp2_with fail); exact qsA rfl rfl
  refine fcA (fun w4 hw4 => fiA rfl (fiA rfl ?_)) ?_
  ·refine foA rfl rfl ?_; (try simp only [Act.put, zA, zB, zC]); (go_wp2_with fail); exact qsA rfl rfl
  refine fcA (fun w4 hw4 => fiA rfl ?_) ?_
  ·refine FreeStep.call rfl rfl rfl (by rfl) rfl rfl (by (try simp only [Act.put, zA, zB, zC]); go_simp; (try with_reducible rfl)) (field_any w4 true) ?_
   rintro e w5 ⟨rfl, rfl⟩; exact ⟨_, rfl, Below.refl _ _, rfl⟩
  exact FreeSteps.nil
 case fin =>
  intro w4 hw4
  iterate 32 refine FreeEnd.is rfl ?_
  refine FreeEnd.nil ?_
  (try simp only [Act.put, zA, zB, zC])
  simp only [List.length_cons, List.length_nil, Nat.reduceAdd, List.drop_succ_cons, List.drop_zero]
  have HB4 := Lib.hid (show Below w0.heap.size w0 w4 from ((Below.refl _ _).drew).trans hw4)
  clear hw4 h2 h5 h7 ha1 hb1
  go_wp2_with fail
  refine (all_any _ _ 5 5 [_, _, _, _, _] (rd_errs w4 _ [_, _, _, _, _] rfl) rfl (by omega)).mono ?_
  rintro e w5 ⟨rfl, hw5⟩
  have HB5 := Lib.hid (show Below w0.heap.size w0 w5 by rw [← hw5]; exact HB4.out.alloc (by have := HB4.out.size; omega) _)
  have HW5 := Lib.hid (HB0.out.trans (HB5.out.mono HB0.out.size))
  have HK5 := Lib.hid (show Bk w5 bx x.cl.toArray 62 from Bk.below (show Bk w0 bx x.cl.toArray 62 from HK.out) HB5.out HK.out.lt)
  clear hw5 HB4 HB5 HK HB0
  have HEE := Lib.hid (show firstErr [E1, field q2, E3, field a2, field true] = headS x from HE.out)
  rw [HEE.out]
  obtain ⟨E, hE⟩ : ∃ E, headS x = E := ⟨_, rfl⟩
  have HED := Lib.hid hE
  rw [hE]
  clear HEE HE hE HE1 HE3
  have f1 : (E != 0) = true := by rw [← HED.out]; simpa using HNE.out
  have HP := Lib.hid (show plainSta x = E by unfold plainSta; rw [if_pos HNE.out]; exact HED.out)
  clear HNE HED
  go_wp2
  go_ret
  exact ⟨ret_i64 HP.out.symm, HW5.out⟩

set_option maxHeartbeats 4000000 in
theorem whole_head10 (w : World) (x : Sta) (hx : x.ok) (hat : x.at w) (ha1 : decide (x.par.seats < 1) = true) (hb1 : decide (x.par.txs < 0) = false) (hne : headS x ≠ 0) :
  Calls Tryz.prog 63 #[.agg x.cl.toArray] w fun e w' => e = .returned (.int .i64 (plainSta x)) ∧ Below w.heap.size w w' := by
 have HNE := Lib.hid hne
 clear hne
 have HX := Lib.hid hx
 have HL := Lib.hid (x.len hx.last)
 have HAT := Lib.hid hat
 obtain ⟨E1, h1⟩ : ∃ E, named x.chain.size = E := ⟨_, rfl⟩
 obtain ⟨E3, h3⟩ : ∃ E, moment x.time = E := ⟨_, rfl⟩
 obtain ⟨q2, h2⟩ : ∃ q, decide (1099511627776 < x.height) = q := ⟨_, rfl⟩
 obtain ⟨a2, h5⟩ : ∃ q, decide (64 < x.par.seats) = q := ⟨_, rfl⟩
 obtain ⟨b2, h7⟩ : ∃ q, decide (1000 < x.par.txs) = q := ⟨_, rfl⟩
 have HE := Lib.hid (show firstErr [E1, field q2, E3, field (true || a2), field (false || b2)] = headS x by unfold headS; rw [ha1, hb1, h1, h2, h3, h5, h7])
 have HE1 := Lib.hid h1
 have HE3 := Lib.hid h3
 clear hx h1 h3 hat
 go_enter Tryz.func63, Tryz.ntmps63
 go_wp2_with (with_reducible show wpList _ _ _ (Oper.mk _ (Op.box _ _) _ _ _ _ :: _) _ _; refine wpList_box_bk rfl _ _ rfl _ rfl ?_)
 intro bx w0 hk hbl hg hs
 clear hg hs
 have HB0 := Lib.hid hbl
 have HK := Lib.hid (show Bk w0.drew bx x.cl.toArray 62 from Bk.drew (bk_eqT (cs' := x.cl.toArray) hk rfl))
 clear hk hbl
 go_wp2_with fail
 refine wp_region_freeG [(10, []), (11, [(0, 10)]), (12, [(1, 11)]), (13, []), (14, [(3, 13)]), (15, [(4, 14)]), (16, [(5, 15)]), (17, []), (18, [(7, 17)]), (19, [(8, 18)]), (20, []), (21, [(10, 20)]), (22, [(11, 21)]), (23, [(12, 22)]), (24, [(13, 23)]), (25, [(14, 24)]), (26, [(15, 25), (14, 24)]), (27, [(16, 26), (14, 24)]), (28, [(17, 27), (14, 24)]), (29, [(14, 24), (18, 28)]), (30, [(19, 29)]), (31, []), (32, [(21, 31)]), (33, [(22, 32)]), (34, [(23, 33)]), (35, [(24, 34)]), (36, [(25, 35)]), (37, [(26, 36), (25, 35)]), (38, [(27, 37), (25, 35)]), (39, [(28, 38), (25, 35)]), (40, [(25, 35), (29, 39)]), (41, [(30, 40)])]
  [Is (.pointer (some ⟨bx, 0, none⟩)), Is (.string x.chain), Is (.int .i64 E1), Is (.pointer (some ⟨bx, 13, none⟩)), Is (.int .u64 x.height), Is (.bool q2), Is (.int .i64 (field q2)), Is (.pointer (some ⟨bx, 14, none⟩)), Is (.int .u64 x.time), Is (.int .i64 E3), Is (.pointer (some ⟨bx, 1, none⟩)), Is (.pointer (some ⟨bx, 2, none⟩)), Is (.int .i64 x.par.seats), Is (.bool true), Is (.bool true), Is undef, Is undef, Is undef, Is undef, Is (.bool true), Is (.int .i64 (field true)), Is (.pointer (some ⟨bx, 1, none⟩)), Is (.pointer (some ⟨bx, 6, none⟩)), Is (.int .i64 x.par.txs), Is (.bool false), Is (.bool false), Is (.pointer (some ⟨bx, 1, none⟩)), Is (.pointer (some ⟨bx, 6, none⟩)), Is (.int .i64 x.par.txs), Is (.bool b2), Is (.bool b2), Is (.int .i64 (field b2))]
  (by kernel_rfl) (by kernel_rfl) (by rfl) ?st ?steps ?fin
 case st => exact ⟨Is.steady _, Is.steady _, Is.steady _, Is.steady _, Is.steady _, Is.steady _, Is.steady _, Is.steady _, Is.steady _, Is.steady _, Is.steady _, Is.steady _, Is.steady _, Is.steady _, Is.steady _, Is.steady _, Is.steady _, Is.steady _, Is.steady _, Is.steady _, Is.steady _, Is.steady _, Is.steady _, Is.steady _, Is.steady _, Is.steady _, Is.steady _, Is.steady _, Is.steady _, Is.steady _, Is.steady _, Is.steady _, trivial⟩
 case steps =>
  refine fcA (fun w4 hw4 => ?_) ?_
  ·refine foA rfl rfl ?_; (try simp only [Act.put, zA, zB, zC]); (go_wp2_with fail); exact qsA rfl rfl
  refine fcA (fun w4 hw4 => fiA rfl ?_) ?_
  ·have c0 : w4.cell? ⟨bx, 0, none⟩ = some (.string x.chain) := ((HK.out.below hw4 HK.out.lt).cell 0)
   refine foA rfl rfl ?_; (try simp only [Act.put, zA, zB, zC]); (go_wp2_with fail); exact qsA rfl rfl
  refine fcA (fun w4 hw4 => fiA rfl ?_) ?_
  ·refine FreeStep.call rfl rfl rfl (by rfl) rfl rfl (by (try simp only [Act.put, zA, zB, zC]); go_simp; (try with_reducible rfl)) (named_any w4 x.chain HX.out.chain) ?_
   rintro e w5 ⟨rfl, rfl⟩; exact ⟨_, rfl, Below.refl _ _, by rw [HE1.out]; rfl⟩
  refine fcA (fun w4 hw4 => ?_) ?_
  ·refine foA rfl rfl ?_; (try simp only [Act.put, zA, zB, zC]); (go_wp2_with fail); exact qsA rfl rfl
  refine fcA (fun w4 hw4 => fiA rfl ?_) ?_
  ·have c13 : w4.cell? ⟨bx, 13, none⟩ = some (.int .u64 x.height) := ((HK.out.below hw4 HK.out.lt).cell 13)
   refine foA rfl rfl ?_; (try simp only [Act.put, zA, zB, zC]); (go_wp2_with fail); exact qsA rfl rfl
  refine fcA (fun w4 hw4 => fiA rfl ?_) ?_
  ·refine foA rfl rfl ?_; (try simp only [Act.put, zA, zB, zC]); (go_wp2_with fail); exact qsA rfl rfl
  refine fcA (fun w4 hw4 => fiA rfl ?_) ?_
  ·refine FreeStep.call rfl rfl rfl (by rfl) rfl rfl (by (try simp only [Act.put, zA, zB, zC]); go_simp; (try with_reducible rfl)) (field_any w4 q2) ?_
   rintro e w5 ⟨rfl, rfl⟩; exact ⟨_, rfl, Below.refl _ _, rfl⟩
  refine fcA (fun w4 hw4 => ?_) ?_
  ·refine foA rfl rfl ?_; (try simp only [Act.put, zA, zB, zC]); (go_wp2_with fail); exact qsA rfl rfl
  refine fcA (fun w4 hw4 => fiA rfl ?_) ?_
  ·have c14 : w4.cell? ⟨bx, 14, none⟩ = some (.int .u64 x.time) := ((HK.out.below hw4 HK.out.lt).cell 14)
   refine foA rfl rfl ?_; (try simp only [Act.put, zA, zB, zC]); (go_wp2_with fail); exact qsA rfl rfl
  refine fcA (fun w4 hw4 => fiA rfl ?_) ?_
  ·refine FreeStep.call rfl rfl rfl (by rfl) rfl rfl (by (try simp only [Act.put, zA, zB, zC]); go_simp; (try with_reducible rfl)) (moment_any w4 x.time) ?_
   rintro e w5 ⟨rfl, rfl⟩; exact ⟨_, rfl, Below.refl _ _, by rw [HE3.out]; rfl⟩
  refine fcA (fun w4 hw4 => ?_) ?_
  ·refine foA rfl rfl ?_; (try simp only [Act.put, zA, zB, zC]); (go_wp2_with fail); exact qsA rfl rfl
  refine fcA (fun w4 hw4 => fiA rfl ?_) ?_
  ·refine foA rfl rfl ?_; (try simp only [Act.put, zA, zB, zC]); (go_wp2_with fail); exact qsA rfl rfl
  refine fcA (fun w4 hw4 => fiA rfl ?_) ?_
  ·have c2 : w4.cell? ⟨bx, 2, none⟩ = some (.int .i64 x.par.seats) := ((HK.out.below hw4 HK.out.lt).cell 2)
   refine foA rfl rfl ?_; (try simp only [Act.put, zA, zB, zC]); (go_wp2_with fail); exact qsA rfl rfl
  refine fcA (fun w4 hw4 => fiA rfl ?_) ?_
  ·refine foA rfl rfl ?_; (try simp only [Act.put, zA, zB, zC]); (go_wp2_with fail); exact qsA rfl rfl
  refine fcA (fun w4 hw4 => fiA rfl ?_) ?_
  ·refine foA rfl rfl ?_; (try simp only [Act.put, zA, zB, zC]); (go_wp2_with fail); exact qsA rfl rfl
  refine fcA (fun w4 hw4 => fiA rfl ?_) ?_
  ·refine foA rfl rfl ?_; (try simp only [Act.put, zA, zB, zC]); (go_wp2_with fail); exact qsA rfl rfl
  refine fcA (fun w4 hw4 => fiA rfl (fiA rfl ?_)) ?_
  ·refine foA rfl rfl ?_; (try simp only [Act.put, zA, zB, zC]); (go_wp2_with fail); exact qsA rfl rfl
  refine fcA (fun w4 hw4 => fiA rfl (fiA rfl ?_)) ?_
  ·have c2 : w4.cell? ⟨bx, 2, none⟩ = some (.int .i64 x.par.seats) := ((HK.out.below hw4 HK.out.lt).cell 2)
   refine foA rfl rfl ?_; (try simp only [Act.put, zA, zB, zC]); (go_wp2_with fail); exact qsA rfl rfl
  refine fcA (fun w4 hw4 => fiA rfl (fiA rfl ?_)) ?_
  ·refine foA rfl rfl ?_; (try simp only [Act.put, zA, zB, zC]); (go_wp2_with fail); exact qsA rfl rfl
  refine fcA (fun w4 hw4 => fiA rfl (fiA rfl ?_)) ?_
  ·refine foA rfl rfl ?_; (try simp only [Act.put, zA, zB, zC]); (go_wp2_with fail); exact qsA rfl rfl
  refine fcA (fun w4 hw4 => fiA rfl ?_) ?_
  ·refine FreeStep.call rfl rfl rfl (by rfl) rfl rfl (by (try simp only [Act.put, zA, zB, zC]); go_simp; (try with_reducible rfl)) (field_any w4 true) ?_
   rintro e w5 ⟨rfl, rfl⟩; exact ⟨_, rfl, Below.refl _ _, rfl⟩
  refine fcA (fun w4 hw4 => ?_) ?_
  ·refine foA rfl rfl ?_; (try simp only [Act.put, zA, zB, zC]); (go_wp2_with fail); exact qsA rfl rfl
  refine fcA (fun w4 hw4 => fiA rfl ?_) ?_
  ·refine foA rfl rfl ?_; (try simp only [Act.put, zA, zB, zC]); (go_wp2_with fail); exact qsA rfl rfl
  refine fcA (fun w4 hw4 => fiA rfl ?_) ?_
  ·have c6 : w4.cell? ⟨bx, 6, none⟩ = some (.int .i64 x.par.txs) := ((HK.out.below hw4 HK.out.lt).cell 6)
   refine foA rfl rfl ?_; (try simp only [Act.put, zA, zB, zC]); (go_wp2_with fail); exact qsA rfl rfl
  refine fcA (fun w4 hw4 => fiA rfl ?_) ?_
  ·refine foA rfl rfl ?_; (try simp only [Act.put, zA, zB, zC]); (go_wp2_with fail); exact qsA rfl rfl
  refine fcA (fun w4 hw4 => fiA rfl ?_) ?_
  ·refine foA rfl rfl ?_; (try simp only [Act.put, zA, zB, zC]); (go_wp2_with fail); exact qsA rfl rfl
  refine fcA (fun w4 hw4 => fiA rfl ?_) ?_
  ·refine foA rfl rfl ?_; (try simp only [Act.put, zA, zB, zC]); (go_wp2_with fail); exact qsA rfl rfl
  refine fcA (fun w4 hw4 => fiA rfl (fiA rfl ?_)) ?_
  ·refine foA rfl rfl ?_; (try simp only [Act.put, zA, zB, zC]); (go_wp2_with fail); exact qsA rfl rfl
  refine fcA (fun w4 hw4 => fiA rfl (fiA rfl ?_)) ?_
  ·have c6 : w4.cell? ⟨bx, 6, none⟩ = some (.int .i64 x.par.txs) := ((HK.out.below hw4 HK.out.lt).cell 6)
   refine foA rfl rfl ?_; (try simp only [Act.put, zA, zB, zC]); (go_wp2_with fail); exact qsA rfl rfl
  refine fcA (fun w4 hw4 => fiA rfl (fiA rfl ?_)) ?_
  ·refine foA rfl rfl ?_; (try simp only [Act.put, zA, zB, zC]); (go_wp2_with fail); exact qsA rfl rfl
  refine fcA (fun w4 hw4 => fiA rfl (fiA rfl ?_)) ?_
  ·refine foA rfl rfl ?_; (try simp only [Act.put, zA, zB, zC]); (go_wp2_with fail); exact qsA rfl rfl
  refine fcA (fun w4 hw4 => fiA rfl ?_) ?_
  ·refine FreeStep.call rfl rfl rfl (by rfl) rfl rfl (by (try simp only [Act.put, zA, zB, zC]); go_simp; (try with_reducible rfl)) (field_any w4 b2) ?_
   rintro e w5 ⟨rfl, rfl⟩; exact ⟨_, rfl, Below.refl _ _, rfl⟩
  exact FreeSteps.nil
 case fin =>
  intro w4 hw4
  iterate 32 refine FreeEnd.is rfl ?_
  refine FreeEnd.nil ?_
  (try simp only [Act.put, zA, zB, zC])
  simp only [List.length_cons, List.length_nil, Nat.reduceAdd, List.drop_succ_cons, List.drop_zero]
  have HB4 := Lib.hid (show Below w0.heap.size w0 w4 from ((Below.refl _ _).drew).trans hw4)
  clear hw4 h2 h5 h7 ha1 hb1
  go_wp2_with fail
  refine (all_any _ _ 5 5 [_, _, _, _, _] (rd_errs w4 _ [_, _, _, _, _] rfl) rfl (by omega)).mono ?_
  rintro e w5 ⟨rfl, hw5⟩
  have HB5 := Lib.hid (show Below w0.heap.size w0 w5 by rw [← hw5]; exact HB4.out.alloc (by have := HB4.out.size; omega) _)
  have HW5 := Lib.hid (HB0.out.trans (HB5.out.mono HB0.out.size))
  have HK5 := Lib.hid (show Bk w5 bx x.cl.toArray 62 from Bk.below (show Bk w0 bx x.cl.toArray 62 from HK.out) HB5.out HK.out.lt)
  clear hw5 HB4 HB5 HK HB0
  have HEE := Lib.hid (show firstErr [E1, field q2, E3, field true, field b2] = headS x from HE.out)
  rw [HEE.out]
  obtain ⟨E, hE⟩ : ∃ E, headS x = E := ⟨_, rfl⟩
  have HED := Lib.hid hE
  rw [hE]
  clear HEE HE hE HE1 HE3
  have f1 : (E != 0) = true := by rw [← HED.out]; simpa using HNE.out
  have HP := Lib.hid (show plainSta x = E by unfold plainSta; rw [if_pos HNE.out]; exact HED.out)
  clear HNE HED
  go_wp2
  go_ret
  exact ⟨ret_i64 HP.out.symm, HW5.out⟩

set_option maxHeartbeats 4000000 in
theorem whole_head11 (w : World) (x : Sta) (hx : x.ok) (hat : x.at w) (ha1 : decide (x.par.seats < 1) = true) (hb1 : decide (x.par.txs < 0) = true) (hne : headS x ≠ 0) :
  Calls Tryz.prog 63 #[.agg x.cl.toArray] w fun e w' => e = .returned (.int .i64 (plainSta x)) ∧ Below w.heap.size w w' := by
 have HNE := Lib.hid hne
 clear hne
 have HX := Lib.hid hx
 have HL := Lib.hid (x.len hx.last)
 have HAT := Lib.hid hat
 obtain ⟨E1, h1⟩ : ∃ E, named x.chain.size = E := ⟨_, rfl⟩
 obtain ⟨E3, h3⟩ : ∃ E, moment x.time = E := ⟨_, rfl⟩
 obtain ⟨q2, h2⟩ : ∃ q, decide (1099511627776 < x.height) = q := ⟨_, rfl⟩
 obtain ⟨a2, h5⟩ : ∃ q, decide (64 < x.par.seats) = q := ⟨_, rfl⟩
 obtain ⟨b2, h7⟩ : ∃ q, decide (1000 < x.par.txs) = q := ⟨_, rfl⟩
 have HE := Lib.hid (show firstErr [E1, field q2, E3, field (true || a2), field (true || b2)] = headS x by unfold headS; rw [ha1, hb1, h1, h2, h3, h5, h7])
 have HE1 := Lib.hid h1
 have HE3 := Lib.hid h3
 clear hx h1 h3 hat
 go_enter Tryz.func63, Tryz.ntmps63
 go_wp2_with (with_reducible show wpList _ _ _ (Oper.mk _ (Op.box _ _) _ _ _ _ :: _) _ _; refine wpList_box_bk rfl _ _ rfl _ rfl ?_)
 intro bx w0 hk hbl hg hs
 clear hg hs
 have HB0 := Lib.hid hbl
 have HK := Lib.hid (show Bk w0.drew bx x.cl.toArray 62 from Bk.drew (bk_eqT (cs' := x.cl.toArray) hk rfl))
 clear hk hbl
 go_wp2_with fail
 refine wp_region_freeG [(10, []), (11, [(0, 10)]), (12, [(1, 11)]), (13, []), (14, [(3, 13)]), (15, [(4, 14)]), (16, [(5, 15)]), (17, []), (18, [(7, 17)]), (19, [(8, 18)]), (20, []), (21, [(10, 20)]), (22, [(11, 21)]), (23, [(12, 22)]), (24, [(13, 23)]), (25, [(14, 24)]), (26, [(15, 25), (14, 24)]), (27, [(16, 26), (14, 24)]), (28, [(17, 27), (14, 24)]), (29, [(14, 24), (18, 28)]), (30, [(19, 29)]), (31, []), (32, [(21, 31)]), (33, [(22, 32)]), (34, [(23, 33)]), (35, [(24, 34)]), (36, [(25, 35)]), (37, [(26, 36), (25, 35)]), (38, [(27, 37), (25, 35)]), (39, [(28, 38), (25, 35)]), (40, [(25, 35), (29, 39)]), (41, [(30, 40)])]
  [Is (.pointer (some ⟨bx, 0, none⟩)), Is (.string x.chain), Is (.int .i64 E1), Is (.pointer (some ⟨bx, 13, none⟩)), Is (.int .u64 x.height), Is (.bool q2), Is (.int .i64 (field q2)), Is (.pointer (some ⟨bx, 14, none⟩)), Is (.int .u64 x.time), Is (.int .i64 E3), Is (.pointer (some ⟨bx, 1, none⟩)), Is (.pointer (some ⟨bx, 2, none⟩)), Is (.int .i64 x.par.seats), Is (.bool true), Is (.bool true), Is undef, Is undef, Is undef, Is undef, Is (.bool true), Is (.int .i64 (field true)), Is (.pointer (some ⟨bx, 1, none⟩)), Is (.pointer (some ⟨bx, 6, none⟩)), Is (.int .i64 x.par.txs), Is (.bool true), Is (.bool true), Is undef, Is undef, Is undef, Is undef, Is (.bool true), Is (.int .i64 (field true))]
  (by kernel_rfl) (by kernel_rfl) (by rfl) ?st ?steps ?fin
 case st => exact ⟨Is.steady _, Is.steady _, Is.steady _, Is.steady _, Is.steady _, Is.steady _, Is.steady _, Is.steady _, Is.steady _, Is.steady _, Is.steady _, Is.steady _, Is.steady _, Is.steady _, Is.steady _, Is.steady _, Is.steady _, Is.steady _, Is.steady _, Is.steady _, Is.steady _, Is.steady _, Is.steady _, Is.steady _, Is.steady _, Is.steady _, Is.steady _, Is.steady _, Is.steady _, Is.steady _, Is.steady _, Is.steady _, trivial⟩
 case steps =>
  refine fcA (fun w4 hw4 => ?_) ?_
  ·refine foA rfl rfl ?_; (try simp only [Act.put, zA, zB, zC]); (go_wp2_with fail); exact qsA rfl rfl
  refine fcA (fun w4 hw4 => fiA rfl ?_) ?_
  ·have c0 : w4.cell? ⟨bx, 0, none⟩ = some (.string x.chain) := ((HK.out.below hw4 HK.out.lt).cell 0)
   refine foA rfl rfl ?_; (try simp only [Act.put, zA, zB, zC]); (go_wp2_with fail); exact qsA rfl rfl
  refine fcA (fun w4 hw4 => fiA rfl ?_) ?_
  ·refine FreeStep.call rfl rfl rfl (by rfl) rfl rfl (by (try simp only [Act.put, zA, zB, zC]); go_simp; (try with_reducible rfl)) (named_any w4 x.chain HX.out.chain) ?_
   rintro e w5 ⟨rfl, rfl⟩; exact ⟨_, rfl, Below.refl _ _, by rw [HE1.out]; rfl⟩
  refine fcA (fun w4 hw4 => ?_) ?_
  ·refine foA rfl rfl ?_; (try simp only [Act.put, zA, zB, zC]); (go_wp2_with fail); exact qsA rfl rfl
  refine fcA (fun w4 hw4 => fiA rfl ?_) ?_
  ·have c13 : w4.cell? ⟨bx, 13, none⟩ = some (.int .u64 x.height) := ((HK.out.below hw4 HK.out.lt).cell 13)
   refine foA rfl rfl ?_; (try simp only [Act.put, zA, zB, zC]); (go_wp2_with fail); exact qsA rfl rfl
  refine fcA (fun w4 hw4 => fiA rfl ?_) ?_
  ·refine foA rfl rfl ?_; (try simp only [Act.put, zA, zB, zC]); (go_wp2_with fail); exact qsA rfl rfl
  refine fcA (fun w4 hw4 => fiA rfl ?_) ?_
  ·refine FreeStep.call rfl rfl rfl (by rfl) rfl rfl (by (try simp only [Act.put, zA, zB, zC]); go_simp; (try with_reducible rfl)) (field_any w4 q2) ?_
   rintro e w5 ⟨rfl, rfl⟩; exact ⟨_, rfl, Below.refl _ _, rfl⟩
  refine fcA (fun w4 hw4 => ?_) ?_
  ·refine foA rfl rfl ?_; (try simp only [Act.put, zA, zB, zC]); (go_wp2_with fail); exact qsA rfl rfl
  refine fcA (fun w4 hw4 => fiA rfl ?_) ?_
  ·have c14 : w4.cell? ⟨bx, 14, none⟩ = some (.int .u64 x.time) := ((HK.out.below hw4 HK.out.lt).cell 14)
   refine foA rfl rfl ?_; (try simp only [Act.put, zA, zB, zC]); (go_wp2_with fail); exact qsA rfl rfl
  refine fcA (fun w4 hw4 => fiA rfl ?_) ?_
  ·refine FreeStep.call rfl rfl rfl (by rfl) rfl rfl (by (try simp only [Act.put, zA, zB, zC]); go_simp; (try with_reducible rfl)) (moment_any w4 x.time) ?_
   rintro e w5 ⟨rfl, rfl⟩; exact ⟨_, rfl, Below.refl _ _, by rw [HE3.out]; rfl⟩
  refine fcA (fun w4 hw4 => ?_) ?_
  ·refine foA rfl rfl ?_; (try simp only [Act.put, zA, zB, zC]); (go_wp2_with fail); exact qsA rfl rfl
  refine fcA (fun w4 hw4 => fiA rfl ?_) ?_
  ·refine foA rfl rfl ?_; (try simp only [Act.put, zA, zB, zC]); (go_wp2_with fail); exact qsA rfl rfl
  refine fcA (fun w4 hw4 => fiA rfl ?_) ?_
  ·have c2 : w4.cell? ⟨bx, 2, none⟩ = some (.int .i64 x.par.seats) := ((HK.out.below hw4 HK.out.lt).cell 2)
   refine foA rfl rfl ?_; (try simp only [Act.put, zA, zB, zC]); (go_wp2_with fail); exact qsA rfl rfl
  refine fcA (fun w4 hw4 => fiA rfl ?_) ?_
  ·refine foA rfl rfl ?_; (try simp only [Act.put, zA, zB, zC]); (go_wp2_with fail); exact qsA rfl rfl
  refine fcA (fun w4 hw4 => fiA rfl ?_) ?_
  ·refine foA rfl rfl ?_; (try simp only [Act.put, zA, zB, zC]); (go_wp2_with fail); exact qsA rfl rfl
  refine fcA (fun w4 hw4 => fiA rfl ?_) ?_
  ·refine foA rfl rfl ?_; (try simp only [Act.put, zA, zB, zC]); (go_wp2_with fail); exact qsA rfl rfl
  refine fcA (fun w4 hw4 => fiA rfl (fiA rfl ?_)) ?_
  ·refine foA rfl rfl ?_; (try simp only [Act.put, zA, zB, zC]); (go_wp2_with fail); exact qsA rfl rfl
  refine fcA (fun w4 hw4 => fiA rfl (fiA rfl ?_)) ?_
  ·have c2 : w4.cell? ⟨bx, 2, none⟩ = some (.int .i64 x.par.seats) := ((HK.out.below hw4 HK.out.lt).cell 2)
   refine foA rfl rfl ?_; (try simp only [Act.put, zA, zB, zC]); (go_wp2_with fail); exact qsA rfl rfl
  refine fcA (fun w4 hw4 => fiA rfl (fiA rfl ?_)) ?_
  ·refine foA rfl rfl ?_; (try simp only [Act.put, zA, zB, zC]); (go_wp2_with fail); exact qsA rfl rfl
  refine fcA (fun w4 hw4 => fiA rfl (fiA rfl ?_)) ?_
  ·refine foA rfl rfl ?_; (try simp only [Act.put, zA, zB, zC]); (go_wp2_with fail); exact qsA rfl rfl
  refine fcA (fun w4 hw4 => fiA rfl ?_) ?_
  ·refine FreeStep.call rfl rfl rfl (by rfl) rfl rfl (by (try simp only [Act.put, zA, zB, zC]); go_simp; (try with_reducible rfl)) (field_any w4 true) ?_
   rintro e w5 ⟨rfl, rfl⟩; exact ⟨_, rfl, Below.refl _ _, rfl⟩
  refine fcA (fun w4 hw4 => ?_) ?_
  ·refine foA rfl rfl ?_; (try simp only [Act.put, zA, zB, zC]); (go_wp2_with fail); exact qsA rfl rfl
  refine fcA (fun w4 hw4 => fiA rfl ?_) ?_
  ·refine foA rfl rfl ?_; (try simp only [Act.put, zA, zB, zC]); (go_wp2_with fail); exact qsA rfl rfl
  refine fcA (fun w4 hw4 => fiA rfl ?_) ?_
  ·have c6 : w4.cell? ⟨bx, 6, none⟩ = some (.int .i64 x.par.txs) := ((HK.out.below hw4 HK.out.lt).cell 6)
   refine foA rfl rfl ?_; (try simp only [Act.put, zA, zB, zC]); (go_wp2_with fail); exact qsA rfl rfl
  refine fcA (fun w4 hw4 => fiA rfl ?_) ?_
  ·refine foA rfl rfl ?_; (try simp only [Act.put, zA, zB, zC]); (go_wp2_with fail); exact qsA rfl rfl
  refine fcA (fun w4 hw4 => fiA rfl ?_) ?_
  ·refine foA rfl rfl ?_; (try simp only [Act.put, zA, zB, zC]); (go_wp2_with fail); exact qsA rfl rfl
  refine fcA (fun w4 hw4 => fiA rfl ?_) ?_
  ·refine foA rfl rfl ?_; (try simp only [Act.put, zA, zB, zC]); (go_wp2_with fail); exact qsA rfl rfl
  refine fcA (fun w4 hw4 => fiA rfl (fiA rfl ?_)) ?_
  ·refine foA rfl rfl ?_; (try simp only [Act.put, zA, zB, zC]); (go_wp2_with fail); exact qsA rfl rfl
  refine fcA (fun w4 hw4 => fiA rfl (fiA rfl ?_)) ?_
  ·have c6 : w4.cell? ⟨bx, 6, none⟩ = some (.int .i64 x.par.txs) := ((HK.out.below hw4 HK.out.lt).cell 6)
   refine foA rfl rfl ?_; (try simp only [Act.put, zA, zB, zC]); (go_wp2_with fail); exact qsA rfl rfl
  refine fcA (fun w4 hw4 => fiA rfl (fiA rfl ?_)) ?_
  ·refine foA rfl rfl ?_; (try simp only [Act.put, zA, zB, zC]); (go_wp2_with fail); exact qsA rfl rfl
  refine fcA (fun w4 hw4 => fiA rfl (fiA rfl ?_)) ?_
  ·refine foA rfl rfl ?_; (try simp only [Act.put, zA, zB, zC]); (go_wp2_with fail); exact qsA rfl rfl
  refine fcA (fun w4 hw4 => fiA rfl ?_) ?_
  ·refine FreeStep.call rfl rfl rfl (by rfl) rfl rfl (by (try simp only [Act.put, zA, zB, zC]); go_simp; (try with_reducible rfl)) (field_any w4 true) ?_
   rintro e w5 ⟨rfl, rfl⟩; exact ⟨_, rfl, Below.refl _ _, rfl⟩
  exact FreeSteps.nil
 case fin =>
  intro w4 hw4
  iterate 32 refine FreeEnd.is rfl ?_
  refine FreeEnd.nil ?_
  (try simp only [Act.put, zA, zB, zC])
  simp only [List.length_cons, List.length_nil, Nat.reduceAdd, List.drop_succ_cons, List.drop_zero]
  have HB4 := Lib.hid (show Below w0.heap.size w0 w4 from ((Below.refl _ _).drew).trans hw4)
  clear hw4 h2 h5 h7 ha1 hb1
  go_wp2_with fail
  refine (all_any _ _ 5 5 [_, _, _, _, _] (rd_errs w4 _ [_, _, _, _, _] rfl) rfl (by omega)).mono ?_
  rintro e w5 ⟨rfl, hw5⟩
  have HB5 := Lib.hid (show Below w0.heap.size w0 w5 by rw [← hw5]; exact HB4.out.alloc (by have := HB4.out.size; omega) _)
  have HW5 := Lib.hid (HB0.out.trans (HB5.out.mono HB0.out.size))
  have HK5 := Lib.hid (show Bk w5 bx x.cl.toArray 62 from Bk.below (show Bk w0 bx x.cl.toArray 62 from HK.out) HB5.out HK.out.lt)
  clear hw5 HB4 HB5 HK HB0
  have HEE := Lib.hid (show firstErr [E1, field q2, E3, field true, field true] = headS x from HE.out)
  rw [HEE.out]
  obtain ⟨E, hE⟩ : ∃ E, headS x = E := ⟨_, rfl⟩
  have HED := Lib.hid hE
  rw [hE]
  clear HEE HE hE HE1 HE3
  have f1 : (E != 0) = true := by rw [← HED.out]; simpa using HNE.out
  have HP := Lib.hid (show plainSta x = E by unfold plainSta; rw [if_pos HNE.out]; exact HED.out)
  clear HNE HED
  go_wp2
  go_ret
  exact ⟨ret_i64 HP.out.symm, HW5.out⟩
end Go.Proofs.YtlhnhjglcbggmaaGreatRR

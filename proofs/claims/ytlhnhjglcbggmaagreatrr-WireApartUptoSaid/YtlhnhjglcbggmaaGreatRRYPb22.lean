/-
  What is wrong with a State's form, where its head is well. Conditions: each number fits its kind; its lists lie in the world.
-/
import Derived.Test.YtlhnhjglcbggmaaGreatRRYPb21
namespace Go.Proofs.YtlhnhjglcbggmaaGreatRR
set_option linter.unusedSimpArgs false
set_option linter.unusedVariables false
open Go.RowKit
set_option maxRecDepth 100000

theorem firstErr_app (m : List Int) : ∀ l : List Int, firstErr (firstErr l :: m) = firstErr (l ++ m)
 | [] => by simp [firstErr]
 | e :: l => by
  have h := firstErr_app m l
  by_cases he : e = 0
  ·subst he
   simpa [firstErr] using h
  ·simp [firstErr, he]
def risP (p : Pst) : Int := risingE memKey p.cou.ms
set_option maxHeartbeats 16000000 in
theorem whole_ff (w : World) (x : Sta) (hx : x.ok) (hat : x.at w) (hpn : x.pn ≤ 1000000000000) (hon : x.on ≤ 1000000000000) (hrn : x.rn ≤ 1000000000000) (ha1 : decide (x.par.seats < 1) = false) (hb1 : decide (x.par.txs < 0) = false) :
  Calls Tryz.prog 63 #[.agg x.cl.toArray] w fun e w' => e = .returned (.int .i64 (plainSta x)) ∧ Below w.heap.size w w' := by
 have HON := Lib.hid hon
 have HRN := Lib.hid hrn
 have HPB := Lib.hid hpn
 clear hon hrn hpn
 have HX := Lib.hid hx
 have HL := Lib.hid (x.len hx.last)
 have HAT := Lib.hid hat
 obtain ⟨E1, h1⟩ : ∃ E, named x.chain.size = E := ⟨_, rfl⟩
 obtain ⟨E3, h3⟩ : ∃ E, moment x.time = E := ⟨_, rfl⟩
 obtain ⟨q2, h2⟩ : ∃ q, decide (1099511627776 < x.height) = q := ⟨_, rfl⟩
 obtain ⟨a2, h5⟩ : ∃ q, decide (64 < x.par.seats) = q := ⟨_, rfl⟩
 obtain ⟨b2, h7⟩ : ∃ q, decide (1000 < x.par.txs) = q := ⟨_, rfl⟩
 have HE := Lib.hid (show firstErr [E1, field q2, E3, field (false || a2), field (false || b2)] = headS x by unfold headS; rw [ha1, hb1, h1, h2, h3, h5, h7])
 have HE1 := Lib.hid h1
 have HE3 := Lib.hid h3
 clear hx h1 h3 hat
 go_enter Tryz.func63, Tryz.ntmps63
 go_wp2_with (with_reducible show wpList _ _ _ (Oper.mk _ (Op.box _ _) _ _ _ _ :: _) _ _; refine wpList_box_bk rfl _ _ rfl _ rfl ?_)
 intro bx w0 hk hbl hg hs
 clear hg hs
 have HB0 := Lib.hid hbl
 have HK := Lib.hid (show Bk w0.drew bx x.cl.toArray 62 from Bk.drew (bk_eqT (cs' := x.cl.toArray) hk rfl))
 clear hk hbl
 go_wp2_with fail
 refine wp_region_freeG [(10, []), (11, [(0, 10)]), (12, [(1, 11)]), (13, []), (14, [(3, 13)]), (15, [(4, 14)]), (16, [(5, 15)]), (17, []), (18, [(7, 17)]), (19, [(8, 18)]), (20, []), (21, [(10, 20)]), (22, [(11, 21)]), (23, [(12, 22)]), (24, [(13, 23)]), (25, [(14, 24)]), (26, [(15, 25), (14, 24)]), (27, [(16, 26), (14, 24)]), (28, [(17, 27), (14, 24)]), (29, [(14, 24), (18, 28)]), (30, [(19, 29)]), (31, []), (32, [(21, 31)]), (33, [(22, 32)]), (34, [(23, 33)]), (35, [(24, 34)]), (36, [(25, 35)]), (37, [(26, 36), (25, 35)]), (38, [(27, 37), (25, 35)]), (39, [(28, 38), (25, 35)]), (40, [(25, 35), (29, 39)]), (41, [(30, 40)])]
  [Is (.pointer (some ⟨bx, 0, none⟩)), Is (.string x.chain), Is (.int .i64 E1), Is (.pointer (some ⟨bx, 13, none⟩)), Is (.int .u64 x.height), Is (.bool q2), Is (.int .i64 (field q2)), Is (.pointer (some ⟨bx, 14, none⟩)), Is (.int .u64 x.time), Is (.int .i64 E3), Is (.pointer (some ⟨bx, 1, none⟩)), Is (.pointer (some ⟨bx, 2, none⟩)), Is (.int .i64 x.par.seats), Is (.bool false), Is (.bool false), Is (.pointer (some ⟨bx, 1, none⟩)), Is (.pointer (some ⟨bx, 2, none⟩)), Is (.int .i64 x.par.seats), Is (.bool a2), Is (.bool a2), Is (.int .i64 (field a2)), Is (.pointer (some ⟨bx, 1, none⟩)), Is (.pointer (some ⟨bx, 6, none⟩)), Is (.int .i64 x.par.txs), Is (.bool false), Is (.bool false), Is (.pointer (some ⟨bx, 1, none⟩)), Is (.pointer (some ⟨bx, 6, none⟩)), Is (.int .i64 x.par.txs), Is (.bool b2), Is (.bool b2), Is (.int .i64 (field b2))]
  (by kernel_rfl) (by kernel_rfl) (by rfl) ?st ?steps ?fin
 case st => exact ⟨Is.steady _, Is.steady _, Is.steady _, Is.steady _, Is.steady _, Is.steady _, Is.steady _, Is.steady _, Is.steady _, Is.steady _, Is.steady _, Is.steady _, Is.steady _, Is.steady _, Is.steady _, Is.steady _, Is.steady _, Is.steady _, Is.steady _, Is.steady _, Is.steady _, Is.steady _, Is.steady _, Is.steady _, Is.steady _, Is.steady _, Is.steady _, Is.steady _, Is.steady _, Is.steady _, Is.steady _, Is.steady _, trivial⟩
 case steps =>
  refine fcA (fun w4 hw4 => ?_) ?_
  ·refine foA rfl rfl ?_; (try simp only [Act.put, zA, zB, zC]); (go_wp2_with fail); exact qsA rfl rfl
  refine fcA (fun w4 hw4 => fiA rfl ?_) ?_
  ·have c0 : w4.cell? ⟨bx, 0, none⟩ = some (.string x.chain) := ((HK.out.below hw4 HK.out.lt).cell 0)
   refine foA rfl rfl ?_; (try simp only [Act.put, zA, zB, zC]); (go_wp2_with fail); exact qsA rfl rfl
  refine fcA (fun w4 hw4 => fiA rfl ?_) ?_
  ·refine FreeStep.call rfl rfl rfl (by rfl) rfl rfl (by (try simp only [Act.put, zA, zB, zC]); go_simp; (try with_reducible rfl)) (named_any w4 x.chain HX.out.chain) ?_
   rintro e w5 ⟨rfl, rfl⟩; exact ⟨_, rfl, Below.refl _ _, by rw [HE1.out]; rfl⟩
  refine fcA (fun w4 hw4 => ?_) ?_
  ·refine foA rfl rfl ?_; (try simp only [Act.put, zA, zB, zC]); (go_wp2_with fail); exact qsA rfl rfl
  refine fcA (fun w4 hw4 => fiA rfl ?_) ?_
  ·have c13 : w4.cell? ⟨bx, 13, none⟩ = some (.int .u64 x.height) := ((HK.out.below hw4 HK.out.lt).cell 13)
   refine foA rfl rfl ?_; (try simp only [Act.put, zA, zB, zC]); (go_wp2_with fail); exact qsA rfl rfl
  refine fcA (fun w4 hw4 => fiA rfl ?_) ?_
  ·refine foA rfl rfl ?_; (try simp only [Act.put, zA, zB, zC]); (go_wp2_with fail); exact qsA rfl rfl
  refine fcA (fun w4 hw4 => fiA rfl ?_) ?_
  ·refine FreeStep.call rfl rfl rfl (by rfl) rfl rfl (by (try simp only [Act.put, zA, zB, zC]); go_simp; (try with_reducible rfl)) (field_any w4 q2) ?_
   rintro e w5 ⟨rfl, rfl⟩; exact ⟨_, rfl, Below.refl _ _, rfl⟩
  refine fcA (fun w4 hw4 => ?_) ?_
  ·refine foA rfl rfl ?_; (try simp only [Act.put, zA, zB, zC]); (go_wp2_with fail); exact qsA rfl rfl
  refine fcA (fun w4 hw4 => fiA rfl ?_) ?_
  ·have c14 : w4.cell? ⟨bx, 14, none⟩ = some (.int .u64 x.time) := ((HK.out.below hw4 HK.out.lt).cell 14)
   refine foA rfl rfl ?_; (try simp only [Act.put, zA, zB, zC]); (go_wp2_with fail); exact qsA rfl rfl
  refine fcA (fun w4 hw4 => fiA rfl ?_) ?_
  ·refine FreeStep.call rfl rfl rfl (by rfl) rfl rfl (by (try simp only [Act.put, zA, zB, zC]); go_simp; (try with_reducible rfl)) (moment_any w4 x.time) ?_
   rintro e w5 ⟨rfl, rfl⟩; exact ⟨_, rfl, Below.refl _ _, by rw [HE3.out]; rfl⟩
  refine fcA (fun w4 hw4 => ?_) ?_
  ·refine foA rfl rfl ?_; (try simp only [Act.put, zA, zB, zC]); (go_wp2_with fail); exact qsA rfl rfl
  refine fcA (fun w4 hw4 => fiA rfl ?_) ?_
  ·refine foA rfl rfl ?_; (try simp only [Act.put, zA, zB, zC]); (go_wp2_with fail); exact qsA rfl rfl
  refine fcA (fun w4 hw4 => fiA rfl ?_) ?_
  ·have c2 : w4.cell? ⟨bx, 2, none⟩ = some (.int .i64 x.par.seats) := ((HK.out.below hw4 HK.out.lt).cell 2)
   refine foA rfl rfl ?_; (try simp only [Act.put, zA, zB, zC]); (go_wp2_with fail); exact qsA rfl rfl
  refine fcA (fun w4 hw4 => fiA rfl ?_) ?_
  ·refine foA rfl rfl ?_; (try simp only [Act.put, zA, zB, zC]); (go_wp2_with fail); exact qsA rfl rfl
  refine fcA (fun w4 hw4 => fiA rfl ?_) ?_
  ·refine foA rfl rfl ?_; (try simp only [Act.put, zA, zB, zC]); (go_wp2_with fail); exact qsA rfl rfl
  refine fcA (fun w4 hw4 => fiA rfl ?_) ?_
  ·refine foA rfl rfl ?_; (try simp only [Act.put, zA, zB, zC]); (go_wp2_with fail); exact qsA rfl rfl
  refine fcA (fun w4 hw4 => fiA rfl (fiA rfl ?_)) ?_
  ·refine foA rfl rfl ?_; (try simp only [Act.put, zA, zB, zC]); (go_wp2_with fail); exact qsA rfl rfl
  refine fcA (fun w4 hw4 => fiA rfl (fiA rfl ?_)) ?_
  ·have c2 : w4.cell? ⟨bx, 2, none⟩ = some (.int .i64 x.par.seats) := ((HK.out.below hw4 HK.out.lt).cell 2)
   refine foA rfl rfl ?_; (try simp only [Act.put, zA, zB, zC]); (go_wp2_with fail); exact qsA rfl rfl
  refine fcA (fun w4 hw4 => fiA rfl (fiA rfl ?_)) ?_
  ·refine foA rfl rfl ?_; (try simp only [Act.put, zA, zB, zC]); (go_wp2_with fail); exact qsA rfl rfl
  refine fcA (fun w4 hw4 => fiA rfl (fiA rfl ?_)) ?_
  ·refine foA rfl rfl ?_; (try simp only [Act.put, zA, zB, zC]); (go_wp2_with fail); exact qsA rfl rfl
  refine fcA (fun w4 hw4 => fiA rfl ?_) ?_
  ·refine FreeStep.call rfl rfl rfl (by rfl) rfl rfl (by (try simp only [Act.put, zA, zB, zC]); go_simp; (try with_reducible rfl)) (field_any w4 a2) ?_
   rintro e w5 ⟨rfl, rfl⟩; exact ⟨_, rfl, Below.refl _ _, rfl⟩
  refine fcA (fun w4 hw4 => ?_) ?_
  ·refine foA rfl rfl ?_; (try simp only [Act.put, zA, zB, zC]); (go_wp2_with fail); exact qsA rfl rfl
  refine fcA (fun w4 hw4 => fiA rfl ?_) ?_
  ·refine foA rfl rfl ?_; (try simp only [Act.put, zA, zB, zC]); (go_wp2_with fail); exact qsA rfl rfl
  refine fcA (fun w4 hw4 => fiA rfl ?_) ?_
  ·have c6 : w4.cell? ⟨bx, 6, none⟩ = some (.int .i64 x.par.txs) := ((HK.out.below hw4 HK.out.lt).cell 6)
   refine foA rfl rfl ?_; (try simp only [Act.put, zA, zB, zC]); (go_wp2_with fail); exact qsA rfl rfl
  refine fcA (fun w4 hw4 => fiA rfl ?_) ?_
  ·refine foA rfl rfl ?_; (try simp only [Act.put, zA, zB, zC]); (go_wp2_with fail); exact qsA rfl rfl
  refine fcA (fun w4 hw4 => fiA rfl ?_) ?_
  ·refine foA rfl rfl ?_; (try simp only [Act.put, zA, zB, zC]); (go_wp2_with fail); exact qsA rfl rfl
  refine fcA (fun w4 hw4 => fiA rfl ?_) ?_
  ·refine foA rfl rfl ?_; (try simp only [Act.put, zA, zB, zC]); (go_wp2_with fail); exact qsA rfl rfl
  refine fcA (fun w4 hw4 => fiA rfl (fiA rfl ?_)) ?_
  ·refine foA rfl rfl ?_; (try simp only [Act.put, zA, zB, zC]); (go_wp2_with fail); exact qsA rfl rfl
  refine fcA (fun w4 hw4 => fiA rfl (fiA rfl ?_)) ?_
  ·have c6 : w4.cell? ⟨bx, 6, none⟩ = some (.int .i64 x.par.txs) := ((HK.out.below hw4 HK.out.lt).cell 6)
   refine foA rfl rfl ?_; (try simp only [Act.put, zA, zB, zC]); (go_wp2_with fail); exact qsA rfl rfl
  refine fcA (fun w4 hw4 => fiA rfl (fiA rfl ?_)) ?_
  ·refine foA rfl rfl ?_; (try simp only [Act.put, zA, zB, zC]); (go_wp2_with fail); exact qsA rfl rfl
  refine fcA (fun w4 hw4 => fiA rfl (fiA rfl ?_)) ?_
  ·refine foA rfl rfl ?_; (try simp only [Act.put, zA, zB, zC]); (go_wp2_with fail); exact qsA rfl rfl
  refine fcA (fun w4 hw4 => fiA rfl ?_) ?_
  ·refine FreeStep.call rfl rfl rfl (by rfl) rfl rfl (by (try simp only [Act.put, zA, zB, zC]); go_simp; (try with_reducible rfl)) (field_any w4 b2) ?_
   rintro e w5 ⟨rfl, rfl⟩; exact ⟨_, rfl, Below.refl _ _, rfl⟩
  exact FreeSteps.nil
 case fin =>
  intro w4 hw4
  iterate 32 refine FreeEnd.is rfl ?_
  refine FreeEnd.nil ?_
  (try simp only [Act.put, zA, zB, zC])
  simp only [List.length_cons, List.length_nil, Nat.reduceAdd, List.drop_succ_cons, List.drop_zero]
  have HB4 := Lib.hid (show Below w0.heap.size w0 w4 from ((Below.refl _ _).drew).trans hw4)
  clear hw4 h2 h5 h7 ha1 hb1
  go_wp2_with fail
  refine (all_any _ _ 5 5 [_, _, _, _, _] (rd_errs w4 _ [_, _, _, _, _] rfl) rfl (by omega)).mono ?_
  rintro e w5 ⟨rfl, hw5⟩
  have HB5 := Lib.hid (show Below w0.heap.size w0 w5 by rw [← hw5]; exact HB4.out.alloc (by have := HB4.out.size; omega) _)
  have HW5 := Lib.hid (HB0.out.trans (HB5.out.mono HB0.out.size))
  have HK5 := Lib.hid (show Bk w5 bx x.cl.toArray 62 from Bk.below (show Bk w0 bx x.cl.toArray 62 from HK.out) HB5.out HK.out.lt)
  clear hw5 HB4 HB5 HK HB0
  have HEE := Lib.hid (show firstErr [E1, field q2, E3, field a2, field b2] = headS x from HE.out)
  rw [HEE.out]
  obtain ⟨E, hE⟩ : ∃ E, headS x = E := ⟨_, rfl⟩
  have HED := Lib.hid hE
  rw [hE]
  clear HEE HE hE HE1 HE3
  by_cases hE : E = 0
  case neg =>
   have HNE := Lib.hid (show headS x ≠ 0 from fun h => hE (HED.out.symm.trans h))
   have f1 : (E != 0) = true := by simpa using hE
   have HP := Lib.hid (show plainSta x = E by unfold plainSta; rw [if_pos HNE.out]; exact HED.out)
   clear HNE HED hE
   go_wp2
   go_ret
   exact ⟨ret_i64 HP.out.symm, HW5.out⟩
  have HZ := Lib.hid (HED.out.trans hE)
  clear hE
  by_cases c1 : 64 < x.cou.n
  case pos =>
   have HA1 := Lib.hid c1
   clear c1
   have f1 : (E != 0) = false := by rw [← HED.out]; simpa using HZ.out
   clear HED
   obtain ⟨pA, hpA⟩ : ∃ A, x.pA = A := ⟨_, rfl⟩
   obtain ⟨n, hpn⟩ : ∃ n, x.pn = n := ⟨_, rfl⟩
   obtain ⟨pc, hpc⟩ : ∃ c, x.pc = c := ⟨_, rfl⟩
   obtain ⟨ps, hps⟩ : ∃ l, x.ps = l := ⟨_, rfl⟩
   have A49 := Lib.hid (show x.cl.toArray[49]? = some (.slice pA n pc) by rw [x.at_49 HX.out.last, hpA, hpn, hpc])
   have HN := Lib.hid (show n = ps.length by rw [← hpn, ← hps]; exact HX.out.pn)
   have HPN := Lib.hid hpn
   have HPS := Lib.hid hps
   have HRP := Lib.hid (show Rd w pA (ps.flatMap Pst.cl) by rw [← hpA, ← hps]; exact HAT.out.p)
   have HPC := Lib.hid (show ∀ p ∈ ps, p.ok ∧ p.cou.at w from fun p hp => ⟨HX.out.ps p (hps ▸ hp), HAT.out.pc p (hps ▸ hp)⟩)
   have HLN := Lib.hid (show ∀ p ∈ ps, p.cl.length = 3 from fun p _ => rfl)
   have c47 : w5.cell? ⟨bx, 47, none⟩ = some (.slice x.cou.A x.cou.n x.cou.c) := (HK5.out.cell 47).trans (x.at_47 HX.out.last)
   have c48 : w5.cell? ⟨bx, 48, none⟩ = some (.slice x.next.A x.next.n x.next.c) := (HK5.out.cell 48).trans (x.at_48 HX.out.last)
   have c49 : w5.cell? ⟨bx, 49, none⟩ = some (.slice pA n pc) := (HK5.out.cell 49).trans A49.out
   have c51 : w5.cell? ⟨bx, 51, none⟩ = some (.slice x.aA x.an x.ac) := (HK5.out.cell 51).trans (x.at_51 HX.out.last)
   clear hpA hpn hpc hps
   have HNB := Lib.hid (show n ≤ 1000000000000 by rw [← HPN.out]; exact HPB.out)
   have r1 : 64 < x.cou.n := HA1.out
   have s1 : (64 : Int) < (x.cou.n : Int) := by omega
   go_wp2_with fail
   clear c47 c48 c49 c51
   go_loopw [4, 75] (fun b i wr => ∃ k : Nat, k ≤ n ∧ b = .bool true ∧ i = .int .i64 (k : Int) ∧ Below w5.heap.size w5 wr) (fun _ i _ => n - (intOf i).toNat)
   case atStart => exact ⟨0, by omega, by simp [r1], rfl, Below.refl _ _⟩
   case round =>
    clear r1 s1
    obtain ⟨k, hk, rfl, rfl, h9⟩ := hrel
    have HW := Lib.hid h9
    clear h9
    by_cases hlt : k < n
    ·have hkl : k < ps.length := by rw [← HN.out]; exact hlt
     obtain ⟨ad, hA, hcell⟩ := rd_elem (by omega) HLN.out (HRP.out.below (HW5.out.trans (HW.out.mono HW5.out.size))) hkl
     obtain ⟨m, hmk⟩ : ∃ m, ps[k] = m := ⟨_, rfl⟩
     have HT := Lib.hid (show (ps.take (k + 1)).any farP = ((ps.take k).any farP || farP m) by rw [List.take_succ_eq_append_getElem hkl, hmk, List.any_append]; simp)
     rw [hmk] at hcell
     have HC := Lib.hid hcell
     subst hA
     clear hcell hmk
     have hi1 : (k : Int) < n := by omega
     have p6 : IntKind.i64.wrap ((k : Int) + 1) = (k : Int) + 1 := by rw [IntKind.wrap_i64]; have := HNB.out; omega
     go_wp2_with (first
      | (with_reducible show wpList _ _ _ (Oper.mk (some 78) (Op.load _ _) _ _ _ _ :: _) _ _; go_must (refine wpList_load_at rfl 142 _ rfl (ad.add (k * 3)) 3 rfl (Pst.cl m) HC.out _ Tryz.underlying142 rfl info_Pst (show (Pst.cl m).length = 3 from rfl) ?_))
      | (with_reducible show wpList _ _ _ (Oper.mk _ (Op.alloc _) _ _ _ _ :: _) _ _; refine wpList_alloc_i rfl 142 rfl (.agg zeroPst.toArray) zero_Pst ?_))
     intro r w6 h6 hl6 hg6 hs6
     have H6 := Lib.hid h6
     have HL6 := Lib.hid hl6
     have HG6 := Lib.hid hg6
     clear h6 hl6 hg6 hs6
     go_wp2_with (with_reducible show wpList _ _ _ (Oper.mk _ (Op.store 142 _ _) _ _ _ _ :: _) _ _; go_must (refine wpList_store_bk rfl 142 _ _ rfl r rfl (.agg (Pst.cl m).toArray) rfl _ _ H6.out (by rw [agg_sz (show (Pst.cl m).toArray.size = 3 from rfl)]; exact info_Pst) (by rw [agg_sz (show (Pst.cl m).toArray.size = 3 from rfl)]; exact zeroPst_sz.symm) (pst_one m) ?_))
     intro w7 h7 hg7 hs7
     have HL7 := Lib.hid (below_grown2 HL6.out hg7 HG6.out HL6.out.size)
     have H7 := Lib.hid (show Bk w7 r (Pst.cl m).toArray 142 from h7)
     have HW7 := Lib.hid (HW.out.trans (HL7.out.mono HW.out.size))
     have c2 : w7.cell? ⟨r, 2, none⟩ = some (.slice m.cou.A m.cou.n m.cou.c) := h7.cell 2
     clear h7 hg7 hs7 H6 HL6 HG6
     go_wp2_with fail
     go_round
     case rel => exact ⟨k + 1, by omega, rfl, by go_num, HW7.out⟩
     case measure => simp [intOf]; omega
    ·have hkn : k = n := by omega
     subst hkn
     have hi1 : ¬ (k : Int) < (k : Int) := by omega
     have HBG := Lib.hid (show plainSta x = 4 by
      have hb : bigS x = true := by
       unfold bigS
       rw [decide_eq_true (show 64 < x.cou.n from HA1.out)]
       simp
      unfold plainSta
      rw [if_neg (by simp [show headS x = 0 from HZ.out]), if_pos hb])
     go_wp2
     go_ret
     exact ⟨ret_i64 HBG.out.symm, HW5.out.trans (HW.out.mono HW5.out.size)⟩
  have HA1 := Lib.hid c1
  clear c1
  by_cases c2 : 64 < x.next.n
  case pos =>
   have HA2 := Lib.hid c2
   clear c2
   have f1 : (E != 0) = false := by rw [← HED.out]; simpa using HZ.out
   clear HED
   obtain ⟨pA, hpA⟩ : ∃ A, x.pA = A := ⟨_, rfl⟩
   obtain ⟨n, hpn⟩ : ∃ n, x.pn = n := ⟨_, rfl⟩
   obtain ⟨pc, hpc⟩ : ∃ c, x.pc = c := ⟨_, rfl⟩
   obtain ⟨ps, hps⟩ : ∃ l, x.ps = l := ⟨_, rfl⟩
   have A49 := Lib.hid (show x.cl.toArray[49]? = some (.slice pA n pc) by rw [x.at_49 HX.out.last, hpA, hpn, hpc])
   have HN := Lib.hid (show n = ps.length by rw [← hpn, ← hps]; exact HX.out.pn)
   have HPN := Lib.hid hpn
   have HPS := Lib.hid hps
   have HRP := Lib.hid (show Rd w pA (ps.flatMap Pst.cl) by rw [← hpA, ← hps]; exact HAT.out.p)
   have HPC := Lib.hid (show ∀ p ∈ ps, p.ok ∧ p.cou.at w from fun p hp => ⟨HX.out.ps p (hps ▸ hp), HAT.out.pc p (hps ▸ hp)⟩)
   have HLN := Lib.hid (show ∀ p ∈ ps, p.cl.length = 3 from fun p _ => rfl)
   have c47 : w5.cell? ⟨bx, 47, none⟩ = some (.slice x.cou.A x.cou.n x.cou.c) := (HK5.out.cell 47).trans (x.at_47 HX.out.last)
   have c48 : w5.cell? ⟨bx, 48, none⟩ = some (.slice x.next.A x.next.n x.next.c) := (HK5.out.cell 48).trans (x.at_48 HX.out.last)
   have c49 : w5.cell? ⟨bx, 49, none⟩ = some (.slice pA n pc) := (HK5.out.cell 49).trans A49.out
   have c51 : w5.cell? ⟨bx, 51, none⟩ = some (.slice x.aA x.an x.ac) := (HK5.out.cell 51).trans (x.at_51 HX.out.last)
   clear hpA hpn hpc hps
   have HNB := Lib.hid (show n ≤ 1000000000000 by rw [← HPN.out]; exact HPB.out)
   have r1 : ¬ 64 < x.cou.n := HA1.out
   have s1 : ¬ (64 : Int) < (x.cou.n : Int) := by omega
   have r2 : 64 < x.next.n := HA2.out
   have s2 : (64 : Int) < (x.next.n : Int) := by omega
   go_wp2_with fail
   clear c47 c48 c49 c51
   go_loopw [4, 75] (fun b i wr => ∃ k : Nat, k ≤ n ∧ b = .bool true ∧ i = .int .i64 (k : Int) ∧ Below w5.heap.size w5 wr) (fun _ i _ => n - (intOf i).toNat)
   case atStart => exact ⟨0, by omega, by simp [r1, r2], rfl, Below.refl _ _⟩
   case round =>
    clear r1 s1 r2 s2
    obtain ⟨k, hk, rfl, rfl, h9⟩ := hrel
    have HW := Lib.hid h9
    clear h9
    by_cases hlt : k < n
    ·have hkl : k < ps.length := by rw [← HN.out]; exact hlt
     obtain ⟨ad, hA, hcell⟩ := rd_elem (by omega) HLN.out (HRP.out.below (HW5.out.trans (HW.out.mono HW5.out.size))) hkl
     obtain ⟨m, hmk⟩ : ∃ m, ps[k] = m := ⟨_, rfl⟩
     have HT := Lib.hid (show (ps.take (k + 1)).any farP = ((ps.take k).any farP || farP m) by rw [List.take_succ_eq_append_getElem hkl, hmk, List.any_append]; simp)
     rw [hmk] at hcell
     have HC := Lib.hid hcell
     subst hA
     clear hcell hmk
     have hi1 : (k : Int) < n := by omega
     have p6 : IntKind.i64.wrap ((k : Int) + 1) = (k : Int) + 1 := by rw [IntKind.wrap_i64]; have := HNB.out; omega
     go_wp2_with (first
      | (with_reducible show wpList _ _ _ (Oper.mk (some 78) (Op.load _ _) _ _ _ _ :: _) _ _; go_must (refine wpList_load_at rfl 142 _ rfl (ad.add (k * 3)) 3 rfl (Pst.cl m) HC.out _ Tryz.underlying142 rfl info_Pst (show (Pst.cl m).length = 3 from rfl) ?_))
      | (with_reducible show wpList _ _ _ (Oper.mk _ (Op.alloc _) _ _ _ _ :: _) _ _; refine wpList_alloc_i rfl 142 rfl (.agg zeroPst.toArray) zero_Pst ?_))
     intro r w6 h6 hl6 hg6 hs6
     have H6 := Lib.hid h6
     have HL6 := Lib.hid hl6
     have HG6 := Lib.hid hg6
     clear h6 hl6 hg6 hs6
     go_wp2_with (with_reducible show wpList _ _ _ (Oper.mk _ (Op.store 142 _ _) _ _ _ _ :: _) _ _; go_must (refine wpList_store_bk rfl 142 _ _ rfl r rfl (.agg (Pst.cl m).toArray) rfl _ _ H6.out (by rw [agg_sz (show (Pst.cl m).toArray.size = 3 from rfl)]; exact info_Pst) (by rw [agg_sz (show (Pst.cl m).toArray.size = 3 from rfl)]; exact zeroPst_sz.symm) (pst_one m) ?_))
     intro w7 h7 hg7 hs7
     have HL7 := Lib.hid (below_grown2 HL6.out hg7 HG6.out HL6.out.size)
     have H7 := Lib.hid (show Bk w7 r (Pst.cl m).toArray 142 from h7)
     have HW7 := Lib.hid (HW.out.trans (HL7.out.mono HW.out.size))
     have c2 : w7.cell? ⟨r, 2, none⟩ = some (.slice m.cou.A m.cou.n m.cou.c) := h7.cell 2
     clear h7 hg7 hs7 H6 HL6 HG6
     go_wp2_with fail
     go_round
     case rel => exact ⟨k + 1, by omega, rfl, by go_num, HW7.out⟩
     case measure => simp [intOf]; omega
    ·have hkn : k = n := by omega
     subst hkn
     have hi1 : ¬ (k : Int) < (k : Int) := by omega
     have HBG := Lib.hid (show plainSta x = 4 by
      have hb : bigS x = true := by
       unfold bigS
       rw [decide_eq_true (show 64 < x.next.n from HA2.out)]
       simp
      unfold plainSta
      rw [if_neg (by simp [show headS x = 0 from HZ.out]), if_pos hb])
     go_wp2
     go_ret
     exact ⟨ret_i64 HBG.out.symm, HW5.out.trans (HW.out.mono HW5.out.size)⟩
  have HA2 := Lib.hid c2
  clear c2
  by_cases c3 : 256 < x.pn
  case pos =>
   have HA3 := Lib.hid c3
   clear c3
   have f1 : (E != 0) = false := by rw [← HED.out]; simpa using HZ.out
   clear HED
   obtain ⟨pA, hpA⟩ : ∃ A, x.pA = A := ⟨_, rfl⟩
   obtain ⟨n, hpn⟩ : ∃ n, x.pn = n := ⟨_, rfl⟩
   obtain ⟨pc, hpc⟩ : ∃ c, x.pc = c := ⟨_, rfl⟩
   obtain ⟨ps, hps⟩ : ∃ l, x.ps = l := ⟨_, rfl⟩
   have A49 := Lib.hid (show x.cl.toArray[49]? = some (.slice pA n pc) by rw [x.at_49 HX.out.last, hpA, hpn, hpc])
   have HN := Lib.hid (show n = ps.length by rw [← hpn, ← hps]; exact HX.out.pn)
   have HPN := Lib.hid hpn
   have HPS := Lib.hid hps
   have HRP := Lib.hid (show Rd w pA (ps.flatMap Pst.cl) by rw [← hpA, ← hps]; exact HAT.out.p)
   have HPC := Lib.hid (show ∀ p ∈ ps, p.ok ∧ p.cou.at w from fun p hp => ⟨HX.out.ps p (hps ▸ hp), HAT.out.pc p (hps ▸ hp)⟩)
   have HLN := Lib.hid (show ∀ p ∈ ps, p.cl.length = 3 from fun p _ => rfl)
   have c47 : w5.cell? ⟨bx, 47, none⟩ = some (.slice x.cou.A x.cou.n x.cou.c) := (HK5.out.cell 47).trans (x.at_47 HX.out.last)
   have c48 : w5.cell? ⟨bx, 48, none⟩ = some (.slice x.next.A x.next.n x.next.c) := (HK5.out.cell 48).trans (x.at_48 HX.out.last)
   have c49 : w5.cell? ⟨bx, 49, none⟩ = some (.slice pA n pc) := (HK5.out.cell 49).trans A49.out
   have c51 : w5.cell? ⟨bx, 51, none⟩ = some (.slice x.aA x.an x.ac) := (HK5.out.cell 51).trans (x.at_51 HX.out.last)
   clear hpA hpn hpc hps
   have HNB := Lib.hid (show n ≤ 1000000000000 by rw [← HPN.out]; exact HPB.out)
   have r1 : ¬ 64 < x.cou.n := HA1.out
   have s1 : ¬ (64 : Int) < (x.cou.n : Int) := by omega
   have r2 : ¬ 64 < x.next.n := HA2.out
   have s2 : ¬ (64 : Int) < (x.next.n : Int) := by omega
   have r3 : 256 < n := HPN.out ▸ HA3.out
   have s3 : (256 : Int) < (n : Int) := by omega
   go_wp2_with fail
   clear c47 c48 c49 c51
   go_loopw [4, 75] (fun b i wr => ∃ k : Nat, k ≤ n ∧ b = .bool true ∧ i = .int .i64 (k : Int) ∧ Below w5.heap.size w5 wr) (fun _ i _ => n - (intOf i).toNat)
   case atStart => exact ⟨0, by omega, by simp [r1, r2, r3], rfl, Below.refl _ _⟩
   case round =>
    clear r1 s1 r2 s2 r3 s3
    obtain ⟨k, hk, rfl, rfl, h9⟩ := hrel
    have HW := Lib.hid h9
    clear h9
    by_cases hlt : k < n
    ·have hkl : k < ps.length := by rw [← HN.out]; exact hlt
     obtain ⟨ad, hA, hcell⟩ := rd_elem (by omega) HLN.out (HRP.out.below (HW5.out.trans (HW.out.mono HW5.out.size))) hkl
     obtain ⟨m, hmk⟩ : ∃ m, ps[k] = m := ⟨_, rfl⟩
     have HT := Lib.hid (show (ps.take (k + 1)).any farP = ((ps.take k).any farP || farP m) by rw [List.take_succ_eq_append_getElem hkl, hmk, List.any_append]; simp)
     rw [hmk] at hcell
     have HC := Lib.hid hcell
     subst hA
     clear hcell hmk
     have hi1 : (k : Int) < n := by omega
     have p6 : IntKind.i64.wrap ((k : Int) + 1) = (k : Int) + 1 := by rw [IntKind.wrap_i64]; have := HNB.out; omega
     go_wp2_with (first
      | (with_reducible show wpList _ _ _ (Oper.mk (some 78) (Op.load _ _) _ _ _ _ :: _) _ _; go_must (refine wpList_load_at rfl 142 _ rfl (ad.add (k * 3)) 3 rfl (Pst.cl m) HC.out _ Tryz.underlying142 rfl info_Pst (show (Pst.cl m).length = 3 from rfl) ?_))
      | (with_reducible show wpList _ _ _ (Oper.mk _ (Op.alloc _) _ _ _ _ :: _) _ _; refine wpList_alloc_i rfl 142 rfl (.agg zeroPst.toArray) zero_Pst ?_))
     intro r w6 h6 hl6 hg6 hs6
     have H6 := Lib.hid h6
     have HL6 := Lib.hid hl6
     have HG6 := Lib.hid hg6
     clear h6 hl6 hg6 hs6
     go_wp2_with (with_reducible show wpList _ _ _ (Oper.mk _ (Op.store 142 _ _) _ _ _ _ :: _) _ _; go_must (refine wpList_store_bk rfl 142 _ _ rfl r rfl (.agg (Pst.cl m).toArray) rfl _ _ H6.out (by rw [agg_sz (show (Pst.cl m).toArray.size = 3 from rfl)]; exact info_Pst) (by rw [agg_sz (show (Pst.cl m).toArray.size = 3 from rfl)]; exact zeroPst_sz.symm) (pst_one m) ?_))
     intro w7 h7 hg7 hs7
     have HL7 := Lib.hid (below_grown2 HL6.out hg7 HG6.out HL6.out.size)
     have H7 := Lib.hid (show Bk w7 r (Pst.cl m).toArray 142 from h7)
     have HW7 := Lib.hid (HW.out.trans (HL7.out.mono HW.out.size))
     have c2 : w7.cell? ⟨r, 2, none⟩ = some (.slice m.cou.A m.cou.n m.cou.c) := h7.cell 2
     clear h7 hg7 hs7 H6 HL6 HG6
     go_wp2_with fail
     go_round
     case rel => exact ⟨k + 1, by omega, rfl, by go_num, HW7.out⟩
     case measure => simp [intOf]; omega
    ·have hkn : k = n := by omega
     subst hkn
     have hi1 : ¬ (k : Int) < (k : Int) := by omega
     have HBG := Lib.hid (show plainSta x = 4 by
      have hb : bigS x = true := by
       unfold bigS
       rw [decide_eq_true (show 256 < x.pn from HA3.out)]
       simp
      unfold plainSta
      rw [if_neg (by simp [show headS x = 0 from HZ.out]), if_pos hb])
     go_wp2
     go_ret
     exact ⟨ret_i64 HBG.out.symm, HW5.out.trans (HW.out.mono HW5.out.size)⟩
  have HA3 := Lib.hid c3
  clear c3
  by_cases c4 : 65536 < x.an
  case pos =>
   have HA4 := Lib.hid c4
   clear c4
   have f1 : (E != 0) = false := by rw [← HED.out]; simpa using HZ.out
   clear HED
   obtain ⟨pA, hpA⟩ : ∃ A, x.pA = A := ⟨_, rfl⟩
   obtain ⟨n, hpn⟩ : ∃ n, x.pn = n := ⟨_, rfl⟩
   obtain ⟨pc, hpc⟩ : ∃ c, x.pc = c := ⟨_, rfl⟩
   obtain ⟨ps, hps⟩ : ∃ l, x.ps = l := ⟨_, rfl⟩
   have A49 := Lib.hid (show x.cl.toArray[49]? = some (.slice pA n pc) by rw [x.at_49 HX.out.last, hpA, hpn, hpc])
   have HN := Lib.hid (show n = ps.length by rw [← hpn, ← hps]; exact HX.out.pn)
   have HPN := Lib.hid hpn
   have HPS := Lib.hid hps
   have HRP := Lib.hid (show Rd w pA (ps.flatMap Pst.cl) by rw [← hpA, ← hps]; exact HAT.out.p)
   have HPC := Lib.hid (show ∀ p ∈ ps, p.ok ∧ p.cou.at w from fun p hp => ⟨HX.out.ps p (hps ▸ hp), HAT.out.pc p (hps ▸ hp)⟩)
   have HLN := Lib.hid (show ∀ p ∈ ps, p.cl.length = 3 from fun p _ => rfl)
   have c47 : w5.cell? ⟨bx, 47, none⟩ = some (.slice x.cou.A x.cou.n x.cou.c) := (HK5.out.cell 47).trans (x.at_47 HX.out.last)
   have c48 : w5.cell? ⟨bx, 48, none⟩ = some (.slice x.next.A x.next.n x.next.c) := (HK5.out.cell 48).trans (x.at_48 HX.out.last)
   have c49 : w5.cell? ⟨bx, 49, none⟩ = some (.slice pA n pc) := (HK5.out.cell 49).trans A49.out
   have c51 : w5.cell? ⟨bx, 51, none⟩ = some (.slice x.aA x.an x.ac) := (HK5.out.cell 51).trans (x.at_51 HX.out.last)
   clear hpA hpn hpc hps
   have HNB := Lib.hid (show n ≤ 1000000000000 by rw [← HPN.out]; exact HPB.out)
   have r1 : ¬ 64 < x.cou.n := HA1.out
   have s1 : ¬ (64 : Int) < (x.cou.n : Int) := by omega
   have r2 : ¬ 64 < x.next.n := HA2.out
   have s2 : ¬ (64 : Int) < (x.next.n : Int) := by omega
   have r3 : ¬ 256 < n := HPN.out ▸ HA3.out
   have s3 : ¬ (256 : Int) < (n : Int) := by omega
   have r4 : 65536 < x.an := HA4.out
   have s4 : (65536 : Int) < (x.an : Int) := by omega
   go_wp2_with fail
   clear c47 c48 c49 c51
   go_loopw [4, 75] (fun b i wr => ∃ k : Nat, k ≤ n ∧ b = .bool true ∧ i = .int .i64 (k : Int) ∧ Below w5.heap.size w5 wr) (fun _ i _ => n - (intOf i).toNat)
   case atStart => exact ⟨0, by omega, by simp [r1, r2, r3, r4], rfl, Below.refl _ _⟩
   case round =>
    clear r1 s1 r2 s2 r3 s3 r4 s4
    obtain ⟨k, hk, rfl, rfl, h9⟩ := hrel
    have HW := Lib.hid h9
    clear h9
    by_cases hlt : k < n
    ·have hkl : k < ps.length := by rw [← HN.out]; exact hlt
     obtain ⟨ad, hA, hcell⟩ := rd_elem (by omega) HLN.out (HRP.out.below (HW5.out.trans (HW.out.mono HW5.out.size))) hkl
     obtain ⟨m, hmk⟩ : ∃ m, ps[k] = m := ⟨_, rfl⟩
     have HT := Lib.hid (show (ps.take (k + 1)).any farP = ((ps.take k).any farP || farP m) by rw [List.take_succ_eq_append_getElem hkl, hmk, List.any_append]; simp)
     rw [hmk] at hcell
     have HC := Lib.hid hcell
     subst hA
     clear hcell hmk
     have hi1 : (k : Int) < n := by omega
     have p6 : IntKind.i64.wrap ((k : Int) + 1) = (k : Int) + 1 := by rw [IntKind.wrap_i64]; have := HNB.out; omega
     go_wp2_with (first
      | (with_reducible show wpList _ _ _ (Oper.mk (some 78) (Op.load _ _) _ _ _ _ :: _) _ _; go_must (refine wpList_load_at rfl 142 _ rfl (ad.add (k * 3)) 3 rfl (Pst.cl m) HC.out _ Tryz.underlying142 rfl info_Pst (show (Pst.cl m).length = 3 from rfl) ?_))
      | (with_reducible show wpList _ _ _ (Oper.mk _ (Op.alloc _) _ _ _ _ :: _) _ _; refine wpList_alloc_i rfl 142 rfl (.agg zeroPst.toArray) zero_Pst ?_))
     intro r w6 h6 hl6 hg6 hs6
     have H6 := Lib.hid h6
     have HL6 := Lib.hid hl6
     have HG6 := Lib.hid hg6
     clear h6 hl6 hg6 hs6
     go_wp2_with (with_reducible show wpList _ _ _ (Oper.mk _ (Op.store 142 _ _) _ _ _ _ :: _) _ _; go_must (refine wpList_store_bk rfl 142 _ _ rfl r rfl (.agg (Pst.cl m).toArray) rfl _ _ H6.out (by rw [agg_sz (show (Pst.cl m).toArray.size = 3 from rfl)]; exact info_Pst) (by rw [agg_sz (show (Pst.cl m).toArray.size = 3 from rfl)]; exact zeroPst_sz.symm) (pst_one m) ?_))
     intro w7 h7 hg7 hs7
     have HL7 := Lib.hid (below_grown2 HL6.out hg7 HG6.out HL6.out.size)
     have H7 := Lib.hid (show Bk w7 r (Pst.cl m).toArray 142 from h7)
     have HW7 := Lib.hid (HW.out.trans (HL7.out.mono HW.out.size))
     have c2 : w7.cell? ⟨r, 2, none⟩ = some (.slice m.cou.A m.cou.n m.cou.c) := h7.cell 2
     clear h7 hg7 hs7 H6 HL6 HG6
     go_wp2_with fail
     go_round
     case rel => exact ⟨k + 1, by omega, rfl, by go_num, HW7.out⟩
     case measure => simp [intOf]; omega
    ·have hkn : k = n := by omega
     subst hkn
     have hi1 : ¬ (k : Int) < (k : Int) := by omega
     have HBG := Lib.hid (show plainSta x = 4 by
      have hb : bigS x = true := by
       unfold bigS
       rw [decide_eq_true (show 65536 < x.an from HA4.out)]
       simp
      unfold plainSta
      rw [if_neg (by simp [show headS x = 0 from HZ.out]), if_pos hb])
     go_wp2
     go_ret
     exact ⟨ret_i64 HBG.out.symm, HW5.out.trans (HW.out.mono HW5.out.size)⟩
  have HA4 := Lib.hid c4
  clear c4
  have f1 : (E != 0) = false := by rw [← HED.out]; simpa using HZ.out
  clear HED
  obtain ⟨pA, hpA⟩ : ∃ A, x.pA = A := ⟨_, rfl⟩
  obtain ⟨n, hpn⟩ : ∃ n, x.pn = n := ⟨_, rfl⟩
  obtain ⟨pc, hpc⟩ : ∃ c, x.pc = c := ⟨_, rfl⟩
  obtain ⟨ps, hps⟩ : ∃ l, x.ps = l := ⟨_, rfl⟩
  have A49 := Lib.hid (show x.cl.toArray[49]? = some (.slice pA n pc) by rw [x.at_49 HX.out.last, hpA, hpn, hpc])
  have HN := Lib.hid (show n = ps.length by rw [← hpn, ← hps]; exact HX.out.pn)
  have HPN := Lib.hid hpn
  have HPS := Lib.hid hps
  have HRP := Lib.hid (show Rd w pA (ps.flatMap Pst.cl) by rw [← hpA, ← hps]; exact HAT.out.p)
  have HPC := Lib.hid (show ∀ p ∈ ps, p.ok ∧ p.cou.at w from fun p hp => ⟨HX.out.ps p (hps ▸ hp), HAT.out.pc p (hps ▸ hp)⟩)
  have HLN := Lib.hid (show ∀ p ∈ ps, p.cl.length = 3 from fun p _ => rfl)
  have c47 : w5.cell? ⟨bx, 47, none⟩ = some (.slice x.cou.A x.cou.n x.cou.c) := (HK5.out.cell 47).trans (x.at_47 HX.out.last)
  have c48 : w5.cell? ⟨bx, 48, none⟩ = some (.slice x.next.A x.next.n x.next.c) := (HK5.out.cell 48).trans (x.at_48 HX.out.last)
  have c49 : w5.cell? ⟨bx, 49, none⟩ = some (.slice pA n pc) := (HK5.out.cell 49).trans A49.out
  have c51 : w5.cell? ⟨bx, 51, none⟩ = some (.slice x.aA x.an x.ac) := (HK5.out.cell 51).trans (x.at_51 HX.out.last)
  clear hpA hpn hpc hps
  have HNB := Lib.hid (show n ≤ 1000000000000 by rw [← HPN.out]; exact HPB.out)
  have r1 : ¬ 64 < x.cou.n := HA1.out
  have s1 : ¬ (64 : Int) < (x.cou.n : Int) := by omega
  have r2 : ¬ 64 < x.next.n := HA2.out
  have s2 : ¬ (64 : Int) < (x.next.n : Int) := by omega
  have r3 : ¬ 256 < n := HPN.out ▸ HA3.out
  have s3 : ¬ (256 : Int) < (n : Int) := by omega
  have r4 : ¬ 65536 < x.an := HA4.out
  have s4 : ¬ (65536 : Int) < (x.an : Int) := by omega
  go_wp2_with fail
  clear c47 c48 c49 c51
  go_loopw [4, 75] (fun b i wr => ∃ k : Nat, k ≤ n ∧ b = .bool ((ps.take k).any farP) ∧ i = .int .i64 (k : Int) ∧ Below w5.heap.size w5 wr) (fun _ i _ => n - (intOf i).toNat)
  case atStart => exact ⟨0, by omega, by simp [r1, r2, r3, r4]; omega, rfl, Below.refl _ _⟩
  case round =>
   clear r1 s1 r2 s2 r3 s3 r4 s4
   obtain ⟨k, hk, rfl, rfl, h9⟩ := hrel
   have HW := Lib.hid h9
   clear h9
   by_cases hlt : k < n
   ·have hkl : k < ps.length := by rw [← HN.out]; exact hlt
    obtain ⟨ad, hA, hcell⟩ := rd_elem (by omega) HLN.out (HRP.out.below (HW5.out.trans (HW.out.mono HW5.out.size))) hkl
    obtain ⟨m, hmk⟩ : ∃ m, ps[k] = m := ⟨_, rfl⟩
    have HT := Lib.hid (show (ps.take (k + 1)).any farP = ((ps.take k).any farP || farP m) by rw [List.take_succ_eq_append_getElem hkl, hmk, List.any_append]; simp)
    rw [hmk] at hcell
    have HC := Lib.hid hcell
    subst hA
    clear hcell hmk
    have hi1 : (k : Int) < n := by omega
    have p6 : IntKind.i64.wrap ((k : Int) + 1) = (k : Int) + 1 := by rw [IntKind.wrap_i64]; have := HNB.out; omega
    obtain ⟨q, hq⟩ : ∃ q, (ps.take k).any farP = q := ⟨_, rfl⟩
    have HQ := Lib.hid hq
    rw [hq]
    clear hq
    go_wp2_with (first
     | (with_reducible show wpList _ _ _ (Oper.mk (some 78) (Op.load _ _) _ _ _ _ :: _) _ _; go_must (refine wpList_load_at rfl 142 _ rfl (ad.add (k * 3)) 3 rfl (Pst.cl m) HC.out _ Tryz.underlying142 rfl info_Pst (show (Pst.cl m).length = 3 from rfl) ?_))
     | (with_reducible show wpList _ _ _ (Oper.mk _ (Op.alloc _) _ _ _ _ :: _) _ _; refine wpList_alloc_i rfl 142 rfl (.agg zeroPst.toArray) zero_Pst ?_))
    intro r w6 h6 hl6 hg6 hs6
    have H6 := Lib.hid h6
    have HL6 := Lib.hid hl6
    have HG6 := Lib.hid hg6
    clear h6 hl6 hg6 hs6
    go_wp2_with (with_reducible show wpList _ _ _ (Oper.mk _ (Op.store 142 _ _) _ _ _ _ :: _) _ _; go_must (refine wpList_store_bk rfl 142 _ _ rfl r rfl (.agg (Pst.cl m).toArray) rfl _ _ H6.out (by rw [agg_sz (show (Pst.cl m).toArray.size = 3 from rfl)]; exact info_Pst) (by rw [agg_sz (show (Pst.cl m).toArray.size = 3 from rfl)]; exact zeroPst_sz.symm) (pst_one m) ?_))
    intro w7 h7 hg7 hs7
    have HL7 := Lib.hid (below_grown2 HL6.out hg7 HG6.out HL6.out.size)
    have H7 := Lib.hid (show Bk w7 r (Pst.cl m).toArray 142 from h7)
    have HW7 := Lib.hid (HW.out.trans (HL7.out.mono HW.out.size))
    have c2 : w7.cell? ⟨r, 2, none⟩ = some (.slice m.cou.A m.cou.n m.cou.c) := h7.cell 2
    clear h7 hg7 hs7 H6 HL6 HG6
    cases q with
    | true =>
     go_wp2_with fail
     go_round
     case rel => exact ⟨k + 1, by omega, by rw [HT.out, HQ.out]; rfl, by go_num, HW7.out⟩
     case measure => simp [intOf]; omega
    | false =>
     go_wp2_with fail
     go_round
     case rel => exact ⟨k + 1, by omega, by rw [HT.out, HQ.out]; unfold farP; simp; omega, by go_num, HW7.out⟩
     case measure => simp [intOf]; omega
   ·have hkn : k = n := by omega
    subst hkn
    have hi1 : ¬ (k : Int) < (k : Int) := by omega
    have HTA := Lib.hid (show ps.take k = ps from List.take_of_length_le (by rw [HN.out]; exact Nat.le_refl _))
    obtain ⟨q, hq⟩ : ∃ q, (ps.take k).any farP = q := ⟨_, rfl⟩
    have HQ := Lib.hid (show bigS x = q by
     rw [← hq, HTA.out]
     unfold bigS
     rw [decide_eq_false HA1.out, decide_eq_false HA2.out, decide_eq_false HA3.out, decide_eq_false HA4.out, show (x.ps.any fun p => decide (64 < p.cou.n)) = ps.any farP by rw [HPS.out]; rfl]
     rfl)
    rw [hq]
    clear hq
    cases q with
    | true =>
     have HBG := Lib.hid (show plainSta x = 4 by
      unfold plainSta
      rw [if_neg (by simp [show headS x = 0 from HZ.out]), if_pos HQ.out])
     go_wp2
     go_ret
     exact ⟨ret_i64 HBG.out.symm, HW5.out.trans (HW.out.mono HW5.out.size)⟩
    | false =>
     obtain ⟨⟨⟨⟨hA1, hA2⟩, hA3⟩, hA4⟩, hA5⟩ : (((¬ 64 < x.cou.n ∧ ¬ 64 < x.next.n) ∧ ¬ 256 < x.pn) ∧ ¬ 65536 < x.an) ∧ ∀ p ∈ x.ps, ¬ 64 < p.cou.n := by
      have h := HQ.out
      unfold bigS at h
      simpa only [Bool.or_eq_false_iff, decide_eq_false_iff_not, List.any_eq_false, decide_eq_true_eq] using h
     have HFAR := Lib.hid (show ∀ p ∈ ps, p.cou.n ≤ 64 from fun p hp => by have := hA5 p (HPS.out ▸ hp); omega)
     have HPL := Lib.hid (show plainSta x = firstErr (risS x) by
      unfold plainSta
      rw [if_neg (by simp [show headS x = 0 from HZ.out]), if_neg (by rw [HQ.out]; simp)])
     clear hA1 hA2 hA3 hA4 hA5
     have HWA := Lib.hid (HW5.out.trans (HW.out.mono HW5.out.size))
     have HKR := Lib.hid (show Bk wr.drew bx x.cl.toArray 62 from (HK5.out.below HW.out HK5.out.lt).drew)
     have HATR := Lib.hid (show x.at wr.drew from HAT.out.below HWA.out.drew)
     obtain ⟨R1, hr1⟩ : ∃ r, risingE memKey x.cou.ms = r := ⟨_, rfl⟩
     obtain ⟨R2, hr2⟩ : ∃ r, risingE memKey x.next.ms = r := ⟨_, rfl⟩
     have HR1 := Lib.hid hr1
     have HR2 := Lib.hid hr2
     clear HW HK5 HW5 hr1 hr2 hi1 hlt hk
     go_wp2_with fail
     refine wp_region_free [(89, []), (90, [(0, 89)]), (91, [(1, 90)]), (92, [(2, 91)]), (93, []), (94, [(4, 93)]), (95, [(5, 94)]), (96, [(6, 95)])]
      [Is (.pointer (some ⟨bx, 47, none⟩)), Is (.pointer (some ⟨bx, 47, none⟩)), Is (.slice x.cou.A x.cou.n x.cou.c), Is (.int .i64 R1), Is (.pointer (some ⟨bx, 48, none⟩)), Is (.pointer (some ⟨bx, 48, none⟩)), Is (.slice x.next.A x.next.n x.next.c), Is (.int .i64 R2)]
      (by kernel_rfl) (by kernel_rfl) (by rfl) ?st ?steps ?fin
     case st => exact ⟨Is.steady _, Is.steady _, Is.steady _, Is.steady _, Is.steady _, Is.steady _, Is.steady _, Is.steady _, trivial⟩
     case steps =>
      refine fcA (fun w4 hw4 => ?_) ?_
      ·refine foA rfl rfl ?_; (try simp only [Act.put, zA, zB, zC]); (go_wp2_with fail); exact qsA rfl rfl
      refine fcA (fun w4 hw4 => fiA rfl ?_) ?_
      ·refine foA rfl rfl ?_; (try simp only [Act.put, zA, zB, zC]); (go_wp2_with fail); exact qsA rfl rfl
      refine fcA (fun w4 hw4 => fiA rfl ?_) ?_
      ·have c : w4.cell? ⟨bx, 47, none⟩ = some (.slice x.cou.A x.cou.n x.cou.c) := ((HKR.out.below hw4 HKR.out.lt).cell 47).trans (x.at_47 HX.out.last)
       refine foA rfl rfl ?_; (try simp only [Act.put, zA, zB, zC]); (go_wp2_with fail); exact qsA rfl rfl
      refine fcA (fun w4 hw4 => fiA rfl ?_) ?_
      ·refine FreeStep.call rfl rfl rfl (by rfl) rfl rfl (by (try simp only [Act.put, zA, zB, zC]); go_simp; (try with_reducible rfl)) (risingMem_any w4 x.cou.A x.cou.n x.cou.c x.cou.ms HX.out.cou.n (by have := HA1.out; omega) (HATR.out.below hw4).cou) ?_
       rintro e w5 ⟨rfl, hb5⟩; exact ⟨_, rfl, hb5, by rw [HR1.out]; rfl⟩
      refine fcA (fun w4 hw4 => ?_) ?_
      ·refine foA rfl rfl ?_; (try simp only [Act.put, zA, zB, zC]); (go_wp2_with fail); exact qsA rfl rfl
      refine fcA (fun w4 hw4 => fiA rfl ?_) ?_
      ·refine foA rfl rfl ?_; (try simp only [Act.put, zA, zB, zC]); (go_wp2_with fail); exact qsA rfl rfl
      refine fcA (fun w4 hw4 => fiA rfl ?_) ?_
      ·have c : w4.cell? ⟨bx, 48, none⟩ = some (.slice x.next.A x.next.n x.next.c) := ((HKR.out.below hw4 HKR.out.lt).cell 48).trans (x.at_48 HX.out.last)
       refine foA rfl rfl ?_; (try simp only [Act.put, zA, zB, zC]); (go_wp2_with fail); exact qsA rfl rfl
      refine fcA (fun w4 hw4 => fiA rfl ?_) ?_
      ·refine FreeStep.call rfl rfl rfl (by rfl) rfl rfl (by (try simp only [Act.put, zA, zB, zC]); go_simp; (try with_reducible rfl)) (risingMem_any w4 x.next.A x.next.n x.next.c x.next.ms HX.out.next.n (by have := HA2.out; omega) (HATR.out.below hw4).next) ?_
       rintro e w5 ⟨rfl, hb5⟩; exact ⟨_, rfl, hb5, by rw [HR2.out]; rfl⟩
      exact FreeSteps.nil
     case fin =>
      intro w4 hw4
      iterate 8 refine FreeEnd.is rfl ?_
      refine FreeEnd.nil ?_
      (try simp only [Act.put, zA, zB, zC])
      simp only [List.length_cons, List.length_nil, Nat.reduceAdd, List.drop_succ_cons, List.drop_zero]
      have HB4 := Lib.hid (show Below wr.heap.size wr w4 from ((Below.refl _ _).drew).trans hw4)
      clear hw4
      go_wp2_with fail
      refine (all_any _ _ 2 2 [_, _] (rd_errs w4 _ [_, _] rfl) rfl (by omega)).mono ?_
      rintro e w8 ⟨rfl, hw8⟩
      have HB8 := Lib.hid (show Below wr.heap.size wr w8 by rw [← hw8]; exact HB4.out.alloc (by have := HB4.out.size; omega) _)
      have HW8 := Lib.hid (HWA.out.trans (HB8.out.mono HWA.out.size))
      have HK8 := Lib.hid (show Bk w8 bx x.cl.toArray 62 from Bk.below (show Bk wr bx x.cl.toArray 62 from HKR.out) HB8.out HKR.out.lt)
      have c49 : w8.cell? ⟨bx, 49, none⟩ = some (.slice pA k pc) := (HK8.out.cell 49).trans A49.out
      clear hw8 HB4 HB8 HKR HATR HWA
      go_wp2_with fail
      clear c49
      go_loopw [7, 102] (fun b i wr => ∃ j : Nat, j ≤ k ∧ b = .int .i64 (firstErr ([R1, R2] ++ (ps.take j).map risP)) ∧ i = .int .i64 (j : Int) ∧ Below w8.heap.size w8 wr) (fun _ i _ => k - (intOf i).toNat)
      case atStart => exact ⟨0, by omega, rfl, rfl, Below.refl _ _⟩
      case round =>
       obtain ⟨j, hk, rfl, rfl, h9⟩ := hrel
       have HW := Lib.hid h9
       clear h9
       by_cases hlt : j < k
       ·have hkl : j < ps.length := by rw [← HN.out]; exact hlt
        obtain ⟨ad, hA, hcell⟩ := rd_elem (by omega) HLN.out (HRP.out.below (HW8.out.trans (HW.out.mono HW8.out.size))) hkl
        obtain ⟨m, hmk⟩ : ∃ m, ps[j] = m := ⟨_, rfl⟩
        have HMM := Lib.hid (show m ∈ ps by rw [← hmk]; exact List.getElem_mem hkl)
        obtain ⟨R3, hr3⟩ : ∃ r, risP m = r := ⟨_, rfl⟩
        have HR3 := Lib.hid (show risingE memKey m.cou.ms = R3 from hr3)
        have HT := Lib.hid (show firstErr ([R1, R2] ++ (ps.take (j + 1)).map risP) = firstErr [firstErr ([R1, R2] ++ (ps.take j).map risP), R3] by
         rw [firstErr_app, List.take_succ_eq_append_getElem hkl, hmk, List.map_append, List.map_singleton, hr3, List.append_assoc])
        rw [hmk] at hcell
        have HC := Lib.hid hcell
        subst hA
        clear hcell hmk hr3
        have hi1 : (j : Int) < k := by omega
        have p6 : IntKind.i64.wrap ((j : Int) + 1) = (j : Int) + 1 := by rw [IntKind.wrap_i64]; have := HNB.out; omega
        obtain ⟨ACC, hq⟩ : ∃ q, firstErr ([R1, R2] ++ (ps.take j).map risP) = q := ⟨_, rfl⟩
        have HQ2 := Lib.hid hq
        rw [hq]
        clear hq
        go_wp2_with (first
         | (with_reducible show wpList _ _ _ (Oper.mk (some 105) (Op.load _ _) _ _ _ _ :: _) _ _; go_must (refine wpList_load_at rfl 142 _ rfl (ad.add (j * 3)) 3 rfl (Pst.cl m) HC.out _ Tryz.underlying142 rfl info_Pst (show (Pst.cl m).length = 3 from rfl) ?_))
         | (with_reducible show wpList _ _ _ (Oper.mk _ (Op.alloc _) _ _ _ _ :: _) _ _; refine wpList_alloc_i rfl 142 rfl (.agg zeroPst.toArray) zero_Pst ?_))
        intro r w6 h6 hl6 hg6 hs6
        have H6 := Lib.hid h6
        have HL6 := Lib.hid hl6
        have HG6 := Lib.hid hg6
        clear h6 hl6 hg6 hs6
        go_wp2_with (with_reducible show wpList _ _ _ (Oper.mk _ (Op.store 142 _ _) _ _ _ _ :: _) _ _; go_must (refine wpList_store_bk rfl 142 _ _ rfl r rfl (.agg (Pst.cl m).toArray) rfl _ _ H6.out (by rw [agg_sz (show (Pst.cl m).toArray.size = 3 from rfl)]; exact info_Pst) (by rw [agg_sz (show (Pst.cl m).toArray.size = 3 from rfl)]; exact zeroPst_sz.symm) (pst_one m) ?_))
        intro w7 h7 hg7 hs7
        have HL7 := Lib.hid (below_grown2 HL6.out hg7 HG6.out HL6.out.size)
        have H7 := Lib.hid (show Bk w7 r (Pst.cl m).toArray 142 from h7)
        have HW7 := Lib.hid (HW.out.trans (HL7.out.mono HW.out.size))
        have c2 : w7.cell? ⟨r, 2, none⟩ = some (.slice m.cou.A m.cou.n m.cou.c) := h7.cell 2
        clear h7 hg7 hs7 H6 HL6 HG6
        go_wp2_with fail
        refine (risingMem_any w7 m.cou.A m.cou.n m.cou.c m.cou.ms (HPC.out m HMM.out).1.cou.n (by have := HFAR.out m HMM.out; omega) (Rd.below (xs := m.cou.ms.flatMap Mem.cl) (HPC.out m HMM.out).2 (HW8.out.trans (HW7.out.mono HW8.out.size)))).mono ?_
        rintro e w9 ⟨rfl, hb9⟩
        rw [HR3.out]
        have HW9 := Lib.hid (HW7.out.trans (hb9.mono HW7.out.size))
        clear hb9 c2 H7 HL7
        go_wp2_with fail
        refine (all_any _ _ 2 2 [_, _] (rd_errs w9 _ [_, _] rfl) rfl (by omega)).mono ?_
        rintro e w10 ⟨rfl, hw10⟩
        have HW10 := Lib.hid (show Below w8.heap.size w8 w10 by rw [← hw10]; exact HW9.out.alloc (by have := HW9.out.size; omega) _)
        clear hw10
        go_wp2_with fail
        go_round
        case rel => exact ⟨j + 1, by omega, by rw [HT.out, HQ2.out], by go_num, HW10.out⟩
        case measure => simp [intOf]; omega
       ·have hkn : j = k := by omega
        subst hkn
        have hi1 : ¬ (j : Int) < (j : Int) := by omega
        have HTA2 := Lib.hid (show ps.take j = ps from List.take_of_length_le (by rw [HN.out]; exact Nat.le_refl _))
        obtain ⟨ACC, hq⟩ : ∃ q, firstErr ([R1, R2] ++ (ps.take j).map risP) = q := ⟨_, rfl⟩
        obtain ⟨S1, hs1⟩ : ∃ r, risingE pstKey x.ps = r := ⟨_, rfl⟩
        obtain ⟨S2, hs2⟩ : ∃ r, risingE offKey x.os = r := ⟨_, rfl⟩
        obtain ⟨S3, hs3⟩ : ∃ r, risingE accKey x.acs = r := ⟨_, rfl⟩
        obtain ⟨S4, hs4⟩ : ∃ r, risingE rlsKey x.rs = r := ⟨_, rfl⟩
        have HFIN := Lib.hid (show firstErr [ACC, S1, S2, S3, S4] = plainSta x by
         rw [HPL.out, ← hq, firstErr_app, HTA2.out, ← hs1, ← hs2, ← hs3, ← hs4, ← HR1.out, ← HR2.out]
         unfold risS
         rw [HPS.out]
         rfl)
        rw [hq]
        have HS1 := Lib.hid hs1
        have HS2 := Lib.hid hs2
        have HS3 := Lib.hid hs3
        have HS4 := Lib.hid hs4
        have HWB := Lib.hid (HW8.out.trans (HW.out.mono HW8.out.size))
        have HKR := Lib.hid (show Bk wr.drew bx x.cl.toArray 62 from (HK8.out.below HW.out HK8.out.lt).drew)
        have HATR := Lib.hid (show x.at wr.drew from HAT.out.below HWB.out.drew)
        clear HW hq hs1 hs2 hs3 hs4 hi1 hlt hk
        go_wp2_with fail
        refine wp_region_free [(114, []), (115, []), (116, [(1, 115)]), (117, [(2, 116)]), (118, []), (119, [(4, 118)]), (120, [(5, 119)]), (121, []), (122, [(7, 121)]), (123, [(8, 122)]), (124, [(9, 123)]), (125, []), (126, [(11, 125)]), (127, [(12, 126)]), (128, [(13, 127)])]
         [Is (.int .i64 ACC), Is (.pointer (some ⟨bx, 49, none⟩)), Is (.slice x.pA x.pn x.pc), Is (.int .i64 S1), Is (.pointer (some ⟨bx, 50, none⟩)), Is (.slice x.oA x.on x.oc), Is (.int .i64 S2), Is (.pointer (some ⟨bx, 51, none⟩)), Is (.pointer (some ⟨bx, 51, none⟩)), Is (.slice x.aA x.an x.ac), Is (.int .i64 S3), Is (.pointer (some ⟨bx, 51, none⟩)), Is (.pointer (some ⟨bx, 52, none⟩)), Is (.slice x.rA x.rn x.rc), Is (.int .i64 S4)]
         (by kernel_rfl) (by kernel_rfl) (by rfl) ?st ?steps ?fin
        case st => exact ⟨Is.steady _, Is.steady _, Is.steady _, Is.steady _, Is.steady _, Is.steady _, Is.steady _, Is.steady _, Is.steady _, Is.steady _, Is.steady _, Is.steady _, Is.steady _, Is.steady _, Is.steady _, trivial⟩
        case steps =>
         refine fcA (fun w4 hw4 => ?_) ?_
         ·refine foA rfl rfl ?_; (try simp only [Act.put, zA, zB, zC]); (go_wp2_with fail); exact qsA rfl rfl
         refine fcA (fun w4 hw4 => ?_) ?_
         ·refine foA rfl rfl ?_; (try simp only [Act.put, zA, zB, zC]); (go_wp2_with fail); exact qsA rfl rfl
         refine fcA (fun w4 hw4 => fiA rfl ?_) ?_
         ·have c : w4.cell? ⟨bx, 49, none⟩ = some (.slice x.pA x.pn x.pc) := ((HKR.out.below hw4 HKR.out.lt).cell 49).trans (x.at_49 HX.out.last)
          refine foA rfl rfl ?_; (try simp only [Act.put, zA, zB, zC]); (go_wp2_with fail); exact qsA rfl rfl
         refine fcA (fun w4 hw4 => fiA rfl ?_) ?_
         ·refine FreeStep.call rfl rfl rfl (by rfl) rfl rfl (by (try simp only [Act.put, zA, zB, zC]); go_simp; (try with_reducible rfl)) (risingPst_any w4 x.pA x.pn x.pc x.ps HX.out.pn HPB.out (HATR.out.below hw4).p) ?_
          rintro e w5 ⟨rfl, hb5⟩; exact ⟨_, rfl, hb5, by rw [HS1.out]; rfl⟩
         refine fcA (fun w4 hw4 => ?_) ?_
         ·refine foA rfl rfl ?_; (try simp only [Act.put, zA, zB, zC]); (go_wp2_with fail); exact qsA rfl rfl
         refine fcA (fun w4 hw4 => fiA rfl ?_) ?_
         ·have c : w4.cell? ⟨bx, 50, none⟩ = some (.slice x.oA x.on x.oc) := ((HKR.out.below hw4 HKR.out.lt).cell 50).trans (x.at_50 HX.out.last)
          refine foA rfl rfl ?_; (try simp only [Act.put, zA, zB, zC]); (go_wp2_with fail); exact qsA rfl rfl
         refine fcA (fun w4 hw4 => fiA rfl ?_) ?_
         ·refine FreeStep.call rfl rfl rfl (by rfl) rfl rfl (by (try simp only [Act.put, zA, zB, zC]); go_simp; (try with_reducible rfl)) (risingOff_any w4 x.oA x.on x.oc x.os HX.out.on HON.out (HATR.out.below hw4).o) ?_
          rintro e w5 ⟨rfl, hb5⟩; exact ⟨_, rfl, hb5, by rw [HS2.out]; rfl⟩
         refine fcA (fun w4 hw4 => ?_) ?_
         ·refine foA rfl rfl ?_; (try simp only [Act.put, zA, zB, zC]); (go_wp2_with fail); exact qsA rfl rfl
         refine fcA (fun w4 hw4 => fiA rfl ?_) ?_
         ·refine foA rfl rfl ?_; (try simp only [Act.put, zA, zB, zC]); (go_wp2_with fail); exact qsA rfl rfl
         refine fcA (fun w4 hw4 => fiA rfl ?_) ?_
         ·have c : w4.cell? ⟨bx, 51, none⟩ = some (.slice x.aA x.an x.ac) := ((HKR.out.below hw4 HKR.out.lt).cell 51).trans (x.at_51 HX.out.last)
          refine foA rfl rfl ?_; (try simp only [Act.put, zA, zB, zC]); (go_wp2_with fail); exact qsA rfl rfl
         refine fcA (fun w4 hw4 => fiA rfl ?_) ?_
         ·refine FreeStep.call rfl rfl rfl (by rfl) rfl rfl (by (try simp only [Act.put, zA, zB, zC]); go_simp; (try with_reducible rfl)) (risingAcc_any w4 x.aA x.an x.ac x.acs HX.out.an (by have := HA4.out; omega) (HATR.out.below hw4).a) ?_
          rintro e w5 ⟨rfl, hb5⟩; exact ⟨_, rfl, hb5, by rw [HS3.out]; rfl⟩
         refine fcA (fun w4 hw4 => ?_) ?_
         ·refine foA rfl rfl ?_; (try simp only [Act.put, zA, zB, zC]); (go_wp2_with fail); exact qsA rfl rfl
         refine fcA (fun w4 hw4 => fiA rfl ?_) ?_
         ·refine foA rfl rfl ?_; (try simp only [Act.put, zA, zB, zC]); (go_wp2_with fail); exact qsA rfl rfl
         refine fcA (fun w4 hw4 => fiA rfl ?_) ?_
         ·have c : w4.cell? ⟨bx, 52, none⟩ = some (.slice x.rA x.rn x.rc) := ((HKR.out.below hw4 HKR.out.lt).cell 52).trans (x.at_52 HX.out.last)
          refine foA rfl rfl ?_; (try simp only [Act.put, zA, zB, zC]); (go_wp2_with fail); exact qsA rfl rfl
         refine fcA (fun w4 hw4 => fiA rfl ?_) ?_
         ·refine FreeStep.call rfl rfl rfl (by rfl) rfl rfl (by (try simp only [Act.put, zA, zB, zC]); go_simp; (try with_reducible rfl)) (risingRls_any w4 x.rA x.rn x.rc x.rs HX.out.rn HRN.out (HATR.out.below hw4).r) ?_
          rintro e w5 ⟨rfl, hb5⟩; exact ⟨_, rfl, hb5, by rw [HS4.out]; rfl⟩
         exact FreeSteps.nil
        case fin =>
         intro w4 hw4
         iterate 15 refine FreeEnd.is rfl ?_
         refine FreeEnd.nil ?_
         (try simp only [Act.put, zA, zB, zC])
         simp only [List.length_cons, List.length_nil, Nat.reduceAdd, List.drop_succ_cons, List.drop_zero]
         have HB4 := Lib.hid (show Below wr.heap.size wr w4 from ((Below.refl _ _).drew).trans hw4)
         clear hw4
         go_wp2_with fail
         refine (all_any _ _ 5 5 [_, _, _, _, _] (rd_errs w4 _ [_, _, _, _, _] rfl) rfl (by omega)).mono ?_
         rintro e w12 ⟨rfl, hw12⟩
         have HB12 := Lib.hid (show Below wr.heap.size wr w12 by rw [← hw12]; exact HB4.out.alloc (by have := HB4.out.size; omega) _)
         clear hw12 HB4
         go_wp2
         go_ret
         exact ⟨ret_i64 HFIN.out, HWB.out.trans (HB12.out.mono HWB.out.size)⟩
end Go.Proofs.YtlhnhjglcbggmaaGreatRR

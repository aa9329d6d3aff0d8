/-
  PlainMsg, PlainInput; EncodeMsg, EncodeInput. Conditions: each number fits its kind; lists lie in the world.
-/
import Derived.Test.YtlhnhjglcbggmaaGreatRRYPb11
namespace Go.Proofs.YtlhnhjglcbggmaaGreatRR
set_option linter.unusedSimpArgs false
set_option linter.unusedVariables false
open Go.RowKit
set_option maxRecDepth 100000

def PtK (base : Nat) (p : Prts) : Known := fun v w => ∃ a, v = .pointer (some ⟨a, 0, none⟩) ∧ Bk w a p.cl.toArray 177
theorem PtK.steady (base : Nat) (p : Prts) : Steady (PtK base p) := fun _ _ _ ⟨a, h1, h2⟩ hb => ⟨a, h1, h2.below hb h2.lt⟩
def UsK (us : List PK) : Known := fun v w => ∃ A, v = .slice A us.length us.length ∧ Rd w A (us.flatMap PK.cl)
theorem UsK.steady (us : List PK) : Steady (UsK us) := fun _ _ _ ⟨A, h1, h2⟩ hb => ⟨A, h1, h2.below hb⟩
theorem UsesR.usk {w w' : World} {us : List PK} {v : Value} (h : UsesR w w' us v) : UsK us v w' := by
 obtain ⟨_, ⟨rfl, rfl⟩ | ⟨g, rfl, _, hk⟩⟩ := h
 ·exact ⟨none, rfl, fun j u hu => by simp at hu⟩
 ·exact ⟨_, rfl, Rd.of_bk hk 0 _ (fun j u hu => by simpa using hu)⟩
theorem usesMsg_len (k : Int) : (usesMsg k).length ≤ 100 := by
 unfold usesMsg
 repeat (split; decide)
 decide
theorem usesInput_len (k : Int) : (usesInput k).length ≤ 100 := by
 unfold usesInput
 repeat (split; decide)
 decide

set_option maxHeartbeats 4000000 in
theorem PlainMsg_any (w : World) (k : Int) (p : Prts) (hx : MsgOk k p) (hat : p.at w) :
  Calls Tryz.prog 51 #[.agg (msgCl k p).toArray] w fun e w' => e = .returned (.int .i64 (plainMsg k p)) ∧ Below w.heap.size w w' := by
 have HX := Lib.hid hx
 have HP := Lib.hid hx.ok
 have HAT := Lib.hid hat
 have HL := Lib.hid (msgCl_len k p hx.ok)
 obtain ⟨R, hR⟩ : ∃ R, plainMsg k p = R := ⟨_, rfl⟩
 have HRR := Lib.hid hR
 rw [hR]
 obtain ⟨C, hC⟩ : ∃ C, msgCl k p = C := ⟨_, rfl⟩
 have h0 : C.toArray[0]? = some (.int .i64 k) := by rw [← hC]; simp [msgCl]
 have H0 := Lib.hid h0
 have HOF := Lib.hid (show ∀ w1, Calls Tryz.prog 54 #[.agg C.toArray] w1 fun e w' => ∃ v, e = .returned v ∧ PartsR w1 w' p v from fun w1 => by rw [← hC]; exact ofMsg_any w1 k p hx)
 rw [hC] at HL ⊢
 clear hx hat hR hC h0
 go_enter Tryz.func51, Tryz.ntmps51
 go_wp2_with (with_reducible show wpList _ _ _ (Oper.mk _ (Op.box _ _) _ _ _ _ :: _) _ _; refine wpList_box_bk rfl _ _ rfl _ rfl ?_)
 intro bx w1 hk hbl hg hs
 clear hg hs
 have HK1 := Lib.hid (bk_eqT (cs' := C.toArray) hk rfl)
 have HB1 := Lib.hid hbl
 clear hk hbl
 have c0 : w1.cell? ⟨bx, 0, none⟩ = some (.int .i64 k) := (HK1.out.cell 0).trans H0.out
 by_cases hk : k < 1 ∨ 7 < k
 ·have HE := Lib.hid (show R = 40 by rw [← HRR.out]; unfold plainMsg; rw [if_pos hk])
  have HKE := Lib.hid (show kind k 1 7 = 40 by unfold kind; rw [if_pos hk])
  go_wp2_with (go_at_call 71; go_must (refine (kind_any w1 k 1 7).mono ?_); rintro e w2 ⟨rfl, rfl⟩; rw [HKE.out])
  go_ret
  exact ⟨ret_i64 HE.out.symm, HB1.out⟩
 have HE := Lib.hid (show R = firstErr [unusedErr p (usesMsg k), plainPrts p (usesMsg k)] by rw [← HRR.out]; unfold plainMsg; rw [if_neg hk])
 have HKE := Lib.hid (show kind k 1 7 = 0 by unfold kind; rw [if_neg hk])
 have HKB := Lib.hid (show 1 ≤ k ∧ k ≤ 7 by omega)
 clear hk
 go_wp2_with (first
  | (go_at_call 71; go_must (refine (kind_any w1 k 1 7).mono ?_); rintro e w2 ⟨rfl, rfl⟩; rw [HKE.out])
  | fail)
 have HK2 := Lib.hid (show Bk w1.drew bx C.toArray 47 from HK1.out.drew)
 have HB2 := Lib.hid HB1.out.drew
 clear HK1 HB1 c0
 refine wp_region_free [(12, []), (13, [(0, 12)]), (14, []), (15, [(2, 14)]), (16, [(3, 15)])]
  [Is (.agg C.toArray), PtK w.heap.size p, Is (.pointer (some ⟨bx, 0, none⟩)), Is (.int .i64 k), UsK (usesMsg k)]
  (by kernel_rfl) (by kernel_rfl) (by rfl) ?st ?steps ?fin
 case st => exact ⟨Is.steady _, PtK.steady _ _, Is.steady _, Is.steady _, UsK.steady _, trivial⟩
 case steps =>
  refine fcA (fun w4 hw4 => ?_) ?_
  ·refine FreeStep.load_part 47 _ rfl rfl rfl rfl (by rfl) rfl rfl bx 0 484 rfl _ _ _ (HK2.out.below hw4 HK2.out.lt) Tryz.underlying47 rfl info_Msg (by simp [HL.out]) _ (cl_allN HL.out) ?_
   with_reducible rfl
  refine fcA (fun w4 hw4 => fiA rfl ?_) ?_
  ·refine FreeStep.call rfl rfl rfl (by rfl) rfl rfl (by (try simp only [Act.put, zA, zB, zC]); go_simp; (try with_reducible rfl)) (HOF.out w4) ?_
   rintro e w5 ⟨v, rfl, hb5, a, rfl, hka⟩; exact ⟨_, rfl, hb5, a, rfl, hka⟩
  refine fcA (fun w4 hw4 => ?_) ?_
  ·refine foA rfl rfl ?_; (try simp only [Act.put, zA, zB, zC]); (go_wp2_with fail); exact qsA rfl rfl
  refine fcA (fun w4 hw4 => fiA rfl ?_) ?_
  ·have c1 : w4.cell? ⟨bx, 0, none⟩ = some (.int .i64 k) := ((HK2.out.below hw4 HK2.out.lt).cell 0).trans H0.out
   refine foA rfl rfl ?_; (try simp only [Act.put, zA, zB, zC]); (go_wp2_with fail); exact qsA rfl rfl
  refine fcA (fun w4 hw4 => fiA rfl ?_) ?_
  ·refine FreeStep.call rfl rfl rfl (by rfl) rfl rfl (by (try simp only [Act.put, zA, zB, zC]); go_simp; (try with_reducible rfl)) (msgUses_any w4 k HKB.out.1 HKB.out.2) ?_
   rintro e w5 ⟨v, rfl, hu⟩; exact ⟨_, rfl, hu.1, hu.usk⟩
  exact FreeSteps.nil
 case fin =>
  intro w4 hw4
  refine FreeEnd.is rfl ?_
  refine FreeEnd.cons rfl fun v1 hv1 => ?_
  obtain ⟨a, rfl, hka⟩ := hv1
  iterate 2 refine FreeEnd.is rfl ?_
  refine FreeEnd.cons rfl fun v2 hv2 => ?_
  obtain ⟨A, rfl, hru⟩ := hv2
  refine FreeEnd.nil ?_
  (try simp only [Act.put, zA, zB, zC])
  simp only [List.length_cons, List.length_nil, Nat.reduceAdd, List.drop_succ_cons, List.drop_zero]
  have HKA := Lib.hid hka
  have HRU := Lib.hid hru
  have HK4 := Lib.hid (HK2.out.below hw4 HK2.out.lt)
  have HB4 := Lib.hid (HB2.out.trans (hw4.mono HB2.out.size))
  have HAT4 := Lib.hid (HAT.out.below HB4.out)
  obtain ⟨us, hus⟩ : ∃ us, usesMsg k = us := ⟨_, rfl⟩
  have HUL := Lib.hid (show us.length ≤ 100 by rw [← hus]; exact usesMsg_len k)
  rw [hus] at HRU HE ⊢
  obtain ⟨n, hn⟩ : ∃ n, us.length = n := ⟨_, rfl⟩
  rw [hn] at HUL ⊢
  have HN := Lib.hid hn.symm
  obtain ⟨E1, h1⟩ : ∃ E, unusedErr p us = E := ⟨_, rfl⟩
  obtain ⟨E2, h2⟩ : ∃ E, plainPrts p us = E := ⟨_, rfl⟩
  rw [h1, h2] at HE
  have HE1 := Lib.hid h1
  have HE2 := Lib.hid h2
  clear hka hru hw4 HK2 HB2 HRR hus hn h1 h2
  go_wp2_with (first
   | (go_at_call 95; go_must (refine (unused_any _ p a A n n us HP.out HKA.out HN.out HUL.out HRU.out).mono ?_); rintro e w5 ⟨rfl, hb5⟩; rw [HE1.out]; have HKA5 := Lib.hid (HKA.out.below hb5 HKA.out.lt); have HRU5 := Lib.hid (HRU.out.below hb5); have HAT5 := Lib.hid (HAT4.out.below hb5); have HB5 := Lib.hid (HB4.out.trans (hb5.mono HB4.out.size)); clear hb5)
   | (go_at_call 96; go_must (refine (plainParts_any _ p a A n n us HP.out HAT5.out HKA5.out HN.out HUL.out HRU5.out).mono ?_); rintro e w6 ⟨rfl, hb6⟩; rw [HE2.out]; have HB6 := Lib.hid (HB5.out.trans (hb6.mono HB5.out.size)); clear hb6)
   | (go_at_call 70; go_must (refine (all_any _ _ 2 2 [_, _] (rd_errs w6 _ [_, _] rfl) rfl (by omega)).mono ?_); rintro e w7 ⟨rfl, hw7⟩; have HB7 := Lib.hid (show Below w.heap.size w w7 by rw [← hw7]; exact HB6.out.alloc (by have := HB6.out.size; omega) _); clear hw7))
  go_ret
  exact ⟨ret_i64 HE.out.symm, HB7.out⟩

set_option maxHeartbeats 4000000 in
theorem PlainInput_any (w : World) (k now : Int) (p : Prts) (hx : InputOk k now p) (hat : p.at w) :
  Calls Tryz.prog 57 #[.agg (inputCl k now p).toArray] w fun e w' => e = .returned (.int .i64 (plainInput k now p)) ∧ Below w.heap.size w w' := by
 have HX := Lib.hid hx
 have HP := Lib.hid hx.ok
 have HAT := Lib.hid hat
 have HL := Lib.hid (inputCl_len k now p hx.ok)
 obtain ⟨R, hR⟩ : ∃ R, plainInput k now p = R := ⟨_, rfl⟩
 have HRR := Lib.hid hR
 rw [hR]
 obtain ⟨C, hC⟩ : ∃ C, inputCl k now p = C := ⟨_, rfl⟩
 have h0 : C.toArray[0]? = some (.int .i64 k) := by rw [← hC]; simp [inputCl]
 have h1 : C.toArray[1]? = some (.int .u64 now) := by rw [← hC]; simp [inputCl]
 have H1 := Lib.hid h1
 clear h1
 have H0 := Lib.hid h0
 have HOF := Lib.hid (show ∀ w1, Calls Tryz.prog 60 #[.agg C.toArray] w1 fun e w' => ∃ v, e = .returned v ∧ PartsR w1 w' p v from fun w1 => by rw [← hC]; exact ofInput_any w1 k now p hx)
 rw [hC] at HL ⊢
 clear hx hat hR hC h0
 go_enter Tryz.func57, Tryz.ntmps57
 go_wp2_with (with_reducible show wpList _ _ _ (Oper.mk _ (Op.box _ _) _ _ _ _ :: _) _ _; refine wpList_box_bk rfl _ _ rfl _ rfl ?_)
 intro bx w1 hk hbl hg hs
 clear hg hs
 have HK1 := Lib.hid (bk_eqT (cs' := C.toArray) hk rfl)
 have HB1 := Lib.hid hbl
 clear hk hbl
 have c0 : w1.cell? ⟨bx, 0, none⟩ = some (.int .i64 k) := (HK1.out.cell 0).trans H0.out
 by_cases hk : k < 1 ∨ 6 < k
 ·have HE := Lib.hid (show R = 40 by rw [← HRR.out]; unfold plainInput; rw [if_pos hk])
  have HKE := Lib.hid (show kind k 1 6 = 40 by unfold kind; rw [if_pos hk])
  go_wp2_with (go_at_call 71; go_must (refine (kind_any w1 k 1 6).mono ?_); rintro e w2 ⟨rfl, rfl⟩; rw [HKE.out])
  go_ret
  exact ⟨ret_i64 HE.out.symm, HB1.out⟩
 have HE := Lib.hid (show R = firstErr [unusedErr p (usesInput k), moment now, plainPrts p (usesInput k)] by rw [← HRR.out]; unfold plainInput; rw [if_neg hk])
 have HKE := Lib.hid (show kind k 1 6 = 0 by unfold kind; rw [if_neg hk])
 have HKB := Lib.hid (show 1 ≤ k ∧ k ≤ 6 by omega)
 clear hk
 go_wp2_with (first
  | (go_at_call 71; go_must (refine (kind_any w1 k 1 6).mono ?_); rintro e w2 ⟨rfl, rfl⟩; rw [HKE.out])
  | fail)
 have HK2 := Lib.hid (show Bk w1.drew bx C.toArray 49 from HK1.out.drew)
 have HB2 := Lib.hid HB1.out.drew
 clear HK1 HB1 c0
 refine wp_region_free [(12, []), (13, [(0, 12)]), (14, []), (15, [(2, 14)]), (16, [(3, 15)])]
  [Is (.agg C.toArray), PtK w.heap.size p, Is (.pointer (some ⟨bx, 0, none⟩)), Is (.int .i64 k), UsK (usesInput k)]
  (by kernel_rfl) (by kernel_rfl) (by rfl) ?st ?steps ?fin
 case st => exact ⟨Is.steady _, PtK.steady _ _, Is.steady _, Is.steady _, UsK.steady _, trivial⟩
 case steps =>
  refine fcA (fun w4 hw4 => ?_) ?_
  ·refine FreeStep.load_part 49 _ rfl rfl rfl rfl (by rfl) rfl rfl bx 0 323 rfl _ _ _ (HK2.out.below hw4 HK2.out.lt) Tryz.underlying49 rfl info_Input (by simp [HL.out]) _ (cl_allN HL.out) ?_
   with_reducible rfl
  refine fcA (fun w4 hw4 => fiA rfl ?_) ?_
  ·refine FreeStep.call rfl rfl rfl (by rfl) rfl rfl (by (try simp only [Act.put, zA, zB, zC]); go_simp; (try with_reducible rfl)) (HOF.out w4) ?_
   rintro e w5 ⟨v, rfl, hb5, a, rfl, hka⟩; exact ⟨_, rfl, hb5, a, rfl, hka⟩
  refine fcA (fun w4 hw4 => ?_) ?_
  ·refine foA rfl rfl ?_; (try simp only [Act.put, zA, zB, zC]); (go_wp2_with fail); exact qsA rfl rfl
  refine fcA (fun w4 hw4 => fiA rfl ?_) ?_
  ·have c1 : w4.cell? ⟨bx, 0, none⟩ = some (.int .i64 k) := ((HK2.out.below hw4 HK2.out.lt).cell 0).trans H0.out
   refine foA rfl rfl ?_; (try simp only [Act.put, zA, zB, zC]); (go_wp2_with fail); exact qsA rfl rfl
  refine fcA (fun w4 hw4 => fiA rfl ?_) ?_
  ·refine FreeStep.call rfl rfl rfl (by rfl) rfl rfl (by (try simp only [Act.put, zA, zB, zC]); go_simp; (try with_reducible rfl)) (inputUses_any w4 k HKB.out.1 HKB.out.2) ?_
   rintro e w5 ⟨v, rfl, hu⟩; exact ⟨_, rfl, hu.1, hu.usk⟩
  exact FreeSteps.nil
 case fin =>
  intro w4 hw4
  refine FreeEnd.is rfl ?_
  refine FreeEnd.cons rfl fun v1 hv1 => ?_
  obtain ⟨a, rfl, hka⟩ := hv1
  iterate 2 refine FreeEnd.is rfl ?_
  refine FreeEnd.cons rfl fun v2 hv2 => ?_
  obtain ⟨A, rfl, hru⟩ := hv2
  refine FreeEnd.nil ?_
  (try simp only [Act.put, zA, zB, zC])
  simp only [List.length_cons, List.length_nil, Nat.reduceAdd, List.drop_succ_cons, List.drop_zero]
  have HKA := Lib.hid hka
  have HRU := Lib.hid hru
  have HK4 := Lib.hid (HK2.out.below hw4 HK2.out.lt)
  have HB4 := Lib.hid (HB2.out.trans (hw4.mono HB2.out.size))
  have HAT4 := Lib.hid (HAT.out.below HB4.out)
  obtain ⟨us, hus⟩ : ∃ us, usesInput k = us := ⟨_, rfl⟩
  have HUL := Lib.hid (show us.length ≤ 100 by rw [← hus]; exact usesInput_len k)
  rw [hus] at HRU HE ⊢
  obtain ⟨n, hn⟩ : ∃ n, us.length = n := ⟨_, rfl⟩
  rw [hn] at HUL ⊢
  have HN := Lib.hid hn.symm
  obtain ⟨E1, h1⟩ : ∃ E, unusedErr p us = E := ⟨_, rfl⟩
  obtain ⟨E2, h2⟩ : ∃ E, plainPrts p us = E := ⟨_, rfl⟩
  rw [h1, h2] at HE
  have HE1 := Lib.hid h1
  have HE2 := Lib.hid h2
  clear hka hru hw4 HK2 HB2 HRR hus hn h1 h2
  have HKD := Lib.hid (show Bk w4.drew a p.cl.toArray 177 from HKA.out.drew)
  have HKB4 := Lib.hid (show Bk w4.drew bx C.toArray 49 from HK4.out.drew)
  have HRD := Lib.hid (HRU.out.below (Below.refl _ _).drew)
  have HATD := Lib.hid (HAT4.out.below (Below.refl _ _).drew)
  have HBD := Lib.hid HB4.out.drew
  go_wp2_with fail
  refine wp_region_free [(17, []), (18, []), (19, [(0, 17), (1, 18)]), (20, []), (21, [(3, 20)]), (22, [(4, 21)]), (23, []), (24, []), (25, [(6, 23), (7, 24)])]
   [Is (.pointer (some ⟨a, 0, none⟩)), Is (.slice A n n), Is (.int .i64 E1), Is (.pointer (some ⟨bx, 1, none⟩)), Is (.int .u64 now), Is (.int .i64 (moment now)), Is (.pointer (some ⟨a, 0, none⟩)), Is (.slice A n n), Is (.int .i64 E2)]
   (by kernel_rfl) (by kernel_rfl) (by rfl) ?st2 ?steps2 ?fin2
  case st2 => exact ⟨Is.steady _, Is.steady _, Is.steady _, Is.steady _, Is.steady _, Is.steady _, Is.steady _, Is.steady _, Is.steady _, trivial⟩
  case steps2 =>
   refine FreeSteps.cons (fun w8 hw8 => ?_) ?_
   ·refine foA rfl rfl ?_; (try simp only [Act.put, zA, zB, zC]); (go_wp2_with fail); exact qsA rfl rfl
   refine FreeSteps.cons (fun w8 hw8 => ?_) ?_
   ·refine foA rfl rfl ?_; (try simp only [Act.put, zA, zB, zC]); (go_wp2_with fail); exact qsA rfl rfl
   refine FreeSteps.cons (fun w8 hw8 => fiA rfl (fiA rfl ?_)) ?_
   ·refine FreeStep.call rfl rfl rfl (by rfl) rfl rfl (by (try simp only [Act.put, zA, zB, zC]); go_simp; (try with_reducible rfl)) (unused_any w8 p a A n n us HP.out (HKD.out.below hw8 HKD.out.lt) HN.out HUL.out (HRD.out.below hw8)) ?_
    rintro e w5 ⟨rfl, hb5⟩; exact ⟨_, rfl, hb5, by rw [HE1.out]; rfl⟩
   refine FreeSteps.cons (fun w8 hw8 => ?_) ?_
   ·refine foA rfl rfl ?_; (try simp only [Act.put, zA, zB, zC]); (go_wp2_with fail); exact qsA rfl rfl
   refine FreeSteps.cons (fun w8 hw8 => fiA rfl ?_) ?_
   ·have c1 : w8.cell? ⟨bx, 1, none⟩ = some (.int .u64 now) := ((HKB4.out.below hw8 HKB4.out.lt).cell 1).trans H1.out
    refine foA rfl rfl ?_; (try simp only [Act.put, zA, zB, zC]); (go_wp2_with fail); exact qsA rfl rfl
   refine FreeSteps.cons (fun w8 hw8 => fiA rfl ?_) ?_
   ·refine FreeStep.call rfl rfl rfl (by rfl) rfl rfl (by (try simp only [Act.put, zA, zB, zC]); go_simp; (try with_reducible rfl)) (moment_any w8 now) ?_
    rintro e w5 ⟨rfl, rfl⟩; exact ⟨_, rfl, Below.refl _ _, rfl⟩
   refine FreeSteps.cons (fun w8 hw8 => ?_) ?_
   ·refine foA rfl rfl ?_; (try simp only [Act.put, zA, zB, zC]); (go_wp2_with fail); exact qsA rfl rfl
   refine FreeSteps.cons (fun w8 hw8 => ?_) ?_
   ·refine foA rfl rfl ?_; (try simp only [Act.put, zA, zB, zC]); (go_wp2_with fail); exact qsA rfl rfl
   refine FreeSteps.cons (fun w8 hw8 => fiA rfl (fiA rfl ?_)) ?_
   ·refine FreeStep.call rfl rfl rfl (by rfl) rfl rfl (by (try simp only [Act.put, zA, zB, zC]); go_simp; (try with_reducible rfl)) (plainParts_any w8 p a A n n us HP.out (HATD.out.below hw8) (HKD.out.below hw8 HKD.out.lt) HN.out HUL.out (HRD.out.below hw8)) ?_
    rintro e w5 ⟨rfl, hb5⟩; exact ⟨_, rfl, hb5, by rw [HE2.out]; rfl⟩
   exact FreeSteps.nil
  case fin2 =>
   intro w8 hw8
   iterate 9 refine FreeEnd.is rfl ?_
   refine FreeEnd.nil ?_
   (try simp only [Act.put, zA, zB, zC])
   simp only [List.length_cons, List.length_nil, Nat.reduceAdd, List.drop_succ_cons, List.drop_zero]
   have HB8 := Lib.hid (HBD.out.trans (hw8.mono HBD.out.size))
   clear hw8
   go_wp2_with fail
   refine (all_any _ _ 3 3 [_, _, _] (rd_errs w8 _ [_, _, _] rfl) rfl (by omega)).mono ?_
   rintro e w9 ⟨rfl, hw9⟩
   have HB9 := Lib.hid (show Below w.heap.size w w9 by rw [← hw9]; exact HB8.out.alloc (by have := HB8.out.size; omega) _)
   clear hw9
   go_wp2
   go_ret
   exact ⟨ret_i64 HE.out.symm, HB9.out⟩
end Go.Proofs.YtlhnhjglcbggmaaGreatRR

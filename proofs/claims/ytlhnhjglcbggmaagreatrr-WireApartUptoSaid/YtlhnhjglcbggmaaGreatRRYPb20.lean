/-
  rising: a list's keys rise. Conditions: the list lies in the world.
-/
import Derived.Test.YtlhnhjglcbggmaaGreatRRY37
import Derived.Test.YtlhnhjglcbggmaaGreatRRY09
namespace Go.Proofs.YtlhnhjglcbggmaaGreatRR
set_option linter.unusedSimpArgs false
set_option linter.unusedVariables false
open Go.RowKit
set_option maxRecDepth 100000

def NwK (base : Nat) : Known := fun v w => ∃ g, v = .pointer (some ⟨g, 0, none⟩) ∧ base ≤ g ∧ Bk w g (key2 (0, 0)).toArray 185
theorem NwK.steady (base : Nat) : Steady (NwK base) := fun _ _ _ ⟨g, h1, h2, h3⟩ hb => ⟨g, h1, h2, h3.below hb h3.lt⟩
theorem bk_other {w w' : World} {g b : Nat} {cs : Array Value} {t : TypeId} (h : Bk w g cs t) (hg : w.grownBy w' (some b)) (hne : b ≠ g) : Bk w' g cs t := (hg.block g h.lt (fun e => by simp at e; omega)).trans h
theorem rise_end {α : Type} (key : α → Int × Int) {xs : List α} {k : Nat} (h : xs.length ≤ k) : risingE key (xs.drop (k - 1)) = 0 := by
 have hl : (xs.drop (k - 1)).length ≤ 1 := by rw [List.length_drop]; omega
 match xs.drop (k - 1), hl with
 | [], _ => rfl
 | [_], _ => rfl
 | _ :: _ :: _, hl => simp at hl
theorem rise_drop {α : Type} (key : α → Int × Int) {xs : List α} {k : Nat} {a b : α} (hk : 1 ≤ k) (h : k < xs.length) (ha : xs[k - 1] = a) (hb : xs[k] = b) : risingE key (xs.drop (k - 1)) = if badKey (key a) (key b) = true then 42 else risingE key (xs.drop k) := by
 have e1 : xs.drop (k - 1) = a :: xs.drop k := by rw [List.drop_eq_getElem_cons (by omega), ha, show k - 1 + 1 = k by omega]
 have e2 : xs.drop k = b :: xs.drop (k + 1) := by rw [List.drop_eq_getElem_cons h, hb]
 rw [e1, e2]
 rfl
theorem infoR_Mem : (Tryz.prog.info? 182).map (·.size) = some 3 := by kernel_rfl

set_option maxHeartbeats 8000000 in
theorem risingMem_any (w : World) (A : Option Addr) (n c : Nat) (xs : List Mem) (hn : n = xs.length) (hl : n ≤ 1000000000000) (hr : Rd w A (xs.flatMap Mem.cl)) :
  Calls Tryz.prog 110 #[.slice A n c, .func (.func 111) #[] #[]] w fun e w' => e = .returned (.int .i64 (risingE memKey xs)) ∧ Below w.heap.size w w' := by
 have HN := Lib.hid hn
 have HR := Lib.hid hr
 have HLN := Lib.hid (show ∀ x ∈ xs, x.cl.length = 3 from fun x _ => rfl)
 have HKC := Lib.hid memKey_any
 have eg : ∀ args w, (callFunc 111 args).run Tryz.prog w = .ok (.enter 111 args) w := fun args w => run_callFunc_enter Tryz.func111 (by kernel_rfl) (by kernel_rfl) args w
 generalize 111 = F at HKC eg ⊢
 obtain ⟨R, hR⟩ : ∃ R, risingE memKey xs = R := ⟨_, rfl⟩
 have HRX := Lib.hid hR
 rw [hR]
 clear hn hr hR
 go_enter Tryz.func110, Tryz.ntmps110
 go_wp2
 go_loopw [5] (fun i wr => ∃ k : Nat, 1 ≤ k ∧ k ≤ n + 1 ∧ i = .int .i64 (k : Int) ∧ risingE memKey (xs.drop (k - 1)) = R ∧ Below w.heap.size w wr) (fun i _ => n + 1 - (intOf i).toNat)
 case atStart => exact ⟨1, by omega, by omega, rfl, HRX.out, Below.refl _ _⟩
 case round =>
  obtain ⟨k, hk1, hk, rfl, h6, h9⟩ := hrel
  have HRI := Lib.hid h6
  have HW := Lib.hid h9
  clear h6 h9
  by_cases hlt : k < n
  ·have hi : (k : Int) < n := by omega
   have hkl : k < xs.length := by rw [← HN.out]; exact hlt
   have hkm : k - 1 < xs.length := by omega
   obtain ⟨ad, hA, hcb⟩ := rd_elem (by omega) HLN.out (HR.out.below HW.out) hkl
   obtain ⟨ad', hA', hca⟩ := rd_elem (by omega) HLN.out (HR.out.below HW.out) hkm
   have ha' : ad = ad' := by rw [hA] at hA'; injection hA' with h
   subst ha'
   obtain ⟨mb, hmb⟩ : ∃ m, xs[k] = m := ⟨_, rfl⟩
   obtain ⟨ma, hma⟩ : ∃ m, xs[k - 1] = m := ⟨_, rfl⟩
   rw [hmb] at hcb
   rw [hma] at hca
   have HCA := Lib.hid hca
   have HCB := Lib.hid hcb
   have HDR := Lib.hid (rise_drop memKey hk1 hkl hma hmb)
   subst hA
   have p1 : IntKind.i64.wrap ((k : Int) - 1) = (k : Int) - 1 := by rw [IntKind.wrap_i64]; omega
   have p2 : ((k : Int) - 1).toNat = k - 1 := by omega
   have p3 : (0 : Int) ≤ (k : Int) - 1 := by omega
   have p4 : (k : Int) - 1 < n := by omega
   have p5 : k - 1 < n := by omega
   clear hca hcb hma hmb hA'
   go_wp2_with fail
   refine wp_region_freeF [(14, []), (15, []), (16, []), (17, [(2, 16)]), (18, [(1, 15), (3, 17)]), (19, [(4, 18)]), (20, [(0, 14), (5, 19)]), (21, []), (22, []), (23, []), (24, [(8, 22), (9, 23)]), (25, [(10, 24)]), (26, [(7, 21), (11, 25)]), (6, []), (7, [])]
    [Is (.func (.func F) #[] #[]), Is (.slice (some ad) n c), Is (.int .i64 (k : Int)), Is (.int .i64 ((k : Int) - 1)), Is (.pointer (some (ad.add ((k - 1) * 3)))), Is (.agg ma.cl.toArray), Is (.agg (key2 (memKey ma)).toArray), Is (.func (.func F) #[] #[]), Is (.slice (some ad) n c), Is (.int .i64 (k : Int)), Is (.pointer (some (ad.add (k * 3)))), Is (.agg mb.cl.toArray), Is (.agg (key2 (memKey mb)).toArray), NwK w.heap.size, NwK w.heap.size]
    [13, 14] (by kernel_rfl) (by kernel_rfl) (by rfl) ?st ?steps ?fin
   case st => exact ⟨Is.steady _, Is.steady _, Is.steady _, Is.steady _, Is.steady _, Is.steady _, Is.steady _, Is.steady _, Is.steady _, Is.steady _, Is.steady _, Is.steady _, Is.steady _, NwK.steady _, NwK.steady _, trivial⟩
   case steps =>
    refine FreeStepsF.cons (fun w4 hw4 => FreeStepF.of (by decide) ?_) ?_
    ·refine foA rfl rfl ?_; (try simp only [Act.put, zA, zB, zC]); (go_wp2_with fail); exact qsA rfl rfl
    refine FreeStepsF.cons (fun w4 hw4 => FreeStepF.of (by decide) ?_) ?_
    ·refine foA rfl rfl ?_; (try simp only [Act.put, zA, zB, zC]); (go_wp2_with fail); exact qsA rfl rfl
    refine FreeStepsF.cons (fun w4 hw4 => FreeStepF.of (by decide) ?_) ?_
    ·refine foA rfl rfl ?_; (try simp only [Act.put, zA, zB, zC]); (go_wp2_with fail); exact qsA rfl rfl
    refine FreeStepsF.cons (fun w4 hw4 => FreeStepF.of (by decide) (fiA rfl ?_)) ?_
    ·refine foA rfl rfl ?_; (try simp only [Act.put, zA, zB, zC]); (go_wp2_with fail); exact qsA rfl rfl
    refine FreeStepsF.cons (fun w4 hw4 => FreeStepF.of (by decide) (fiA rfl (fiA rfl ?_))) ?_
    ·refine foA rfl rfl ?_; (try simp only [Act.put, zA, zB, zC]); (go_wp2_with fail); exact qsA rfl rfl
    refine FreeStepsF.cons (fun w4 hw4 => FreeStepF.of (by decide) (fiA rfl ?_)) ?_
    ·exact FreeStep.load_at 182 _ rfl rfl rfl rfl (by rfl) rfl rfl (ad.add ((k - 1) * 3)) 3 rfl ma.cl (fun j u hu => cell_keepB (w0 := wr) (HCA.out j u hu) hw4) _ Tryz.underlying182 rfl infoR_Mem (show ma.cl.length = 3 from rfl) rfl
    refine FreeStepsF.cons (fun w4 hw4 => FreeStepF.of (by decide) (fiA rfl (fiA rfl ?_))) ?_
    ·refine FreeStep.call rfl rfl rfl (by rfl) rfl rfl (by (try simp only [Act.put, zA, zB, zC]); go_simp) (HKC.out w4 ma) ?_
     rintro e w5 ⟨rfl, hb5⟩; exact ⟨_, rfl, hb5, rfl⟩
    refine FreeStepsF.cons (fun w4 hw4 => FreeStepF.of (by decide) ?_) ?_
    ·refine foA rfl rfl ?_; (try simp only [Act.put, zA, zB, zC]); (go_wp2_with fail); exact qsA rfl rfl
    refine FreeStepsF.cons (fun w4 hw4 => FreeStepF.of (by decide) ?_) ?_
    ·refine foA rfl rfl ?_; (try simp only [Act.put, zA, zB, zC]); (go_wp2_with fail); exact qsA rfl rfl
    refine FreeStepsF.cons (fun w4 hw4 => FreeStepF.of (by decide) ?_) ?_
    ·refine foA rfl rfl ?_; (try simp only [Act.put, zA, zB, zC]); (go_wp2_with fail); exact qsA rfl rfl
    refine FreeStepsF.cons (fun w4 hw4 => FreeStepF.of (by decide) (fiA rfl (fiA rfl ?_))) ?_
    ·refine foA rfl rfl ?_; (try simp only [Act.put, zA, zB, zC]); (go_wp2_with fail); exact qsA rfl rfl
    refine FreeStepsF.cons (fun w4 hw4 => FreeStepF.of (by decide) (fiA rfl ?_)) ?_
    ·exact FreeStep.load_at 182 _ rfl rfl rfl rfl (by rfl) rfl rfl (ad.add (k * 3)) 3 rfl mb.cl (fun j u hu => cell_keepB (w0 := wr) (HCB.out j u hu) hw4) _ Tryz.underlying182 rfl infoR_Mem (show mb.cl.length = 3 from rfl) rfl
    refine FreeStepsF.cons (fun w4 hw4 => FreeStepF.of (by decide) (fiA rfl (fiA rfl ?_))) ?_
    ·refine FreeStep.call rfl rfl rfl (by rfl) rfl rfl (by (try simp only [Act.put, zA, zB, zC]); go_simp) (HKC.out w4 mb) ?_
     rintro e w5 ⟨rfl, hb5⟩; exact ⟨_, rfl, hb5, rfl⟩
    refine FreeStepsF.cons (fun w4 hw4 => ?_) ?_
    ·refine FreeStepF.alloc 185 (.agg (key2 (0, 0)).toArray) rfl rfl rfl rfl (by rfl) rfl zero_k rfl ?_
     exact fun g w' h1 h2 h3 h4 => ⟨g, rfl, by have a1 := hw4.size; have a2 := HW.out.size; have a3 : wr.heap.size ≤ w4.heap.size := a1; omega, h1⟩
    refine FreeStepsF.cons (fun w4 hw4 => ?_) ?_
    ·refine FreeStepF.alloc 185 (.agg (key2 (0, 0)).toArray) rfl rfl rfl rfl (by rfl) rfl zero_k rfl ?_
     exact fun g w' h1 h2 h3 h4 => ⟨g, rfl, by have a1 := hw4.size; have a2 := HW.out.size; have a3 : wr.heap.size ≤ w4.heap.size := a1; omega, h1⟩
    exact FreeStepsF.nil
   case fin =>
    intro w4 hw4
    iterate 13 refine FreeEnd.is rfl ?_
    refine FreeEnd.cons rfl fun v1 hv1 => ?_
    obtain ⟨g1, rfl, hg1, hk1⟩ := hv1
    refine FreeEnd.cons rfl fun v2 hv2 => ?_
    obtain ⟨g2, rfl, hg2, hk2⟩ := hv2
    refine FreeEnd.nil ?_
    intro hap
    have hne : g1 ≠ g2 := hap 13 14 _ _ g1 g2 (by simp) (by simp) (by omega) rfl rfl (by (try simp only [Act.put, zA, zB, zC]); rfl) (by (try simp only [Act.put, zA, zB, zC]); rfl)
    clear hap
    (try simp only [Act.put, zA, zB, zC])
    simp only [List.length_cons, List.length_nil, Nat.reduceAdd, List.drop_succ_cons, List.drop_zero]
    have HW4 := Lib.hid (show Below wr.heap.size wr w4 from ((Below.refl _ _).drew).trans hw4)
    have HK1 := Lib.hid hk1
    have HK2 := Lib.hid hk2
    have HNE := Lib.hid hne
    have HG1 := Lib.hid hg1
    have HG2 := Lib.hid hg2
    clear hk1 hk2 hne hg1 hg2 hw4
    go_wp2_with (with_reducible show wpList _ _ _ (Oper.mk _ (Op.store 185 _ _) _ _ _ _ :: _) _ _; go_must (refine wpList_store_bk rfl 185 _ _ rfl g1 rfl (.agg (key2 (memKey ma)).toArray) rfl _ _ HK1.out (by rw [agg_sz (key2_sz _)]; exact info_k) (by rw [agg_sz (key2_sz _)]; exact (key2_sz _).symm) (key2_one _) ?_))
    intro w5 h5 hg5 hs5
    have HK1b := Lib.hid (show Bk w5 g1 (key2 (memKey ma)).toArray 185 from h5)
    have HK2b := Lib.hid (bk_other HK2.out hg5 HNE.out)
    have HW5 := Lib.hid (below_grown2 (HW.out.trans (HW4.out.mono HW.out.size)) hg5 HG1.out (HW.out.trans (HW4.out.mono HW.out.size)).size)
    clear h5 hg5 hs5 HK1 HK2 HW4 HW
    go_wp2_with (with_reducible show wpList _ _ _ (Oper.mk _ (Op.store 185 _ _) _ _ _ _ :: _) _ _; go_must (refine wpList_store_bk rfl 185 _ _ rfl g2 rfl (.agg (key2 (memKey mb)).toArray) rfl _ _ HK2b.out (by rw [agg_sz (key2_sz _)]; exact info_k) (by rw [agg_sz (key2_sz _)]; exact (key2_sz _).symm) (key2_one _) ?_))
    intro w6 h6 hg6 hs6
    obtain ⟨⟨a1, a2⟩, hka⟩ : ∃ p, memKey ma = p := ⟨_, rfl⟩
    obtain ⟨⟨b1, b2⟩, hkb⟩ : ∃ p, memKey mb = p := ⟨_, rfl⟩
    have HA6 := Lib.hid (show Bk w6 g1 (key2 (a1, a2)).toArray 185 from bk_eqT (bk_other HK1b.out hg6 (Ne.symm HNE.out)) (by rw [hka]))
    have HB6 := Lib.hid (show Bk w6 g2 (key2 (b1, b2)).toArray 185 from bk_eqT h6 (by rw [← hkb]))
    have HW6 := Lib.hid (below_grown2 HW5.out hg6 HG2.out HW5.out.size)
    obtain ⟨q1, e1⟩ : ∃ q, decide (b1 < a1) = q := ⟨_, rfl⟩
    obtain ⟨q2, e2⟩ : ∃ q, (a1 == b1) = q := ⟨_, rfl⟩
    obtain ⟨q3, e3⟩ : ∃ q, decide (b2 ≤ a2) = q := ⟨_, rfl⟩
    have HBD := Lib.hid (show badKey (memKey ma) (memKey mb) = (q1 || (q2 && q3)) by rw [hka, hkb, ← e1, ← e2, ← e3]; rfl)
    have ca0 : w6.cell? ⟨g1, 0, none⟩ = some (.int .u64 a1) := HA6.out.cell 0
    have ca1 : w6.cell? ⟨g1, 1, none⟩ = some (.int .u64 a2) := HA6.out.cell 1
    have cb0 : w6.cell? ⟨g2, 0, none⟩ = some (.int .u64 b1) := HB6.out.cell 0
    have cb1 : w6.cell? ⟨g2, 1, none⟩ = some (.int .u64 b2) := HB6.out.cell 1
    have p6 : IntKind.i64.wrap ((k : Int) + 1) = (k : Int) + 1 := by rw [IntKind.wrap_i64]; omega
    clear h6 hg6 hs6 HK1b HK2b HW5 hka hkb HKC eg HCA HCB
    cases q1 with
    | true =>
     have HRR := Lib.hid (show (42 : Int) = R by rw [← HRI.out, HDR.out, HBD.out]; rfl)
     go_wp2
     go_ret
     exact ⟨ret_i64 HRR.out, HW6.out⟩
    | false =>
     cases q2 with
     | true =>
      cases q3 with
      | true =>
       have HRR := Lib.hid (show (42 : Int) = R by rw [← HRI.out, HDR.out, HBD.out]; rfl)
       go_wp2
       go_ret
       exact ⟨ret_i64 HRR.out, HW6.out⟩
      | false =>
       have HRR := Lib.hid (show risingE memKey (xs.drop k) = R by rw [← HRI.out, HDR.out, HBD.out]; rfl)
       go_wp2
       go_round
       case rel => exact ⟨k + 1, by omega, by omega, by go_num, HRR.out, HW6.out⟩
       case measure => simp [intOf]; omega
     | false =>
      have HRR := Lib.hid (show risingE memKey (xs.drop k) = R by rw [← HRI.out, HDR.out, HBD.out]; rfl)
      go_wp2
      go_round
      case rel => exact ⟨k + 1, by omega, by omega, by go_num, HRR.out, HW6.out⟩
      case measure => simp [intOf]; omega
  ·have hi : ¬ (k : Int) < n := by omega
   have HRR := Lib.hid (show (0 : Int) = R by rw [← HRI.out]; exact (rise_end memKey (by rw [← HN.out]; omega)).symm)
   go_wp2
   go_ret
   exact ⟨ret_i64 HRR.out, HW.out⟩
theorem infoR_Pst : (Tryz.prog.info? 142).map (·.size) = some 3 := by kernel_rfl

set_option maxHeartbeats 8000000 in
theorem risingPst_any (w : World) (A : Option Addr) (n c : Nat) (xs : List Pst) (hn : n = xs.length) (hl : n ≤ 1000000000000) (hr : Rd w A (xs.flatMap Pst.cl)) :
  Calls Tryz.prog 112 #[.slice A n c, .func (.func 113) #[] #[]] w fun e w' => e = .returned (.int .i64 (risingE pstKey xs)) ∧ Below w.heap.size w w' := by
 have HN := Lib.hid hn
 have HR := Lib.hid hr
 have HLN := Lib.hid (show ∀ x ∈ xs, x.cl.length = 3 from fun x _ => rfl)
 have HKC := Lib.hid pstKey_any
 have eg : ∀ args w, (callFunc 113 args).run Tryz.prog w = .ok (.enter 113 args) w := fun args w => run_callFunc_enter Tryz.func113 (by kernel_rfl) (by kernel_rfl) args w
 generalize 113 = F at HKC eg ⊢
 obtain ⟨R, hR⟩ : ∃ R, risingE pstKey xs = R := ⟨_, rfl⟩
 have HRX := Lib.hid hR
 rw [hR]
 clear hn hr hR
 go_enter Tryz.func112, Tryz.ntmps112
 go_wp2
 go_loopw [5] (fun i wr => ∃ k : Nat, 1 ≤ k ∧ k ≤ n + 1 ∧ i = .int .i64 (k : Int) ∧ risingE pstKey (xs.drop (k - 1)) = R ∧ Below w.heap.size w wr) (fun i _ => n + 1 - (intOf i).toNat)
 case atStart => exact ⟨1, by omega, by omega, rfl, HRX.out, Below.refl _ _⟩
 case round =>
  obtain ⟨k, hk1, hk, rfl, h6, h9⟩ := hrel
  have HRI := Lib.hid h6
  have HW := Lib.hid h9
  clear h6 h9
  by_cases hlt : k < n
  ·have hi : (k : Int) < n := by omega
   have hkl : k < xs.length := by rw [← HN.out]; exact hlt
   have hkm : k - 1 < xs.length := by omega
   obtain ⟨ad, hA, hcb⟩ := rd_elem (by omega) HLN.out (HR.out.below HW.out) hkl
   obtain ⟨ad', hA', hca⟩ := rd_elem (by omega) HLN.out (HR.out.below HW.out) hkm
   have ha' : ad = ad' := by rw [hA] at hA'; injection hA' with h
   subst ha'
   obtain ⟨mb, hmb⟩ : ∃ m, xs[k] = m := ⟨_, rfl⟩
   obtain ⟨ma, hma⟩ : ∃ m, xs[k - 1] = m := ⟨_, rfl⟩
   rw [hmb] at hcb
   rw [hma] at hca
   have HCA := Lib.hid hca
   have HCB := Lib.hid hcb
   have HDR := Lib.hid (rise_drop pstKey hk1 hkl hma hmb)
   subst hA
   have p1 : IntKind.i64.wrap ((k : Int) - 1) = (k : Int) - 1 := by rw [IntKind.wrap_i64]; omega
   have p2 : ((k : Int) - 1).toNat = k - 1 := by omega
   have p3 : (0 : Int) ≤ (k : Int) - 1 := by omega
   have p4 : (k : Int) - 1 < n := by omega
   have p5 : k - 1 < n := by omega
   clear hca hcb hma hmb hA'
   go_wp2_with fail
   refine wp_region_freeF [(14, []), (15, []), (16, []), (17, [(2, 16)]), (18, [(1, 15), (3, 17)]), (19, [(4, 18)]), (20, [(0, 14), (5, 19)]), (21, []), (22, []), (23, []), (24, [(8, 22), (9, 23)]), (25, [(10, 24)]), (26, [(7, 21), (11, 25)]), (6, []), (7, [])]
    [Is (.func (.func F) #[] #[]), Is (.slice (some ad) n c), Is (.int .i64 (k : Int)), Is (.int .i64 ((k : Int) - 1)), Is (.pointer (some (ad.add ((k - 1) * 3)))), Is (.agg ma.cl.toArray), Is (.agg (key2 (pstKey ma)).toArray), Is (.func (.func F) #[] #[]), Is (.slice (some ad) n c), Is (.int .i64 (k : Int)), Is (.pointer (some (ad.add (k * 3)))), Is (.agg mb.cl.toArray), Is (.agg (key2 (pstKey mb)).toArray), NwK w.heap.size, NwK w.heap.size]
    [13, 14] (by kernel_rfl) (by kernel_rfl) (by rfl) ?st ?steps ?fin
   case st => exact ⟨Is.steady _, Is.steady _, Is.steady _, Is.steady _, Is.steady _, Is.steady _, Is.steady _, Is.steady _, Is.steady _, Is.steady _, Is.steady _, Is.steady _, Is.steady _, NwK.steady _, NwK.steady _, trivial⟩
   case steps =>
    refine FreeStepsF.cons (fun w4 hw4 => FreeStepF.of (by decide) ?_) ?_
    ·refine foA rfl rfl ?_; (try simp only [Act.put, zA, zB, zC]); (go_wp2_with fail); exact qsA rfl rfl
    refine FreeStepsF.cons (fun w4 hw4 => FreeStepF.of (by decide) ?_) ?_
    ·refine foA rfl rfl ?_; (try simp only [Act.put, zA, zB, zC]); (go_wp2_with fail); exact qsA rfl rfl
    refine FreeStepsF.cons (fun w4 hw4 => FreeStepF.of (by decide) ?_) ?_
    ·refine foA rfl rfl ?_; (try simp only [Act.put, zA, zB, zC]); (go_wp2_with fail); exact qsA rfl rfl
    refine FreeStepsF.cons (fun w4 hw4 => FreeStepF.of (by decide) (fiA rfl ?_)) ?_
    ·refine foA rfl rfl ?_; (try simp only [Act.put, zA, zB, zC]); (go_wp2_with fail); exact qsA rfl rfl
    refine FreeStepsF.cons (fun w4 hw4 => FreeStepF.of (by decide) (fiA rfl (fiA rfl ?_))) ?_
    ·refine foA rfl rfl ?_; (try simp only [Act.put, zA, zB, zC]); (go_wp2_with fail); exact qsA rfl rfl
    refine FreeStepsF.cons (fun w4 hw4 => FreeStepF.of (by decide) (fiA rfl ?_)) ?_
    ·exact FreeStep.load_at 142 _ rfl rfl rfl rfl (by rfl) rfl rfl (ad.add ((k - 1) * 3)) 3 rfl ma.cl (fun j u hu => cell_keepB (w0 := wr) (HCA.out j u hu) hw4) _ Tryz.underlying142 rfl infoR_Pst (show ma.cl.length = 3 from rfl) rfl
    refine FreeStepsF.cons (fun w4 hw4 => FreeStepF.of (by decide) (fiA rfl (fiA rfl ?_))) ?_
    ·refine FreeStep.call rfl rfl rfl (by rfl) rfl rfl (by (try simp only [Act.put, zA, zB, zC]); go_simp) (HKC.out w4 ma) ?_
     rintro e w5 ⟨rfl, hb5⟩; exact ⟨_, rfl, hb5, rfl⟩
    refine FreeStepsF.cons (fun w4 hw4 => FreeStepF.of (by decide) ?_) ?_
    ·refine foA rfl rfl ?_; (try simp only [Act.put, zA, zB, zC]); (go_wp2_with fail); exact qsA rfl rfl
    refine FreeStepsF.cons (fun w4 hw4 => FreeStepF.of (by decide) ?_) ?_
    ·refine foA rfl rfl ?_; (try simp only [Act.put, zA, zB, zC]); (go_wp2_with fail); exact qsA rfl rfl
    refine FreeStepsF.cons (fun w4 hw4 => FreeStepF.of (by decide) ?_) ?_
    ·refine foA rfl rfl ?_; (try simp only [Act.put, zA, zB, zC]); (go_wp2_with fail); exact qsA rfl rfl
    refine FreeStepsF.cons (fun w4 hw4 => FreeStepF.of (by decide) (fiA rfl (fiA rfl ?_))) ?_
    ·refine foA rfl rfl ?_; (try simp only [Act.put, zA, zB, zC]); (go_wp2_with fail); exact qsA rfl rfl
    refine FreeStepsF.cons (fun w4 hw4 => FreeStepF.of (by decide) (fiA rfl ?_)) ?_
    ·exact FreeStep.load_at 142 _ rfl rfl rfl rfl (by rfl) rfl rfl (ad.add (k * 3)) 3 rfl mb.cl (fun j u hu => cell_keepB (w0 := wr) (HCB.out j u hu) hw4) _ Tryz.underlying142 rfl infoR_Pst (show mb.cl.length = 3 from rfl) rfl
    refine FreeStepsF.cons (fun w4 hw4 => FreeStepF.of (by decide) (fiA rfl (fiA rfl ?_))) ?_
    ·refine FreeStep.call rfl rfl rfl (by rfl) rfl rfl (by (try simp only [Act.put, zA, zB, zC]); go_simp) (HKC.out w4 mb) ?_
     rintro e w5 ⟨rfl, hb5⟩; exact ⟨_, rfl, hb5, rfl⟩
    refine FreeStepsF.cons (fun w4 hw4 => ?_) ?_
    ·refine FreeStepF.alloc 185 (.agg (key2 (0, 0)).toArray) rfl rfl rfl rfl (by rfl) rfl zero_k rfl ?_
     exact fun g w' h1 h2 h3 h4 => ⟨g, rfl, by have a1 := hw4.size; have a2 := HW.out.size; have a3 : wr.heap.size ≤ w4.heap.size := a1; omega, h1⟩
    refine FreeStepsF.cons (fun w4 hw4 => ?_) ?_
    ·refine FreeStepF.alloc 185 (.agg (key2 (0, 0)).toArray) rfl rfl rfl rfl (by rfl) rfl zero_k rfl ?_
     exact fun g w' h1 h2 h3 h4 => ⟨g, rfl, by have a1 := hw4.size; have a2 := HW.out.size; have a3 : wr.heap.size ≤ w4.heap.size := a1; omega, h1⟩
    exact FreeStepsF.nil
   case fin =>
    intro w4 hw4
    iterate 13 refine FreeEnd.is rfl ?_
    refine FreeEnd.cons rfl fun v1 hv1 => ?_
    obtain ⟨g1, rfl, hg1, hk1⟩ := hv1
    refine FreeEnd.cons rfl fun v2 hv2 => ?_
    obtain ⟨g2, rfl, hg2, hk2⟩ := hv2
    refine FreeEnd.nil ?_
    intro hap
    have hne : g1 ≠ g2 := hap 13 14 _ _ g1 g2 (by simp) (by simp) (by omega) rfl rfl (by (try simp only [Act.put, zA, zB, zC]); rfl) (by (try simp only [Act.put, zA, zB, zC]); rfl)
    clear hap
    (try simp only [Act.put, zA, zB, zC])
    simp only [List.length_cons, List.length_nil, Nat.reduceAdd, List.drop_succ_cons, List.drop_zero]
    have HW4 := Lib.hid (show Below wr.heap.size wr w4 from ((Below.refl _ _).drew).trans hw4)
    have HK1 := Lib.hid hk1
    have HK2 := Lib.hid hk2
    have HNE := Lib.hid hne
    have HG1 := Lib.hid hg1
    have HG2 := Lib.hid hg2
    clear hk1 hk2 hne hg1 hg2 hw4
    go_wp2_with (with_reducible show wpList _ _ _ (Oper.mk _ (Op.store 185 _ _) _ _ _ _ :: _) _ _; go_must (refine wpList_store_bk rfl 185 _ _ rfl g1 rfl (.agg (key2 (pstKey ma)).toArray) rfl _ _ HK1.out (by rw [agg_sz (key2_sz _)]; exact info_k) (by rw [agg_sz (key2_sz _)]; exact (key2_sz _).symm) (key2_one _) ?_))
    intro w5 h5 hg5 hs5
    have HK1b := Lib.hid (show Bk w5 g1 (key2 (pstKey ma)).toArray 185 from h5)
    have HK2b := Lib.hid (bk_other HK2.out hg5 HNE.out)
    have HW5 := Lib.hid (below_grown2 (HW.out.trans (HW4.out.mono HW.out.size)) hg5 HG1.out (HW.out.trans (HW4.out.mono HW.out.size)).size)
    clear h5 hg5 hs5 HK1 HK2 HW4 HW
    go_wp2_with (with_reducible show wpList _ _ _ (Oper.mk _ (Op.store 185 _ _) _ _ _ _ :: _) _ _; go_must (refine wpList_store_bk rfl 185 _ _ rfl g2 rfl (.agg (key2 (pstKey mb)).toArray) rfl _ _ HK2b.out (by rw [agg_sz (key2_sz _)]; exact info_k) (by rw [agg_sz (key2_sz _)]; exact (key2_sz _).symm) (key2_one _) ?_))
    intro w6 h6 hg6 hs6
    obtain ⟨⟨a1, a2⟩, hka⟩ : ∃ p, pstKey ma = p := ⟨_, rfl⟩
    obtain ⟨⟨b1, b2⟩, hkb⟩ : ∃ p, pstKey mb = p := ⟨_, rfl⟩
    have HA6 := Lib.hid (show Bk w6 g1 (key2 (a1, a2)).toArray 185 from bk_eqT (bk_other HK1b.out hg6 (Ne.symm HNE.out)) (by rw [hka]))
    have HB6 := Lib.hid (show Bk w6 g2 (key2 (b1, b2)).toArray 185 from bk_eqT h6 (by rw [← hkb]))
    have HW6 := Lib.hid (below_grown2 HW5.out hg6 HG2.out HW5.out.size)
    obtain ⟨q1, e1⟩ : ∃ q, decide (b1 < a1) = q := ⟨_, rfl⟩
    obtain ⟨q2, e2⟩ : ∃ q, (a1 == b1) = q := ⟨_, rfl⟩
    obtain ⟨q3, e3⟩ : ∃ q, decide (b2 ≤ a2) = q := ⟨_, rfl⟩
    have HBD := Lib.hid (show badKey (pstKey ma) (pstKey mb) = (q1 || (q2 && q3)) by rw [hka, hkb, ← e1, ← e2, ← e3]; rfl)
    have ca0 : w6.cell? ⟨g1, 0, none⟩ = some (.int .u64 a1) := HA6.out.cell 0
    have ca1 : w6.cell? ⟨g1, 1, none⟩ = some (.int .u64 a2) := HA6.out.cell 1
    have cb0 : w6.cell? ⟨g2, 0, none⟩ = some (.int .u64 b1) := HB6.out.cell 0
    have cb1 : w6.cell? ⟨g2, 1, none⟩ = some (.int .u64 b2) := HB6.out.cell 1
    have p6 : IntKind.i64.wrap ((k : Int) + 1) = (k : Int) + 1 := by rw [IntKind.wrap_i64]; omega
    clear h6 hg6 hs6 HK1b HK2b HW5 hka hkb HKC eg HCA HCB
    cases q1 with
    | true =>
     have HRR := Lib.hid (show (42 : Int) = R by rw [← HRI.out, HDR.out, HBD.out]; rfl)
     go_wp2
     go_ret
     exact ⟨ret_i64 HRR.out, HW6.out⟩
    | false =>
     cases q2 with
     | true =>
      cases q3 with
      | true =>
       have HRR := Lib.hid (show (42 : Int) = R by rw [← HRI.out, HDR.out, HBD.out]; rfl)
       go_wp2
       go_ret
       exact ⟨ret_i64 HRR.out, HW6.out⟩
      | false =>
       have HRR := Lib.hid (show risingE pstKey (xs.drop k) = R by rw [← HRI.out, HDR.out, HBD.out]; rfl)
       go_wp2
       go_round
       case rel => exact ⟨k + 1, by omega, by omega, by go_num, HRR.out, HW6.out⟩
       case measure => simp [intOf]; omega
     | false =>
      have HRR := Lib.hid (show risingE pstKey (xs.drop k) = R by rw [← HRI.out, HDR.out, HBD.out]; rfl)
      go_wp2
      go_round
      case rel => exact ⟨k + 1, by omega, by omega, by go_num, HRR.out, HW6.out⟩
      case measure => simp [intOf]; omega
  ·have hi : ¬ (k : Int) < n := by omega
   have HRR := Lib.hid (show (0 : Int) = R by rw [← HRI.out]; exact (rise_end pstKey (by rw [← HN.out]; omega)).symm)
   go_wp2
   go_ret
   exact ⟨ret_i64 HRR.out, HW.out⟩
end Go.Proofs.YtlhnhjglcbggmaaGreatRR

/-
  unused, plainParts. Conditions: each number fits its kind; lists lie in the world.
-/
import Derived.Test.YtlhnhjglcbggmaaGreatRRYPb9
namespace Go.Proofs.YtlhnhjglcbggmaaGreatRR
set_option linter.unusedSimpArgs false
set_option linter.unusedVariables false
open Go.RowKit
set_option maxRecDepth 100000

set_option maxHeartbeats 2000000 in
theorem plainParts_any (w : World) (p : Prts) (a : Nat) (A : Option Addr) (n c : Nat) (us : List PK) (hp : p.ok) (hat : p.at w) (hk : Bk w a p.cl.toArray 177) (hn : n = us.length) (hm : n ≤ 100) (hr : Rd w A (us.flatMap PK.cl)) :
  Calls Tryz.prog 96 #[.pointer (some ⟨a, 0, none⟩), .slice A n c] w fun e w' => e = .returned (.int .i64 (plainPrts p us)) ∧ Below w.heap.size w w' := by
 have HP := Lib.hid hp
 have HAT := Lib.hid hat
 have HK := Lib.hid hk
 have HN := Lib.hid hn
 have HR := Lib.hid hr
 have HLN := Lib.hid (pks_len us)
 clear hn hr hp hat hk
 go_enter Tryz.func96, Tryz.ntmps96
 go_wp2
 go_loopw [10] (fun i wr => ∃ k : Nat, k ≤ n ∧ i = .int .i64 (k : Int) ∧ (∀ e ∈ (us.take k).map (PK.plain p), e = 0) ∧ Below w.heap.size w wr) (fun i _ => n - (intOf i).toNat)
 case atStart => exact ⟨0, by omega, rfl, fun e he => (by simp at he), Below.refl _ _⟩
 case round =>
  obtain ⟨k, hk, rfl, h6, h9⟩ := hrel
  have HPL := Lib.hid h6
  have HW := Lib.hid h9
  clear h6 h9
  by_cases hlt : k < n
  ·have hkl : k < us.length := by rw [← HN.out]; exact hlt
   obtain ⟨ad, hA, hcell⟩ := rd_elem (by omega) HLN.out (HR.out.below HW.out) hkl
   obtain ⟨x, hxk⟩ : ∃ x, us[k] = x := ⟨_, rfl⟩
   have HTK := Lib.hid (show us.take (k + 1) = us.take k ++ [x] by rw [List.take_succ_eq_append_getElem hkl, hxk])
   have HEK := Lib.hid (show (us.map (PK.plain p))[k]? = some (PK.plain p x) by rw [List.getElem?_map, List.getElem?_eq_getElem hkl, hxk]; rfl)
   rw [hxk] at hcell
   have HCT := Lib.hid (fun (w1 : World) (h1 : p.at w1) (h2 : Bk w1 a p.cl.toArray 177) => plainPK_any x w1 p a HP.out h1 h2)
   have eg := PK.in1 x
   have h1f : x.cl.toArray[1]? = some (.func (.func x.f1) #[] #[]) := rfl
   obtain ⟨F, hF⟩ : ∃ F, x.f1 = F := ⟨_, rfl⟩
   rw [hF] at HCT eg h1f
   have HXL := Lib.hid x.cl_len
   have HXS := Lib.hid (show x.cl.toArray.size = 4 from rfl)
   have HXO := Lib.hid (pk_one x)
   obtain ⟨C, hC⟩ : ∃ C, x.cl = C := ⟨_, rfl⟩
   rw [hC] at hcell h1f HXL HXS HXO
   have HC := Lib.hid hcell
   have H1F := Lib.hid h1f
   subst hA
   clear hcell hxk hC hF h1f
   have hi : (k : Int) < n := by omega
   go_wp2_with (first
    | (with_reducible show wpList _ _ _ (Oper.mk (some 13) (Op.load _ _) _ _ _ _ :: _) _ _; go_must (refine wpList_load_at rfl 128 _ rfl (ad.add (k * 4)) 4 rfl C HC.out _ Tryz.underlying128 rfl info_Part HXL.out ?_))
    | (with_reducible show wpList _ _ _ (Oper.mk _ (Op.alloc _) _ _ _ _ :: _) _ _; refine wpList_alloc_i rfl 128 rfl (.agg zeroPart.toArray) zero_Part ?_))
   intro q w4 k4 l4 g4 s4
   have K4 := Lib.hid k4
   have L4 := Lib.hid l4
   have G4 := Lib.hid g4
   clear k4 l4 g4 s4
   go_wp2_with (with_reducible show wpList _ _ _ (Oper.mk _ (Op.store 128 _ _) _ _ _ _ :: _) _ _; go_must (refine wpList_store_bk rfl 128 _ _ rfl q rfl (.agg C.toArray) rfl _ _ K4.out (by rw [agg_sz HXS.out]; exact info_Part) (by rw [agg_sz HXS.out]; exact zeroPart_sz.symm) HXO.out ?_))
   intro w5 h5 hg5 hs5
   have L5 := Lib.hid (below_grown2 L4.out hg5 G4.out L4.out.size)
   have HW5 := Lib.hid (HW.out.trans (L5.out.mono HW.out.size))
   have c1 : w5.cell? ⟨q, 1, none⟩ = some (.func (.func F) #[] #[]) := ((show Bk w5 q C.toArray 128 from h5).cell 1).trans H1F.out
   clear h5 hg5 hs5 K4 L4 G4
   go_wp2_with fail
   refine (HCT.out w5 (HAT.out.below HW5.out) (HK.out.below HW5.out HK.out.lt)).mono ?_
   rintro e w6 ⟨rfl, hl6⟩
   have HW6 := Lib.hid (HW5.out.trans (hl6.mono HW5.out.size))
   clear hl6 c1 eg
   obtain ⟨E, hE⟩ : ∃ E, PK.plain p x = E := ⟨_, rfl⟩
   rw [hE] at HEK ⊢
   have HEE := Lib.hid hE
   clear hE
   by_cases hz : E = 0
   ·have f1 : (E != 0) = false := by simp [hz]
    have HZ := Lib.hid hz
    clear hz
    go_wp2
    go_round
    case rel =>
     refine ⟨k + 1, by omega, by go_num, fun e he => ?_, HW6.out⟩
     rw [HTK.out, List.map_append] at he
     rcases List.mem_append.1 he with he | he
     ·exact HPL.out e he
     ·rw [List.mem_singleton.1 he, HEE.out]; exact HZ.out
    case measure => simp [intOf]; omega
   ·have f1 : (E != 0) = true := by simp [hz]
    have HER := Lib.hid (show plainPrts p us = E by unfold plainPrts; exact firstErr_take_zero (by rw [← List.map_take]; exact HPL.out) HEK.out hz)
    clear hz
    go_wp2
    go_ret
    exact ⟨ret_i64 HER.out.symm, HW6.out⟩
  ·have hkn : k = n := by omega
   subst hkn
   have HTA := Lib.hid (show us.take k = us from List.take_of_length_le (by rw [HN.out]; exact Nat.le_refl _))
   have HER := Lib.hid (show plainPrts p us = 0 by
    unfold plainPrts; exact firstErr_all_zero (fun e he => HPL.out e (by rw [HTA.out]; exact he)))
   clear hlt
   go_wp2
   go_ret
   exact ⟨ret_i64 HER.out.symm, HW.out⟩

def ub (f : Nat → Bool) : List Value := [.bool (f 0), .bool (f 1), .bool (f 2), .bool (f 3), .bool (f 4), .bool (f 5), .bool (f 6), .bool (f 7), .bool (f 8), .bool (f 9)]
theorem ub_sz (f : Nat → Bool) : (ub f).toArray.size = 10 := rfl
theorem ub_at (f : Nat → Bool) : ∀ m, m < 10 → (ub f).toArray[m]? = some (.bool (f m))
 | 0, _ => rfl
 | 1, _ => rfl
 | 2, _ => rfl
 | 3, _ => rfl
 | 4, _ => rfl
 | 5, _ => rfl
 | 6, _ => rfl
 | 7, _ => rfl
 | 8, _ => rfl
 | 9, _ => rfl
 | m + 10, h => by omega
theorem ub_set (f : Nat → Bool) : ∀ m, m < 10 → (ub f).toArray.setIfInBounds m (.bool true) = (ub fun i => i == m || f i).toArray
 | 0, _ => rfl
 | 1, _ => rfl
 | 2, _ => rfl
 | 3, _ => rfl
 | 4, _ => rfl
 | 5, _ => rfl
 | 6, _ => rfl
 | 7, _ => rfl
 | 8, _ => rfl
 | 9, _ => rfl
 | m + 10, h => by omega
theorem ub_congr {f g : Nat → Bool} (h : ∀ m, f m = g m) : ub f = ub g := by rw [show f = g from funext h]
theorem zero_ub : (Tryz.prog.info? 227).bind (·.zero) = some (.agg (ub fun _ => false).toArray) := by kernel_rfl
theorem info_ub : (Tryz.prog.info? 227).map (·.size) = some 10 := by kernel_rfl
theorem run_index10 (f : Nat → Bool) (w : World) : ∀ k : Nat, k < 10 → (Instr.index 227 (.agg (ub f).toArray) (.int .i64 (k : Int))).run Tryz.prog w = .ok (.bool (f k)) w
 | 0, _ => by kernel_rfl
 | 1, _ => by kernel_rfl
 | 2, _ => by kernel_rfl
 | 3, _ => by kernel_rfl
 | 4, _ => by kernel_rfl
 | 5, _ => by kernel_rfl
 | 6, _ => by kernel_rfl
 | 7, _ => by kernel_rfl
 | 8, _ => by kernel_rfl
 | 9, _ => by kernel_rfl
 | k + 10, h => by omega
theorem exec_index10 {ρ : Operand → Value} {o : Oper} {x y : Operand} (f : Nat → Bool) (k : Nat) (hk : k < 10) (b : Bool) (hb : f k = b) (ho : o.op = .index 227 x y) (hx : ρ x = .agg (ub f).toArray) (hy : ρ y = .int .i64 (k : Int)) (w : World) : (execOp ρ o).run Tryz.prog w = .ok (.value (.bool b)) w := by
 subst hb
 unfold execOp
 simp only [ho, hx, hy, Sem.run_bind, Sem.run_pure, run_index10 f w k hk, Result.andThen_ok]
theorem member_lt (k : PK) : k.member < 10 := by cases k <;> decide
def usedF (us : List PK) (m : Nat) : Bool := (us.map PK.member).contains m
theorem usedF_take {us : List PK} {k : Nat} {x : PK} (h : us.take (k + 1) = us.take k ++ [x]) (m : Nat) : (m == x.member || usedF (us.take k) m) = usedF (us.take (k + 1)) m := by
 unfold usedF
 rw [h, List.map_append, List.contains_append]
 simp [Bool.or_comm]
 rfl
def badK (p : Prts) (us : List PK) (k : Nat) : Prop := ∀ m, m < k → (!usedF us m && !p.zero m) = false

set_option maxHeartbeats 4000000 in
theorem unused_any (w : World) (p : Prts) (a : Nat) (A : Option Addr) (n c : Nat) (us : List PK) (hp : p.ok) (hk : Bk w a p.cl.toArray 177) (hn : n = us.length) (hm : n ≤ 100) (hr : Rd w A (us.flatMap PK.cl)) :
  Calls Tryz.prog 95 #[.pointer (some ⟨a, 0, none⟩), .slice A n c] w fun e w' => e = .returned (.int .i64 (unusedErr p us)) ∧ Below w.heap.size w w' := by
 have HP := Lib.hid hp
 have HK := Lib.hid hk
 have HN := Lib.hid hn
 have HR := Lib.hid hr
 have HLN := Lib.hid (pks_len us)
 clear hn hr hp hk
 go_enter Tryz.func95, Tryz.ntmps95
 go_wp2_with (with_reducible show wpList _ _ _ (Oper.mk _ (Op.alloc _) _ _ _ _ :: _) _ _; refine wpList_alloc_i rfl 227 rfl (.agg (ub fun _ => false).toArray) zero_ub ?_)
 intro u w1 h1 hl1 hg1 hs1
 have HU1 := Lib.hid (show Bk w1 u (ub fun _ => false).toArray 227 from h1)
 have HW1 := Lib.hid hl1
 have HGU := Lib.hid hg1
 clear h1 hl1 hg1 hs1
 go_wp2
 go_loopw [12] (fun i wr => ∃ k : Nat, k ≤ n ∧ i = .int .i64 (k : Int) ∧ Bk wr u (ub (usedF (us.take k))).toArray 227 ∧ Below w.heap.size w wr) (fun i _ => n - (intOf i).toNat)
 case atStart => exact ⟨0, by omega, rfl, HU1.out, HW1.out⟩
 case round =>
  clear HU1 HW1
  obtain ⟨k, hk, rfl, h6, h9⟩ := hrel
  have HU := Lib.hid h6
  have HW := Lib.hid h9
  clear h6 h9
  by_cases hlt : k < n
  ·have hkl : k < us.length := by rw [← HN.out]; exact hlt
   obtain ⟨ad, hA, hcell⟩ := rd_elem (by omega) HLN.out (HR.out.below HW.out) hkl
   obtain ⟨x, hxk⟩ : ∃ x, us[k] = x := ⟨_, rfl⟩
   have HTK := Lib.hid (usedF_take (show us.take (k + 1) = us.take k ++ [x] by rw [List.take_succ_eq_append_getElem hkl, hxk]))
   rw [hxk] at hcell
   have hm10 := member_lt x
   have h1f : x.cl.toArray[0]? = some (.int .i64 (x.member : Int)) := rfl
   have HXL := Lib.hid x.cl_len
   have HXS := Lib.hid (show x.cl.toArray.size = 4 from rfl)
   have HXO := Lib.hid (pk_one x)
   obtain ⟨m, hmm⟩ : ∃ m, x.member = m := ⟨_, rfl⟩
   rw [hmm] at h1f hm10 HTK
   obtain ⟨C, hC⟩ : ∃ C, x.cl = C := ⟨_, rfl⟩
   rw [hC] at hcell h1f HXL HXS HXO
   have HC := Lib.hid hcell
   have H1F := Lib.hid h1f
   subst hA
   clear hcell hxk hC hmm h1f
   have hi : (k : Int) < n := by omega
   go_wp2_with (first
    | (with_reducible show wpList _ _ _ (Oper.mk (some 15) (Op.load _ _) _ _ _ _ :: _) _ _; go_must (refine wpList_load_at rfl 128 _ rfl (ad.add (k * 4)) 4 rfl C HC.out _ Tryz.underlying128 rfl info_Part HXL.out ?_))
    | (with_reducible show wpList _ _ _ (Oper.mk _ (Op.alloc _) _ _ _ _ :: _) _ _; refine wpList_alloc_i rfl 128 rfl (.agg zeroPart.toArray) zero_Part ?_))
   intro q w4 k4 l4 g4 s4
   have K4 := Lib.hid k4
   have L4 := Lib.hid l4
   have G4 := Lib.hid g4
   clear k4 l4 g4 s4
   go_wp2_with (with_reducible show wpList _ _ _ (Oper.mk _ (Op.store 128 _ _) _ _ _ _ :: _) _ _; go_must (refine wpList_store_bk rfl 128 _ _ rfl q rfl (.agg C.toArray) rfl _ _ K4.out (by rw [agg_sz HXS.out]; exact info_Part) (by rw [agg_sz HXS.out]; exact zeroPart_sz.symm) HXO.out ?_))
   intro w5 h5 hg5 hs5
   have L5 := Lib.hid (below_grown2 L4.out hg5 G4.out L4.out.size)
   have HW5 := Lib.hid (HW.out.trans (L5.out.mono HW.out.size))
   have HU5 := Lib.hid (HU.out.below L5.out HU.out.lt)
   have c1 : w5.cell? ⟨q, 0, none⟩ = some (.int .i64 (m : Int)) := ((show Bk w5 q C.toArray 128 from h5).cell 0).trans H1F.out
   have c2 : w5.cell? ⟨u, m, none⟩ = some (.bool (usedF (us.take k) m)) := (HU5.out.cell m).trans (ub_at _ m hm10)
   have c3 := HU5.out.frozen m
   have hm0 : (0 : Int) ≤ (m : Int) := by omega
   have hm1 : (m : Int) < 10 := by omega
   clear h5 hg5 hs5 K4 L4 G4
   go_wp2
   go_round
   case rel =>
    refine ⟨k + 1, by omega, by go_num, ?_, HW5.out.setCell (p := ⟨u, m, none⟩) HGU.out _⟩
    have h := HU5.out.set_ m (.bool true)
    rw [ub_set _ m hm10, ub_congr HTK.out] at h
    exact h
   case measure => simp [intOf]; omega
  ·have hkn : k = n := by omega
   subst hkn
   have HTA := Lib.hid (show us.take k = us from List.take_of_length_le (by rw [HN.out]; exact Nat.le_refl _))
   rw [HTA.out] at HU
   clear hlt HTA
   go_wp2_with (with_reducible show wpList _ _ _ (Oper.mk (some 20) (Op.load _ _) _ _ _ _ :: _) _ _; go_must (refine wpList_load_part rfl 227 _ rfl u 0 10 rfl _ _ _ HU.out Tryz.underlying227 rfl info_ub (by rw [ub_sz]; omega) _ (arr_all (ub_sz _)) ?_))
   go_loopw [21] (fun i wr => ∃ j : Nat, j ≤ 10 ∧ i = .int .i64 (j : Int) ∧ badK p us j ∧ Below w.heap.size w wr) (fun i _ => 10 - (intOf i).toNat)
   case atStart => exact ⟨0, by omega, rfl, fun m hm => (by omega), HW.out⟩
   case round =>
    clear HU HW
    obtain ⟨j, hj, rfl, h7, h8⟩ := hrel
    have HBD := Lib.hid h7
    have HW2 := Lib.hid h8
    clear h7 h8
    by_cases hlt : j < 10
    ·have hi : (j : Int) < 10 := by omega
     obtain ⟨b, hb⟩ : ∃ b, usedF us j = b := ⟨_, rfl⟩
     obtain ⟨z, hz⟩ : ∃ z, p.zero j = z := ⟨_, rfl⟩
     have HB := Lib.hid hb
     have HZ := Lib.hid hz
     have HZC := Lib.hid (show ∀ wx, Bk wx a p.cl.toArray 177 → Calls Tryz.prog 142 #[.pointer (some ⟨a, 0, none⟩), .int .i64 (j : Int)] wx fun e w' => e = .returned (.bool z) ∧ Below wx.heap.size wx w' from fun wx hx => by rw [← hz]; exact zero_any wx p a j hlt HP.out hx)
     clear hb hz
     cases b
     ·go_wp2_with (first
       | (with_reducible show wpList _ _ _ (Oper.mk _ (Op.index _ _ _) _ _ _ _ :: _) _ _; go_must (refine wpList_exec rfl (exec_index10 (usedF us) j hlt false HB.out rfl rfl rfl) ?_))
       | (go_at_call 142; go_must (refine (HZC.out _ (HK.out.below HW2.out HK.out.lt)).mono ?_); rintro e w6 ⟨rfl, hl6⟩; have HW6 := Lib.hid (HW2.out.trans (hl6.mono HW2.out.size)); clear hl6; cases z))
      ·go_ret
       exact ⟨ret_i64 (by unfold unusedErr; rw [List.any_eq_true.2 ⟨j, List.mem_range.2 hlt, by rw [show (us.map PK.member).contains j = usedF us j from rfl, HB.out, HZ.out]; rfl⟩]; rfl), HW6.out⟩
      ·go_round
       case rel =>
        refine ⟨j + 1, by omega, by go_num, fun m hm => ?_, HW6.out⟩
        rcases Nat.lt_or_ge m j with h | h
        ·exact HBD.out m h
        ·rw [show m = j by omega, HB.out, HZ.out]; rfl
       case measure => simp [intOf]; omega
     ·go_wp2_with (with_reducible show wpList _ _ _ (Oper.mk _ (Op.index _ _ _) _ _ _ _ :: _) _ _; go_must (refine wpList_exec rfl (exec_index10 (usedF us) j hlt true HB.out rfl rfl rfl) ?_))
      go_round
      case rel =>
       refine ⟨j + 1, by omega, by go_num, fun m hm => ?_, HW2.out⟩
       rcases Nat.lt_or_ge m j with h | h
       ·exact HBD.out m h
       ·rw [show m = j by omega, HB.out]; rfl
      case measure => simp [intOf]; omega
    ·have hj10 : j = 10 := by omega
     subst hj10
     have HER := Lib.hid (show unusedErr p us = 0 by
      unfold unusedErr
      rw [show ((List.range 10).any fun k => !(us.map PK.member).contains k && !p.zero k) = false from ?_]
      ·rfl
      ·rw [List.any_eq_false]
       intro m hm
       have := HBD.out m (List.mem_range.1 hm)
       unfold usedF at this
       rw [this]; decide)
     clear hlt
     go_wp2
     go_ret
     exact ⟨ret_i64 HER.out.symm, HW2.out⟩
end Go.Proofs.YtlhnhjglcbggmaaGreatRR

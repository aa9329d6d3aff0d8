/-
  PlainEvidence. Condition: each number fits its kind.
-/
import Derived.Test.YtlhnhjglcbggmaaGreatRRY09
import Derived.Test.YtlhnhjglcbggmaaGreatRRYInv
namespace Go.Proofs.YtlhnhjglcbggmaaGreatRR
set_option linter.unusedSimpArgs false
set_option linter.unusedVariables false
open Go.RowKit
set_option maxRecDepth 100000

def zeroVote : List Value := [.int .i64 0, .int .u64 0, .int .i64 0] ++ bv (zer 32) ++ [.int .u64 0, .int .u64 0] ++ bv (zer 16)
theorem zero_Vote : (Tryz.prog.info? 31).bind (·.zero) = some (.agg zeroVote.toArray) := by kernel_rfl
theorem zeroVote_len : zeroVote.length = 53 := rfl
def unlike (x : Ev) : Bool := (x.a.kind != x.b.kind) || (x.a.height != x.b.height) || (x.a.round != x.b.round) || (x.a.frm != x.b.frm)
def headEv (x : Ev) : Int := firstErr [plainVote x.a, plainVote x.b, field (unlike x)]
def plainEv (x : Ev) : Int := if headEv x ≠ 0 then headEv x else if 0 ≤ Lib.compareBytes x.a.id x.b.id then 42 else 0
theorem vote_one (x : Vote) : ∀ u ∈ (Value.agg x.cl.toArray).cells.toList, u.oneCell' = true := by
 intro u hu
 simp only [Value.cells, Vote.cl, List.mem_append, List.mem_cons, List.not_mem_nil, or_false] at hu
 rcases hu with (((rfl | rfl | rfl) | hu) | (rfl | rfl)) | hu
 all_goals first | rfl | exact bv_one _ u (by simpa [Value.cells] using hu)

theorem vote_id (x : Vote) (hi : x.id.length = 32) (j : Nat) (u : Value) (h : (bv x.id)[j]? = some u) : x.cl.toArray[3 + j]? = some u := by
 have e : x.cl = [.int .i64 x.kind, .int .u64 x.height, .int .i64 x.round] ++ (bv x.id ++ ([.int .u64 x.time, .int .u64 x.frm] ++ bv x.sl)) := by simp [Vote.cl]
 rw [List.getElem?_toArray, e, List.getElem?_append_right (by simp)]
 have hl := (List.getElem?_eq_some_iff.1 h).1
 simp only [List.length_cons, List.length_nil, Nat.add_sub_cancel_left]
 rw [List.getElem?_append_left hl]
 exact h
set_option maxHeartbeats 16000000 in
theorem plainEv_any (w : World) (x : Ev) (hx : x.ok) :
  Calls Tryz.prog 42 #[.agg x.cl.toArray] w fun e w' => e = .returned (.int .i64 (plainEv x)) ∧ Below w.heap.size w w' := by
 have HX := Lib.hid hx
 have HL := Lib.hid (x.cl_len hx)
 have LA := Lib.hid (x.a.cl_len hx.a)
 have LB := Lib.hid (x.b.cl_len hx.b)
 obtain ⟨EA, hEA⟩ : ∃ E, plainVote x.a = E := ⟨_, rfl⟩
 obtain ⟨EB, hEB⟩ : ∃ E, plainVote x.b = E := ⟨_, rfl⟩
 obtain ⟨q1, h1⟩ : ∃ q, (x.a.kind != x.b.kind) = q := ⟨_, rfl⟩
 obtain ⟨q2, h2⟩ : ∃ q, (x.a.height != x.b.height) = q := ⟨_, rfl⟩
 obtain ⟨q3, h3⟩ : ∃ q, (x.a.round != x.b.round) = q := ⟨_, rfl⟩
 obtain ⟨q4, h4⟩ : ∃ q, (x.a.frm != x.b.frm) = q := ⟨_, rfl⟩
 obtain ⟨E, hEE⟩ : ∃ E, headEv x = E := ⟨_, rfl⟩
 have HEE := Lib.hid hEE
 have HHD := Lib.hid (show E = firstErr [EA, EB, field (q1 || q2 || q3 || q4)] by rw [← hEE]; unfold headEv unlike; rw [hEA, hEB, h1, h2, h3, h4])
 have HEA := Lib.hid hEA
 have HEB := Lib.hid hEB
 clear hx hEA hEB hEE
 go_enter Tryz.func42, Tryz.ntmps42
 go_wp2_with (with_reducible show wpList _ _ _ (Oper.mk _ (Op.box _ _) _ _ _ _ :: _) _ _; refine wpList_box_bk rfl _ _ rfl _ rfl ?_)
 intro g w1 hk hbl hg hs
 clear hg hs
 have HK := Lib.hid (show Bk w1.drew g x.cl.toArray 38 from (bk_eqT (cs' := x.cl.toArray) hk rfl).drew)
 have HB1 := Lib.hid hbl
 clear hk hbl
 go_wp2_with fail
 refine wp_region_inv (by kernel_rfl) (by kernel_rfl) (PairI w1.heap.size g 53 x.a.cl x.b.cl zeroVote 31 w1.drew _) (PairI.start rfl (by rfl)) ?hstep ?hend
 case hstep =>
  intro L a w4 i o hs hI hun ho haf
  have hs8 : L.size = 8 := hs
  have hi8 : i < 8 := (Array.getElem?_eq_some_iff.1 ho).1
  have hts : 9 < a.tmps.size := by rw [hI.size]; exact (by decide : (9 : Nat) < 52)
  have e1 : a.tmps.getD 1 undef = .pointer (some ⟨g, 0, none⟩) := hI.off 1 (by decide) (by decide) (by decide) (by decide) (by decide) (by decide)
  have hsz : w1.heap.size ≤ w4.heap.size := hI.rely.size
  have hu6 : ∀ (hh : L.getD 6 true = false), L.getD 6 false = false := fun hh => getD_both hh
  rcases i with _ | _ | _ | _ | _ | _ | _ | _ | i
  ·injection ho with ho; subst ho
   refine wpList_detI (.pointer (some ⟨g, 0, none⟩)) rfl ?_ (hI.put0 (by omega))
   go_simp
  ·injection ho with ho; subst ho
   have v0 := hI.v0 (haf ⟨0, .data⟩ (by simp) rfl)
   refine wpList_load_part rfl 31 _ rfl g 0 53 v0 _ _ _ (HK.out.below hI.rely HK.out.lt) Tryz.underlying31 rfl info_Vote (by simp [HL.out]) _ (x.cl_a HX.out) ?_
   exact hI.put1 (by omega)
  ·injection ho with ho; subst ho
   refine wpList_detI (.pointer (some ⟨g, 53, none⟩)) rfl ?_ (hI.put2 (by omega))
   go_simp
  ·injection ho with ho; subst ho
   have v2 := hI.v2 (haf ⟨2, .data⟩ (by simp) rfl)
   refine wpList_load_part rfl 31 _ rfl g 53 53 v2 _ _ _ (HK.out.below hI.rely HK.out.lt) Tryz.underlying31 rfl info_Vote (by simp [HL.out]) _ (x.cl_b HX.out) ?_
   exact hI.put3 (by omega)
  ·injection ho with ho; subst ho
   refine wpList_alloc_bk rfl 31 rfl (.agg zeroVote.toArray) zero_Vote fun q w5 k1 k2 k3 k4 => ?_
   exact hI.new4 (getD_both hun) (by omega) (by omega) k1 k2 (by omega) hsz
  ·injection ho with ho; subst ho
   refine wpList_alloc_bk rfl 31 rfl (.agg zeroVote.toArray) zero_Vote fun q w5 k1 k2 k3 k4 => ?_
   exact hI.new5 (getD_both hun) (by omega) (by omega) k1 k2 (by omega) hsz
  ·injection ho with ho; subst ho
   have l4 := haf ⟨4, .data⟩ (by simp) rfl
   have l5 := haf ⟨5, .phase⟩ (by simp) rfl
   have v1 := hI.v1 (haf ⟨1, .data⟩ (by simp) rfl)
   obtain ⟨q, p3, b3, k3⟩ := hI.v4 l4
   rw [getD_both hun] at k3
   refine wpList_store_bk rfl 31 _ _ rfl q p3 (.agg x.a.cl.toArray) v1 _ _ k3 (by rw [show (Value.agg x.a.cl.toArray).cells.size = 53 by simp [Value.cells, LA.out]]; exact info_Vote) (by simp [Value.cells, LA.out]; rfl) (vote_one x.a) fun w5 h5 hg5 hs5 => ?_
   exact hI.set6 (by omega) l4 l5 p3 b3 h5 hg5 hsz
  ·injection ho with ho; subst ho
   have l4 := haf ⟨4, .phase⟩ (by simp) rfl
   have l5 := haf ⟨5, .data⟩ (by simp) rfl
   have v3 := hI.v3 (haf ⟨3, .data⟩ (by simp) rfl)
   obtain ⟨q, p4, b4, k4⟩ := hI.v5 l5
   rw [getD_both hun] at k4
   refine wpList_store_bk rfl 31 _ _ rfl q p4 (.agg x.b.cl.toArray) v3 _ _ k4 (by rw [show (Value.agg x.b.cl.toArray).cells.size = 53 by simp [Value.cells, LB.out]]; exact info_Vote) (by simp [Value.cells, LB.out]; rfl) (vote_one x.b) fun w5 h5 hg5 hs5 => ?_
   exact hI.set7 (by omega) l4 l5 p4 b4 h5 hg5 hsz
  ·omega
 case hend =>
  intro L a w5 hI hall
  obtain ⟨r3, r4, hne, b3, b4, k3, k4, hrel, rfl⟩ := hI.done (by decide : (9 : Nat) < 52) hall
  have HW5 := Lib.hid (show Below w.heap.size w w5 from HB1.out.drew.trans (hrel.mono HB1.out.size))
  have H3 := Lib.hid (show Bk w5.drew r3 x.a.cl.toArray 31 from k3.drew)
  have H4 := Lib.hid (show Bk w5.drew r4 x.b.cl.toArray 31 from k4.drew)
  clear hI hall k3 k4 hne b3 b4 hrel HK HB1
  (try simp only [Act.put, zA, zB, zC])
  refine wpList_end (P := Tryz.prog) (ops := #[]) ?_
  go_wp2_with fail

  have HZ := Lib.hid (show Below w.heap.size w w5.drew from HW5.out.drew)
  go_cut [5] (fun v5 wx => v5 = .int .i64 E ∧ Below w.heap.size w wx ∧ Bk wx r3 x.a.cl.toArray 31 ∧ Bk wx r4 x.b.cl.toArray 31)
  case first =>
   rcases q1 with _ | _
   ·rcases q2 with _ | _
    ·rcases q3 with _ | _
     ·rcases q4 with _ | _
      ·refine wp_region_freeG [(10, []), (11, [(0, 10)]), (12, []), (13, [(2, 12)]), (14, []), (15, [(4, 14)]), (16, []), (17, [(6, 16)]), (18, [(5, 15), (7, 17)]), (19, [(8, 18)]), (20, [(9, 19)]), (21, [(10, 20), (9, 19)]), (22, [(9, 19)]), (23, [(12, 22), (9, 19)]), (24, [(11, 21), (13, 23), (9, 19)]), (25, [(9, 19), (14, 24)]), (26, [(15, 25)]), (27, [(16, 26)]), (28, [(17, 27), (16, 26)]), (29, [(16, 26)]), (30, [(19, 29), (16, 26)]), (31, [(18, 28), (20, 30), (16, 26)]), (32, [(16, 26), (21, 31)]), (33, [(22, 32)]), (34, [(23, 33)]), (35, [(24, 34), (23, 33)]), (36, [(23, 33)]), (37, [(26, 36), (23, 33)]), (38, [(25, 35), (27, 37), (23, 33)]), (39, [(23, 33), (28, 38)]), (40, [(29, 39)])]
        [Is (.agg x.a.cl.toArray), Is (.int .i64 EA), Is (.agg x.b.cl.toArray), Is (.int .i64 EB), Is (.pointer (some ⟨r3, 0, none⟩)), Is (.int .i64 x.a.kind), Is (.pointer (some ⟨r4, 0, none⟩)), Is (.int .i64 x.b.kind), Is (.bool false), Is (.bool false), Is (.pointer (some ⟨r3, 1, none⟩)), Is (.int .u64 x.a.height), Is (.pointer (some ⟨r4, 1, none⟩)), Is (.int .u64 x.b.height), Is (.bool false), Is (.bool false), Is (.bool false), Is (.pointer (some ⟨r3, 2, none⟩)), Is (.int .i64 x.a.round), Is (.pointer (some ⟨r4, 2, none⟩)), Is (.int .i64 x.b.round), Is (.bool false), Is (.bool false), Is (.bool false), Is (.pointer (some ⟨r3, 36, none⟩)), Is (.int .u64 x.a.frm), Is (.pointer (some ⟨r4, 36, none⟩)), Is (.int .u64 x.b.frm), Is (.bool false), Is (.bool false), Is (.int .i64 (field false))]
        (by kernel_rfl) (by kernel_rfl) (by rfl) ?st ?steps ?fin
       case st => exact ⟨Is.steady _, Is.steady _, Is.steady _, Is.steady _, Is.steady _, Is.steady _, Is.steady _, Is.steady _, Is.steady _, Is.steady _, Is.steady _, Is.steady _, Is.steady _, Is.steady _, Is.steady _, Is.steady _, Is.steady _, Is.steady _, Is.steady _, Is.steady _, Is.steady _, Is.steady _, Is.steady _, Is.steady _, Is.steady _, Is.steady _, Is.steady _, Is.steady _, Is.steady _, Is.steady _, Is.steady _, trivial⟩
       case steps =>
        refine fcA (fun w4 hw4 => ?_) ?_
        ·refine FreeStep.load_part 31 _ rfl rfl rfl rfl (by rfl) rfl rfl r3 0 53 rfl _ _ _ (H3.out.below hw4 H3.out.lt) Tryz.underlying31 rfl info_Vote (by simp [LA.out]) _ (cl_allN LA.out) ?_
         with_reducible rfl
        refine fcA (fun w4 hw4 => fiA rfl ?_) ?_
        ·refine FreeStep.call rfl rfl rfl (by rfl) rfl rfl (by (try simp only [Act.put, zA, zB, zC]); go_simp; (try with_reducible rfl)) (plainVote_any w4 x.a HX.out.a) ?_
         rintro e w5 ⟨rfl, hb5⟩; exact ⟨_, rfl, hb5, by rw [HEA.out]; rfl⟩
        refine fcA (fun w4 hw4 => ?_) ?_
        ·refine FreeStep.load_part 31 _ rfl rfl rfl rfl (by rfl) rfl rfl r4 0 53 rfl _ _ _ (H4.out.below hw4 H4.out.lt) Tryz.underlying31 rfl info_Vote (by simp [LB.out]) _ (cl_allN LB.out) ?_
         with_reducible rfl
        refine fcA (fun w4 hw4 => fiA rfl ?_) ?_
        ·refine FreeStep.call rfl rfl rfl (by rfl) rfl rfl (by (try simp only [Act.put, zA, zB, zC]); go_simp; (try with_reducible rfl)) (plainVote_any w4 x.b HX.out.b) ?_
         rintro e w5 ⟨rfl, hb5⟩; exact ⟨_, rfl, hb5, by rw [HEB.out]; rfl⟩
        refine fcA (fun w4 hw4 => ?_) ?_
        ·refine foA rfl rfl ?_; (try simp only [Act.put, zA, zB, zC]); (go_wp2_with fail); exact qsA rfl rfl
        refine fcA (fun w4 hw4 => fiA rfl ?_) ?_
        ·have c : w4.cell? ⟨r3, 0, none⟩ = some (.int .i64 x.a.kind) := ((H3.out.below hw4 H3.out.lt).cell 0)
         refine foA rfl rfl ?_; (try simp only [Act.put, zA, zB, zC]); (go_wp2_with fail); exact qsA rfl rfl
        refine fcA (fun w4 hw4 => ?_) ?_
        ·refine foA rfl rfl ?_; (try simp only [Act.put, zA, zB, zC]); (go_wp2_with fail); exact qsA rfl rfl
        refine fcA (fun w4 hw4 => fiA rfl ?_) ?_
        ·have c : w4.cell? ⟨r4, 0, none⟩ = some (.int .i64 x.b.kind) := ((H4.out.below hw4 H4.out.lt).cell 0)
         refine foA rfl rfl ?_; (try simp only [Act.put, zA, zB, zC]); (go_wp2_with fail); exact qsA rfl rfl
        refine fcA (fun w4 hw4 => fiA rfl (fiA rfl ?_)) ?_
        ·refine foA rfl rfl ?_; (try simp only [Act.put, zA, zB, zC]); (go_wp2_with fail); exact qsA rfl rfl
        refine fcA (fun w4 hw4 => fiA rfl ?_) ?_
        ·refine foA rfl rfl ?_; (try simp only [Act.put, zA, zB, zC]); (go_wp2_with fail); exact qsA rfl rfl
        refine fcA (fun w4 hw4 => fiA rfl ?_) ?_
        ·refine foA rfl rfl ?_; (try simp only [Act.put, zA, zB, zC]); (go_wp2_with fail); exact qsA rfl rfl
        refine fcA (fun w4 hw4 => fiA rfl (fiA rfl ?_)) ?_
        ·have c : w4.cell? ⟨r3, 1, none⟩ = some (.int .u64 x.a.height) := ((H3.out.below hw4 H3.out.lt).cell 1)
         refine foA rfl rfl ?_; (try simp only [Act.put, zA, zB, zC]); (go_wp2_with fail); exact qsA rfl rfl
        refine fcA (fun w4 hw4 => fiA rfl ?_) ?_
        ·refine foA rfl rfl ?_; (try simp only [Act.put, zA, zB, zC]); (go_wp2_with fail); exact qsA rfl rfl
        refine fcA (fun w4 hw4 => fiA rfl (fiA rfl ?_)) ?_
        ·have c : w4.cell? ⟨r4, 1, none⟩ = some (.int .u64 x.b.height) := ((H4.out.below hw4 H4.out.lt).cell 1)
         refine foA rfl rfl ?_; (try simp only [Act.put, zA, zB, zC]); (go_wp2_with fail); exact qsA rfl rfl
        refine fcA (fun w4 hw4 => fiA rfl (fiA rfl (fiA rfl ?_))) ?_
        ·refine foA rfl rfl ?_; (try simp only [Act.put, zA, zB, zC]); (go_wp2_with fail); exact qsA rfl rfl
        refine fcA (fun w4 hw4 => fiA rfl (fiA rfl ?_)) ?_
        ·refine foA rfl rfl ?_; (try simp only [Act.put, zA, zB, zC]); (go_wp2_with fail); exact qsA rfl rfl
        refine fcA (fun w4 hw4 => fiA rfl ?_) ?_
        ·refine foA rfl rfl ?_; (try simp only [Act.put, zA, zB, zC]); (go_wp2_with fail); exact qsA rfl rfl
        refine fcA (fun w4 hw4 => fiA rfl ?_) ?_
        ·refine foA rfl rfl ?_; (try simp only [Act.put, zA, zB, zC]); (go_wp2_with fail); exact qsA rfl rfl
        refine fcA (fun w4 hw4 => fiA rfl (fiA rfl ?_)) ?_
        ·have c : w4.cell? ⟨r3, 2, none⟩ = some (.int .i64 x.a.round) := ((H3.out.below hw4 H3.out.lt).cell 2)
         refine foA rfl rfl ?_; (try simp only [Act.put, zA, zB, zC]); (go_wp2_with fail); exact qsA rfl rfl
        refine fcA (fun w4 hw4 => fiA rfl ?_) ?_
        ·refine foA rfl rfl ?_; (try simp only [Act.put, zA, zB, zC]); (go_wp2_with fail); exact qsA rfl rfl
        refine fcA (fun w4 hw4 => fiA rfl (fiA rfl ?_)) ?_
        ·have c : w4.cell? ⟨r4, 2, none⟩ = some (.int .i64 x.b.round) := ((H4.out.below hw4 H4.out.lt).cell 2)
         refine foA rfl rfl ?_; (try simp only [Act.put, zA, zB, zC]); (go_wp2_with fail); exact qsA rfl rfl
        refine fcA (fun w4 hw4 => fiA rfl (fiA rfl (fiA rfl ?_))) ?_
        ·refine foA rfl rfl ?_; (try simp only [Act.put, zA, zB, zC]); (go_wp2_with fail); exact qsA rfl rfl
        refine fcA (fun w4 hw4 => fiA rfl (fiA rfl ?_)) ?_
        ·refine foA rfl rfl ?_; (try simp only [Act.put, zA, zB, zC]); (go_wp2_with fail); exact qsA rfl rfl
        refine fcA (fun w4 hw4 => fiA rfl ?_) ?_
        ·refine foA rfl rfl ?_; (try simp only [Act.put, zA, zB, zC]); (go_wp2_with fail); exact qsA rfl rfl
        refine fcA (fun w4 hw4 => fiA rfl ?_) ?_
        ·refine foA rfl rfl ?_; (try simp only [Act.put, zA, zB, zC]); (go_wp2_with fail); exact qsA rfl rfl
        refine fcA (fun w4 hw4 => fiA rfl (fiA rfl ?_)) ?_
        ·have c : w4.cell? ⟨r3, 36, none⟩ = some (.int .u64 x.a.frm) := ((H3.out.below hw4 H3.out.lt).cell 36).trans (x.a.cl_36 HX.out.a.id)
         refine foA rfl rfl ?_; (try simp only [Act.put, zA, zB, zC]); (go_wp2_with fail); exact qsA rfl rfl
        refine fcA (fun w4 hw4 => fiA rfl ?_) ?_
        ·refine foA rfl rfl ?_; (try simp only [Act.put, zA, zB, zC]); (go_wp2_with fail); exact qsA rfl rfl
        refine fcA (fun w4 hw4 => fiA rfl (fiA rfl ?_)) ?_
        ·have c : w4.cell? ⟨r4, 36, none⟩ = some (.int .u64 x.b.frm) := ((H4.out.below hw4 H4.out.lt).cell 36).trans (x.b.cl_36 HX.out.b.id)
         refine foA rfl rfl ?_; (try simp only [Act.put, zA, zB, zC]); (go_wp2_with fail); exact qsA rfl rfl
        refine fcA (fun w4 hw4 => fiA rfl (fiA rfl (fiA rfl ?_))) ?_
        ·refine foA rfl rfl ?_; (try simp only [Act.put, zA, zB, zC]); (go_wp2_with fail); exact qsA rfl rfl
        refine fcA (fun w4 hw4 => fiA rfl (fiA rfl ?_)) ?_
        ·refine foA rfl rfl ?_; (try simp only [Act.put, zA, zB, zC]); (go_wp2_with fail); exact qsA rfl rfl
        refine fcA (fun w4 hw4 => fiA rfl ?_) ?_
        ·refine FreeStep.call rfl rfl rfl (by rfl) rfl rfl (by (try simp only [Act.put, zA, zB, zC]); go_simp; (try with_reducible rfl)) (field_any w4 _) ?_
         rintro e w5 ⟨rfl, rfl⟩; exact ⟨_, rfl, Below.refl _ _, rfl⟩
        exact FreeSteps.nil
       case fin =>
        intro w4 hw4
        iterate 31 refine FreeEnd.is rfl ?_
        refine FreeEnd.nil ?_
        (try simp only [Act.put, zA, zB, zC])
        simp only [List.length_cons, List.length_nil, Nat.reduceAdd, List.drop_succ_cons, List.drop_zero]
        have HW4 := Lib.hid (show Below w.heap.size w w4 from HW5.out.drew.trans (hw4.mono HW5.out.size))
        have H3x := Lib.hid (H3.out.below hw4 H3.out.lt)
        have H4x := Lib.hid (H4.out.below hw4 H4.out.lt)
        have HEQ := Lib.hid (show firstErr [EA, EB, field false] = E from HHD.out.symm)
        clear hw4
        go_wp2_with (go_at_call 70; go_must (refine (all_any _ _ 3 3 [_, _, _] (rd_errs w4 _ [_, _, _] rfl) rfl (by omega)).mono ?_); rintro e w6 ⟨rfl, hw6⟩; rw [HEQ.out])
        have hb6 : Below w4.heap.size w4 w6 := by rw [← hw6]; exact (Below.refl _ _).alloc (Nat.le_refl _) _
        go_meet
        exact ⟨rfl, HW4.out.trans (hb6.mono HW4.out.size), H3x.out.below hb6 H3x.out.lt, H4x.out.below hb6 H4x.out.lt⟩
      ·refine wp_region_freeG [(10, []), (11, [(0, 10)]), (12, []), (13, [(2, 12)]), (14, []), (15, [(4, 14)]), (16, []), (17, [(6, 16)]), (18, [(5, 15), (7, 17)]), (19, [(8, 18)]), (20, [(9, 19)]), (21, [(10, 20), (9, 19)]), (22, [(9, 19)]), (23, [(12, 22), (9, 19)]), (24, [(11, 21), (13, 23), (9, 19)]), (25, [(9, 19), (14, 24)]), (26, [(15, 25)]), (27, [(16, 26)]), (28, [(17, 27), (16, 26)]), (29, [(16, 26)]), (30, [(19, 29), (16, 26)]), (31, [(18, 28), (20, 30), (16, 26)]), (32, [(16, 26), (21, 31)]), (33, [(22, 32)]), (34, [(23, 33)]), (35, [(24, 34), (23, 33)]), (36, [(23, 33)]), (37, [(26, 36), (23, 33)]), (38, [(25, 35), (27, 37), (23, 33)]), (39, [(23, 33), (28, 38)]), (40, [(29, 39)])]
        [Is (.agg x.a.cl.toArray), Is (.int .i64 EA), Is (.agg x.b.cl.toArray), Is (.int .i64 EB), Is (.pointer (some ⟨r3, 0, none⟩)), Is (.int .i64 x.a.kind), Is (.pointer (some ⟨r4, 0, none⟩)), Is (.int .i64 x.b.kind), Is (.bool false), Is (.bool false), Is (.pointer (some ⟨r3, 1, none⟩)), Is (.int .u64 x.a.height), Is (.pointer (some ⟨r4, 1, none⟩)), Is (.int .u64 x.b.height), Is (.bool false), Is (.bool false), Is (.bool false), Is (.pointer (some ⟨r3, 2, none⟩)), Is (.int .i64 x.a.round), Is (.pointer (some ⟨r4, 2, none⟩)), Is (.int .i64 x.b.round), Is (.bool false), Is (.bool false), Is (.bool false), Is (.pointer (some ⟨r3, 36, none⟩)), Is (.int .u64 x.a.frm), Is (.pointer (some ⟨r4, 36, none⟩)), Is (.int .u64 x.b.frm), Is (.bool true), Is (.bool true), Is (.int .i64 (field true))]
        (by kernel_rfl) (by kernel_rfl) (by rfl) ?st ?steps ?fin
       case st => exact ⟨Is.steady _, Is.steady _, Is.steady _, Is.steady _, Is.steady _, Is.steady _, Is.steady _, Is.steady _, Is.steady _, Is.steady _, Is.steady _, Is.steady _, Is.steady _, Is.steady _, Is.steady _, Is.steady _, Is.steady _, Is.steady _, Is.steady _, Is.steady _, Is.steady _, Is.steady _, Is.steady _, Is.steady _, Is.steady _, Is.steady _, Is.steady _, Is.steady _, Is.steady _, Is.steady _, Is.steady _, trivial⟩
       case steps =>
        refine fcA (fun w4 hw4 => ?_) ?_
        ·refine FreeStep.load_part 31 _ rfl rfl rfl rfl (by rfl) rfl rfl r3 0 53 rfl _ _ _ (H3.out.below hw4 H3.out.lt) Tryz.underlying31 rfl info_Vote (by simp [LA.out]) _ (cl_allN LA.out) ?_
         with_reducible rfl
        refine fcA (fun w4 hw4 => fiA rfl ?_) ?_
        ·refine FreeStep.call rfl rfl rfl (by rfl) rfl rfl (by (try simp only [Act.put, zA, zB, zC]); go_simp; (try with_reducible rfl)) (plainVote_any w4 x.a HX.out.a) ?_
         rintro e w5 ⟨rfl, hb5⟩; exact ⟨_, rfl, hb5, by rw [HEA.out]; rfl⟩
        refine fcA (fun w4 hw4 => ?_) ?_
        ·refine FreeStep.load_part 31 _ rfl rfl rfl rfl (by rfl) rfl rfl r4 0 53 rfl _ _ _ (H4.out.below hw4 H4.out.lt) Tryz.underlying31 rfl info_Vote (by simp [LB.out]) _ (cl_allN LB.out) ?_
         with_reducible rfl
        refine fcA (fun w4 hw4 => fiA rfl ?_) ?_
        ·refine FreeStep.call rfl rfl rfl (by rfl) rfl rfl (by (try simp only [Act.put, zA, zB, zC]); go_simp; (try with_reducible rfl)) (plainVote_any w4 x.b HX.out.b) ?_
         rintro e w5 ⟨rfl, hb5⟩; exact ⟨_, rfl, hb5, by rw [HEB.out]; rfl⟩
        refine fcA (fun w4 hw4 => ?_) ?_
        ·refine foA rfl rfl ?_; (try simp only [Act.put, zA, zB, zC]); (go_wp2_with fail); exact qsA rfl rfl
        refine fcA (fun w4 hw4 => fiA rfl ?_) ?_
        ·have c : w4.cell? ⟨r3, 0, none⟩ = some (.int .i64 x.a.kind) := ((H3.out.below hw4 H3.out.lt).cell 0)
         refine foA rfl rfl ?_; (try simp only [Act.put, zA, zB, zC]); (go_wp2_with fail); exact qsA rfl rfl
        refine fcA (fun w4 hw4 => ?_) ?_
        ·refine foA rfl rfl ?_; (try simp only [Act.put, zA, zB, zC]); (go_wp2_with fail); exact qsA rfl rfl
        refine fcA (fun w4 hw4 => fiA rfl ?_) ?_
        ·have c : w4.cell? ⟨r4, 0, none⟩ = some (.int .i64 x.b.kind) := ((H4.out.below hw4 H4.out.lt).cell 0)
         refine foA rfl rfl ?_; (try simp only [Act.put, zA, zB, zC]); (go_wp2_with fail); exact qsA rfl rfl
        refine fcA (fun w4 hw4 => fiA rfl (fiA rfl ?_)) ?_
        ·refine foA rfl rfl ?_; (try simp only [Act.put, zA, zB, zC]); (go_wp2_with fail); exact qsA rfl rfl
        refine fcA (fun w4 hw4 => fiA rfl ?_) ?_
        ·refine foA rfl rfl ?_; (try simp only [Act.put, zA, zB, zC]); (go_wp2_with fail); exact qsA rfl rfl
        refine fcA (fun w4 hw4 => fiA rfl ?_) ?_
        ·refine foA rfl rfl ?_; (try simp only [Act.put, zA, zB, zC]); (go_wp2_with fail); exact qsA rfl rfl
        refine fcA (fun w4 hw4 => fiA rfl (fiA rfl ?_)) ?_
        ·have c : w4.cell? ⟨r3, 1, none⟩ = some (.int .u64 x.a.height) := ((H3.out.below hw4 H3.out.lt).cell 1)
         refine foA rfl rfl ?_; (try simp only [Act.put, zA, zB, zC]); (go_wp2_with fail); exact qsA rfl rfl
        refine fcA (fun w4 hw4 => fiA rfl ?_) ?_
        ·refine foA rfl rfl ?_; (try simp only [Act.put, zA, zB, zC]); (go_wp2_with fail); exact qsA rfl rfl
        refine fcA (fun w4 hw4 => fiA rfl (fiA rfl ?_)) ?_
        ·have c : w4.cell? ⟨r4, 1, none⟩ = some (.int .u64 x.b.height) := ((H4.out.below hw4 H4.out.lt).cell 1)
         refine foA rfl rfl ?_; (try simp only [Act.put, zA, zB, zC]); (go_wp2_with fail); exact qsA rfl rfl
        refine fcA (fun w4 hw4 => fiA rfl (fiA rfl (fiA rfl ?_))) ?_
        ·refine foA rfl rfl ?_; (try simp only [Act.put, zA, zB, zC]); (go_wp2_with fail); exact qsA rfl rfl
        refine fcA (fun w4 hw4 => fiA rfl (fiA rfl ?_)) ?_
        ·refine foA rfl rfl ?_; (try simp only [Act.put, zA, zB, zC]); (go_wp2_with fail); exact qsA rfl rfl
        refine fcA (fun w4 hw4 => fiA rfl ?_) ?_
        ·refine foA rfl rfl ?_; (try simp only [Act.put, zA, zB, zC]); (go_wp2_with fail); exact qsA rfl rfl
        refine fcA (fun w4 hw4 => fiA rfl ?_) ?_
        ·refine foA rfl rfl ?_; (try simp only [Act.put, zA, zB, zC]); (go_wp2_with fail); exact qsA rfl rfl
        refine fcA (fun w4 hw4 => fiA rfl (fiA rfl ?_)) ?_
        ·have c : w4.cell? ⟨r3, 2, none⟩ = some (.int .i64 x.a.round) := ((H3.out.below hw4 H3.out.lt).cell 2)
         refine foA rfl rfl ?_; (try simp only [Act.put, zA, zB, zC]); (go_wp2_with fail); exact qsA rfl rfl
        refine fcA (fun w4 hw4 => fiA rfl ?_) ?_
        ·refine foA rfl rfl ?_; (try simp only [Act.put, zA, zB, zC]); (go_wp2_with fail); exact qsA rfl rfl
        refine fcA (fun w4 hw4 => fiA rfl (fiA rfl ?_)) ?_
        ·have c : w4.cell? ⟨r4, 2, none⟩ = some (.int .i64 x.b.round) := ((H4.out.below hw4 H4.out.lt).cell 2)
         refine foA rfl rfl ?_; (try simp only [Act.put, zA, zB, zC]); (go_wp2_with fail); exact qsA rfl rfl
        refine fcA (fun w4 hw4 => fiA rfl (fiA rfl (fiA rfl ?_))) ?_
        ·refine foA rfl rfl ?_; (try simp only [Act.put, zA, zB, zC]); (go_wp2_with fail); exact qsA rfl rfl
        refine fcA (fun w4 hw4 => fiA rfl (fiA rfl ?_)) ?_
        ·refine foA rfl rfl ?_; (try simp only [Act.put, zA, zB, zC]); (go_wp2_with fail); exact qsA rfl rfl
        refine fcA (fun w4 hw4 => fiA rfl ?_) ?_
        ·refine foA rfl rfl ?_; (try simp only [Act.put, zA, zB, zC]); (go_wp2_with fail); exact qsA rfl rfl
        refine fcA (fun w4 hw4 => fiA rfl ?_) ?_
        ·refine foA rfl rfl ?_; (try simp only [Act.put, zA, zB, zC]); (go_wp2_with fail); exact qsA rfl rfl
        refine fcA (fun w4 hw4 => fiA rfl (fiA rfl ?_)) ?_
        ·have c : w4.cell? ⟨r3, 36, none⟩ = some (.int .u64 x.a.frm) := ((H3.out.below hw4 H3.out.lt).cell 36).trans (x.a.cl_36 HX.out.a.id)
         refine foA rfl rfl ?_; (try simp only [Act.put, zA, zB, zC]); (go_wp2_with fail); exact qsA rfl rfl
        refine fcA (fun w4 hw4 => fiA rfl ?_) ?_
        ·refine foA rfl rfl ?_; (try simp only [Act.put, zA, zB, zC]); (go_wp2_with fail); exact qsA rfl rfl
        refine fcA (fun w4 hw4 => fiA rfl (fiA rfl ?_)) ?_
        ·have c : w4.cell? ⟨r4, 36, none⟩ = some (.int .u64 x.b.frm) := ((H4.out.below hw4 H4.out.lt).cell 36).trans (x.b.cl_36 HX.out.b.id)
         refine foA rfl rfl ?_; (try simp only [Act.put, zA, zB, zC]); (go_wp2_with fail); exact qsA rfl rfl
        refine fcA (fun w4 hw4 => fiA rfl (fiA rfl (fiA rfl ?_))) ?_
        ·refine foA rfl rfl ?_; (try simp only [Act.put, zA, zB, zC]); (go_wp2_with fail); exact qsA rfl rfl
        refine fcA (fun w4 hw4 => fiA rfl (fiA rfl ?_)) ?_
        ·refine foA rfl rfl ?_; (try simp only [Act.put, zA, zB, zC]); (go_wp2_with fail); exact qsA rfl rfl
        refine fcA (fun w4 hw4 => fiA rfl ?_) ?_
        ·refine FreeStep.call rfl rfl rfl (by rfl) rfl rfl (by (try simp only [Act.put, zA, zB, zC]); go_simp; (try with_reducible rfl)) (field_any w4 _) ?_
         rintro e w5 ⟨rfl, rfl⟩; exact ⟨_, rfl, Below.refl _ _, rfl⟩
        exact FreeSteps.nil
       case fin =>
        intro w4 hw4
        iterate 31 refine FreeEnd.is rfl ?_
        refine FreeEnd.nil ?_
        (try simp only [Act.put, zA, zB, zC])
        simp only [List.length_cons, List.length_nil, Nat.reduceAdd, List.drop_succ_cons, List.drop_zero]
        have HW4 := Lib.hid (show Below w.heap.size w w4 from HW5.out.drew.trans (hw4.mono HW5.out.size))
        have H3x := Lib.hid (H3.out.below hw4 H3.out.lt)
        have H4x := Lib.hid (H4.out.below hw4 H4.out.lt)
        have HEQ := Lib.hid (show firstErr [EA, EB, field true] = E from HHD.out.symm)
        clear hw4
        go_wp2_with (go_at_call 70; go_must (refine (all_any _ _ 3 3 [_, _, _] (rd_errs w4 _ [_, _, _] rfl) rfl (by omega)).mono ?_); rintro e w6 ⟨rfl, hw6⟩; rw [HEQ.out])
        have hb6 : Below w4.heap.size w4 w6 := by rw [← hw6]; exact (Below.refl _ _).alloc (Nat.le_refl _) _
        go_meet
        exact ⟨rfl, HW4.out.trans (hb6.mono HW4.out.size), H3x.out.below hb6 H3x.out.lt, H4x.out.below hb6 H4x.out.lt⟩
     ·refine wp_region_freeG [(10, []), (11, [(0, 10)]), (12, []), (13, [(2, 12)]), (14, []), (15, [(4, 14)]), (16, []), (17, [(6, 16)]), (18, [(5, 15), (7, 17)]), (19, [(8, 18)]), (20, [(9, 19)]), (21, [(10, 20), (9, 19)]), (22, [(9, 19)]), (23, [(12, 22), (9, 19)]), (24, [(11, 21), (13, 23), (9, 19)]), (25, [(9, 19), (14, 24)]), (26, [(15, 25)]), (27, [(16, 26)]), (28, [(17, 27), (16, 26)]), (29, [(16, 26)]), (30, [(19, 29), (16, 26)]), (31, [(18, 28), (20, 30), (16, 26)]), (32, [(16, 26), (21, 31)]), (33, [(22, 32)]), (34, [(23, 33)]), (35, [(24, 34), (23, 33)]), (36, [(23, 33)]), (37, [(26, 36), (23, 33)]), (38, [(25, 35), (27, 37), (23, 33)]), (39, [(23, 33), (28, 38)]), (40, [(29, 39)])]
       [Is (.agg x.a.cl.toArray), Is (.int .i64 EA), Is (.agg x.b.cl.toArray), Is (.int .i64 EB), Is (.pointer (some ⟨r3, 0, none⟩)), Is (.int .i64 x.a.kind), Is (.pointer (some ⟨r4, 0, none⟩)), Is (.int .i64 x.b.kind), Is (.bool false), Is (.bool false), Is (.pointer (some ⟨r3, 1, none⟩)), Is (.int .u64 x.a.height), Is (.pointer (some ⟨r4, 1, none⟩)), Is (.int .u64 x.b.height), Is (.bool false), Is (.bool false), Is (.bool false), Is (.pointer (some ⟨r3, 2, none⟩)), Is (.int .i64 x.a.round), Is (.pointer (some ⟨r4, 2, none⟩)), Is (.int .i64 x.b.round), Is (.bool true), Is (.bool true), Is (.bool true), Is undef, Is undef, Is undef, Is undef, Is undef, Is (.bool true), Is (.int .i64 (field true))]
       (by kernel_rfl) (by kernel_rfl) (by rfl) ?st ?steps ?fin
      case st => exact ⟨Is.steady _, Is.steady _, Is.steady _, Is.steady _, Is.steady _, Is.steady _, Is.steady _, Is.steady _, Is.steady _, Is.steady _, Is.steady _, Is.steady _, Is.steady _, Is.steady _, Is.steady _, Is.steady _, Is.steady _, Is.steady _, Is.steady _, Is.steady _, Is.steady _, Is.steady _, Is.steady _, Is.steady _, Is.steady _, Is.steady _, Is.steady _, Is.steady _, Is.steady _, Is.steady _, Is.steady _, trivial⟩
      case steps =>
       refine fcA (fun w4 hw4 => ?_) ?_
       ·refine FreeStep.load_part 31 _ rfl rfl rfl rfl (by rfl) rfl rfl r3 0 53 rfl _ _ _ (H3.out.below hw4 H3.out.lt) Tryz.underlying31 rfl info_Vote (by simp [LA.out]) _ (cl_allN LA.out) ?_
        with_reducible rfl
       refine fcA (fun w4 hw4 => fiA rfl ?_) ?_
       ·refine FreeStep.call rfl rfl rfl (by rfl) rfl rfl (by (try simp only [Act.put, zA, zB, zC]); go_simp; (try with_reducible rfl)) (plainVote_any w4 x.a HX.out.a) ?_
        rintro e w5 ⟨rfl, hb5⟩; exact ⟨_, rfl, hb5, by rw [HEA.out]; rfl⟩
       refine fcA (fun w4 hw4 => ?_) ?_
       ·refine FreeStep.load_part 31 _ rfl rfl rfl rfl (by rfl) rfl rfl r4 0 53 rfl _ _ _ (H4.out.below hw4 H4.out.lt) Tryz.underlying31 rfl info_Vote (by simp [LB.out]) _ (cl_allN LB.out) ?_
        with_reducible rfl
       refine fcA (fun w4 hw4 => fiA rfl ?_) ?_
       ·refine FreeStep.call rfl rfl rfl (by rfl) rfl rfl (by (try simp only [Act.put, zA, zB, zC]); go_simp; (try with_reducible rfl)) (plainVote_any w4 x.b HX.out.b) ?_
        rintro e w5 ⟨rfl, hb5⟩; exact ⟨_, rfl, hb5, by rw [HEB.out]; rfl⟩
       refine fcA (fun w4 hw4 => ?_) ?_
       ·refine foA rfl rfl ?_; (try simp only [Act.put, zA, zB, zC]); (go_wp2_with fail); exact qsA rfl rfl
       refine fcA (fun w4 hw4 => fiA rfl ?_) ?_
       ·have c : w4.cell? ⟨r3, 0, none⟩ = some (.int .i64 x.a.kind) := ((H3.out.below hw4 H3.out.lt).cell 0)
        refine foA rfl rfl ?_; (try simp only [Act.put, zA, zB, zC]); (go_wp2_with fail); exact qsA rfl rfl
       refine fcA (fun w4 hw4 => ?_) ?_
       ·refine foA rfl rfl ?_; (try simp only [Act.put, zA, zB, zC]); (go_wp2_with fail); exact qsA rfl rfl
       refine fcA (fun w4 hw4 => fiA rfl ?_) ?_
       ·have c : w4.cell? ⟨r4, 0, none⟩ = some (.int .i64 x.b.kind) := ((H4.out.below hw4 H4.out.lt).cell 0)
        refine foA rfl rfl ?_; (try simp only [Act.put, zA, zB, zC]); (go_wp2_with fail); exact qsA rfl rfl
       refine fcA (fun w4 hw4 => fiA rfl (fiA rfl ?_)) ?_
       ·refine foA rfl rfl ?_; (try simp only [Act.put, zA, zB, zC]); (go_wp2_with fail); exact qsA rfl rfl
       refine fcA (fun w4 hw4 => fiA rfl ?_) ?_
       ·refine foA rfl rfl ?_; (try simp only [Act.put, zA, zB, zC]); (go_wp2_with fail); exact qsA rfl rfl
       refine fcA (fun w4 hw4 => fiA rfl ?_) ?_
       ·refine foA rfl rfl ?_; (try simp only [Act.put, zA, zB, zC]); (go_wp2_with fail); exact qsA rfl rfl
       refine fcA (fun w4 hw4 => fiA rfl (fiA rfl ?_)) ?_
       ·have c : w4.cell? ⟨r3, 1, none⟩ = some (.int .u64 x.a.height) := ((H3.out.below hw4 H3.out.lt).cell 1)
        refine foA rfl rfl ?_; (try simp only [Act.put, zA, zB, zC]); (go_wp2_with fail); exact qsA rfl rfl
       refine fcA (fun w4 hw4 => fiA rfl ?_) ?_
       ·refine foA rfl rfl ?_; (try simp only [Act.put, zA, zB, zC]); (go_wp2_with fail); exact qsA rfl rfl
       refine fcA (fun w4 hw4 => fiA rfl (fiA rfl ?_)) ?_
       ·have c : w4.cell? ⟨r4, 1, none⟩ = some (.int .u64 x.b.height) := ((H4.out.below hw4 H4.out.lt).cell 1)
        refine foA rfl rfl ?_; (try simp only [Act.put, zA, zB, zC]); (go_wp2_with fail); exact qsA rfl rfl
       refine fcA (fun w4 hw4 => fiA rfl (fiA rfl (fiA rfl ?_))) ?_
       ·refine foA rfl rfl ?_; (try simp only [Act.put, zA, zB, zC]); (go_wp2_with fail); exact qsA rfl rfl
       refine fcA (fun w4 hw4 => fiA rfl (fiA rfl ?_)) ?_
       ·refine foA rfl rfl ?_; (try simp only [Act.put, zA, zB, zC]); (go_wp2_with fail); exact qsA rfl rfl
       refine fcA (fun w4 hw4 => fiA rfl ?_) ?_
       ·refine foA rfl rfl ?_; (try simp only [Act.put, zA, zB, zC]); (go_wp2_with fail); exact qsA rfl rfl
       refine fcA (fun w4 hw4 => fiA rfl ?_) ?_
       ·refine foA rfl rfl ?_; (try simp only [Act.put, zA, zB, zC]); (go_wp2_with fail); exact qsA rfl rfl
       refine fcA (fun w4 hw4 => fiA rfl (fiA rfl ?_)) ?_
       ·have c : w4.cell? ⟨r3, 2, none⟩ = some (.int .i64 x.a.round) := ((H3.out.below hw4 H3.out.lt).cell 2)
        refine foA rfl rfl ?_; (try simp only [Act.put, zA, zB, zC]); (go_wp2_with fail); exact qsA rfl rfl
       refine fcA (fun w4 hw4 => fiA rfl ?_) ?_
       ·refine foA rfl rfl ?_; (try simp only [Act.put, zA, zB, zC]); (go_wp2_with fail); exact qsA rfl rfl
       refine fcA (fun w4 hw4 => fiA rfl (fiA rfl ?_)) ?_
       ·have c : w4.cell? ⟨r4, 2, none⟩ = some (.int .i64 x.b.round) := ((H4.out.below hw4 H4.out.lt).cell 2)
        refine foA rfl rfl ?_; (try simp only [Act.put, zA, zB, zC]); (go_wp2_with fail); exact qsA rfl rfl
       refine fcA (fun w4 hw4 => fiA rfl (fiA rfl (fiA rfl ?_))) ?_
       ·refine foA rfl rfl ?_; (try simp only [Act.put, zA, zB, zC]); (go_wp2_with fail); exact qsA rfl rfl
       refine fcA (fun w4 hw4 => fiA rfl (fiA rfl ?_)) ?_
       ·refine foA rfl rfl ?_; (try simp only [Act.put, zA, zB, zC]); (go_wp2_with fail); exact qsA rfl rfl
       refine fcA (fun w4 hw4 => fiA rfl ?_) ?_
       ·refine foA rfl rfl ?_; (try simp only [Act.put, zA, zB, zC]); (go_wp2_with fail); exact qsA rfl rfl
       refine fcA (fun w4 hw4 => fiA rfl ?_) ?_
       ·refine foA rfl rfl ?_; (try simp only [Act.put, zA, zB, zC]); (go_wp2_with fail); exact qsA rfl rfl
       refine fcA (fun w4 hw4 => fiA rfl (fiA rfl ?_)) ?_
       ·have c : w4.cell? ⟨r3, 36, none⟩ = some (.int .u64 x.a.frm) := ((H3.out.below hw4 H3.out.lt).cell 36).trans (x.a.cl_36 HX.out.a.id)
        refine foA rfl rfl ?_; (try simp only [Act.put, zA, zB, zC]); (go_wp2_with fail); exact qsA rfl rfl
       refine fcA (fun w4 hw4 => fiA rfl ?_) ?_
       ·refine foA rfl rfl ?_; (try simp only [Act.put, zA, zB, zC]); (go_wp2_with fail); exact qsA rfl rfl
       refine fcA (fun w4 hw4 => fiA rfl (fiA rfl ?_)) ?_
       ·have c : w4.cell? ⟨r4, 36, none⟩ = some (.int .u64 x.b.frm) := ((H4.out.below hw4 H4.out.lt).cell 36).trans (x.b.cl_36 HX.out.b.id)
        refine foA rfl rfl ?_; (try simp only [Act.put, zA, zB, zC]); (go_wp2_with fail); exact qsA rfl rfl
       refine fcA (fun w4 hw4 => fiA rfl (fiA rfl (fiA rfl ?_))) ?_
       ·refine foA rfl rfl ?_; (try simp only [Act.put, zA, zB, zC]); (go_wp2_with fail); exact qsA rfl rfl
       refine fcA (fun w4 hw4 => fiA rfl (fiA rfl ?_)) ?_
       ·refine foA rfl rfl ?_; (try simp only [Act.put, zA, zB, zC]); (go_wp2_with fail); exact qsA rfl rfl
       refine fcA (fun w4 hw4 => fiA rfl ?_) ?_
       ·refine FreeStep.call rfl rfl rfl (by rfl) rfl rfl (by (try simp only [Act.put, zA, zB, zC]); go_simp; (try with_reducible rfl)) (field_any w4 _) ?_
        rintro e w5 ⟨rfl, rfl⟩; exact ⟨_, rfl, Below.refl _ _, rfl⟩
       exact FreeSteps.nil
      case fin =>
       intro w4 hw4
       iterate 31 refine FreeEnd.is rfl ?_
       refine FreeEnd.nil ?_
       (try simp only [Act.put, zA, zB, zC])
       simp only [List.length_cons, List.length_nil, Nat.reduceAdd, List.drop_succ_cons, List.drop_zero]
       have HW4 := Lib.hid (show Below w.heap.size w w4 from HW5.out.drew.trans (hw4.mono HW5.out.size))
       have H3x := Lib.hid (H3.out.below hw4 H3.out.lt)
       have H4x := Lib.hid (H4.out.below hw4 H4.out.lt)
       have HEQ := Lib.hid (show firstErr [EA, EB, field true] = E from HHD.out.symm)
       clear hw4
       go_wp2_with (go_at_call 70; go_must (refine (all_any _ _ 3 3 [_, _, _] (rd_errs w4 _ [_, _, _] rfl) rfl (by omega)).mono ?_); rintro e w6 ⟨rfl, hw6⟩; rw [HEQ.out])
       have hb6 : Below w4.heap.size w4 w6 := by rw [← hw6]; exact (Below.refl _ _).alloc (Nat.le_refl _) _
       go_meet
       exact ⟨rfl, HW4.out.trans (hb6.mono HW4.out.size), H3x.out.below hb6 H3x.out.lt, H4x.out.below hb6 H4x.out.lt⟩
    ·refine wp_region_freeG [(10, []), (11, [(0, 10)]), (12, []), (13, [(2, 12)]), (14, []), (15, [(4, 14)]), (16, []), (17, [(6, 16)]), (18, [(5, 15), (7, 17)]), (19, [(8, 18)]), (20, [(9, 19)]), (21, [(10, 20), (9, 19)]), (22, [(9, 19)]), (23, [(12, 22), (9, 19)]), (24, [(11, 21), (13, 23), (9, 19)]), (25, [(9, 19), (14, 24)]), (26, [(15, 25)]), (27, [(16, 26)]), (28, [(17, 27), (16, 26)]), (29, [(16, 26)]), (30, [(19, 29), (16, 26)]), (31, [(18, 28), (20, 30), (16, 26)]), (32, [(16, 26), (21, 31)]), (33, [(22, 32)]), (34, [(23, 33)]), (35, [(24, 34), (23, 33)]), (36, [(23, 33)]), (37, [(26, 36), (23, 33)]), (38, [(25, 35), (27, 37), (23, 33)]), (39, [(23, 33), (28, 38)]), (40, [(29, 39)])]
      [Is (.agg x.a.cl.toArray), Is (.int .i64 EA), Is (.agg x.b.cl.toArray), Is (.int .i64 EB), Is (.pointer (some ⟨r3, 0, none⟩)), Is (.int .i64 x.a.kind), Is (.pointer (some ⟨r4, 0, none⟩)), Is (.int .i64 x.b.kind), Is (.bool false), Is (.bool false), Is (.pointer (some ⟨r3, 1, none⟩)), Is (.int .u64 x.a.height), Is (.pointer (some ⟨r4, 1, none⟩)), Is (.int .u64 x.b.height), Is (.bool true), Is (.bool true), Is (.bool true), Is undef, Is undef, Is undef, Is undef, Is undef, Is (.bool true), Is (.bool true), Is undef, Is undef, Is undef, Is undef, Is undef, Is (.bool true), Is (.int .i64 (field true))]
      (by kernel_rfl) (by kernel_rfl) (by rfl) ?st ?steps ?fin
     case st => exact ⟨Is.steady _, Is.steady _, Is.steady _, Is.steady _, Is.steady _, Is.steady _, Is.steady _, Is.steady _, Is.steady _, Is.steady _, Is.steady _, Is.steady _, Is.steady _, Is.steady _, Is.steady _, Is.steady _, Is.steady _, Is.steady _, Is.steady _, Is.steady _, Is.steady _, Is.steady _, Is.steady _, Is.steady _, Is.steady _, Is.steady _, Is.steady _, Is.steady _, Is.steady _, Is.steady _, Is.steady _, trivial⟩
     case steps =>
      refine fcA (fun w4 hw4 => ?_) ?_
      ·refine FreeStep.load_part 31 _ rfl rfl rfl rfl (by rfl) rfl rfl r3 0 53 rfl _ _ _ (H3.out.below hw4 H3.out.lt) Tryz.underlying31 rfl info_Vote (by simp [LA.out]) _ (cl_allN LA.out) ?_
       with_reducible rfl
      refine fcA (fun w4 hw4 => fiA rfl ?_) ?_
      ·refine FreeStep.call rfl rfl rfl (by rfl) rfl rfl (by (try simp only [Act.put, zA, zB, zC]); go_simp; (try with_reducible rfl)) (plainVote_any w4 x.a HX.out.a) ?_
       rintro e w5 ⟨rfl, hb5⟩; exact ⟨_, rfl, hb5, by rw [HEA.out]; rfl⟩
      refine fcA (fun w4 hw4 => ?_) ?_
      ·refine FreeStep.load_part 31 _ rfl rfl rfl rfl (by rfl) rfl rfl r4 0 53 rfl _ _ _ (H4.out.below hw4 H4.out.lt) Tryz.underlying31 rfl info_Vote (by simp [LB.out]) _ (cl_allN LB.out) ?_
       with_reducible rfl
      refine fcA (fun w4 hw4 => fiA rfl ?_) ?_
      ·refine FreeStep.call rfl rfl rfl (by rfl) rfl rfl (by (try simp only [Act.put, zA, zB, zC]); go_simp; (try with_reducible rfl)) (plainVote_any w4 x.b HX.out.b) ?_
       rintro e w5 ⟨rfl, hb5⟩; exact ⟨_, rfl, hb5, by rw [HEB.out]; rfl⟩
      refine fcA (fun w4 hw4 => ?_) ?_
      ·refine foA rfl rfl ?_; (try simp only [Act.put, zA, zB, zC]); (go_wp2_with fail); exact qsA rfl rfl
      refine fcA (fun w4 hw4 => fiA rfl ?_) ?_
      ·have c : w4.cell? ⟨r3, 0, none⟩ = some (.int .i64 x.a.kind) := ((H3.out.below hw4 H3.out.lt).cell 0)
       refine foA rfl rfl ?_; (try simp only [Act.put, zA, zB, zC]); (go_wp2_with fail); exact qsA rfl rfl
      refine fcA (fun w4 hw4 => ?_) ?_
      ·refine foA rfl rfl ?_; (try simp only [Act.put, zA, zB, zC]); (go_wp2_with fail); exact qsA rfl rfl
      refine fcA (fun w4 hw4 => fiA rfl ?_) ?_
      ·have c : w4.cell? ⟨r4, 0, none⟩ = some (.int .i64 x.b.kind) := ((H4.out.below hw4 H4.out.lt).cell 0)
       refine foA rfl rfl ?_; (try simp only [Act.put, zA, zB, zC]); (go_wp2_with fail); exact qsA rfl rfl
      refine fcA (fun w4 hw4 => fiA rfl (fiA rfl ?_)) ?_
      ·refine foA rfl rfl ?_; (try simp only [Act.put, zA, zB, zC]); (go_wp2_with fail); exact qsA rfl rfl
      refine fcA (fun w4 hw4 => fiA rfl ?_) ?_
      ·refine foA rfl rfl ?_; (try simp only [Act.put, zA, zB, zC]); (go_wp2_with fail); exact qsA rfl rfl
      refine fcA (fun w4 hw4 => fiA rfl ?_) ?_
      ·refine foA rfl rfl ?_; (try simp only [Act.put, zA, zB, zC]); (go_wp2_with fail); exact qsA rfl rfl
      refine fcA (fun w4 hw4 => fiA rfl (fiA rfl ?_)) ?_
      ·have c : w4.cell? ⟨r3, 1, none⟩ = some (.int .u64 x.a.height) := ((H3.out.below hw4 H3.out.lt).cell 1)
       refine foA rfl rfl ?_; (try simp only [Act.put, zA, zB, zC]); (go_wp2_with fail); exact qsA rfl rfl
      refine fcA (fun w4 hw4 => fiA rfl ?_) ?_
      ·refine foA rfl rfl ?_; (try simp only [Act.put, zA, zB, zC]); (go_wp2_with fail); exact qsA rfl rfl
      refine fcA (fun w4 hw4 => fiA rfl (fiA rfl ?_)) ?_
      ·have c : w4.cell? ⟨r4, 1, none⟩ = some (.int .u64 x.b.height) := ((H4.out.below hw4 H4.out.lt).cell 1)
       refine foA rfl rfl ?_; (try simp only [Act.put, zA, zB, zC]); (go_wp2_with fail); exact qsA rfl rfl
      refine fcA (fun w4 hw4 => fiA rfl (fiA rfl (fiA rfl ?_))) ?_
      ·refine foA rfl rfl ?_; (try simp only [Act.put, zA, zB, zC]); (go_wp2_with fail); exact qsA rfl rfl
      refine fcA (fun w4 hw4 => fiA rfl (fiA rfl ?_)) ?_
      ·refine foA rfl rfl ?_; (try simp only [Act.put, zA, zB, zC]); (go_wp2_with fail); exact qsA rfl rfl
      refine fcA (fun w4 hw4 => fiA rfl ?_) ?_
      ·refine foA rfl rfl ?_; (try simp only [Act.put, zA, zB, zC]); (go_wp2_with fail); exact qsA rfl rfl
      refine fcA (fun w4 hw4 => fiA rfl ?_) ?_
      ·refine foA rfl rfl ?_; (try simp only [Act.put, zA, zB, zC]); (go_wp2_with fail); exact qsA rfl rfl
      refine fcA (fun w4 hw4 => fiA rfl (fiA rfl ?_)) ?_
      ·have c : w4.cell? ⟨r3, 2, none⟩ = some (.int .i64 x.a.round) := ((H3.out.below hw4 H3.out.lt).cell 2)
       refine foA rfl rfl ?_; (try simp only [Act.put, zA, zB, zC]); (go_wp2_with fail); exact qsA rfl rfl
      refine fcA (fun w4 hw4 => fiA rfl ?_) ?_
      ·refine foA rfl rfl ?_; (try simp only [Act.put, zA, zB, zC]); (go_wp2_with fail); exact qsA rfl rfl
      refine fcA (fun w4 hw4 => fiA rfl (fiA rfl ?_)) ?_
      ·have c : w4.cell? ⟨r4, 2, none⟩ = some (.int .i64 x.b.round) := ((H4.out.below hw4 H4.out.lt).cell 2)
       refine foA rfl rfl ?_; (try simp only [Act.put, zA, zB, zC]); (go_wp2_with fail); exact qsA rfl rfl
      refine fcA (fun w4 hw4 => fiA rfl (fiA rfl (fiA rfl ?_))) ?_
      ·refine foA rfl rfl ?_; (try simp only [Act.put, zA, zB, zC]); (go_wp2_with fail); exact qsA rfl rfl
      refine fcA (fun w4 hw4 => fiA rfl (fiA rfl ?_)) ?_
      ·refine foA rfl rfl ?_; (try simp only [Act.put, zA, zB, zC]); (go_wp2_with fail); exact qsA rfl rfl
      refine fcA (fun w4 hw4 => fiA rfl ?_) ?_
      ·refine foA rfl rfl ?_; (try simp only [Act.put, zA, zB, zC]); (go_wp2_with fail); exact qsA rfl rfl
      refine fcA (fun w4 hw4 => fiA rfl ?_) ?_
      ·refine foA rfl rfl ?_; (try simp only [Act.put, zA, zB, zC]); (go_wp2_with fail); exact qsA rfl rfl
      refine fcA (fun w4 hw4 => fiA rfl (fiA rfl ?_)) ?_
      ·have c : w4.cell? ⟨r3, 36, none⟩ = some (.int .u64 x.a.frm) := ((H3.out.below hw4 H3.out.lt).cell 36).trans (x.a.cl_36 HX.out.a.id)
       refine foA rfl rfl ?_; (try simp only [Act.put, zA, zB, zC]); (go_wp2_with fail); exact qsA rfl rfl
      refine fcA (fun w4 hw4 => fiA rfl ?_) ?_
      ·refine foA rfl rfl ?_; (try simp only [Act.put, zA, zB, zC]); (go_wp2_with fail); exact qsA rfl rfl
      refine fcA (fun w4 hw4 => fiA rfl (fiA rfl ?_)) ?_
      ·have c : w4.cell? ⟨r4, 36, none⟩ = some (.int .u64 x.b.frm) := ((H4.out.below hw4 H4.out.lt).cell 36).trans (x.b.cl_36 HX.out.b.id)
       refine foA rfl rfl ?_; (try simp only [Act.put, zA, zB, zC]); (go_wp2_with fail); exact qsA rfl rfl
      refine fcA (fun w4 hw4 => fiA rfl (fiA rfl (fiA rfl ?_))) ?_
      ·refine foA rfl rfl ?_; (try simp only [Act.put, zA, zB, zC]); (go_wp2_with fail); exact qsA rfl rfl
      refine fcA (fun w4 hw4 => fiA rfl (fiA rfl ?_)) ?_
      ·refine foA rfl rfl ?_; (try simp only [Act.put, zA, zB, zC]); (go_wp2_with fail); exact qsA rfl rfl
      refine fcA (fun w4 hw4 => fiA rfl ?_) ?_
      ·refine FreeStep.call rfl rfl rfl (by rfl) rfl rfl (by (try simp only [Act.put, zA, zB, zC]); go_simp; (try with_reducible rfl)) (field_any w4 _) ?_
       rintro e w5 ⟨rfl, rfl⟩; exact ⟨_, rfl, Below.refl _ _, rfl⟩
      exact FreeSteps.nil
     case fin =>
      intro w4 hw4
      iterate 31 refine FreeEnd.is rfl ?_
      refine FreeEnd.nil ?_
      (try simp only [Act.put, zA, zB, zC])
      simp only [List.length_cons, List.length_nil, Nat.reduceAdd, List.drop_succ_cons, List.drop_zero]
      have HW4 := Lib.hid (show Below w.heap.size w w4 from HW5.out.drew.trans (hw4.mono HW5.out.size))
      have H3x := Lib.hid (H3.out.below hw4 H3.out.lt)
      have H4x := Lib.hid (H4.out.below hw4 H4.out.lt)
      have HEQ := Lib.hid (show firstErr [EA, EB, field true] = E from HHD.out.symm)
      clear hw4
      go_wp2_with (go_at_call 70; go_must (refine (all_any _ _ 3 3 [_, _, _] (rd_errs w4 _ [_, _, _] rfl) rfl (by omega)).mono ?_); rintro e w6 ⟨rfl, hw6⟩; rw [HEQ.out])
      have hb6 : Below w4.heap.size w4 w6 := by rw [← hw6]; exact (Below.refl _ _).alloc (Nat.le_refl _) _
      go_meet
      exact ⟨rfl, HW4.out.trans (hb6.mono HW4.out.size), H3x.out.below hb6 H3x.out.lt, H4x.out.below hb6 H4x.out.lt⟩
   ·refine wp_region_freeG [(10, []), (11, [(0, 10)]), (12, []), (13, [(2, 12)]), (14, []), (15, [(4, 14)]), (16, []), (17, [(6, 16)]), (18, [(5, 15), (7, 17)]), (19, [(8, 18)]), (20, [(9, 19)]), (21, [(10, 20), (9, 19)]), (22, [(9, 19)]), (23, [(12, 22), (9, 19)]), (24, [(11, 21), (13, 23), (9, 19)]), (25, [(9, 19), (14, 24)]), (26, [(15, 25)]), (27, [(16, 26)]), (28, [(17, 27), (16, 26)]), (29, [(16, 26)]), (30, [(19, 29), (16, 26)]), (31, [(18, 28), (20, 30), (16, 26)]), (32, [(16, 26), (21, 31)]), (33, [(22, 32)]), (34, [(23, 33)]), (35, [(24, 34), (23, 33)]), (36, [(23, 33)]), (37, [(26, 36), (23, 33)]), (38, [(25, 35), (27, 37), (23, 33)]), (39, [(23, 33), (28, 38)]), (40, [(29, 39)])]
     [Is (.agg x.a.cl.toArray), Is (.int .i64 EA), Is (.agg x.b.cl.toArray), Is (.int .i64 EB), Is (.pointer (some ⟨r3, 0, none⟩)), Is (.int .i64 x.a.kind), Is (.pointer (some ⟨r4, 0, none⟩)), Is (.int .i64 x.b.kind), Is (.bool true), Is (.bool true), Is undef, Is undef, Is undef, Is undef, Is undef, Is (.bool true), Is (.bool true), Is undef, Is undef, Is undef, Is undef, Is undef, Is (.bool true), Is (.bool true), Is undef, Is undef, Is undef, Is undef, Is undef, Is (.bool true), Is (.int .i64 (field true))]
     (by kernel_rfl) (by kernel_rfl) (by rfl) ?st ?steps ?fin
    case st => exact ⟨Is.steady _, Is.steady _, Is.steady _, Is.steady _, Is.steady _, Is.steady _, Is.steady _, Is.steady _, Is.steady _, Is.steady _, Is.steady _, Is.steady _, Is.steady _, Is.steady _, Is.steady _, Is.steady _, Is.steady _, Is.steady _, Is.steady _, Is.steady _, Is.steady _, Is.steady _, Is.steady _, Is.steady _, Is.steady _, Is.steady _, Is.steady _, Is.steady _, Is.steady _, Is.steady _, Is.steady _, trivial⟩
    case steps =>
     refine fcA (fun w4 hw4 => ?_) ?_
     ·refine FreeStep.load_part 31 _ rfl rfl rfl rfl (by rfl) rfl rfl r3 0 53 rfl _ _ _ (H3.out.below hw4 H3.out.lt) Tryz.underlying31 rfl info_Vote (by simp [LA.out]) _ (cl_allN LA.out) ?_
      with_reducible rfl
     refine fcA (fun w4 hw4 => fiA rfl ?_) ?_
     ·refine FreeStep.call rfl rfl rfl (by rfl) rfl rfl (by (try simp only [Act.put, zA, zB, zC]); go_simp; (try with_reducible rfl)) (plainVote_any w4 x.a HX.out.a) ?_
      rintro e w5 ⟨rfl, hb5⟩; exact ⟨_, rfl, hb5, by rw [HEA.out]; rfl⟩
     refine fcA (fun w4 hw4 => ?_) ?_
     ·refine FreeStep.load_part 31 _ rfl rfl rfl rfl (by rfl) rfl rfl r4 0 53 rfl _ _ _ (H4.out.below hw4 H4.out.lt) Tryz.underlying31 rfl info_Vote (by simp [LB.out]) _ (cl_allN LB.out) ?_
      with_reducible rfl
     refine fcA (fun w4 hw4 => fiA rfl ?_) ?_
     ·refine FreeStep.call rfl rfl rfl (by rfl) rfl rfl (by (try simp only [Act.put, zA, zB, zC]); go_simp; (try with_reducible rfl)) (plainVote_any w4 x.b HX.out.b) ?_
      rintro e w5 ⟨rfl, hb5⟩; exact ⟨_, rfl, hb5, by rw [HEB.out]; rfl⟩
     refine fcA (fun w4 hw4 => ?_) ?_
     ·refine foA rfl rfl ?_; (try simp only [Act.put, zA, zB, zC]); (go_wp2_with fail); exact qsA rfl rfl
     refine fcA (fun w4 hw4 => fiA rfl ?_) ?_
     ·have c : w4.cell? ⟨r3, 0, none⟩ = some (.int .i64 x.a.kind) := ((H3.out.below hw4 H3.out.lt).cell 0)
      refine foA rfl rfl ?_; (try simp only [Act.put, zA, zB, zC]); (go_wp2_with fail); exact qsA rfl rfl
     refine fcA (fun w4 hw4 => ?_) ?_
     ·refine foA rfl rfl ?_; (try simp only [Act.put, zA, zB, zC]); (go_wp2_with fail); exact qsA rfl rfl
     refine fcA (fun w4 hw4 => fiA rfl ?_) ?_
     ·have c : w4.cell? ⟨r4, 0, none⟩ = some (.int .i64 x.b.kind) := ((H4.out.below hw4 H4.out.lt).cell 0)
      refine foA rfl rfl ?_; (try simp only [Act.put, zA, zB, zC]); (go_wp2_with fail); exact qsA rfl rfl
     refine fcA (fun w4 hw4 => fiA rfl (fiA rfl ?_)) ?_
     ·refine foA rfl rfl ?_; (try simp only [Act.put, zA, zB, zC]); (go_wp2_with fail); exact qsA rfl rfl
     refine fcA (fun w4 hw4 => fiA rfl ?_) ?_
     ·refine foA rfl rfl ?_; (try simp only [Act.put, zA, zB, zC]); (go_wp2_with fail); exact qsA rfl rfl
     refine fcA (fun w4 hw4 => fiA rfl ?_) ?_
     ·refine foA rfl rfl ?_; (try simp only [Act.put, zA, zB, zC]); (go_wp2_with fail); exact qsA rfl rfl
     refine fcA (fun w4 hw4 => fiA rfl (fiA rfl ?_)) ?_
     ·have c : w4.cell? ⟨r3, 1, none⟩ = some (.int .u64 x.a.height) := ((H3.out.below hw4 H3.out.lt).cell 1)
      refine foA rfl rfl ?_; (try simp only [Act.put, zA, zB, zC]); (go_wp2_with fail); exact qsA rfl rfl
     refine fcA (fun w4 hw4 => fiA rfl ?_) ?_
     ·refine foA rfl rfl ?_; (try simp only [Act.put, zA, zB, zC]); (go_wp2_with fail); exact qsA rfl rfl
     refine fcA (fun w4 hw4 => fiA rfl (fiA rfl ?_)) ?_
     ·have c : w4.cell? ⟨r4, 1, none⟩ = some (.int .u64 x.b.height) := ((H4.out.below hw4 H4.out.lt).cell 1)
      refine foA rfl rfl ?_; (try simp only [Act.put, zA, zB, zC]); (go_wp2_with fail); exact qsA rfl rfl
     refine fcA (fun w4 hw4 => fiA rfl (fiA rfl (fiA rfl ?_))) ?_
     ·refine foA rfl rfl ?_; (try simp only [Act.put, zA, zB, zC]); (go_wp2_with fail); exact qsA rfl rfl
     refine fcA (fun w4 hw4 => fiA rfl (fiA rfl ?_)) ?_
     ·refine foA rfl rfl ?_; (try simp only [Act.put, zA, zB, zC]); (go_wp2_with fail); exact qsA rfl rfl
     refine fcA (fun w4 hw4 => fiA rfl ?_) ?_
     ·refine foA rfl rfl ?_; (try simp only [Act.put, zA, zB, zC]); (go_wp2_with fail); exact qsA rfl rfl
     refine fcA (fun w4 hw4 => fiA rfl ?_) ?_
     ·refine foA rfl rfl ?_; (try simp only [Act.put, zA, zB, zC]); (go_wp2_with fail); exact qsA rfl rfl
     refine fcA (fun w4 hw4 => fiA rfl (fiA rfl ?_)) ?_
     ·have c : w4.cell? ⟨r3, 2, none⟩ = some (.int .i64 x.a.round) := ((H3.out.below hw4 H3.out.lt).cell 2)
      refine foA rfl rfl ?_; (try simp only [Act.put, zA, zB, zC]); (go_wp2_with fail); exact qsA rfl rfl
     refine fcA (fun w4 hw4 => fiA rfl ?_) ?_
     ·refine foA rfl rfl ?_; (try simp only [Act.put, zA, zB, zC]); (go_wp2_with fail); exact qsA rfl rfl
     refine fcA (fun w4 hw4 => fiA rfl (fiA rfl ?_)) ?_
     ·have c : w4.cell? ⟨r4, 2, none⟩ = some (.int .i64 x.b.round) := ((H4.out.below hw4 H4.out.lt).cell 2)
      refine foA rfl rfl ?_; (try simp only [Act.put, zA, zB, zC]); (go_wp2_with fail); exact qsA rfl rfl
     refine fcA (fun w4 hw4 => fiA rfl (fiA rfl (fiA rfl ?_))) ?_
     ·refine foA rfl rfl ?_; (try simp only [Act.put, zA, zB, zC]); (go_wp2_with fail); exact qsA rfl rfl
     refine fcA (fun w4 hw4 => fiA rfl (fiA rfl ?_)) ?_
     ·refine foA rfl rfl ?_; (try simp only [Act.put, zA, zB, zC]); (go_wp2_with fail); exact qsA rfl rfl
     refine fcA (fun w4 hw4 => fiA rfl ?_) ?_
     ·refine foA rfl rfl ?_; (try simp only [Act.put, zA, zB, zC]); (go_wp2_with fail); exact qsA rfl rfl
     refine fcA (fun w4 hw4 => fiA rfl ?_) ?_
     ·refine foA rfl rfl ?_; (try simp only [Act.put, zA, zB, zC]); (go_wp2_with fail); exact qsA rfl rfl
     refine fcA (fun w4 hw4 => fiA rfl (fiA rfl ?_)) ?_
     ·have c : w4.cell? ⟨r3, 36, none⟩ = some (.int .u64 x.a.frm) := ((H3.out.below hw4 H3.out.lt).cell 36).trans (x.a.cl_36 HX.out.a.id)
      refine foA rfl rfl ?_; (try simp only [Act.put, zA, zB, zC]); (go_wp2_with fail); exact qsA rfl rfl
     refine fcA (fun w4 hw4 => fiA rfl ?_) ?_
     ·refine foA rfl rfl ?_; (try simp only [Act.put, zA, zB, zC]); (go_wp2_with fail); exact qsA rfl rfl
     refine fcA (fun w4 hw4 => fiA rfl (fiA rfl ?_)) ?_
     ·have c : w4.cell? ⟨r4, 36, none⟩ = some (.int .u64 x.b.frm) := ((H4.out.below hw4 H4.out.lt).cell 36).trans (x.b.cl_36 HX.out.b.id)
      refine foA rfl rfl ?_; (try simp only [Act.put, zA, zB, zC]); (go_wp2_with fail); exact qsA rfl rfl
     refine fcA (fun w4 hw4 => fiA rfl (fiA rfl (fiA rfl ?_))) ?_
     ·refine foA rfl rfl ?_; (try simp only [Act.put, zA, zB, zC]); (go_wp2_with fail); exact qsA rfl rfl
     refine fcA (fun w4 hw4 => fiA rfl (fiA rfl ?_)) ?_
     ·refine foA rfl rfl ?_; (try simp only [Act.put, zA, zB, zC]); (go_wp2_with fail); exact qsA rfl rfl
     refine fcA (fun w4 hw4 => fiA rfl ?_) ?_
     ·refine FreeStep.call rfl rfl rfl (by rfl) rfl rfl (by (try simp only [Act.put, zA, zB, zC]); go_simp; (try with_reducible rfl)) (field_any w4 _) ?_
      rintro e w5 ⟨rfl, rfl⟩; exact ⟨_, rfl, Below.refl _ _, rfl⟩
     exact FreeSteps.nil
    case fin =>
     intro w4 hw4
     iterate 31 refine FreeEnd.is rfl ?_
     refine FreeEnd.nil ?_
     (try simp only [Act.put, zA, zB, zC])
     simp only [List.length_cons, List.length_nil, Nat.reduceAdd, List.drop_succ_cons, List.drop_zero]
     have HW4 := Lib.hid (show Below w.heap.size w w4 from HW5.out.drew.trans (hw4.mono HW5.out.size))
     have H3x := Lib.hid (H3.out.below hw4 H3.out.lt)
     have H4x := Lib.hid (H4.out.below hw4 H4.out.lt)
     have HEQ := Lib.hid (show firstErr [EA, EB, field true] = E from HHD.out.symm)
     clear hw4
     go_wp2_with (go_at_call 70; go_must (refine (all_any _ _ 3 3 [_, _, _] (rd_errs w4 _ [_, _, _] rfl) rfl (by omega)).mono ?_); rintro e w6 ⟨rfl, hw6⟩; rw [HEQ.out])
     have hb6 : Below w4.heap.size w4 w6 := by rw [← hw6]; exact (Below.refl _ _).alloc (Nat.le_refl _) _
     go_meet
     exact ⟨rfl, HW4.out.trans (hb6.mono HW4.out.size), H3x.out.below hb6 H3x.out.lt, H4x.out.below hb6 H4x.out.lt⟩
  case rest =>
   obtain ⟨rfl, hb7, hr3, hr4⟩ := hcut
   have HB7 := Lib.hid hb7
   have HR3 := Lib.hid (show Bk wc.drew r3 x.a.cl.toArray 31 from hr3.drew)
   have HR4 := Lib.hid (show Bk wc.drew r4 x.b.cl.toArray 31 from hr4.drew)
   clear hb7 hr3 hr4
   by_cases he : E = 0
   ·have f1 : (E != 0) = false := by simp [he]
    have f2 : (E == 0) = true := by simp [he]
    have HE0 := Lib.hid he
    obtain ⟨C, hC⟩ : ∃ C, Lib.compareBytes x.a.id x.b.id = C := ⟨_, rfl⟩
    have HC := Lib.hid hC
    have HPE := Lib.hid (show plainEv x = if 0 ≤ C then 42 else 0 by unfold plainEv; rw [HEE.out, if_neg (by simp [he]), hC])
    have HRA := Lib.hid (show Rd wc.drew (some ⟨r3, 3, none⟩) (bv x.a.id) from Rd.of_bk HR3.out 3 _ (fun j u hu => vote_id x.a HX.out.a.id j u hu))
    have HRB := Lib.hid (show Rd wc.drew (some ⟨r4, 3, none⟩) (bv x.b.id) from Rd.of_bk HR4.out 3 _ (fun j u hu => vote_id x.b HX.out.b.id j u hu))
    clear he hC
    go_wp2_with fail
    refine wp_region_free [(46, []), (47, [(0, 46)]), (48, []), (49, [(2, 48)]), (50, [(1, 47), (3, 49)])] [Is (.pointer (some ⟨r3, 3, none⟩)), Is (.slice (some ⟨r3, 3, none⟩) 32 32), Is (.pointer (some ⟨r4, 3, none⟩)), Is (.slice (some ⟨r4, 3, none⟩) 32 32), Is (.int .i64 C)]
     (by kernel_rfl) (by kernel_rfl) (by rfl) ?st ?steps ?fin
    case st => exact ⟨Is.steady _, Is.steady _, Is.steady _, Is.steady _, Is.steady _, trivial⟩
    case steps =>
     refine fcA (fun w4 hw4 => ?_) ?_
     ·refine foA rfl rfl ?_; (try simp only [Act.put, zA, zB, zC]); (go_wp2_with fail); exact qsA rfl rfl
     refine fcA (fun w4 hw4 => fiA rfl ?_) ?_
     ·refine foA rfl rfl ?_; (try simp only [Act.put, zA, zB, zC]); (go_wp2_with fail); exact qsA rfl rfl
     refine fcA (fun w4 hw4 => ?_) ?_
     ·refine foA rfl rfl ?_; (try simp only [Act.put, zA, zB, zC]); (go_wp2_with fail); exact qsA rfl rfl
     refine fcA (fun w4 hw4 => fiA rfl ?_) ?_
     ·refine foA rfl rfl ?_; (try simp only [Act.put, zA, zB, zC]); (go_wp2_with fail); exact qsA rfl rfl
     refine fcA (fun w4 hw4 => fiA rfl (fiA rfl ?_)) ?_
     ·refine FreeStep.call rfl rfl rfl (by rfl) rfl rfl (by (try simp only [Act.put, zA, zB, zC]); go_simp; (try with_reducible rfl)) (bytesCompare_any w4 _ _ x.a.id x.b.id 32 32 32 32 HX.out.a.id HX.out.b.id (HRA.out.below hw4) (HRB.out.below hw4)) ?_
      rintro e w5 ⟨rfl, rfl⟩
      exact ⟨_, rfl, Below.refl _ _, by rw [HC.out]; rfl⟩
     exact FreeSteps.nil
    case fin =>
     intro w4 hw4
     iterate 5 refine FreeEnd.is rfl ?_
     refine FreeEnd.nil ?_
     (try simp only [Act.put, zA, zB, zC])
     simp only [List.length_cons, List.length_nil, Nat.reduceAdd, List.drop_succ_cons, List.drop_zero]
     have HW4 := Lib.hid (show Below w.heap.size w w4 from HB7.out.drew.trans (hw4.mono HB7.out.size))
     clear hw4
     by_cases hc : 0 ≤ C
     ·have HCC := Lib.hid hc
      go_wp2
      go_ret
      exact ⟨ret_i64 (by rw [HPE.out, if_pos HCC.out]), HW4.out⟩
     ·have HCC := Lib.hid hc
      go_wp2
      go_ret
      exact ⟨ret_i64 (by rw [HPE.out, if_neg (by have := HCC.out; omega)]), HW4.out⟩
   ·have f1 : (E != 0) = true := by simp [he]
    have f2 : (E == 0) = false := by simp [he]
    have HE0 := Lib.hid he
    clear he
    go_wp2
    go_ret
    exact ⟨ret_i64 (by unfold plainEv; rw [HEE.out, if_pos HE0.out]), HB7.out⟩
end Go.Proofs.YtlhnhjglcbggmaaGreatRR

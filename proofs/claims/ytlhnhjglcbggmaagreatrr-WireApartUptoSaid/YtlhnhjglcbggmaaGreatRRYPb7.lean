/-
  The parts: what is plain, how each is laid down. Conditions: each number fits its kind; lists lie in the world.
-/
import Derived.Test.YtlhnhjglcbggmaaGreatRRY19
namespace Go.Proofs.YtlhnhjglcbggmaaGreatRR
set_option linter.unusedSimpArgs false
set_option linter.unusedVariables false
open Go.RowKit
set_option maxRecDepth 100000

set_option maxHeartbeats 400000 in
theorem bool_any (w : World) (B g : Nat) (bs : List UInt8) (b : Bool) (h : Wr w B g bs) (hb : bs.length + 1 ≤ room46) :
  Calls Tryz.prog 128 #[.pointer (some ⟨g, 0, none⟩), .bool b] w fun e w' => e = .returned (.tuple #[]) ∧ Wr w' B g (bs ++ [if b then 1 else 0]) ∧ Eff B WrT w w' := by
 cases b
 all_goals
  have hr1 := rd_lit w #[.int .u8 1] [1] rfl
  have hr0 := rd_lit w #[.int .u8 0] [0] rfl
  have h1 := h.alloc (.cells #[.int .u8 1] 5)
  have h0 := h.alloc (.cells #[.int .u8 0] 5)
  go_enter Tryz.func128, Tryz.ntmps128
  go_wp2_with (go_at_call 97; first | (refine (put_any _ B g bs [1] _ 1 1 h1 hr1 rfl hb).mono ?_; rintro e w' ⟨rfl, hw, he⟩) | (refine (put_any _ B g bs [0] _ 1 1 h0 hr0 rfl hb).mono ?_; rintro e w' ⟨rfl, hw, he⟩))
  go_end0
  exact ⟨rfl, hw, (Eff.alloc _ _).trans he⟩

set_option maxHeartbeats 1000000 in
theorem plain_proposal (w : World) (p : Prts) (a : Nat) (hp : p.ok) (hat : p.at w) (hk : Bk w a p.cl.toArray 177) :
  Calls Tryz.prog 144 #[.pointer (some ⟨a, 0, none⟩)] w fun e w' => e = .returned (.int .i64 (PK.plain p .proposal)) ∧ Below w.heap.size w w' := by
 have HX := Lib.hid hp
 have HAT := Lib.hid hat
 have HK := Lib.hid hk
 have HL := Lib.hid (p.len hp)
 clear hp hat hk
 rw [show PK.plain p .proposal = plainProposal p.prop by simp only [PK.plain]]
 go_enter Tryz.func144, Tryz.ntmps144
 go_wp2_with (first
  | (with_reducible show wpList _ _ _ (Oper.mk (some 6) (Op.load _ _) _ _ _ _ :: _) _ _; go_must (refine wpList_load_part rfl 33 _ rfl a 0 52 rfl _ _ _ HK.out Tryz.underlying33 rfl info_PropB (by simp [HL.out]) _ (p.ex_prop HX.out) ?_))
  | (go_at_call 36; go_must (refine (plainProposal_any w p.prop HX.out.prop).mono ?_); rintro e w2 ⟨rfl, hb2⟩; have HB2 := Lib.hid hb2; clear hb2))
 go_ret
 exact ⟨rfl, HB2.out⟩

set_option maxHeartbeats 1000000 in
theorem plain_block (w : World) (p : Prts) (a : Nat) (hp : p.ok) (hat : p.at w) (hk : Bk w a p.cl.toArray 177) :
  Calls Tryz.prog 148 #[.pointer (some ⟨a, 0, none⟩)] w fun e w' => e = .returned (.int .i64 (PK.plain p .block)) ∧ Below w.heap.size w w' := by
 have HX := Lib.hid hp
 have HAT := Lib.hid hat
 have HK := Lib.hid hk
 have HL := Lib.hid (p.len hp)
 clear hp hat hk
 rw [show PK.plain p .block = plainBlk p.blk by simp only [PK.plain]]
 go_enter Tryz.func148, Tryz.ntmps148
 go_wp2_with (first
  | (with_reducible show wpList _ _ _ (Oper.mk (some 6) (Op.load _ _) _ _ _ _ :: _) _ _; go_must (refine wpList_load_part rfl 44 _ rfl a 52 265 rfl _ _ _ HK.out Tryz.underlying44 rfl info_BlkB (by simp [HL.out]) _ (p.ex_blk HX.out) ?_))
  | (go_at_call 48; go_must (refine (plainBlk_any w p.blk HX.out.blk HAT.out.b).mono ?_); rintro e w2 ⟨rfl, hb2⟩; have HB2 := Lib.hid hb2; clear hb2))
 go_ret
 exact ⟨rfl, HB2.out⟩

set_option maxHeartbeats 1000000 in
theorem plain_tx (w : World) (p : Prts) (a : Nat) (hp : p.ok) (hat : p.at w) (hk : Bk w a p.cl.toArray 177) :
  Calls Tryz.prog 170 #[.pointer (some ⟨a, 0, none⟩)] w fun e w' => e = .returned (.int .i64 (PK.plain p .tx)) ∧ Below w.heap.size w w' := by
 have HX := Lib.hid hp
 have HAT := Lib.hid hat
 have HK := Lib.hid hk
 have HL := Lib.hid (p.len hp)
 clear hp hat hk
 rw [show PK.plain p .tx = plainTx p.tx by simp only [PK.plain]]
 go_enter Tryz.func170, Tryz.ntmps170
 go_wp2_with (first
  | (with_reducible show wpList _ _ _ (Oper.mk (some 6) (Op.load _ _) _ _ _ _ :: _) _ _; go_must (refine wpList_load_part rfl 27 _ rfl a 353 22 rfl _ _ _ HK.out Tryz.underlying27 rfl info_Tx (by simp [HL.out]) _ (p.ex_tx HX.out) ?_))
  | (go_at_call 33; go_must (refine (plainTx_any w p.tx).mono ?_); rintro e w2 ⟨rfl, hb2⟩; have HB2 := Lib.hid hb2; clear hb2))
 go_ret
 exact ⟨rfl, HB2.out⟩

set_option maxHeartbeats 1000000 in
theorem plain_evidence (w : World) (p : Prts) (a : Nat) (hp : p.ok) (hat : p.at w) (hk : Bk w a p.cl.toArray 177) :
  Calls Tryz.prog 174 #[.pointer (some ⟨a, 0, none⟩)] w fun e w' => e = .returned (.int .i64 (PK.plain p .evidence)) ∧ Below w.heap.size w w' := by
 have HX := Lib.hid hp
 have HAT := Lib.hid hat
 have HK := Lib.hid hk
 have HL := Lib.hid (p.len hp)
 clear hp hat hk
 rw [show PK.plain p .evidence = plainEv p.ev by simp only [PK.plain]]
 go_enter Tryz.func174, Tryz.ntmps174
 go_wp2_with (first
  | (with_reducible show wpList _ _ _ (Oper.mk (some 6) (Op.load _ _) _ _ _ _ :: _) _ _; go_must (refine wpList_load_part rfl 38 _ rfl a 375 106 rfl _ _ _ HK.out Tryz.underlying38 rfl info_EvB (by simp [HL.out]) _ (p.ex_ev HX.out) ?_))
  | (go_at_call 42; go_must (refine (plainEv_any w p.ev HX.out.ev).mono ?_); rintro e w2 ⟨rfl, hb2⟩; have HB2 := Lib.hid hb2; clear hb2))
 go_ret
 exact ⟨rfl, HB2.out⟩

set_option maxHeartbeats 1000000 in
theorem plain_height (w : World) (p : Prts) (a : Nat) (hp : p.ok) (hat : p.at w) (hk : Bk w a p.cl.toArray 177) :
  Calls Tryz.prog 160 #[.pointer (some ⟨a, 0, none⟩)] w fun e w' => e = .returned (.int .i64 (PK.plain p .height)) ∧ Below w.heap.size w w' := by
 have HX := Lib.hid hp
 have HAT := Lib.hid hat
 have HK := Lib.hid hk
 have HL := Lib.hid (p.len hp)
 clear hp hat hk
 rw [show PK.plain p .height = Go.Proofs.YtlhnhjglcbggmaaGreatRR.height p.height by simp only [PK.plain]]
 have c1 : w.cell? ⟨a, 481, none⟩ = some (.int .u64 p.height) := (HK.out.cell 481).trans (p.at_height HX.out)
 go_enter Tryz.func160, Tryz.ntmps160
 go_wp2_with (go_at_call 72; go_must (refine (height_any w p.height).mono ?_); rintro e w2 ⟨rfl, rfl⟩)
 go_ret
 exact ⟨rfl, Below.refl _ _⟩

set_option maxHeartbeats 1000000 in
theorem plain_round (w : World) (p : Prts) (a : Nat) (hp : p.ok) (hat : p.at w) (hk : Bk w a p.cl.toArray 177) :
  Calls Tryz.prog 163 #[.pointer (some ⟨a, 0, none⟩)] w fun e w' => e = .returned (.int .i64 (PK.plain p .round)) ∧ Below w.heap.size w w' := by
 have HX := Lib.hid hp
 have HAT := Lib.hid hat
 have HK := Lib.hid hk
 have HL := Lib.hid (p.len hp)
 clear hp hat hk
 rw [show PK.plain p .round = Go.Proofs.YtlhnhjglcbggmaaGreatRR.round p.round by simp only [PK.plain]]
 have c1 : w.cell? ⟨a, 482, none⟩ = some (.int .i64 p.round) := (HK.out.cell 482).trans (p.at_round HX.out)
 go_enter Tryz.func163, Tryz.ntmps163
 go_wp2_with (go_at_call 73; go_must (refine (round_any w p.round).mono ?_); rintro e w2 ⟨rfl, rfl⟩)
 go_ret
 exact ⟨rfl, Below.refl _ _⟩

set_option maxHeartbeats 1000000 in
theorem plain_good (w : World) (p : Prts) (a : Nat) (hp : p.ok) (hat : p.at w) (hk : Bk w a p.cl.toArray 177) :
  Calls Tryz.prog 178 #[.pointer (some ⟨a, 0, none⟩)] w fun e w' => e = .returned (.int .i64 (PK.plain p .good)) ∧ Below w.heap.size w w' := by
 go_enter Tryz.func178, Tryz.ntmps178
 go_wp2
 go_ret
 exact ⟨rfl, Below.refl _ _⟩

set_option maxHeartbeats 1000000 in
theorem plain_step (w : World) (p : Prts) (a : Nat) (hp : p.ok) (hat : p.at w) (hk : Bk w a p.cl.toArray 177) :
  Calls Tryz.prog 182 #[.pointer (some ⟨a, 0, none⟩)] w fun e w' => e = .returned (.int .i64 (PK.plain p .step)) ∧ Below w.heap.size w w' := by
 have HX := Lib.hid hp
 have HAT := Lib.hid hat
 have HK := Lib.hid hk
 have HL := Lib.hid (p.len hp)
 clear hp hat hk
 have c1 : w.cell? ⟨a, 484, none⟩ = some (.int .i64 p.step) := (HK.out.cell 484).trans (p.at_step HX.out)
 obtain ⟨q1, h1⟩ : ∃ q, decide (p.step < 1) = q := ⟨_, rfl⟩
 obtain ⟨q2, h2⟩ : ∃ q, decide (3 < p.step) = q := ⟨_, rfl⟩
 obtain ⟨r, hr⟩ : ∃ r, PK.plain p .step = r := ⟨_, rfl⟩
 have HZ := Lib.hid (show field (q1 || q2) = r by rw [← h1, ← h2, ← hr]; simp only [PK.plain])
 rw [hr]
 clear hr
 cases q1
 all_goals
  go_enter Tryz.func182, Tryz.ntmps182
  go_wp2_with (go_at_call 75; go_must (refine (field_any w _).mono ?_); rintro e w2 ⟨rfl, rfl⟩)
  go_ret
  exact ⟨ret_i64 HZ.out, Below.refl _ _⟩

set_option maxHeartbeats 1000000 in
theorem plain_one (w : World) (p : Prts) (a : Nat) (hp : p.ok) (hat : p.at w) (hk : Bk w a p.cl.toArray 177) :
  Calls Tryz.prog 156 #[.pointer (some ⟨a, 0, none⟩)] w fun e w' => e = .returned (.int .i64 (PK.plain p .one)) ∧ Below w.heap.size w w' := by
 have HX := Lib.hid hp
 have HAT := Lib.hid hat
 have HK := Lib.hid hk
 have HL := Lib.hid (p.len hp)
 clear hp hat hk
 have c1 : w.cell? ⟨a, 317, none⟩ = some (.slice p.vA p.vn p.vc) := (HK.out.cell 317).trans (p.at_v HX.out)
 obtain ⟨vn, hvn⟩ : ∃ n, p.vn = n := ⟨_, rfl⟩
 have HVN := Lib.hid hvn
 rw [hvn] at c1
 clear hvn
 by_cases h1 : vn = 1
 ·have g1 : ((vn : Int) != 1) = false := by simp [h1]
  subst h1
  obtain ⟨v, hv⟩ : ∃ v, p.vs = [v] := by
   have := HX.out.vn
   rw [HVN.out] at this
   match h : p.vs, this with
   | [v], _ => exact ⟨v, rfl⟩
   | [], t => simp [h] at t
   | _ :: _ :: _, t => simp [h] at t
  have hvo : v.ok := HX.out.vs v (by rw [hv]; simp)
  obtain ⟨ad, hA, hcell⟩ := rd_elem (N := 53) (by omega) (fun x h => x.cl_len (HX.out.vs x h)) HAT.out.v (k := 0) (by rw [hv]; simp)
  have e0 : ∀ (h : 0 < p.vs.length), p.vs[0] = v := by rw [hv]; intro h; rfl
  rw [e0] at hcell
  have HC := Lib.hid hcell
  have HVO := Lib.hid hvo
  have HXL := Lib.hid (v.cl_len hvo)
  have HR := Lib.hid (show PK.plain p .one = plainVote v by simp only [PK.plain]; rw [HVN.out, hv, if_neg (by simp)]; simp only [onePlain])
  rw [hA] at c1
  rw [HR.out]
  clear hcell hvo e0 hv
  go_enter Tryz.func156, Tryz.ntmps156
  go_wp2_with (first
   | (with_reducible show wpList _ _ _ (Oper.mk (some 14) (Op.load _ _) _ _ _ _ :: _) _ _; go_must (first | refine wpList_load_at rfl 31 _ rfl (ad.add (0 * 53)) 53 rfl v.cl HC.out _ Tryz.underlying31 rfl info_Vote HXL.out ?_ | refine wpList_load_at rfl 31 _ rfl ad 53 rfl v.cl (by have := HC.out; simpa using this) _ Tryz.underlying31 rfl info_Vote HXL.out ?_))
   | (go_at_call 28; go_must (refine (plainVote_any w v HVO.out).mono ?_); rintro e w2 ⟨rfl, hb2⟩; have HB2 := Lib.hid hb2; clear hb2))
  go_ret
  exact ⟨rfl, HB2.out⟩
 ·have g1 : ((vn : Int) != 1) = true := by simp; omega
  have HR := Lib.hid (show PK.plain p .one = 41 by simp only [PK.plain]; rw [HVN.out, if_pos h1])
  rw [HR.out]
  clear h1
  go_enter Tryz.func156, Tryz.ntmps156
  go_wp2
  go_ret
  exact ⟨rfl, Below.refl _ _⟩

set_option maxHeartbeats 2000000 in
theorem plain_some (w : World) (p : Prts) (a : Nat) (hp : p.ok) (hat : p.at w) (hk : Bk w a p.cl.toArray 177) :
  Calls Tryz.prog 159 #[.pointer (some ⟨a, 0, none⟩)] w fun e w' => e = .returned (.int .i64 (PK.plain p .some)) ∧ Below w.heap.size w w' := by
 have HX := Lib.hid hp
 have HAT := Lib.hid (show p.at w.drew from hat.below (Below.refl _ _).drew)
 have HK := Lib.hid (show Bk w.drew a p.cl.toArray 177 from hk.drew)
 have HL := Lib.hid (p.len hp)
 clear hp hat hk
 obtain ⟨n, hn⟩ : ∃ n, p.vn = n := ⟨_, rfl⟩
 have HN := Lib.hid hn
 obtain ⟨q1, h1⟩ : ∃ q, ((n : Int) == 0) = q := ⟨_, rfl⟩
 obtain ⟨E2, h2⟩ : ∃ E, votesErr n p.vs = E := ⟨_, rfl⟩
 have HE := Lib.hid (show PK.plain p .some = firstErr [field q1, E2] by
  show firstErr [field (decide (p.vn = 0)), votesErr p.vn p.vs] = _
  rw [hn, h2, ← h1]
  congr 2
  by_cases h : n = 0
  ·simp [h]
  ·rw [decide_eq_false h, show ((n : Int) == 0) = false by simp; omega])
 have HE2 := Lib.hid h2
 clear hn h2
 go_enter Tryz.func159, Tryz.ntmps159
 go_wp2_with fail
 refine wp_region_free [(3, []), (4, [(0, 3)]), (5, [(1, 4)]), (6, [(2, 5)]), (7, [(3, 6)]), (8, [(4, 7)]), (9, [(5, 8)]), (10, []), (11, [(7, 10)]), (12, [(8, 11)]), (13, [(9, 12)]), (14, [(10, 13)])]
  [Is (.pointer (some ⟨a, 0, none⟩)), Is (.pointer (some ⟨a, 0, none⟩)), Is (.pointer (some ⟨a, 317, none⟩)), Is (.slice p.vA n p.vc), Is (.int .i64 (n : Int)), Is (.bool q1), Is (.int .i64 (field q1)), Is (.pointer (some ⟨a, 0, none⟩)), Is (.pointer (some ⟨a, 0, none⟩)), Is (.pointer (some ⟨a, 317, none⟩)), Is (.slice p.vA n p.vc), Is (.int .i64 E2)]
  (by kernel_rfl) (by kernel_rfl) (by rfl) ?st ?steps ?fin
 case st => exact ⟨Is.steady _, Is.steady _, Is.steady _, Is.steady _, Is.steady _, Is.steady _, Is.steady _, Is.steady _, Is.steady _, Is.steady _, Is.steady _, Is.steady _, trivial⟩
 case steps =>
  refine fcA (fun w4 hw4 => ?_) ?_
  ·refine foA rfl rfl ?_; (try simp only [Act.put, zA, zB, zC]); (go_wp2_with fail); exact qsA rfl rfl
  refine fcA (fun w4 hw4 => fiA rfl ?_) ?_
  ·refine foA rfl rfl ?_; (try simp only [Act.put, zA, zB, zC]); (go_wp2_with fail); exact qsA rfl rfl
  refine fcA (fun w4 hw4 => fiA rfl ?_) ?_
  ·refine foA rfl rfl ?_; (try simp only [Act.put, zA, zB, zC]); (go_wp2_with fail); exact qsA rfl rfl
  refine fcA (fun w4 hw4 => fiA rfl ?_) ?_
  ·have c1 : w4.cell? ⟨a, 317, none⟩ = some (.slice p.vA n p.vc) := by have := ((HK.out.below hw4 HK.out.lt).cell 317).trans (p.at_v HX.out); rwa [HN.out] at this
   refine foA rfl rfl ?_; (try simp only [Act.put, zA, zB, zC]); (go_wp2_with fail); exact qsA rfl rfl
  refine fcA (fun w4 hw4 => fiA rfl ?_) ?_
  ·refine foA rfl rfl ?_; (try simp only [Act.put, zA, zB, zC]); (go_wp2_with fail); exact qsA rfl rfl
  refine fcA (fun w4 hw4 => fiA rfl ?_) ?_
  ·refine foA rfl rfl ?_; (try simp only [Act.put, zA, zB, zC]); (go_wp2_with fail); exact qsA rfl rfl
  refine fcA (fun w4 hw4 => fiA rfl ?_) ?_
  ·refine FreeStep.call rfl rfl rfl (by rfl) rfl rfl (by (try simp only [Act.put, zA, zB, zC]); go_simp; (try with_reducible rfl)) (field_any w4 q1) ?_
   rintro e w5 ⟨rfl, rfl⟩; exact ⟨_, rfl, Below.refl _ _, rfl⟩
  refine fcA (fun w4 hw4 => ?_) ?_
  ·refine foA rfl rfl ?_; (try simp only [Act.put, zA, zB, zC]); (go_wp2_with fail); exact qsA rfl rfl
  refine fcA (fun w4 hw4 => fiA rfl ?_) ?_
  ·refine foA rfl rfl ?_; (try simp only [Act.put, zA, zB, zC]); (go_wp2_with fail); exact qsA rfl rfl
  refine fcA (fun w4 hw4 => fiA rfl ?_) ?_
  ·refine foA rfl rfl ?_; (try simp only [Act.put, zA, zB, zC]); (go_wp2_with fail); exact qsA rfl rfl
  refine fcA (fun w4 hw4 => fiA rfl ?_) ?_
  ·have c1 : w4.cell? ⟨a, 317, none⟩ = some (.slice p.vA n p.vc) := by have := ((HK.out.below hw4 HK.out.lt).cell 317).trans (p.at_v HX.out); rwa [HN.out] at this
   refine foA rfl rfl ?_; (try simp only [Act.put, zA, zB, zC]); (go_wp2_with fail); exact qsA rfl rfl
  refine fcA (fun w4 hw4 => fiA rfl ?_) ?_
  ·refine FreeStep.call rfl rfl rfl (by rfl) rfl rfl (by (try simp only [Act.put, zA, zB, zC]); go_simp; (try with_reducible rfl)) (votes_any w4 p.vA n p.vc p.vs (HN.out ▸ HX.out.vn) HX.out.vs (HAT.out.below hw4).v) ?_
   rintro e w5 ⟨rfl, hb5⟩; exact ⟨_, rfl, hb5, by rw [HE2.out]; rfl⟩
  exact FreeSteps.nil
 case fin =>
  intro w4 hw4
  iterate 12 refine FreeEnd.is rfl ?_
  refine FreeEnd.nil ?_
  (try simp only [Act.put, zA, zB, zC])
  simp only [List.length_cons, List.length_nil, Nat.reduceAdd, List.drop_succ_cons, List.drop_zero]
  have HB4 := Lib.hid (show Below w.heap.size w w4 from ((Below.refl _ _).drew).trans hw4)
  clear hw4
  go_wp2_with fail
  refine (all_any _ _ 2 2 [_, _] (rd_errs w4 _ [_, _] rfl) rfl (by omega)).mono ?_
  rintro e w5 ⟨rfl, hw5⟩
  have HB5 := Lib.hid (show Below w.heap.size w w5 by rw [← hw5]; exact HB4.out.alloc (by have := HB4.out.size; omega) _)
  clear hw5
  go_wp2
  go_ret
  exact ⟨ret_i64 HE.out.symm, HB5.out⟩

set_option maxHeartbeats 2000000 in
theorem plain_cert (w : World) (p : Prts) (a : Nat) (hp : p.ok) (hat : p.at w) (hk : Bk w a p.cl.toArray 177) :
  Calls Tryz.prog 166 #[.pointer (some ⟨a, 0, none⟩)] w fun e w' => e = .returned (.int .i64 (PK.plain p .cert)) ∧ Below w.heap.size w w' := by
 have HX := Lib.hid hp
 have HAT := Lib.hid (show p.at w.drew from hat.below (Below.refl _ _).drew)
 have HK := Lib.hid (show Bk w.drew a p.cl.toArray 177 from hk.drew)
 have HL := Lib.hid (p.len hp)
 clear hp hat hk
 obtain ⟨E1, h1⟩ : ∃ E, plainCrt p.crt = E := ⟨_, rfl⟩
 obtain ⟨q1, h2⟩ : ∃ q, zeroC p.crt = q := ⟨_, rfl⟩
 have HE := Lib.hid (show PK.plain p .cert = firstErr [E1, field q1] by rw [← h1, ← h2]; rfl)
 have HE1 := Lib.hid h1
 have HE2 := Lib.hid h2
 clear h1 h2
 go_enter Tryz.func166, Tryz.ntmps166
 go_wp2_with fail
 refine wp_region_free [(3, []), (4, [(0, 3)]), (5, [(1, 4)]), (6, [(2, 5)]), (7, [(3, 6)]), (8, []), (9, [(5, 8)]), (10, [(6, 9)]), (11, [(7, 10)]), (12, [(8, 11)]), (13, [(9, 12)])]
  [Is (.pointer (some ⟨a, 0, none⟩)), Is (.pointer (some ⟨a, 0, none⟩)), Is (.pointer (some ⟨a, 318, none⟩)), Is (.agg p.crt.cl.toArray), Is (.int .i64 E1), Is (.pointer (some ⟨a, 0, none⟩)), Is (.pointer (some ⟨a, 0, none⟩)), Is (.pointer (some ⟨a, 318, none⟩)), Is (.agg p.crt.cl.toArray), Is (.bool q1), Is (.int .i64 (field q1))]
  (by kernel_rfl) (by kernel_rfl) (by rfl) ?st ?steps ?fin
 case st => exact ⟨Is.steady _, Is.steady _, Is.steady _, Is.steady _, Is.steady _, Is.steady _, Is.steady _, Is.steady _, Is.steady _, Is.steady _, Is.steady _, trivial⟩
 case steps =>
  refine fcA (fun w4 hw4 => ?_) ?_
  ·refine foA rfl rfl ?_; (try simp only [Act.put, zA, zB, zC]); (go_wp2_with fail); exact qsA rfl rfl
  refine fcA (fun w4 hw4 => fiA rfl ?_) ?_
  ·refine foA rfl rfl ?_; (try simp only [Act.put, zA, zB, zC]); (go_wp2_with fail); exact qsA rfl rfl
  refine fcA (fun w4 hw4 => fiA rfl ?_) ?_
  ·refine foA rfl rfl ?_; (try simp only [Act.put, zA, zB, zC]); (go_wp2_with fail); exact qsA rfl rfl
  refine fcA (fun w4 hw4 => fiA rfl ?_) ?_
  ·refine FreeStep.load_part 36 _ rfl rfl rfl rfl (by rfl) rfl rfl a 318 35 rfl _ _ _ (HK.out.below hw4 HK.out.lt) Tryz.underlying36 rfl info_Crt (by simp [HL.out]) _ (p.ex_crt HX.out) ?_
   with_reducible rfl
  refine fcA (fun w4 hw4 => fiA rfl ?_) ?_
  ·refine FreeStep.call rfl rfl rfl (by rfl) rfl rfl (by (try simp only [Act.put, zA, zB, zC]); go_simp; (try with_reducible rfl)) (plainCrt_any w4 p.crt HX.out.crt (HAT.out.below hw4).c) ?_
   rintro e w5 ⟨rfl, hb5⟩; exact ⟨_, rfl, hb5, by rw [HE1.out]; rfl⟩
  refine fcA (fun w4 hw4 => ?_) ?_
  ·refine foA rfl rfl ?_; (try simp only [Act.put, zA, zB, zC]); (go_wp2_with fail); exact qsA rfl rfl
  refine fcA (fun w4 hw4 => fiA rfl ?_) ?_
  ·refine foA rfl rfl ?_; (try simp only [Act.put, zA, zB, zC]); (go_wp2_with fail); exact qsA rfl rfl
  refine fcA (fun w4 hw4 => fiA rfl ?_) ?_
  ·refine foA rfl rfl ?_; (try simp only [Act.put, zA, zB, zC]); (go_wp2_with fail); exact qsA rfl rfl
  refine fcA (fun w4 hw4 => fiA rfl ?_) ?_
  ·refine FreeStep.load_part 36 _ rfl rfl rfl rfl (by rfl) rfl rfl a 318 35 rfl _ _ _ (HK.out.below hw4 HK.out.lt) Tryz.underlying36 rfl info_Crt (by simp [HL.out]) _ (p.ex_crt HX.out) ?_
   with_reducible rfl
  refine fcA (fun w4 hw4 => fiA rfl ?_) ?_
  ·refine FreeStep.call rfl rfl rfl (by rfl) rfl rfl (by (try simp only [Act.put, zA, zB, zC]); go_simp; (try with_reducible rfl)) (zeroCert_any w4 p.crt HX.out.crt) ?_
   rintro e w5 ⟨rfl, hb5⟩; exact ⟨_, rfl, hb5, by rw [HE2.out]; rfl⟩
  refine fcA (fun w4 hw4 => fiA rfl ?_) ?_
  ·refine FreeStep.call rfl rfl rfl (by rfl) rfl rfl (by (try simp only [Act.put, zA, zB, zC]); go_simp; (try with_reducible rfl)) (field_any w4 q1) ?_
   rintro e w5 ⟨rfl, rfl⟩; exact ⟨_, rfl, Below.refl _ _, rfl⟩
  exact FreeSteps.nil
 case fin =>
  intro w4 hw4
  iterate 11 refine FreeEnd.is rfl ?_
  refine FreeEnd.nil ?_
  (try simp only [Act.put, zA, zB, zC])
  simp only [List.length_cons, List.length_nil, Nat.reduceAdd, List.drop_succ_cons, List.drop_zero]
  have HB4 := Lib.hid (show Below w.heap.size w w4 from ((Below.refl _ _).drew).trans hw4)
  clear hw4
  go_wp2_with fail
  refine (all_any _ _ 2 2 [_, _] (rd_errs w4 _ [_, _] rfl) rfl (by omega)).mono ?_
  rintro e w5 ⟨rfl, hw5⟩
  have HB5 := Lib.hid (show Below w.heap.size w w5 by rw [← hw5]; exact HB4.out.alloc (by have := HB4.out.size; omega) _)
  clear hw5
  go_wp2
  go_ret
  exact ⟨ret_i64 HE.out.symm, HB5.out⟩

set_option maxHeartbeats 4000000 in
theorem plain_polka (w : World) (p : Prts) (a : Nat) (hp : p.ok) (hat : p.at w) (hk : Bk w a p.cl.toArray 177) :
  Calls Tryz.prog 152 #[.pointer (some ⟨a, 0, none⟩)] w fun e w' => e = .returned (.int .i64 (PK.plain p .polka)) ∧ Below w.heap.size w w' := by
 have HX := Lib.hid hp
 have HAT := Lib.hid (show p.at w.drew from hat.below (Below.refl _ _).drew)
 have HK := Lib.hid (show Bk w.drew a p.cl.toArray 177 from hk.drew)
 have HL := Lib.hid (p.len hp)
 clear hp hat hk
 obtain ⟨n, hn⟩ : ∃ n, p.vn = n := ⟨_, rfl⟩
 have HN := Lib.hid hn
 obtain ⟨q1, h1⟩ : ∃ q, decide ((0 : Int) < (n : Int)) = q := ⟨_, rfl⟩
 obtain ⟨q2, h3⟩ : ∃ q, (p.prop.valid == -1) = q := ⟨_, rfl⟩
 obtain ⟨E2, h2⟩ : ∃ E, votesErr n p.vs = E := ⟨_, rfl⟩
 have HE := Lib.hid (show PK.plain p .polka = firstErr [field (q1 && q2), E2] by
  show firstErr [field (decide (0 < p.vn) && decide (p.prop.valid = -1)), votesErr p.vn p.vs] = _
  rw [hn, h2, ← h1, ← h3]
  congr 2
  congr 1
  congr 1
  by_cases h : p.prop.valid = -1 <;> simp [h])
 have HE2 := Lib.hid h2
 have hq1 : decide (0 < n) = q1 := by rw [← h1]; simp
 clear hn h2
 cases q1
 ·go_enter Tryz.func152, Tryz.ntmps152
  go_wp2_with fail
  refine wp_region_freeG [(3, []), (4, [(0, 3)]), (5, [(1, 4)]), (6, [(2, 5)]), (7, [(3, 6)]), (8, [(4, 7)]), (9, [(5, 8)]), (10, [(6, 9)]), (11, [(7, 10), (6, 9)]), (12, [(8, 11), (6, 9)]), (13, [(9, 12), (6, 9)]), (14, [(10, 13), (6, 9)]), (15, [(11, 14), (6, 9)]), (16, [(6, 9), (12, 15)]), (17, [(13, 16)]), (18, []), (19, [(15, 18)]), (20, [(16, 19)]), (21, [(17, 20)]), (22, [(18, 21)])]
   [Is (.pointer (some ⟨a, 0, none⟩)), Is (.pointer (some ⟨a, 0, none⟩)), Is (.pointer (some ⟨a, 317, none⟩)), Is (.slice p.vA n p.vc), Is (.int .i64 (n : Int)), Is (.bool false), Is (.bool false), Is undef, Is undef, Is undef, Is undef, Is undef, Is undef, Is (.bool false), Is (.int .i64 (field false)), Is (.pointer (some ⟨a, 0, none⟩)), Is (.pointer (some ⟨a, 0, none⟩)), Is (.pointer (some ⟨a, 317, none⟩)), Is (.slice p.vA n p.vc), Is (.int .i64 E2)]
   (by kernel_rfl) (by kernel_rfl) (by rfl) ?st ?steps ?fin
  case st => exact ⟨Is.steady _, Is.steady _, Is.steady _, Is.steady _, Is.steady _, Is.steady _, Is.steady _, Is.steady _, Is.steady _, Is.steady _, Is.steady _, Is.steady _, Is.steady _, Is.steady _, Is.steady _, Is.steady _, Is.steady _, Is.steady _, Is.steady _, Is.steady _, trivial⟩
  case steps =>
   refine fcA (fun w4 hw4 => ?_) ?_
   ·refine foA rfl rfl ?_; (try simp only [Act.put, zA, zB, zC]); (go_wp2_with fail); exact qsA rfl rfl
   refine fcA (fun w4 hw4 => fiA rfl ?_) ?_
   ·refine foA rfl rfl ?_; (try simp only [Act.put, zA, zB, zC]); (go_wp2_with fail); exact qsA rfl rfl
   refine fcA (fun w4 hw4 => fiA rfl ?_) ?_
   ·refine foA rfl rfl ?_; (try simp only [Act.put, zA, zB, zC]); (go_wp2_with fail); exact qsA rfl rfl
   refine fcA (fun w4 hw4 => fiA rfl ?_) ?_
   ·have c1 : w4.cell? ⟨a, 317, none⟩ = some (.slice p.vA n p.vc) := by have := ((HK.out.below hw4 HK.out.lt).cell 317).trans (p.at_v HX.out); rwa [HN.out] at this
    refine foA rfl rfl ?_; (try simp only [Act.put, zA, zB, zC]); (go_wp2_with fail); exact qsA rfl rfl
   refine fcA (fun w4 hw4 => fiA rfl ?_) ?_
   ·refine foA rfl rfl ?_; (try simp only [Act.put, zA, zB, zC]); (go_wp2_with fail); exact qsA rfl rfl
   refine fcA (fun w4 hw4 => fiA rfl ?_) ?_
   ·refine foA rfl rfl ?_; (try simp only [Act.put, zA, zB, zC]); (go_wp2_with fail); exact qsA rfl rfl
   refine fcA (fun w4 hw4 => fiA rfl ?_) ?_
   ·refine foA rfl rfl ?_; (try simp only [Act.put, zA, zB, zC]); (go_wp2_with fail); exact qsA rfl rfl
   refine fcA (fun w4 hw4 => fiA rfl ?_) ?_
   ·refine foA rfl rfl ?_; (try simp only [Act.put, zA, zB, zC]); (go_wp2_with fail); exact qsA rfl rfl
   refine fcA (fun w4 hw4 => fiA rfl (fiA rfl ?_)) ?_
   ·refine foA rfl rfl ?_; (try simp only [Act.put, zA, zB, zC]); (go_wp2_with fail); exact qsA rfl rfl
   refine fcA (fun w4 hw4 => fiA rfl (fiA rfl ?_)) ?_
   ·refine foA rfl rfl ?_; (try simp only [Act.put, zA, zB, zC]); (go_wp2_with fail); exact qsA rfl rfl
   refine fcA (fun w4 hw4 => fiA rfl (fiA rfl ?_)) ?_
   ·refine foA rfl rfl ?_; (try simp only [Act.put, zA, zB, zC]); (go_wp2_with fail); exact qsA rfl rfl
   refine fcA (fun w4 hw4 => fiA rfl (fiA rfl ?_)) ?_
   ·have c2 : w4.cell? ⟨a, 2, none⟩ = some (.int .i64 p.prop.valid) := ((HK.out.below hw4 HK.out.lt).cell 2).trans (p.at_valid HX.out)
    refine foA rfl rfl ?_; (try simp only [Act.put, zA, zB, zC]); (go_wp2_with fail); exact qsA rfl rfl
   refine fcA (fun w4 hw4 => fiA rfl (fiA rfl ?_)) ?_
   ·refine foA rfl rfl ?_; (try simp only [Act.put, zA, zB, zC]); (go_wp2_with fail); exact qsA rfl rfl
   refine fcA (fun w4 hw4 => fiA rfl (fiA rfl ?_)) ?_
   ·refine foA rfl rfl ?_; (try simp only [Act.put, zA, zB, zC]); (go_wp2_with fail); exact qsA rfl rfl
   refine fcA (fun w4 hw4 => fiA rfl ?_) ?_
   ·refine FreeStep.call rfl rfl rfl (by rfl) rfl rfl (by (try simp only [Act.put, zA, zB, zC]); go_simp; (try with_reducible rfl)) (field_any w4 false) ?_
    rintro e w5 ⟨rfl, rfl⟩; exact ⟨_, rfl, Below.refl _ _, rfl⟩
   refine fcA (fun w4 hw4 => ?_) ?_
   ·refine foA rfl rfl ?_; (try simp only [Act.put, zA, zB, zC]); (go_wp2_with fail); exact qsA rfl rfl
   refine fcA (fun w4 hw4 => fiA rfl ?_) ?_
   ·refine foA rfl rfl ?_; (try simp only [Act.put, zA, zB, zC]); (go_wp2_with fail); exact qsA rfl rfl
   refine fcA (fun w4 hw4 => fiA rfl ?_) ?_
   ·refine foA rfl rfl ?_; (try simp only [Act.put, zA, zB, zC]); (go_wp2_with fail); exact qsA rfl rfl
   refine fcA (fun w4 hw4 => fiA rfl ?_) ?_
   ·have c1 : w4.cell? ⟨a, 317, none⟩ = some (.slice p.vA n p.vc) := by have := ((HK.out.below hw4 HK.out.lt).cell 317).trans (p.at_v HX.out); rwa [HN.out] at this
    refine foA rfl rfl ?_; (try simp only [Act.put, zA, zB, zC]); (go_wp2_with fail); exact qsA rfl rfl
   refine fcA (fun w4 hw4 => fiA rfl ?_) ?_
   ·refine FreeStep.call rfl rfl rfl (by rfl) rfl rfl (by (try simp only [Act.put, zA, zB, zC]); go_simp; (try with_reducible rfl)) (votes_any w4 p.vA n p.vc p.vs (HN.out ▸ HX.out.vn) HX.out.vs (HAT.out.below hw4).v) ?_
    rintro e w5 ⟨rfl, hb5⟩; exact ⟨_, rfl, hb5, by rw [HE2.out]; rfl⟩
   exact FreeSteps.nil
  case fin =>
   intro w4 hw4
   iterate 20 refine FreeEnd.is rfl ?_
   refine FreeEnd.nil ?_
   (try simp only [Act.put, zA, zB, zC])
   simp only [List.length_cons, List.length_nil, Nat.reduceAdd, List.drop_succ_cons, List.drop_zero]
   have HB4 := Lib.hid (show Below w.heap.size w w4 from ((Below.refl _ _).drew).trans hw4)
   clear hw4
   go_wp2_with fail
   refine (all_any _ _ 2 2 [_, _] (rd_errs w4 _ [_, _] rfl) rfl (by omega)).mono ?_
   rintro e w5 ⟨rfl, hw5⟩
   have HB5 := Lib.hid (show Below w.heap.size w w5 by rw [← hw5]; exact HB4.out.alloc (by have := HB4.out.size; omega) _)
   clear hw5
   go_wp2
   go_ret
   exact ⟨ret_i64 HE.out.symm, HB5.out⟩
 ·go_enter Tryz.func152, Tryz.ntmps152
  go_wp2_with fail
  refine wp_region_freeG [(3, []), (4, [(0, 3)]), (5, [(1, 4)]), (6, [(2, 5)]), (7, [(3, 6)]), (8, [(4, 7)]), (9, [(5, 8)]), (10, [(6, 9)]), (11, [(7, 10), (6, 9)]), (12, [(8, 11), (6, 9)]), (13, [(9, 12), (6, 9)]), (14, [(10, 13), (6, 9)]), (15, [(11, 14), (6, 9)]), (16, [(6, 9), (12, 15)]), (17, [(13, 16)]), (18, []), (19, [(15, 18)]), (20, [(16, 19)]), (21, [(17, 20)]), (22, [(18, 21)])]
   [Is (.pointer (some ⟨a, 0, none⟩)), Is (.pointer (some ⟨a, 0, none⟩)), Is (.pointer (some ⟨a, 317, none⟩)), Is (.slice p.vA n p.vc), Is (.int .i64 (n : Int)), Is (.bool true), Is (.bool true), Is (.pointer (some ⟨a, 0, none⟩)), Is (.pointer (some ⟨a, 0, none⟩)), Is (.pointer (some ⟨a, 0, none⟩)), Is (.pointer (some ⟨a, 2, none⟩)), Is (.int .i64 p.prop.valid), Is (.bool q2), Is (.bool q2), Is (.int .i64 (field q2)), Is (.pointer (some ⟨a, 0, none⟩)), Is (.pointer (some ⟨a, 0, none⟩)), Is (.pointer (some ⟨a, 317, none⟩)), Is (.slice p.vA n p.vc), Is (.int .i64 E2)]
   (by kernel_rfl) (by kernel_rfl) (by rfl) ?st ?steps ?fin
  case st => exact ⟨Is.steady _, Is.steady _, Is.steady _, Is.steady _, Is.steady _, Is.steady _, Is.steady _, Is.steady _, Is.steady _, Is.steady _, Is.steady _, Is.steady _, Is.steady _, Is.steady _, Is.steady _, Is.steady _, Is.steady _, Is.steady _, Is.steady _, Is.steady _, trivial⟩
  case steps =>
   refine fcA (fun w4 hw4 => ?_) ?_
   ·refine foA rfl rfl ?_; (try simp only [Act.put, zA, zB, zC]); (go_wp2_with fail); exact qsA rfl rfl
   refine fcA (fun w4 hw4 => fiA rfl ?_) ?_
   ·refine foA rfl rfl ?_; (try simp only [Act.put, zA, zB, zC]); (go_wp2_with fail); exact qsA rfl rfl
   refine fcA (fun w4 hw4 => fiA rfl ?_) ?_
   ·refine foA rfl rfl ?_; (try simp only [Act.put, zA, zB, zC]); (go_wp2_with fail); exact qsA rfl rfl
   refine fcA (fun w4 hw4 => fiA rfl ?_) ?_
   ·have c1 : w4.cell? ⟨a, 317, none⟩ = some (.slice p.vA n p.vc) := by have := ((HK.out.below hw4 HK.out.lt).cell 317).trans (p.at_v HX.out); rwa [HN.out] at this
    refine foA rfl rfl ?_; (try simp only [Act.put, zA, zB, zC]); (go_wp2_with fail); exact qsA rfl rfl
   refine fcA (fun w4 hw4 => fiA rfl ?_) ?_
   ·refine foA rfl rfl ?_; (try simp only [Act.put, zA, zB, zC]); (go_wp2_with fail); exact qsA rfl rfl
   refine fcA (fun w4 hw4 => fiA rfl ?_) ?_
   ·refine foA rfl rfl ?_; (try simp only [Act.put, zA, zB, zC]); (go_wp2_with fail); exact qsA rfl rfl
   refine fcA (fun w4 hw4 => fiA rfl ?_) ?_
   ·refine foA rfl rfl ?_; (try simp only [Act.put, zA, zB, zC]); (go_wp2_with fail); exact qsA rfl rfl
   refine fcA (fun w4 hw4 => fiA rfl ?_) ?_
   ·refine foA rfl rfl ?_; (try simp only [Act.put, zA, zB, zC]); (go_wp2_with fail); exact qsA rfl rfl
   refine fcA (fun w4 hw4 => fiA rfl (fiA rfl ?_)) ?_
   ·refine foA rfl rfl ?_; (try simp only [Act.put, zA, zB, zC]); (go_wp2_with fail); exact qsA rfl rfl
   refine fcA (fun w4 hw4 => fiA rfl (fiA rfl ?_)) ?_
   ·refine foA rfl rfl ?_; (try simp only [Act.put, zA, zB, zC]); (go_wp2_with fail); exact qsA rfl rfl
   refine fcA (fun w4 hw4 => fiA rfl (fiA rfl ?_)) ?_
   ·refine foA rfl rfl ?_; (try simp only [Act.put, zA, zB, zC]); (go_wp2_with fail); exact qsA rfl rfl
   refine fcA (fun w4 hw4 => fiA rfl (fiA rfl ?_)) ?_
   ·have c2 : w4.cell? ⟨a, 2, none⟩ = some (.int .i64 p.prop.valid) := ((HK.out.below hw4 HK.out.lt).cell 2).trans (p.at_valid HX.out)
    refine foA rfl rfl ?_; (try simp only [Act.put, zA, zB, zC]); (go_wp2_with fail); exact qsA rfl rfl
   refine fcA (fun w4 hw4 => fiA rfl (fiA rfl ?_)) ?_
   ·refine foA rfl rfl ?_; (try simp only [Act.put, zA, zB, zC]); (go_wp2_with fail); exact qsA rfl rfl
   refine fcA (fun w4 hw4 => fiA rfl (fiA rfl ?_)) ?_
   ·refine foA rfl rfl ?_; (try simp only [Act.put, zA, zB, zC]); (go_wp2_with fail); exact qsA rfl rfl
   refine fcA (fun w4 hw4 => fiA rfl ?_) ?_
   ·refine FreeStep.call rfl rfl rfl (by rfl) rfl rfl (by (try simp only [Act.put, zA, zB, zC]); go_simp; (try with_reducible rfl)) (field_any w4 q2) ?_
    rintro e w5 ⟨rfl, rfl⟩; exact ⟨_, rfl, Below.refl _ _, rfl⟩
   refine fcA (fun w4 hw4 => ?_) ?_
   ·refine foA rfl rfl ?_; (try simp only [Act.put, zA, zB, zC]); (go_wp2_with fail); exact qsA rfl rfl
   refine fcA (fun w4 hw4 => fiA rfl ?_) ?_
   ·refine foA rfl rfl ?_; (try simp only [Act.put, zA, zB, zC]); (go_wp2_with fail); exact qsA rfl rfl
   refine fcA (fun w4 hw4 => fiA rfl ?_) ?_
   ·refine foA rfl rfl ?_; (try simp only [Act.put, zA, zB, zC]); (go_wp2_with fail); exact qsA rfl rfl
   refine fcA (fun w4 hw4 => fiA rfl ?_) ?_
   ·have c1 : w4.cell? ⟨a, 317, none⟩ = some (.slice p.vA n p.vc) := by have := ((HK.out.below hw4 HK.out.lt).cell 317).trans (p.at_v HX.out); rwa [HN.out] at this
    refine foA rfl rfl ?_; (try simp only [Act.put, zA, zB, zC]); (go_wp2_with fail); exact qsA rfl rfl
   refine fcA (fun w4 hw4 => fiA rfl ?_) ?_
   ·refine FreeStep.call rfl rfl rfl (by rfl) rfl rfl (by (try simp only [Act.put, zA, zB, zC]); go_simp; (try with_reducible rfl)) (votes_any w4 p.vA n p.vc p.vs (HN.out ▸ HX.out.vn) HX.out.vs (HAT.out.below hw4).v) ?_
    rintro e w5 ⟨rfl, hb5⟩; exact ⟨_, rfl, hb5, by rw [HE2.out]; rfl⟩
   exact FreeSteps.nil
  case fin =>
   intro w4 hw4
   iterate 20 refine FreeEnd.is rfl ?_
   refine FreeEnd.nil ?_
   (try simp only [Act.put, zA, zB, zC])
   simp only [List.length_cons, List.length_nil, Nat.reduceAdd, List.drop_succ_cons, List.drop_zero]
   have HB4 := Lib.hid (show Below w.heap.size w w4 from ((Below.refl _ _).drew).trans hw4)
   clear hw4
   go_wp2_with fail
   refine (all_any _ _ 2 2 [_, _] (rd_errs w4 _ [_, _] rfl) rfl (by omega)).mono ?_
   rintro e w5 ⟨rfl, hw5⟩
   have HB5 := Lib.hid (show Below w.heap.size w w5 by rw [← hw5]; exact HB4.out.alloc (by have := HB4.out.size; omega) _)
   clear hw5
   go_wp2
   go_ret
   exact ⟨ret_i64 HE.out.symm, HB5.out⟩
end Go.Proofs.YtlhnhjglcbggmaaGreatRR

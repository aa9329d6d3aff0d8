/-
  The walk of ArchiveNil: true, and nothing that was there is changed. Condition: the sizes of the three things, and the height is a number.
-/
import Derived.Test.YtodlehkfadnchaaGreatDoorAn5
import Derived.LoopN
namespace Go.Proofs.YtodlehkfadnchaaGreatDoor
set_option linter.unusedSimpArgs false
set_option linter.unusedVariables false
open Go.RowKit
set_option maxRecDepth 100000

def zeroDiskL : List Value := [.int .i64 0, .int .i64 0, .map none, .bool false, .bool false, .int .i64 0, .slice none 0 0]
def zeroArchL : List Value := [.pointer none, .int .u64 0, .bool false]
theorem bD : Tryz.prog.built 56 [] = some zeroDiskL.toArray := by kernel_rfl
theorem bA : Tryz.prog.built 59 [] = some zeroArchL.toArray := by kernel_rfl
theorem neqFn (w : World) (a b : Nat) : (binOp .neq 71 (.func (.func 35) #[] #[.pointer (some ⟨a, 0, none⟩), .pointer (some ⟨b, 0, none⟩)]) .nilFunc).run Tryz.prog w = .ok (.bool true) w := by kernel_rfl
theorem zd2 : zeroDiskL.toArray[2]? = some (.map none) := rfl
theorem za0 : zeroArchL.toArray[0]? = some (.pointer none) := rfl
theorem zs0 : zeroStateL.toArray[0]? = some (.string ByteArray.empty) := rfl
theorem zs13 : zeroStateL.toArray[13]? = some (.int .u64 0) := rfl
theorem nilD_none (w : World) : NilD w (.pointer none) := Or.inl rfl
theorem nilD_some (w : World) (g : Nat) (h : w.cell? ⟨g, 2, none⟩ = some (.map none)) : NilD w (.pointer (some ⟨g, 0, none⟩)) := Or.inr ⟨g, rfl, h⟩
theorem nilA_some (w : World) (g : Nat) (h : w.cell? ⟨g, 0, none⟩ = some (.pointer none)) : NilA w (.pointer (some ⟨g, 0, none⟩)) := Or.inr ⟨g, rfl, h⟩
theorem all_of {cs : Array Value} {n : Nat} (h : cs.size = n) : cs.extract 0 (0 + n) = cs := by subst h; simp

theorem load_bool {w : World} {g : Nat} {b : Bool} (c : w.cell? ⟨g, 0, none⟩ = some (.bool b)) : (loadVar 4 ⟨g, 0, none⟩).run Tryz.prog w = .ok (.bool b) w := by
  simp [loadVar, go_sem, Tryz.underlying4, c]
theorem one_b : ∀ u ∈ (Value.bool true).cells.toList, u.oneCell' = true := by
  intro u hu
  have e : u = .bool true := by simpa [Value.cells] using hu
  rw [e]
  rfl
/-- what stands at the head of the loop -/
structure At (w : World) (cb cc cs : Array Value) (g3 g4 g5 g6 gl ga : Nat) (wr : World) : Prop where
  below : Below w.heap.size w wr
  k3 : Bk wr g3 cb 34
  k4 : Bk wr g4 cc 32
  k5 : Bk wr g5 cs 47
  k6 : Bk wr g6 #[.bool false] 4
  l0 : wr.cell? ⟨gl, 0, none⟩ = some (.pointer none)
  l1 : wr.cell? ⟨gl, 1, none⟩ = some (.pointer (some ⟨ga, 0, none⟩))
  a0 : wr.cell? ⟨ga, 0, none⟩ = some (.pointer none)
theorem cell_keep {w w' : World} {a : Addr} {v : Value} (h : w.cell? a = some v) (hb : Below w.heap.size w w') : w'.cell? a = some v :=
  (hb.cell (cell_blockA (by rw [h]; simp))).trans h
theorem At.step {w : World} {cb cc cs : Array Value} {g3 g4 g5 g6 gl ga : Nat} {wr w' : World} (h : At w cb cc cs g3 g4 g5 g6 gl ga wr) (hb : Below wr.heap.size wr w') : At w cb cc cs g3 g4 g5 g6 gl ga w' :=
  ⟨h.below.trans (hb.mono h.below.size), h.k3.below hb h.k3.lt, h.k4.below hb h.k4.lt, h.k5.below hb h.k5.lt, h.k6.below hb h.k6.lt, cell_keep h.l0 hb, cell_keep h.l1 hb, cell_keep h.a0 hb⟩

set_option maxHeartbeats 20000000 in
theorem walk_an (w : World) (cb cc cs : Array Value) (n : Int) (hb1 : cb[1]? = some (.int .u64 n)) (sb : cb.size = 265) (sc : cc.size = 35) (ss : cs.size = 55) :
    Calls Tryz.prog 3 #[.agg cb, .agg cc, .agg cs] w fun e w' => e = .returned (.bool true) ∧ Below w.heap.size w w' := by
  have HB1 := Lib.hid hb1
  have SB := Lib.hid sb
  have SC := Lib.hid sc
  have SS := Lib.hid ss
  clear hb1 sb sc ss
  refine callsIn_wide.1 (callsIn_of_wp_marks (n := 2) Tryz.func3 rfl trivial (wpIn_wide.2 ?_))
  simp only [Tryz.ntmps3, List.size_toArray, List.length_cons, List.length_nil, Nat.reduceAdd, Nat.reduceSub, Array.replicate_succ, Array.replicate_zero, List.push_toArray, List.append_toArray, List.nil_append, List.cons_append]
  have QP : ∃ Q0, Q0 = bodyPostM Fence.wide 2 Tryz.prog Tryz.f3 (fun e w' => e = Ending.returned (.bool true) ∧ Below w.heap.size w w') := ⟨_, rfl⟩
  obtain ⟨Q0, hQ0⟩ := QP
  rw [← hQ0]
  have HQ := Lib.hid hQ0
  clear hQ0
  go_wp2_with (first
    | (with_reducible show wpList _ _ _ (Oper.mk (some 3) (Op.box _ _) _ _ _ _ :: _) _ _; go_must (refine wpList_box_bk rfl _ _ rfl (.agg cb) rfl ?_; intro g3 w1 hk hb hg hs; have A1 := Lib.hid hb; have G1 := Lib.hid hg; have Kn := Lib.hid (bk_eqA (cs' := cb) hk rfl); have K3_1 := Kn; clear Kn; clear hk hb hg hs))
    | (with_reducible show wpList _ _ _ (Oper.mk (some 4) (Op.box _ _) _ _ _ _ :: _) _ _; go_must (refine wpList_box_bk rfl _ _ rfl (.agg cc) rfl ?_; intro g4 w2 hk hb hg hs; have A2 := Lib.hid (A1.out.trans (hb.mono A1.out.size)); have G2 := Lib.hid hg; have Kn := Lib.hid (bk_eqA (cs' := cc) hk rfl); have K3_2 := Lib.hid (K3_1.out.below hb K3_1.out.lt); clear K3_1; have K4_2 := Kn; clear Kn; clear hk hb hg hs))
    | (with_reducible show wpList _ _ _ (Oper.mk (some 5) (Op.box _ _) _ _ _ _ :: _) _ _; go_must (refine wpList_box_bk rfl _ _ rfl (.agg cs) rfl ?_; intro g5 w3 hk hb hg hs; have A3 := Lib.hid (A2.out.trans (hb.mono A2.out.size)); have G3 := Lib.hid hg; have Kn := Lib.hid (bk_eqA (cs' := cs) hk rfl); have K3_3 := Lib.hid (K3_2.out.below hb K3_2.out.lt); have K4_3 := Lib.hid (K4_2.out.below hb K4_2.out.lt); clear K3_2 K4_2; have K5_3 := Kn; clear Kn; clear hk hb hg hs))
    | (with_reducible show wpList _ _ _ (Oper.mk (some 6) (Op.alloc _) _ _ _ _ :: _) _ _; go_must (refine wpList_alloc_bk rfl _ rfl (.bool false) (by kernel_rfl) ?_; intro g6 w4 hk hb hg hs; have A4 := Lib.hid (A3.out.trans (hb.mono A3.out.size)); have G6 := Lib.hid hg; have K6_4 := Lib.hid (bk_eqA (cs' := #[.bool false]) hk rfl); have K3_4 := Lib.hid (K3_3.out.below hb K3_3.out.lt); have K4_4 := Lib.hid (K4_3.out.below hb K4_3.out.lt); have K5_4 := Lib.hid (K5_3.out.below hb K5_3.out.lt); clear K3_3 K4_3 K5_3; have O1 := Lib.hid (open_any w4 _ (nilD_none w4)); clear hk hb hg hs))
    | (go_at_call 4; have Ot := O1; clear O1; go_must (refine Ot.out.mono ?_; rintro e wx ⟨rfl, rfl⟩; clear Ot))
    | (with_reducible show wpList _ _ _ (Oper.mk _ (Op.build 56 _) _ _ _ _ :: _) _ _; go_must (refine wpList_build0 rfl _ rfl _ bD ?_))
    | (with_reducible show wpList _ _ _ (Oper.mk (some 26) (Op.box _ _) _ _ _ _ :: _) _ _; go_must (refine wpList_box_bk rfl _ _ rfl (.agg zeroDiskL.toArray) rfl ?_; intro g7 w5 hk hb hg hs; have A5 := Lib.hid (A4.out.trans (hb.mono A4.out.size)); have K3_5 := Lib.hid (K3_4.out.below hb K3_4.out.lt); have K4_5 := Lib.hid (K4_4.out.below hb K4_4.out.lt); have K5_5 := Lib.hid (K5_4.out.below hb K5_4.out.lt); have K6_5 := Lib.hid (K6_4.out.below hb K6_4.out.lt); clear K3_4 K4_4 K5_4 K6_4; have O2 := Lib.hid (open_any w5 _ (nilD_some w5 g7 (((bk_eqA (cs' := zeroDiskL.toArray) hk rfl).cell 2).trans zd2))); clear hk hb hg hs))
    | (go_at_call 4; have Ot := O2; clear O2; go_must (refine Ot.out.mono ?_; rintro e wx ⟨rfl, rfl⟩; clear Ot))
    | (go_at_call 5; go_must (refine (num_any _ _).mono ?_); rintro e wx ⟨rfl, rfl⟩)
    | (with_reducible show wpList _ _ _ (Oper.mk _ (Op.build 59 _) _ _ _ _ :: _) _ _; go_must (refine wpList_build0 rfl _ rfl _ bA ?_))
    | (with_reducible show wpList _ _ _ (Oper.mk (some 48) (Op.box _ _) _ _ _ _ :: _) _ _; go_must (refine wpList_box_bk rfl _ _ rfl (.agg zeroArchL.toArray) rfl ?_; intro ga w6 hk hb hg hs; have A6 := Lib.hid (A5.out.trans (hb.mono A5.out.size)); have K3_6 := Lib.hid (K3_5.out.below hb K3_5.out.lt); have K4_6 := Lib.hid (K4_5.out.below hb K4_5.out.lt); have K5_6 := Lib.hid (K5_5.out.below hb K5_5.out.lt); have K6_6 := Lib.hid (K6_5.out.below hb K6_5.out.lt); clear K3_5 K4_5 K5_5 K6_5; have a6 := Lib.hid (((bk_eqA (cs' := zeroArchL.toArray) hk rfl).cell 0).trans za0); clear hk hb hg hs)))
  have hT : At w cb cc cs g3 g4 g5 g6 w6.heap.size ga (w6.alloc (.cells #[.pointer none, .pointer (some ⟨ga, 0, none⟩)] 48)) := by
    have hb : Below w6.heap.size w6 (w6.alloc (.cells #[.pointer none, .pointer (some ⟨ga, 0, none⟩)] 48)) := (Below.refl _ _).alloc (Nat.le_refl _) _
    exact ⟨A6.out.trans (hb.mono A6.out.size), K3_6.out.below hb K3_6.out.lt, K4_6.out.below hb K4_6.out.lt, K5_6.out.below hb K5_6.out.lt, K6_6.out.below hb K6_6.out.lt, (Bk.new w6 48 _).cell 0, (Bk.new w6 48 _).cell 1, cell_keep a6.out hb⟩
  have T0 := Lib.hid hT
  clear hT K3_6 K4_6 K5_6 K6_6 a6
  generalize (w6.alloc (.cells #[.pointer none, .pointer (some ⟨ga, 0, none⟩)] 48)) = wr at *
  generalize w6.heap.size = gl at *
  have M0 := Lib.hid (Below.refl wr.heap.size wr)
  have hg6 : g6 < wr.heap.size := T0.out.k6.lt
  refine wp_loop_rounds 3 ?_
  rw [rounds_succ]
  have c1 := T0.out.l0
  have c2 : wr.cell? ⟨g3, 1, none⟩ = some (.int .u64 n) := (T0.out.k3.cell 1).trans HB1.out
  go_wp2_with fail
  refine (load_any wr (.pointer none) n (nilA_none _)).mono ?_
  rintro e u1 ⟨rfl, hb⟩
  have T1 := Lib.hid (T0.out.step hb)
  have M1 := Lib.hid (M0.out.trans (hb.mono M0.out.size))
  clear hb T0 M0 
  clear c1 c2
  go_wp2_with (first
    | (with_reducible show wpList _ _ _ (Oper.mk (some 14) (Op.alloc _) _ _ _ _ :: _) _ _; go_must (refine wpList_alloc_bk rfl _ rfl (.agg zeroBlockL.toArray) zB ?_; intro b1 u2 hk hb hg hs; have B2 := Lib.hid hb; have G1 := Lib.hid hg; have K14_2 := Lib.hid (bk_eqA (cs' := zeroBlockL.toArray) hk rfl); clear hk hb hg hs))
    | (with_reducible show wpList _ _ _ (Oper.mk (some 15) (Op.alloc _) _ _ _ _ :: _) _ _; go_must (refine wpList_alloc_bk rfl _ rfl (.agg zeroCertL.toArray) zC ?_; intro b2 u3 hk hb hg hs; have B3 := Lib.hid (B2.out.trans (hb.mono B2.out.size)); have G2 := Lib.hid hg; have K14_3 := Lib.hid (K14_2.out.below hb K14_2.out.lt); have k14 := K14_2.out.lt; have K15_3 := Lib.hid (bk_eqA (cs' := zeroCertL.toArray) hk rfl); clear hk hb hg hs))
    | (with_reducible show wpList _ _ _ (Oper.mk _ (Op.store 34 _ _) _ _ _ _ :: _) _ _; go_must (refine wpList_stA rfl _ _ _ rfl b1 rfl zeroBlockL.toArray rfl _ _ K14_3.out 265 iB lB lB oB ?_; intro u4 hk hg hs; have B4 := Lib.hid (B3.out.grown hg B3.out.size (fun k hk => by cases hk; have := G1.out; omega)); have K14_4 := Lib.hid hk; have K15_4 := Lib.hid (K15_3.out.grown hg (fun h => by cases h; have := G2.out; omega)); clear hk hg hs))
    | (with_reducible show wpList _ _ _ (Oper.mk _ (Op.store 32 _ _) _ _ _ _ :: _) _ _; go_must (refine wpList_stA rfl _ _ _ rfl b2 rfl zeroCertL.toArray rfl _ _ K15_4.out 35 iC lC lC oC ?_; intro u5 hk hg hs; have hb := B4.out.grown hg B4.out.size (fun k hk => by cases hk; have := G1.out; have := G2.out; omega); have K15_5 := Lib.hid hk; have K14_5 := Lib.hid (K14_4.out.grown hg (fun h => by cases h; have := G2.out; omega)); have T5 := Lib.hid (T1.out.step hb); have M5 := Lib.hid (M1.out.trans (hb.mono M1.out.size)); clear hb hk hg hs T1 M1)))
  clear B2 B3 B4 G1 G2 k14
  refine (noted_any u5 (.pointer none) (nilA_none _)).mono ?_
  rintro e u6 ⟨rfl, hb⟩
  have T6 := Lib.hid (T5.out.step hb)
  have M6 := Lib.hid (M5.out.trans (hb.mono M5.out.size))
  have K14_6 := Lib.hid (K14_5.out.below hb K14_5.out.lt)
  have K15_6 := Lib.hid (K15_5.out.below hb K15_5.out.lt)
  clear hb T5 M5 K14_5 K15_5
  go_wp2_with (first
    | (with_reducible show wpList _ _ _ (Oper.mk (some 17) (Op.alloc _) _ _ _ _ :: _) _ _; go_must (refine wpList_alloc_bk rfl _ rfl (.agg zeroStateL.toArray) zS ?_; intro b3 u7 hk hb hg hs; have B7 := Lib.hid hb; have G3 := Lib.hid hg; have K17_7 := Lib.hid (bk_eqA (cs' := zeroStateL.toArray) hk rfl); clear hk hb hg hs))
    | (with_reducible show wpList _ _ _ (Oper.mk _ (Op.store 47 _ _) _ _ _ _ :: _) _ _; go_must (refine wpList_stA rfl _ _ _ rfl b3 rfl zeroStateL.toArray rfl _ _ K17_7.out 55 iS lS lS oS ?_; intro u8 hk hg hs; have hb := B7.out.grown hg B7.out.size (fun k hk => by cases hk; have := G3.out; omega); have K17_8 := Lib.hid hk; have K14_8 := Lib.hid (K14_6.out.below hb K14_6.out.lt); have K15_8 := Lib.hid (K15_6.out.below hb K15_6.out.lt); have T8 := Lib.hid (T6.out.step hb); have M8 := Lib.hid (M6.out.trans (hb.mono M6.out.size)); clear hb hk hg hs T6 M6)))
  refine (head_any u8 (.pointer none) (nilA_none _)).mono ?_
  rintro e wx ⟨rfl, rfl⟩
  go_wp2_with (first
    | (with_reducible show wpList _ _ _ (Oper.mk (some 79) (Op.load _ _) _ _ _ _ :: _) _ _; go_must (refine wpList_load_part rfl 34 _ rfl g3 0 265 rfl _ _ _ T8.out.k3 Tryz.underlying34 rfl iB (by rw [SB.out]; omega) _ (all_of SB.out) ?_))
    | (with_reducible show wpList _ _ _ (Oper.mk (some 80) (Op.load _ _) _ _ _ _ :: _) _ _; go_must (refine wpList_load_part rfl 32 _ rfl g4 0 35 rfl _ _ _ T8.out.k4 Tryz.underlying32 rfl iC (by rw [SC.out]; omega) _ (all_of SC.out) ?_)))
  refine (save_any u8 (.pointer none) cb cc n (nilA_none _) HB1.out).mono ?_
  rintro e u9 ⟨rfl, hb⟩
  have T9 := Lib.hid (T8.out.step hb)
  have M9 := Lib.hid (M8.out.trans (hb.mono M8.out.size))
  have K14_9 := Lib.hid (K14_8.out.below hb K14_8.out.lt)
  have K15_9 := Lib.hid (K15_8.out.below hb K15_8.out.lt)
  have K17_9 := Lib.hid (K17_8.out.below hb K17_8.out.lt)
  clear hb T8 M8 K14_8 K15_8 K17_8
  go_wp2_with (first
    | (go_at_call 5; go_must (refine (num_any _ _).mono ?_); rintro e wx ⟨rfl, rfl⟩)
    | (with_reducible show wpList _ _ _ (Oper.mk (some 87) (Op.load _ _) _ _ _ _ :: _) _ _; go_must (refine wpList_load_part rfl 47 _ rfl g5 0 55 rfl _ _ _ T9.out.k5 Tryz.underlying47 rfl iS (by rw [SS.out]; omega) _ (all_of SS.out) ?_)))
  refine (note_any u9 (.pointer none) cs (nilA_none _)).mono ?_
  rintro e u10 ⟨rfl, hb⟩
  have T10 := Lib.hid (T9.out.step hb)
  have M10 := Lib.hid (M9.out.trans (hb.mono M9.out.size))
  have K14_10 := Lib.hid (K14_9.out.below hb K14_9.out.lt)
  have K15_10 := Lib.hid (K15_9.out.below hb K15_9.out.lt)
  have K17_10 := Lib.hid (K17_9.out.below hb K17_9.out.lt)
  clear hb T9 M9 K14_9 K15_9 K17_9
  go_wp2_with (first
    | (go_at_call 5; go_must (refine (num_any _ _).mono ?_); rintro e wx ⟨rfl, rfl⟩)
    | (with_reducible show wpList _ _ _ (Oper.mk (some 103) (Op.load _ _) _ _ _ _ :: _) _ _; go_must (refine wpList_load_part rfl 34 _ rfl b1 0 265 rfl _ _ _ K14_10.out Tryz.underlying34 rfl iB (by rw [lB]; omega) _ (all_of lB) ?_))
    | (with_reducible show wpList _ _ _ (Oper.mk _ (Op.build 34 _) _ _ _ _ :: _) _ _; go_must (refine wpList_build0 rfl _ rfl _ bB ?_)))
  refine (sameBlock_any u10).mono ?_
  rintro e u11 ⟨rfl, hb⟩
  have T11 := Lib.hid (T10.out.step hb)
  have M11 := Lib.hid (M10.out.trans (hb.mono M10.out.size))
  have K15_11 := Lib.hid (K15_10.out.below hb K15_10.out.lt)
  have K17_11 := Lib.hid (K17_10.out.below hb K17_10.out.lt)
  clear hb T10 M10 K15_10 K17_10
  go_wp2_with (first
    | (with_reducible show wpList _ _ _ (Oper.mk (some 109) (Op.load _ _) _ _ _ _ :: _) _ _; go_must (refine wpList_load_part rfl 32 _ rfl b2 0 35 rfl _ _ _ K15_11.out Tryz.underlying32 rfl iC (by rw [lC]; omega) _ (all_of lC) ?_))
    | (with_reducible show wpList _ _ _ (Oper.mk _ (Op.build 32 _) _ _ _ _ :: _) _ _; go_must (refine wpList_build0 rfl _ rfl _ bC ?_)))
  refine (sameCert_any u11).mono ?_
  rintro e u12 ⟨rfl, hb⟩
  have T12 := Lib.hid (T11.out.step hb)
  have M12 := Lib.hid (M11.out.trans (hb.mono M11.out.size))
  have K17_12 := Lib.hid (K17_11.out.below hb K17_11.out.lt)
  clear hb T11 M11 K17_11
  have e1 := (K17_12.out.cell 0).trans zs0
  have e2 := (K17_12.out.cell 13).trans zs13
  go_wp2_with fail
  refine (from_any u12 (.pointer none) 1 (nilA_none _)).mono ?_
  rintro e u13 ⟨f1, f2, rfl, d1, d2, hb⟩
  have T13 := Lib.hid (T12.out.step hb)
  have M13 := Lib.hid (M12.out.trans (hb.mono M12.out.size))
  clear hb T12 M12 
  clear e1 e2
  have hq := fun w => neqFn w f2 f1
  go_wp2_with fail
  refine wp_range_none (lb := #[.pointer (some ⟨f2, 0, none⟩), .pointer (some ⟨f1, 0, none⟩)]) rfl enters_from (fun l w1 hbl => from1_any w1 (.pointer none) l f1 f2 (nilA_none _) (cell_keep d1 hbl) (cell_keep d2 hbl)) ?_
  intro D1 u14 hDD1 kDD1 hb
  have hWD1 : w.heap.size ≤ D1 := Nat.le_trans T13.out.below.size hDD1
  have hMD1 : wr.heap.size ≤ D1 := Nat.le_trans M13.out.size hDD1
  have T14 := Lib.hid (T13.out.step hb)
  have M14 := Lib.hid (M13.out.trans (hb.mono M13.out.size))
  have hLD1 : D1 < u14.heap.size := (Array.getElem?_eq_some_iff.1 kDD1).1
  clear hb T13 M13 hq d1 d2 K17_12 hDD1
  go_wp2_with fail
  rw [rounds_succ]
  have hn1 : g6 < D1 := Nat.lt_of_lt_of_le hg6 hMD1
  clear hg6
  have hg6 : g6 < u14.heap.size := T14.out.k6.lt
  have T0 := T14
  have M0 := Lib.hid (Below.refl u14.heap.size u14)
  clear T14 M14 hMD1
  have c1 := T0.out.l1
  have c2 : u14.cell? ⟨g3, 1, none⟩ = some (.int .u64 n) := (T0.out.k3.cell 1).trans HB1.out
  go_wp2_with fail
  refine (load_any u14 (.pointer (some ⟨ga, 0, none⟩)) n (nilA_some _ _ T0.out.a0)).mono ?_
  rintro e v1 ⟨rfl, hb⟩
  have T1 := Lib.hid (T0.out.step hb)
  have M1 := Lib.hid (M0.out.trans (hb.mono M0.out.size))
  clear hb T0 M0 
  clear c1 c2
  go_wp2_with (first
    | (with_reducible show wpList _ _ _ (Oper.mk (some 14) (Op.alloc _) _ _ _ _ :: _) _ _; go_must (refine wpList_alloc_bk rfl _ rfl (.agg zeroBlockL.toArray) zB ?_; intro b1 v2 hk hb hg hs; have B2 := Lib.hid hb; have G1 := Lib.hid hg; have K14_2 := Lib.hid (bk_eqA (cs' := zeroBlockL.toArray) hk rfl); clear hk hb hg hs))
    | (with_reducible show wpList _ _ _ (Oper.mk (some 15) (Op.alloc _) _ _ _ _ :: _) _ _; go_must (refine wpList_alloc_bk rfl _ rfl (.agg zeroCertL.toArray) zC ?_; intro b2 v3 hk hb hg hs; have B3 := Lib.hid (B2.out.trans (hb.mono B2.out.size)); have G2 := Lib.hid hg; have K14_3 := Lib.hid (K14_2.out.below hb K14_2.out.lt); have k14 := K14_2.out.lt; have K15_3 := Lib.hid (bk_eqA (cs' := zeroCertL.toArray) hk rfl); clear hk hb hg hs))
    | (with_reducible show wpList _ _ _ (Oper.mk _ (Op.store 34 _ _) _ _ _ _ :: _) _ _; go_must (refine wpList_stA rfl _ _ _ rfl b1 rfl zeroBlockL.toArray rfl _ _ K14_3.out 265 iB lB lB oB ?_; intro v4 hk hg hs; have B4 := Lib.hid (B3.out.grown hg B3.out.size (fun k hk => by cases hk; have := G1.out; omega)); have K14_4 := Lib.hid hk; have K15_4 := Lib.hid (K15_3.out.grown hg (fun h => by cases h; have := G2.out; omega)); clear hk hg hs))
    | (with_reducible show wpList _ _ _ (Oper.mk _ (Op.store 32 _ _) _ _ _ _ :: _) _ _; go_must (refine wpList_stA rfl _ _ _ rfl b2 rfl zeroCertL.toArray rfl _ _ K15_4.out 35 iC lC lC oC ?_; intro v5 hk hg hs; have hb := B4.out.grown hg B4.out.size (fun k hk => by cases hk; have := G1.out; have := G2.out; omega); have K15_5 := Lib.hid hk; have K14_5 := Lib.hid (K14_4.out.grown hg (fun h => by cases h; have := G2.out; omega)); have T5 := Lib.hid (T1.out.step hb); have M5 := Lib.hid (M1.out.trans (hb.mono M1.out.size)); clear hb hk hg hs T1 M1)))
  clear B2 B3 B4 G1 G2 k14
  refine (noted_any v5 (.pointer (some ⟨ga, 0, none⟩)) (nilA_some _ _ T5.out.a0)).mono ?_
  rintro e v6 ⟨rfl, hb⟩
  have T6 := Lib.hid (T5.out.step hb)
  have M6 := Lib.hid (M5.out.trans (hb.mono M5.out.size))
  have K14_6 := Lib.hid (K14_5.out.below hb K14_5.out.lt)
  have K15_6 := Lib.hid (K15_5.out.below hb K15_5.out.lt)
  clear hb T5 M5 K14_5 K15_5
  go_wp2_with (first
    | (with_reducible show wpList _ _ _ (Oper.mk (some 17) (Op.alloc _) _ _ _ _ :: _) _ _; go_must (refine wpList_alloc_bk rfl _ rfl (.agg zeroStateL.toArray) zS ?_; intro b3 v7 hk hb hg hs; have B7 := Lib.hid hb; have G3 := Lib.hid hg; have K17_7 := Lib.hid (bk_eqA (cs' := zeroStateL.toArray) hk rfl); clear hk hb hg hs))
    | (with_reducible show wpList _ _ _ (Oper.mk _ (Op.store 47 _ _) _ _ _ _ :: _) _ _; go_must (refine wpList_stA rfl _ _ _ rfl b3 rfl zeroStateL.toArray rfl _ _ K17_7.out 55 iS lS lS oS ?_; intro v8 hk hg hs; have hb := B7.out.grown hg B7.out.size (fun k hk => by cases hk; have := G3.out; omega); have K17_8 := Lib.hid hk; have K14_8 := Lib.hid (K14_6.out.below hb K14_6.out.lt); have K15_8 := Lib.hid (K15_6.out.below hb K15_6.out.lt); have T8 := Lib.hid (T6.out.step hb); have M8 := Lib.hid (M6.out.trans (hb.mono M6.out.size)); clear hb hk hg hs T6 M6)))
  refine (head_any v8 (.pointer (some ⟨ga, 0, none⟩)) (nilA_some _ _ T8.out.a0)).mono ?_
  rintro e wx ⟨rfl, rfl⟩
  go_wp2_with (first
    | (with_reducible show wpList _ _ _ (Oper.mk (some 79) (Op.load _ _) _ _ _ _ :: _) _ _; go_must (refine wpList_load_part rfl 34 _ rfl g3 0 265 rfl _ _ _ T8.out.k3 Tryz.underlying34 rfl iB (by rw [SB.out]; omega) _ (all_of SB.out) ?_))
    | (with_reducible show wpList _ _ _ (Oper.mk (some 80) (Op.load _ _) _ _ _ _ :: _) _ _; go_must (refine wpList_load_part rfl 32 _ rfl g4 0 35 rfl _ _ _ T8.out.k4 Tryz.underlying32 rfl iC (by rw [SC.out]; omega) _ (all_of SC.out) ?_)))
  refine (save_any v8 (.pointer (some ⟨ga, 0, none⟩)) cb cc n (nilA_some _ _ T8.out.a0) HB1.out).mono ?_
  rintro e v9 ⟨rfl, hb⟩
  have T9 := Lib.hid (T8.out.step hb)
  have M9 := Lib.hid (M8.out.trans (hb.mono M8.out.size))
  have K14_9 := Lib.hid (K14_8.out.below hb K14_8.out.lt)
  have K15_9 := Lib.hid (K15_8.out.below hb K15_8.out.lt)
  have K17_9 := Lib.hid (K17_8.out.below hb K17_8.out.lt)
  clear hb T8 M8 K14_8 K15_8 K17_8
  go_wp2_with (first
    | (go_at_call 5; go_must (refine (num_any _ _).mono ?_); rintro e wx ⟨rfl, rfl⟩)
    | (with_reducible show wpList _ _ _ (Oper.mk (some 87) (Op.load _ _) _ _ _ _ :: _) _ _; go_must (refine wpList_load_part rfl 47 _ rfl g5 0 55 rfl _ _ _ T9.out.k5 Tryz.underlying47 rfl iS (by rw [SS.out]; omega) _ (all_of SS.out) ?_)))
  refine (note_any v9 (.pointer (some ⟨ga, 0, none⟩)) cs (nilA_some _ _ T9.out.a0)).mono ?_
  rintro e v10 ⟨rfl, hb⟩
  have T10 := Lib.hid (T9.out.step hb)
  have M10 := Lib.hid (M9.out.trans (hb.mono M9.out.size))
  have K14_10 := Lib.hid (K14_9.out.below hb K14_9.out.lt)
  have K15_10 := Lib.hid (K15_9.out.below hb K15_9.out.lt)
  have K17_10 := Lib.hid (K17_9.out.below hb K17_9.out.lt)
  clear hb T9 M9 K14_9 K15_9 K17_9
  go_wp2_with (first
    | (go_at_call 5; go_must (refine (num_any _ _).mono ?_); rintro e wx ⟨rfl, rfl⟩)
    | (with_reducible show wpList _ _ _ (Oper.mk (some 103) (Op.load _ _) _ _ _ _ :: _) _ _; go_must (refine wpList_load_part rfl 34 _ rfl b1 0 265 rfl _ _ _ K14_10.out Tryz.underlying34 rfl iB (by rw [lB]; omega) _ (all_of lB) ?_))
    | (with_reducible show wpList _ _ _ (Oper.mk _ (Op.build 34 _) _ _ _ _ :: _) _ _; go_must (refine wpList_build0 rfl _ rfl _ bB ?_)))
  refine (sameBlock_any v10).mono ?_
  rintro e v11 ⟨rfl, hb⟩
  have T11 := Lib.hid (T10.out.step hb)
  have M11 := Lib.hid (M10.out.trans (hb.mono M10.out.size))
  have K15_11 := Lib.hid (K15_10.out.below hb K15_10.out.lt)
  have K17_11 := Lib.hid (K17_10.out.below hb K17_10.out.lt)
  clear hb T10 M10 K15_10 K17_10
  go_wp2_with (first
    | (with_reducible show wpList _ _ _ (Oper.mk (some 109) (Op.load _ _) _ _ _ _ :: _) _ _; go_must (refine wpList_load_part rfl 32 _ rfl b2 0 35 rfl _ _ _ K15_11.out Tryz.underlying32 rfl iC (by rw [lC]; omega) _ (all_of lC) ?_))
    | (with_reducible show wpList _ _ _ (Oper.mk _ (Op.build 32 _) _ _ _ _ :: _) _ _; go_must (refine wpList_build0 rfl _ rfl _ bC ?_)))
  refine (sameCert_any v11).mono ?_
  rintro e v12 ⟨rfl, hb⟩
  have T12 := Lib.hid (T11.out.step hb)
  have M12 := Lib.hid (M11.out.trans (hb.mono M11.out.size))
  have K17_12 := Lib.hid (K17_11.out.below hb K17_11.out.lt)
  clear hb T11 M11 K17_11
  have e1 := (K17_12.out.cell 0).trans zs0
  have e2 := (K17_12.out.cell 13).trans zs13
  go_wp2_with fail
  refine (from_any v12 (.pointer (some ⟨ga, 0, none⟩)) 1 (nilA_some _ _ T12.out.a0)).mono ?_
  rintro e v13 ⟨f1, f2, rfl, d1, d2, hb⟩
  have T13 := Lib.hid (T12.out.step hb)
  have M13 := Lib.hid (M12.out.trans (hb.mono M12.out.size))
  clear hb T12 M12 
  clear e1 e2
  have hq := fun w => neqFn w f2 f1
  go_wp2_with fail
  refine wp_range_none (lb := #[.pointer (some ⟨f2, 0, none⟩), .pointer (some ⟨f1, 0, none⟩)]) rfl enters_from (fun l w1 hbl => from1_any w1 (.pointer (some ⟨ga, 0, none⟩)) l f1 f2 (nilA_some _ _ (T13.out.step hbl).a0) (cell_keep d1 hbl) (cell_keep d2 hbl)) ?_
  intro D2 v14 hDD2 kDD2 hb
  have hWD2 : w.heap.size ≤ D2 := Nat.le_trans T13.out.below.size hDD2
  have hMD2 : u14.heap.size ≤ D2 := Nat.le_trans M13.out.size hDD2
  have T14 := Lib.hid (T13.out.step hb)
  have M14 := Lib.hid (M13.out.trans (hb.mono M13.out.size))
  have hLD2 : D2 < v14.heap.size := (Array.getElem?_eq_some_iff.1 kDD2).1
  clear hb T13 M13 hq d1 d2 K17_12 hDD2
  go_wp2_with fail
  rw [rounds_succ]
  have kE : v14.heap[D1]? = some (.deferred (some [])) := (M14.out.block D1 hLD1).trans kDD1
  have K6 := Lib.hid T14.out.k6
  go_wp2_with ((with_reducible show wpList _ _ _ (Oper.mk _ (Op.store _ _ _) _ _ _ _ :: _) _ _; go_must (refine wpList_store_bk rfl _ _ _ rfl g6 rfl (.bool true) rfl _ _ K6.out (by kernel_rfl) rfl (one_b) ?_; intro x1 hk hg hs; have J1 := Lib.hid hk; have GR := Lib.hid hg; clear hk hg hs)))
  have hn2 : g6 < D2 := Nat.lt_of_lt_of_le hg6 hMD2
  have hn3 : D1 < D2 := Nat.lt_of_lt_of_le hLD1 hMD2
  have hl1 : D1 < v14.heap.size := Nat.lt_of_lt_of_le hLD1 M14.out.size
  have e1 : x1.heap[D1]? = some (.deferred (some [])) := (GR.out.block D1 hl1 (fun h => by cases h; omega)).trans kE
  have e2 : x1.heap[D2]? = some (.deferred (some [])) := (GR.out.block D2 hLD2 (fun h => by cases h; omega)).trans kDD2
  have e3 : (x1.putObj D2 (.deferred none)).heap[D1]? = some (.deferred (some [])) := (World.putObj_heap_other (by omega)).trans e1
  have B1 : Below w.heap.size w x1 := T14.out.below.grown GR.out T14.out.below.size (fun k e => by cases e; have := G6.out; have := A3.out.size; omega)
  have B2 : Below w.heap.size w (x1.putObj D2 (.deferred none)) := B1.grown (grownBy_putObj' _ D2 _) B1.size (fun k e => by cases e; exact hWD2)
  have B3 : Below w.heap.size w ((x1.putObj D2 (.deferred none)).putObj D1 (.deferred none)) := B2.grown (grownBy_putObj' _ D1 _) B2.size (fun k e => by cases e; exact hWD1)
  have k1 : Bk x1 g6 #[.bool true] 4 := bk_eqA J1.out rfl
  have k3 := (k1.grown (grownBy_putObj' _ D2 (.deferred none)) (fun h => by cases h; omega)).grown (grownBy_putObj' _ D1 (.deferred none)) (fun h => by cases h; omega)
  rw [HQ.out]
  refine ⟨by simp, .inl ⟨D2, _, rfl, run_takeDeferred e2, ?_⟩⟩
  refine ⟨by simp, .inl ⟨D1, _, rfl, run_takeDeferred e3, ?_⟩⟩
  exact ⟨.bool true, run_results_cell Tryz.results3 rfl (load_bool (k3.cell 0)), rfl, B3⟩
end Go.Proofs.YtodlehkfadnchaaGreatDoor

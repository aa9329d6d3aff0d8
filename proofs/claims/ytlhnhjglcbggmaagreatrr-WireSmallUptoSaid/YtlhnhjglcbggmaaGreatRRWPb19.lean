/-
  The keys that a State's lists rise by. Conditions: none.
-/
import Derived.Test.YtlhnhjglcbggmaaGreatRRWPb18
namespace Go.Proofs.YtlhnhjglcbggmaaGreatRR
set_option linter.unusedSimpArgs false
set_option linter.unusedVariables false
open Go.RowKit
set_option maxRecDepth 100000

def key2 (k : Int × Int) : List Value := [.int .u64 k.1, .int .u64 k.2]
theorem key2_one (k : Int × Int) : ∀ u ∈ (Value.agg (key2 k).toArray).cells.toList, u.oneCell' = true := by
  intro u hu
  simp only [Value.cells, key2, List.mem_cons, List.not_mem_nil, or_false] at hu
  rcases hu with rfl | rfl <;> rfl
theorem built_k1 (a : Int) : Tryz.prog.built 185 [(0, .int .u64 a)] = some (key2 (a, 0)).toArray := by kernel_rfl
theorem built_k2 (a b : Int) : Tryz.prog.built 185 [(0, .int .u64 a), (1, .int .u64 b)] = some (key2 (a, b)).toArray := by kernel_rfl
theorem zero_k : (Tryz.prog.info? 185).bind (·.zero) = some (.agg (key2 (0, 0)).toArray) := by kernel_rfl
theorem info_k : (Tryz.prog.info? 185).map (·.size) = some 2 := by kernel_rfl
theorem key2_sz (k : Int × Int) : (key2 k).toArray.size = 2 := rfl
set_option maxHeartbeats 400000 in
theorem memKey_any (w : World) (m : Mem) : Calls Tryz.prog 111 #[.agg m.cl.toArray] w fun e w' => e = .returned (.agg (key2 (memKey m)).toArray) ∧ Below w.heap.size w w' := by
  have HB := Lib.hid (built_k1 m.addr)
  have HS := Lib.hid (key2_sz (memKey m))
  have HO := Lib.hid (key2_one (memKey m))
  go_enter Tryz.func111, Tryz.ntmps111
  go_wp2_with (with_reducible show wpList _ _ _ (Oper.mk _ (Op.box _ _) _ _ _ _ :: _) _ _; refine wpList_box_bk rfl _ _ rfl _ rfl ?_)
  intro bx w1 hk hbl hg hs
  clear hg hs
  have HK1 := Lib.hid (bk_eqT (cs' := m.cl.toArray) hk rfl)
  have HB1 := Lib.hid hbl
  clear hk hbl
  go_wp2_with (with_reducible show wpList _ _ _ (Oper.mk _ (Op.alloc _) _ _ _ _ :: _) _ _; refine wpList_alloc_i rfl 185 rfl (.agg (key2 (0, 0)).toArray) zero_k ?_)
  intro r w2 h2 hl2 hg2 hs2
  have H2 := Lib.hid (show Bk w2 r (key2 (0, 0)).toArray 185 from h2)
  have HK2 := Lib.hid (HK1.out.below hl2 HK1.out.lt)
  have HB2 := Lib.hid (HB1.out.trans (hl2.mono HB1.out.size))
  have HG2 := Lib.hid (show w.heap.size ≤ r from Nat.le_trans HB1.out.size hg2)
  clear h2 hl2 hg2 hs2
  have c0 : w2.cell? ⟨bx, 0, none⟩ = some (.int .u64 m.addr) := HK2.out.cell 0
  go_wp2_with (first
    | ((with_reducible show wpList _ _ _ (Oper.mk _ (Op.build _ _) _ _ _ _ :: _) _ _); go_must (refine wpList_buildv rfl 185 [(0, _)] rfl [_] rfl _ HB.out ?_))
    | (with_reducible show wpList _ _ _ (Oper.mk _ (Op.store 185 _ _) _ _ _ _ :: _) _ _; go_must (refine wpList_store_bk rfl 185 _ _ rfl r rfl (.agg (key2 (memKey m)).toArray) rfl _ _ H2.out (by rw [agg_sz HS.out]; exact info_k) (by rw [agg_sz HS.out]; exact (key2_sz (0, 0)).symm) HO.out ?_)))
  intro w5 h5 hg5 hs5
  have HB5 := Lib.hid (below_grown2 HB2.out hg5 HG2.out HB2.out.size)
  have H5 := Lib.hid (show Bk w5 r (key2 (memKey m)).toArray 185 from h5)
  clear h5 hg5 hs5
  go_wp2
  exact bodyPost_cell Tryz.results111 rfl H5.out Tryz.underlying185 rfl info_k HS.out.symm rfl ⟨rfl, HB5.out⟩
set_option maxHeartbeats 400000 in
theorem pstKey_any (w : World) (m : Pst) : Calls Tryz.prog 113 #[.agg m.cl.toArray] w fun e w' => e = .returned (.agg (key2 (pstKey m)).toArray) ∧ Below w.heap.size w w' := by
  have HB := Lib.hid (built_k1 m.height)
  have HS := Lib.hid (key2_sz (pstKey m))
  have HO := Lib.hid (key2_one (pstKey m))
  go_enter Tryz.func113, Tryz.ntmps113
  go_wp2_with (with_reducible show wpList _ _ _ (Oper.mk _ (Op.box _ _) _ _ _ _ :: _) _ _; refine wpList_box_bk rfl _ _ rfl _ rfl ?_)
  intro bx w1 hk hbl hg hs
  clear hg hs
  have HK1 := Lib.hid (bk_eqT (cs' := m.cl.toArray) hk rfl)
  have HB1 := Lib.hid hbl
  clear hk hbl
  go_wp2_with (with_reducible show wpList _ _ _ (Oper.mk _ (Op.alloc _) _ _ _ _ :: _) _ _; refine wpList_alloc_i rfl 185 rfl (.agg (key2 (0, 0)).toArray) zero_k ?_)
  intro r w2 h2 hl2 hg2 hs2
  have H2 := Lib.hid (show Bk w2 r (key2 (0, 0)).toArray 185 from h2)
  have HK2 := Lib.hid (HK1.out.below hl2 HK1.out.lt)
  have HB2 := Lib.hid (HB1.out.trans (hl2.mono HB1.out.size))
  have HG2 := Lib.hid (show w.heap.size ≤ r from Nat.le_trans HB1.out.size hg2)
  clear h2 hl2 hg2 hs2
  have c0 : w2.cell? ⟨bx, 0, none⟩ = some (.int .u64 m.height) := HK2.out.cell 0
  go_wp2_with (first
    | ((with_reducible show wpList _ _ _ (Oper.mk _ (Op.build _ _) _ _ _ _ :: _) _ _); go_must (refine wpList_buildv rfl 185 [(0, _)] rfl [_] rfl _ HB.out ?_))
    | (with_reducible show wpList _ _ _ (Oper.mk _ (Op.store 185 _ _) _ _ _ _ :: _) _ _; go_must (refine wpList_store_bk rfl 185 _ _ rfl r rfl (.agg (key2 (pstKey m)).toArray) rfl _ _ H2.out (by rw [agg_sz HS.out]; exact info_k) (by rw [agg_sz HS.out]; exact (key2_sz (0, 0)).symm) HO.out ?_)))
  intro w5 h5 hg5 hs5
  have HB5 := Lib.hid (below_grown2 HB2.out hg5 HG2.out HB2.out.size)
  have H5 := Lib.hid (show Bk w5 r (key2 (pstKey m)).toArray 185 from h5)
  clear h5 hg5 hs5
  go_wp2
  exact bodyPost_cell Tryz.results113 rfl H5.out Tryz.underlying185 rfl info_k HS.out.symm rfl ⟨rfl, HB5.out⟩
set_option maxHeartbeats 400000 in
theorem offKey_any (w : World) (m : Off) : Calls Tryz.prog 115 #[.agg m.cl.toArray] w fun e w' => e = .returned (.agg (key2 (offKey m)).toArray) ∧ Below w.heap.size w w' := by
  have HB := Lib.hid (built_k2 m.height m.addr)
  have HS := Lib.hid (key2_sz (offKey m))
  have HO := Lib.hid (key2_one (offKey m))
  go_enter Tryz.func115, Tryz.ntmps115
  go_wp2_with (with_reducible show wpList _ _ _ (Oper.mk _ (Op.box _ _) _ _ _ _ :: _) _ _; refine wpList_box_bk rfl _ _ rfl _ rfl ?_)
  intro bx w1 hk hbl hg hs
  clear hg hs
  have HK1 := Lib.hid (bk_eqT (cs' := m.cl.toArray) hk rfl)
  have HB1 := Lib.hid hbl
  clear hk hbl
  go_wp2_with (with_reducible show wpList _ _ _ (Oper.mk _ (Op.alloc _) _ _ _ _ :: _) _ _; refine wpList_alloc_i rfl 185 rfl (.agg (key2 (0, 0)).toArray) zero_k ?_)
  intro r w2 h2 hl2 hg2 hs2
  have H2 := Lib.hid (show Bk w2 r (key2 (0, 0)).toArray 185 from h2)
  have HK2 := Lib.hid (HK1.out.below hl2 HK1.out.lt)
  have HB2 := Lib.hid (HB1.out.trans (hl2.mono HB1.out.size))
  have HG2 := Lib.hid (show w.heap.size ≤ r from Nat.le_trans HB1.out.size hg2)
  clear h2 hl2 hg2 hs2
  have c0 : w2.cell? ⟨bx, 0, none⟩ = some (.int .u64 m.height) := HK2.out.cell 0
  have c1 : w2.cell? ⟨bx, 1, none⟩ = some (.int .u64 m.addr) := HK2.out.cell 1
  go_wp2_with (first
    | ((with_reducible show wpList _ _ _ (Oper.mk _ (Op.build _ _) _ _ _ _ :: _) _ _); go_must (refine wpList_buildv rfl 185 [(0, _), (1, _)] rfl [_, _] rfl _ HB.out ?_))
    | (with_reducible show wpList _ _ _ (Oper.mk _ (Op.store 185 _ _) _ _ _ _ :: _) _ _; go_must (refine wpList_store_bk rfl 185 _ _ rfl r rfl (.agg (key2 (offKey m)).toArray) rfl _ _ H2.out (by rw [agg_sz HS.out]; exact info_k) (by rw [agg_sz HS.out]; exact (key2_sz (0, 0)).symm) HO.out ?_)))
  intro w5 h5 hg5 hs5
  have HB5 := Lib.hid (below_grown2 HB2.out hg5 HG2.out HB2.out.size)
  have H5 := Lib.hid (show Bk w5 r (key2 (offKey m)).toArray 185 from h5)
  clear h5 hg5 hs5
  go_wp2
  exact bodyPost_cell Tryz.results115 rfl H5.out Tryz.underlying185 rfl info_k HS.out.symm rfl ⟨rfl, HB5.out⟩
set_option maxHeartbeats 400000 in
theorem accKey_any (w : World) (m : Acc) : Calls Tryz.prog 117 #[.agg m.cl.toArray] w fun e w' => e = .returned (.agg (key2 (accKey m)).toArray) ∧ Below w.heap.size w w' := by
  have HB := Lib.hid (built_k1 m.addr)
  have HS := Lib.hid (key2_sz (accKey m))
  have HO := Lib.hid (key2_one (accKey m))
  go_enter Tryz.func117, Tryz.ntmps117
  go_wp2_with (with_reducible show wpList _ _ _ (Oper.mk _ (Op.box _ _) _ _ _ _ :: _) _ _; refine wpList_box_bk rfl _ _ rfl _ rfl ?_)
  intro bx w1 hk hbl hg hs
  clear hg hs
  have HK1 := Lib.hid (bk_eqT (cs' := m.cl.toArray) hk rfl)
  have HB1 := Lib.hid hbl
  clear hk hbl
  go_wp2_with (with_reducible show wpList _ _ _ (Oper.mk _ (Op.alloc _) _ _ _ _ :: _) _ _; refine wpList_alloc_i rfl 185 rfl (.agg (key2 (0, 0)).toArray) zero_k ?_)
  intro r w2 h2 hl2 hg2 hs2
  have H2 := Lib.hid (show Bk w2 r (key2 (0, 0)).toArray 185 from h2)
  have HK2 := Lib.hid (HK1.out.below hl2 HK1.out.lt)
  have HB2 := Lib.hid (HB1.out.trans (hl2.mono HB1.out.size))
  have HG2 := Lib.hid (show w.heap.size ≤ r from Nat.le_trans HB1.out.size hg2)
  clear h2 hl2 hg2 hs2
  have c0 : w2.cell? ⟨bx, 0, none⟩ = some (.int .u64 m.addr) := HK2.out.cell 0
  go_wp2_with (first
    | ((with_reducible show wpList _ _ _ (Oper.mk _ (Op.build _ _) _ _ _ _ :: _) _ _); go_must (refine wpList_buildv rfl 185 [(0, _)] rfl [_] rfl _ HB.out ?_))
    | (with_reducible show wpList _ _ _ (Oper.mk _ (Op.store 185 _ _) _ _ _ _ :: _) _ _; go_must (refine wpList_store_bk rfl 185 _ _ rfl r rfl (.agg (key2 (accKey m)).toArray) rfl _ _ H2.out (by rw [agg_sz HS.out]; exact info_k) (by rw [agg_sz HS.out]; exact (key2_sz (0, 0)).symm) HO.out ?_)))
  intro w5 h5 hg5 hs5
  have HB5 := Lib.hid (below_grown2 HB2.out hg5 HG2.out HB2.out.size)
  have H5 := Lib.hid (show Bk w5 r (key2 (accKey m)).toArray 185 from h5)
  clear h5 hg5 hs5
  go_wp2
  exact bodyPost_cell Tryz.results117 rfl H5.out Tryz.underlying185 rfl info_k HS.out.symm rfl ⟨rfl, HB5.out⟩
set_option maxHeartbeats 400000 in
theorem rlsKey_any (w : World) (m : Rls) : Calls Tryz.prog 119 #[.agg m.cl.toArray] w fun e w' => e = .returned (.agg (key2 (rlsKey m)).toArray) ∧ Below w.heap.size w w' := by
  have HB := Lib.hid (built_k2 m.height m.addr)
  have HS := Lib.hid (key2_sz (rlsKey m))
  have HO := Lib.hid (key2_one (rlsKey m))
  go_enter Tryz.func119, Tryz.ntmps119
  go_wp2_with (with_reducible show wpList _ _ _ (Oper.mk _ (Op.box _ _) _ _ _ _ :: _) _ _; refine wpList_box_bk rfl _ _ rfl _ rfl ?_)
  intro bx w1 hk hbl hg hs
  clear hg hs
  have HK1 := Lib.hid (bk_eqT (cs' := m.cl.toArray) hk rfl)
  have HB1 := Lib.hid hbl
  clear hk hbl
  go_wp2_with (with_reducible show wpList _ _ _ (Oper.mk _ (Op.alloc _) _ _ _ _ :: _) _ _; refine wpList_alloc_i rfl 185 rfl (.agg (key2 (0, 0)).toArray) zero_k ?_)
  intro r w2 h2 hl2 hg2 hs2
  have H2 := Lib.hid (show Bk w2 r (key2 (0, 0)).toArray 185 from h2)
  have HK2 := Lib.hid (HK1.out.below hl2 HK1.out.lt)
  have HB2 := Lib.hid (HB1.out.trans (hl2.mono HB1.out.size))
  have HG2 := Lib.hid (show w.heap.size ≤ r from Nat.le_trans HB1.out.size hg2)
  clear h2 hl2 hg2 hs2
  have c0 : w2.cell? ⟨bx, 0, none⟩ = some (.int .u64 m.height) := HK2.out.cell 0
  have c1 : w2.cell? ⟨bx, 1, none⟩ = some (.int .u64 m.addr) := HK2.out.cell 1
  go_wp2_with (first
    | ((with_reducible show wpList _ _ _ (Oper.mk _ (Op.build _ _) _ _ _ _ :: _) _ _); go_must (refine wpList_buildv rfl 185 [(0, _), (1, _)] rfl [_, _] rfl _ HB.out ?_))
    | (with_reducible show wpList _ _ _ (Oper.mk _ (Op.store 185 _ _) _ _ _ _ :: _) _ _; go_must (refine wpList_store_bk rfl 185 _ _ rfl r rfl (.agg (key2 (rlsKey m)).toArray) rfl _ _ H2.out (by rw [agg_sz HS.out]; exact info_k) (by rw [agg_sz HS.out]; exact (key2_sz (0, 0)).symm) HO.out ?_)))
  intro w5 h5 hg5 hs5
  have HB5 := Lib.hid (below_grown2 HB2.out hg5 HG2.out HB2.out.size)
  have H5 := Lib.hid (show Bk w5 r (key2 (rlsKey m)).toArray 185 from h5)
  clear h5 hg5 hs5
  go_wp2
  exact bodyPost_cell Tryz.results119 rfl H5.out Tryz.underlying185 rfl info_k HS.out.symm rfl ⟨rfl, HB5.out⟩
end Go.Proofs.YtlhnhjglcbggmaaGreatRR

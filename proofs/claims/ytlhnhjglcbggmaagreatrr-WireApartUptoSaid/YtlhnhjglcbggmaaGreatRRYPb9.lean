/-
  The parts that a kind uses: the lists that msgUses and inputUses hand out. Conditions: none.
-/
import Derived.Test.YtlhnhjglcbggmaaGreatRRYPb8
namespace Go.Proofs.YtlhnhjglcbggmaaGreatRR
set_option linter.unusedSimpArgs false
set_option linter.unusedVariables false
open Go.RowKit
set_option maxRecDepth 100000

section
variable {P : Program}
theorem run_litn {t e : TypeId} {sz : Nat} {z : Value} {css : List (List Value)} {xs : Array (Nat × Value)} (hxs : xs.toList = partsAt 0 css) (ht : P.underlying t = some (.slice e)) (hi : (P.info? e).map (·.size) = some sz) (hz : (P.info? e).bind (·.zero) = some z) (hsz : 0 < sz) (h24 : css.length * sz ≤ 16777216) (hne : 0 < css.length) (hcs : ∀ p ∈ css, p.length = sz) (w : World) :
  (Instr.buildSlice t css.length xs).run P w = .ok (.slice (some ⟨w.heap.size, 0, none⟩) css.length css.length) (w.alloc (.cells css.flatten.toArray e)) := by
 obtain ⟨M, hM, hMs⟩ : ∃ M : Array Value, (Array.range (css.length * sz)).map (z.cells[· % z.cells.size]!) = M ∧ M.size = css.length * sz := ⟨_, rfl, by simp⟩
 have hf : Instr.fill (fun i => some (i * sz, sz)) M xs.toList = some css.flatten.toArray := by
  rw [hxs]
  have h := fill_cat sz css 0 [] M.toList hcs (by simp) (by simp [hMs])
  simpa using h
 have h1 : ¬ (css.length * sz > 2 ^ 24) := by omega
 have h2 : ¬ (css.length * sz = 0) := by
  intro h
  rcases Nat.mul_eq_zero.1 h with h | h <;> omega
 unfold Instr.buildSlice
 simp only [Sem.run_bind, run_underlying ht, Result.andThen_ok, run_sizeOf' hi, if_neg h1, if_neg h2, Sem.run_pure, run_zero hz, hM, hf]
 simp [newRow, go_sem]
theorem wpList_litn {ops : Array Oper} {rest : List Oper} {o : Oper} {a : Act} {w : World} {Q : Exit → Act → World → Prop} (hw : Region.wanted o (yielded ops a.tmps) = true) (t : TypeId) (n : Nat) (ps : Array (Nat × Operand)) (ho : o.op = .buildSlice t n ps) (css : List (List Value)) (hn : css.length = n) (hx : (ps.map fun (i, x) => (i, a.eval x)).toList = partsAt 0 css)
  (e : TypeId) (sz : Nat) (z : Value) (ht : P.underlying t = some (.slice e)) (hi : (P.info? e).map (·.size) = some sz) (hz : (P.info? e).bind (·.zero) = some z) (hsz : 0 < sz) (h24 : css.length * sz ≤ 16777216) (hne : 0 < css.length) (hcs : ∀ p ∈ css, p.length = sz)
  (h : wpList P ops Q rest (a.put o.dst (.slice (some ⟨w.heap.size, 0, none⟩) n n)) (w.alloc (.cells css.flatten.toArray e))) : wpList P ops Q (o :: rest) a w := by
 subst hn
 refine wpList_want hw fun K hK => ?_
 unfold Oper.wp execOp
 simp only [ho, Sem.run_bind, Sem.run_pure, Result.andThen_ok, run_litn hx ht hi hz hsz h24 hne hcs w]
 exact hK _ _ h
end
def PK.cl (k : PK) : List Value := [.int .i64 (k.member : Int), .func (.func k.f1) #[] #[], .func (.func k.f2) #[] #[], .func (.func k.f3) #[] #[]]
theorem PK.cl_len (k : PK) : k.cl.length = 4 := rfl
theorem pk_one (k : PK) : ∀ u ∈ (Value.agg k.cl.toArray).cells.toList, u.oneCell' = true := by
 intro u hu
 simp only [Value.cells, PK.cl, List.mem_cons, List.not_mem_nil, or_false] at hu
 rcases hu with rfl | rfl | rfl | rfl <;> rfl
def zeroPart : List Value := [.int .i64 0, .nilFunc, .nilFunc, .nilFunc]
theorem zero_Part : (Tryz.prog.info? 128).bind (·.zero) = some (.agg zeroPart.toArray) := by kernel_rfl
theorem info_Part : (Tryz.prog.info? 128).map (·.size) = some 4 := by kernel_rfl
theorem zeroPart_sz : zeroPart.toArray.size = 4 := rfl
theorem pks_len (us : List PK) : ∀ k ∈ us, k.cl.length = 4 := fun k _ => k.cl_len
theorem built_proposal : Tryz.prog.built 128 [(0, .int .i64 0), (1, .func (.func 144) #[] #[]), (2, .func (.func 145) #[] #[]), (3, .func (.func 146) #[] #[])] = some (PK.cl .proposal).toArray := by kernel_rfl
set_option maxHeartbeats 400000 in
theorem part_proposal (w : World) : Calls Tryz.prog 98 #[] w fun e w' => e = .returned (.agg (PK.cl .proposal).toArray) ∧ Below w.heap.size w w' := by
 have HO := Lib.hid (pk_one .proposal)
 have HZ := Lib.hid (show (PK.cl .proposal).toArray.size = 4 from rfl)
 have HB := Lib.hid built_proposal
 obtain ⟨C, hC⟩ : ∃ C, PK.cl .proposal = C := ⟨_, rfl⟩
 rw [hC] at HO HZ HB ⊢
 clear hC
 go_enter Tryz.func98, Tryz.ntmps98
 go_wp2_with (with_reducible show wpList _ _ _ (Oper.mk _ (Op.alloc _) _ _ _ _ :: _) _ _; refine wpList_alloc_i rfl 128 rfl (.agg zeroPart.toArray) zero_Part ?_)
 intro r w1 h1 hl1 hg1 hs1
 have H1 := Lib.hid (show Bk w1 r zeroPart.toArray 128 from h1)
 have HL1 := Lib.hid hl1
 have HGR := Lib.hid hg1
 clear h1 hl1 hg1 hs1
 go_wp2_with (first
  | (with_reducible show wpList _ _ _ (Oper.mk _ (Op.build _ _) _ _ _ _ :: _) _ _; go_must (refine wpList_buildv rfl 128 [(0, _), (1, _), (2, _), (3, _)] rfl [_, _, _, _] rfl _ HB.out ?_))
  | (with_reducible show wpList _ _ _ (Oper.mk _ (Op.store 128 _ _) _ _ _ _ :: _) _ _; go_must (refine wpList_store_bk rfl 128 _ _ rfl r rfl (.agg C.toArray) rfl _ _ H1.out (by rw [agg_sz HZ.out]; exact info_Part) (by rw [agg_sz HZ.out]; exact zeroPart_sz.symm) HO.out ?_)))
 intro w5 h5 hg5 hs5
 have HB5 := Lib.hid (below_grown2 HL1.out hg5 HGR.out HL1.out.size)
 have H5 := Lib.hid (show Bk w5 r C.toArray 128 from h5)
 clear h5 hg5 hs5
 go_wp2
 exact bodyPost_cell Tryz.results98 rfl H5.out Tryz.underlying128 rfl info_Part HZ.out.symm rfl ⟨rfl, HB5.out⟩
theorem built_block : Tryz.prog.built 128 [(0, .int .i64 1), (1, .func (.func 148) #[] #[]), (2, .func (.func 149) #[] #[]), (3, .func (.func 150) #[] #[])] = some (PK.cl .block).toArray := by kernel_rfl
set_option maxHeartbeats 400000 in
theorem part_block (w : World) : Calls Tryz.prog 99 #[] w fun e w' => e = .returned (.agg (PK.cl .block).toArray) ∧ Below w.heap.size w w' := by
 have HO := Lib.hid (pk_one .block)
 have HZ := Lib.hid (show (PK.cl .block).toArray.size = 4 from rfl)
 have HB := Lib.hid built_block
 obtain ⟨C, hC⟩ : ∃ C, PK.cl .block = C := ⟨_, rfl⟩
 rw [hC] at HO HZ HB ⊢
 clear hC
 go_enter Tryz.func99, Tryz.ntmps99
 go_wp2_with (with_reducible show wpList _ _ _ (Oper.mk _ (Op.alloc _) _ _ _ _ :: _) _ _; refine wpList_alloc_i rfl 128 rfl (.agg zeroPart.toArray) zero_Part ?_)
 intro r w1 h1 hl1 hg1 hs1
 have H1 := Lib.hid (show Bk w1 r zeroPart.toArray 128 from h1)
 have HL1 := Lib.hid hl1
 have HGR := Lib.hid hg1
 clear h1 hl1 hg1 hs1
 go_wp2_with (first
  | (with_reducible show wpList _ _ _ (Oper.mk _ (Op.build _ _) _ _ _ _ :: _) _ _; go_must (refine wpList_buildv rfl 128 [(0, _), (1, _), (2, _), (3, _)] rfl [_, _, _, _] rfl _ HB.out ?_))
  | (with_reducible show wpList _ _ _ (Oper.mk _ (Op.store 128 _ _) _ _ _ _ :: _) _ _; go_must (refine wpList_store_bk rfl 128 _ _ rfl r rfl (.agg C.toArray) rfl _ _ H1.out (by rw [agg_sz HZ.out]; exact info_Part) (by rw [agg_sz HZ.out]; exact zeroPart_sz.symm) HO.out ?_)))
 intro w5 h5 hg5 hs5
 have HB5 := Lib.hid (below_grown2 HL1.out hg5 HGR.out HL1.out.size)
 have H5 := Lib.hid (show Bk w5 r C.toArray 128 from h5)
 clear h5 hg5 hs5
 go_wp2
 exact bodyPost_cell Tryz.results99 rfl H5.out Tryz.underlying128 rfl info_Part HZ.out.symm rfl ⟨rfl, HB5.out⟩
theorem built_polka : Tryz.prog.built 128 [(0, .int .i64 2), (1, .func (.func 152) #[] #[]), (2, .func (.func 154) #[] #[]), (3, .func (.func 155) #[] #[])] = some (PK.cl .polka).toArray := by kernel_rfl
set_option maxHeartbeats 400000 in
theorem part_polka (w : World) : Calls Tryz.prog 100 #[] w fun e w' => e = .returned (.agg (PK.cl .polka).toArray) ∧ Below w.heap.size w w' := by
 have HO := Lib.hid (pk_one .polka)
 have HZ := Lib.hid (show (PK.cl .polka).toArray.size = 4 from rfl)
 have HB := Lib.hid built_polka
 obtain ⟨C, hC⟩ : ∃ C, PK.cl .polka = C := ⟨_, rfl⟩
 rw [hC] at HO HZ HB ⊢
 clear hC
 go_enter Tryz.func100, Tryz.ntmps100
 go_wp2_with (with_reducible show wpList _ _ _ (Oper.mk _ (Op.alloc _) _ _ _ _ :: _) _ _; refine wpList_alloc_i rfl 128 rfl (.agg zeroPart.toArray) zero_Part ?_)
 intro r w1 h1 hl1 hg1 hs1
 have H1 := Lib.hid (show Bk w1 r zeroPart.toArray 128 from h1)
 have HL1 := Lib.hid hl1
 have HGR := Lib.hid hg1
 clear h1 hl1 hg1 hs1
 go_wp2_with (first
  | (with_reducible show wpList _ _ _ (Oper.mk _ (Op.build _ _) _ _ _ _ :: _) _ _; go_must (refine wpList_buildv rfl 128 [(0, _), (1, _), (2, _), (3, _)] rfl [_, _, _, _] rfl _ HB.out ?_))
  | (with_reducible show wpList _ _ _ (Oper.mk _ (Op.store 128 _ _) _ _ _ _ :: _) _ _; go_must (refine wpList_store_bk rfl 128 _ _ rfl r rfl (.agg C.toArray) rfl _ _ H1.out (by rw [agg_sz HZ.out]; exact info_Part) (by rw [agg_sz HZ.out]; exact zeroPart_sz.symm) HO.out ?_)))
 intro w5 h5 hg5 hs5
 have HB5 := Lib.hid (below_grown2 HL1.out hg5 HGR.out HL1.out.size)
 have H5 := Lib.hid (show Bk w5 r C.toArray 128 from h5)
 clear h5 hg5 hs5
 go_wp2
 exact bodyPost_cell Tryz.results100 rfl H5.out Tryz.underlying128 rfl info_Part HZ.out.symm rfl ⟨rfl, HB5.out⟩
theorem built_some : Tryz.prog.built 128 [(0, .int .i64 2), (1, .func (.func 159) #[] #[]), (2, .func (.func 154) #[] #[]), (3, .func (.func 155) #[] #[])] = some (PK.cl .some).toArray := by kernel_rfl
set_option maxHeartbeats 400000 in
theorem part_some (w : World) : Calls Tryz.prog 102 #[] w fun e w' => e = .returned (.agg (PK.cl .some).toArray) ∧ Below w.heap.size w w' := by
 have HO := Lib.hid (pk_one .some)
 have HZ := Lib.hid (show (PK.cl .some).toArray.size = 4 from rfl)
 have HB := Lib.hid built_some
 obtain ⟨C, hC⟩ : ∃ C, PK.cl .some = C := ⟨_, rfl⟩
 rw [hC] at HO HZ HB ⊢
 clear hC
 go_enter Tryz.func102, Tryz.ntmps102
 go_wp2_with (with_reducible show wpList _ _ _ (Oper.mk _ (Op.alloc _) _ _ _ _ :: _) _ _; refine wpList_alloc_i rfl 128 rfl (.agg zeroPart.toArray) zero_Part ?_)
 intro r w1 h1 hl1 hg1 hs1
 have H1 := Lib.hid (show Bk w1 r zeroPart.toArray 128 from h1)
 have HL1 := Lib.hid hl1
 have HGR := Lib.hid hg1
 clear h1 hl1 hg1 hs1
 go_wp2_with (first
  | (with_reducible show wpList _ _ _ (Oper.mk _ (Op.build _ _) _ _ _ _ :: _) _ _; go_must (refine wpList_buildv rfl 128 [(0, _), (1, _), (2, _), (3, _)] rfl [_, _, _, _] rfl _ HB.out ?_))
  | (with_reducible show wpList _ _ _ (Oper.mk _ (Op.store 128 _ _) _ _ _ _ :: _) _ _; go_must (refine wpList_store_bk rfl 128 _ _ rfl r rfl (.agg C.toArray) rfl _ _ H1.out (by rw [agg_sz HZ.out]; exact info_Part) (by rw [agg_sz HZ.out]; exact zeroPart_sz.symm) HO.out ?_)))
 intro w5 h5 hg5 hs5
 have HB5 := Lib.hid (below_grown2 HL1.out hg5 HGR.out HL1.out.size)
 have H5 := Lib.hid (show Bk w5 r C.toArray 128 from h5)
 clear h5 hg5 hs5
 go_wp2
 exact bodyPost_cell Tryz.results102 rfl H5.out Tryz.underlying128 rfl info_Part HZ.out.symm rfl ⟨rfl, HB5.out⟩
theorem built_one : Tryz.prog.built 128 [(0, .int .i64 2), (1, .func (.func 156) #[] #[]), (2, .func (.func 157) #[] #[]), (3, .func (.func 158) #[] #[])] = some (PK.cl .one).toArray := by kernel_rfl
set_option maxHeartbeats 400000 in
theorem part_one (w : World) : Calls Tryz.prog 101 #[] w fun e w' => e = .returned (.agg (PK.cl .one).toArray) ∧ Below w.heap.size w w' := by
 have HO := Lib.hid (pk_one .one)
 have HZ := Lib.hid (show (PK.cl .one).toArray.size = 4 from rfl)
 have HB := Lib.hid built_one
 obtain ⟨C, hC⟩ : ∃ C, PK.cl .one = C := ⟨_, rfl⟩
 rw [hC] at HO HZ HB ⊢
 clear hC
 go_enter Tryz.func101, Tryz.ntmps101
 go_wp2_with (with_reducible show wpList _ _ _ (Oper.mk _ (Op.alloc _) _ _ _ _ :: _) _ _; refine wpList_alloc_i rfl 128 rfl (.agg zeroPart.toArray) zero_Part ?_)
 intro r w1 h1 hl1 hg1 hs1
 have H1 := Lib.hid (show Bk w1 r zeroPart.toArray 128 from h1)
 have HL1 := Lib.hid hl1
 have HGR := Lib.hid hg1
 clear h1 hl1 hg1 hs1
 go_wp2_with (first
  | (with_reducible show wpList _ _ _ (Oper.mk _ (Op.build _ _) _ _ _ _ :: _) _ _; go_must (refine wpList_buildv rfl 128 [(0, _), (1, _), (2, _), (3, _)] rfl [_, _, _, _] rfl _ HB.out ?_))
  | (with_reducible show wpList _ _ _ (Oper.mk _ (Op.store 128 _ _) _ _ _ _ :: _) _ _; go_must (refine wpList_store_bk rfl 128 _ _ rfl r rfl (.agg C.toArray) rfl _ _ H1.out (by rw [agg_sz HZ.out]; exact info_Part) (by rw [agg_sz HZ.out]; exact zeroPart_sz.symm) HO.out ?_)))
 intro w5 h5 hg5 hs5
 have HB5 := Lib.hid (below_grown2 HL1.out hg5 HGR.out HL1.out.size)
 have H5 := Lib.hid (show Bk w5 r C.toArray 128 from h5)
 clear h5 hg5 hs5
 go_wp2
 exact bodyPost_cell Tryz.results101 rfl H5.out Tryz.underlying128 rfl info_Part HZ.out.symm rfl ⟨rfl, HB5.out⟩
theorem built_cert : Tryz.prog.built 128 [(0, .int .i64 3), (1, .func (.func 166) #[] #[]), (2, .func (.func 167) #[] #[]), (3, .func (.func 168) #[] #[])] = some (PK.cl .cert).toArray := by kernel_rfl
set_option maxHeartbeats 400000 in
theorem part_cert (w : World) : Calls Tryz.prog 105 #[] w fun e w' => e = .returned (.agg (PK.cl .cert).toArray) ∧ Below w.heap.size w w' := by
 have HO := Lib.hid (pk_one .cert)
 have HZ := Lib.hid (show (PK.cl .cert).toArray.size = 4 from rfl)
 have HB := Lib.hid built_cert
 obtain ⟨C, hC⟩ : ∃ C, PK.cl .cert = C := ⟨_, rfl⟩
 rw [hC] at HO HZ HB ⊢
 clear hC
 go_enter Tryz.func105, Tryz.ntmps105
 go_wp2_with (with_reducible show wpList _ _ _ (Oper.mk _ (Op.alloc _) _ _ _ _ :: _) _ _; refine wpList_alloc_i rfl 128 rfl (.agg zeroPart.toArray) zero_Part ?_)
 intro r w1 h1 hl1 hg1 hs1
 have H1 := Lib.hid (show Bk w1 r zeroPart.toArray 128 from h1)
 have HL1 := Lib.hid hl1
 have HGR := Lib.hid hg1
 clear h1 hl1 hg1 hs1
 go_wp2_with (first
  | (with_reducible show wpList _ _ _ (Oper.mk _ (Op.build _ _) _ _ _ _ :: _) _ _; go_must (refine wpList_buildv rfl 128 [(0, _), (1, _), (2, _), (3, _)] rfl [_, _, _, _] rfl _ HB.out ?_))
  | (with_reducible show wpList _ _ _ (Oper.mk _ (Op.store 128 _ _) _ _ _ _ :: _) _ _; go_must (refine wpList_store_bk rfl 128 _ _ rfl r rfl (.agg C.toArray) rfl _ _ H1.out (by rw [agg_sz HZ.out]; exact info_Part) (by rw [agg_sz HZ.out]; exact zeroPart_sz.symm) HO.out ?_)))
 intro w5 h5 hg5 hs5
 have HB5 := Lib.hid (below_grown2 HL1.out hg5 HGR.out HL1.out.size)
 have H5 := Lib.hid (show Bk w5 r C.toArray 128 from h5)
 clear h5 hg5 hs5
 go_wp2
 exact bodyPost_cell Tryz.results105 rfl H5.out Tryz.underlying128 rfl info_Part HZ.out.symm rfl ⟨rfl, HB5.out⟩
theorem built_tx : Tryz.prog.built 128 [(0, .int .i64 4), (1, .func (.func 170) #[] #[]), (2, .func (.func 171) #[] #[]), (3, .func (.func 172) #[] #[])] = some (PK.cl .tx).toArray := by kernel_rfl
set_option maxHeartbeats 400000 in
theorem part_tx (w : World) : Calls Tryz.prog 106 #[] w fun e w' => e = .returned (.agg (PK.cl .tx).toArray) ∧ Below w.heap.size w w' := by
 have HO := Lib.hid (pk_one .tx)
 have HZ := Lib.hid (show (PK.cl .tx).toArray.size = 4 from rfl)
 have HB := Lib.hid built_tx
 obtain ⟨C, hC⟩ : ∃ C, PK.cl .tx = C := ⟨_, rfl⟩
 rw [hC] at HO HZ HB ⊢
 clear hC
 go_enter Tryz.func106, Tryz.ntmps106
 go_wp2_with (with_reducible show wpList _ _ _ (Oper.mk _ (Op.alloc _) _ _ _ _ :: _) _ _; refine wpList_alloc_i rfl 128 rfl (.agg zeroPart.toArray) zero_Part ?_)
 intro r w1 h1 hl1 hg1 hs1
 have H1 := Lib.hid (show Bk w1 r zeroPart.toArray 128 from h1)
 have HL1 := Lib.hid hl1
 have HGR := Lib.hid hg1
 clear h1 hl1 hg1 hs1
 go_wp2_with (first
  | (with_reducible show wpList _ _ _ (Oper.mk _ (Op.build _ _) _ _ _ _ :: _) _ _; go_must (refine wpList_buildv rfl 128 [(0, _), (1, _), (2, _), (3, _)] rfl [_, _, _, _] rfl _ HB.out ?_))
  | (with_reducible show wpList _ _ _ (Oper.mk _ (Op.store 128 _ _) _ _ _ _ :: _) _ _; go_must (refine wpList_store_bk rfl 128 _ _ rfl r rfl (.agg C.toArray) rfl _ _ H1.out (by rw [agg_sz HZ.out]; exact info_Part) (by rw [agg_sz HZ.out]; exact zeroPart_sz.symm) HO.out ?_)))
 intro w5 h5 hg5 hs5
 have HB5 := Lib.hid (below_grown2 HL1.out hg5 HGR.out HL1.out.size)
 have H5 := Lib.hid (show Bk w5 r C.toArray 128 from h5)
 clear h5 hg5 hs5
 go_wp2
 exact bodyPost_cell Tryz.results106 rfl H5.out Tryz.underlying128 rfl info_Part HZ.out.symm rfl ⟨rfl, HB5.out⟩
theorem built_evidence : Tryz.prog.built 128 [(0, .int .i64 5), (1, .func (.func 174) #[] #[]), (2, .func (.func 175) #[] #[]), (3, .func (.func 176) #[] #[])] = some (PK.cl .evidence).toArray := by kernel_rfl
set_option maxHeartbeats 400000 in
theorem part_evidence (w : World) : Calls Tryz.prog 107 #[] w fun e w' => e = .returned (.agg (PK.cl .evidence).toArray) ∧ Below w.heap.size w w' := by
 have HO := Lib.hid (pk_one .evidence)
 have HZ := Lib.hid (show (PK.cl .evidence).toArray.size = 4 from rfl)
 have HB := Lib.hid built_evidence
 obtain ⟨C, hC⟩ : ∃ C, PK.cl .evidence = C := ⟨_, rfl⟩
 rw [hC] at HO HZ HB ⊢
 clear hC
 go_enter Tryz.func107, Tryz.ntmps107
 go_wp2_with (with_reducible show wpList _ _ _ (Oper.mk _ (Op.alloc _) _ _ _ _ :: _) _ _; refine wpList_alloc_i rfl 128 rfl (.agg zeroPart.toArray) zero_Part ?_)
 intro r w1 h1 hl1 hg1 hs1
 have H1 := Lib.hid (show Bk w1 r zeroPart.toArray 128 from h1)
 have HL1 := Lib.hid hl1
 have HGR := Lib.hid hg1
 clear h1 hl1 hg1 hs1
 go_wp2_with (first
  | (with_reducible show wpList _ _ _ (Oper.mk _ (Op.build _ _) _ _ _ _ :: _) _ _; go_must (refine wpList_buildv rfl 128 [(0, _), (1, _), (2, _), (3, _)] rfl [_, _, _, _] rfl _ HB.out ?_))
  | (with_reducible show wpList _ _ _ (Oper.mk _ (Op.store 128 _ _) _ _ _ _ :: _) _ _; go_must (refine wpList_store_bk rfl 128 _ _ rfl r rfl (.agg C.toArray) rfl _ _ H1.out (by rw [agg_sz HZ.out]; exact info_Part) (by rw [agg_sz HZ.out]; exact zeroPart_sz.symm) HO.out ?_)))
 intro w5 h5 hg5 hs5
 have HB5 := Lib.hid (below_grown2 HL1.out hg5 HGR.out HL1.out.size)
 have H5 := Lib.hid (show Bk w5 r C.toArray 128 from h5)
 clear h5 hg5 hs5
 go_wp2
 exact bodyPost_cell Tryz.results107 rfl H5.out Tryz.underlying128 rfl info_Part HZ.out.symm rfl ⟨rfl, HB5.out⟩
theorem built_height : Tryz.prog.built 128 [(0, .int .i64 6), (1, .func (.func 160) #[] #[]), (2, .func (.func 161) #[] #[]), (3, .func (.func 162) #[] #[])] = some (PK.cl .height).toArray := by kernel_rfl
set_option maxHeartbeats 400000 in
theorem part_height (w : World) : Calls Tryz.prog 103 #[] w fun e w' => e = .returned (.agg (PK.cl .height).toArray) ∧ Below w.heap.size w w' := by
 have HO := Lib.hid (pk_one .height)
 have HZ := Lib.hid (show (PK.cl .height).toArray.size = 4 from rfl)
 have HB := Lib.hid built_height
 obtain ⟨C, hC⟩ : ∃ C, PK.cl .height = C := ⟨_, rfl⟩
 rw [hC] at HO HZ HB ⊢
 clear hC
 go_enter Tryz.func103, Tryz.ntmps103
 go_wp2_with (with_reducible show wpList _ _ _ (Oper.mk _ (Op.alloc _) _ _ _ _ :: _) _ _; refine wpList_alloc_i rfl 128 rfl (.agg zeroPart.toArray) zero_Part ?_)
 intro r w1 h1 hl1 hg1 hs1
 have H1 := Lib.hid (show Bk w1 r zeroPart.toArray 128 from h1)
 have HL1 := Lib.hid hl1
 have HGR := Lib.hid hg1
 clear h1 hl1 hg1 hs1
 go_wp2_with (first
  | (with_reducible show wpList _ _ _ (Oper.mk _ (Op.build _ _) _ _ _ _ :: _) _ _; go_must (refine wpList_buildv rfl 128 [(0, _), (1, _), (2, _), (3, _)] rfl [_, _, _, _] rfl _ HB.out ?_))
  | (with_reducible show wpList _ _ _ (Oper.mk _ (Op.store 128 _ _) _ _ _ _ :: _) _ _; go_must (refine wpList_store_bk rfl 128 _ _ rfl r rfl (.agg C.toArray) rfl _ _ H1.out (by rw [agg_sz HZ.out]; exact info_Part) (by rw [agg_sz HZ.out]; exact zeroPart_sz.symm) HO.out ?_)))
 intro w5 h5 hg5 hs5
 have HB5 := Lib.hid (below_grown2 HL1.out hg5 HGR.out HL1.out.size)
 have H5 := Lib.hid (show Bk w5 r C.toArray 128 from h5)
 clear h5 hg5 hs5
 go_wp2
 exact bodyPost_cell Tryz.results103 rfl H5.out Tryz.underlying128 rfl info_Part HZ.out.symm rfl ⟨rfl, HB5.out⟩
theorem built_round : Tryz.prog.built 128 [(0, .int .i64 7), (1, .func (.func 163) #[] #[]), (2, .func (.func 164) #[] #[]), (3, .func (.func 165) #[] #[])] = some (PK.cl .round).toArray := by kernel_rfl
set_option maxHeartbeats 400000 in
theorem part_round (w : World) : Calls Tryz.prog 104 #[] w fun e w' => e = .returned (.agg (PK.cl .round).toArray) ∧ Below w.heap.size w w' := by
 have HO := Lib.hid (pk_one .round)
 have HZ := Lib.hid (show (PK.cl .round).toArray.size = 4 from rfl)
 have HB := Lib.hid built_round
 obtain ⟨C, hC⟩ : ∃ C, PK.cl .round = C := ⟨_, rfl⟩
 rw [hC] at HO HZ HB ⊢
 clear hC
 go_enter Tryz.func104, Tryz.ntmps104
 go_wp2_with (with_reducible show wpList _ _ _ (Oper.mk _ (Op.alloc _) _ _ _ _ :: _) _ _; refine wpList_alloc_i rfl 128 rfl (.agg zeroPart.toArray) zero_Part ?_)
 intro r w1 h1 hl1 hg1 hs1
 have H1 := Lib.hid (show Bk w1 r zeroPart.toArray 128 from h1)
 have HL1 := Lib.hid hl1
 have HGR := Lib.hid hg1
 clear h1 hl1 hg1 hs1
 go_wp2_with (first
  | (with_reducible show wpList _ _ _ (Oper.mk _ (Op.build _ _) _ _ _ _ :: _) _ _; go_must (refine wpList_buildv rfl 128 [(0, _), (1, _), (2, _), (3, _)] rfl [_, _, _, _] rfl _ HB.out ?_))
  | (with_reducible show wpList _ _ _ (Oper.mk _ (Op.store 128 _ _) _ _ _ _ :: _) _ _; go_must (refine wpList_store_bk rfl 128 _ _ rfl r rfl (.agg C.toArray) rfl _ _ H1.out (by rw [agg_sz HZ.out]; exact info_Part) (by rw [agg_sz HZ.out]; exact zeroPart_sz.symm) HO.out ?_)))
 intro w5 h5 hg5 hs5
 have HB5 := Lib.hid (below_grown2 HL1.out hg5 HGR.out HL1.out.size)
 have H5 := Lib.hid (show Bk w5 r C.toArray 128 from h5)
 clear h5 hg5 hs5
 go_wp2
 exact bodyPost_cell Tryz.results104 rfl H5.out Tryz.underlying128 rfl info_Part HZ.out.symm rfl ⟨rfl, HB5.out⟩
theorem built_good : Tryz.prog.built 128 [(0, .int .i64 8), (1, .func (.func 178) #[] #[]), (2, .func (.func 179) #[] #[]), (3, .func (.func 180) #[] #[])] = some (PK.cl .good).toArray := by kernel_rfl
set_option maxHeartbeats 400000 in
theorem part_good (w : World) : Calls Tryz.prog 108 #[] w fun e w' => e = .returned (.agg (PK.cl .good).toArray) ∧ Below w.heap.size w w' := by
 have HO := Lib.hid (pk_one .good)
 have HZ := Lib.hid (show (PK.cl .good).toArray.size = 4 from rfl)
 have HB := Lib.hid built_good
 obtain ⟨C, hC⟩ : ∃ C, PK.cl .good = C := ⟨_, rfl⟩
 rw [hC] at HO HZ HB ⊢
 clear hC
 go_enter Tryz.func108, Tryz.ntmps108
 go_wp2_with (with_reducible show wpList _ _ _ (Oper.mk _ (Op.alloc _) _ _ _ _ :: _) _ _; refine wpList_alloc_i rfl 128 rfl (.agg zeroPart.toArray) zero_Part ?_)
 intro r w1 h1 hl1 hg1 hs1
 have H1 := Lib.hid (show Bk w1 r zeroPart.toArray 128 from h1)
 have HL1 := Lib.hid hl1
 have HGR := Lib.hid hg1
 clear h1 hl1 hg1 hs1
 go_wp2_with (first
  | (with_reducible show wpList _ _ _ (Oper.mk _ (Op.build _ _) _ _ _ _ :: _) _ _; go_must (refine wpList_buildv rfl 128 [(0, _), (1, _), (2, _), (3, _)] rfl [_, _, _, _] rfl _ HB.out ?_))
  | (with_reducible show wpList _ _ _ (Oper.mk _ (Op.store 128 _ _) _ _ _ _ :: _) _ _; go_must (refine wpList_store_bk rfl 128 _ _ rfl r rfl (.agg C.toArray) rfl _ _ H1.out (by rw [agg_sz HZ.out]; exact info_Part) (by rw [agg_sz HZ.out]; exact zeroPart_sz.symm) HO.out ?_)))
 intro w5 h5 hg5 hs5
 have HB5 := Lib.hid (below_grown2 HL1.out hg5 HGR.out HL1.out.size)
 have H5 := Lib.hid (show Bk w5 r C.toArray 128 from h5)
 clear h5 hg5 hs5
 go_wp2
 exact bodyPost_cell Tryz.results108 rfl H5.out Tryz.underlying128 rfl info_Part HZ.out.symm rfl ⟨rfl, HB5.out⟩
theorem built_step : Tryz.prog.built 128 [(0, .int .i64 9), (1, .func (.func 182) #[] #[]), (2, .func (.func 183) #[] #[]), (3, .func (.func 184) #[] #[])] = some (PK.cl .step).toArray := by kernel_rfl
set_option maxHeartbeats 400000 in
theorem part_step (w : World) : Calls Tryz.prog 109 #[] w fun e w' => e = .returned (.agg (PK.cl .step).toArray) ∧ Below w.heap.size w w' := by
 have HO := Lib.hid (pk_one .step)
 have HZ := Lib.hid (show (PK.cl .step).toArray.size = 4 from rfl)
 have HB := Lib.hid built_step
 obtain ⟨C, hC⟩ : ∃ C, PK.cl .step = C := ⟨_, rfl⟩
 rw [hC] at HO HZ HB ⊢
 clear hC
 go_enter Tryz.func109, Tryz.ntmps109
 go_wp2_with (with_reducible show wpList _ _ _ (Oper.mk _ (Op.alloc _) _ _ _ _ :: _) _ _; refine wpList_alloc_i rfl 128 rfl (.agg zeroPart.toArray) zero_Part ?_)
 intro r w1 h1 hl1 hg1 hs1
 have H1 := Lib.hid (show Bk w1 r zeroPart.toArray 128 from h1)
 have HL1 := Lib.hid hl1
 have HGR := Lib.hid hg1
 clear h1 hl1 hg1 hs1
 go_wp2_with (first
  | (with_reducible show wpList _ _ _ (Oper.mk _ (Op.build _ _) _ _ _ _ :: _) _ _; go_must (refine wpList_buildv rfl 128 [(0, _), (1, _), (2, _), (3, _)] rfl [_, _, _, _] rfl _ HB.out ?_))
  | (with_reducible show wpList _ _ _ (Oper.mk _ (Op.store 128 _ _) _ _ _ _ :: _) _ _; go_must (refine wpList_store_bk rfl 128 _ _ rfl r rfl (.agg C.toArray) rfl _ _ H1.out (by rw [agg_sz HZ.out]; exact info_Part) (by rw [agg_sz HZ.out]; exact zeroPart_sz.symm) HO.out ?_)))
 intro w5 h5 hg5 hs5
 have HB5 := Lib.hid (below_grown2 HL1.out hg5 HGR.out HL1.out.size)
 have H5 := Lib.hid (show Bk w5 r C.toArray 128 from h5)
 clear h5 hg5 hs5
 go_wp2
 exact bodyPost_cell Tryz.results109 rfl H5.out Tryz.underlying128 rfl info_Part HZ.out.symm rfl ⟨rfl, HB5.out⟩
theorem pks4 (us : List PK) : ∀ p ∈ us.map PK.cl, p.length = 4 := fun p hp => by
 obtain ⟨k, _, rfl⟩ := List.mem_map.1 hp; rfl
/-- a list of parts in the call's own memory -/
def UsesR (w w' : World) (us : List PK) (v : Value) : Prop := Below w.heap.size w w' ∧ ((us = [] ∧ v = .slice none 0 0) ∨ ∃ g, v = .slice (some ⟨g, 0, none⟩) us.length us.length ∧ w.heap.size ≤ g ∧ Bk w' g (us.flatMap PK.cl).toArray 128)

set_option maxHeartbeats 1000000 in
theorem msgUses_1 (w : World) : Calls Tryz.prog 55 #[.int .i64 1] w fun e w' => ∃ v, e = .returned v ∧ UsesR w w' [.proposal, .block, .polka] v := by
 go_enter Tryz.func55, Tryz.ntmps55
 go_wp2_with (first
  | (go_at_call 98; go_must (refine (part_proposal _).mono ?_); rintro e w1 ⟨rfl, hb1⟩; have HB1 := Lib.hid (hb1); clear hb1)
  | (go_at_call 99; go_must (refine (part_block _).mono ?_); rintro e w2 ⟨rfl, hb2⟩; have HB2 := Lib.hid (HB1.out.trans (hb2.mono HB1.out.size)); clear hb2)
  | (go_at_call 100; go_must (refine (part_polka _).mono ?_); rintro e w3 ⟨rfl, hb3⟩; have HB3 := Lib.hid (HB2.out.trans (hb3.mono HB2.out.size)); clear hb3)
  | ((with_reducible show wpList _ _ _ (Oper.mk _ (Op.buildSlice _ _ _) _ _ _ _ :: _) _ _); go_must (refine wpList_litn rfl 122 3 _ rfl [PK.cl .proposal, PK.cl .block, PK.cl .polka] rfl (by with_unfolding_all rfl) 128 4 (.agg zeroPart.toArray) Tryz.underlying122 info_Part zero_Part (by decide) (by decide) (by decide) (pks4 [.proposal, .block, .polka]) ?_)))
 go_ret
 refine ⟨_, rfl, HB3.out.alloc HB3.out.size _, .inr ⟨_, rfl, HB3.out.size, ?_⟩⟩
 exact Bk.new _ _ _

set_option maxHeartbeats 1000000 in
theorem msgUses_2 (w : World) : Calls Tryz.prog 55 #[.int .i64 2] w fun e w' => ∃ v, e = .returned v ∧ UsesR w w' [.one] v := by
 go_enter Tryz.func55, Tryz.ntmps55
 go_wp2_with (first
  | (go_at_call 101; go_must (refine (part_one _).mono ?_); rintro e w1 ⟨rfl, hb1⟩; have HB1 := Lib.hid (hb1); clear hb1)
  | ((with_reducible show wpList _ _ _ (Oper.mk _ (Op.buildSlice _ _ _) _ _ _ _ :: _) _ _); go_must (refine wpList_litn rfl 122 1 _ rfl [PK.cl .one] rfl (by with_unfolding_all rfl) 128 4 (.agg zeroPart.toArray) Tryz.underlying122 info_Part zero_Part (by decide) (by decide) (by decide) (pks4 [.one]) ?_)))
 go_ret
 refine ⟨_, rfl, HB1.out.alloc HB1.out.size _, .inr ⟨_, rfl, HB1.out.size, ?_⟩⟩
 exact Bk.new _ _ _

set_option maxHeartbeats 1000000 in
theorem msgUses_3 (w : World) : Calls Tryz.prog 55 #[.int .i64 3] w fun e w' => ∃ v, e = .returned v ∧ UsesR w w' [.block, .some] v := by
 go_enter Tryz.func55, Tryz.ntmps55
 go_wp2_with (first
  | (go_at_call 99; go_must (refine (part_block _).mono ?_); rintro e w1 ⟨rfl, hb1⟩; have HB1 := Lib.hid (hb1); clear hb1)
  | (go_at_call 102; go_must (refine (part_some _).mono ?_); rintro e w2 ⟨rfl, hb2⟩; have HB2 := Lib.hid (HB1.out.trans (hb2.mono HB1.out.size)); clear hb2)
  | ((with_reducible show wpList _ _ _ (Oper.mk _ (Op.buildSlice _ _ _) _ _ _ _ :: _) _ _); go_must (refine wpList_litn rfl 122 2 _ rfl [PK.cl .block, PK.cl .some] rfl (by with_unfolding_all rfl) 128 4 (.agg zeroPart.toArray) Tryz.underlying122 info_Part zero_Part (by decide) (by decide) (by decide) (pks4 [.block, .some]) ?_)))
 go_ret
 refine ⟨_, rfl, HB2.out.alloc HB2.out.size _, .inr ⟨_, rfl, HB2.out.size, ?_⟩⟩
 exact Bk.new _ _ _

set_option maxHeartbeats 1000000 in
theorem msgUses_4 (w : World) : Calls Tryz.prog 55 #[.int .i64 4] w fun e w' => ∃ v, e = .returned v ∧ UsesR w w' [.height, .round] v := by
 go_enter Tryz.func55, Tryz.ntmps55
 go_wp2_with (first
  | (go_at_call 103; go_must (refine (part_height _).mono ?_); rintro e w1 ⟨rfl, hb1⟩; have HB1 := Lib.hid (hb1); clear hb1)
  | (go_at_call 104; go_must (refine (part_round _).mono ?_); rintro e w2 ⟨rfl, hb2⟩; have HB2 := Lib.hid (HB1.out.trans (hb2.mono HB1.out.size)); clear hb2)
  | ((with_reducible show wpList _ _ _ (Oper.mk _ (Op.buildSlice _ _ _) _ _ _ _ :: _) _ _); go_must (refine wpList_litn rfl 122 2 _ rfl [PK.cl .height, PK.cl .round] rfl (by with_unfolding_all rfl) 128 4 (.agg zeroPart.toArray) Tryz.underlying122 info_Part zero_Part (by decide) (by decide) (by decide) (pks4 [.height, .round]) ?_)))
 go_ret
 refine ⟨_, rfl, HB2.out.alloc HB2.out.size _, .inr ⟨_, rfl, HB2.out.size, ?_⟩⟩
 exact Bk.new _ _ _

set_option maxHeartbeats 1000000 in
theorem msgUses_5 (w : World) : Calls Tryz.prog 55 #[.int .i64 5] w fun e w' => ∃ v, e = .returned v ∧ UsesR w w' [.block, .cert] v := by
 go_enter Tryz.func55, Tryz.ntmps55
 go_wp2_with (first
  | (go_at_call 99; go_must (refine (part_block _).mono ?_); rintro e w1 ⟨rfl, hb1⟩; have HB1 := Lib.hid (hb1); clear hb1)
  | (go_at_call 105; go_must (refine (part_cert _).mono ?_); rintro e w2 ⟨rfl, hb2⟩; have HB2 := Lib.hid (HB1.out.trans (hb2.mono HB1.out.size)); clear hb2)
  | ((with_reducible show wpList _ _ _ (Oper.mk _ (Op.buildSlice _ _ _) _ _ _ _ :: _) _ _); go_must (refine wpList_litn rfl 122 2 _ rfl [PK.cl .block, PK.cl .cert] rfl (by with_unfolding_all rfl) 128 4 (.agg zeroPart.toArray) Tryz.underlying122 info_Part zero_Part (by decide) (by decide) (by decide) (pks4 [.block, .cert]) ?_)))
 go_ret
 refine ⟨_, rfl, HB2.out.alloc HB2.out.size _, .inr ⟨_, rfl, HB2.out.size, ?_⟩⟩
 exact Bk.new _ _ _

set_option maxHeartbeats 1000000 in
theorem msgUses_6 (w : World) : Calls Tryz.prog 55 #[.int .i64 6] w fun e w' => ∃ v, e = .returned v ∧ UsesR w w' [.tx] v := by
 go_enter Tryz.func55, Tryz.ntmps55
 go_wp2_with (first
  | (go_at_call 106; go_must (refine (part_tx _).mono ?_); rintro e w1 ⟨rfl, hb1⟩; have HB1 := Lib.hid (hb1); clear hb1)
  | ((with_reducible show wpList _ _ _ (Oper.mk _ (Op.buildSlice _ _ _) _ _ _ _ :: _) _ _); go_must (refine wpList_litn rfl 122 1 _ rfl [PK.cl .tx] rfl (by with_unfolding_all rfl) 128 4 (.agg zeroPart.toArray) Tryz.underlying122 info_Part zero_Part (by decide) (by decide) (by decide) (pks4 [.tx]) ?_)))
 go_ret
 refine ⟨_, rfl, HB1.out.alloc HB1.out.size _, .inr ⟨_, rfl, HB1.out.size, ?_⟩⟩
 exact Bk.new _ _ _

set_option maxHeartbeats 1000000 in
theorem msgUses_7 (w : World) : Calls Tryz.prog 55 #[.int .i64 7] w fun e w' => ∃ v, e = .returned v ∧ UsesR w w' [.evidence] v := by
 go_enter Tryz.func55, Tryz.ntmps55
 go_wp2_with (first
  | (go_at_call 107; go_must (refine (part_evidence _).mono ?_); rintro e w1 ⟨rfl, hb1⟩; have HB1 := Lib.hid (hb1); clear hb1)
  | ((with_reducible show wpList _ _ _ (Oper.mk _ (Op.buildSlice _ _ _) _ _ _ _ :: _) _ _); go_must (refine wpList_litn rfl 122 1 _ rfl [PK.cl .evidence] rfl (by with_unfolding_all rfl) 128 4 (.agg zeroPart.toArray) Tryz.underlying122 info_Part zero_Part (by decide) (by decide) (by decide) (pks4 [.evidence]) ?_)))
 go_ret
 refine ⟨_, rfl, HB1.out.alloc HB1.out.size _, .inr ⟨_, rfl, HB1.out.size, ?_⟩⟩
 exact Bk.new _ _ _

theorem inputUses_1 (w : World) : Calls Tryz.prog 61 #[.int .i64 1] w fun e w' => ∃ v, e = .returned v ∧ UsesR w w' [] v := by
 go_enter Tryz.func61, Tryz.ntmps61
 go_wp2
 go_ret
 exact ⟨_, rfl, Below.refl _ _, .inl ⟨rfl, rfl⟩⟩

set_option maxHeartbeats 1000000 in
theorem inputUses_2 (w : World) : Calls Tryz.prog 61 #[.int .i64 2] w fun e w' => ∃ v, e = .returned v ∧ UsesR w w' [.proposal, .block, .polka, .good] v := by
 go_enter Tryz.func61, Tryz.ntmps61
 go_wp2_with (first
  | (go_at_call 98; go_must (refine (part_proposal _).mono ?_); rintro e w1 ⟨rfl, hb1⟩; have HB1 := Lib.hid (hb1); clear hb1)
  | (go_at_call 99; go_must (refine (part_block _).mono ?_); rintro e w2 ⟨rfl, hb2⟩; have HB2 := Lib.hid (HB1.out.trans (hb2.mono HB1.out.size)); clear hb2)
  | (go_at_call 100; go_must (refine (part_polka _).mono ?_); rintro e w3 ⟨rfl, hb3⟩; have HB3 := Lib.hid (HB2.out.trans (hb3.mono HB2.out.size)); clear hb3)
  | (go_at_call 108; go_must (refine (part_good _).mono ?_); rintro e w4 ⟨rfl, hb4⟩; have HB4 := Lib.hid (HB3.out.trans (hb4.mono HB3.out.size)); clear hb4)
  | ((with_reducible show wpList _ _ _ (Oper.mk _ (Op.buildSlice _ _ _) _ _ _ _ :: _) _ _); go_must (refine wpList_litn rfl 122 4 _ rfl [PK.cl .proposal, PK.cl .block, PK.cl .polka, PK.cl .good] rfl (by with_unfolding_all rfl) 128 4 (.agg zeroPart.toArray) Tryz.underlying122 info_Part zero_Part (by decide) (by decide) (by decide) (pks4 [.proposal, .block, .polka, .good]) ?_)))
 go_ret
 refine ⟨_, rfl, HB4.out.alloc HB4.out.size _, .inr ⟨_, rfl, HB4.out.size, ?_⟩⟩
 exact Bk.new _ _ _

set_option maxHeartbeats 1000000 in
theorem inputUses_3 (w : World) : Calls Tryz.prog 61 #[.int .i64 3] w fun e w' => ∃ v, e = .returned v ∧ UsesR w w' [.one] v := by
 go_enter Tryz.func61, Tryz.ntmps61
 go_wp2_with (first
  | (go_at_call 101; go_must (refine (part_one _).mono ?_); rintro e w1 ⟨rfl, hb1⟩; have HB1 := Lib.hid (hb1); clear hb1)
  | ((with_reducible show wpList _ _ _ (Oper.mk _ (Op.buildSlice _ _ _) _ _ _ _ :: _) _ _); go_must (refine wpList_litn rfl 122 1 _ rfl [PK.cl .one] rfl (by with_unfolding_all rfl) 128 4 (.agg zeroPart.toArray) Tryz.underlying122 info_Part zero_Part (by decide) (by decide) (by decide) (pks4 [.one]) ?_)))
 go_ret
 refine ⟨_, rfl, HB1.out.alloc HB1.out.size _, .inr ⟨_, rfl, HB1.out.size, ?_⟩⟩
 exact Bk.new _ _ _

set_option maxHeartbeats 1000000 in
theorem inputUses_4 (w : World) : Calls Tryz.prog 61 #[.int .i64 4] w fun e w' => ∃ v, e = .returned v ∧ UsesR w w' [.block, .some, .good] v := by
 go_enter Tryz.func61, Tryz.ntmps61
 go_wp2_with (first
  | (go_at_call 99; go_must (refine (part_block _).mono ?_); rintro e w1 ⟨rfl, hb1⟩; have HB1 := Lib.hid (hb1); clear hb1)
  | (go_at_call 102; go_must (refine (part_some _).mono ?_); rintro e w2 ⟨rfl, hb2⟩; have HB2 := Lib.hid (HB1.out.trans (hb2.mono HB1.out.size)); clear hb2)
  | (go_at_call 108; go_must (refine (part_good _).mono ?_); rintro e w3 ⟨rfl, hb3⟩; have HB3 := Lib.hid (HB2.out.trans (hb3.mono HB2.out.size)); clear hb3)
  | ((with_reducible show wpList _ _ _ (Oper.mk _ (Op.buildSlice _ _ _) _ _ _ _ :: _) _ _); go_must (refine wpList_litn rfl 122 3 _ rfl [PK.cl .block, PK.cl .some, PK.cl .good] rfl (by with_unfolding_all rfl) 128 4 (.agg zeroPart.toArray) Tryz.underlying122 info_Part zero_Part (by decide) (by decide) (by decide) (pks4 [.block, .some, .good]) ?_)))
 go_ret
 refine ⟨_, rfl, HB3.out.alloc HB3.out.size _, .inr ⟨_, rfl, HB3.out.size, ?_⟩⟩
 exact Bk.new _ _ _

set_option maxHeartbeats 1000000 in
theorem inputUses_5 (w : World) : Calls Tryz.prog 61 #[.int .i64 5] w fun e w' => ∃ v, e = .returned v ∧ UsesR w w' [.step, .round] v := by
 go_enter Tryz.func61, Tryz.ntmps61
 go_wp2_with (first
  | (go_at_call 109; go_must (refine (part_step _).mono ?_); rintro e w1 ⟨rfl, hb1⟩; have HB1 := Lib.hid (hb1); clear hb1)
  | (go_at_call 104; go_must (refine (part_round _).mono ?_); rintro e w2 ⟨rfl, hb2⟩; have HB2 := Lib.hid (HB1.out.trans (hb2.mono HB1.out.size)); clear hb2)
  | ((with_reducible show wpList _ _ _ (Oper.mk _ (Op.buildSlice _ _ _) _ _ _ _ :: _) _ _); go_must (refine wpList_litn rfl 122 2 _ rfl [PK.cl .step, PK.cl .round] rfl (by with_unfolding_all rfl) 128 4 (.agg zeroPart.toArray) Tryz.underlying122 info_Part zero_Part (by decide) (by decide) (by decide) (pks4 [.step, .round]) ?_)))
 go_ret
 refine ⟨_, rfl, HB2.out.alloc HB2.out.size _, .inr ⟨_, rfl, HB2.out.size, ?_⟩⟩
 exact Bk.new _ _ _

set_option maxHeartbeats 1000000 in
theorem inputUses_6 (w : World) : Calls Tryz.prog 61 #[.int .i64 6] w fun e w' => ∃ v, e = .returned v ∧ UsesR w w' [.block, .round] v := by
 go_enter Tryz.func61, Tryz.ntmps61
 go_wp2_with (first
  | (go_at_call 99; go_must (refine (part_block _).mono ?_); rintro e w1 ⟨rfl, hb1⟩; have HB1 := Lib.hid (hb1); clear hb1)
  | (go_at_call 104; go_must (refine (part_round _).mono ?_); rintro e w2 ⟨rfl, hb2⟩; have HB2 := Lib.hid (HB1.out.trans (hb2.mono HB1.out.size)); clear hb2)
  | ((with_reducible show wpList _ _ _ (Oper.mk _ (Op.buildSlice _ _ _) _ _ _ _ :: _) _ _); go_must (refine wpList_litn rfl 122 2 _ rfl [PK.cl .block, PK.cl .round] rfl (by with_unfolding_all rfl) 128 4 (.agg zeroPart.toArray) Tryz.underlying122 info_Part zero_Part (by decide) (by decide) (by decide) (pks4 [.block, .round]) ?_)))
 go_ret
 refine ⟨_, rfl, HB2.out.alloc HB2.out.size _, .inr ⟨_, rfl, HB2.out.size, ?_⟩⟩
 exact Bk.new _ _ _
theorem msgUses_any (w : World) (k : Int) (h1 : 1 ≤ k) (h7 : k ≤ 7) : Calls Tryz.prog 55 #[.int .i64 k] w fun e w' => ∃ v, e = .returned v ∧ UsesR w w' (usesMsg k) v := by
 rcases (show k = 1 ∨ k = 2 ∨ k = 3 ∨ k = 4 ∨ k = 5 ∨ k = 6 ∨ k = 7 by omega) with rfl | rfl | rfl | rfl | rfl | rfl | rfl
 ·exact msgUses_1 w
 ·exact msgUses_2 w
 ·exact msgUses_3 w
 ·exact msgUses_4 w
 ·exact msgUses_5 w
 ·exact msgUses_6 w
 ·exact msgUses_7 w
theorem inputUses_any (w : World) (k : Int) (h1 : 1 ≤ k) (h7 : k ≤ 6) : Calls Tryz.prog 61 #[.int .i64 k] w fun e w' => ∃ v, e = .returned v ∧ UsesR w w' (usesInput k) v := by
 rcases (show k = 1 ∨ k = 2 ∨ k = 3 ∨ k = 4 ∨ k = 5 ∨ k = 6 by omega) with rfl | rfl | rfl | rfl | rfl | rfl
 ·exact inputUses_1 w
 ·exact inputUses_2 w
 ·exact inputUses_3 w
 ·exact inputUses_4 w
 ·exact inputUses_5 w
 ·exact inputUses_6 w
end Go.Proofs.YtlhnhjglcbggmaaGreatRR

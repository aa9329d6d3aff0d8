/-
  ArchiveNil, the pieces: an archive that was not opened, a disk that was not made: each function answers early. Condition: the pointer is nil, or what it points to holds no disk (no files).
-/
import Derived.Test.YtodlehkfadnchaaGreatDoorLoad3
import Derived.Test.YtodlehkfadnchaaGreatDoorChecked
namespace Go.Proofs.YtodlehkfadnchaaGreatDoor
set_option linter.unusedSimpArgs false
set_option linter.unusedVariables false
open Go.RowKit
set_option maxRecDepth 100000

theorem bk_eqA {w : World} {g : Nat} {t : TypeId} {cs cs' : Array Value} (h : Bk w g cs t) (e : cs = cs') : Bk w g cs' t := e ▸ h
theorem wpList_build0 {P : Program} {ops : Array Oper} {rest : List Oper} {o : Oper} {a : Act} {w : World} {Q : Exit → Act → World → Prop} (hw : Region.wanted o (yielded ops a.tmps) = true) (t : TypeId) (ho : o.op = .build t #[])
    (cells : Array Value) (hb : P.built t [] = some cells) (h : wpList P ops Q rest (a.put o.dst (.agg cells)) w) : wpList P ops Q (o :: rest) a w := by
  refine wpList_want hw fun K hK => ?_
  unfold Oper.wp execOp
  simp only [ho, Sem.run_bind, Sem.run_pure, List.map_toArray, List.map_nil, Array.map_empty, run_build w t #[] cells hb, Result.andThen_ok]
  exact hK _ _ h
theorem wpList_stA {P : Program} {ops : Array Oper} {rest : List Oper} {o : Oper} {a : Act} {w : World} {Q : Exit → Act → World → Prop} (hw : Region.wanted o (yielded ops a.tmps) = true) (ty : TypeId) (x y : Operand) (ho : o.op = .store ty x y)
    (g : Nat) (hx : a.eval x = .pointer (some ⟨g, 0, none⟩)) (cs : Array Value) (hy : a.eval y = .agg cs) (ds : Array Value) (t : TypeId) (hk : Bk w g ds t) (n : Nat) (hi : (P.info? ty).map (·.size) = some n) (hn : cs.size = n) (hm : ds.size = n) (h1 : ∀ u ∈ cs.toList, u.oneCell' = true)
    (h : ∀ w', Bk w' g cs t → w.grownBy w' (some g) → w'.heap.size = w.heap.size → wpList P ops Q rest (a.put o.dst undef) w') : wpList P ops Q (o :: rest) a w :=
  wpList_store_bk hw ty x y ho g hx (.agg cs) hy ds t hk (by rw [hi, ← hn]; rfl) (by show cs.size = _; rw [hn, hm]) h1 h

def zeroHeader : List Value := [.string ByteArray.empty, .int .u64 0, .int .u64 0] ++ List.replicate 224 (.int .u8 0) ++ [.int .u64 0]
def zeroCertL : List Value := [.int .u64 0, .int .i64 0] ++ List.replicate 32 (.int .u8 0) ++ [.slice none 0 0]
def zeroBlockL : List Value := zeroHeader ++ [.slice none 0 0, .slice none 0 0] ++ zeroCertL
def zeroStateL : List Value := [.string ByteArray.empty] ++ [.int .u64 0, .int .i64 0, .int .u64 0, .int .u64 0, .int .u64 0, .int .i64 0, .int .u64 0, .int .u64 0, .int .u64 0, .int .u64 0, .int .u64 0, .int .u64 0] ++ [.int .u64 0, .int .u64 0] ++ List.replicate 32 (.int .u8 0) ++ [.slice none 0 0, .slice none 0 0, .slice none 0 0, .slice none 0 0] ++ [.slice none 0 0, .slice none 0 0, .int .u64 0, .int .u64 0]
theorem zB : (Tryz.prog.info? 34).bind (·.zero) = some (.agg zeroBlockL.toArray) := by kernel_rfl
theorem zC : (Tryz.prog.info? 32).bind (·.zero) = some (.agg zeroCertL.toArray) := by kernel_rfl
theorem zS : (Tryz.prog.info? 47).bind (·.zero) = some (.agg zeroStateL.toArray) := by kernel_rfl
theorem bB : Tryz.prog.built 34 [] = some zeroBlockL.toArray := by kernel_rfl
theorem bC : Tryz.prog.built 32 [] = some zeroCertL.toArray := by kernel_rfl
theorem bS : Tryz.prog.built 47 [] = some zeroStateL.toArray := by kernel_rfl
theorem iB : (Tryz.prog.info? 34).map (·.size) = some 265 := by kernel_rfl
theorem iC : (Tryz.prog.info? 32).map (·.size) = some 35 := by kernel_rfl
theorem iS : (Tryz.prog.info? 47).map (·.size) = some 55 := by kernel_rfl
theorem lB : zeroBlockL.toArray.size = 265 := by rfl
theorem lC : zeroCertL.toArray.size = 35 := by rfl
theorem lS : zeroStateL.toArray.size = 55 := by rfl
theorem oB : ∀ u ∈ zeroBlockL.toArray.toList, u.oneCell' = true := by decide
theorem oC : ∀ u ∈ zeroCertL.toArray.toList, u.oneCell' = true := by decide
theorem oS : ∀ u ∈ zeroStateL.toArray.toList, u.oneCell' = true := by decide

/-- nil, or a pointer to an archive without a disk -/
def NilA (w : World) (v : Value) : Prop := v = .pointer none ∨ ∃ g, v = .pointer (some ⟨g, 0, none⟩) ∧ w.cell? ⟨g, 0, none⟩ = some (.pointer none)
def NilD (w : World) (v : Value) : Prop := v = .pointer none ∨ ∃ g, v = .pointer (some ⟨g, 0, none⟩) ∧ w.cell? ⟨g, 2, none⟩ = some (.map none)

theorem cell_blockA {w : World} {a : Addr} (h : w.cell? a ≠ none) : a.block < w.heap.size := by
  cases hc : w.cell? a with
  | none => exact absurd hc h
  | some v => exact World.block_lt_of_cell? w a hc
theorem bodyPost_ctA {P : Program} {fn : Func} {R : Ending → World → Prop} {act : Act} {w : World} {b c t n g : Nat} {x : Value} {cs : Array Value} {bt : TypeId} {d : TypeDesc} (hr : fn.results = #[.cell b t, .tmp c]) (ht : act.tmps.getD b undef = .pointer (some ⟨g, 0, none⟩)) (hc : act.tmps.getD c undef = x) (hk : Bk w g cs bt) (hu : P.underlying t = some d) (hda : aggD d = true) (hi : (P.info? t).map (·.size) = some n) (hn : n = cs.size) (hd : act.defers = []) (hR : R (.returned (.tuple #[.agg cs, x])) w) : bodyPost P fn R .ret act w := by
  have hl := run_loadVar_part (P := P) (off := 0) hk hu hda hi (by omega)
  have e : cs.extract 0 (0 + n) = cs := by subst hn; simp
  rw [e] at hl
  refine bodyPost_ret (v := .tuple #[.agg cs, x]) ?_ hd hR
  simp only [Array.getD_eq_getD_getElem?] at ht hc
  simp [results, hr, ht, hc, hl, asAddr, Sem.run_bind, Sem.run_pure]
theorem bodyPost_cctA {P : Program} {fn : Func} {R : Ending → World → Prop} {act : Act} {w : World} {a b c t t' n n' g g' : Nat} {x : Value} {cs cs' : Array Value} {bt bt' : TypeId} {d d' : TypeDesc} (hr : fn.results = #[.cell a t, .cell b t', .tmp c]) (ha : act.tmps.getD a undef = .pointer (some ⟨g, 0, none⟩)) (hb : act.tmps.getD b undef = .pointer (some ⟨g', 0, none⟩)) (hc : act.tmps.getD c undef = x) (hk : Bk w g cs bt) (hk' : Bk w g' cs' bt') (hu : P.underlying t = some d) (hda : aggD d = true) (hi : (P.info? t).map (·.size) = some n) (hn : n = cs.size) (hu' : P.underlying t' = some d') (hda' : aggD d' = true) (hi' : (P.info? t').map (·.size) = some n') (hn' : n' = cs'.size) (hd : act.defers = []) (hR : R (.returned (.tuple #[.agg cs, .agg cs', x])) w) : bodyPost P fn R .ret act w := by
  have hl := run_loadVar_part (P := P) (off := 0) hk hu hda hi (by omega)
  have e : cs.extract 0 (0 + n) = cs := by subst hn; simp
  rw [e] at hl
  have hl' := run_loadVar_part (P := P) (off := 0) hk' hu' hda' hi' (by omega)
  have e' : cs'.extract 0 (0 + n') = cs' := by subst hn'; simp
  rw [e'] at hl'
  refine bodyPost_ret (v := .tuple #[.agg cs, .agg cs', x]) ?_ hd hR
  simp only [Array.getD_eq_getD_getElem?] at ha hb hc
  simp [results, hr, ha, hb, hc, hl, hl', asAddr, Sem.run_bind, Sem.run_pure]
theorem NilA.below {w w' : World} {v : Value} (h : NilA w v) (hb : Below w.heap.size w w') : NilA w' v := by
  rcases h with rfl | ⟨g, rfl, hc⟩
  · exact .inl rfl
  · exact .inr ⟨g, rfl, (hb.cell (cell_blockA (by rw [hc]; simp))).trans hc⟩
theorem missing_any (w : World) (v : Value) (h : NilA w v) :
    Calls Tryz.prog 18 #[v] w fun e w' => e = .returned (.bool true) ∧ w = w' := by
  rcases h with rfl | ⟨g, rfl, hc⟩
  · go_enter Tryz.func18, Tryz.ntmps18
    go_wp2
    go_ret
    exact ⟨rfl, rfl⟩
  · go_enter Tryz.func18, Tryz.ntmps18
    go_wp2
    go_ret
    exact ⟨rfl, rfl⟩
theorem eqlNilM (w : World) : (binOp .eql 53 (.map none) (.map none)).run Tryz.prog w = .ok (.bool true) w := by kernel_rfl
theorem dmissing_any (w : World) (v : Value) (h : NilD w v) :
    Calls Tryz.prog 36 #[v] w fun e w' => e = .returned (.bool true) ∧ w = w' := by
  rcases h with rfl | ⟨g, rfl, hc⟩
  · go_enter Tryz.func36, Tryz.ntmps36
    go_wp2
    go_ret
    exact ⟨rfl, rfl⟩
  · go_enter Tryz.func36, Tryz.ntmps36
    have hq := eqlNilM
    go_wp2
    go_ret
    exact ⟨rfl, rfl⟩
theorem num_any (w : World) (n : Int) :
    Calls Tryz.prog 5 #[.int .i64 n] w fun e w' => e = .returned (.int .i64 n) ∧ w = w' := by
  go_enter Tryz.func5, Tryz.ntmps5
  go_wp2
  go_ret
  exact ⟨rfl, rfl⟩
theorem refuses_any (w : World) (v : Value) (s : ByteArray) (h : NilD w v) :
    Calls Tryz.prog 72 #[v, .string s] w fun e w' => e = .returned (.int .i64 1) ∧ w = w' := by
  have H := Lib.hid (dmissing_any w v h)
  clear h
  go_enter Tryz.func72, Tryz.ntmps72
  go_wp2_with (go_at_call 36; go_must (refine H.out.mono ?_; rintro e wx ⟨rfl, rfl⟩))
  go_ret
  exact ⟨rfl, rfl⟩
theorem find_any (w : World) (v : Value) (s : ByteArray) (h : NilD w v) :
    Calls Tryz.prog 42 #[v, .string s] w fun e w' => e = .returned (.tuple #[.pointer none, .int .i64 1]) ∧ w = w' := by
  have H := Lib.hid (refuses_any w v s h)
  clear h
  go_enter Tryz.func42, Tryz.ntmps42
  go_wp2_with (go_at_call 72; go_must (refine H.out.mono ?_; rintro e wx ⟨rfl, rfl⟩))
  go_ret2
  exact ⟨rfl, rfl⟩
theorem size_any (w : World) (v : Value) (s : ByteArray) (h : NilD w v) :
    Calls Tryz.prog 21 #[v, .string s] w fun e w' => e = .returned (.tuple #[.int .i64 0, .int .i64 0, .int .i64 1]) ∧ w = w' := by
  have H := Lib.hid (find_any w v s h)
  clear h
  go_enter Tryz.func21, Tryz.ntmps21
  go_wp2_with (go_at_call 42; go_must (refine H.out.mono ?_; rintro e wx ⟨rfl, rfl⟩))
  go_ret3
  exact ⟨rfl, rfl⟩
theorem made_any (w : World) (v : Value) (h : NilD w v) :
    Calls Tryz.prog 14 #[v] w fun e w' => e = .returned (.bool false) ∧ w = w' := by
  have H := Lib.hid (fun s => size_any w v s h)
  clear h
  go_enter Tryz.func14, Tryz.ntmps14
  go_wp2_with (go_at_call 21; go_must (refine (H.out _).mono ?_; rintro e wx ⟨rfl, rfl⟩))
  go_ret
  exact ⟨rfl, rfl⟩
theorem open_any (w : World) (v : Value) (h : NilD w v) :
    Calls Tryz.prog 4 #[v] w fun e w' => e = .returned (.tuple #[.pointer none, .int .i64 1]) ∧ w = w' := by
  have H := Lib.hid (made_any w v h)
  clear h
  go_enter Tryz.func4, Tryz.ntmps4
  go_wp2_with (go_at_call 14; go_must (refine H.out.mono ?_; rintro e wx ⟨rfl, rfl⟩))
  go_ret2
  exact ⟨rfl, rfl⟩
theorem head_any (w : World) (v : Value) (h : NilA w v) :
    Calls Tryz.prog 8 #[v] w fun e w' => e = .returned (.int .u64 0) ∧ w = w' := by
  have H := Lib.hid (missing_any w v h)
  clear h
  go_enter Tryz.func8, Tryz.ntmps8
  go_wp2_with (go_at_call 18; go_must (refine H.out.mono ?_; rintro e wx ⟨rfl, rfl⟩))
  go_ret
  exact ⟨rfl, rfl⟩
theorem change_any (w : World) (v f d : Value) (h : NilA w v) :
    Calls Tryz.prog 24 #[v, f, d] w fun e w' => e = .returned (.int .i64 1) ∧ w = w' := by
  have H := Lib.hid (missing_any w v h)
  clear h
  go_enter Tryz.func24, Tryz.ntmps24
  go_wp2_with (go_at_call 18; go_must (refine H.out.mono ?_; rintro e wx ⟨rfl, rfl⟩))
  go_ret
  exact ⟨rfl, rfl⟩

/-! What makes blocks. -/
set_option maxHeartbeats 4000000 in
theorem load_any (w : World) (v : Value) (n : Int) (h : NilA w v) :
    Calls Tryz.prog 6 #[v, .int .u64 n] w fun e w' => e = .returned (.tuple #[.agg zeroBlockL.toArray, .agg zeroCertL.toArray, .int .i64 1]) ∧ Below w.heap.size w w' := by
  have H := Lib.hid h
  clear h
  go_enter Tryz.func6, Tryz.ntmps6
  go_wp2_with (first
    | (with_reducible show wpList _ _ _ (Oper.mk (some 4) (Op.alloc _) _ _ _ _ :: _) _ _; go_must (refine wpList_alloc_bk rfl _ rfl (.agg zeroBlockL.toArray) zB ?_; intro b1 w1 hk hb hg hs; have A1 := Lib.hid hb; have G1 := Lib.hid hg; have K1 := Lib.hid (bk_eqA (cs' := zeroBlockL.toArray) hk rfl); have H1 := Lib.hid (H.out.below hb); clear hk hb hg hs))
    | (with_reducible show wpList _ _ _ (Oper.mk (some 5) (Op.alloc _) _ _ _ _ :: _) _ _; go_must (refine wpList_alloc_bk rfl _ rfl (.agg zeroCertL.toArray) zC ?_; intro b2 w2 hk hb hg hs; have A2 := Lib.hid (A1.out.trans (hb.mono A1.out.size)); have G2 := Lib.hid hg; have K12 := Lib.hid (K1.out.below hb K1.out.lt); have K2 := Lib.hid (bk_eqA (cs' := zeroCertL.toArray) hk rfl); have H2 := Lib.hid (H1.out.below hb); clear hk hb hg hs))
    | (go_at_call 18; go_must (refine (missing_any _ _ H2.out).mono ?_; rintro e wx ⟨rfl, rfl⟩))
    | (with_reducible show wpList _ _ _ (Oper.mk _ (Op.build 34 _) _ _ _ _ :: _) _ _; go_must (refine wpList_build0 rfl _ rfl _ bB ?_))
    | (with_reducible show wpList _ _ _ (Oper.mk _ (Op.build 32 _) _ _ _ _ :: _) _ _; go_must (refine wpList_build0 rfl _ rfl _ bC ?_))
    | (with_reducible show wpList _ _ _ (Oper.mk _ (Op.store 34 _ _) _ _ _ _ :: _) _ _; go_must (refine wpList_stA rfl _ _ _ rfl b1 rfl zeroBlockL.toArray rfl _ _ K12.out 265 iB lB lB oB ?_; intro w3 hk hg hs; have A3 := Lib.hid (A2.out.grown hg A2.out.size (fun k hk => by cases hk; have := G1.out; omega)); have K3 := Lib.hid hk; have K23 := Lib.hid (K2.out.grown hg (fun h => by cases h; have := G2.out; have := K1.out.lt; omega)); clear hk hg hs))
    | (with_reducible show wpList _ _ _ (Oper.mk _ (Op.store 32 _ _) _ _ _ _ :: _) _ _; go_must (refine wpList_stA rfl _ _ _ rfl b2 rfl zeroCertL.toArray rfl _ _ K23.out 35 iC lC lC oC ?_; intro w4 hk hg hs; have A4 := Lib.hid (A3.out.grown hg A3.out.size (fun k hk => by cases hk; have := G1.out; have := G2.out; have := K1.out.lt; omega)); have K4 := Lib.hid hk; have K34 := Lib.hid (K3.out.grown hg (fun h => by cases h; have := G2.out; have := K1.out.lt; omega)); clear hk hg hs)))
  exact bodyPost_cctA Tryz.results6 rfl rfl rfl K34.out K4.out Tryz.underlying34 rfl iB lB.symm Tryz.underlying32 rfl iC lC.symm rfl ⟨rfl, A4.out⟩
set_option maxHeartbeats 4000000 in
theorem noted_any (w : World) (v : Value) (h : NilA w v) :
    Calls Tryz.prog 7 #[v] w fun e w' => e = .returned (.tuple #[.agg zeroStateL.toArray, .int .i64 1]) ∧ Below w.heap.size w w' := by
  have H := Lib.hid h
  clear h
  go_enter Tryz.func7, Tryz.ntmps7
  go_wp2_with (first
    | (with_reducible show wpList _ _ _ (Oper.mk (some 2) (Op.alloc _) _ _ _ _ :: _) _ _; go_must (refine wpList_alloc_bk rfl _ rfl (.agg zeroStateL.toArray) zS ?_; intro b1 w1 hk hb hg hs; have A1 := Lib.hid hb; have G1 := Lib.hid hg; have K1 := Lib.hid (bk_eqA (cs' := zeroStateL.toArray) hk rfl); have H1 := Lib.hid (H.out.below hb); clear hk hb hg hs))
    | (go_at_call 18; go_must (refine (missing_any _ _ H1.out).mono ?_; rintro e wx ⟨rfl, rfl⟩))
    | (with_reducible show wpList _ _ _ (Oper.mk _ (Op.build 47 _) _ _ _ _ :: _) _ _; go_must (refine wpList_build0 rfl _ rfl _ bS ?_))
    | (with_reducible show wpList _ _ _ (Oper.mk _ (Op.store 47 _ _) _ _ _ _ :: _) _ _; go_must (refine wpList_stA rfl _ _ _ rfl b1 rfl zeroStateL.toArray rfl _ _ K1.out 55 iS lS lS oS ?_; intro w3 hk hg hs; have A3 := Lib.hid (A1.out.grown hg A1.out.size (fun k hk => by cases hk; have := G1.out; omega)); have K3 := Lib.hid hk; clear hk hg hs)))
  exact bodyPost_ctA Tryz.results7 rfl rfl K3.out Tryz.underlying47 rfl iS lS.symm rfl ⟨rfl, A3.out⟩
end Go.Proofs.YtodlehkfadnchaaGreatDoor

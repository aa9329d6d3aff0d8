/-
  Laws at single operations, with the world behind them under a name of its own: a value laid into a new block, a part of a block read or written. No condition: lemmas over any program.
-/
import Derived.Test.YtodlehkfadnchaaGreatDoorCmp
import Derived.Deep.QuietTactic
import Derived.BigQuiet
import Derived.StillTailTactics
import Derived.Laws.IdiomStrings
namespace Go.Proofs.YtodlehkfadnchaaGreatDoor
set_option linter.unusedSimpArgs false
set_option linter.unusedVariables false
open Go.RowKit

section
variable {P : Program}
theorem wpList_want {ops : Array Oper} {rest : List Oper} {o : Oper} {a : Act} {w : World} {Q : Exit → Act → World → Prop} (hw : Region.wanted o (yielded ops a.tmps) = true)
    (h : ∀ K : Act → World → Prop, (∀ a w, wpList P ops Q rest a w → K a w) → o.wp P a w K Q) : wpList P ops Q (o :: rest) a w :=
  wpList_step fun K hK => by rw [if_pos hw]; exact h K hK
theorem addr_add (g o j : Nat) : (⟨g, o, none⟩ : Addr).add j = ⟨g, o + j, none⟩ := by unfold Addr.add; split <;> simp_all

/-- a value laid into a new block -/
theorem wpList_box_bk {ops : Array Oper} {rest : List Oper} {o : Oper} {a : Act} {w : World} {Q : Exit → Act → World → Prop} (hgd : o.guard = none) (t : TypeId) (x : Operand) (ho : o.op = .box t x) (v : Value) (hx : a.eval x = v)
    (h : ∀ g w', Bk w' g v.cells t → Below w.heap.size w w' → w.heap.size = g → w'.heap.size = g + 1 → wpList P ops Q rest (a.put o.dst (.pointer (some ⟨g, 0, none⟩))) w') : wpList P ops Q (o :: rest) a w := by
  refine wpList_plain hgd fun K hK => ?_
  unfold Oper.wp execOp
  simp only [ho, hx, Instr.box, newVar, newRow, newObj, Sem.run_bind, Sem.run_pure, Result.andThen_ok]
  refine hK _ _ (h w.heap.size (w.alloc (.cells v.cells t)) (Bk.new w t _) ((Below.refl _ _).alloc (Nat.le_refl _) _) rfl (by simp))

/-- a part of a known block, read whole -/
theorem run_loadVar_part {w : World} {g off ty n : Nat} {cs : Array Value} {t : TypeId} {d : TypeDesc} (hk : Bk w g cs t) (hu : P.underlying ty = some d) (hd : aggD d = true) (hi : (P.info? ty).map (·.size) = some n) (hn : off + n ≤ cs.size) :
    (loadVar ty ⟨g, off, none⟩).run P w = .ok (.agg (cs.extract off (off + n))) w := by
  have hl : (loadCells ⟨g, off, none⟩ (cs.extract off (off + n)).toList.length).run P w = .ok (cs.extract off (off + n)).toList.toArray w :=
    run_loadCells_list (P := P) w ⟨g, off, none⟩ _ (fun j v hv => by
      rw [addr_add, hk.cell]
      simp only [Array.getElem?_toList, Array.getElem?_extract] at hv
      split at hv
      · exact hv
      · cases hv)
  have hlen : (cs.extract off (off + n)).toList.length = n := by simp; omega
  rw [hlen] at hl
  have hagg : (isAgg ty).run P w = .ok true w := by
    rw [run_isAgg hu w]
    congr 1
    unfold isAggT
    rw [hu]
    cases d <;> simp [aggD] at hd ⊢
  simp only [Array.toArray_toList] at hl
  simp [loadVar, Sem.run_bind, hagg, run_sizeOf' hi, hl]

theorem wpList_load_part {ops : Array Oper} {rest : List Oper} {o : Oper} {a : Act} {w : World} {Q : Exit → Act → World → Prop} (hw : Region.wanted o (yielded ops a.tmps) = true) (ty : TypeId) (x : Operand) (ho : o.op = .load ty x)
    (g off n : Nat) (hx : a.eval x = .pointer (some ⟨g, off, none⟩)) (cs : Array Value) (t : TypeId) (d : TypeDesc) (hk : Bk w g cs t) (hu : P.underlying ty = some d) (hd : aggD d = true) (hi : (P.info? ty).map (·.size) = some n) (hn : off + n ≤ cs.size)
    (v : Array Value) (hv : cs.extract off (off + n) = v)
    (h : wpList P ops Q rest (a.put o.dst (.agg v)) w) : wpList P ops Q (o :: rest) a w := by
  refine wpList_want hw fun K hK => ?_
  unfold Oper.wp execOp
  simp only [ho, hx, Instr.loadAt, Instr.sureAddr, Sem.run_bind, Sem.run_pure, Result.andThen_ok, run_loadVar_part hk hu hd hi hn, hv]
  exact hK _ _ h

/-- the cells of a block with a part written over -/
def splice (cs : Array Value) (off : Nat) (xs : List Value) : Array Value := (cs.toList.take off ++ xs ++ cs.toList.drop (off + xs.length)).toArray
theorem splice_size {cs : Array Value} {off : Nat} {xs : List Value} (h : off + xs.length ≤ cs.size) : (splice cs off xs).size = cs.size := by
  simp [splice]; omega
theorem splice_at {cs : Array Value} {off : Nat} {xs : List Value} (h : off + xs.length ≤ cs.size) (j : Nat) : (splice cs off xs)[j]? = if off ≤ j ∧ j < off + xs.length then xs[j - off]? else cs[j]? := by
  simp only [splice, List.getElem?_toArray]
  by_cases h1 : j < off
  · rw [if_neg (by omega), List.append_assoc, List.getElem?_append_left (by simp; omega), List.getElem?_take, if_pos h1, Array.getElem?_toList]
  · by_cases h2 : j < off + xs.length
    · rw [if_pos (by omega), List.append_assoc, List.getElem?_append_right (by simp; omega)]
      have e : (cs.toList.take off).length = off := by simp; omega
      rw [e, List.getElem?_append_left (by omega)]
    · rw [if_neg (by omega), List.getElem?_append_right (by simp; omega)]
      have e : (cs.toList.take off ++ xs).length = off + xs.length := by simp; omega
      rw [e, List.getElem?_drop, Array.getElem?_toList]
      congr 1; omega

theorem run_storeVar_part {w : World} {g off ty : Nat} {cs : Array Value} {t : TypeId} {v : Value} (hk : Bk w g cs t) (hi : (P.info? ty).map (·.size) = some v.cells.size) (hn : off + v.cells.size ≤ cs.size) (h1 : ∀ u ∈ v.cells.toList, u.oneCell' = true) :
    (storeVar ty ⟨g, off, none⟩ v).run P w = .ok () (w.setRow g (splice cs off v.cells.toList)) := by
  have hst := run_storeCells_at P g off t v.cells.toList 0 cs w hk (by simpa using hn) h1
  simp only [Nat.add_zero] at hst
  have e : (cs.toList.take off ++ v.cells.toList ++ cs.toList.drop (off + v.cells.toList.length)).toArray = splice cs off v.cells.toList := rfl
  rw [e] at hst
  simp [storeVar, Sem.run_bind, run_sizeOf' hi, hst]

theorem wpList_store_part {ops : Array Oper} {rest : List Oper} {o : Oper} {a : Act} {w : World} {Q : Exit → Act → World → Prop} (hw : Region.wanted o (yielded ops a.tmps) = true) (ty : TypeId) (x y : Operand) (ho : o.op = .store ty x y)
    (g off : Nat) (hx : a.eval x = .pointer (some ⟨g, off, none⟩)) (v : Value) (hy : a.eval y = v) (cs : Array Value) (t : TypeId) (hk : Bk w g cs t) (hi : (P.info? ty).map (·.size) = some v.cells.size) (hn : off + v.cells.size ≤ cs.size) (h1 : ∀ u ∈ v.cells.toList, u.oneCell' = true)
    (h : ∀ w', Bk w' g (splice cs off v.cells.toList) t → w.grownBy w' (some g) → w'.heap.size = w.heap.size → wpList P ops Q rest (a.put o.dst undef) w') : wpList P ops Q (o :: rest) a w := by
  refine wpList_want hw fun K hK => ?_
  unfold Oper.wp execOp
  simp only [ho, hx, hy, Instr.storeAt, Instr.sureAddr, Sem.run_bind, Sem.run_pure, Result.andThen_ok, run_storeVar_part hk hi hn h1]
  refine hK _ _ (h _ (setRow_heap w g cs _ t _ hk) ⟨rfl, rfl, rfl, by simp, fun k _ hne => setRow_other w g k _ (fun e => hne (by rw [e]))⟩ (by simp))

/-- a text turned into bytes, in new memory -/
theorem wpList_conv_sb {ops : Array Oper} {rest : List Oper} {o : Oper} {a : Act} {w : World} {Q : Exit → Act → World → Prop} (hw : Region.wanted o (yielded ops a.tmps) = true) (src dst e : TypeId) (x : Operand) (ho : o.op = .convert src dst x)
    (s : ByteArray) (hx : a.eval x = .string s) (hs : P.underlying src = some .string) (hd : P.underlying dst = some (.slice e)) (he : P.underlying e = some (.int .u8))
    (h : ∀ g c w', Rd w' (some ⟨g, 0, none⟩) (bv s.data.toList) → Below w.heap.size w w' → w.heap.size = g → wpList P ops Q rest (a.put o.dst (.slice (some ⟨g, 0, none⟩) s.size c)) w') : wpList P ops Q (o :: rest) a w := by
  refine wpList_want hw fun K hK => ?_
  unfold Oper.wp execOp
  simp only [ho, hx, Sem.run_bind, Sem.run_pure, run_bytes_of_string w src dst e s hs hd he, Result.andThen_ok]
  refine hK _ _ (h w.heap.size _ _ ?_ (((Below.refl _ _).drew).alloc (Nat.le_refl _) _) rfl)
  intro j u hu
  refine ⟨_, rfl, ?_⟩
  rw [addr_add, Nat.zero_add]
  have hb : (w.drew.alloc (.cells (bytesRow s (grownCap w s.size 0 e)) e ((bytesRow s (grownCap w s.size 0 e)).size, (bytesRow s (grownCap w s.size 0 e)).size + 1))).heap[w.heap.size]? = some (.cells (bytesRow s (grownCap w s.size 0 e)) e ((bytesRow s (grownCap w s.size 0 e)).size, (bytesRow s (grownCap w s.size 0 e)).size + 1)) := heap_alloc_new w.drew _
  rw [cell_of_row _ _ _ _ _ _ hb]
  have hlen : j < s.data.toList.length := by
    have := (List.getElem?_eq_some_iff.1 hu).1
    simpa [bv_length] using this
  rw [bv_get] at hu
  unfold bytesRow
  rw [Array.getElem?_append_left (by simpa using hlen)]
  simpa using hu

/-! Inside a region that draws its order. -/
theorem quiet_load_part {o : Oper} {a : Act} {C : World → Prop} {K : Act → Prop} (ty : TypeId) (x : Operand) (ho : o.op = .load ty x)
    (g off n : Nat) (hx : a.eval x = .pointer (some ⟨g, off, none⟩)) (cs : Array Value) (t : TypeId) (d : TypeDesc) (hk : ∀ w, C w → Bk w g cs t) (hu : P.underlying ty = some d) (hd : aggD d = true) (hi : (P.info? ty).map (·.size) = some n) (hn : off + n ≤ cs.size)
    (v : Array Value) (hv : cs.extract off (off + n) = v) (h : K (a.put o.dst (.agg v))) : o.quiet P a C K := by
  refine ⟨_, fun w hw => ?_, h⟩
  unfold Oper.quietAt execOp
  simp only [ho, hx, Instr.loadAt, Instr.sureAddr, Sem.run_bind, Sem.run_pure, Result.andThen_ok, run_loadVar_part (hk w hw) hu hd hi hn, hv]
  exact ⟨rfl, rfl⟩
theorem run_eqGuard_flat {t : TypeId} (op : BinOp) (x y : Operand) (xs ys : Array Value) (hm : P.eqGuardType P.depth t = false) (w : World) : (eqGuard op t x y (.agg xs) (.agg ys)).run P w = .ok () w := run_eqGuard_agg w op t x y xs ys hm
theorem quiet_eql_flat {o : Oper} {a : Act} {C : World → Prop} {K : Act → Prop} (ty ty' : TypeId) (x y : Operand) (ho : o.op = .binOp .eql ty x y ty') (xs ys : List Value) (hx : a.eval x = .agg xs.toArray) (hy : a.eval y = .agg ys.toArray)
    (n : Nat) (ks : List CK) (hf : flat P n ty = some ks) (hn : n ≤ 10000) (ha : isAggT P ty = true) (hm : P.eqGuardType P.depth ty = false) (fx : Fits ks xs) (fy : Fits ks ys) (q : Bool) (hq : q = true ↔ xs = ys) (h : K (a.put o.dst (.bool q))) : o.quiet P a C K := by
  refine ⟨_, fun w hw => ?_, h⟩
  unfold Oper.quietAt execOp
  simp only [ho, hx, hy, Sem.run_bind, Sem.run_pure, Result.andThen_ok, run_eqGuard_flat .eql x y _ _ hm, run_eql_flat hf hn ha fx fy hq]
  exact ⟨rfl, rfl⟩
theorem quiet_neq_flat {o : Oper} {a : Act} {C : World → Prop} {K : Act → Prop} (ty ty' : TypeId) (x y : Operand) (ho : o.op = .binOp .neq ty x y ty') (xs ys : List Value) (hx : a.eval x = .agg xs.toArray) (hy : a.eval y = .agg ys.toArray)
    (n : Nat) (ks : List CK) (hf : flat P n ty = some ks) (hn : n ≤ 10000) (ha : isAggT P ty = true) (hm : P.eqGuardType P.depth ty = false) (fx : Fits ks xs) (fy : Fits ks ys) (q : Bool) (hq : q = true ↔ xs = ys) (h : K (a.put o.dst (.bool (!q)))) : o.quiet P a C K := by
  refine ⟨_, fun w hw => ?_, h⟩
  unfold Oper.quietAt execOp
  simp only [ho, hx, hy, Sem.run_bind, Sem.run_pure, Result.andThen_ok, run_eqGuard_flat .neq x y _ _ hm, run_neq_flat hf hn ha fx fy hq]
  exact ⟨rfl, rfl⟩
/-! Outside one. -/
theorem wpList_eql_flat {ops : Array Oper} {rest : List Oper} {o : Oper} {a : Act} {w : World} {Q : Exit → Act → World → Prop} (hw : Region.wanted o (yielded ops a.tmps) = true) (ty ty' : TypeId) (x y : Operand) (ho : o.op = .binOp .eql ty x y ty') (xs ys : List Value) (hx : a.eval x = .agg xs.toArray) (hy : a.eval y = .agg ys.toArray)
    (n : Nat) (ks : List CK) (hf : flat P n ty = some ks) (hn : n ≤ 10000) (ha : isAggT P ty = true) (hm : P.eqGuardType P.depth ty = false) (fx : Fits ks xs) (fy : Fits ks ys) (q : Bool) (hq : q = true ↔ xs = ys) (h : wpList P ops Q rest (a.put o.dst (.bool q)) w) : wpList P ops Q (o :: rest) a w := by
  refine wpList_want hw fun K hK => ?_
  unfold Oper.wp execOp
  simp only [ho, hx, hy, Sem.run_bind, Sem.run_pure, Result.andThen_ok, run_eqGuard_flat .eql x y _ _ hm, run_eql_flat hf hn ha fx fy hq]
  exact hK _ _ h
theorem wpList_neq_flat {ops : Array Oper} {rest : List Oper} {o : Oper} {a : Act} {w : World} {Q : Exit → Act → World → Prop} (hw : Region.wanted o (yielded ops a.tmps) = true) (ty ty' : TypeId) (x y : Operand) (ho : o.op = .binOp .neq ty x y ty') (xs ys : List Value) (hx : a.eval x = .agg xs.toArray) (hy : a.eval y = .agg ys.toArray)
    (n : Nat) (ks : List CK) (hf : flat P n ty = some ks) (hn : n ≤ 10000) (ha : isAggT P ty = true) (hm : P.eqGuardType P.depth ty = false) (fx : Fits ks xs) (fy : Fits ks ys) (q : Bool) (hq : q = true ↔ xs = ys) (h : wpList P ops Q rest (a.put o.dst (.bool (!q))) w) : wpList P ops Q (o :: rest) a w := by
  refine wpList_want hw fun K hK => ?_
  unfold Oper.wp execOp
  simp only [ho, hx, hy, Sem.run_bind, Sem.run_pure, Result.andThen_ok, run_eqGuard_flat .neq x y _ _ hm, run_neq_flat hf hn ha fx fy hq]
  exact hK _ _ h
end
end Go.Proofs.YtodlehkfadnchaaGreatDoor

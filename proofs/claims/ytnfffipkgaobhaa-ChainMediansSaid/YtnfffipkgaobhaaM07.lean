/-
  A Hasher takes a piece of bytes: (*Hasher).Write. Conditions: the Hasher has taken l; the bytes lie in no cell of its own; there are not too many.
  A new Hasher; the bytes of a digest. Condition: the table of the first words reads as it was laid.
-/
import Derived.Test.YtnfffipkgaobhaaM05
import Derived.Test.YtnfffipkgaobhaaM06
namespace Go.Proofs.Ytnfffipkgaobhaa
set_option linter.unusedSimpArgs false
set_option linter.unusedVariables false
open Go.RowKit
set_option maxRecDepth 100000

theorem info_u64' : (Try.prog.info? 25).map (·.size) = some 1 := by kernel_rfl
theorem info_int' : (Try.prog.info? 3).map (·.size) = some 1 := by kernel_rfl
theorem info_su8 : (Try.prog.info? 5).map (·.size) = some 1 := by kernel_rfl
theorem grown_drew {w w' : World} {r : Option Nat} (h : w.grownBy w' r) : w.grownBy w'.drew r := ⟨h.os, h.tape, h.output, h.size, h.block⟩
theorem bv_take {rem x : List UInt8} {q j : Nat} {u : Value} (h : rem.take q = x) (hu : (bv x)[j]? = some u) : (bv rem)[j]? = some u := by
  have e : bv x = (bv rem).take q := by rw [← h]; simp [bv, List.map_take]
  rw [e, List.getElem?_take] at hu
  split at hu
  · exact hu
  · cases hu
section
variable {P : Program} {ops : Array Oper} {o : Oper} {a : Act} {w : World} {K : Act → World → Prop} {Q : Exit → Act → World → Prop} {E : Prop}
theorem step_load_part (hgd : o.guard = none) (ty : TypeId) (x : Operand) (ho : o.op = .load ty x)
    (g off n : Nat) (hx : a.eval x = .pointer (some ⟨g, off, none⟩)) (cs : Array Value) (t : TypeId) (d : TypeDesc) (hk : Bk w g cs t) (hu : P.underlying ty = some d) (hd : aggD d = true) (hi : (P.info? ty).map (·.size) = some n) (hn : off + n ≤ cs.size)
    (v : Array Value) (hv : cs.extract off (off + n) = v) (h : K (a.put o.dst (.agg v)) w) : if Region.wanted o (yielded ops a.tmps) = true then Oper.wp P o a w K Q else E := by
  rw [if_pos (by simp [Region.wanted, hgd])]
  unfold Oper.wp execOp
  simp only [ho, hx, Instr.loadAt, Instr.sureAddr, Sem.run_bind, Sem.run_pure, Result.andThen_ok, run_loadVar_part hk hu hd hi hn, hv]
  exact h
theorem step_store_part (hgd : o.guard = none) (ty : TypeId) (x y : Operand) (ho : o.op = .store ty x y)
    (g off : Nat) (hx : a.eval x = .pointer (some ⟨g, off, none⟩)) (v : Value) (hy : a.eval y = v) (cs : Array Value) (t : TypeId) (hk : Bk w g cs t) (hi : (P.info? ty).map (·.size) = some v.cells.size) (hn : off + v.cells.size ≤ cs.size) (h1 : ∀ u ∈ v.cells.toList, u.oneCell' = true)
    (h : ∀ w', Bk w' g (splice cs off v.cells.toList) t → w.grownBy w' (some g) → w'.heap.size = w.heap.size → K (a.put o.dst undef) w') : if Region.wanted o (yielded ops a.tmps) = true then Oper.wp P o a w K Q else E := by
  rw [if_pos (by simp [Region.wanted, hgd])]
  unfold Oper.wp execOp
  simp only [ho, hx, hy, Instr.storeAt, Instr.sureAddr, Sem.run_bind, Sem.run_pure, Result.andThen_ok, run_storeVar_part hk hi hn h1]
  exact h _ (setRow_heap w g cs _ t _ hk) ⟨rfl, rfl, rfl, by simp, fun k _ hne => setRow_other w g k _ (fun e => hne (by rw [e]))⟩ (by simp)
end
theorem step_enter {P : Program} {ops : Array Oper} {o : Oper} {a : Act} {w : World} {K : Act → World → Prop} {Q : Exit → Act → World → Prop} {E : Prop} (hgd : o.guard = none) {f : FuncId} {vs : Array Value} {post : Ending → World → Prop}
    (hrun : (execOp a.eval o).run P w = .ok (.enter f vs) w) (hc : Calls P f vs w post) (hK : ∀ e w', post e w' → ∃ v, e = .returned v ∧ K (a.put o.dst v) w') :
    if Region.wanted o (yielded ops a.tmps) = true then Oper.wp P o a w K Q else E := by
  have hw : Region.wanted o (yielded ops a.tmps) = true := by simp [Region.wanted, hgd]
  rw [if_pos hw]
  unfold Oper.wp
  rw [hrun]
  refine Calls.mono hc fun e w' he => ?_
  obtain ⟨v, rfl, hv⟩ := hK e w' he
  exact hv
theorem ite_or {c' q : Nat} {ad : Addr} : (c' = q ∧ (if c' = q then ad else ad.add q) = ad) ∨ (c' ≠ q ∧ (if c' = q then ad else ad.add q) = ad.add q) := by
  by_cases h : c' = q
  · exact .inl ⟨h, if_pos h⟩
  · exact .inr ⟨h, if_neg h⟩
theorem drop_rd {w : World} {ad : Addr} {rem : List UInt8} {q : Nat} (h : Rd w (some ad) (bv rem)) : Rd w (some (ad.add q)) (bv (rem.drop q)) := fun j u hu => by
  rw [bv, List.map_drop, List.getElem?_drop] at hu
  obtain ⟨_, h1, h2⟩ := h (q + j) u hu
  injection h1 with h1
  subst h1
  refine ⟨_, rfl, ?_⟩
  rw [← h2]
  congr 1
  unfold Addr.add
  split <;> split <;> simp_all <;> omega
end Go.Proofs.Ytnfffipkgaobhaa
namespace Go.Proofs.Ytnfffipkgaobhaa
set_option linter.unusedSimpArgs false
set_option linter.unusedVariables false
open Go.RowKit
set_option maxRecDepth 100000

section
variable {P : Program}
theorem wpList_buildv {ops : Array Oper} {rest : List Oper} {o : Oper} {a : Act} {w : World} {Q : Exit → Act → World → Prop} (hw : Region.wanted o (yielded ops a.tmps) = true) (t : TypeId) (ps : List (Nat × Operand)) (ho : o.op = .build t ps.toArray)
    (vs : List (Nat × Value)) (hv : ps.map (fun p => (p.1, a.eval p.2)) = vs) (cells : Array Value) (hb : P.built t vs = some cells) (h : wpList P ops Q rest (a.put o.dst (.agg cells)) w) : wpList P ops Q (o :: rest) a w := by
  refine wpList_want hw fun K hK => ?_
  have hv2 : ps.toArray.map (fun (i, x) => (i, a.eval x)) = vs.toArray := by rw [← hv, List.map_toArray]
  unfold Oper.wp execOp
  simp only [ho, Sem.run_bind, Sem.run_pure, hv2, run_build w t vs.toArray cells (by simpa using hb), Result.andThen_ok]
  exact hK _ _ h
/-- cells read whole, off whatever address -/
theorem wpList_load_cells {ops : Array Oper} {rest : List Oper} {o : Oper} {a : Act} {w : World} {Q : Exit → Act → World → Prop} (hw : Region.wanted o (yielded ops a.tmps) = true) (ty : TypeId) (x : Operand) (ho : o.op = .load ty x)
    (g n : Nat) (hx : a.eval x = .pointer (some ⟨g, 0, none⟩)) (vs : List Value) (hc : ∀ j v, vs[j]? = some v → w.cell? ⟨g, j, none⟩ = some v) (d : TypeDesc) (hu : P.underlying ty = some d) (hd : aggD d = true) (hi : (P.info? ty).map (·.size) = some n) (hn : vs.length = n)
    (h : wpList P ops Q rest (a.put o.dst (.agg vs.toArray)) w) : wpList P ops Q (o :: rest) a w := by
  refine wpList_want hw fun K hK => ?_
  have hl : (loadCells ⟨g, 0, none⟩ vs.length).run P w = .ok vs.toArray w :=
    run_loadCells_list (P := P) w ⟨g, 0, none⟩ vs (fun j v hv => by rw [addr_add, Nat.zero_add]; exact hc j v hv)
  rw [hn] at hl
  have hagg : (isAgg ty).run P w = .ok true w := by
    rw [run_isAgg hu w]
    congr 1
    unfold isAggT
    rw [hu]
    cases d <;> simp [aggD] at hd ⊢
  have hlv : (loadVar ty ⟨g, 0, none⟩).run P w = .ok (.agg vs.toArray) w := by
    simp [loadVar, Sem.run_bind, hagg, run_sizeOf' hi, hl]
  unfold Oper.wp execOp
  simp only [ho, hx, Instr.loadAt, Instr.sureAddr, Sem.run_bind, Sem.run_pure, Result.andThen_ok, hlv]
  exact hK _ _ h
end
def zer (n : Nat) : List UInt8 := List.replicate n 0
def Begins (w : World) (G : Nat) : Prop := ∀ j v, (uv begin256.list)[j]? = some v → w.cell? ⟨G, j, none⟩ = some v
theorem Begins.at_ {w : World} {G : Nat} (h : Begins w G) : ∀ j v, (uv begin256.list)[j]? = some v → w.cell? ⟨G, j, none⟩ = some v := h
theorem Begins.below {w w' : World} {G : Nat} (h : Begins w G) (hb : Below w.heap.size w w') (hg : G < w.heap.size) : Begins w' G := fun j v hv => (hb.cell (p := ⟨G, j, none⟩) hg).trans (h j v hv)
/-! the bytes of a digest -/
theorem bytes_at (s : S8) : ∀ i k, i < 8 → k < 4 → s.bytes.getD (4 * i + k) 0 = (bytes4 (s.list.getD i 0)).getD k 0
  | 0, 0, _, _ => rfl
  | 0, 1, _, _ => rfl
  | 0, 2, _, _ => rfl
  | 0, 3, _, _ => rfl
  | 1, 0, _, _ => rfl
  | 1, 1, _, _ => rfl
  | 1, 2, _, _ => rfl
  | 1, 3, _, _ => rfl
  | 2, 0, _, _ => rfl
  | 2, 1, _, _ => rfl
  | 2, 2, _, _ => rfl
  | 2, 3, _, _ => rfl
  | 3, 0, _, _ => rfl
  | 3, 1, _, _ => rfl
  | 3, 2, _, _ => rfl
  | 3, 3, _, _ => rfl
  | 4, 0, _, _ => rfl
  | 4, 1, _, _ => rfl
  | 4, 2, _, _ => rfl
  | 4, 3, _, _ => rfl
  | 5, 0, _, _ => rfl
  | 5, 1, _, _ => rfl
  | 5, 2, _, _ => rfl
  | 5, 3, _, _ => rfl
  | 6, 0, _, _ => rfl
  | 6, 1, _, _ => rfl
  | 6, 2, _, _ => rfl
  | 6, 3, _, _ => rfl
  | 7, 0, _, _ => rfl
  | 7, 1, _, _ => rfl
  | 7, 2, _, _ => rfl
  | 7, 3, _, _ => rfl
  | i + 8, _, h, _ => by omega
  | _, k + 4, _, h => by omega
theorem byte4_int (x : UInt32) : ∀ k : Nat, k < 4 → IntKind.u8.wrap (uI x / 2 ^ (24 - 8 * (k : Int)).toNat) = (((bytes4 x).getD k 0).toNat : Int)
  | 0, _ => by
    show IntKind.u8.wrap (uI x / 2 ^ 24) = (((x >>> 24).toUInt8).toNat : Int)
    rw [uI_shr x 24 (by decide), IntKind.wrap_u8]; unfold uI; simp
  | 1, _ => by
    show IntKind.u8.wrap (uI x / 2 ^ 16) = (((x >>> 16).toUInt8).toNat : Int)
    rw [uI_shr x 16 (by decide), IntKind.wrap_u8]; unfold uI; simp
  | 2, _ => by
    show IntKind.u8.wrap (uI x / 2 ^ 8) = (((x >>> 8).toUInt8).toNat : Int)
    rw [uI_shr x 8 (by decide), IntKind.wrap_u8]; unfold uI; simp
  | 3, _ => by
    show IntKind.u8.wrap (uI x / 2 ^ 0) = (x.toUInt8.toNat : Int)
    rw [IntKind.wrap_u8]; unfold uI; simp
  | k + 4, h => by omega
theorem tail8_int (n : Nat) (hn : n < 18446744073709551616) : ∀ k : Nat, k < 8 → IntKind.u8.wrap ((n : Int) / 2 ^ (56 - 8 * (k : Int)).toNat) = (((tail8 (UInt64.ofNat n)).getD k 0).toNat : Int)
  | 0, _ => by
    show IntKind.u8.wrap ((n : Int) / 2 ^ 56) = ((((UInt64.ofNat n) >>> 56).toUInt8).toNat : Int)
    rw [IntKind.wrap_u8]; simp [Nat.shiftRight_eq_div_pow, Nat.mod_eq_of_lt hn]
  | 1, _ => by
    show IntKind.u8.wrap ((n : Int) / 2 ^ 48) = ((((UInt64.ofNat n) >>> 48).toUInt8).toNat : Int)
    rw [IntKind.wrap_u8]; simp [Nat.shiftRight_eq_div_pow, Nat.mod_eq_of_lt hn]
  | 2, _ => by
    show IntKind.u8.wrap ((n : Int) / 2 ^ 40) = ((((UInt64.ofNat n) >>> 40).toUInt8).toNat : Int)
    rw [IntKind.wrap_u8]; simp [Nat.shiftRight_eq_div_pow, Nat.mod_eq_of_lt hn]
  | 3, _ => by
    show IntKind.u8.wrap ((n : Int) / 2 ^ 32) = ((((UInt64.ofNat n) >>> 32).toUInt8).toNat : Int)
    rw [IntKind.wrap_u8]; simp [Nat.shiftRight_eq_div_pow, Nat.mod_eq_of_lt hn]
  | 4, _ => by
    show IntKind.u8.wrap ((n : Int) / 2 ^ 24) = ((((UInt64.ofNat n) >>> 24).toUInt8).toNat : Int)
    rw [IntKind.wrap_u8]; simp [Nat.shiftRight_eq_div_pow, Nat.mod_eq_of_lt hn]
  | 5, _ => by
    show IntKind.u8.wrap ((n : Int) / 2 ^ 16) = ((((UInt64.ofNat n) >>> 16).toUInt8).toNat : Int)
    rw [IntKind.wrap_u8]; simp [Nat.shiftRight_eq_div_pow, Nat.mod_eq_of_lt hn]
  | 6, _ => by
    show IntKind.u8.wrap ((n : Int) / 2 ^ 8) = ((((UInt64.ofNat n) >>> 8).toUInt8).toNat : Int)
    rw [IntKind.wrap_u8]; simp [Nat.shiftRight_eq_div_pow, Nat.mod_eq_of_lt hn]
  | 7, _ => by
    show IntKind.u8.wrap ((n : Int) / 2 ^ 0) = (((UInt64.ofNat n).toUInt8).toNat : Int)
    rw [IntKind.wrap_u8]; simp [Nat.shiftRight_eq_div_pow, Nat.mod_eq_of_lt hn]
  | k + 8, h => by omega
theorem splice_bytes {l : List UInt8} {n : Nat} (k : Nat) (hl : l.length = n) (hk : k < n) : splice (bv (l.take k ++ zer (n - k))).toArray k [.int .u8 ((l.getD k 0).toNat : Int)] = (bv (l.take (k + 1) ++ zer (n - (k + 1)))).toArray := by
  unfold splice
  congr 1
  have e1 : (bv (l.take k ++ zer (n - k))).take k = bv (l.take k) := by
    rw [bv_append, List.take_append_of_le_length (by rw [bv_length]; simp; omega), List.take_of_length_le (by rw [bv_length]; simp; omega)]
  have e2 : (bv (l.take k ++ zer (n - k))).drop (k + 1) = bv (zer (n - (k + 1))) := by
    rw [bv_append, List.drop_append, List.drop_eq_nil_of_le (by rw [bv_length]; simp; omega), bv_length, List.nil_append]
    have e3 : k + 1 - (l.take k).length = 1 := by simp; omega
    rw [e3]
    unfold bv zer
    rw [← List.map_drop, List.drop_replicate]
    congr 2
  rw [List.toList_toArray, e1]
  simp only [List.length_cons, List.length_nil, Nat.zero_add, e2]
  rw [List.take_succ_eq_append_getElem (by omega), bv_append, bv_append]
  have e4 : l.getD k 0 = l[k] := by rw [List.getD_eq_getElem?_getD, List.getElem?_eq_getElem (by omega)]; rfl
  rw [e4]
  simp [bv]
theorem bytes_size {l : List UInt8} {n k : Nat} (hl : l.length = n) (hk : k ≤ n) : (bv (l.take k ++ zer (n - k))).toArray.size = n := by
  simp [bv_length, zer]; omega
end Go.Proofs.Ytnfffipkgaobhaa

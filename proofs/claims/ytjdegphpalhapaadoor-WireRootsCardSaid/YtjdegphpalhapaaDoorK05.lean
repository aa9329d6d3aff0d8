/-
  The turns of a 32-bit word: math/bits.RotateLeft32 at a negative count, the document's turn. No condition but that the word fits.
  More laws at single operations: a new variable under a name of its own. No condition: lemmas over any program.
  Results that lie in memory, read out at the return. No condition: lemmas over any program.
  Words of 32 bits kept as words: one operation at a time, inside a region that draws its order and outside one. No condition: lemmas over any program.
-/
import Derived.Test.YtjdegphpalhapaaDoorK04
import Derived.Test.YtjdegphpalhapaaDoorK01
import Derived.Test.YtjdegphpalhapaaDoorK02
namespace Go.Proofs.YtjdegphpalhapaaDoor
set_option linter.unusedSimpArgs false
set_option linter.unusedVariables false
open Go.RowKit
set_option maxRecDepth 100000

/-- a word as the model's number -/
def uI (x : UInt32) : Int := (x.toNat : Int)
theorem uI_range (x : UInt32) : 0 ≤ uI x ∧ uI x ≤ 4294967295 := by
  unfold uI; have := x.toNat_lt; omega
theorem uI_bv (x : UInt32) : BitVec.ofInt 32 (uI x) = x.toBitVec := by
  apply BitVec.eq_of_toNat_eq
  unfold uI
  simp
theorem uI_wrap (x : BitVec 32) : IntKind.u32.wrap (x.toNat : Int) = uI ⟨x⟩ := by
  have := x.isLt
  rw [IntKind.wrap_u32]; unfold uI; simp [UInt32.toNat]; omega
theorem uI_xor (x y : UInt32) : bits .xor .u32 (uI x) (uI y) = uI (x ^^^ y) := by
  unfold bits
  simp only [IntKind.bits, uI_bv]
  exact uI_wrap _
theorem uI_and (x y : UInt32) : bits .and .u32 (uI x) (uI y) = uI (x &&& y) := by
  unfold bits
  simp only [IntKind.bits, uI_bv]
  exact uI_wrap _
theorem uI_or (x y : UInt32) : bits .or .u32 (uI x) (uI y) = uI (x ||| y) := by
  unfold bits
  simp only [IntKind.bits, uI_bv]
  exact uI_wrap _
theorem uI_add (x y : UInt32) : IntKind.u32.wrap (uI x + uI y) = uI (x + y) := by
  rw [IntKind.wrap_u32]
  unfold uI
  simp
theorem uI_shr (x : UInt32) (n : Nat) (h : n < 32) : uI x / 2 ^ n = uI (x >>> UInt32.ofNat n) := by
  unfold uI
  simp only [UInt32.toNat_shiftRight, UInt32.toNat_ofNat']
  rw [Nat.mod_eq_of_lt (by omega : n < 2 ^ 32), Nat.mod_eq_of_lt h, Nat.shiftRight_eq_div_pow]
  norm_cast
theorem uI_shl (x : UInt32) (n : Nat) (h : n < 32) : IntKind.u32.wrap (uI x * 2 ^ n) = uI (x <<< UInt32.ofNat n) := by
  rw [IntKind.wrap_u32]
  unfold uI
  simp only [UInt32.toNat_shiftLeft, UInt32.toNat_ofNat']
  rw [Nat.mod_eq_of_lt (by omega : n < 2 ^ 32), Nat.mod_eq_of_lt h, Nat.shiftLeft_eq]
  have e : (x.toNat : Int) * 2 ^ n = ((x.toNat * 2 ^ n : Nat) : Int) := by simp
  rw [e]
  generalize x.toNat * 2 ^ n = k
  omega
theorem ret_u32 {a b : Int} (h : a = b) : Ending.returned (.int .u32 a) = .returned (.int .u32 b) := by rw [h]
theorem bor_comm (a b : Int) : bits .or .u32 a b = bits .or .u32 b a := by
  unfold bits
  simp only [BitVec.or_comm]
def rotI (x : Int) (n : Nat) : Int := bits .or .u32 (x / 2 ^ n) (IntKind.u32.wrap (x * 2 ^ (32 - n)))
theorem rotI_of (x : UInt32) (n : Nat) (h0 : 0 < n) (h : n < 32) : rotI (uI x) n = uI (rotr x (UInt32.ofNat n)) := by
  unfold rotI rotr
  rw [uI_shr x n h, uI_shl x (32 - n) (by omega), uI_or]
  congr 3
  apply UInt32.toNat_inj.1
  rw [UInt32.toNat_sub_of_le]
  · simp; omega
  · rw [UInt32.le_iff_toNat_le]; simp; omega
set_option maxHeartbeats 400000 in
theorem rot2 (w : World) (x : Int) :
    Calls Tryd.prog 121 #[.int .u32 x, .int .i64 (-2)] w fun e w' => e = .returned (.int .u32 (rotI x 2)) ∧ w = w' := by
  have hs : bits BinOp.and IntKind.u64 (IntKind.u64.wrap (-2)) 31 = 30 := by kernel_rfl
  go_enter Tryd.func121, Tryd.ntmps121
  go_wp2
  go_ret
  exact ⟨ret_u32 (bor_comm _ _), rfl⟩
set_option maxHeartbeats 400000 in
theorem turn2 (w : World) (x : Int) :
    Calls Tryd.prog 90 #[.int .u32 x, .int .u64 2] w fun e w' => e = .returned (.int .u32 (rotI x 2)) ∧ w = w' := by
  go_enter Tryd.func90, Tryd.ntmps90
  go_wp2
  go_ret
  exact ⟨rfl, rfl⟩
set_option maxHeartbeats 400000 in
theorem rot6 (w : World) (x : Int) :
    Calls Tryd.prog 121 #[.int .u32 x, .int .i64 (-6)] w fun e w' => e = .returned (.int .u32 (rotI x 6)) ∧ w = w' := by
  have hs : bits BinOp.and IntKind.u64 (IntKind.u64.wrap (-6)) 31 = 26 := by kernel_rfl
  go_enter Tryd.func121, Tryd.ntmps121
  go_wp2
  go_ret
  exact ⟨ret_u32 (bor_comm _ _), rfl⟩
set_option maxHeartbeats 400000 in
theorem turn6 (w : World) (x : Int) :
    Calls Tryd.prog 90 #[.int .u32 x, .int .u64 6] w fun e w' => e = .returned (.int .u32 (rotI x 6)) ∧ w = w' := by
  go_enter Tryd.func90, Tryd.ntmps90
  go_wp2
  go_ret
  exact ⟨rfl, rfl⟩
set_option maxHeartbeats 400000 in
theorem rot7 (w : World) (x : Int) :
    Calls Tryd.prog 121 #[.int .u32 x, .int .i64 (-7)] w fun e w' => e = .returned (.int .u32 (rotI x 7)) ∧ w = w' := by
  have hs : bits BinOp.and IntKind.u64 (IntKind.u64.wrap (-7)) 31 = 25 := by kernel_rfl
  go_enter Tryd.func121, Tryd.ntmps121
  go_wp2
  go_ret
  exact ⟨ret_u32 (bor_comm _ _), rfl⟩
set_option maxHeartbeats 400000 in
theorem turn7 (w : World) (x : Int) :
    Calls Tryd.prog 90 #[.int .u32 x, .int .u64 7] w fun e w' => e = .returned (.int .u32 (rotI x 7)) ∧ w = w' := by
  go_enter Tryd.func90, Tryd.ntmps90
  go_wp2
  go_ret
  exact ⟨rfl, rfl⟩
set_option maxHeartbeats 400000 in
theorem rot11 (w : World) (x : Int) :
    Calls Tryd.prog 121 #[.int .u32 x, .int .i64 (-11)] w fun e w' => e = .returned (.int .u32 (rotI x 11)) ∧ w = w' := by
  have hs : bits BinOp.and IntKind.u64 (IntKind.u64.wrap (-11)) 31 = 21 := by kernel_rfl
  go_enter Tryd.func121, Tryd.ntmps121
  go_wp2
  go_ret
  exact ⟨ret_u32 (bor_comm _ _), rfl⟩
set_option maxHeartbeats 400000 in
theorem turn11 (w : World) (x : Int) :
    Calls Tryd.prog 90 #[.int .u32 x, .int .u64 11] w fun e w' => e = .returned (.int .u32 (rotI x 11)) ∧ w = w' := by
  go_enter Tryd.func90, Tryd.ntmps90
  go_wp2
  go_ret
  exact ⟨rfl, rfl⟩
set_option maxHeartbeats 400000 in
theorem rot13 (w : World) (x : Int) :
    Calls Tryd.prog 121 #[.int .u32 x, .int .i64 (-13)] w fun e w' => e = .returned (.int .u32 (rotI x 13)) ∧ w = w' := by
  have hs : bits BinOp.and IntKind.u64 (IntKind.u64.wrap (-13)) 31 = 19 := by kernel_rfl
  go_enter Tryd.func121, Tryd.ntmps121
  go_wp2
  go_ret
  exact ⟨ret_u32 (bor_comm _ _), rfl⟩
set_option maxHeartbeats 400000 in
theorem turn13 (w : World) (x : Int) :
    Calls Tryd.prog 90 #[.int .u32 x, .int .u64 13] w fun e w' => e = .returned (.int .u32 (rotI x 13)) ∧ w = w' := by
  go_enter Tryd.func90, Tryd.ntmps90
  go_wp2
  go_ret
  exact ⟨rfl, rfl⟩
set_option maxHeartbeats 400000 in
theorem rot17 (w : World) (x : Int) :
    Calls Tryd.prog 121 #[.int .u32 x, .int .i64 (-17)] w fun e w' => e = .returned (.int .u32 (rotI x 17)) ∧ w = w' := by
  have hs : bits BinOp.and IntKind.u64 (IntKind.u64.wrap (-17)) 31 = 15 := by kernel_rfl
  go_enter Tryd.func121, Tryd.ntmps121
  go_wp2
  go_ret
  exact ⟨ret_u32 (bor_comm _ _), rfl⟩
set_option maxHeartbeats 400000 in
theorem turn17 (w : World) (x : Int) :
    Calls Tryd.prog 90 #[.int .u32 x, .int .u64 17] w fun e w' => e = .returned (.int .u32 (rotI x 17)) ∧ w = w' := by
  go_enter Tryd.func90, Tryd.ntmps90
  go_wp2
  go_ret
  exact ⟨rfl, rfl⟩
set_option maxHeartbeats 400000 in
theorem rot18 (w : World) (x : Int) :
    Calls Tryd.prog 121 #[.int .u32 x, .int .i64 (-18)] w fun e w' => e = .returned (.int .u32 (rotI x 18)) ∧ w = w' := by
  have hs : bits BinOp.and IntKind.u64 (IntKind.u64.wrap (-18)) 31 = 14 := by kernel_rfl
  go_enter Tryd.func121, Tryd.ntmps121
  go_wp2
  go_ret
  exact ⟨ret_u32 (bor_comm _ _), rfl⟩
set_option maxHeartbeats 400000 in
theorem turn18 (w : World) (x : Int) :
    Calls Tryd.prog 90 #[.int .u32 x, .int .u64 18] w fun e w' => e = .returned (.int .u32 (rotI x 18)) ∧ w = w' := by
  go_enter Tryd.func90, Tryd.ntmps90
  go_wp2
  go_ret
  exact ⟨rfl, rfl⟩
set_option maxHeartbeats 400000 in
theorem rot19 (w : World) (x : Int) :
    Calls Tryd.prog 121 #[.int .u32 x, .int .i64 (-19)] w fun e w' => e = .returned (.int .u32 (rotI x 19)) ∧ w = w' := by
  have hs : bits BinOp.and IntKind.u64 (IntKind.u64.wrap (-19)) 31 = 13 := by kernel_rfl
  go_enter Tryd.func121, Tryd.ntmps121
  go_wp2
  go_ret
  exact ⟨ret_u32 (bor_comm _ _), rfl⟩
set_option maxHeartbeats 400000 in
theorem turn19 (w : World) (x : Int) :
    Calls Tryd.prog 90 #[.int .u32 x, .int .u64 19] w fun e w' => e = .returned (.int .u32 (rotI x 19)) ∧ w = w' := by
  go_enter Tryd.func90, Tryd.ntmps90
  go_wp2
  go_ret
  exact ⟨rfl, rfl⟩
set_option maxHeartbeats 400000 in
theorem rot22 (w : World) (x : Int) :
    Calls Tryd.prog 121 #[.int .u32 x, .int .i64 (-22)] w fun e w' => e = .returned (.int .u32 (rotI x 22)) ∧ w = w' := by
  have hs : bits BinOp.and IntKind.u64 (IntKind.u64.wrap (-22)) 31 = 10 := by kernel_rfl
  go_enter Tryd.func121, Tryd.ntmps121
  go_wp2
  go_ret
  exact ⟨ret_u32 (bor_comm _ _), rfl⟩
set_option maxHeartbeats 400000 in
theorem turn22 (w : World) (x : Int) :
    Calls Tryd.prog 90 #[.int .u32 x, .int .u64 22] w fun e w' => e = .returned (.int .u32 (rotI x 22)) ∧ w = w' := by
  go_enter Tryd.func90, Tryd.ntmps90
  go_wp2
  go_ret
  exact ⟨rfl, rfl⟩
set_option maxHeartbeats 400000 in
theorem rot25 (w : World) (x : Int) :
    Calls Tryd.prog 121 #[.int .u32 x, .int .i64 (-25)] w fun e w' => e = .returned (.int .u32 (rotI x 25)) ∧ w = w' := by
  have hs : bits BinOp.and IntKind.u64 (IntKind.u64.wrap (-25)) 31 = 7 := by kernel_rfl
  go_enter Tryd.func121, Tryd.ntmps121
  go_wp2
  go_ret
  exact ⟨ret_u32 (bor_comm _ _), rfl⟩
set_option maxHeartbeats 400000 in
theorem turn25 (w : World) (x : Int) :
    Calls Tryd.prog 90 #[.int .u32 x, .int .u64 25] w fun e w' => e = .returned (.int .u32 (rotI x 25)) ∧ w = w' := by
  go_enter Tryd.func90, Tryd.ntmps90
  go_wp2
  go_ret
  exact ⟨rfl, rfl⟩
def rotList : List Int := [-2, -6, -7, -11, -13, -17, -18, -19, -22, -25]
theorem rot_any (w : World) (x k : Int) (hk : k ∈ rotList) :
    Calls Tryd.prog 121 #[.int .u32 x, .int .i64 k] w fun e w' => e = .returned (.int .u32 (rotI x k.natAbs)) ∧ w = w' := by
  simp only [rotList, List.mem_cons, List.mem_nil_iff, or_false] at hk
  rcases hk with rfl | rfl | rfl | rfl | rfl | rfl | rfl | rfl | rfl | rfl
  · exact rot2 w x
  · exact rot6 w x
  · exact rot7 w x
  · exact rot11 w x
  · exact rot13 w x
  · exact rot17 w x
  · exact rot18 w x
  · exact rot19 w x
  · exact rot22 w x
  · exact rot25 w x
def turnList : List Int := [2, 6, 7, 11, 13, 17, 18, 19, 22, 25]
theorem turnI_any (w : World) (x k : Int) (hk : k ∈ turnList) :
    Calls Tryd.prog 90 #[.int .u32 x, .int .u64 k] w fun e w' => e = .returned (.int .u32 (rotI x k.natAbs)) ∧ w = w' := by
  simp only [turnList, List.mem_cons, List.mem_nil_iff, or_false] at hk
  rcases hk with rfl | rfl | rfl | rfl | rfl | rfl | rfl | rfl | rfl | rfl
  · exact turn2 w x
  · exact turn6 w x
  · exact turn7 w x
  · exact turn11 w x
  · exact turn13 w x
  · exact turn17 w x
  · exact turn18 w x
  · exact turn19 w x
  · exact turn22 w x
  · exact turn25 w x
end Go.Proofs.YtjdegphpalhapaaDoor
namespace Go.Proofs.YtjdegphpalhapaaDoor
set_option linter.unusedSimpArgs false
set_option linter.unusedVariables false
open Go.RowKit

section
variable {P : Program}
theorem run_zero {t : TypeId} {z : Value} (hz : (P.info? t).bind (·.zero) = some z) (w : World) : (zeroValue t).run P w = .ok z w := by
  cases hq : P.info? t with
  | none => simp [hq] at hz
  | some i =>
    simp [hq] at hz
    simp [zeroValue, typeInfo, hq, hz]
/-- a new variable, zero -/
theorem wpList_alloc_bk {ops : Array Oper} {rest : List Oper} {o : Oper} {a : Act} {w : World} {Q : Exit → Act → World → Prop} (hgd : o.guard = none) (t : TypeId) (ho : o.op = .alloc t) (z : Value) (hz : (P.info? t).bind (·.zero) = some z)
    (h : ∀ g w', Bk w' g z.cells t → Below w.heap.size w w' → w.heap.size = g → w'.heap.size = g + 1 → wpList P ops Q rest (a.put o.dst (.pointer (some ⟨g, 0, none⟩))) w') : wpList P ops Q (o :: rest) a w := by
  refine wpList_plain hgd fun K hK => ?_
  unfold Oper.wp execOp
  simp only [ho, Instr.alloc, run_zero hz, newVar, newRow, newObj, Sem.run_bind, Sem.run_pure, Result.andThen_ok]
  refine hK _ _ (h w.heap.size (w.alloc (.cells z.cells t)) (Bk.new w t _) ((Below.refl _ _).alloc (Nat.le_refl _) _) rfl (by simp))
end
end Go.Proofs.YtjdegphpalhapaaDoor
namespace Go.Proofs.YtjdegphpalhapaaDoor
set_option linter.unusedSimpArgs false
set_option linter.unusedVariables false
open Go.RowKit

section
variable {P : Program}
theorem run_results_cell {fn : Func} {a t : Nat} {tmps : Array Value} {ad : Addr} {v : Value} {w : World} (hr : fn.results = #[.cell a t]) (ht : tmps.getD a undef = .pointer (some ad)) (hl : (loadVar t ad).run P w = .ok v w) :
    (results fn tmps).run P w = .ok v w := by
  simp only [Array.getD_eq_getD_getElem?] at ht
  simp [results, hr, ht, hl, asAddr, Sem.run_bind, Sem.run_pure]
theorem run_results_tct {fn : Func} {a b c t : Nat} {tmps : Array Value} {ad : Addr} {u v x : Value} {w : World} (hr : fn.results = #[.tmp a, .cell b t, .tmp c]) (ha : tmps.getD a undef = u) (ht : tmps.getD b undef = .pointer (some ad)) (hc : tmps.getD c undef = x) (hl : (loadVar t ad).run P w = .ok v w) :
    (results fn tmps).run P w = .ok (.tuple #[u, v, x]) w := by
  simp only [Array.getD_eq_getD_getElem?] at ha ht hc
  simp [results, hr, ha, ht, hc, hl, asAddr, Sem.run_bind, Sem.run_pure]
theorem bodyPost_cell {fn : Func} {R : Ending → World → Prop} {act : Act} {w : World} {a t n g : Nat} {cs : Array Value} {bt : TypeId} {d : TypeDesc} (hr : fn.results = #[.cell a t]) (ht : act.tmps.getD a undef = .pointer (some ⟨g, 0, none⟩)) (hk : Bk w g cs bt) (hu : P.underlying t = some d) (hda : aggD d = true) (hi : (P.info? t).map (·.size) = some n) (hn : n = cs.size) (hd : act.defers = []) (hR : R (.returned (.agg cs)) w) : bodyPost P fn R .ret act w := by
  have hl := run_loadVar_part (P := P) (off := 0) hk hu hda hi (by omega)
  have e : cs.extract 0 (0 + n) = cs := by subst hn; simp
  rw [e] at hl
  exact bodyPost_ret (run_results_cell hr ht hl) hd hR
theorem bodyPost_tct {fn : Func} {R : Ending → World → Prop} {act : Act} {w : World} {a b c t n g : Nat} {u x : Value} {cs : Array Value} {bt : TypeId} {d : TypeDesc} (hr : fn.results = #[.tmp a, .cell b t, .tmp c]) (ha : act.tmps.getD a undef = u) (ht : act.tmps.getD b undef = .pointer (some ⟨g, 0, none⟩)) (hc : act.tmps.getD c undef = x) (hk : Bk w g cs bt) (hu : P.underlying t = some d) (hda : aggD d = true) (hi : (P.info? t).map (·.size) = some n) (hn : n = cs.size) (hd : act.defers = []) (hR : R (.returned (.tuple #[u, .agg cs, x])) w) : bodyPost P fn R .ret act w := by
  have hl := run_loadVar_part (P := P) (off := 0) hk hu hda hi (by omega)
  have e : cs.extract 0 (0 + n) = cs := by subst hn; simp
  rw [e] at hl
  exact bodyPost_ret (run_results_tct hr ha ht hc hl) hd hR
/-- a variable written whole -/
theorem wpList_store_bk {ops : Array Oper} {rest : List Oper} {o : Oper} {a : Act} {w : World} {Q : Exit → Act → World → Prop} (hw : Region.wanted o (yielded ops a.tmps) = true) (ty : TypeId) (x y : Operand) (ho : o.op = .store ty x y)
    (g : Nat) (hx : a.eval x = .pointer (some ⟨g, 0, none⟩)) (v : Value) (hy : a.eval y = v) (cs : Array Value) (t : TypeId) (hk : Bk w g cs t) (hi : (P.info? ty).map (·.size) = some v.cells.size) (hn : v.cells.size = cs.size) (h1 : ∀ u ∈ v.cells.toList, u.oneCell' = true)
    (h : ∀ w', Bk w' g v.cells t → w.grownBy w' (some g) → w'.heap.size = w.heap.size → wpList P ops Q rest (a.put o.dst undef) w') : wpList P ops Q (o :: rest) a w := by
  refine wpList_store_part hw ty x y ho g 0 hx v hy cs t hk hi (by omega) h1 fun w' hk' hg hs => h w' ?_ hg hs
  have e : splice cs 0 v.cells.toList = v.cells := by
    apply Array.ext'
    simp [splice, hn]
  rw [e] at hk'
  exact hk'
end
end Go.Proofs.YtjdegphpalhapaaDoor
namespace Go.Proofs.YtjdegphpalhapaaDoor
set_option linter.unusedSimpArgs false
set_option linter.unusedVariables false
open Go.RowKit
set_option maxRecDepth 100000

section
variable {P : Program} {ρ : Operand → Value} {o : Oper} {ty ty' : TypeId} {x y : Operand} {p q : UInt32}
theorem exec_add (ho : o.op = .binOp .add ty x y ty') (hx : ρ x = .int .u32 (uI p)) (hy : ρ y = .int .u32 (uI q)) (w : World) : (execOp ρ o).run P w = .ok (.value (.int .u32 (uI (p + q)))) w := by
  unfold execOp
  simp only [ho, hx, hy]
  simp [go_sem, uI_add]
theorem exec_xor (ho : o.op = .binOp .xor ty x y ty') (hx : ρ x = .int .u32 (uI p)) (hy : ρ y = .int .u32 (uI q)) (w : World) : (execOp ρ o).run P w = .ok (.value (.int .u32 (uI (p ^^^ q)))) w := by
  unfold execOp
  simp only [ho, hx, hy]
  simp [go_sem, uI_xor]
theorem exec_and (ho : o.op = .binOp .and ty x y ty') (hx : ρ x = .int .u32 (uI p)) (hy : ρ y = .int .u32 (uI q)) (w : World) : (execOp ρ o).run P w = .ok (.value (.int .u32 (uI (p &&& q)))) w := by
  unfold execOp
  simp only [ho, hx, hy]
  simp [go_sem, uI_and]
theorem exec_or (ho : o.op = .binOp .or ty x y ty') (hx : ρ x = .int .u32 (uI p)) (hy : ρ y = .int .u32 (uI q)) (w : World) : (execOp ρ o).run P w = .ok (.value (.int .u32 (uI (p ||| q)))) w := by
  unfold execOp
  simp only [ho, hx, hy]
  simp [go_sem, uI_or]
theorem uI_not (p : UInt32) : bits .xor .u32 (if IntKind.u32.signed = true then -1 else IntKind.u32.max) (uI p) = uI (~~~p) := by
  have e : (if IntKind.u32.signed = true then -1 else IntKind.u32.max) = uI 0xffffffff := by decide
  rw [e, uI_xor]
  have e2 : (0xffffffff : UInt32) ^^^ p = ~~~p := by
    apply UInt32.toBitVec_inj.1
    show (BitVec.allOnes 32) ^^^ p.toBitVec = ~~~p.toBitVec
    exact BitVec.allOnes_xor
  rw [e2]
theorem exec_not (ho : o.op = .unOp .xor ty x) (hx : ρ x = .int .u32 (uI p)) (w : World) : (execOp ρ o).run P w = .ok (.value (.int .u32 (uI (~~~p)))) w := by
  unfold execOp
  simp only [ho, hx]
  simp [go_sem, uI_not]
theorem exec_shr3 (ho : o.op = .binOp .shr ty x (.const (.int .u64 3)) ty') (hx : ρ x = .int .u32 (uI p)) (hc : ∀ v, ρ (.const v) = v) (w : World) : (execOp ρ o).run P w = .ok (.value (.int .u32 (uI (p >>> 3)))) w := by
  have e := uI_shr p 3 (by decide)
  unfold execOp
  simp only [ho, hx, hc]
  simp [go_sem]
  exact e
theorem exec_shr10 (ho : o.op = .binOp .shr ty x (.const (.int .u64 10)) ty') (hx : ρ x = .int .u32 (uI p)) (hc : ∀ v, ρ (.const v) = v) (w : World) : (execOp ρ o).run P w = .ok (.value (.int .u32 (uI (p >>> 10)))) w := by
  have e := uI_shr p 10 (by decide)
  unfold execOp
  simp only [ho, hx, hc]
  simp [go_sem]
  exact e
end
section
variable {P : Program} {ops : Array Oper} {C : World → Prop} {o : Oper} {a : Act} {K : Act → Prop} {w : World} {Q : Exit → Act → World → Prop} {rest : List Oper}
theorem quiet_exec (hw : Region.wanted o (yielded ops a.tmps) = true) {v : Value} (hr : ∀ w, (execOp a.eval o).run P w = .ok (.value v) w) (h : K (a.put o.dst v)) :
    if Region.wanted o (yielded ops a.tmps) then o.quiet P a C K else K (a.put o.dst undef) := by
  rw [if_pos hw]
  exact ⟨v, fun w _ => by unfold Oper.quietAt; rw [hr]; exact ⟨rfl, rfl⟩, h⟩
theorem wpList_exec (hw : Region.wanted o (yielded ops a.tmps) = true) {v : Value} (hr : ∀ w, (execOp a.eval o).run P w = .ok (.value v) w) (h : wpList P ops Q rest (a.put o.dst v) w) : wpList P ops Q (o :: rest) a w := by
  refine wpList_want hw fun K hK => ?_
  unfold Oper.wp
  rw [hr]
  exact hK _ _ h
end
theorem rotU (w : World) (x : UInt32) (k : Int) (hk : k ∈ rotList) :
    Calls Tryd.prog 121 #[.int .u32 (uI x), .int .i64 k] w fun e w' => e = .returned (.int .u32 (uI (rotr x (UInt32.ofNat k.natAbs)))) ∧ w = w' := by
  have h := rot_any w (uI x) k hk
  have e : rotI (uI x) k.natAbs = uI (rotr x (UInt32.ofNat k.natAbs)) := by
    simp only [rotList, List.mem_cons, List.mem_nil_iff, or_false] at hk
    rcases hk with rfl | rfl | rfl | rfl | rfl | rfl | rfl | rfl | rfl | rfl <;> exact rotI_of x _ (by decide) (by decide)
  rw [e] at h
  exact h
theorem turnU (w : World) (x : UInt32) (k : Int) (hk : k ∈ turnList) :
    Calls Tryd.prog 90 #[.int .u32 (uI x), .int .u64 k] w fun e w' => e = .returned (.int .u32 (uI (rotr x (UInt32.ofNat k.natAbs)))) ∧ w = w' := by
  have h := turnI_any w (uI x) k hk
  have e : rotI (uI x) k.natAbs = uI (rotr x (UInt32.ofNat k.natAbs)) := by
    simp only [turnList, List.mem_cons, List.mem_nil_iff, or_false] at hk
    rcases hk with rfl | rfl | rfl | rfl | rfl | rfl | rfl | rfl | rfl | rfl <;> exact rotI_of x _ (by decide) (by decide)
  rw [e] at h
  exact h
end Go.Proofs.YtjdegphpalhapaaDoor

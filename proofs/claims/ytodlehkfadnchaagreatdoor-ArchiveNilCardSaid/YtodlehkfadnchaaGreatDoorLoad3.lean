/-
  Results that lie in memory, read out at the return. No condition: lemmas over any program.
-/
import Derived.Test.YtodlehkfadnchaaGreatDoorLoad2
namespace Go.Proofs.YtodlehkfadnchaaGreatDoor
set_option linter.unusedSimpArgs false
set_option linter.unusedVariables false
open Go.RowKit

section
variable {P : Program}
theorem run_results_cell {fn : Func} {a t : Nat} {tmps : Array Value} {ad : Addr} {v : Value} {w : World} (hr : fn.results = #[.cell a t]) (ht : tmps.getD a undef = .pointer (some ad)) (hl : (loadVar t ad).run P w = .ok v w) :
    (results fn tmps).run P w = .ok v w := by
  simp only [Array.getD_eq_getD_getElem?] at ht
  simp [results, hr, ht, hl, asAddr, Sem.run_bind, Sem.run_pure]
theorem run_results_tct {fn : Func} {a b c t : Nat} {tmps : Array Value} {ad : Addr} {u v x : Value} {w : World} (hr : fn.results = #[.tmp a, .cell b t, .tmp c]) (ha : tmps.getD a undef = u) (ht : tmps.getD b undef = .pointer (some ad)) (hc : tmps.getD c undef = x) (hl : (loadVar t ad).run P w = .ok v w) :
    (results fn tmps).run P w = .ok (.tuple #[u, v, x]) w := by
  simp only [Array.getD_eq_getD_getElem?] at ha ht hc
  simp [results, hr, ha, ht, hc, hl, asAddr, Sem.run_bind, Sem.run_pure]
theorem bodyPost_cell {fn : Func} {R : Ending → World → Prop} {act : Act} {w : World} {a t n g : Nat} {cs : Array Value} {bt : TypeId} {d : TypeDesc} (hr : fn.results = #[.cell a t]) (ht : act.tmps.getD a undef = .pointer (some ⟨g, 0, none⟩)) (hk : Bk w g cs bt) (hu : P.underlying t = some d) (hda : aggD d = true) (hi : (P.info? t).map (·.size) = some n) (hn : n = cs.size) (hd : act.defers = []) (hR : R (.returned (.agg cs)) w) : bodyPost P fn R .ret act w := by
  have hl := run_loadVar_part (P := P) (off := 0) hk hu hda hi (by omega)
  have e : cs.extract 0 (0 + n) = cs := by subst hn; simp
  rw [e] at hl
  exact bodyPost_ret (run_results_cell hr ht hl) hd hR
theorem bodyPost_tct {fn : Func} {R : Ending → World → Prop} {act : Act} {w : World} {a b c t n g : Nat} {u x : Value} {cs : Array Value} {bt : TypeId} {d : TypeDesc} (hr : fn.results = #[.tmp a, .cell b t, .tmp c]) (ha : act.tmps.getD a undef = u) (ht : act.tmps.getD b undef = .pointer (some ⟨g, 0, none⟩)) (hc : act.tmps.getD c undef = x) (hk : Bk w g cs bt) (hu : P.underlying t = some d) (hda : aggD d = true) (hi : (P.info? t).map (·.size) = some n) (hn : n = cs.size) (hd : act.defers = []) (hR : R (.returned (.tuple #[u, .agg cs, x])) w) : bodyPost P fn R .ret act w := by
  have hl := run_loadVar_part (P := P) (off := 0) hk hu hda hi (by omega)
  have e : cs.extract 0 (0 + n) = cs := by subst hn; simp
  rw [e] at hl
  exact bodyPost_ret (run_results_tct hr ha ht hc hl) hd hR
/-- a variable written whole -/
theorem wpList_store_bk {ops : Array Oper} {rest : List Oper} {o : Oper} {a : Act} {w : World} {Q : Exit → Act → World → Prop} (hw : Region.wanted o (yielded ops a.tmps) = true) (ty : TypeId) (x y : Operand) (ho : o.op = .store ty x y)
    (g : Nat) (hx : a.eval x = .pointer (some ⟨g, 0, none⟩)) (v : Value) (hy : a.eval y = v) (cs : Array Value) (t : TypeId) (hk : Bk w g cs t) (hi : (P.info? ty).map (·.size) = some v.cells.size) (hn : v.cells.size = cs.size) (h1 : ∀ u ∈ v.cells.toList, u.oneCell' = true)
    (h : ∀ w', Bk w' g v.cells t → w.grownBy w' (some g) → w'.heap.size = w.heap.size → wpList P ops Q rest (a.put o.dst undef) w') : wpList P ops Q (o :: rest) a w := by
  refine wpList_store_part hw ty x y ho g 0 hx v hy cs t hk hi (by omega) h1 fun w' hk' hg hs => h w' ?_ hg hs
  have e : splice cs 0 v.cells.toList = v.cells := by
    apply Array.ext'
    simp [splice, hn]
  rw [e] at hk'
  exact hk'
end
end Go.Proofs.YtodlehkfadnchaaGreatDoor

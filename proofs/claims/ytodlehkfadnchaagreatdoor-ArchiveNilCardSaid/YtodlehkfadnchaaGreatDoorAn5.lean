/-
  A range over a function that never asks for a round; the closure that From gives for an archive that was not opened. Condition: as in the first text.
-/
import Derived.Test.YtodlehkfadnchaaGreatDoorAn3
import Derived.RangeFuncIn
import Derived.RangeFuncRecord
import Derived.RangeFuncOwn
import Derived.RangeFuncLeaves
namespace Go.Proofs.YtodlehkfadnchaaGreatDoor
set_option linter.unusedSimpArgs false
set_option linter.unusedVariables false
open Go.RowKit
set_option maxRecDepth 100000

theorem wp_range_none {P : Program} {g : Operand} {ps : Array Tmp} {assign body : Code} {Q : Exit → Act → World → Prop} {a : Act} {w : World} {gf : Nat} {lb : Array Value}
    (hg : a.eval g = .func (.func gf) #[] lb) (eg : ∀ args w, (callFunc gf args).run P w = .ok (.enter gf args) w)
    (hc : ∀ l w1, Below w.heap.size w w1 → Calls P gf (#[.func (.yield l) #[] #[]] ++ lb) w1 fun e w' => (∃ v, e = .returned v) ∧ Below w1.heap.size w1 w')
    (hq : ∀ D w', w.heap.size ≤ D → w'.heap[D]? = some (.deferred (some [])) → Below w.heap.size w w' → Q .normal { a with defers := { target := .collected D, args := #[] } :: a.defers } w') :
    (Code.rangeFunc g ps assign body).wp P Q a w := by
  refine (wpIn_wide (n := 1)).1 ?_
  refine wpIn_rangeFunc ?_
  intro fn hfn
  obtain ⟨rec, hrec⟩ : ∃ rec : Loop, rec = { state := .ready, pending := none, fn, tmps := a.tmps, params := ps, assign, body, defers := w.heap.size } := ⟨_, rfl⟩
  obtain ⟨W1, hW1⟩ : ∃ W1, (w.alloc (.deferred (some []))).alloc (.loop rec) = W1 := ⟨_, rfl⟩
  have hL1 : W1.heap[w.heap.size + 1]? = some (.loop rec) := by
    rw [← hW1]; have := World.alloc_heap_new (w.alloc (.deferred (some []))) (.loop rec); rwa [World.size_alloc] at this
  have hK1 : W1.heap[w.heap.size]? = some (.deferred (some [])) := by
    rw [← hW1]; exact (Below.heap_alloc _ _ _ (by simp)).trans (World.alloc_heap_new w _)
  have hb1 : Below w.heap.size w W1 := by
    rw [← hW1]; exact (((Below.refl _ w).alloc (Nat.le_refl _) _).alloc (by simp) _)
  have hs1 : W1.heap.size = w.heap.size + 2 := by rw [← hW1]; simp
  refine ⟨w.heap.size + 1, [{ target := .collected w.heap.size, args := #[] }], W1, { target := .fn (.func gf) lb, args := #[.func (.yield (w.heap.size + 1)) #[] #[]] }, W1, gf,
    #[.func (.yield (w.heap.size + 1)) #[] #[]] ++ lb, W1, ?_, ?_, ?_, ?_, fun _ => Nat.le_refl _, ?_⟩
  · rw [← hW1, hrec]; exact run_enterLoop_outer _ _ _ _ _
  · simp only [resolve, hg]
    simp [go_sem]
  · intro f' hf'; trivial
  · simp [invoke, go_sem, eg]
  · refine callsIn_wide.2 ((hc (w.heap.size + 1) W1 hb1).mono ?_)
    rintro e w3 ⟨⟨v, rfl⟩, hb3⟩
    have hL3 : w3.heap[w.heap.size + 1]? = some (.loop rec) := (hb3.block _ (by omega)).trans hL1
    have hK3 : w3.heap[w.heap.size]? = some (.deferred (some [])) := (hb3.block _ (by omega)).trans hK1
    refine ⟨none, w3.putObj (w.heap.size + 1) (.loop { rec with state := .exhausted }), ?_, ?_⟩
    · have := run_endLoop (P := P) hL3 (by rw [hrec]; intro h; cases h)
      rw [this, hrec]
    · have hb : Below w.heap.size w w3 := hb1.trans (hb3.mono hb1.size)
      exact hq w.heap.size _ (Nat.le_refl _) ((World.putObj_heap_other (by omega)).trans hK3) (hb.grown (grownBy_putObj' _ _ _) hb.size (fun k e => by cases e; omega))

theorem run_enterA {P : Program} {f : FuncId} {fn : Func} (hf : P.funcs[f]? = some fn) (hn : (fn.name == "runtime.NumGoroutine") = false) (hb : fn.body.isNone = false) (args : Array Value) (w : World) :
    (callFunc f args).run P w = .ok (.enter f args) w := by
  have h1 : ¬ fn.name = "runtime.NumGoroutine" := by simpa using hn
  have h2 : ¬ fn.body = none := by intro h; rw [h] at hb; cases hb
  simp [callFunc, hf, h1, h2]
theorem enters_from (args : Array Value) (w : World) : (callFunc 35 args).run Tryz.prog w = .ok (.enter 35 args) w :=
  run_enterA Tryz.func35 (by kernel_rfl) (by kernel_rfl) args w
set_option maxHeartbeats 8000000 in
theorem from1_any (w : World) (v : Value) (l f1 f2 : Nat) (h : NilA w v) (d1 : w.cell? ⟨f1, 0, none⟩ = some v) (d2 : w.cell? ⟨f2, 0, none⟩ = some (.int .u64 1)) :
    Calls Tryz.prog 35 #[.func (.yield l) #[] #[], .pointer (some ⟨f2, 0, none⟩), .pointer (some ⟨f1, 0, none⟩)] w fun e w' => (∃ v, e = .returned v) ∧ Below w.heap.size w w' := by
  have H := Lib.hid h
  rcases h with rfl | ⟨g, rfl, hc⟩
  · go_enter Tryz.func35, Tryz.ntmps35
    go_wp2_with fail
    refine wp_loop_once ?_
    go_wp2_with fail
    refine (load_any w (.pointer none) 1 H.out).mono ?_
    rintro e u1 ⟨rfl, hb⟩
    have C1 := Lib.hid hb
    clear hb
    go_wp2_with (first
      | (with_reducible show wpList _ _ _ (Oper.mk (some 5) (Op.alloc _) _ _ _ _ :: _) _ _; go_must (refine wpList_alloc_bk rfl _ rfl (.agg zeroBlockL.toArray) zB ?_; intro b1 u2 hk hb hg hs; have B2 := Lib.hid (C1.out.trans (hb.mono C1.out.size)); have G1 := Lib.hid hg; have K14_2 := Lib.hid (bk_eqA (cs' := zeroBlockL.toArray) hk rfl); clear hk hb hg hs))
      | (with_reducible show wpList _ _ _ (Oper.mk (some 6) (Op.alloc _) _ _ _ _ :: _) _ _; go_must (refine wpList_alloc_bk rfl _ rfl (.agg zeroCertL.toArray) zC ?_; intro b2 u3 hk hb hg hs; have B3 := Lib.hid (B2.out.trans (hb.mono B2.out.size)); have G2 := Lib.hid hg; have K14_3 := Lib.hid (K14_2.out.below hb K14_2.out.lt); have k14 := K14_2.out.lt; have K15_3 := Lib.hid (bk_eqA (cs' := zeroCertL.toArray) hk rfl); clear hk hb hg hs))
      | (with_reducible show wpList _ _ _ (Oper.mk _ (Op.store 34 _ _) _ _ _ _ :: _) _ _; go_must (refine wpList_stA rfl _ _ _ rfl b1 rfl zeroBlockL.toArray rfl _ _ K14_3.out 265 iB lB lB oB ?_; intro u4 hk hg hs; have B4 := Lib.hid (B3.out.grown hg B3.out.size (fun k hk => by cases hk; have := G1.out; have := C1.out.size; omega)); have K15_4 := Lib.hid (K15_3.out.grown hg (fun h => by cases h; have := G2.out; omega)); clear hk hg hs))
      | (with_reducible show wpList _ _ _ (Oper.mk _ (Op.store 32 _ _) _ _ _ _ :: _) _ _; go_must (refine wpList_stA rfl _ _ _ rfl b2 rfl zeroCertL.toArray rfl _ _ K15_4.out 35 iC lC lC oC ?_; intro u5 hk hg hs; have B5 := Lib.hid (B4.out.grown hg B4.out.size (fun k hk => by cases hk; have := G1.out; have := G2.out; have := C1.out.size; omega)); clear hk hg hs)))
    refine bodyPost_ret (results_none Tryz.results35 _ _ _) rfl ⟨⟨_, rfl⟩, B5.out⟩
  · clear hc
    go_enter Tryz.func35, Tryz.ntmps35
    go_wp2_with fail
    refine wp_loop_once ?_
    go_wp2_with fail
    refine (load_any w (.pointer (some ⟨g, 0, none⟩)) 1 H.out).mono ?_
    rintro e u1 ⟨rfl, hb⟩
    have C1 := Lib.hid hb
    clear hb
    go_wp2_with (first
      | (with_reducible show wpList _ _ _ (Oper.mk (some 5) (Op.alloc _) _ _ _ _ :: _) _ _; go_must (refine wpList_alloc_bk rfl _ rfl (.agg zeroBlockL.toArray) zB ?_; intro b1 u2 hk hb hg hs; have B2 := Lib.hid (C1.out.trans (hb.mono C1.out.size)); have G1 := Lib.hid hg; have K14_2 := Lib.hid (bk_eqA (cs' := zeroBlockL.toArray) hk rfl); clear hk hb hg hs))
      | (with_reducible show wpList _ _ _ (Oper.mk (some 6) (Op.alloc _) _ _ _ _ :: _) _ _; go_must (refine wpList_alloc_bk rfl _ rfl (.agg zeroCertL.toArray) zC ?_; intro b2 u3 hk hb hg hs; have B3 := Lib.hid (B2.out.trans (hb.mono B2.out.size)); have G2 := Lib.hid hg; have K14_3 := Lib.hid (K14_2.out.below hb K14_2.out.lt); have k14 := K14_2.out.lt; have K15_3 := Lib.hid (bk_eqA (cs' := zeroCertL.toArray) hk rfl); clear hk hb hg hs))
      | (with_reducible show wpList _ _ _ (Oper.mk _ (Op.store 34 _ _) _ _ _ _ :: _) _ _; go_must (refine wpList_stA rfl _ _ _ rfl b1 rfl zeroBlockL.toArray rfl _ _ K14_3.out 265 iB lB lB oB ?_; intro u4 hk hg hs; have B4 := Lib.hid (B3.out.grown hg B3.out.size (fun k hk => by cases hk; have := G1.out; have := C1.out.size; omega)); have K15_4 := Lib.hid (K15_3.out.grown hg (fun h => by cases h; have := G2.out; omega)); clear hk hg hs))
      | (with_reducible show wpList _ _ _ (Oper.mk _ (Op.store 32 _ _) _ _ _ _ :: _) _ _; go_must (refine wpList_stA rfl _ _ _ rfl b2 rfl zeroCertL.toArray rfl _ _ K15_4.out 35 iC lC lC oC ?_; intro u5 hk hg hs; have B5 := Lib.hid (B4.out.grown hg B4.out.size (fun k hk => by cases hk; have := G1.out; have := G2.out; have := C1.out.size; omega)); clear hk hg hs)))
    refine bodyPost_ret (results_none Tryz.results35 _ _ _) rfl ⟨⟨_, rfl⟩, B5.out⟩
end Go.Proofs.YtodlehkfadnchaaGreatDoor

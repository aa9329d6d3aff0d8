/-
  The statement ArchiveNil: for whatever block, certificate and state the Go function returns true, and its arguments read behind the call as before. No condition; the listed variables read as the program's own text lays them.
-/
import Derived.Test.YtodlehkfadnchaaGreatDoorRows
import Derived.Test.YtodlehkfadnchaaGreatDoorCards
import Derived.Test.YtodlehkfadnchaaGreatDoorTie
import Derived.Test.YtodlehkfadnchaaGreatDoorAn4
import Derived.ProofKit
import Derived.LaidMore
import Derived.OpenShut
import Derived.Stop.Joined
import Derived.SevenTiedAt
namespace Go.Proofs.YtodlehkfadnchaaGreatDoor.archiveNil
set_option linter.unusedSimpArgs false
set_option linter.unusedVariables false
set_option maxRecDepth 100000
open Go.ChangeShapes Go.WideShapes Go.ChangeAt Go.WideMaps Go.WideElems Go.RowKit

theorem own : ownKnob Tryz.prog.godebug = none := by kernel_rfl
theorem laidOut : laidOutB Tryz.prog = true := by kernel_rfl
abbrev laidL : List (String × DataW Unit) := Rows.archiveNilRow.laid
theorem door_met (os : Os) (args : Array Value) : laidMetH Tryz.prog laidL ((World.doorLaid Tryz.prog 79 os).forCall (fun _ _ => 0) ⟨#[], args, []⟩).memory :=
  laidMetH_of_parts3 (fuel := 8) (laidMet_of_run' 8 (by kernel_rfl) (by kernel_rfl)) (by kernel_rfl) (by kernel_rfl)

theorem open_agg {w : World} {base n : Nat} {t : TypeId} {v : Value} (hu : (match Tryz.prog.underlying t with | some (.struct _) => true | _ => false) = true) (hn : Tryz.prog.cellsOf t = n) (h : Value.okWide Tryz.prog w .any base t v) : ∃ cs : Array Value, v = .agg cs ∧ cs.size = n ∧ ∃ ts, Tryz.prog.cellTypes Tryz.prog.depth t = some ts ∧ ∀ i v, cs[i]? = some v → ∃ u, ts[i % ts.length]? = some u ∧ Cell.okWide Tryz.prog w .any base u v := by
  cases hq : Tryz.prog.underlying t with
  | none => rw [hq] at hu; cases hu
  | some d =>
    rw [hq] at hu
    cases d <;> simp only [Bool.false_eq_true] at hu
    simp only [Value.okWide, hq] at h
    obtain ⟨cs, rfl, hsz, ts, hts, _, hall⟩ := h
    exact ⟨cs, rfl, hsz.trans hn, ts, hts, hall⟩
theorem okc_u {w : World} {base : Nat} {t : TypeId} {v : Value} (hu : Tryz.prog.underlying t = some (.int .u64)) (h : Cell.okWide Tryz.prog w .any base t v) : ∃ n : Int, v = .int .u64 n := by
  unfold Cell.okWide at h
  rw [hu] at h
  cases v <;> simp only [Cell.ok, hu] at h
  case int k' n => obtain ⟨rfl, h⟩ := h; exact ⟨n, rfl⟩

set_option maxRecDepth 100000 in
theorem lifted (os : Os) (started : os.Started) (H : Type) (enc : TypeId × Value → H) :
    ReturnsInHanded {} Tryz.checked os 3 .any (fun w args => (Rows.archiveNilSpec.pre enc Tryz.prog Tryz.f3 [] false w args ∧ laidMetH Tryz.prog laidL w) ∧ sizedMet enc Tryz.prog Tryz.f3 (OpenSpec.ofChange Rows.archiveNilSpec) false w args)
      (Rows.archiveNilSpec.post enc Tryz.prog Tryz.f3 false true false false) := by
  refine returnsInHanded_of_change_and (C := Tryz.checked) (X := fun w _ => laidMetH Tryz.prog laidL w) (fun _ _ _ hh h => h.of_heap hh) own started (by kernel_rfl) Tryz.func3
    (ChangeSpec.witness_shaped (enc := enc) (C := Tryz.checked) (os := os) (X := fun w _ => laidMetH Tryz.prog laidL w) false (World.doorLaid Tryz.prog 79 os) #[.agg zeroBlockL.toArray, .agg zeroCertL.toArray, .agg zeroStateL.toArray] 8 rfl (World.shaped_of_RefB (by kernel_rfl) (by kernel_rfl)) (by kernel_rfl) (by kernel_rfl) (by kernel_rfl) (door_met os _)) ?_
  intro W base args ds gs before hval0 hW _ _ hL _
  have hval : ∀ (j : Nat) t v, Tryz.f3.params[j]? = some t → args[j]? = some v → Value.okWide Tryz.prog W .any base t v := hval0
  have hW' := hW
  obtain ⟨p, q, hA0, hV, rfl, hfz, hnd⟩ := hW
  have hA : DataW.TrodAll enc Tryz.prog W 0 (fun _ => true) true Tryz.f3.params.toList args.toList ds p := hA0
  rw [Tryz.params3] at hA hval
  obtain ⟨v0, vs0, d0, ds0, p0, q0, hargs, rfl, rfl, h0, r0⟩ := trodAll_cons hA
  obtain ⟨v1, vs1, d1, ds1, p1, q1, rfl, rfl, rfl, h1, r1⟩ := trodAll_cons r0
  obtain ⟨v2, vs2, d2, ds2, p2, q2, rfl, rfl, rfl, h2, r2⟩ := trodAll_cons r1
  obtain ⟨rfl, rfl, rfl⟩ := trodAll_nil r2
  obtain rfl : args = #[v0, v1, v2] := by cases args; simp_all
  obtain ⟨rfl, rfl⟩ := trodVars_none hV
  have k0 := h0
  have lt0 : ∀ x ∈ p0, x.block < W.heap.size := by obtain ⟨m, hm⟩ := k0; exact DataW.trod_lt m _ _ _ hm
  have k1 := h1
  have lt1 : ∀ x ∈ p1, x.block < W.heap.size := by obtain ⟨m, hm⟩ := k1; exact DataW.trod_lt m _ _ _ hm
  have k2 := h2
  have lt2 : ∀ x ∈ p2, x.block < W.heap.size := by obtain ⟨m, hm⟩ := k2; exact DataW.trod_lt m _ _ _ hm
  obtain ⟨c0, rfl, s0, ts0, hts0, a0⟩ := open_agg (by kernel_rfl) (n := 265) (by kernel_rfl) (hval 0 34 v0 rfl rfl)
  obtain ⟨c1, rfl, s1, ts1, hts1, a1⟩ := open_agg (by kernel_rfl) (n := 35) (by kernel_rfl) (hval 1 32 v1 rfl rfl)
  obtain ⟨c2, rfl, s2, ts2, hts2, a2⟩ := open_agg (by kernel_rfl) (n := 55) (by kernel_rfl) (hval 2 47 v2 rfl rfl)
  have e1 : (Tryz.prog.cellTypes Tryz.prog.depth 34).map (fun l => (l.length, l[1]?)) = some (265, some 22) := by kernel_rfl
  rw [hts0] at e1
  simp only [Option.map_some, Option.some.injEq, Prod.mk.injEq] at e1
  have hb : 1 < c0.size := by omega
  obtain ⟨u, hu, hc⟩ := a0 1 _ (Array.getElem?_eq_getElem hb)
  rw [e1.1, show 1 % 265 = 1 from rfl, e1.2] at hu
  obtain rfl := Option.some.inj hu
  obtain ⟨n, hn⟩ := okc_u Tryz.underlying22 hc
  clear hA0 hval0
  refine (walk_an W c0 c1 c2 n (by rw [Array.getElem?_eq_getElem hb, hn]) s0 s1 s2).mono fun e W' ⟨he, bel⟩ => ?_
  subst he
  exact ⟨_, rfl, _, _, _, [], _, [], hW', trodAll_mk1 (shut_bool Tryz.underlying4 _), (trodAll_cons_mk (Below.trod laidOut (by kernel_rfl) (of_decide_eq_true (by kernel_rfl)) k0 bel lt0) (trodAll_cons_mk (Below.trod laidOut (by kernel_rfl) (of_decide_eq_true (by kernel_rfl)) k1 bel lt1) (trodAll_cons_mk (Below.trod laidOut (by kernel_rfl) (of_decide_eq_true (by kernel_rfl)) k2 bel lt2) trodAll_mk0))), rfl, bel.frame _, fun h => by cases h⟩
end Go.Proofs.YtodlehkfadnchaaGreatDoor.archiveNil

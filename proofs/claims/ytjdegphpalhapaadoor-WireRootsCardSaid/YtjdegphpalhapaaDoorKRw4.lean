/-
  The statement WireRoots, closed: the row and its tied card. No condition beyond the card's.
-/
import Derived.Test.YtjdegphpalhapaaDoorKRw3
namespace Go.Proofs.YtjdegphpalhapaaDoor.wireRoots
set_option linter.unusedSimpArgs false
set_option linter.unusedVariables false
set_option maxRecDepth 100000
open Go.ChangeShapes Go.WideShapes Go.ChangeAt Go.WideMaps Go.WideElems Go.RowKit

theorem f_named : Tryd.pinned.checked.prog.funcNamed Rows.wireRootsRow.func = some 4 := by kernel_rfl
theorem and_t {a b : Bool} (h : a = true) (k : b = true) : (a && b) = true := by rw [h, k]; rfl
set_option maxHeartbeats 40000000 in
theorem f_joined : joinedFacts Tryd.pinned.checked.prog 4 Tryd.f4 Rows.wireRootsSpec Rows.wireRootsRow = true := by
  unfold joinedFacts
  repeat' (with_reducible refine and_t ?_ ?_)
  all_goals (as_aux_lemma => kernel_rfl)
theorem f_inst : Tryd.f4.isInstance Tryd.pinned.checked.prog Rows.wireRootsRow.origin Rows.wireRootsRow.targs := of_decide_eq_true (by kernel_rfl)
theorem f_wrap : Tryd.f4.isWrapper Tryd.pinned.checked.prog Rows.wireRootsRow.wrapper Rows.wireRootsRow.mainSum := by unfold Func.isWrapper; first | (rw [if_pos (by decide +kernel)]; kernel_rfl) | (rw [if_neg (by decide +kernel)]; exact ⟨rfl, rfl⟩)
theorem f_lift (os : Os) (started : os.Started) (H : Type) (enc : TypeId × Value → H) : ReturnsInHanded Rows.wireRootsRow.assume Tryd.pinned.checked os 4 .any (Rows.wireRootsRow.pre enc Tryd.pinned.checked.prog Tryd.f4 (OpenSpec.ofChange Rows.wireRootsSpec)) (Rows.wireRootsSpec.post enc Tryd.pinned.checked.prog Tryd.f4 Rows.wireRootsRow.apart Rows.wireRootsRow.fresh Rows.wireRootsRow.handsOn Rows.wireRootsRow.again) := lifted os started H enc
theorem over : Rows.WireRootsSaid :=
  OpenClaim.holds_of_wide 4 Tryd.f4 rfl rfl rfl rfl rfl rfl rfl ⟨rfl, rfl, rfl, rfl, rfl⟩ rfl rfl rfl rfl rfl f_named Tryd.func4 f_joined f_inst f_wrap
    (fun os started H enc _ => f_lift os started H enc)

/-- the tied card -/
theorem proved : Rows.WireRootsCardSaid :=
  Claim7.holds_tied_plain_at .later [] [.data, .data, .data] true (true, "e647e58a2a893e44d45c4b24d4740b72ba932e77727ee4746f7b43c8b1dfeed0") false
    over (fun _ h => by cases h) (by kernel_rfl) (fun _ h => by cases h) wireRoots_row_tie rfl ⟨rfl, rfl⟩ (by kernel_rfl) rfl
    (fun f fn hf hfn => by
      obtain rfl : f = 4 := Option.some.inj ((show Tryd.prog.funcNamed "assent/assentlaw04.WireRoots" = some 4 by kernel_rfl).symm.trans hf) |>.symm
      obtain rfl : fn = Tryd.f4 := (Option.some.inj (Tryd.func4.symm.trans hfn)).symm
      exact ⟨by kernel_rfl, fun j t ht => by
        rw [Tryd.params4] at ht
        have hm : t ∈ [49] := by simpa using Array.mem_of_getElem? ht
        have hall : ([49].all fun u => !Tryd.prog.wantsStandIn u) = true := by kernel_rfl
        exact (show Tryd.prog.wantsStandIn t = false by simpa using List.all_eq_true.1 hall t hm)⟩)
    (by kernel_rfl)
#print axioms proved
end Go.Proofs.YtjdegphpalhapaaDoor.wireRoots

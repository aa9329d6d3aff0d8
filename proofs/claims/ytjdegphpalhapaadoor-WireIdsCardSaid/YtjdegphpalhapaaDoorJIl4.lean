/-
  The statement WireIds, closed: the row and its tied card. No condition beyond the card's.
-/
import Derived.Test.YtjdegphpalhapaaDoorJIl3
namespace Go.Proofs.YtjdegphpalhapaaDoor.wireIds
set_option linter.unusedSimpArgs false
set_option linter.unusedVariables false
set_option maxRecDepth 100000
open Go.ChangeShapes Go.WideShapes Go.ChangeAt Go.WideMaps Go.WideElems Go.RowKit

theorem f_named : Tryd.pinned.checked.prog.funcNamed Rows.wireIdsRow.func = some 3 := by kernel_rfl
theorem and_t {a b : Bool} (h : a = true) (k : b = true) : (a && b) = true := by rw [h, k]; rfl
set_option maxHeartbeats 40000000 in
theorem f_joined : joinedFacts Tryd.pinned.checked.prog 3 Tryd.f3 Rows.wireIdsSpec Rows.wireIdsRow = true := by
  unfold joinedFacts
  repeat' (with_reducible refine and_t ?_ ?_)
  all_goals (as_aux_lemma => kernel_rfl)
theorem f_inst : Tryd.f3.isInstance Tryd.pinned.checked.prog Rows.wireIdsRow.origin Rows.wireIdsRow.targs := of_decide_eq_true (by kernel_rfl)
theorem f_wrap : Tryd.f3.isWrapper Tryd.pinned.checked.prog Rows.wireIdsRow.wrapper Rows.wireIdsRow.mainSum := by unfold Func.isWrapper; first | (rw [if_pos (by decide +kernel)]; kernel_rfl) | (rw [if_neg (by decide +kernel)]; exact ⟨rfl, rfl⟩)
theorem f_lift (os : Os) (started : os.Started) (H : Type) (enc : TypeId × Value → H) : ReturnsInHanded Rows.wireIdsRow.assume Tryd.pinned.checked os 3 .any (Rows.wireIdsRow.pre enc Tryd.pinned.checked.prog Tryd.f3 (OpenSpec.ofChange Rows.wireIdsSpec)) (Rows.wireIdsSpec.post enc Tryd.pinned.checked.prog Tryd.f3 Rows.wireIdsRow.apart Rows.wireIdsRow.fresh Rows.wireIdsRow.handsOn Rows.wireIdsRow.again) := lifted os started H enc
theorem over : Rows.WireIdsSaid :=
  OpenClaim.holds_of_wide 3 Tryd.f3 rfl rfl rfl rfl rfl rfl rfl ⟨rfl, rfl, rfl, rfl, rfl⟩ rfl rfl rfl rfl rfl f_named Tryd.func3 f_joined f_inst f_wrap
    (fun os started H enc _ => f_lift os started H enc)

/-- the tied card -/
theorem proved : Rows.WireIdsCardSaid :=
  Claim7.holds_tied_plain_at .later [] [.data, .data, .data] true (true, "e647e58a2a893e44d45c4b24d4740b72ba932e77727ee4746f7b43c8b1dfeed0") false
    over (fun _ h => by cases h) (by kernel_rfl) (fun _ h => by cases h) wireIds_row_tie rfl ⟨rfl, rfl⟩ (by kernel_rfl) rfl
    (fun f fn hf hfn => by
      obtain rfl : f = 3 := Option.some.inj ((show Tryd.prog.funcNamed "assent/assentlaw04.WireIds" = some 3 by kernel_rfl).symm.trans hf) |>.symm
      obtain rfl : fn = Tryd.f3 := (Option.some.inj (Tryd.func3.symm.trans hfn)).symm
      exact ⟨by kernel_rfl, fun j t ht => by
        rw [Tryd.params3] at ht
        have hm : t ∈ [27, 31, 34] := by simpa using Array.mem_of_getElem? ht
        have hall : ([27, 31, 34].all fun u => !Tryd.prog.wantsStandIn u) = true := by kernel_rfl
        exact (show Tryd.prog.wantsStandIn t = false by simpa using List.all_eq_true.1 hall t hm)⟩)
    (by kernel_rfl)
#print axioms proved
end Go.Proofs.YtjdegphpalhapaaDoor.wireIds

/-
  The statement ArchiveNil, closed: the row and its tied card. No condition beyond the card's.
-/
import Derived.Test.YtodlehkfadnchaaGreatDoorAn6
namespace Go.Proofs.YtodlehkfadnchaaGreatDoor.archiveNil
set_option linter.unusedSimpArgs false
set_option linter.unusedVariables false
set_option maxRecDepth 100000
open Go.ChangeShapes Go.WideShapes Go.ChangeAt Go.WideMaps Go.WideElems Go.RowKit

theorem f_named : Tryz.pinned.checked.prog.funcNamed Rows.archiveNilRow.func = some 3 := by kernel_rfl
theorem and_t {a b : Bool} (h : a = true) (k : b = true) : (a && b) = true := by rw [h, k]; rfl
set_option maxHeartbeats 40000000 in
theorem f_joined : joinedFacts Tryz.pinned.checked.prog 3 Tryz.f3 Rows.archiveNilSpec Rows.archiveNilRow = true := by
  unfold joinedFacts
  repeat' (with_reducible refine and_t ?_ ?_)
  all_goals (as_aux_lemma => kernel_rfl)
theorem f_inst : Tryz.f3.isInstance Tryz.pinned.checked.prog Rows.archiveNilRow.origin Rows.archiveNilRow.targs := of_decide_eq_true (by kernel_rfl)
theorem f_wrap : Tryz.f3.isWrapper Tryz.pinned.checked.prog Rows.archiveNilRow.wrapper Rows.archiveNilRow.mainSum := by unfold Func.isWrapper; first | (rw [if_pos (by decide +kernel)]; kernel_rfl) | (rw [if_neg (by decide +kernel)]; exact ⟨rfl, rfl⟩)
theorem f_lift (os : Os) (started : os.Started) (H : Type) (enc : TypeId × Value → H) : ReturnsInHanded Rows.archiveNilRow.assume Tryz.pinned.checked os 3 .any (Rows.archiveNilRow.pre enc Tryz.pinned.checked.prog Tryz.f3 (OpenSpec.ofChange Rows.archiveNilSpec)) (Rows.archiveNilSpec.post enc Tryz.pinned.checked.prog Tryz.f3 Rows.archiveNilRow.apart Rows.archiveNilRow.fresh Rows.archiveNilRow.handsOn Rows.archiveNilRow.again) := lifted os started H enc
theorem over : Rows.ArchiveNilSaid :=
  OpenClaim.holds_of_wide 3 Tryz.f3 rfl rfl rfl rfl rfl rfl rfl ⟨rfl, rfl, rfl, rfl, rfl⟩ rfl rfl rfl rfl rfl f_named Tryz.func3 f_joined f_inst f_wrap
    (fun os started H enc _ => f_lift os started H enc)

/-- the tied card -/
theorem proved : Rows.ArchiveNilCardSaid :=
  Claim7.holds_tied_plain_at .later [] [.data, .data, .data, .handle, .data, .data, .sentinel, .sentinel] true (true, "315ec3fd7046959c0aa10f212f4dbc1a049345b0f1a3c9120733e71d53ea5bf6") true
    over (fun _ h => by cases h) (by kernel_rfl) (fun _ h => by cases h) archiveNil_row_tie rfl ⟨rfl, rfl⟩ (by kernel_rfl) rfl
    (fun f fn hf hfn => by
      obtain rfl : f = 3 := Option.some.inj ((show Tryz.prog.funcNamed "assent/assentlaw13.ArchiveNil" = some 3 by kernel_rfl).symm.trans hf) |>.symm
      obtain rfl : fn = Tryz.f3 := (Option.some.inj (Tryz.func3.symm.trans hfn)).symm
      exact ⟨by kernel_rfl, fun j t ht => by
        rw [Tryz.params3] at ht
        have hm : t ∈ [34, 32, 47] := by simpa using Array.mem_of_getElem? ht
        have hall : ([34, 32, 47].all fun u => !Tryz.prog.wantsStandIn u) = true := by kernel_rfl
        exact (show Tryz.prog.wantsStandIn t = false by simpa using List.all_eq_true.1 hall t hm)⟩)
    (by kernel_rfl)
#print axioms proved
end Go.Proofs.YtodlehkfadnchaaGreatDoor.archiveNil

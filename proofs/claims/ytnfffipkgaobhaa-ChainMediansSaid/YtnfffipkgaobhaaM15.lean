/-
  The document's own TxBytes, VoteBytes, ProposalBytes: the same error or bytes as package wire's. Condition: each number fits its kind.
  The reference's TxId. Conditions: each number fits its kind; the table reads as it was laid.
  The reference's TxId. Conditions: each number fits its kind; the table reads as it was laid.
-/
import Derived.Test.YtnfffipkgaobhaaM14
import Derived.Test.YtnfffipkgaobhaaM13
namespace Go.Proofs.Ytnfffipkgaobhaa
set_option linter.unusedSimpArgs false
set_option linter.unusedVariables false
open Go.RowKit
set_option maxRecDepth 100000

theorem firstErr_nil : firstErr [] = 0 := rfl
theorem firstErr_cons (a : Int) (l : List Int) : firstErr (a :: l) = if a = 0 then firstErr l else a := by
  by_cases h : a = 0
  · subst h; simp [firstErr]
  · simp [firstErr, h]
set_option maxHeartbeats 4000000 in
theorem plainTxR_eq (x : Tx) : plainTxR x = plainTx x := by
  unfold plainTxR plainTx kind amount field
  simp only [firstErr_cons, firstErr_nil]
  by_cases h1 : x.kind < 1
  · simp [h1]
  by_cases h2 : 4 < x.kind
  · simp [h1, h2]
  rcases e3 : (x.frm == 0) with _ | _
  case true => simp [h1, h2, e3]
  rcases e4 : (x.kind == 1) with _ | _ <;> rcases e5 : (x.to == 0) with _ | _ <;> rcases e7 : (x.kind == 4) with _ | _ <;> rcases e8 : (x.amount == 0) with _ | _ <;> by_cases h6 : 1152921504606846975 < x.amount <;> by_cases h9 : 1152921504606846975 < x.fee <;> simp [h1, h2, e3, e4, e5, h6, e7, e8, h9, bne]
theorem kind_two (k : Int) : (k != 1 && k != 2) = decide (k < 1 ∨ 2 < k) := by
  by_cases h1 : k = 1
  · subst h1; rfl
  · by_cases h2 : k = 2
    · subst h2; rfl
    · rw [decide_eq_true (by omega)]; simp [h1, h2]
set_option maxHeartbeats 4000000 in
theorem plainVoteR_eq (x : Vote) : plainVoteR x = plainVote x := by
  unfold plainVoteR plainVote
  rw [kind_two]
  unfold kind height round moment field
  simp only [firstErr_cons, firstErr_nil]
  by_cases h1 : x.kind < 1 ∨ 2 < x.kind
  · simp [h1]
  by_cases h2 : x.height < 1 ∨ 1099511627776 < x.height
  · simp [h1, h2]
  by_cases h3 : x.round < 0 ∨ 65535 < x.round
  · simp [h1, h2, h3]
  by_cases h4 : 1125899906842624 < x.time
  · simp [h1, h2, h3, h4]
  rcases e5 : (x.time == 0) with _ | _ <;> rcases e6 : (x.kind == 1) with _ | _ <;> rcases e7 : (x.id == zeros 32) with _ | _ <;> rcases e8 : (x.frm == 0) with _ | _ <;> simp [h1, h2, h3, h4, e5, e6, e7, e8, bne]
set_option maxHeartbeats 4000000 in
theorem plainProposalR_eq (x : Proposal) : plainProposalR x = plainProposal x := by
  unfold plainProposalR plainProposal height round field
  simp only [firstErr_cons, firstErr_nil]
  by_cases h2 : x.height < 1 ∨ 1099511627776 < x.height
  · simp [h2]
  by_cases h3 : x.round < 0 ∨ 65535 < x.round
  · simp [h2, h3]
  by_cases h4 : x.valid < -1 <;> by_cases h5 : x.round ≤ x.valid <;> rcases e7 : (x.id == zeros 32) with _ | _ <;> rcases e8 : (x.frm == 0) with _ | _ <;> simp [h2, h3, h4, h5, e7, e8]

/-- a slice of one byte, full -/
def OneK (b : UInt8) : Known := fun v w => ∃ g, v = .slice (some ⟨g, 0, none⟩) 1 1 ∧ w.cell? ⟨g, 0, none⟩ = some (.int .u8 b.toNat) ∧ g < w.heap.size
theorem OneK.steady (b : UInt8) : Steady (OneK b) := fun _ _ _ ⟨g, h1, h2, h3⟩ hb => ⟨g, h1, (hb.cell h3).trans h2, Nat.lt_of_lt_of_le h3 hb.size⟩
def BsK (B : Nat) (l : List UInt8) : Known := fun v w => Bs w B v l
theorem BsK.steady (B : Nat) (l : List UInt8) : Steady (BsK B l) := fun _ _ _ h hb => Bs.below h hb
theorem named_zero {n : Nat} (h : (named n == 0) = true) : 1 ≤ n ∧ n ≤ 16 := by
  have := of_decide_eq_false (field_zero (by simpa using h : named n = 0))
  omega
theorem named_err {n : Nat} (h : (named n == 0) = false) : named n = 41 := by
  by_cases hh : n < 1 ∨ 16 < n
  · unfold named field; rw [decide_eq_true hh]; rfl
  · exfalso; unfold named field at h; rw [decide_eq_false hh] at h; cases h


theorem refTx_eq (x : Tx) : refTx x false = encTx x := by simp [refTx, encTx, optB]
theorem refVote_eq (x : Vote) : refVote x false = encVote x := by simp [refVote, encVote, optB]
theorem refProposal_eq (x : Proposal) : refProposal x false = encProposal x := by simp [refProposal, encProposal, optB]
end Go.Proofs.Ytnfffipkgaobhaa
namespace Go.Proofs.Ytnfffipkgaobhaa
set_option linter.unusedSimpArgs false
set_option linter.unusedVariables false
open Go.RowKit
set_option maxRecDepth 100000

theorem refTx_form (x : Tx) : refTx x true = formTx x := by
  unfold refTx formTx encTx optB; simp [List.append_assoc]

end Go.Proofs.Ytnfffipkgaobhaa
namespace Go.Proofs.Ytnfffipkgaobhaa
set_option linter.unusedSimpArgs false
set_option linter.unusedVariables false
open Go.RowKit
set_option maxRecDepth 100000

end Go.Proofs.Ytnfffipkgaobhaa

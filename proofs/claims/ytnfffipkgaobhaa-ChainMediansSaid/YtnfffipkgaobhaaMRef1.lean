/-
  The document's own tests of a transaction, a vote, a proposal (assentref04): they answer as package wire's. Condition: each number fits its kind.
-/
import Derived.Test.YtnfffipkgaobhaaM02
namespace Go.Proofs.Ytnfffipkgaobhaa
set_option linter.unusedVariables false
open Go.RowKit
set_option maxRecDepth 100000
set_option linter.unusedSimpArgs false

theorem ret_bool {a b : Bool} (h : a = b) : Ending.returned (.bool a) = .returned (.bool b) := by rw [h]

set_option maxHeartbeats 400000 in
theorem rHeight_any (w : World) (h : Int) :
    Calls Try.prog 37 #[.int .u64 h] w fun e w' => e = .returned (.bool (height h == 0)) ∧ w = w' := by
  go_enter Try.func37, Try.ntmps37
  go_wp2
  all_goals
    go_ret
    refine ⟨ret_bool ?_, rfl⟩
    unfold height
    by_cases hh : h < 1 ∨ 1099511627776 < h
    · rw [decide_eq_true hh]; first | rfl | (exfalso; omega) | (rw [decide_eq_false (by omega)]; rfl)
    · rw [decide_eq_false hh]; first | rfl | (exfalso; omega) | (rw [decide_eq_true (by omega)]; rfl)
set_option maxHeartbeats 400000 in
theorem rTime_any (w : World) (h : Int) :
    Calls Try.prog 39 #[.int .u64 h] w fun e w' => e = .returned (.bool (moment h == 0)) ∧ w = w' := by
  go_enter Try.func39, Try.ntmps39
  go_wp2
  all_goals
    go_ret
    refine ⟨ret_bool ?_, rfl⟩
    unfold moment field
    by_cases hh : 1125899906842624 < h
    · rw [decide_eq_true hh, decide_eq_false (by omega)]; rfl
    · rw [decide_eq_false hh, decide_eq_true (by omega)]; rfl
set_option maxHeartbeats 400000 in
theorem rRound_any (w : World) (h : Int) :
    Calls Try.prog 38 #[.int .i64 h] w fun e w' => e = .returned (.bool (round h == 0)) ∧ w = w' := by
  go_enter Try.func38, Try.ntmps38
  go_wp2
  all_goals
    go_ret
    refine ⟨ret_bool ?_, rfl⟩
    unfold round
    by_cases hh : h < 0 ∨ 65535 < h
    · rw [decide_eq_true hh]; first | rfl | (exfalso; omega) | (rw [decide_eq_false (by omega)]; rfl)
    · rw [decide_eq_false hh]; first | rfl | (exfalso; omega) | (rw [decide_eq_true (by omega)]; rfl)
def plainVoteR (x : Vote) : Int :=
  if (x.kind != 1) && (x.kind != 2) then 40
  else if (!(height x.height == 0)) || (!(round x.round == 0)) || (!(moment x.time == 0)) then 41
  else if (x.time != 0) && ((x.kind == 1) || (x.id == zeros 32)) then 41
  else if x.frm == 0 then 41 else 0
def plainProposalR (x : Proposal) : Int :=
  if (!(height x.height == 0)) || (!(round x.round == 0)) || decide (x.valid < -1) || decide (x.round ≤ x.valid) then 41
  else if (x.id == zeros 32) || (x.frm == 0) then 41 else 0
def plainTxR (x : Tx) : Int :=
  if decide (x.kind < 1) || decide (4 < x.kind) then 40
  else if x.frm == 0 then 41
  else if (x.kind == 1) == (x.to == 0) then 41
  else if (!(amount x.amount == 0)) || ((x.kind == 4) && (x.amount != 0)) then 41
  else if !(amount x.fee == 0) then 41 else 0

end Go.Proofs.Ytnfffipkgaobhaa

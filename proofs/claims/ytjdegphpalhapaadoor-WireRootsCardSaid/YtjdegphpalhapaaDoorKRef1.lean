/-
  The document's own tests of a transaction, a vote, a proposal (assentref04): they answer as package wire's. Condition: each number fits its kind.
-/
import Derived.Test.YtjdegphpalhapaaDoorK03
namespace Go.Proofs.YtjdegphpalhapaaDoor
set_option linter.unusedVariables false
open Go.RowKit
set_option maxRecDepth 100000
set_option linter.unusedSimpArgs false

theorem ret_bool {a b : Bool} (h : a = b) : Ending.returned (.bool a) = .returned (.bool b) := by rw [h]

set_option maxHeartbeats 400000 in
theorem rHeight_any (w : World) (h : Int) :
    Calls Tryd.prog 57 #[.int .u64 h] w fun e w' => e = .returned (.bool (height h == 0)) ∧ w = w' := by
  go_enter Tryd.func57, Tryd.ntmps57
  go_wp2
  all_goals
    go_ret
    refine ⟨ret_bool ?_, rfl⟩
    unfold height
    by_cases hh : h < 1 ∨ 1099511627776 < h
    · rw [decide_eq_true hh]; first | rfl | (exfalso; omega) | (rw [decide_eq_false (by omega)]; rfl)
    · rw [decide_eq_false hh]; first | rfl | (exfalso; omega) | (rw [decide_eq_true (by omega)]; rfl)
set_option maxHeartbeats 400000 in
theorem rTime_any (w : World) (h : Int) :
    Calls Tryd.prog 58 #[.int .u64 h] w fun e w' => e = .returned (.bool (moment h == 0)) ∧ w = w' := by
  go_enter Tryd.func58, Tryd.ntmps58
  go_wp2
  all_goals
    go_ret
    refine ⟨ret_bool ?_, rfl⟩
    unfold moment field
    by_cases hh : 1125899906842624 < h
    · rw [decide_eq_true hh, decide_eq_false (by omega)]; rfl
    · rw [decide_eq_false hh, decide_eq_true (by omega)]; rfl
set_option maxHeartbeats 400000 in
theorem rAmount_any (w : World) (h : Int) :
    Calls Tryd.prog 52 #[.int .u64 h] w fun e w' => e = .returned (.bool (amount h == 0)) ∧ w = w' := by
  go_enter Tryd.func52, Tryd.ntmps52
  go_wp2
  all_goals
    go_ret
    refine ⟨ret_bool ?_, rfl⟩
    unfold amount field
    by_cases hh : 1152921504606846975 < h
    · rw [decide_eq_true hh, decide_eq_false (by omega)]; rfl
    · rw [decide_eq_false hh, decide_eq_true (by omega)]; rfl
set_option maxHeartbeats 400000 in
theorem rRound_any (w : World) (h : Int) :
    Calls Tryd.prog 61 #[.int .i64 h] w fun e w' => e = .returned (.bool (round h == 0)) ∧ w = w' := by
  go_enter Tryd.func61, Tryd.ntmps61
  go_wp2
  all_goals
    go_ret
    refine ⟨ret_bool ?_, rfl⟩
    unfold round
    by_cases hh : h < 0 ∨ 65535 < h
    · rw [decide_eq_true hh]; first | rfl | (exfalso; omega) | (rw [decide_eq_false (by omega)]; rfl)
    · rw [decide_eq_false hh]; first | rfl | (exfalso; omega) | (rw [decide_eq_true (by omega)]; rfl)
def plainVoteR (x : Vote) : Int :=
  if (x.kind != 1) && (x.kind != 2) then 40
  else if (!(height x.height == 0)) || (!(round x.round == 0)) || (!(moment x.time == 0)) then 41
  else if (x.time != 0) && ((x.kind == 1) || (x.id == zeros 32)) then 41
  else if x.frm == 0 then 41 else 0
def plainProposalR (x : Proposal) : Int :=
  if (!(height x.height == 0)) || (!(round x.round == 0)) || decide (x.valid < -1) || decide (x.round ≤ x.valid) then 41
  else if (x.id == zeros 32) || (x.frm == 0) then 41 else 0
def plainTxR (x : Tx) : Int :=
  if decide (x.kind < 1) || decide (4 < x.kind) then 40
  else if x.frm == 0 then 41
  else if (x.kind == 1) == (x.to == 0) then 41
  else if (!(amount x.amount == 0)) || ((x.kind == 4) && (x.amount != 0)) then 41
  else if !(amount x.fee == 0) then 41 else 0

set_option maxHeartbeats 20000000 in
theorem rPlainVote_any (w : World) (x : Vote) (hx : x.ok) :
    Calls Tryd.prog 69 #[.agg x.cl.toArray] w fun e w' => e = .returned (.int .i64 (plainVoteR x)) ∧ Below w.heap.size w w' := by
  obtain ⟨q0, h0⟩ : ∃ q, (x.kind == 1) = q := ⟨_, rfl⟩
  cases q0
  · obtain ⟨q1, h1⟩ : ∃ q, (x.kind == 2) = q := ⟨_, rfl⟩
    cases q1
    · have g0 : (x.kind != 1) = true := by unfold bne; rw [h0]; rfl
      have g1 : (x.kind != 2) = true := by unfold bne; rw [h1]; rfl
      go_enter Tryd.func69, Tryd.ntmps69
      go_wp2_with (refine wpList_box_bk rfl _ _ rfl _ rfl ?_)
      intro g w1 hb hbl hg hs
      clear hg hs
      have c0 : w1.cell? ⟨g, 0, none⟩ = some (.int .i64 x.kind) := hb.cell 0
      have c1 : w1.cell? ⟨g, 1, none⟩ = some (.int .u64 x.height) := hb.cell 1
      have c2 : w1.cell? ⟨g, 2, none⟩ = some (.int .i64 x.round) := hb.cell 2
      have c3 : w1.cell? ⟨g, 35, none⟩ = some (.int .u64 x.time) := (hb.cell 35).trans (x.cl_35 hx.id)
      have c4 : w1.cell? ⟨g, 36, none⟩ = some (.int .u64 x.frm) := (hb.cell 36).trans (x.cl_36 hx.id)
      go_wp2_with (first
        | (with_reducible show wpList _ _ _ (Oper.mk _ (Op.load 29 _) _ _ _ _ :: _) _ _; refine wpList_load_part rfl 29 _ rfl g 3 32 rfl _ _ _ hb Tryd.underlying29 rfl info_hash (by have := x.cl_len hx; simp [this]) _ (x.cl_id hx.id) ?_)
        | (with_reducible show wpList _ _ _ (Oper.mk _ (Op.binOp BinOp.eql 29 _ _ _) _ _ _ _ :: _) _ _; refine wpList_eql_flat rfl 29 _ _ _ rfl (bv x.id) (bv (zeros 32)) rfl rfl 2 _ flat_hash (by omega) agg_hash guard_hash (fits_hash hx.id) (fits_hash rfl) _ (bv_iff rfl) ?_)
        | (go_at_call 57; refine (rHeight_any _ _).mono ?_; rintro e w2 ⟨rfl, rfl⟩)
        | (go_at_call 61; refine (rRound_any _ _).mono ?_; rintro e w2 ⟨rfl, rfl⟩)
        | (go_at_call 52; refine (rAmount_any _ _).mono ?_; rintro e w2 ⟨rfl, rfl⟩)
        | (go_at_call 58; refine (rTime_any _ _).mono ?_; rintro e w2 ⟨rfl, rfl⟩))
      go_ret
      exact ⟨ret_i64 (by simp [plainVoteR, h0, g0, h1, g1]), hbl⟩
    · obtain ⟨q2, h2⟩ : ∃ q, (height x.height == 0) = q := ⟨_, rfl⟩
      cases q2
      · have g0 : (x.kind != 1) = true := by unfold bne; rw [h0]; rfl
        have g1 : (x.kind != 2) = false := by unfold bne; rw [h1]; rfl
        have g2 : (height x.height != 0) = true := by unfold bne; rw [h2]; rfl
        go_enter Tryd.func69, Tryd.ntmps69
        go_wp2_with (refine wpList_box_bk rfl _ _ rfl _ rfl ?_)
        intro g w1 hb hbl hg hs
        clear hg hs
        have c0 : w1.cell? ⟨g, 0, none⟩ = some (.int .i64 x.kind) := hb.cell 0
        have c1 : w1.cell? ⟨g, 1, none⟩ = some (.int .u64 x.height) := hb.cell 1
        have c2 : w1.cell? ⟨g, 2, none⟩ = some (.int .i64 x.round) := hb.cell 2
        have c3 : w1.cell? ⟨g, 35, none⟩ = some (.int .u64 x.time) := (hb.cell 35).trans (x.cl_35 hx.id)
        have c4 : w1.cell? ⟨g, 36, none⟩ = some (.int .u64 x.frm) := (hb.cell 36).trans (x.cl_36 hx.id)
        go_wp2_with (first
          | (with_reducible show wpList _ _ _ (Oper.mk _ (Op.load 29 _) _ _ _ _ :: _) _ _; refine wpList_load_part rfl 29 _ rfl g 3 32 rfl _ _ _ hb Tryd.underlying29 rfl info_hash (by have := x.cl_len hx; simp [this]) _ (x.cl_id hx.id) ?_)
          | (with_reducible show wpList _ _ _ (Oper.mk _ (Op.binOp BinOp.eql 29 _ _ _) _ _ _ _ :: _) _ _; refine wpList_eql_flat rfl 29 _ _ _ rfl (bv x.id) (bv (zeros 32)) rfl rfl 2 _ flat_hash (by omega) agg_hash guard_hash (fits_hash hx.id) (fits_hash rfl) _ (bv_iff rfl) ?_)
          | (go_at_call 57; refine (rHeight_any _ _).mono ?_; rintro e w2 ⟨rfl, rfl⟩)
          | (go_at_call 61; refine (rRound_any _ _).mono ?_; rintro e w2 ⟨rfl, rfl⟩)
          | (go_at_call 52; refine (rAmount_any _ _).mono ?_; rintro e w2 ⟨rfl, rfl⟩)
          | (go_at_call 58; refine (rTime_any _ _).mono ?_; rintro e w2 ⟨rfl, rfl⟩))
        go_ret
        exact ⟨ret_i64 (by simp [plainVoteR, h0, g0, h1, g1, h2, g2]), hbl⟩
      · obtain ⟨q3, h3⟩ : ∃ q, (round x.round == 0) = q := ⟨_, rfl⟩
        cases q3
        · have g0 : (x.kind != 1) = true := by unfold bne; rw [h0]; rfl
          have g1 : (x.kind != 2) = false := by unfold bne; rw [h1]; rfl
          have g2 : (height x.height != 0) = false := by unfold bne; rw [h2]; rfl
          have g3 : (round x.round != 0) = true := by unfold bne; rw [h3]; rfl
          go_enter Tryd.func69, Tryd.ntmps69
          go_wp2_with (refine wpList_box_bk rfl _ _ rfl _ rfl ?_)
          intro g w1 hb hbl hg hs
          clear hg hs
          have c0 : w1.cell? ⟨g, 0, none⟩ = some (.int .i64 x.kind) := hb.cell 0
          have c1 : w1.cell? ⟨g, 1, none⟩ = some (.int .u64 x.height) := hb.cell 1
          have c2 : w1.cell? ⟨g, 2, none⟩ = some (.int .i64 x.round) := hb.cell 2
          have c3 : w1.cell? ⟨g, 35, none⟩ = some (.int .u64 x.time) := (hb.cell 35).trans (x.cl_35 hx.id)
          have c4 : w1.cell? ⟨g, 36, none⟩ = some (.int .u64 x.frm) := (hb.cell 36).trans (x.cl_36 hx.id)
          go_wp2_with (first
            | (with_reducible show wpList _ _ _ (Oper.mk _ (Op.load 29 _) _ _ _ _ :: _) _ _; refine wpList_load_part rfl 29 _ rfl g 3 32 rfl _ _ _ hb Tryd.underlying29 rfl info_hash (by have := x.cl_len hx; simp [this]) _ (x.cl_id hx.id) ?_)
            | (with_reducible show wpList _ _ _ (Oper.mk _ (Op.binOp BinOp.eql 29 _ _ _) _ _ _ _ :: _) _ _; refine wpList_eql_flat rfl 29 _ _ _ rfl (bv x.id) (bv (zeros 32)) rfl rfl 2 _ flat_hash (by omega) agg_hash guard_hash (fits_hash hx.id) (fits_hash rfl) _ (bv_iff rfl) ?_)
            | (go_at_call 57; refine (rHeight_any _ _).mono ?_; rintro e w2 ⟨rfl, rfl⟩)
            | (go_at_call 61; refine (rRound_any _ _).mono ?_; rintro e w2 ⟨rfl, rfl⟩)
            | (go_at_call 52; refine (rAmount_any _ _).mono ?_; rintro e w2 ⟨rfl, rfl⟩)
            | (go_at_call 58; refine (rTime_any _ _).mono ?_; rintro e w2 ⟨rfl, rfl⟩))
          go_ret
          exact ⟨ret_i64 (by simp [plainVoteR, h0, g0, h1, g1, h2, g2, h3, g3]), hbl⟩
        · obtain ⟨q4, h4⟩ : ∃ q, (moment x.time == 0) = q := ⟨_, rfl⟩
          cases q4
          · have g0 : (x.kind != 1) = true := by unfold bne; rw [h0]; rfl
            have g1 : (x.kind != 2) = false := by unfold bne; rw [h1]; rfl
            have g2 : (height x.height != 0) = false := by unfold bne; rw [h2]; rfl
            have g3 : (round x.round != 0) = false := by unfold bne; rw [h3]; rfl
            have g4 : (moment x.time != 0) = true := by unfold bne; rw [h4]; rfl
            go_enter Tryd.func69, Tryd.ntmps69
            go_wp2_with (refine wpList_box_bk rfl _ _ rfl _ rfl ?_)
            intro g w1 hb hbl hg hs
            clear hg hs
            have c0 : w1.cell? ⟨g, 0, none⟩ = some (.int .i64 x.kind) := hb.cell 0
            have c1 : w1.cell? ⟨g, 1, none⟩ = some (.int .u64 x.height) := hb.cell 1
            have c2 : w1.cell? ⟨g, 2, none⟩ = some (.int .i64 x.round) := hb.cell 2
            have c3 : w1.cell? ⟨g, 35, none⟩ = some (.int .u64 x.time) := (hb.cell 35).trans (x.cl_35 hx.id)
            have c4 : w1.cell? ⟨g, 36, none⟩ = some (.int .u64 x.frm) := (hb.cell 36).trans (x.cl_36 hx.id)
            go_wp2_with (first
              | (with_reducible show wpList _ _ _ (Oper.mk _ (Op.load 29 _) _ _ _ _ :: _) _ _; refine wpList_load_part rfl 29 _ rfl g 3 32 rfl _ _ _ hb Tryd.underlying29 rfl info_hash (by have := x.cl_len hx; simp [this]) _ (x.cl_id hx.id) ?_)
              | (with_reducible show wpList _ _ _ (Oper.mk _ (Op.binOp BinOp.eql 29 _ _ _) _ _ _ _ :: _) _ _; refine wpList_eql_flat rfl 29 _ _ _ rfl (bv x.id) (bv (zeros 32)) rfl rfl 2 _ flat_hash (by omega) agg_hash guard_hash (fits_hash hx.id) (fits_hash rfl) _ (bv_iff rfl) ?_)
              | (go_at_call 57; refine (rHeight_any _ _).mono ?_; rintro e w2 ⟨rfl, rfl⟩)
              | (go_at_call 61; refine (rRound_any _ _).mono ?_; rintro e w2 ⟨rfl, rfl⟩)
              | (go_at_call 52; refine (rAmount_any _ _).mono ?_; rintro e w2 ⟨rfl, rfl⟩)
              | (go_at_call 58; refine (rTime_any _ _).mono ?_; rintro e w2 ⟨rfl, rfl⟩))
            go_ret
            exact ⟨ret_i64 (by simp [plainVoteR, h0, g0, h1, g1, h2, g2, h3, g3, h4, g4]), hbl⟩
          · obtain ⟨q5, h5⟩ : ∃ q, (x.time == 0) = q := ⟨_, rfl⟩
            cases q5
            · obtain ⟨q6, h6⟩ : ∃ q, (x.id == zeros 32) = q := ⟨_, rfl⟩
              cases q6
              · obtain ⟨q7, h7⟩ : ∃ q, (x.frm == 0) = q := ⟨_, rfl⟩
                cases q7
                · have g0 : (x.kind != 1) = true := by unfold bne; rw [h0]; rfl
                  have g1 : (x.kind != 2) = false := by unfold bne; rw [h1]; rfl
                  have g2 : (height x.height != 0) = false := by unfold bne; rw [h2]; rfl
                  have g3 : (round x.round != 0) = false := by unfold bne; rw [h3]; rfl
                  have g4 : (moment x.time != 0) = false := by unfold bne; rw [h4]; rfl
                  have g5 : (x.time != 0) = true := by unfold bne; rw [h5]; rfl
                  have g6 : (x.id != zeros 32) = true := by unfold bne; rw [h6]; rfl
                  have g7 : (x.frm != 0) = true := by unfold bne; rw [h7]; rfl
                  go_enter Tryd.func69, Tryd.ntmps69
                  go_wp2_with (refine wpList_box_bk rfl _ _ rfl _ rfl ?_)
                  intro g w1 hb hbl hg hs
                  clear hg hs
                  have c0 : w1.cell? ⟨g, 0, none⟩ = some (.int .i64 x.kind) := hb.cell 0
                  have c1 : w1.cell? ⟨g, 1, none⟩ = some (.int .u64 x.height) := hb.cell 1
                  have c2 : w1.cell? ⟨g, 2, none⟩ = some (.int .i64 x.round) := hb.cell 2
                  have c3 : w1.cell? ⟨g, 35, none⟩ = some (.int .u64 x.time) := (hb.cell 35).trans (x.cl_35 hx.id)
                  have c4 : w1.cell? ⟨g, 36, none⟩ = some (.int .u64 x.frm) := (hb.cell 36).trans (x.cl_36 hx.id)
                  go_wp2_with (first
                    | (with_reducible show wpList _ _ _ (Oper.mk _ (Op.load 29 _) _ _ _ _ :: _) _ _; refine wpList_load_part rfl 29 _ rfl g 3 32 rfl _ _ _ hb Tryd.underlying29 rfl info_hash (by have := x.cl_len hx; simp [this]) _ (x.cl_id hx.id) ?_)
                    | (with_reducible show wpList _ _ _ (Oper.mk _ (Op.binOp BinOp.eql 29 _ _ _) _ _ _ _ :: _) _ _; refine wpList_eql_flat rfl 29 _ _ _ rfl (bv x.id) (bv (zeros 32)) rfl rfl 2 _ flat_hash (by omega) agg_hash guard_hash (fits_hash hx.id) (fits_hash rfl) _ (bv_iff rfl) ?_)
                    | (go_at_call 57; refine (rHeight_any _ _).mono ?_; rintro e w2 ⟨rfl, rfl⟩)
                    | (go_at_call 61; refine (rRound_any _ _).mono ?_; rintro e w2 ⟨rfl, rfl⟩)
                    | (go_at_call 52; refine (rAmount_any _ _).mono ?_; rintro e w2 ⟨rfl, rfl⟩)
                    | (go_at_call 58; refine (rTime_any _ _).mono ?_; rintro e w2 ⟨rfl, rfl⟩))
                  go_ret
                  exact ⟨ret_i64 (by simp [plainVoteR, h0, g0, h1, g1, h2, g2, h3, g3, h4, g4, h5, g5, h6, g6, h7, g7]), hbl⟩
                · have g0 : (x.kind != 1) = true := by unfold bne; rw [h0]; rfl
                  have g1 : (x.kind != 2) = false := by unfold bne; rw [h1]; rfl
                  have g2 : (height x.height != 0) = false := by unfold bne; rw [h2]; rfl
                  have g3 : (round x.round != 0) = false := by unfold bne; rw [h3]; rfl
                  have g4 : (moment x.time != 0) = false := by unfold bne; rw [h4]; rfl
                  have g5 : (x.time != 0) = true := by unfold bne; rw [h5]; rfl
                  have g6 : (x.id != zeros 32) = true := by unfold bne; rw [h6]; rfl
                  have g7 : (x.frm != 0) = false := by unfold bne; rw [h7]; rfl
                  go_enter Tryd.func69, Tryd.ntmps69
                  go_wp2_with (refine wpList_box_bk rfl _ _ rfl _ rfl ?_)
                  intro g w1 hb hbl hg hs
                  clear hg hs
                  have c0 : w1.cell? ⟨g, 0, none⟩ = some (.int .i64 x.kind) := hb.cell 0
                  have c1 : w1.cell? ⟨g, 1, none⟩ = some (.int .u64 x.height) := hb.cell 1
                  have c2 : w1.cell? ⟨g, 2, none⟩ = some (.int .i64 x.round) := hb.cell 2
                  have c3 : w1.cell? ⟨g, 35, none⟩ = some (.int .u64 x.time) := (hb.cell 35).trans (x.cl_35 hx.id)
                  have c4 : w1.cell? ⟨g, 36, none⟩ = some (.int .u64 x.frm) := (hb.cell 36).trans (x.cl_36 hx.id)
                  go_wp2_with (first
                    | (with_reducible show wpList _ _ _ (Oper.mk _ (Op.load 29 _) _ _ _ _ :: _) _ _; refine wpList_load_part rfl 29 _ rfl g 3 32 rfl _ _ _ hb Tryd.underlying29 rfl info_hash (by have := x.cl_len hx; simp [this]) _ (x.cl_id hx.id) ?_)
                    | (with_reducible show wpList _ _ _ (Oper.mk _ (Op.binOp BinOp.eql 29 _ _ _) _ _ _ _ :: _) _ _; refine wpList_eql_flat rfl 29 _ _ _ rfl (bv x.id) (bv (zeros 32)) rfl rfl 2 _ flat_hash (by omega) agg_hash guard_hash (fits_hash hx.id) (fits_hash rfl) _ (bv_iff rfl) ?_)
                    | (go_at_call 57; refine (rHeight_any _ _).mono ?_; rintro e w2 ⟨rfl, rfl⟩)
                    | (go_at_call 61; refine (rRound_any _ _).mono ?_; rintro e w2 ⟨rfl, rfl⟩)
                    | (go_at_call 52; refine (rAmount_any _ _).mono ?_; rintro e w2 ⟨rfl, rfl⟩)
                    | (go_at_call 58; refine (rTime_any _ _).mono ?_; rintro e w2 ⟨rfl, rfl⟩))
                  go_ret
                  exact ⟨ret_i64 (by simp [plainVoteR, h0, g0, h1, g1, h2, g2, h3, g3, h4, g4, h5, g5, h6, g6, h7, g7]), hbl⟩
              · have g0 : (x.kind != 1) = true := by unfold bne; rw [h0]; rfl
                have g1 : (x.kind != 2) = false := by unfold bne; rw [h1]; rfl
                have g2 : (height x.height != 0) = false := by unfold bne; rw [h2]; rfl
                have g3 : (round x.round != 0) = false := by unfold bne; rw [h3]; rfl
                have g4 : (moment x.time != 0) = false := by unfold bne; rw [h4]; rfl
                have g5 : (x.time != 0) = true := by unfold bne; rw [h5]; rfl
                have g6 : (x.id != zeros 32) = false := by unfold bne; rw [h6]; rfl
                go_enter Tryd.func69, Tryd.ntmps69
                go_wp2_with (refine wpList_box_bk rfl _ _ rfl _ rfl ?_)
                intro g w1 hb hbl hg hs
                clear hg hs
                have c0 : w1.cell? ⟨g, 0, none⟩ = some (.int .i64 x.kind) := hb.cell 0
                have c1 : w1.cell? ⟨g, 1, none⟩ = some (.int .u64 x.height) := hb.cell 1
                have c2 : w1.cell? ⟨g, 2, none⟩ = some (.int .i64 x.round) := hb.cell 2
                have c3 : w1.cell? ⟨g, 35, none⟩ = some (.int .u64 x.time) := (hb.cell 35).trans (x.cl_35 hx.id)
                have c4 : w1.cell? ⟨g, 36, none⟩ = some (.int .u64 x.frm) := (hb.cell 36).trans (x.cl_36 hx.id)
                go_wp2_with (first
                  | (with_reducible show wpList _ _ _ (Oper.mk _ (Op.load 29 _) _ _ _ _ :: _) _ _; refine wpList_load_part rfl 29 _ rfl g 3 32 rfl _ _ _ hb Tryd.underlying29 rfl info_hash (by have := x.cl_len hx; simp [this]) _ (x.cl_id hx.id) ?_)
                  | (with_reducible show wpList _ _ _ (Oper.mk _ (Op.binOp BinOp.eql 29 _ _ _) _ _ _ _ :: _) _ _; refine wpList_eql_flat rfl 29 _ _ _ rfl (bv x.id) (bv (zeros 32)) rfl rfl 2 _ flat_hash (by omega) agg_hash guard_hash (fits_hash hx.id) (fits_hash rfl) _ (bv_iff rfl) ?_)
                  | (go_at_call 57; refine (rHeight_any _ _).mono ?_; rintro e w2 ⟨rfl, rfl⟩)
                  | (go_at_call 61; refine (rRound_any _ _).mono ?_; rintro e w2 ⟨rfl, rfl⟩)
                  | (go_at_call 52; refine (rAmount_any _ _).mono ?_; rintro e w2 ⟨rfl, rfl⟩)
                  | (go_at_call 58; refine (rTime_any _ _).mono ?_; rintro e w2 ⟨rfl, rfl⟩))
                go_ret
                exact ⟨ret_i64 (by simp [plainVoteR, h0, g0, h1, g1, h2, g2, h3, g3, h4, g4, h5, g5, h6, g6]), hbl⟩
            · obtain ⟨q6, h6⟩ : ∃ q, (x.frm == 0) = q := ⟨_, rfl⟩
              cases q6
              · have g0 : (x.kind != 1) = true := by unfold bne; rw [h0]; rfl
                have g1 : (x.kind != 2) = false := by unfold bne; rw [h1]; rfl
                have g2 : (height x.height != 0) = false := by unfold bne; rw [h2]; rfl
                have g3 : (round x.round != 0) = false := by unfold bne; rw [h3]; rfl
                have g4 : (moment x.time != 0) = false := by unfold bne; rw [h4]; rfl
                have g5 : (x.time != 0) = false := by unfold bne; rw [h5]; rfl
                have g6 : (x.frm != 0) = true := by unfold bne; rw [h6]; rfl
                go_enter Tryd.func69, Tryd.ntmps69
                go_wp2_with (refine wpList_box_bk rfl _ _ rfl _ rfl ?_)
                intro g w1 hb hbl hg hs
                clear hg hs
                have c0 : w1.cell? ⟨g, 0, none⟩ = some (.int .i64 x.kind) := hb.cell 0
                have c1 : w1.cell? ⟨g, 1, none⟩ = some (.int .u64 x.height) := hb.cell 1
                have c2 : w1.cell? ⟨g, 2, none⟩ = some (.int .i64 x.round) := hb.cell 2
                have c3 : w1.cell? ⟨g, 35, none⟩ = some (.int .u64 x.time) := (hb.cell 35).trans (x.cl_35 hx.id)
                have c4 : w1.cell? ⟨g, 36, none⟩ = some (.int .u64 x.frm) := (hb.cell 36).trans (x.cl_36 hx.id)
                go_wp2_with (first
                  | (with_reducible show wpList _ _ _ (Oper.mk _ (Op.load 29 _) _ _ _ _ :: _) _ _; refine wpList_load_part rfl 29 _ rfl g 3 32 rfl _ _ _ hb Tryd.underlying29 rfl info_hash (by have := x.cl_len hx; simp [this]) _ (x.cl_id hx.id) ?_)
                  | (with_reducible show wpList _ _ _ (Oper.mk _ (Op.binOp BinOp.eql 29 _ _ _) _ _ _ _ :: _) _ _; refine wpList_eql_flat rfl 29 _ _ _ rfl (bv x.id) (bv (zeros 32)) rfl rfl 2 _ flat_hash (by omega) agg_hash guard_hash (fits_hash hx.id) (fits_hash rfl) _ (bv_iff rfl) ?_)
                  | (go_at_call 57; refine (rHeight_any _ _).mono ?_; rintro e w2 ⟨rfl, rfl⟩)
                  | (go_at_call 61; refine (rRound_any _ _).mono ?_; rintro e w2 ⟨rfl, rfl⟩)
                  | (go_at_call 52; refine (rAmount_any _ _).mono ?_; rintro e w2 ⟨rfl, rfl⟩)
                  | (go_at_call 58; refine (rTime_any _ _).mono ?_; rintro e w2 ⟨rfl, rfl⟩))
                go_ret
                exact ⟨ret_i64 (by simp [plainVoteR, h0, g0, h1, g1, h2, g2, h3, g3, h4, g4, h5, g5, h6, g6]), hbl⟩
              · have g0 : (x.kind != 1) = true := by unfold bne; rw [h0]; rfl
                have g1 : (x.kind != 2) = false := by unfold bne; rw [h1]; rfl
                have g2 : (height x.height != 0) = false := by unfold bne; rw [h2]; rfl
                have g3 : (round x.round != 0) = false := by unfold bne; rw [h3]; rfl
                have g4 : (moment x.time != 0) = false := by unfold bne; rw [h4]; rfl
                have g5 : (x.time != 0) = false := by unfold bne; rw [h5]; rfl
                have g6 : (x.frm != 0) = false := by unfold bne; rw [h6]; rfl
                go_enter Tryd.func69, Tryd.ntmps69
                go_wp2_with (refine wpList_box_bk rfl _ _ rfl _ rfl ?_)
                intro g w1 hb hbl hg hs
                clear hg hs
                have c0 : w1.cell? ⟨g, 0, none⟩ = some (.int .i64 x.kind) := hb.cell 0
                have c1 : w1.cell? ⟨g, 1, none⟩ = some (.int .u64 x.height) := hb.cell 1
                have c2 : w1.cell? ⟨g, 2, none⟩ = some (.int .i64 x.round) := hb.cell 2
                have c3 : w1.cell? ⟨g, 35, none⟩ = some (.int .u64 x.time) := (hb.cell 35).trans (x.cl_35 hx.id)
                have c4 : w1.cell? ⟨g, 36, none⟩ = some (.int .u64 x.frm) := (hb.cell 36).trans (x.cl_36 hx.id)
                go_wp2_with (first
                  | (with_reducible show wpList _ _ _ (Oper.mk _ (Op.load 29 _) _ _ _ _ :: _) _ _; refine wpList_load_part rfl 29 _ rfl g 3 32 rfl _ _ _ hb Tryd.underlying29 rfl info_hash (by have := x.cl_len hx; simp [this]) _ (x.cl_id hx.id) ?_)
                  | (with_reducible show wpList _ _ _ (Oper.mk _ (Op.binOp BinOp.eql 29 _ _ _) _ _ _ _ :: _) _ _; refine wpList_eql_flat rfl 29 _ _ _ rfl (bv x.id) (bv (zeros 32)) rfl rfl 2 _ flat_hash (by omega) agg_hash guard_hash (fits_hash hx.id) (fits_hash rfl) _ (bv_iff rfl) ?_)
                  | (go_at_call 57; refine (rHeight_any _ _).mono ?_; rintro e w2 ⟨rfl, rfl⟩)
                  | (go_at_call 61; refine (rRound_any _ _).mono ?_; rintro e w2 ⟨rfl, rfl⟩)
                  | (go_at_call 52; refine (rAmount_any _ _).mono ?_; rintro e w2 ⟨rfl, rfl⟩)
                  | (go_at_call 58; refine (rTime_any _ _).mono ?_; rintro e w2 ⟨rfl, rfl⟩))
                go_ret
                exact ⟨ret_i64 (by simp [plainVoteR, h0, g0, h1, g1, h2, g2, h3, g3, h4, g4, h5, g5, h6, g6]), hbl⟩
  · obtain ⟨q1, h1⟩ : ∃ q, (height x.height == 0) = q := ⟨_, rfl⟩
    cases q1
    · have g0 : (x.kind != 1) = false := by unfold bne; rw [h0]; rfl
      have g1 : (height x.height != 0) = true := by unfold bne; rw [h1]; rfl
      go_enter Tryd.func69, Tryd.ntmps69
      go_wp2_with (refine wpList_box_bk rfl _ _ rfl _ rfl ?_)
      intro g w1 hb hbl hg hs
      clear hg hs
      have c0 : w1.cell? ⟨g, 0, none⟩ = some (.int .i64 x.kind) := hb.cell 0
      have c1 : w1.cell? ⟨g, 1, none⟩ = some (.int .u64 x.height) := hb.cell 1
      have c2 : w1.cell? ⟨g, 2, none⟩ = some (.int .i64 x.round) := hb.cell 2
      have c3 : w1.cell? ⟨g, 35, none⟩ = some (.int .u64 x.time) := (hb.cell 35).trans (x.cl_35 hx.id)
      have c4 : w1.cell? ⟨g, 36, none⟩ = some (.int .u64 x.frm) := (hb.cell 36).trans (x.cl_36 hx.id)
      go_wp2_with (first
        | (with_reducible show wpList _ _ _ (Oper.mk _ (Op.load 29 _) _ _ _ _ :: _) _ _; refine wpList_load_part rfl 29 _ rfl g 3 32 rfl _ _ _ hb Tryd.underlying29 rfl info_hash (by have := x.cl_len hx; simp [this]) _ (x.cl_id hx.id) ?_)
        | (with_reducible show wpList _ _ _ (Oper.mk _ (Op.binOp BinOp.eql 29 _ _ _) _ _ _ _ :: _) _ _; refine wpList_eql_flat rfl 29 _ _ _ rfl (bv x.id) (bv (zeros 32)) rfl rfl 2 _ flat_hash (by omega) agg_hash guard_hash (fits_hash hx.id) (fits_hash rfl) _ (bv_iff rfl) ?_)
        | (go_at_call 57; refine (rHeight_any _ _).mono ?_; rintro e w2 ⟨rfl, rfl⟩)
        | (go_at_call 61; refine (rRound_any _ _).mono ?_; rintro e w2 ⟨rfl, rfl⟩)
        | (go_at_call 52; refine (rAmount_any _ _).mono ?_; rintro e w2 ⟨rfl, rfl⟩)
        | (go_at_call 58; refine (rTime_any _ _).mono ?_; rintro e w2 ⟨rfl, rfl⟩))
      go_ret
      exact ⟨ret_i64 (by simp [plainVoteR, h0, g0, h1, g1]), hbl⟩
    · obtain ⟨q2, h2⟩ : ∃ q, (round x.round == 0) = q := ⟨_, rfl⟩
      cases q2
      · have g0 : (x.kind != 1) = false := by unfold bne; rw [h0]; rfl
        have g1 : (height x.height != 0) = false := by unfold bne; rw [h1]; rfl
        have g2 : (round x.round != 0) = true := by unfold bne; rw [h2]; rfl
        go_enter Tryd.func69, Tryd.ntmps69
        go_wp2_with (refine wpList_box_bk rfl _ _ rfl _ rfl ?_)
        intro g w1 hb hbl hg hs
        clear hg hs
        have c0 : w1.cell? ⟨g, 0, none⟩ = some (.int .i64 x.kind) := hb.cell 0
        have c1 : w1.cell? ⟨g, 1, none⟩ = some (.int .u64 x.height) := hb.cell 1
        have c2 : w1.cell? ⟨g, 2, none⟩ = some (.int .i64 x.round) := hb.cell 2
        have c3 : w1.cell? ⟨g, 35, none⟩ = some (.int .u64 x.time) := (hb.cell 35).trans (x.cl_35 hx.id)
        have c4 : w1.cell? ⟨g, 36, none⟩ = some (.int .u64 x.frm) := (hb.cell 36).trans (x.cl_36 hx.id)
        go_wp2_with (first
          | (with_reducible show wpList _ _ _ (Oper.mk _ (Op.load 29 _) _ _ _ _ :: _) _ _; refine wpList_load_part rfl 29 _ rfl g 3 32 rfl _ _ _ hb Tryd.underlying29 rfl info_hash (by have := x.cl_len hx; simp [this]) _ (x.cl_id hx.id) ?_)
          | (with_reducible show wpList _ _ _ (Oper.mk _ (Op.binOp BinOp.eql 29 _ _ _) _ _ _ _ :: _) _ _; refine wpList_eql_flat rfl 29 _ _ _ rfl (bv x.id) (bv (zeros 32)) rfl rfl 2 _ flat_hash (by omega) agg_hash guard_hash (fits_hash hx.id) (fits_hash rfl) _ (bv_iff rfl) ?_)
          | (go_at_call 57; refine (rHeight_any _ _).mono ?_; rintro e w2 ⟨rfl, rfl⟩)
          | (go_at_call 61; refine (rRound_any _ _).mono ?_; rintro e w2 ⟨rfl, rfl⟩)
          | (go_at_call 52; refine (rAmount_any _ _).mono ?_; rintro e w2 ⟨rfl, rfl⟩)
          | (go_at_call 58; refine (rTime_any _ _).mono ?_; rintro e w2 ⟨rfl, rfl⟩))
        go_ret
        exact ⟨ret_i64 (by simp [plainVoteR, h0, g0, h1, g1, h2, g2]), hbl⟩
      · obtain ⟨q3, h3⟩ : ∃ q, (moment x.time == 0) = q := ⟨_, rfl⟩
        cases q3
        · have g0 : (x.kind != 1) = false := by unfold bne; rw [h0]; rfl
          have g1 : (height x.height != 0) = false := by unfold bne; rw [h1]; rfl
          have g2 : (round x.round != 0) = false := by unfold bne; rw [h2]; rfl
          have g3 : (moment x.time != 0) = true := by unfold bne; rw [h3]; rfl
          go_enter Tryd.func69, Tryd.ntmps69
          go_wp2_with (refine wpList_box_bk rfl _ _ rfl _ rfl ?_)
          intro g w1 hb hbl hg hs
          clear hg hs
          have c0 : w1.cell? ⟨g, 0, none⟩ = some (.int .i64 x.kind) := hb.cell 0
          have c1 : w1.cell? ⟨g, 1, none⟩ = some (.int .u64 x.height) := hb.cell 1
          have c2 : w1.cell? ⟨g, 2, none⟩ = some (.int .i64 x.round) := hb.cell 2
          have c3 : w1.cell? ⟨g, 35, none⟩ = some (.int .u64 x.time) := (hb.cell 35).trans (x.cl_35 hx.id)
          have c4 : w1.cell? ⟨g, 36, none⟩ = some (.int .u64 x.frm) := (hb.cell 36).trans (x.cl_36 hx.id)
          go_wp2_with (first
            | (with_reducible show wpList _ _ _ (Oper.mk _ (Op.load 29 _) _ _ _ _ :: _) _ _; refine wpList_load_part rfl 29 _ rfl g 3 32 rfl _ _ _ hb Tryd.underlying29 rfl info_hash (by have := x.cl_len hx; simp [this]) _ (x.cl_id hx.id) ?_)
            | (with_reducible show wpList _ _ _ (Oper.mk _ (Op.binOp BinOp.eql 29 _ _ _) _ _ _ _ :: _) _ _; refine wpList_eql_flat rfl 29 _ _ _ rfl (bv x.id) (bv (zeros 32)) rfl rfl 2 _ flat_hash (by omega) agg_hash guard_hash (fits_hash hx.id) (fits_hash rfl) _ (bv_iff rfl) ?_)
            | (go_at_call 57; refine (rHeight_any _ _).mono ?_; rintro e w2 ⟨rfl, rfl⟩)
            | (go_at_call 61; refine (rRound_any _ _).mono ?_; rintro e w2 ⟨rfl, rfl⟩)
            | (go_at_call 52; refine (rAmount_any _ _).mono ?_; rintro e w2 ⟨rfl, rfl⟩)
            | (go_at_call 58; refine (rTime_any _ _).mono ?_; rintro e w2 ⟨rfl, rfl⟩))
          go_ret
          exact ⟨ret_i64 (by simp [plainVoteR, h0, g0, h1, g1, h2, g2, h3, g3]), hbl⟩
        · obtain ⟨q4, h4⟩ : ∃ q, (x.time == 0) = q := ⟨_, rfl⟩
          cases q4
          · have g0 : (x.kind != 1) = false := by unfold bne; rw [h0]; rfl
            have g1 : (height x.height != 0) = false := by unfold bne; rw [h1]; rfl
            have g2 : (round x.round != 0) = false := by unfold bne; rw [h2]; rfl
            have g3 : (moment x.time != 0) = false := by unfold bne; rw [h3]; rfl
            have g4 : (x.time != 0) = true := by unfold bne; rw [h4]; rfl
            go_enter Tryd.func69, Tryd.ntmps69
            go_wp2_with (refine wpList_box_bk rfl _ _ rfl _ rfl ?_)
            intro g w1 hb hbl hg hs
            clear hg hs
            have c0 : w1.cell? ⟨g, 0, none⟩ = some (.int .i64 x.kind) := hb.cell 0
            have c1 : w1.cell? ⟨g, 1, none⟩ = some (.int .u64 x.height) := hb.cell 1
            have c2 : w1.cell? ⟨g, 2, none⟩ = some (.int .i64 x.round) := hb.cell 2
            have c3 : w1.cell? ⟨g, 35, none⟩ = some (.int .u64 x.time) := (hb.cell 35).trans (x.cl_35 hx.id)
            have c4 : w1.cell? ⟨g, 36, none⟩ = some (.int .u64 x.frm) := (hb.cell 36).trans (x.cl_36 hx.id)
            go_wp2_with (first
              | (with_reducible show wpList _ _ _ (Oper.mk _ (Op.load 29 _) _ _ _ _ :: _) _ _; refine wpList_load_part rfl 29 _ rfl g 3 32 rfl _ _ _ hb Tryd.underlying29 rfl info_hash (by have := x.cl_len hx; simp [this]) _ (x.cl_id hx.id) ?_)
              | (with_reducible show wpList _ _ _ (Oper.mk _ (Op.binOp BinOp.eql 29 _ _ _) _ _ _ _ :: _) _ _; refine wpList_eql_flat rfl 29 _ _ _ rfl (bv x.id) (bv (zeros 32)) rfl rfl 2 _ flat_hash (by omega) agg_hash guard_hash (fits_hash hx.id) (fits_hash rfl) _ (bv_iff rfl) ?_)
              | (go_at_call 57; refine (rHeight_any _ _).mono ?_; rintro e w2 ⟨rfl, rfl⟩)
              | (go_at_call 61; refine (rRound_any _ _).mono ?_; rintro e w2 ⟨rfl, rfl⟩)
              | (go_at_call 52; refine (rAmount_any _ _).mono ?_; rintro e w2 ⟨rfl, rfl⟩)
              | (go_at_call 58; refine (rTime_any _ _).mono ?_; rintro e w2 ⟨rfl, rfl⟩))
            go_ret
            exact ⟨ret_i64 (by simp [plainVoteR, h0, g0, h1, g1, h2, g2, h3, g3, h4, g4]), hbl⟩
          · obtain ⟨q5, h5⟩ : ∃ q, (x.frm == 0) = q := ⟨_, rfl⟩
            cases q5
            · have g0 : (x.kind != 1) = false := by unfold bne; rw [h0]; rfl
              have g1 : (height x.height != 0) = false := by unfold bne; rw [h1]; rfl
              have g2 : (round x.round != 0) = false := by unfold bne; rw [h2]; rfl
              have g3 : (moment x.time != 0) = false := by unfold bne; rw [h3]; rfl
              have g4 : (x.time != 0) = false := by unfold bne; rw [h4]; rfl
              have g5 : (x.frm != 0) = true := by unfold bne; rw [h5]; rfl
              go_enter Tryd.func69, Tryd.ntmps69
              go_wp2_with (refine wpList_box_bk rfl _ _ rfl _ rfl ?_)
              intro g w1 hb hbl hg hs
              clear hg hs
              have c0 : w1.cell? ⟨g, 0, none⟩ = some (.int .i64 x.kind) := hb.cell 0
              have c1 : w1.cell? ⟨g, 1, none⟩ = some (.int .u64 x.height) := hb.cell 1
              have c2 : w1.cell? ⟨g, 2, none⟩ = some (.int .i64 x.round) := hb.cell 2
              have c3 : w1.cell? ⟨g, 35, none⟩ = some (.int .u64 x.time) := (hb.cell 35).trans (x.cl_35 hx.id)
              have c4 : w1.cell? ⟨g, 36, none⟩ = some (.int .u64 x.frm) := (hb.cell 36).trans (x.cl_36 hx.id)
              go_wp2_with (first
                | (with_reducible show wpList _ _ _ (Oper.mk _ (Op.load 29 _) _ _ _ _ :: _) _ _; refine wpList_load_part rfl 29 _ rfl g 3 32 rfl _ _ _ hb Tryd.underlying29 rfl info_hash (by have := x.cl_len hx; simp [this]) _ (x.cl_id hx.id) ?_)
                | (with_reducible show wpList _ _ _ (Oper.mk _ (Op.binOp BinOp.eql 29 _ _ _) _ _ _ _ :: _) _ _; refine wpList_eql_flat rfl 29 _ _ _ rfl (bv x.id) (bv (zeros 32)) rfl rfl 2 _ flat_hash (by omega) agg_hash guard_hash (fits_hash hx.id) (fits_hash rfl) _ (bv_iff rfl) ?_)
                | (go_at_call 57; refine (rHeight_any _ _).mono ?_; rintro e w2 ⟨rfl, rfl⟩)
                | (go_at_call 61; refine (rRound_any _ _).mono ?_; rintro e w2 ⟨rfl, rfl⟩)
                | (go_at_call 52; refine (rAmount_any _ _).mono ?_; rintro e w2 ⟨rfl, rfl⟩)
                | (go_at_call 58; refine (rTime_any _ _).mono ?_; rintro e w2 ⟨rfl, rfl⟩))
              go_ret
              exact ⟨ret_i64 (by simp [plainVoteR, h0, g0, h1, g1, h2, g2, h3, g3, h4, g4, h5, g5]), hbl⟩
            · have g0 : (x.kind != 1) = false := by unfold bne; rw [h0]; rfl
              have g1 : (height x.height != 0) = false := by unfold bne; rw [h1]; rfl
              have g2 : (round x.round != 0) = false := by unfold bne; rw [h2]; rfl
              have g3 : (moment x.time != 0) = false := by unfold bne; rw [h3]; rfl
              have g4 : (x.time != 0) = false := by unfold bne; rw [h4]; rfl
              have g5 : (x.frm != 0) = false := by unfold bne; rw [h5]; rfl
              go_enter Tryd.func69, Tryd.ntmps69
              go_wp2_with (refine wpList_box_bk rfl _ _ rfl _ rfl ?_)
              intro g w1 hb hbl hg hs
              clear hg hs
              have c0 : w1.cell? ⟨g, 0, none⟩ = some (.int .i64 x.kind) := hb.cell 0
              have c1 : w1.cell? ⟨g, 1, none⟩ = some (.int .u64 x.height) := hb.cell 1
              have c2 : w1.cell? ⟨g, 2, none⟩ = some (.int .i64 x.round) := hb.cell 2
              have c3 : w1.cell? ⟨g, 35, none⟩ = some (.int .u64 x.time) := (hb.cell 35).trans (x.cl_35 hx.id)
              have c4 : w1.cell? ⟨g, 36, none⟩ = some (.int .u64 x.frm) := (hb.cell 36).trans (x.cl_36 hx.id)
              go_wp2_with (first
                | (with_reducible show wpList _ _ _ (Oper.mk _ (Op.load 29 _) _ _ _ _ :: _) _ _; refine wpList_load_part rfl 29 _ rfl g 3 32 rfl _ _ _ hb Tryd.underlying29 rfl info_hash (by have := x.cl_len hx; simp [this]) _ (x.cl_id hx.id) ?_)
                | (with_reducible show wpList _ _ _ (Oper.mk _ (Op.binOp BinOp.eql 29 _ _ _) _ _ _ _ :: _) _ _; refine wpList_eql_flat rfl 29 _ _ _ rfl (bv x.id) (bv (zeros 32)) rfl rfl 2 _ flat_hash (by omega) agg_hash guard_hash (fits_hash hx.id) (fits_hash rfl) _ (bv_iff rfl) ?_)
                | (go_at_call 57; refine (rHeight_any _ _).mono ?_; rintro e w2 ⟨rfl, rfl⟩)
                | (go_at_call 61; refine (rRound_any _ _).mono ?_; rintro e w2 ⟨rfl, rfl⟩)
                | (go_at_call 52; refine (rAmount_any _ _).mono ?_; rintro e w2 ⟨rfl, rfl⟩)
                | (go_at_call 58; refine (rTime_any _ _).mono ?_; rintro e w2 ⟨rfl, rfl⟩))
              go_ret
              exact ⟨ret_i64 (by simp [plainVoteR, h0, g0, h1, g1, h2, g2, h3, g3, h4, g4, h5, g5]), hbl⟩

set_option maxHeartbeats 20000000 in
theorem rPlainTx_any (w : World) (x : Tx) :
    Calls Tryd.prog 24 #[.agg x.cl.toArray] w fun e w' => e = .returned (.int .i64 (plainTxR x)) ∧ Below w.heap.size w w' := by
  obtain ⟨q0, h0⟩ : ∃ q, (decide (x.kind < 1)) = q := ⟨_, rfl⟩
  cases q0
  · obtain ⟨q1, h1⟩ : ∃ q, (decide (4 < x.kind)) = q := ⟨_, rfl⟩
    cases q1
    · obtain ⟨q2, h2⟩ : ∃ q, (x.frm == 0) = q := ⟨_, rfl⟩
      cases q2
      · obtain ⟨q3, h3⟩ : ∃ q, ((x.kind == 1) == (x.to == 0)) = q := ⟨_, rfl⟩
        cases q3
        · obtain ⟨q4, h4⟩ : ∃ q, (amount x.amount == 0) = q := ⟨_, rfl⟩
          cases q4
          · have g2 : (x.frm != 0) = true := by unfold bne; rw [h2]; rfl
            have g4 : (amount x.amount != 0) = true := by unfold bne; rw [h4]; rfl
            go_enter Tryd.func24, Tryd.ntmps24
            go_wp2_with (refine wpList_box_bk rfl _ _ rfl _ rfl ?_)
            intro g w1 hb hbl hg hs
            clear hg hs
            have c0 : w1.cell? ⟨g, 0, none⟩ = some (.int .i64 x.kind) := hb.cell 0
            have c1 : w1.cell? ⟨g, 1, none⟩ = some (.int .u64 x.frm) := hb.cell 1
            have c2 : w1.cell? ⟨g, 2, none⟩ = some (.int .u64 x.to) := hb.cell 2
            have c3 : w1.cell? ⟨g, 3, none⟩ = some (.int .u64 x.amount) := hb.cell 3
            have c4 : w1.cell? ⟨g, 4, none⟩ = some (.int .u64 x.fee) := hb.cell 4
            go_wp2_with (first
              | (go_at_call 57; refine (rHeight_any _ _).mono ?_; rintro e w2 ⟨rfl, rfl⟩)
              | (go_at_call 61; refine (rRound_any _ _).mono ?_; rintro e w2 ⟨rfl, rfl⟩)
              | (go_at_call 52; refine (rAmount_any _ _).mono ?_; rintro e w2 ⟨rfl, rfl⟩)
              | (go_at_call 58; refine (rTime_any _ _).mono ?_; rintro e w2 ⟨rfl, rfl⟩))
            go_ret
            exact ⟨ret_i64 (by simp [plainTxR, h0, h1, h2, g2, h3, h4, g4]), hbl⟩
          · obtain ⟨q5, h5⟩ : ∃ q, (x.kind == 4) = q := ⟨_, rfl⟩
            cases q5
            · obtain ⟨q6, h6⟩ : ∃ q, (amount x.fee == 0) = q := ⟨_, rfl⟩
              cases q6
              · have g2 : (x.frm != 0) = true := by unfold bne; rw [h2]; rfl
                have g4 : (amount x.amount != 0) = false := by unfold bne; rw [h4]; rfl
                have g5 : (x.kind != 4) = true := by unfold bne; rw [h5]; rfl
                have g6 : (amount x.fee != 0) = true := by unfold bne; rw [h6]; rfl
                go_enter Tryd.func24, Tryd.ntmps24
                go_wp2_with (refine wpList_box_bk rfl _ _ rfl _ rfl ?_)
                intro g w1 hb hbl hg hs
                clear hg hs
                have c0 : w1.cell? ⟨g, 0, none⟩ = some (.int .i64 x.kind) := hb.cell 0
                have c1 : w1.cell? ⟨g, 1, none⟩ = some (.int .u64 x.frm) := hb.cell 1
                have c2 : w1.cell? ⟨g, 2, none⟩ = some (.int .u64 x.to) := hb.cell 2
                have c3 : w1.cell? ⟨g, 3, none⟩ = some (.int .u64 x.amount) := hb.cell 3
                have c4 : w1.cell? ⟨g, 4, none⟩ = some (.int .u64 x.fee) := hb.cell 4
                go_wp2_with (first
                  | (go_at_call 57; refine (rHeight_any _ _).mono ?_; rintro e w2 ⟨rfl, rfl⟩)
                  | (go_at_call 61; refine (rRound_any _ _).mono ?_; rintro e w2 ⟨rfl, rfl⟩)
                  | (go_at_call 52; refine (rAmount_any _ _).mono ?_; rintro e w2 ⟨rfl, rfl⟩)
                  | (go_at_call 58; refine (rTime_any _ _).mono ?_; rintro e w2 ⟨rfl, rfl⟩))
                go_ret
                exact ⟨ret_i64 (by simp [plainTxR, h0, h1, h2, g2, h3, h4, g4, h5, g5, h6, g6]), hbl⟩
              · have g2 : (x.frm != 0) = true := by unfold bne; rw [h2]; rfl
                have g4 : (amount x.amount != 0) = false := by unfold bne; rw [h4]; rfl
                have g5 : (x.kind != 4) = true := by unfold bne; rw [h5]; rfl
                have g6 : (amount x.fee != 0) = false := by unfold bne; rw [h6]; rfl
                go_enter Tryd.func24, Tryd.ntmps24
                go_wp2_with (refine wpList_box_bk rfl _ _ rfl _ rfl ?_)
                intro g w1 hb hbl hg hs
                clear hg hs
                have c0 : w1.cell? ⟨g, 0, none⟩ = some (.int .i64 x.kind) := hb.cell 0
                have c1 : w1.cell? ⟨g, 1, none⟩ = some (.int .u64 x.frm) := hb.cell 1
                have c2 : w1.cell? ⟨g, 2, none⟩ = some (.int .u64 x.to) := hb.cell 2
                have c3 : w1.cell? ⟨g, 3, none⟩ = some (.int .u64 x.amount) := hb.cell 3
                have c4 : w1.cell? ⟨g, 4, none⟩ = some (.int .u64 x.fee) := hb.cell 4
                go_wp2_with (first
                  | (go_at_call 57; refine (rHeight_any _ _).mono ?_; rintro e w2 ⟨rfl, rfl⟩)
                  | (go_at_call 61; refine (rRound_any _ _).mono ?_; rintro e w2 ⟨rfl, rfl⟩)
                  | (go_at_call 52; refine (rAmount_any _ _).mono ?_; rintro e w2 ⟨rfl, rfl⟩)
                  | (go_at_call 58; refine (rTime_any _ _).mono ?_; rintro e w2 ⟨rfl, rfl⟩))
                go_ret
                exact ⟨ret_i64 (by simp [plainTxR, h0, h1, h2, g2, h3, h4, g4, h5, g5, h6, g6]), hbl⟩
            · obtain ⟨q6, h6⟩ : ∃ q, (x.amount == 0) = q := ⟨_, rfl⟩
              cases q6
              · have g2 : (x.frm != 0) = true := by unfold bne; rw [h2]; rfl
                have g4 : (amount x.amount != 0) = false := by unfold bne; rw [h4]; rfl
                have g5 : (x.kind != 4) = false := by unfold bne; rw [h5]; rfl
                have g6 : (x.amount != 0) = true := by unfold bne; rw [h6]; rfl
                go_enter Tryd.func24, Tryd.ntmps24
                go_wp2_with (refine wpList_box_bk rfl _ _ rfl _ rfl ?_)
                intro g w1 hb hbl hg hs
                clear hg hs
                have c0 : w1.cell? ⟨g, 0, none⟩ = some (.int .i64 x.kind) := hb.cell 0
                have c1 : w1.cell? ⟨g, 1, none⟩ = some (.int .u64 x.frm) := hb.cell 1
                have c2 : w1.cell? ⟨g, 2, none⟩ = some (.int .u64 x.to) := hb.cell 2
                have c3 : w1.cell? ⟨g, 3, none⟩ = some (.int .u64 x.amount) := hb.cell 3
                have c4 : w1.cell? ⟨g, 4, none⟩ = some (.int .u64 x.fee) := hb.cell 4
                go_wp2_with (first
                  | (go_at_call 57; refine (rHeight_any _ _).mono ?_; rintro e w2 ⟨rfl, rfl⟩)
                  | (go_at_call 61; refine (rRound_any _ _).mono ?_; rintro e w2 ⟨rfl, rfl⟩)
                  | (go_at_call 52; refine (rAmount_any _ _).mono ?_; rintro e w2 ⟨rfl, rfl⟩)
                  | (go_at_call 58; refine (rTime_any _ _).mono ?_; rintro e w2 ⟨rfl, rfl⟩))
                go_ret
                exact ⟨ret_i64 (by simp [plainTxR, h0, h1, h2, g2, h3, h4, g4, h5, g5, h6, g6]), hbl⟩
              · obtain ⟨q7, h7⟩ : ∃ q, (amount x.fee == 0) = q := ⟨_, rfl⟩
                cases q7
                · have g2 : (x.frm != 0) = true := by unfold bne; rw [h2]; rfl
                  have g4 : (amount x.amount != 0) = false := by unfold bne; rw [h4]; rfl
                  have g5 : (x.kind != 4) = false := by unfold bne; rw [h5]; rfl
                  have g6 : (x.amount != 0) = false := by unfold bne; rw [h6]; rfl
                  have g7 : (amount x.fee != 0) = true := by unfold bne; rw [h7]; rfl
                  go_enter Tryd.func24, Tryd.ntmps24
                  go_wp2_with (refine wpList_box_bk rfl _ _ rfl _ rfl ?_)
                  intro g w1 hb hbl hg hs
                  clear hg hs
                  have c0 : w1.cell? ⟨g, 0, none⟩ = some (.int .i64 x.kind) := hb.cell 0
                  have c1 : w1.cell? ⟨g, 1, none⟩ = some (.int .u64 x.frm) := hb.cell 1
                  have c2 : w1.cell? ⟨g, 2, none⟩ = some (.int .u64 x.to) := hb.cell 2
                  have c3 : w1.cell? ⟨g, 3, none⟩ = some (.int .u64 x.amount) := hb.cell 3
                  have c4 : w1.cell? ⟨g, 4, none⟩ = some (.int .u64 x.fee) := hb.cell 4
                  go_wp2_with (first
                    | (go_at_call 57; refine (rHeight_any _ _).mono ?_; rintro e w2 ⟨rfl, rfl⟩)
                    | (go_at_call 61; refine (rRound_any _ _).mono ?_; rintro e w2 ⟨rfl, rfl⟩)
                    | (go_at_call 52; refine (rAmount_any _ _).mono ?_; rintro e w2 ⟨rfl, rfl⟩)
                    | (go_at_call 58; refine (rTime_any _ _).mono ?_; rintro e w2 ⟨rfl, rfl⟩))
                  go_ret
                  exact ⟨ret_i64 (by simp [plainTxR, h0, h1, h2, g2, h3, h4, g4, h5, g5, h6, g6, h7, g7]), hbl⟩
                · have g2 : (x.frm != 0) = true := by unfold bne; rw [h2]; rfl
                  have g4 : (amount x.amount != 0) = false := by unfold bne; rw [h4]; rfl
                  have g5 : (x.kind != 4) = false := by unfold bne; rw [h5]; rfl
                  have g6 : (x.amount != 0) = false := by unfold bne; rw [h6]; rfl
                  have g7 : (amount x.fee != 0) = false := by unfold bne; rw [h7]; rfl
                  go_enter Tryd.func24, Tryd.ntmps24
                  go_wp2_with (refine wpList_box_bk rfl _ _ rfl _ rfl ?_)
                  intro g w1 hb hbl hg hs
                  clear hg hs
                  have c0 : w1.cell? ⟨g, 0, none⟩ = some (.int .i64 x.kind) := hb.cell 0
                  have c1 : w1.cell? ⟨g, 1, none⟩ = some (.int .u64 x.frm) := hb.cell 1
                  have c2 : w1.cell? ⟨g, 2, none⟩ = some (.int .u64 x.to) := hb.cell 2
                  have c3 : w1.cell? ⟨g, 3, none⟩ = some (.int .u64 x.amount) := hb.cell 3
                  have c4 : w1.cell? ⟨g, 4, none⟩ = some (.int .u64 x.fee) := hb.cell 4
                  go_wp2_with (first
                    | (go_at_call 57; refine (rHeight_any _ _).mono ?_; rintro e w2 ⟨rfl, rfl⟩)
                    | (go_at_call 61; refine (rRound_any _ _).mono ?_; rintro e w2 ⟨rfl, rfl⟩)
                    | (go_at_call 52; refine (rAmount_any _ _).mono ?_; rintro e w2 ⟨rfl, rfl⟩)
                    | (go_at_call 58; refine (rTime_any _ _).mono ?_; rintro e w2 ⟨rfl, rfl⟩))
                  go_ret
                  exact ⟨ret_i64 (by simp [plainTxR, h0, h1, h2, g2, h3, h4, g4, h5, g5, h6, g6, h7, g7]), hbl⟩
        · have g2 : (x.frm != 0) = true := by unfold bne; rw [h2]; rfl
          go_enter Tryd.func24, Tryd.ntmps24
          go_wp2_with (refine wpList_box_bk rfl _ _ rfl _ rfl ?_)
          intro g w1 hb hbl hg hs
          clear hg hs
          have c0 : w1.cell? ⟨g, 0, none⟩ = some (.int .i64 x.kind) := hb.cell 0
          have c1 : w1.cell? ⟨g, 1, none⟩ = some (.int .u64 x.frm) := hb.cell 1
          have c2 : w1.cell? ⟨g, 2, none⟩ = some (.int .u64 x.to) := hb.cell 2
          have c3 : w1.cell? ⟨g, 3, none⟩ = some (.int .u64 x.amount) := hb.cell 3
          have c4 : w1.cell? ⟨g, 4, none⟩ = some (.int .u64 x.fee) := hb.cell 4
          go_wp2_with (first
            | (go_at_call 57; refine (rHeight_any _ _).mono ?_; rintro e w2 ⟨rfl, rfl⟩)
            | (go_at_call 61; refine (rRound_any _ _).mono ?_; rintro e w2 ⟨rfl, rfl⟩)
            | (go_at_call 52; refine (rAmount_any _ _).mono ?_; rintro e w2 ⟨rfl, rfl⟩)
            | (go_at_call 58; refine (rTime_any _ _).mono ?_; rintro e w2 ⟨rfl, rfl⟩))
          go_ret
          exact ⟨ret_i64 (by simp [plainTxR, h0, h1, h2, g2, h3]), hbl⟩
      · have g2 : (x.frm != 0) = false := by unfold bne; rw [h2]; rfl
        go_enter Tryd.func24, Tryd.ntmps24
        go_wp2_with (refine wpList_box_bk rfl _ _ rfl _ rfl ?_)
        intro g w1 hb hbl hg hs
        clear hg hs
        have c0 : w1.cell? ⟨g, 0, none⟩ = some (.int .i64 x.kind) := hb.cell 0
        have c1 : w1.cell? ⟨g, 1, none⟩ = some (.int .u64 x.frm) := hb.cell 1
        have c2 : w1.cell? ⟨g, 2, none⟩ = some (.int .u64 x.to) := hb.cell 2
        have c3 : w1.cell? ⟨g, 3, none⟩ = some (.int .u64 x.amount) := hb.cell 3
        have c4 : w1.cell? ⟨g, 4, none⟩ = some (.int .u64 x.fee) := hb.cell 4
        go_wp2_with (first
          | (go_at_call 57; refine (rHeight_any _ _).mono ?_; rintro e w2 ⟨rfl, rfl⟩)
          | (go_at_call 61; refine (rRound_any _ _).mono ?_; rintro e w2 ⟨rfl, rfl⟩)
          | (go_at_call 52; refine (rAmount_any _ _).mono ?_; rintro e w2 ⟨rfl, rfl⟩)
          | (go_at_call 58; refine (rTime_any _ _).mono ?_; rintro e w2 ⟨rfl, rfl⟩))
        go_ret
        exact ⟨ret_i64 (by simp [plainTxR, h0, h1, h2, g2]), hbl⟩
    · go_enter Tryd.func24, Tryd.ntmps24
      go_wp2_with (refine wpList_box_bk rfl _ _ rfl _ rfl ?_)
      intro g w1 hb hbl hg hs
      clear hg hs
      have c0 : w1.cell? ⟨g, 0, none⟩ = some (.int .i64 x.kind) := hb.cell 0
      have c1 : w1.cell? ⟨g, 1, none⟩ = some (.int .u64 x.frm) := hb.cell 1
      have c2 : w1.cell? ⟨g, 2, none⟩ = some (.int .u64 x.to) := hb.cell 2
      have c3 : w1.cell? ⟨g, 3, none⟩ = some (.int .u64 x.amount) := hb.cell 3
      have c4 : w1.cell? ⟨g, 4, none⟩ = some (.int .u64 x.fee) := hb.cell 4
      go_wp2_with (first
        | (go_at_call 57; refine (rHeight_any _ _).mono ?_; rintro e w2 ⟨rfl, rfl⟩)
        | (go_at_call 61; refine (rRound_any _ _).mono ?_; rintro e w2 ⟨rfl, rfl⟩)
        | (go_at_call 52; refine (rAmount_any _ _).mono ?_; rintro e w2 ⟨rfl, rfl⟩)
        | (go_at_call 58; refine (rTime_any _ _).mono ?_; rintro e w2 ⟨rfl, rfl⟩))
      go_ret
      exact ⟨ret_i64 (by simp [plainTxR, h0, h1]), hbl⟩
  · go_enter Tryd.func24, Tryd.ntmps24
    go_wp2_with (refine wpList_box_bk rfl _ _ rfl _ rfl ?_)
    intro g w1 hb hbl hg hs
    clear hg hs
    have c0 : w1.cell? ⟨g, 0, none⟩ = some (.int .i64 x.kind) := hb.cell 0
    have c1 : w1.cell? ⟨g, 1, none⟩ = some (.int .u64 x.frm) := hb.cell 1
    have c2 : w1.cell? ⟨g, 2, none⟩ = some (.int .u64 x.to) := hb.cell 2
    have c3 : w1.cell? ⟨g, 3, none⟩ = some (.int .u64 x.amount) := hb.cell 3
    have c4 : w1.cell? ⟨g, 4, none⟩ = some (.int .u64 x.fee) := hb.cell 4
    go_wp2_with (first
      | (go_at_call 57; refine (rHeight_any _ _).mono ?_; rintro e w2 ⟨rfl, rfl⟩)
      | (go_at_call 61; refine (rRound_any _ _).mono ?_; rintro e w2 ⟨rfl, rfl⟩)
      | (go_at_call 52; refine (rAmount_any _ _).mono ?_; rintro e w2 ⟨rfl, rfl⟩)
      | (go_at_call 58; refine (rTime_any _ _).mono ?_; rintro e w2 ⟨rfl, rfl⟩))
    go_ret
    exact ⟨ret_i64 (by simp [plainTxR, h0]), hbl⟩

end Go.Proofs.YtjdegphpalhapaaDoor

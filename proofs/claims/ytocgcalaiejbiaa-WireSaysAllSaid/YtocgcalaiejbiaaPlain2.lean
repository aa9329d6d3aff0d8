/-
  Transactions, votes and proposals as cells; PlainTx, PlainVote, PlainProposal. Condition: each number fits its kind.
-/
import Derived.Test.YtocgcalaiejbiaaPlain1
import Derived.Test.YtocgcalaiejbiaaLoad
import Derived.StillTailTactics
import Derived.Deep.QuietTactic
import Derived.BigQuiet
namespace Go.Proofs.Ytocgcalaiejbiaa
set_option linter.unusedSimpArgs false
set_option linter.unusedVariables false
open Go.RowKit
set_option maxRecDepth 100000

structure Tx where
  kind : Int
  frm : Int
  to : Int
  amount : Int
  fee : Int
  nonce : Int
  sl : List UInt8
def Tx.cl (x : Tx) : List Value := [.int .i64 x.kind, .int .u64 x.frm, .int .u64 x.to, .int .u64 x.amount, .int .u64 x.fee, .int .u64 x.nonce] ++ bv x.sl

structure Vote where
  kind : Int
  height : Int
  round : Int
  id : List UInt8
  time : Int
  frm : Int
  sl : List UInt8
def Vote.cl (x : Vote) : List Value := [.int .i64 x.kind, .int .u64 x.height, .int .i64 x.round] ++ bv x.id ++ [.int .u64 x.time, .int .u64 x.frm] ++ bv x.sl

structure Proposal where
  height : Int
  round : Int
  valid : Int
  id : List UInt8
  frm : Int
  sl : List UInt8
def Proposal.cl (x : Proposal) : List Value := [.int .u64 x.height, .int .i64 x.round, .int .i64 x.valid] ++ bv x.id ++ [.int .u64 x.frm] ++ bv x.sl

/-- a 64-bit number without sign -/
def U64 (n : Int) : Prop := 0 ≤ n ∧ n < 18446744073709551616
def I64 (n : Int) : Prop := -9223372036854775808 ≤ n ∧ n < 9223372036854775808
structure Tx.ok (x : Tx) : Prop where
  kind : I64 x.kind
  frm : U64 x.frm
  to : U64 x.to
  amount : U64 x.amount
  fee : U64 x.fee
  nonce : U64 x.nonce
  sl : x.sl.length = 16
structure Vote.ok (x : Vote) : Prop where
  kind : I64 x.kind
  height : U64 x.height
  round : I64 x.round
  id : x.id.length = 32
  time : U64 x.time
  frm : U64 x.frm
  sl : x.sl.length = 16
structure Proposal.ok (x : Proposal) : Prop where
  height : U64 x.height
  round : I64 x.round
  valid : I64 x.valid
  id : x.id.length = 32
  frm : U64 x.frm
  sl : x.sl.length = 16

def plainTx (x : Tx) : Int := firstErr [kind x.kind 1 4, field ((x.frm == 0) || ((x.to != 0) != (x.kind == 1))), amount x.amount, field ((x.kind == 4) && (x.amount != 0)), amount x.fee]

theorem still_of {P : Program} {f : FuncId} {args : Array Value} {w : World} {v : Value} (h : Calls P f args w fun e w' => e = .returned v ∧ w = w') : Calls P f args w fun e w' => e = .returned v ∧ w' = w :=
  h.mono fun _ _ ⟨h1, h2⟩ => ⟨h1, h2.symm⟩

/-- the lexical walk of what leaves the world alone, from the quiet one -/
theorem still_quiet {P : Program} {ops : Array Oper} {w : World} {Q : Act → Prop} : ∀ (l : List Oper) (a : Act), wpQuiet P ops (fun w' => w' = w) Q l a → wpStill P ops w Q l a
  | [], _, h => h
  | o :: rest, a, h => by
    unfold wpQuiet at h
    unfold wpStill
    split at h
    · rename_i hw
      rw [if_pos hw]
      obtain ⟨v, h1, h2⟩ := h
      have h3 := still_quiet rest _ h2
      have h4 := h1 w rfl
      unfold Oper.quietAt at h4
      unfold Oper.still
      generalize (execOp a.eval o).run P w = r at h4
      unfold Oper.quietUpon at h4
      unfold Oper.stillUpon
      split at h4
      · obtain ⟨e1, e2⟩ := h4; subst e2; exact ⟨e1, h3⟩
      · obtain ⟨e1, e2⟩ := h4; subst e2; exact ⟨e1, h3⟩
      · obtain ⟨e1, e2⟩ := h4; exact ⟨e1, v, e2, h3⟩
      · exact h4.elim
    · rename_i hw
      rw [if_neg hw]
      exact still_quiet rest _ h

theorem rd_errs (w : World) (cs : Array Value) (l : List Int) (h : cs.toList = l.map (Value.int .i64)) : Rd (w.alloc (.cells cs 37)) (some ⟨w.heap.size, 0, none⟩) (l.map (Value.int .i64)) :=
  Rd.of_bk (Bk.new w _ cs) 0 _ (fun j u hu => by rw [← h] at hu; simpa using hu)

set_option maxHeartbeats 1000000 in
theorem plainTx_any (w : World) (x : Tx) :
    Calls Try.prog 27 #[.agg x.cl.toArray] w fun e w' => e = .returned (.int .i64 (plainTx x)) ∧ Below w.heap.size w w' := by
  obtain ⟨q1, h1⟩ : ∃ q, (x.frm == 0) = q := ⟨_, rfl⟩
  obtain ⟨q2, h2⟩ : ∃ q, (x.kind == 4) = q := ⟨_, rfl⟩
  cases q1 <;> cases q2
  all_goals
    go_enter Try.func27, Try.ntmps27
    go_wp2_with (refine wpList_box_bk rfl _ _ rfl _ rfl ?_)
    intro g w1 hb hbl hg hs
    have Hg := Lib.hid hg; clear hg
    have Hs := Lib.hid hs; clear hs
    have c0 : w1.cell? ⟨g, 0, none⟩ = some (.int .i64 x.kind) := hb.cell 0
    have c1 : w1.cell? ⟨g, 1, none⟩ = some (.int .u64 x.frm) := hb.cell 1
    have c2 : w1.cell? ⟨g, 2, none⟩ = some (.int .u64 x.to) := hb.cell 2
    have c3 : w1.cell? ⟨g, 3, none⟩ = some (.int .u64 x.amount) := hb.cell 3
    have c4 : w1.cell? ⟨g, 4, none⟩ = some (.int .u64 x.fee) := hb.cell 4
    go_wp2_with fail
    refine wp_region_still_tail 31 (by kernel_rfl) (by kernel_rfl) ?_
    simp only [List.take_succ_cons, List.take_zero, List.drop_succ_cons, List.drop_zero]
    refine still_quiet _ _ ?_
    repeat (first | go_big_quiet_skip | (go_big_quiet_want; go_big_quiet_op; first | go_big_quiet_on | (apply Exists.intro; refine ⟨still_of (by first | (go_at_call 61; exact kind_any _ _ _ _) | (go_at_call 62; exact field_any _ _) | (go_at_call 63; exact amount_any _ _)), ?_⟩; go_big_quiet_on)))
    refine wpQuiet_nil ?_
    change wpList _ _ _ _ _ w1.drew
    go_wp2_with (go_at_call 55; go_must (refine (all_any _ _ 5 5 [_, _, _, _, _] (rd_errs w1.drew _ [_, _, _, _, _] rfl) rfl (by omega)).mono ?_); rintro e w2 ⟨rfl, rfl⟩)
    go_ret
    refine ⟨ret_i64 ?_, (hbl.drew).alloc (Nat.le_of_lt (by have := Hs.out; have := Hg.out; simp; omega)) _⟩
    unfold plainTx; rw [h1, h2]; rfl

def zeros (n : Nat) : List UInt8 := List.replicate n 0
theorem flat_hash : flat Try.prog 2 29 = some (List.replicate 32 (.int .u8)) := by kernel_rfl
theorem agg_hash : isAggT Try.prog 29 = true := by kernel_rfl
theorem guard_hash : Try.prog.eqGuardType Try.prog.depth 29 = false := by kernel_rfl
theorem info_hash : (Try.prog.info? 29).map (·.size) = some 32 := by kernel_rfl
theorem fits_hash {h : List UInt8} (hl : h.length = 32) : Fits (List.replicate 32 (.int .u8)) (bv h) := by rw [← hl]; exact Fits.bytes h
theorem bv_iff {a b : List UInt8} {q : Bool} (h : q = (a == b)) : q = true ↔ bv a = bv b := by
  rw [h, beq_iff_eq]; exact ⟨fun e => by rw [e], bv_inj⟩

def plainVote (x : Vote) : Int := firstErr [kind x.kind 1 2, height x.height, round x.round, moment x.time, field ((x.time != 0) && ((x.kind == 1) || (x.id == zeros 32))), field (x.frm == 0)]

theorem extract_cl (l : List Value) (a b : Nat) (m : List Value) (h : (l.drop a).take (b - a) = m) : l.toArray.extract a b = m.toArray := by
  apply Array.ext'
  simp [h]
theorem Vote.cl_id (x : Vote) (h : x.id.length = 32) : x.cl.toArray.extract 3 (3 + 32) = (bv x.id).toArray := by
  refine extract_cl _ _ _ _ ?_
  have e : x.cl.drop 3 = bv x.id ++ ([.int .u64 x.time, .int .u64 x.frm] ++ bv x.sl) := by simp [Vote.cl]
  rw [e, show 3 + 32 - 3 = (bv x.id).length from by rw [bv_length, h]]
  exact List.take_left
theorem Vote.cl_len (x : Vote) (h : x.ok) : x.cl.length = 53 := by simp [Vote.cl, bv_length, h.id, h.sl]
theorem Vote.cl_35 (x : Vote) (h : x.id.length = 32) : x.cl.toArray[35]? = some (.int .u64 x.time) := by
  simp [Vote.cl, bv, List.getElem?_append, h]
theorem Vote.cl_36 (x : Vote) (h : x.id.length = 32) : x.cl.toArray[36]? = some (.int .u64 x.frm) := by
  simp [Vote.cl, bv, List.getElem?_append, h]

set_option maxHeartbeats 1000000 in
theorem plainVote_any (w : World) (x : Vote) (hx : x.ok) :
    Calls Try.prog 31 #[.agg x.cl.toArray] w fun e w' => e = .returned (.int .i64 (plainVote x)) ∧ Below w.heap.size w w' := by
  obtain ⟨q1, h1⟩ : ∃ q, (x.time != 0) = q := ⟨_, rfl⟩
  obtain ⟨q2, h2⟩ : ∃ q, (x.kind == 1) = q := ⟨_, rfl⟩
  cases q1 <;> cases q2
  all_goals
    go_enter Try.func31, Try.ntmps31
    go_wp2_with (refine wpList_box_bk rfl _ _ rfl _ rfl ?_)
    intro g w1 hb hbl hg hs
    have Hg := Lib.hid hg; clear hg
    have Hs := Lib.hid hs; clear hs
    have c0 : w1.cell? ⟨g, 0, none⟩ = some (.int .i64 x.kind) := hb.cell 0
    have c1 : w1.cell? ⟨g, 1, none⟩ = some (.int .u64 x.height) := hb.cell 1
    have c2 : w1.cell? ⟨g, 2, none⟩ = some (.int .i64 x.round) := hb.cell 2
    have c3 : w1.cell? ⟨g, 35, none⟩ = some (.int .u64 x.time) := (hb.cell 35).trans (x.cl_35 hx.id)
    have c4 : w1.cell? ⟨g, 36, none⟩ = some (.int .u64 x.frm) := (hb.cell 36).trans (x.cl_36 hx.id)
    go_wp2_with fail
    refine wp_region_still_tail 31 (by kernel_rfl) (by kernel_rfl) ?_
    simp only [List.take_succ_cons, List.take_zero, List.drop_succ_cons, List.drop_zero]
    refine still_quiet _ _ ?_
    repeat (first | go_big_quiet_skip | (go_big_quiet_want; first
        | (refine quiet_load_part 29 _ rfl g 3 32 rfl _ _ _ (fun wx hw => by subst hw; exact hb) Try.underlying29 rfl info_hash (by have := x.cl_len hx; simp [this]) _ (x.cl_id hx.id) ?_; go_simp; go_big_quiet_on)
        | (refine quiet_eql_flat 29 _ _ _ rfl (bv x.id) (bv (zeros 32)) rfl rfl 2 _ flat_hash (by omega) agg_hash guard_hash (fits_hash hx.id) (fits_hash rfl) _ (bv_iff rfl) ?_; go_simp; go_big_quiet_on)
        | (go_big_quiet_op; first | go_big_quiet_on | (apply Exists.intro; refine ⟨still_of (by first | (go_at_call 61; exact kind_any _ _ _ _) | (go_at_call 62; exact field_any _ _) | (go_at_call 65; exact height_any _ _) | (go_at_call 66; exact round_any _ _) | (go_at_call 67; exact moment_any _ _)), ?_⟩; go_big_quiet_on))))
    refine wpQuiet_nil ?_
    change wpList _ _ _ _ _ w1.drew
    go_wp2_with (go_at_call 55; go_must (refine (all_any _ _ 6 6 [_, _, _, _, _, _] (rd_errs w1.drew _ [_, _, _, _, _, _] rfl) rfl (by omega)).mono ?_); rintro e w2 ⟨rfl, rfl⟩)
    go_ret
    refine ⟨ret_i64 ?_, (hbl.drew).alloc (Nat.le_of_lt (by have := Hs.out; have := Hg.out; simp; omega)) _⟩
    unfold plainVote; rw [h1, h2]; rfl

def plainProposal (x : Proposal) : Int := firstErr [height x.height, round x.round, field (decide (x.valid < -1) || decide (x.round ≤ x.valid)), field (x.id == zeros 32), field (x.frm == 0)]
theorem Proposal.cl_id (x : Proposal) (h : x.id.length = 32) : x.cl.toArray.extract 3 (3 + 32) = (bv x.id).toArray := by
  refine extract_cl _ _ _ _ ?_
  have e : x.cl.drop 3 = bv x.id ++ ([.int .u64 x.frm] ++ bv x.sl) := by simp [Proposal.cl]
  rw [e, show 3 + 32 - 3 = (bv x.id).length from by rw [bv_length, h]]
  exact List.take_left
theorem Proposal.cl_len (x : Proposal) (h : x.ok) : x.cl.length = 52 := by simp [Proposal.cl, bv_length, h.id, h.sl]
theorem Proposal.cl_35 (x : Proposal) (h : x.id.length = 32) : x.cl.toArray[35]? = some (.int .u64 x.frm) := by
  simp [Proposal.cl, bv, List.getElem?_append, h]

set_option maxHeartbeats 1000000 in
theorem plainProposal_any (w : World) (x : Proposal) (hx : x.ok) :
    Calls Try.prog 34 #[.agg x.cl.toArray] w fun e w' => e = .returned (.int .i64 (plainProposal x)) ∧ Below w.heap.size w w' := by
  obtain ⟨q1, h1⟩ : ∃ q, (decide (x.valid < -1)) = q := ⟨_, rfl⟩
  cases q1
  all_goals
    go_enter Try.func34, Try.ntmps34
    go_wp2_with (refine wpList_box_bk rfl _ _ rfl _ rfl ?_)
    intro g w1 hb hbl hg hs
    have Hg := Lib.hid hg; clear hg
    have Hs := Lib.hid hs; clear hs
    have c0 : w1.cell? ⟨g, 0, none⟩ = some (.int .u64 x.height) := hb.cell 0
    have c1 : w1.cell? ⟨g, 1, none⟩ = some (.int .i64 x.round) := hb.cell 1
    have c2 : w1.cell? ⟨g, 2, none⟩ = some (.int .i64 x.valid) := hb.cell 2
    have c4 : w1.cell? ⟨g, 35, none⟩ = some (.int .u64 x.frm) := (hb.cell 35).trans (x.cl_35 hx.id)
    go_wp2_with fail
    refine wp_region_still_tail 26 (by kernel_rfl) (by kernel_rfl) ?_
    simp only [List.take_succ_cons, List.take_zero, List.drop_succ_cons, List.drop_zero]
    refine still_quiet _ _ ?_
    repeat (first | go_big_quiet_skip | (go_big_quiet_want; first
        | (refine quiet_load_part 29 _ rfl g 3 32 rfl _ _ _ (fun wx hw => by subst hw; exact hb) Try.underlying29 rfl info_hash (by have := x.cl_len hx; simp [this]) _ (x.cl_id hx.id) ?_; go_simp; go_big_quiet_on)
        | (refine quiet_eql_flat 29 _ _ _ rfl (bv x.id) (bv (zeros 32)) rfl rfl 2 _ flat_hash (by omega) agg_hash guard_hash (fits_hash hx.id) (fits_hash rfl) _ (bv_iff rfl) ?_; go_simp; go_big_quiet_on)
        | (go_big_quiet_op; first | go_big_quiet_on | (apply Exists.intro; refine ⟨still_of (by first | (go_at_call 62; exact field_any _ _) | (go_at_call 65; exact height_any _ _) | (go_at_call 66; exact round_any _ _)), ?_⟩; go_big_quiet_on))))
    refine wpQuiet_nil ?_
    change wpList _ _ _ _ _ w1.drew
    go_wp2_with (go_at_call 55; go_must (refine (all_any _ _ 5 5 [_, _, _, _, _] (rd_errs w1.drew _ [_, _, _, _, _] rfl) rfl (by omega)).mono ?_); rintro e w2 ⟨rfl, rfl⟩)
    go_ret
    refine ⟨ret_i64 ?_, (hbl.drew).alloc (Nat.le_of_lt (by have := Hs.out; have := Hg.out; simp; omega)) _⟩
    unfold plainProposal; rw [h1]; rfl
end Go.Proofs.Ytocgcalaiejbiaa

/-
  How a transaction, a vote, a proposal are laid down without their seals. Conditions: they are plain; the Writer has room.
-/
import Derived.Test.YtocgcalaiejbiaaPlain2
namespace Go.Proofs.Ytocgcalaiejbiaa
set_option linter.unusedSimpArgs false
set_option linter.unusedVariables false
open Go.RowKit
set_option maxRecDepth 100000

theorem var_int (w : World) (B g : Nat) (bs : List UInt8) (n : Int) (h : Wr w B g bs) (h0 : 0 ≤ n) (h1 : n < two64) (hb : bs.length + 10 ≤ room46) :
    Calls Try.prog 64 #[.pointer (some ⟨g, 0, none⟩), .int .u64 n] w fun e w' => e = .returned (.tuple #[]) ∧ Wr w' B g (bs ++ varB n.toNat) ∧ Eff B WrT w w' := by
  obtain ⟨m, rfl⟩ := Int.eq_ofNat_of_zero_le h0
  exact var_any w B g bs m h (by omega) hb
theorem byte_int (w : World) (B g : Nat) (bs : List UInt8) (n : Int) (h : Wr w B g bs) (h0 : 0 ≤ n) (h1 : n < 256) (hb : bs.length + 1 ≤ room46) :
    Calls Try.prog 58 #[.pointer (some ⟨g, 0, none⟩), .int .u8 n] w fun e w' => e = .returned (.tuple #[]) ∧ Wr w' B g (bs ++ [UInt8.ofNat n.toNat]) ∧ Eff B WrT w w' := by
  have hc := byte_any w B g bs (UInt8.ofNat n.toNat) h hb
  have e : ((UInt8.ofNat n.toNat).toNat : Int) = n := by rw [byte_of]; omega
  rw [e] at hc
  exact hc
theorem varB_int {n : Int} (h0 : 0 ≤ n) (h1 : n < two64) : (varB n.toNat).length ≤ 10 := varB_ten (by omega)

set_option maxHeartbeats 400000 in
theorem putHash_any (w : World) (B g : Nat) (bs h : List UInt8) (hw : Wr w B g bs) (hl : h.length = 32) (hb : bs.length + 32 ≤ room46) :
    Calls Try.prog 68 #[.pointer (some ⟨g, 0, none⟩), .agg (bv h).toArray] w fun e w' => e = .returned (.tuple #[]) ∧ Wr w' B g (bs ++ h) ∧ Eff B WrT w w' := by
  go_enter Try.func68, Try.ntmps68
  go_wp2_with (refine wpList_box_bk rfl _ _ rfl _ rfl ?_)
  intro g1 w1 hk hbl hg hs
  have hw1 := hw.below hbl
  have hr : Rd w1 (some ⟨g1, 0, none⟩) (bv h) := Rd.of_bk hk 0 _ (fun j u hu => by simpa using hu)
  clear hg hs
  have Hl := Lib.hid hl; clear hl
  go_wp2_with (go_at_call 101; go_must (refine (raw_any _ B g bs h _ 32 32 hw1 hr Hl.out hb).mono ?_); rintro e w' ⟨rfl, hw', he⟩)
  go_end0
  exact ⟨rfl, hw', (Eff.of_below hbl _ _).trans he⟩

def encVote (x : Vote) : List UInt8 := [UInt8.ofNat x.kind.toNat] ++ varB x.height.toNat ++ varB x.round.toNat ++ x.id ++ varB x.time.toNat ++ varB x.frm.toNat

theorem firstErr_zero : ∀ {l : List Int}, firstErr l = 0 → ∀ e ∈ l, e = 0
  | [], _, e, h => by cases h
  | a :: l, h, e, he => by
    unfold firstErr at h
    by_cases ha : a = 0
    · rw [if_neg (by simpa using ha)] at h
      rcases List.mem_cons.1 he with rfl | he
      · exact ha
      · exact firstErr_zero h e he
    · rw [if_pos ha] at h; exact absurd h ha
theorem field_zero {b : Bool} (h : field b = 0) : b = false := by cases b with | false => rfl | true => cases h

structure VoteB (x : Vote) : Prop where
  k1 : 1 ≤ x.kind
  k2 : x.kind ≤ 2
  h1 : 1 ≤ x.height
  h2 : x.height ≤ 1099511627776
  r1 : 0 ≤ x.round
  r2 : x.round ≤ 65535
  t1 : 0 ≤ x.time
  t2 : x.time ≤ 1125899906842624
  tz : x.time ≠ 0 → x.kind = 2 ∧ x.id ≠ zeros 32
  f1 : 1 ≤ x.frm
  f2 : x.frm < 18446744073709551616
theorem voteB {x : Vote} (hx : x.ok) (h : plainVote x = 0) : VoteB x := by
  have hall := firstErr_zero h
  have a1 := hall _ (List.mem_cons_self ..)
  have a2 := hall (height x.height) (by simp)
  have a3 := hall (round x.round) (by simp)
  have a4 := hall (moment x.time) (by simp)
  have a5 := field_zero (hall (field ((x.time != 0) && ((x.kind == 1) || (x.id == zeros 32)))) (by simp))
  have a6 := field_zero (hall (field (x.frm == 0)) (by simp))
  have b2 := of_decide_eq_false (field_zero a2)
  have b3 := of_decide_eq_false (field_zero a3)
  have b4 := of_decide_eq_false (field_zero a4)
  have b1 : ¬ (x.kind < 1 ∨ 2 < x.kind) := by
    intro hh; unfold kind at a1; rw [if_pos hh] at a1; cases a1
  have ht := hx.time
  have hf := hx.frm
  unfold U64 at ht hf
  have a6' : x.frm ≠ 0 := by simpa using a6
  refine ⟨by omega, by omega, by omega, by omega, by omega, by omega, ht.1, by omega, fun hz => ?_, by omega, hf.2⟩
  simp only [Bool.and_eq_false_iff, bne_eq_false_iff_eq, Bool.or_eq_false_iff, beq_eq_false_iff_ne, ne_eq] at a5
  rcases a5 with a5 | ⟨a5, a7⟩
  · exact absurd a5 hz
  · exact ⟨by omega, a7⟩

set_option maxHeartbeats 400000 in
theorem noSeal_any (w : World) (v : Value) :
    Calls Try.prog 30 #[v] w fun e w' => e = .returned (.tuple #[]) ∧ w = w' := by
  go_enter Try.func30, Try.ntmps30
  go_wp2
  go_end0
  exact ⟨rfl, rfl⟩

set_option maxHeartbeats 1000000 in
theorem putVote_no (w : World) (B g : Nat) (bs : List UInt8) (x : Vote) (hx : x.ok) (hp : VoteB x) (hw : Wr w B g bs) (hb : bs.length + 200 ≤ room46) :
    Calls Try.prog 33 #[.pointer (some ⟨g, 0, none⟩), .agg x.cl.toArray, .func (.func 30) #[] #[]] w fun e w' => e = .returned (.tuple #[]) ∧ Wr w' B g (bs ++ encVote x) ∧ Eff B WrT w w' := by
  obtain ⟨k1, k2, h1, h2, r1, r2, t1, t2, _, f1, f2⟩ := hp
  have lh := varB_int (n := x.height) (by omega) (by unfold two64; omega)
  have lr := varB_int (n := x.round) (by omega) (by unfold two64; omega)
  have lt := varB_int (n := x.time) (by omega) (by unfold two64; omega)
  have lf := varB_int (n := x.frm) (by omega) (by unfold two64; omega)
  have li := hx.id
  have F2 := Lib.hid f2; clear f2
  have Li := Lib.hid li; clear li
  go_enter Try.func33, Try.ntmps33
  go_wp2_with (refine wpList_box_bk rfl _ _ rfl _ rfl ?_)
  intro bx w1 hk hbl hg hs
  clear hg hs
  have hw1 := hw.below hbl
  have c0 : w1.cell? ⟨bx, 0, none⟩ = some (.int .i64 x.kind) := hk.cell 0
  go_wp2_with fail
  refine (byte_int _ B g bs x.kind hw1 (by omega) (by omega) (by omega)).mono ?_
  rintro e w2 ⟨rfl, hw2, e2⟩
  have hk2 := hk.effT e2 (by decide)
  have c1 : w2.cell? ⟨bx, 1, none⟩ = some (.int .u64 x.height) := hk2.cell 1
  go_wp2_with fail
  refine (var_int _ B g _ x.height hw2 (by omega) (by unfold two64; omega) (by simp only [List.length_append, List.length_cons, List.length_nil]; omega)).mono ?_
  rintro e w3 ⟨rfl, hw3, e3⟩
  have hk3 := hk2.effT e3 (by decide)
  have c2 : w3.cell? ⟨bx, 2, none⟩ = some (.int .i64 x.round) := hk3.cell 2
  go_wp2_with fail
  refine (var_int _ B g _ x.round hw3 (by omega) (by unfold two64; omega) (by simp only [List.length_append, List.length_cons, List.length_nil]; omega)).mono ?_
  rintro e w4 ⟨rfl, hw4, e4⟩
  have hk4 := hk3.effT e4 (by decide)
  go_wp2_with (refine wpList_load_part rfl 29 _ rfl bx 3 32 rfl _ _ _ hk4 Try.underlying29 rfl info_hash (by have := x.cl_len hx; simp [this]) _ (x.cl_id hx.id) ?_)
  refine (putHash_any _ B g _ x.id hw4 Li.out (by simp only [List.length_append, List.length_cons, List.length_nil]; omega)).mono ?_
  rintro e w5 ⟨rfl, hw5, e5⟩
  have hk5 := hk4.effT e5 (by decide)
  have c3 : w5.cell? ⟨bx, 35, none⟩ = some (.int .u64 x.time) := (hk5.cell 35).trans (x.cl_35 hx.id)
  go_wp2_with fail
  refine (var_int _ B g _ x.time hw5 (by omega) (by unfold two64; omega) (by simp only [List.length_append, List.length_cons, List.length_nil, Li.out]; omega)).mono ?_
  rintro e w6 ⟨rfl, hw6, e6⟩
  have hk6 := hk5.effT e6 (by decide)
  have c4 : w6.cell? ⟨bx, 36, none⟩ = some (.int .u64 x.frm) := (hk6.cell 36).trans (x.cl_36 hx.id)
  go_wp2_with fail
  refine (var_int _ B g _ x.frm hw6 (by omega) (by unfold two64; exact F2.out) (by simp only [List.length_append, List.length_cons, List.length_nil, Li.out]; omega)).mono ?_
  rintro e w7 ⟨rfl, hw7, e7⟩
  go_wp2_with (go_at_call 30; go_must (refine (noSeal_any _ _).mono ?_); rintro e w8 ⟨rfl, rfl⟩)
  go_end0
  refine ⟨rfl, ?_, (Eff.of_below hbl _ _).trans (e2.trans (e3.trans (e4.trans (e5.trans (e6.trans e7)))))⟩
  unfold encVote
  simpa only [List.append_assoc] using hw7

def encProposal (x : Proposal) : List UInt8 := varB x.height.toNat ++ varB x.round.toNat ++ varB (x.valid + 1).toNat ++ x.id ++ varB x.frm.toNat
structure ProposalB (x : Proposal) : Prop where
  h1 : 1 ≤ x.height
  h2 : x.height ≤ 1099511627776
  r1 : 0 ≤ x.round
  r2 : x.round ≤ 65535
  v1 : -1 ≤ x.valid
  v2 : x.valid < x.round
  i1 : x.id ≠ zeros 32
  f1 : 1 ≤ x.frm
  f2 : x.frm < 18446744073709551616
theorem proposalB {x : Proposal} (hx : x.ok) (h : plainProposal x = 0) : ProposalB x := by
  have hall := firstErr_zero h
  have a2 := hall (height x.height) (by simp)
  have a3 := hall (round x.round) (by simp)
  have a4 := field_zero (hall (field (decide (x.valid < -1) || decide (x.round ≤ x.valid))) (by simp))
  have a5 := field_zero (hall (field (x.id == zeros 32)) (by simp))
  have a6 := field_zero (hall (field (x.frm == 0)) (by simp))
  have b2 := of_decide_eq_false (field_zero a2)
  have b3 := of_decide_eq_false (field_zero a3)
  have hf := hx.frm
  unfold U64 at hf
  have a6' : x.frm ≠ 0 := by simpa using a6
  simp only [Bool.or_eq_false_iff, decide_eq_false_iff_not] at a4
  exact ⟨by omega, by omega, by omega, by omega, by omega, by omega, by simpa using a5, by omega, hf.2⟩

set_option maxHeartbeats 1000000 in
theorem putProposal_no (w : World) (B g : Nat) (bs : List UInt8) (x : Proposal) (hx : x.ok) (hp : ProposalB x) (hw : Wr w B g bs) (hb : bs.length + 200 ≤ room46) :
    Calls Try.prog 36 #[.pointer (some ⟨g, 0, none⟩), .agg x.cl.toArray, .func (.func 30) #[] #[]] w fun e w' => e = .returned (.tuple #[]) ∧ Wr w' B g (bs ++ encProposal x) ∧ Eff B WrT w w' := by
  obtain ⟨h1, h2, r1, r2, v1, v2, _, f1, f2⟩ := hp
  have lh := varB_int (n := x.height) (by omega) (by unfold two64; omega)
  have lr := varB_int (n := x.round) (by omega) (by unfold two64; omega)
  have lv := varB_int (n := x.valid + 1) (by omega) (by unfold two64; omega)
  have lf := varB_int (n := x.frm) (by omega) (by unfold two64; omega)
  have li := hx.id
  have F2 := Lib.hid f2; clear f2
  have Li := Lib.hid li; clear li
  go_enter Try.func36, Try.ntmps36
  go_wp2_with (refine wpList_box_bk rfl _ _ rfl _ rfl ?_)
  intro bx w1 hk1 hbl hg hs
  clear hg hs
  have hw1 := hw.below hbl
  have c0 : w1.cell? ⟨bx, 0, none⟩ = some (.int .u64 x.height) := hk1.cell 0
  go_wp2_with fail
  refine (var_int _ B g _ x.height hw1 (by omega) (by unfold two64; omega) (by omega)).mono ?_
  rintro e w2 ⟨rfl, hw2, e2⟩
  have hk2 := hk1.effT e2 (by decide)
  have c1 : w2.cell? ⟨bx, 1, none⟩ = some (.int .i64 x.round) := hk2.cell 1
  go_wp2_with fail
  refine (var_int _ B g _ x.round hw2 (by omega) (by unfold two64; omega) (by simp only [List.length_append]; omega)).mono ?_
  rintro e w3 ⟨rfl, hw3, e3⟩
  have hk3 := hk2.effT e3 (by decide)
  have c2 : w3.cell? ⟨bx, 2, none⟩ = some (.int .i64 x.valid) := hk3.cell 2
  go_wp2_with fail
  refine (var_int _ B g _ (x.valid + 1) hw3 (by omega) (by unfold two64; omega) (by simp only [List.length_append]; omega)).mono ?_
  rintro e w4 ⟨rfl, hw4, e4⟩
  have hk4 := hk3.effT e4 (by decide)
  go_wp2_with (refine wpList_load_part rfl 29 _ rfl bx 3 32 rfl _ _ _ hk4 Try.underlying29 rfl info_hash (by have := x.cl_len hx; simp [this]) _ (x.cl_id hx.id) ?_)
  refine (putHash_any _ B g _ x.id hw4 Li.out (by simp only [List.length_append]; omega)).mono ?_
  rintro e w5 ⟨rfl, hw5, e5⟩
  have hk5 := hk4.effT e5 (by decide)
  have c4 : w5.cell? ⟨bx, 35, none⟩ = some (.int .u64 x.frm) := (hk5.cell 35).trans (x.cl_35 hx.id)
  go_wp2_with fail
  refine (var_int _ B g _ x.frm hw5 (by omega) (by unfold two64; exact F2.out) (by simp only [List.length_append, Li.out]; omega)).mono ?_
  rintro e w7 ⟨rfl, hw7, e7⟩
  go_wp2_with (go_at_call 30; go_must (refine (noSeal_any _ _).mono ?_); rintro e w8 ⟨rfl, rfl⟩)
  go_end0
  refine ⟨rfl, ?_, (Eff.of_below hbl _ _).trans (e2.trans (e3.trans (e4.trans (e5.trans e7))))⟩
  unfold encProposal
  simpa only [List.append_assoc] using hw7

def encTx (x : Tx) : List UInt8 := [UInt8.ofNat x.kind.toNat] ++ varB x.frm.toNat ++ varB x.to.toNat ++ varB x.amount.toNat ++ varB x.fee.toNat ++ varB x.nonce.toNat
structure TxB (x : Tx) : Prop where
  k1 : 1 ≤ x.kind
  k2 : x.kind ≤ 4
  f : x.frm ≠ 0
  t : x.to = 0 ↔ x.kind ≠ 1
  a2 : x.amount ≤ 1152921504606846975
  e2 : x.fee ≤ 1152921504606846975
  z : x.kind = 4 → x.amount = 0
theorem txB {x : Tx} (h : plainTx x = 0) : TxB x := by
  have hall := firstErr_zero h
  have a1 := hall _ (List.mem_cons_self ..)
  have a2 := field_zero (hall (field ((x.frm == 0) || ((x.to != 0) != (x.kind == 1)))) (by simp))
  have a3 := hall (amount x.amount) (by simp)
  have a4 := field_zero (hall (field ((x.kind == 4) && (x.amount != 0))) (by simp))
  have a5 := hall (amount x.fee) (by simp)
  have b3 := of_decide_eq_false (field_zero a3)
  have b5 := of_decide_eq_false (field_zero a5)
  have b1 : ¬ (x.kind < 1 ∨ 4 < x.kind) := by
    intro hh; unfold kind at a1; rw [if_pos hh] at a1; cases a1
  simp only [Bool.or_eq_false_iff, beq_eq_false_iff_ne, ne_eq, bne_eq_false_iff_eq] at a2
  simp only [Bool.and_eq_false_iff, beq_eq_false_iff_ne, ne_eq, bne_eq_false_iff_eq] at a4
  refine ⟨by omega, by omega, a2.1, ?_, by omega, by omega, fun hz => by rcases a4 with a4 | a4; exact absurd hz a4; exact a4⟩
  have h2 := a2.2
  by_cases ht : x.to = 0
  · by_cases hk : x.kind = 1
    · rw [ht, hk] at h2; cases h2
    · exact ⟨fun _ => hk, fun _ => ht⟩
  · by_cases hk : x.kind = 1
    · exact ⟨fun q => absurd q ht, fun q => absurd hk q⟩
    · have e1 : (x.to != 0) = true := by simp [ht]
      have e2 : (x.kind == 1) = false := by simp [hk]
      rw [e1, e2] at h2; cases h2

theorem Tx.cl_len (x : Tx) (h : x.ok) : x.cl.length = 22 := by simp [Tx.cl, bv_length, h.sl]

set_option maxHeartbeats 1000000 in
theorem putTx_no (w : World) (B g : Nat) (bs : List UInt8) (x : Tx) (hx : x.ok) (hp : TxB x) (hw : Wr w B g bs) (hb : bs.length + 200 ≤ room46) :
    Calls Try.prog 29 #[.pointer (some ⟨g, 0, none⟩), .agg x.cl.toArray, .func (.func 30) #[] #[]] w fun e w' => e = .returned (.tuple #[]) ∧ Wr w' B g (bs ++ encTx x) ∧ Eff B WrT w w' := by
  have k1 := hp.k1
  have k2 := hp.k2
  obtain ⟨fa, fb⟩ := hx.frm
  obtain ⟨ta, tb⟩ := hx.to
  obtain ⟨aa, ab⟩ := hx.amount
  obtain ⟨ea, eb⟩ := hx.fee
  obtain ⟨na, nb⟩ := hx.nonce
  have l1 := varB_int (n := x.frm) (by omega) (by unfold two64; omega)
  have l2 := varB_int (n := x.to) (by omega) (by unfold two64; omega)
  have l3 := varB_int (n := x.amount) (by omega) (by unfold two64; omega)
  have l4 := varB_int (n := x.fee) (by omega) (by unfold two64; omega)
  have l5 := varB_int (n := x.nonce) (by omega) (by unfold two64; omega)
  have FB := Lib.hid fb; clear fb
  have TB := Lib.hid tb; clear tb
  have AB := Lib.hid ab; clear ab
  have EB := Lib.hid eb; clear eb
  have NB := Lib.hid nb; clear nb
  have hlen := Lib.hid (x.cl_len hx)
  go_enter Try.func29, Try.ntmps29
  go_wp2_with (refine wpList_box_bk rfl _ _ rfl _ rfl ?_)
  intro bx w1 hk1 hbl hg hs
  clear hg hs
  have hw1 := hw.below hbl
  have c0 : w1.cell? ⟨bx, 0, none⟩ = some (.int .i64 x.kind) := hk1.cell 0
  go_wp2_with fail
  refine (byte_int _ B g bs x.kind hw1 (by omega) (by omega) (by omega)).mono ?_
  rintro e w2 ⟨rfl, hw2, e2⟩
  have hk2 := hk1.effT e2 (by decide)
  have d1 : w2.cell? ⟨bx, 1, none⟩ = some (.int .u64 x.frm) := hk2.cell 1
  have d2 : w2.cell? ⟨bx, 2, none⟩ = some (.int .u64 x.to) := hk2.cell 2
  have d3 : w2.cell? ⟨bx, 3, none⟩ = some (.int .u64 x.amount) := hk2.cell 3
  have d4 : w2.cell? ⟨bx, 4, none⟩ = some (.int .u64 x.fee) := hk2.cell 4
  have d5 : w2.cell? ⟨bx, 5, none⟩ = some (.int .u64 x.nonce) := hk2.cell 5
  go_wp2_with fail
  have i0 : ∀ wx : World, (Instr.index 105 (.agg #[.int .u64 x.frm, .int .u64 x.to, .int .u64 x.amount, .int .u64 x.fee, .int .u64 x.nonce]) (.int .i64 0)).run Try.prog wx = .ok (.int .u64 x.frm) wx := fun _ => by kernel_rfl
  have i1 : ∀ wx : World, (Instr.index 105 (.agg #[.int .u64 x.frm, .int .u64 x.to, .int .u64 x.amount, .int .u64 x.fee, .int .u64 x.nonce]) (.int .i64 1)).run Try.prog wx = .ok (.int .u64 x.to) wx := fun _ => by kernel_rfl
  have i2 : ∀ wx : World, (Instr.index 105 (.agg #[.int .u64 x.frm, .int .u64 x.to, .int .u64 x.amount, .int .u64 x.fee, .int .u64 x.nonce]) (.int .i64 2)).run Try.prog wx = .ok (.int .u64 x.amount) wx := fun _ => by kernel_rfl
  have i3 : ∀ wx : World, (Instr.index 105 (.agg #[.int .u64 x.frm, .int .u64 x.to, .int .u64 x.amount, .int .u64 x.fee, .int .u64 x.nonce]) (.int .i64 3)).run Try.prog wx = .ok (.int .u64 x.fee) wx := fun _ => by kernel_rfl
  have i4 : ∀ wx : World, (Instr.index 105 (.agg #[.int .u64 x.frm, .int .u64 x.to, .int .u64 x.amount, .int .u64 x.fee, .int .u64 x.nonce]) (.int .i64 4)).run Try.prog wx = .ok (.int .u64 x.nonce) wx := fun _ => by kernel_rfl
  refine wp_loop_rounds 6 ?_
  rw [rounds_succ]
  go_wp2_with fail
  refine (var_int _ B g _ x.frm hw2 (by omega) (by unfold two64; exact FB.out) (by simp only [List.length_append, List.length_cons, List.length_nil]; omega)).mono ?_
  rintro e w3 ⟨rfl, hw3, e3⟩
  go_wp2_with fail
  rw [rounds_succ]
  go_wp2_with fail
  refine (var_int _ B g _ x.to hw3 (by omega) (by unfold two64; exact TB.out) (by simp only [List.length_append, List.length_cons, List.length_nil]; omega)).mono ?_
  rintro e w4 ⟨rfl, hw4, e4⟩
  go_wp2_with fail
  rw [rounds_succ]
  go_wp2_with fail
  refine (var_int _ B g _ x.amount hw4 (by omega) (by unfold two64; exact AB.out) (by simp only [List.length_append, List.length_cons, List.length_nil]; omega)).mono ?_
  rintro e w5 ⟨rfl, hw5, e5⟩
  go_wp2_with fail
  rw [rounds_succ]
  go_wp2_with fail
  refine (var_int _ B g _ x.fee hw5 (by omega) (by unfold two64; exact EB.out) (by simp only [List.length_append, List.length_cons, List.length_nil]; omega)).mono ?_
  rintro e w6 ⟨rfl, hw6, e6⟩
  go_wp2_with fail
  rw [rounds_succ]
  go_wp2_with fail
  refine (var_int _ B g _ x.nonce hw6 (by omega) (by unfold two64; exact NB.out) (by simp only [List.length_append, List.length_cons, List.length_nil]; omega)).mono ?_
  rintro e w7 ⟨rfl, hw7, e7⟩
  go_wp2_with fail
  rw [rounds_succ]
  go_wp2_with (go_at_call 30; go_must (refine (noSeal_any _ _).mono ?_); rintro e w8 ⟨rfl, rfl⟩)
  go_end0
  refine ⟨rfl, ?_, (Eff.of_below hbl _ _).trans (e2.trans (e3.trans (e4.trans (e5.trans (e6.trans e7)))))⟩
  unfold encTx
  simpa only [List.append_assoc] using hw7

theorem encVote_len {x : Vote} (hx : x.ok) (hp : VoteB x) : (encVote x).length ≤ 73 := by
  obtain ⟨k1, k2, h1, h2, r1, r2, t1, t2, _, f1, f2⟩ := hp
  have lh := varB_int (n := x.height) (by omega) (by unfold two64; omega)
  have lr := varB_int (n := x.round) (by omega) (by unfold two64; omega)
  have lt := varB_int (n := x.time) (by omega) (by unfold two64; omega)
  have lf := varB_int (n := x.frm) (by omega) (by unfold two64; omega)
  have li := hx.id
  simp only [encVote, List.length_append, List.length_cons, List.length_nil]
  omega
theorem encProposal_len {x : Proposal} (hx : x.ok) (hp : ProposalB x) : (encProposal x).length ≤ 73 := by
  obtain ⟨h1, h2, r1, r2, v1, v2, _, f1, f2⟩ := hp
  have lh := varB_int (n := x.height) (by omega) (by unfold two64; omega)
  have lr := varB_int (n := x.round) (by omega) (by unfold two64; omega)
  have lv := varB_int (n := x.valid + 1) (by omega) (by unfold two64; omega)
  have lf := varB_int (n := x.frm) (by omega) (by unfold two64; omega)
  have li := hx.id
  simp only [encProposal, List.length_append]
  omega
theorem encTx_len {x : Tx} (hx : x.ok) (_ : TxB x) : (encTx x).length ≤ 73 := by
  obtain ⟨fa, fb⟩ := hx.frm
  obtain ⟨ta, tb⟩ := hx.to
  obtain ⟨aa, ab⟩ := hx.amount
  obtain ⟨ea, eb⟩ := hx.fee
  obtain ⟨na, nb⟩ := hx.nonce
  have l1 := varB_int (n := x.frm) (by omega) (by unfold two64; omega)
  have l2 := varB_int (n := x.to) (by omega) (by unfold two64; omega)
  have l3 := varB_int (n := x.amount) (by omega) (by unfold two64; omega)
  have l4 := varB_int (n := x.fee) (by omega) (by unfold two64; omega)
  have l5 := varB_int (n := x.nonce) (by omega) (by unfold two64; omega)
  simp only [encTx, List.length_append, List.length_cons, List.length_nil]
  omega
end Go.Proofs.Ytocgcalaiejbiaa

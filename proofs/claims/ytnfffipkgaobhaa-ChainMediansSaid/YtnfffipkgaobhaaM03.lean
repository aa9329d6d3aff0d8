/-
  How a transaction, a vote, a proposal are laid down without their seals. Conditions: they are plain; the Writer has room.
  TxBytes, VoteBytes, ProposalBytes of package wire: the error of the name or of the thing, or the letter, the name and the form without the seal. Condition: each number fits its kind.
  A transaction laid down with its seal; EncodeTx. Conditions: each number fits its kind; the Writer has room.
-/
import Derived.Test.YtnfffipkgaobhaaM02
namespace Go.Proofs.Ytnfffipkgaobhaa
set_option linter.unusedSimpArgs false
set_option linter.unusedVariables false
open Go.RowKit
set_option maxRecDepth 100000

theorem varB_int {n : Int} (h0 : 0 ≤ n) (h1 : n < two64) : (varB n.toNat).length ≤ 10 := varB_ten (by omega)

def encVote (x : Vote) : List UInt8 := [UInt8.ofNat x.kind.toNat] ++ varB x.height.toNat ++ varB x.round.toNat ++ x.id ++ varB x.time.toNat ++ varB x.frm.toNat

theorem firstErr_zero : ∀ {l : List Int}, firstErr l = 0 → ∀ e ∈ l, e = 0
  | [], _, e, h => by cases h
  | a :: l, h, e, he => by
    unfold firstErr at h
    by_cases ha : a = 0
    · rw [if_neg (by simpa using ha)] at h
      rcases List.mem_cons.1 he with rfl | he
      · exact ha
      · exact firstErr_zero h e he
    · rw [if_pos ha] at h; exact absurd h ha
theorem field_zero {b : Bool} (h : field b = 0) : b = false := by cases b with | false => rfl | true => cases h

structure VoteB (x : Vote) : Prop where
  k1 : 1 ≤ x.kind
  k2 : x.kind ≤ 2
  h1 : 1 ≤ x.height
  h2 : x.height ≤ 1099511627776
  r1 : 0 ≤ x.round
  r2 : x.round ≤ 65535
  t1 : 0 ≤ x.time
  t2 : x.time ≤ 1125899906842624
  tz : x.time ≠ 0 → x.kind = 2 ∧ x.id ≠ zeros 32
  f1 : 1 ≤ x.frm
  f2 : x.frm < 18446744073709551616
theorem voteB {x : Vote} (hx : x.ok) (h : plainVote x = 0) : VoteB x := by
  have hall := firstErr_zero h
  have a1 := hall _ (List.mem_cons_self ..)
  have a2 := hall (height x.height) (by simp)
  have a3 := hall (round x.round) (by simp)
  have a4 := hall (moment x.time) (by simp)
  have a5 := field_zero (hall (field ((x.time != 0) && ((x.kind == 1) || (x.id == zeros 32)))) (by simp))
  have a6 := field_zero (hall (field (x.frm == 0)) (by simp))
  have b2 := of_decide_eq_false (field_zero a2)
  have b3 := of_decide_eq_false (field_zero a3)
  have b4 := of_decide_eq_false (field_zero a4)
  have b1 : ¬ (x.kind < 1 ∨ 2 < x.kind) := by
    intro hh; unfold kind at a1; rw [if_pos hh] at a1; cases a1
  have ht := hx.time
  have hf := hx.frm
  unfold U64 at ht hf
  have a6' : x.frm ≠ 0 := by simpa using a6
  refine ⟨by omega, by omega, by omega, by omega, by omega, by omega, ht.1, by omega, fun hz => ?_, by omega, hf.2⟩
  simp only [Bool.and_eq_false_iff, bne_eq_false_iff_eq, Bool.or_eq_false_iff, beq_eq_false_iff_ne, ne_eq] at a5
  rcases a5 with a5 | ⟨a5, a7⟩
  · exact absurd a5 hz
  · exact ⟨by omega, a7⟩

def encProposal (x : Proposal) : List UInt8 := varB x.height.toNat ++ varB x.round.toNat ++ varB (x.valid + 1).toNat ++ x.id ++ varB x.frm.toNat
structure ProposalB (x : Proposal) : Prop where
  h1 : 1 ≤ x.height
  h2 : x.height ≤ 1099511627776
  r1 : 0 ≤ x.round
  r2 : x.round ≤ 65535
  v1 : -1 ≤ x.valid
  v2 : x.valid < x.round
  i1 : x.id ≠ zeros 32
  f1 : 1 ≤ x.frm
  f2 : x.frm < 18446744073709551616
theorem proposalB {x : Proposal} (hx : x.ok) (h : plainProposal x = 0) : ProposalB x := by
  have hall := firstErr_zero h
  have a2 := hall (height x.height) (by simp)
  have a3 := hall (round x.round) (by simp)
  have a4 := field_zero (hall (field (decide (x.valid < -1) || decide (x.round ≤ x.valid))) (by simp))
  have a5 := field_zero (hall (field (x.id == zeros 32)) (by simp))
  have a6 := field_zero (hall (field (x.frm == 0)) (by simp))
  have b2 := of_decide_eq_false (field_zero a2)
  have b3 := of_decide_eq_false (field_zero a3)
  have hf := hx.frm
  unfold U64 at hf
  have a6' : x.frm ≠ 0 := by simpa using a6
  simp only [Bool.or_eq_false_iff, decide_eq_false_iff_not] at a4
  exact ⟨by omega, by omega, by omega, by omega, by omega, by omega, by simpa using a5, by omega, hf.2⟩

def encTx (x : Tx) : List UInt8 := [UInt8.ofNat x.kind.toNat] ++ varB x.frm.toNat ++ varB x.to.toNat ++ varB x.amount.toNat ++ varB x.fee.toNat ++ varB x.nonce.toNat
structure TxB (x : Tx) : Prop where
  k1 : 1 ≤ x.kind
  k2 : x.kind ≤ 4
  f : x.frm ≠ 0
  t : x.to = 0 ↔ x.kind ≠ 1
  a2 : x.amount ≤ 1152921504606846975
  e2 : x.fee ≤ 1152921504606846975
  z : x.kind = 4 → x.amount = 0
theorem txB {x : Tx} (h : plainTx x = 0) : TxB x := by
  have hall := firstErr_zero h
  have a1 := hall _ (List.mem_cons_self ..)
  have a2 := field_zero (hall (field ((x.frm == 0) || ((x.to != 0) != (x.kind == 1)))) (by simp))
  have a3 := hall (amount x.amount) (by simp)
  have a4 := field_zero (hall (field ((x.kind == 4) && (x.amount != 0))) (by simp))
  have a5 := hall (amount x.fee) (by simp)
  have b3 := of_decide_eq_false (field_zero a3)
  have b5 := of_decide_eq_false (field_zero a5)
  have b1 : ¬ (x.kind < 1 ∨ 4 < x.kind) := by
    intro hh; unfold kind at a1; rw [if_pos hh] at a1; cases a1
  simp only [Bool.or_eq_false_iff, beq_eq_false_iff_ne, ne_eq, bne_eq_false_iff_eq] at a2
  simp only [Bool.and_eq_false_iff, beq_eq_false_iff_ne, ne_eq, bne_eq_false_iff_eq] at a4
  refine ⟨by omega, by omega, a2.1, ?_, by omega, by omega, fun hz => by rcases a4 with a4 | a4; exact absurd hz a4; exact a4⟩
  have h2 := a2.2
  by_cases ht : x.to = 0
  · by_cases hk : x.kind = 1
    · rw [ht, hk] at h2; cases h2
    · exact ⟨fun _ => hk, fun _ => ht⟩
  · by_cases hk : x.kind = 1
    · exact ⟨fun q => absurd q ht, fun q => absurd hk q⟩
    · have e1 : (x.to != 0) = true := by simp [ht]
      have e2 : (x.kind == 1) = false := by simp [hk]
      rw [e1, e2] at h2; cases h2

theorem Tx.cl_len (x : Tx) (h : x.ok) : x.cl.length = 22 := by simp [Tx.cl, bv_length, h.sl]

theorem encVote_len {x : Vote} (hx : x.ok) (hp : VoteB x) : (encVote x).length ≤ 73 := by
  obtain ⟨k1, k2, h1, h2, r1, r2, t1, t2, _, f1, f2⟩ := hp
  have lh := varB_int (n := x.height) (by omega) (by unfold two64; omega)
  have lr := varB_int (n := x.round) (by omega) (by unfold two64; omega)
  have lt := varB_int (n := x.time) (by omega) (by unfold two64; omega)
  have lf := varB_int (n := x.frm) (by omega) (by unfold two64; omega)
  have li := hx.id
  simp only [encVote, List.length_append, List.length_cons, List.length_nil]
  omega
theorem encProposal_len {x : Proposal} (hx : x.ok) (hp : ProposalB x) : (encProposal x).length ≤ 73 := by
  obtain ⟨h1, h2, r1, r2, v1, v2, _, f1, f2⟩ := hp
  have lh := varB_int (n := x.height) (by omega) (by unfold two64; omega)
  have lr := varB_int (n := x.round) (by omega) (by unfold two64; omega)
  have lv := varB_int (n := x.valid + 1) (by omega) (by unfold two64; omega)
  have lf := varB_int (n := x.frm) (by omega) (by unfold two64; omega)
  have li := hx.id
  simp only [encProposal, List.length_append]
  omega
theorem encTx_len {x : Tx} (hx : x.ok) (_ : TxB x) : (encTx x).length ≤ 73 := by
  obtain ⟨fa, fb⟩ := hx.frm
  obtain ⟨ta, tb⟩ := hx.to
  obtain ⟨aa, ab⟩ := hx.amount
  obtain ⟨ea, eb⟩ := hx.fee
  obtain ⟨na, nb⟩ := hx.nonce
  have l1 := varB_int (n := x.frm) (by omega) (by unfold two64; omega)
  have l2 := varB_int (n := x.to) (by omega) (by unfold two64; omega)
  have l3 := varB_int (n := x.amount) (by omega) (by unfold two64; omega)
  have l4 := varB_int (n := x.fee) (by omega) (by unfold two64; omega)
  have l5 := varB_int (n := x.nonce) (by omega) (by unfold two64; omega)
  simp only [encTx, List.length_append, List.length_cons, List.length_nil]
  omega
end Go.Proofs.Ytnfffipkgaobhaa
namespace Go.Proofs.Ytnfffipkgaobhaa
set_option linter.unusedSimpArgs false
set_option linter.unusedVariables false
open Go.RowKit
set_option maxRecDepth 100000

/-- what a call that answers bytes or an error comes to -/
def BytesRes (w : World) (err : Int) (l : List UInt8) (e : Ending) (w' : World) : Prop :=
  Below w.heap.size w w' ∧ ((err ≠ 0 ∧ e = .returned (.tuple #[.slice none 0 0, .int .i64 err])) ∨ (err = 0 ∧ ∃ v, e = .returned (.tuple #[v, .int .i64 0]) ∧ Bs w' w.heap.size v l))

def textB (s : ByteArray) : List UInt8 := varB s.size ++ s.data.toList
def saidErr (chain : ByteArray) (wrong : Int) : Int := firstErr [named chain.size, wrong]
theorem saidErr_zero {chain : ByteArray} {wrong : Int} (h : saidErr chain wrong = 0) : wrong = 0 ∧ 1 ≤ chain.size ∧ chain.size ≤ 16 := by
  have hall := firstErr_zero h
  have a := hall (named chain.size) (by simp)
  have b := of_decide_eq_false (field_zero a)
  exact ⟨hall wrong (by simp), by omega, by omega⟩
theorem cl_all {l : List Value} {n : Nat} (h : l.length = n) : l.toArray.extract 0 (0 + n) = l.toArray := by
  apply Array.ext'
  simp [← h]
theorem ofNat_lit (n : Nat) (h : n < 256) : ((UInt8.ofNat n).toNat : Int) = n := by rw [byte_of]; omega

theorem info_Tx : (Try.prog.info? 55).map (·.size) = some 22 := by kernel_rfl

def bytesTx (chain : ByteArray) (x : Tx) : List UInt8 := [84] ++ textB chain ++ encTx x

theorem info_Vote : (Try.prog.info? 57).map (·.size) = some 53 := by kernel_rfl

def bytesVote (chain : ByteArray) (x : Vote) : List UInt8 := [86] ++ textB chain ++ encVote x

def bytesProposal (chain : ByteArray) (x : Proposal) : List UInt8 := [80] ++ textB chain ++ encProposal x

end Go.Proofs.Ytnfffipkgaobhaa
namespace Go.Proofs.Ytnfffipkgaobhaa
set_option linter.unusedSimpArgs false
set_option linter.unusedVariables false
open Go.RowKit
set_option maxRecDepth 100000

theorem cl_sealTx (x : Tx) (j : Nat) (u : Value) (h : (bv x.sl)[j]? = some u) : x.cl.toArray[6 + j]? = some u := by
  rw [List.getElem?_toArray, Tx.cl, List.getElem?_append_right (by simp)]
  simpa using h
theorem bk_eqT {w : World} {g : Nat} {t : TypeId} {cs cs' : Array Value} (h : Bk w g cs t) (e : cs = cs') : Bk w g cs' t := e ▸ h
def formTx (x : Tx) : List UInt8 := encTx x ++ x.sl
end Go.Proofs.Ytnfffipkgaobhaa

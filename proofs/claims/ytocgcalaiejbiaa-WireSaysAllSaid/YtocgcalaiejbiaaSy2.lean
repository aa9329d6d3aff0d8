/-
  The walk of WireSaysAll: true, and nothing that was there is changed. Condition: each number fits its kind.
-/
import Derived.Test.YtocgcalaiejbiaaSy1
namespace Go.Proofs.Ytocgcalaiejbiaa
set_option linter.unusedSimpArgs false
set_option linter.unusedVariables false
open Go.RowKit
set_option maxRecDepth 100000

def fitTx : List CK := [.int .i64, .int .u64, .int .u64, .int .u64, .int .u64, .int .u64] ++ List.replicate 16 (.int .u8)
def fitVote : List CK := [.int .i64, .int .u64, .int .i64] ++ List.replicate 32 (.int .u8) ++ [.int .u64, .int .u64] ++ List.replicate 16 (.int .u8)
def fitProp : List CK := [.int .u64, .int .i64, .int .i64] ++ List.replicate 32 (.int .u8) ++ [.int .u64] ++ List.replicate 16 (.int .u8)
theorem flatS_tx : flat Try.prog 3 27 = some fitTx := by kernel_rfl
theorem flatS_vote : flat Try.prog 3 31 = some fitVote := by kernel_rfl
theorem flatS_prop : flat Try.prog 3 33 = some fitProp := by kernel_rfl
theorem aggS_tx : isAggT Try.prog 27 = true := by kernel_rfl
theorem aggS_vote : isAggT Try.prog 31 = true := by kernel_rfl
theorem aggS_prop : isAggT Try.prog 33 = true := by kernel_rfl
theorem guardS_tx : Try.prog.eqGuardType Try.prog.depth 27 = false := by kernel_rfl
theorem guardS_vote : Try.prog.eqGuardType Try.prog.depth 31 = false := by kernel_rfl
theorem guardS_prop : Try.prog.eqGuardType Try.prog.depth 33 = false := by kernel_rfl
theorem fitsB {n : Nat} {l : List UInt8} (h : l.length = n) : Fits (List.replicate n (.int .u8)) (bv l) := by rw [← h]; exact Fits.bytes l
theorem fitsS_tx (x : Tx) (hs : x.sl.length = 16) : Fits fitTx x.cl :=
  Fits.app (ks := [.int .i64, .int .u64, .int .u64, .int .u64, .int .u64, .int .u64]) (vs := [.int .i64 x.kind, .int .u64 x.frm, .int .u64 x.to, .int .u64 x.amount, .int .u64 x.fee, .int .u64 x.nonce]) ⟨rfl, rfl, rfl, rfl, rfl, rfl, trivial⟩ (fitsB hs)
theorem fitsS_vote (x : Vote) (h : x.id.length = 32) (hs : x.sl.length = 16) : Fits fitVote x.cl :=
  Fits.app (Fits.app (Fits.app (ks := [.int .i64, .int .u64, .int .i64]) (vs := [.int .i64 x.kind, .int .u64 x.height, .int .i64 x.round]) ⟨rfl, rfl, rfl, trivial⟩ (fitsB h)) (ks' := [.int .u64, .int .u64]) (vs' := [.int .u64 x.time, .int .u64 x.frm]) ⟨rfl, rfl, trivial⟩) (fitsB hs)
theorem fitsS_prop (x : Proposal) (h : x.id.length = 32) (hs : x.sl.length = 16) : Fits fitProp x.cl :=
  Fits.app (Fits.app (Fits.app (ks := [.int .u64, .int .i64, .int .i64]) (vs := [.int .u64 x.height, .int .i64 x.round, .int .i64 x.valid]) ⟨rfl, rfl, rfl, trivial⟩ (fitsB h)) (ks' := [.int .u64]) (vs' := [.int .u64 x.frm]) ⟨rfl, trivial⟩) (fitsB hs)

/-! What is signed says all. -/
theorem head_tx (c : ByteArray) (x : Tx) : (bytesTx c x).head? = some 84 := rfl
theorem head_vote (c : ByteArray) (x : Vote) : (bytesVote c x).head? = some 86 := rfl
theorem head_prop (c : ByteArray) (x : Proposal) : (bytesProposal c x).head? = some 80 := rfl
theorem say_kind {m n : Int} {x y : Name} (hm : m = 0 ∨ m = 1 ∨ m = 2) (hn : n = 0 ∨ n = 1 ∨ n = 2) (h : kBytes m x = kBytes n y) : m = n := by
  have h' := congrArg List.head? h
  rcases hm with rfl | rfl | rfl <;> rcases hn with rfl | rfl | rfl <;> first
    | rfl
    | (exfalso; revert h'; simp [kBytes, head_tx, head_vote, head_prop])
theorem data_inj {a b : ByteArray} (h : a.data.toList = b.data.toList) : a = b := by
  cases a; cases b
  simp only at h
  exact congrArg _ (Array.ext' h)
theorem app_inj {α : Type} {a b c d : List α} (h : a ++ b = c ++ d) (hl : a.length = c.length) : a = c ∧ b = d := List.append_inj h hl
theorem tx_inj {x y : Tx} (h : x.cl = y.cl) : encTx x = encTx y := by
  obtain ⟨h1, h2⟩ := app_inj h rfl
  injection h1 with a1 h1; injection h1 with a2 h1; injection h1 with a3 h1; injection h1 with a4 h1; injection h1 with a5 h1; injection h1 with a6 h1
  injection a1 with _ a1; injection a2 with _ a2; injection a3 with _ a3; injection a4 with _ a4; injection a5 with _ a5; injection a6 with _ a6
  unfold encTx
  rw [a1, a2, a3, a4, a5, a6]
theorem vote_inj {x y : Vote} (h : x.cl = y.cl) (hx : x.id.length = 32) (hy : y.id.length = 32) : encVote x = encVote y := by
  obtain ⟨h, _⟩ := app_inj h (by simp [bv_length, hx, hy])
  obtain ⟨h, h2⟩ := app_inj h (by simp [bv_length, hx, hy])
  obtain ⟨h1, h3⟩ := app_inj h rfl
  injection h1 with a1 h1; injection h1 with a2 h1; injection h1 with a3 h1
  injection h2 with a4 h2; injection h2 with a5 h2
  injection a1 with _ a1; injection a2 with _ a2; injection a3 with _ a3; injection a4 with _ a4; injection a5 with _ a5
  have h3 := bv_inj h3
  unfold encVote
  rw [a1, a2, a3, a4, a5, h3]
theorem prop_inj {x y : Proposal} (h : x.cl = y.cl) (hx : x.id.length = 32) (hy : y.id.length = 32) : encProposal x = encProposal y := by
  obtain ⟨h, _⟩ := app_inj h (by simp [bv_length, hx, hy])
  obtain ⟨h, h2⟩ := app_inj h (by simp [bv_length, hx, hy])
  obtain ⟨h1, h3⟩ := app_inj h rfl
  injection h1 with a1 h1; injection h1 with a2 h1; injection h1 with a3 h1
  injection h2 with a4 h2
  injection a1 with _ a1; injection a2 with _ a2; injection a3 with _ a3; injection a4 with _ a4
  have h3 := bv_inj h3
  unfold encProposal
  rw [a1, a2, a3, a4, h3]
theorem say_tx {x y : Name} (hx : x.ok) (hy : y.ok) (ex : saidErr x.chain (plainTx x.tx) = 0) (ey : saidErr y.chain (plainTx y.tx) = 0) (h : bytesTx x.chain x.tx = bytesTx y.chain y.tx) : x.chain = y.chain ∧ x.bare.tx.cl = y.bare.tx.cl := by
  have a := parseTx_fw hx.tx ex
  rw [h, parseTx_fw hy.tx ey] at a
  injection a with a b
  exact ⟨data_inj a.symm, by show Tx.cl _ = Tx.cl _; rw [show x.bare.tx = y.bare.tx from b.symm]⟩
theorem say_vote {x y : Name} (hx : x.ok) (hy : y.ok) (ex : saidErr x.chain (plainVote x.vote) = 0) (ey : saidErr y.chain (plainVote y.vote) = 0) (h : bytesVote x.chain x.vote = bytesVote y.chain y.vote) : x.chain = y.chain ∧ x.bare.vote.cl = y.bare.vote.cl := by
  have a := heardVote_fw hx.vote ex
  rw [h, heardVote_fw hy.vote ey] at a
  injection a with _ a
  injection a with a b
  exact ⟨data_inj a.symm, by show Vote.cl _ = Vote.cl _; rw [show x.bare.vote = y.bare.vote from b.symm]⟩
theorem say_prop {x y : Name} (hx : x.ok) (hy : y.ok) (ex : saidErr x.chain (plainProposal x.prop) = 0) (ey : saidErr y.chain (plainProposal y.prop) = 0) (h : bytesProposal x.chain x.prop = bytesProposal y.chain y.prop) : x.chain = y.chain ∧ x.bare.prop.cl = y.bare.prop.cl := by
  have a := heardProposal_fw hx.prop ex
  rw [h, heardProposal_fw hy.prop ey] at a
  injection a with _ a
  injection a with a b
  exact ⟨data_inj a.symm, by show Proposal.cl _ = Proposal.cl _; rw [show x.bare.prop = y.bare.prop from b.symm]⟩
/-- what is signed is the same just if the kind, the chain and the thing but for its Seal are -/
theorem say_chain {m : Int} {x y : Name} (hm : m = 0 ∨ m = 1 ∨ m = 2) (hx : x.ok) (hy : y.ok) (ex : kErr m x = 0) (ey : kErr m y = 0) (h : kBytes m x = kBytes m y) : x.chain = y.chain := by
  rcases hm with rfl | rfl | rfl
  · exact (say_tx hx hy ex ey h).1
  · exact (say_vote hx hy ex ey h).1
  · exact (say_prop hx hy ex ey h).1
theorem eq_tx {x y : Name} (hx : x.ok) (hy : y.ok) (ex : kErr 0 x = 0) (ey : kErr 0 y = 0) (hc : x.chain = y.chain) : (kBytes 0 x == kBytes 0 y) = true ↔ x.bare.tx.cl = y.bare.tx.cl := by
  rw [beq_iff_eq]
  refine ⟨fun h => (say_tx hx hy ex ey h).2, fun h => ?_⟩
  show bytesTx _ _ = bytesTx _ _
  unfold bytesTx
  rw [hc, show encTx x.tx = encTx y.tx from tx_inj (x := x.bare.tx) (y := y.bare.tx) h]
theorem eq_vote {x y : Name} (hx : x.ok) (hy : y.ok) (ex : kErr 1 x = 0) (ey : kErr 1 y = 0) (hc : x.chain = y.chain) : (kBytes 1 x == kBytes 1 y) = true ↔ x.bare.vote.cl = y.bare.vote.cl := by
  rw [beq_iff_eq]
  refine ⟨fun h => (say_vote hx hy ex ey h).2, fun h => ?_⟩
  show bytesVote _ _ = bytesVote _ _
  unfold bytesVote
  rw [hc, show encVote x.vote = encVote y.vote from vote_inj (x := x.bare.vote) (y := y.bare.vote) h hx.vote.id hy.vote.id]
theorem eq_prop {x y : Name} (hx : x.ok) (hy : y.ok) (ex : kErr 2 x = 0) (ey : kErr 2 y = 0) (hc : x.chain = y.chain) : (kBytes 2 x == kBytes 2 y) = true ↔ x.bare.prop.cl = y.bare.prop.cl := by
  rw [beq_iff_eq]
  refine ⟨fun h => (say_prop hx hy ex ey h).2, fun h => ?_⟩
  show bytesProposal _ _ = bytesProposal _ _
  unfold bytesProposal
  rw [hc, show encProposal x.prop = encProposal y.prop from prop_inj (x := x.bare.prop) (y := y.bare.prop) h hx.prop.id hy.prop.id]
theorem ans_len {m : Int} (hm : m = 0 ∨ m = 1 ∨ m = 2) (x : Name) (h : x.ok) : (ansB (kErr m x) (kBytes m x)).length ≤ 200 := by
  rcases hm with rfl | rfl | rfl
  · exact ansTx_len x h
  · exact ansVote_len x h
  · exact ansProposal_len x h
theorem str_back (s : ByteArray) : toStr s.data.toList = .string s := by
  cases s
  simp [toStr]
theorem str_same {a b : ByteArray} (h : a = b) : (a.toList == b.toList) = true := by
  rw [h]
  exact beq_self_eq_true _
theorem str_unlike {a b : ByteArray} (h : a ≠ b) : (a.toList == b.toList) = false := by
  rw [beq_eq_false_iff_ne, ByteArray.toList_eq, ByteArray.toList_eq]
  exact fun e => h (data_inj e)
end Go.Proofs.Ytocgcalaiejbiaa

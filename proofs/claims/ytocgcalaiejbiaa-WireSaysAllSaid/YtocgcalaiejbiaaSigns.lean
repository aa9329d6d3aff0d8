/-
  The Go text of WireSigns returns true for whatever name, transfer, vote and proposal. Condition: each number fits its kind.
-/
import Derived.Test.YtocgcalaiejbiaaTurn
import Derived.Test.YtocgcalaiejbiaaRef5
namespace Go.Proofs.Ytocgcalaiejbiaa
set_option linter.unusedSimpArgs false
set_option linter.unusedVariables false
open Go.RowKit
set_option maxRecDepth 100000

def ansB (err : Int) (l : List UInt8) : List UInt8 := if err = 0 then l else []
theorem res_ans {w w' : World} {err : Int} {l : List UInt8} {e : Ending} (h : BytesRes w err l e w') : Below w.heap.size w w' ∧ ∃ A c, e = .returned (.tuple #[.slice A (ansB err l).length c, .int .i64 err]) ∧ Bs w' w.heap.size (.slice A (ansB err l).length c) (ansB err l) := by
  obtain ⟨hb, h⟩ := h
  refine ⟨hb, ?_⟩
  rcases h with ⟨hz, rfl⟩ | ⟨hz, v, rfl, hv⟩
  · have ha : ansB err l = [] := by unfold ansB; rw [if_neg hz]
    rw [ha]
    exact ⟨none, 0, rfl, Bs.nil _ _⟩
  · have ha : ansB err l = l := by unfold ansB; rw [if_pos hz]
    rw [ha]
    obtain ⟨A, c, rfl⟩ := hv.form
    subst hz
    exact ⟨A, c, rfl, hv⟩
theorem bs_kept {w w' : World} {B : Nat} {v : Value} {l : List UInt8} {r : Option Nat} (h : Bs w B v l) (hg : w.grownBy w' r) (hr : ∀ k, r = some k → k < B) : Bs w' B v l := by
  refine World.ownsRow.kept h hg ?_
  cases hv : v.ownBlock with
  | none => exact .inl rfl
  | some k =>
    right
    intro e
    have h1 := (World.ownsRow.lt h k hv).1
    have h2 := hr k e.symm
    omega
theorem bs_lt {w : World} {B : Nat} {v : Value} {l : List UInt8} (h : Bs w B v l) : ∀ k, v.ownBlock = some k → k < w.heap.size := fun k hk => (World.ownsRow.lt h k hk).2
theorem bs_kept' {w w' : World} {B : Nat} {v : Value} {l : List UInt8} {r : Option Nat} (h : Bs w B v l) (hg : w.grownBy w' r) (hr : ∀ k, r = some k → B ≤ k) (hv : ∀ k, v.ownBlock = some k → ∀ j, r = some j → k < j) : Bs w' B v l := by
  refine World.ownsRow.kept h hg ?_
  cases hv' : v.ownBlock with
  | none => exact .inl rfl
  | some k =>
    right
    intro e
    have := hv k hv' k e.symm
    omega

structure Name where
  chain : ByteArray
  tx : Tx
  vote : Vote
  prop : Proposal
def Name.cl (x : Name) : List Value := [.string x.chain] ++ x.tx.cl ++ x.vote.cl ++ x.prop.cl
structure Name.ok (x : Name) : Prop where
  chain : x.chain.size ≤ 9223372036854775807
  tx : x.tx.ok
  vote : x.vote.ok
  prop : x.prop.ok
theorem Name.cl_len (x : Name) (h : x.ok) : x.cl.length = 128 := by
  simp only [Name.cl, List.length_append, List.length_cons, List.length_nil, x.tx.cl_len h.tx, x.vote.cl_len h.vote, x.prop.cl_len h.prop]
theorem Name.cl_tx (x : Name) (h : x.ok) : x.cl.toArray.extract 1 (1 + 22) = x.tx.cl.toArray := by
  refine extract_cl _ _ _ _ ?_
  have e : x.cl.drop 1 = x.tx.cl ++ (x.vote.cl ++ x.prop.cl) := by simp [Name.cl]
  rw [e, show 1 + 22 - 1 = x.tx.cl.length from by rw [x.tx.cl_len h.tx]]
  exact List.take_left
theorem Name.cl_vote (x : Name) (h : x.ok) : x.cl.toArray.extract 23 (23 + 53) = x.vote.cl.toArray := by
  refine extract_cl _ _ _ _ ?_
  have e0 : x.cl = ([.string x.chain] ++ x.tx.cl) ++ (x.vote.cl ++ x.prop.cl) := by simp [Name.cl]
  have e1 : ([.string x.chain] ++ x.tx.cl : List Value).length = 23 := by rw [List.length_append, x.tx.cl_len h.tx]; rfl
  have e : x.cl.drop 23 = x.vote.cl ++ x.prop.cl := by rw [e0, ← e1]; exact List.drop_left
  rw [e, show 23 + 53 - 23 = x.vote.cl.length from by rw [x.vote.cl_len h.vote]]
  exact List.take_left
theorem Name.cl_prop (x : Name) (h : x.ok) : x.cl.toArray.extract 76 (76 + 52) = x.prop.cl.toArray := by
  refine extract_cl _ _ _ _ ?_
  have e0 : x.cl = ([.string x.chain] ++ x.tx.cl ++ x.vote.cl) ++ x.prop.cl := by simp [Name.cl]
  have e1 : ([.string x.chain] ++ x.tx.cl ++ x.vote.cl : List Value).length = 76 := by rw [List.length_append, List.length_append, x.tx.cl_len h.tx, x.vote.cl_len h.vote]; rfl
  have e : x.cl.drop 76 = x.prop.cl := by rw [e0, ← e1]; exact List.drop_left
  rw [e, show 76 + 52 - 76 = x.prop.cl.length from by rw [x.prop.cl_len h.prop]]
  exact List.take_length

theorem ansTx_len (x : Name) (h : x.ok) : (ansB (saidErr x.chain (plainTx x.tx)) (bytesTx x.chain x.tx)).length ≤ 200 := by
  unfold ansB
  split
  · rename_i hz
    obtain ⟨hz, c1, c2⟩ := saidErr_zero hz
    have := encTx_len h.tx (txB hz)
    have lc := varB_ten (n := x.chain.size) (by unfold two64; omega)
    have e : x.chain.data.size = x.chain.size := rfl
    simp only [bytesTx, textB, List.length_append, List.length_cons, List.length_nil, Array.length_toList]
    omega
  · simp
theorem ansVote_len (x : Name) (h : x.ok) : (ansB (saidErr x.chain (plainVote x.vote)) (bytesVote x.chain x.vote)).length ≤ 200 := by
  unfold ansB
  split
  · rename_i hz
    obtain ⟨hz, c1, c2⟩ := saidErr_zero hz
    have := encVote_len h.vote (voteB h.vote hz)
    have lc := varB_ten (n := x.chain.size) (by unfold two64; omega)
    have e : x.chain.data.size = x.chain.size := rfl
    simp only [bytesVote, textB, List.length_append, List.length_cons, List.length_nil, Array.length_toList]
    omega
  · simp
theorem ansProposal_len (x : Name) (h : x.ok) : (ansB (saidErr x.chain (plainProposal x.prop)) (bytesProposal x.chain x.prop)).length ≤ 200 := by
  unfold ansB
  split
  · rename_i hz
    obtain ⟨hz, c1, c2⟩ := saidErr_zero hz
    have := encProposal_len h.prop (proposalB h.prop hz)
    have lc := varB_ten (n := x.chain.size) (by unfold two64; omega)
    have e : x.chain.data.size = x.chain.size := rfl
    simp only [bytesProposal, textB, List.length_append, List.length_cons, List.length_nil, Array.length_toList]
    omega
  · simp
end Go.Proofs.Ytocgcalaiejbiaa

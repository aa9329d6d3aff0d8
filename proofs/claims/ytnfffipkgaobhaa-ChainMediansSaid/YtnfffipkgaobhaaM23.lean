/-
  EncodeEvidence. Condition: each number fits its kind.
  The reference's PlainEvidence and its form of evidence. Condition: each number fits its kind.
  The program's roots of lists of transfers. Conditions: the list lies in memory; each number fits its kind; the tables read as they were laid.
  The program's roots of lists of evidence. Conditions: the list lies in memory; each number fits its kind; the tables read as they were laid.
-/
import Derived.Test.YtnfffipkgaobhaaMEv2
import Derived.Test.YtnfffipkgaobhaaM12
import Derived.Test.YtnfffipkgaobhaaM15
import Derived.Test.YtnfffipkgaobhaaM20
namespace Go.Proofs.Ytnfffipkgaobhaa
set_option linter.unusedSimpArgs false
set_option linter.unusedVariables false
open Go.RowKit
set_option maxRecDepth 100000

theorem evB {x : Ev} (hx : x.ok) (h : plainEv x = 0) : VoteB x.a ∧ VoteB x.b := by
  unfold plainEv at h
  by_cases he : headEv x = 0
  · have hall := firstErr_zero he
    exact ⟨voteB hx.a (hall (plainVote x.a) (by simp)), voteB hx.b (hall (plainVote x.b) (by simp))⟩
  · rw [if_pos he] at h
    exact absurd h he
theorem formEv_len {x : Ev} (hx : x.ok) (ha : VoteB x.a) (hb : VoteB x.b) : (formEv x).length ≤ 190 := by
  have h1 := encVote_len hx.a ha
  have h2 := encVote_len hx.b hb
  have h3 := hx.a.sl
  have h4 := hx.b.sl
  simp only [formEv, fvE, List.length_append]
  omega
end Go.Proofs.Ytnfffipkgaobhaa
namespace Go.Proofs.Ytnfffipkgaobhaa
set_option linter.unusedSimpArgs false
set_option linter.unusedVariables false
open Go.RowKit
set_option maxRecDepth 100000

-- ---- Below: the bytes of a lie before those of b
theorem cmp_step (a b : UInt8) (la lb : List UInt8) : Lib.compareBytes (a :: la) (b :: lb) = if a < b then -1 else if b < a then 1 else Lib.compareBytes la lb := rfl
theorem cmp_drop {l r : List UInt8} {k : Nat} {a b : UInt8} (hl : l[k]? = some a) (hr : r[k]? = some b) : Lib.compareBytes (l.drop k) (r.drop k) = if a < b then -1 else if b < a then 1 else Lib.compareBytes (l.drop (k + 1)) (r.drop (k + 1)) := by
  have h1 := (List.getElem?_eq_some_iff.1 hl)
  have h2 := (List.getElem?_eq_some_iff.1 hr)
  obtain ⟨h1, e1⟩ := h1
  obtain ⟨h2, e2⟩ := h2
  rw [List.drop_eq_getElem_cons h1, List.drop_eq_getElem_cons h2, e1, e2, cmp_step]
theorem bk_drewN {w : World} {g n : Nat} {cs : Array Value} {t : TypeId} (h : Bk w g cs t) : Bk (w.drewN n) g cs t := h
theorem below_drewNE {B n : Nat} {a w : World} (h : Below B a w) : Below B a (w.drewN n) := ⟨h.os, h.tape, h.output, h.size, h.block⟩
theorem Ev.cell_a (x : Ev) (hx : x.ok) {j : Nat} {u : Value} (h : x.a.cl.toArray[j]? = some u) : x.cl.toArray[j]? = some u := by
  rw [List.getElem?_toArray] at h ⊢
  rw [Ev.cl, List.getElem?_append_left (List.getElem?_eq_some_iff.1 h).1]
  exact h
theorem Ev.cell_b (x : Ev) (hx : x.ok) {j : Nat} {u : Value} (h : x.b.cl.toArray[j]? = some u) : x.cl.toArray[53 + j]? = some u := by
  rw [List.getElem?_toArray] at h ⊢
  rw [Ev.cl, List.getElem?_append_right (by rw [x.a.cl_len hx.a]; omega), x.a.cl_len hx.a, Nat.add_sub_cancel_left]
  exact h
theorem Ev.cl_ida (x : Ev) (hx : x.ok) : x.cl.toArray.extract 3 (3 + 32) = (bv x.a.id).toArray := by
  refine extract_cl _ _ _ _ ?_
  have e : x.cl.drop 3 = bv x.a.id ++ ([.int .u64 x.a.time, .int .u64 x.a.frm] ++ bv x.a.sl ++ x.b.cl) := by simp [Ev.cl, Vote.cl]
  rw [e, show 3 + 32 - 3 = (bv x.a.id).length from by rw [bv_length, hx.a.id]]
  exact List.take_left
theorem Ev.cl_idb (x : Ev) (hx : x.ok) : x.cl.toArray.extract 56 (56 + 32) = (bv x.b.id).toArray := by
  refine extract_cl _ _ _ _ ?_
  have e : x.cl.drop 56 = bv x.b.id ++ ([.int .u64 x.b.time, .int .u64 x.b.frm] ++ bv x.b.sl) := by
    rw [Ev.cl, show 56 = x.a.cl.length + 3 by rw [x.a.cl_len hx.a], ← List.drop_drop, List.drop_left]
    simp [Vote.cl]
  rw [e, show 56 + 32 - 56 = (bv x.b.id).length from by rw [bv_length, hx.b.id]]
  exact List.take_left

theorem refVote_fv (x : Vote) : refVote x true = fvE x := by
  unfold refVote fvE encVote optB; simp [List.append_assoc]
end Go.Proofs.Ytnfffipkgaobhaa
namespace Go.Proofs.Ytnfffipkgaobhaa
set_option linter.unusedSimpArgs false
set_option linter.unusedVariables false
open Go.RowKit
set_option maxRecDepth 100000

theorem tx_one (x : Tx) : ∀ u ∈ (Value.agg x.cl.toArray).cells.toList, u.oneCell' = true := by
  intro u hu
  simp only [Value.cells, Tx.cl, List.mem_append, List.mem_cons, List.not_mem_nil, or_false] at hu
  rcases hu with (rfl | rfl | rfl | rfl | rfl | rfl) | hu
  all_goals first | rfl | exact bv_one _ u (by simpa [Value.cells] using hu)
def zeroTxC : List Value := [.int .i64 0, .int .u64 0, .int .u64 0, .int .u64 0, .int .u64 0, .int .u64 0] ++ bv (zer 16)
theorem zero_TxC : (Try.prog.info? 55).bind (·.zero) = some (.agg zeroTxC.toArray) := by kernel_rfl
theorem zeroTxC_len : zeroTxC.length = 22 := rfl

end Go.Proofs.Ytnfffipkgaobhaa
namespace Go.Proofs.Ytnfffipkgaobhaa
set_option linter.unusedSimpArgs false
set_option linter.unusedVariables false
open Go.RowKit
set_option maxRecDepth 100000

theorem ev_one (x : Ev) : ∀ u ∈ (Value.agg x.cl.toArray).cells.toList, u.oneCell' = true := by
  intro u hu
  simp only [Value.cells, Ev.cl, List.mem_append] at hu
  rcases hu with hu | hu
  · exact vote_one x.a u (by simpa [Value.cells] using hu)
  · exact vote_one x.b u (by simpa [Value.cells] using hu)
def zeroEvC : List Value := zeroVote ++ zeroVote
theorem zero_EvC : (Try.prog.info? 59).bind (·.zero) = some (.agg zeroEvC.toArray) := by kernel_rfl
theorem zeroEvC_len : zeroEvC.length = 106 := rfl

end Go.Proofs.Ytnfffipkgaobhaa

/-
  PlainEvidence. Condition: each number fits its kind.
-/
import Derived.Test.YtnfffipkgaobhaaM20
import Derived.Test.YtnfffipkgaobhaaM21
namespace Go.Proofs.Ytnfffipkgaobhaa
set_option linter.unusedSimpArgs false
set_option linter.unusedVariables false
open Go.RowKit
set_option maxRecDepth 100000

def zeroVote : List Value := [.int .i64 0, .int .u64 0, .int .i64 0] ++ bv (zer 32) ++ [.int .u64 0, .int .u64 0] ++ bv (zer 16)
theorem zero_Vote : (Try.prog.info? 57).bind (·.zero) = some (.agg zeroVote.toArray) := by kernel_rfl
theorem zeroVote_len : zeroVote.length = 53 := rfl
def U (q : Bool) (v : Value) : Value := bif q then undef else v
/-- a new variable of these cells -/
def NewK (base : Nat) (cs : Array Value) (t : TypeId) : Known := fun v w => ∃ g, v = .pointer (some ⟨g, 0, none⟩) ∧ Bk w g cs t ∧ base ≤ g
theorem NewK.steady (base : Nat) (cs : Array Value) (t : TypeId) : Steady (NewK base cs t) := fun _ _ _ h hb => by
  obtain ⟨g, h1, h2, h3⟩ := h
  exact ⟨g, h1, h2.below hb h2.lt, h3⟩
def unlike (x : Ev) : Bool := (x.a.kind != x.b.kind) || (x.a.height != x.b.height) || (x.a.round != x.b.round) || (x.a.frm != x.b.frm)
def headEv (x : Ev) : Int := firstErr [plainVote x.a, plainVote x.b, field (unlike x)]
def plainEv (x : Ev) : Int := if headEv x ≠ 0 then headEv x else if 0 ≤ Lib.compareBytes x.a.id x.b.id then 42 else 0
theorem vote_one (x : Vote) : ∀ u ∈ (Value.agg x.cl.toArray).cells.toList, u.oneCell' = true := by
  intro u hu
  simp only [Value.cells, Vote.cl, List.mem_append, List.mem_cons, List.not_mem_nil, or_false] at hu
  rcases hu with (((rfl | rfl | rfl) | hu) | (rfl | rfl)) | hu
  all_goals first | rfl | exact bv_one _ u (by simpa [Value.cells] using hu)

theorem vote_id (x : Vote) (hi : x.id.length = 32) (j : Nat) (u : Value) (h : (bv x.id)[j]? = some u) : x.cl.toArray[3 + j]? = some u := by
  have e : x.cl = [.int .i64 x.kind, .int .u64 x.height, .int .i64 x.round] ++ (bv x.id ++ ([.int .u64 x.time, .int .u64 x.frm] ++ bv x.sl)) := by simp [Vote.cl]
  rw [List.getElem?_toArray, e, List.getElem?_append_right (by simp)]
  have hl := (List.getElem?_eq_some_iff.1 h).1
  simp only [List.length_cons, List.length_nil, Nat.add_sub_cancel_left]
  rw [List.getElem?_append_left hl]
  exact h
end Go.Proofs.Ytnfffipkgaobhaa

/-
  A region that draws its order, by an invariant over what has been done; two variables made at once out of two parts of one. No condition: lemmas over any program.
-/
import Derived.Test.YtlhnhjglcbggmaaGreatRRY09
import Derived.Test.YtlhnhjglcbggmaaGreatRRY04
namespace Go.Proofs.YtlhnhjglcbggmaaGreatRR
set_option linter.unusedSimpArgs false
set_option linter.unusedVariables false
open Go.RowKit

def StepI (K : Act → World → Prop) : Exit → Act → World → Prop
 | .normal, a, w => K a w
 | _, _, _ => False
def acyc (ops : Array Oper) : Bool := (List.range ops.size).all fun i => match ops[i]? with | some o => o.after.all (fun e => !Region.binds .any e || decide (e.on < i)) | none => false
section
variable {P : Program} {ops : Array Oper} {Q : Exit → Act → World → Prop}
theorem wpOp_of {i : Nat} {o : Oper} {K : Act → World → Prop} {a : Act} {w : World} (ho : ops[i]? = some o) (h : wpList P ops (StepI K) [o] a w) : wpOp P ops Q i K a w := by
 unfold wpOp
 simp only [ho]
 unfold wpList at h
 by_cases hwt : Region.wanted o (yielded ops a.tmps) = true
 case neg =>
  rw [if_neg hwt] at h ⊢
  exact h
 rw [if_pos hwt] at h ⊢
 rcases h with h | ⟨_, _, _, h⟩
 case inr => exact h.elim
 left
 unfold Oper.wp at *
 generalize (execOp a.eval o).run P w = r at h
 cases r with
 | ok n w' =>
  cases n <;> simp only [Oper.upon] at h ⊢
  case value v => exact h
  case skip => exact h
  case defer x => exact h
  case enter f args =>
   refine Calls.mono h fun e w'' he => ?_
   cases e with
   | returned u => exact he
   | panicked c => exact he.elim
   | outgrown => obtain ⟨_, _, h⟩ := he; exact h.elim
  case row row args => exact Rows.mono h fun u w'' he => he
 | halt x w' =>
  cases x <;> simp only [Oper.upon] at h ⊢
  case panic u => exact h.elim
theorem wpOp_mono {i : Nat} {K K' : Act → World → Prop} {a : Act} {w : World} (hk : ∀ a w, K a w → K' a w) (h : wpOp P ops Q i K a w) : wpOp P ops Q i K' a w := by
 unfold wpOp at *
 cases ho : ops[i]? with
 | none => rw [ho] at h; exact hk _ _ h
 | some o =>
  rw [ho] at h
  simp only at h ⊢
  by_cases hwt : Region.wanted o (yielded ops a.tmps) = true
  ·rw [if_pos hwt] at h ⊢
   exact h.imp (fun h => Oper.wp_mono hk h) id
  ·rw [if_neg hwt] at h ⊢
   exact hk _ _ h
theorem wpAny_inv (hac : acyc ops = true) (I : Array Bool → Act → World → Prop)
  (hstep : ∀ L a w i o, L.size = ops.size → I L a w → L.getD i true = false → ops[i]? = some o → (∀ e ∈ o.after, Region.binds .any e = true → L.getD e.on false = true) → wpList P ops (StepI (I (L.setIfInBounds i true))) [o] a w)
  (hend : ∀ L a w, I L a w → (∀ i, i < ops.size → L.getD i false = true) → Q .normal a w) :
  ∀ (m : Nat) (L : Array Bool) (a : Act) (w : World), left L ops.size = m → L.size = ops.size → I L a w → wpAny P .any ops Q m L a w := by
 intro m
 induction m with
 | zero =>
  intro L a w hL hs hI
  have hall := left_zero ops.size hL
  refine ⟨?_, hend L a w hI hall⟩
  apply List.eq_nil_iff_forall_not_mem.2
  intro j hj
  obtain ⟨h1, o, ho, _⟩ := mem_ready.1 hj
  have hjl : j < ops.size := (Array.getElem?_eq_some_iff.1 ho).1
  have h2 := hall j hjl
  rw [getD_both h1] at h2
  cases h2
 | succ m ih =>
  intro L a w hL hs hI
  refine ⟨fun hr => ?_, fun i hi => ?_⟩
  ·exfalso
   obtain ⟨i0, hi0, hf0, hmin⟩ := left_pos (L := L) ops.size (by rw [hL]; exact Nat.succ_pos m)
   have hun0 : L.getD i0 true = false := getD_in (by rw [hs]; exact hi0) hf0
   unfold acyc at hac
   have h1 := List.all_eq_true.1 hac i0 (List.mem_range.2 hi0)
   have ho : ops[i0]? = some ops[i0] := Array.getElem?_eq_getElem hi0
   rw [ho] at h1
   simp only [Array.all_eq_true_iff_forall_mem, Bool.or_eq_true, Bool.not_eq_true', decide_eq_true_eq] at h1
   have hm : i0 ∈ Region.ready .any ops L := mem_ready.2 ⟨hun0, _, ho, fun e he hb => hmin e.on (by
    rcases h1 e he with h | h
    ·rw [hb] at h; cases h
    ·exact h)⟩
   rw [hr] at hm
   cases hm
  ·obtain ⟨hun, o, ho, haf⟩ := mem_ready.1 hi
   have hil : i < ops.size := (Array.getElem?_eq_some_iff.1 ho).1
   refine wpOp_mono (fun a' w' h => ?_) (wpOp_of ho (hstep L a w i o hs hI hun ho haf))
   refine ih _ a' w' ?_ (by simp [hs]) h
   have := left_set (L := L) (i := i) (by rw [hs]; exact hil) (getD_both hun) ops.size hil
   omega
theorem wp_region_inv {id : Nat} {l : List Oper} {a0 : Act} {w : World} (hm : P.follows .mixedOrders = true) (hac : acyc l.toArray = true) (I : Array Bool → Act → World → Prop)
  (h0 : I (Array.replicate l.toArray.size false) a0 w.drew)
  (hstep : ∀ L a w i o, L.size = l.toArray.size → I L a w → L.getD i true = false → l.toArray[i]? = some o → (∀ e ∈ o.after, Region.binds .any e = true → L.getD e.on false = true) → wpList P l.toArray (StepI (I (L.setIfInBounds i true))) [o] a w)
  (hend : ∀ L a w, I L a w → (∀ i, i < l.toArray.size → L.getD i false = true) → Q .normal a w) : (Code.region id l.toArray true).wp P Q a0 w := by
 refine wp_region_any hm ?_
 exact wpAny_inv hac I hstep hend l.toArray.size (Array.replicate l.toArray.size false) a0 w.drew (left_all _ _) (by simp) h0
end

/-- what holds while 'a, b := x.A, x.B' is under way: x at g, its parts of n cells; base: where new memory begins -/
structure PairI (base g n : Nat) (X Y Z : List Value) (T : TypeId) (w0 : World) (a0 : Act) (L : Array Bool) (a : Act) (w : World) : Prop where
 defers : a.defers = a0.defers
 size : a.tmps.size = a0.tmps.size
 off : ∀ t, t ≠ 6 → t ≠ 7 → t ≠ 8 → t ≠ 9 → t ≠ 3 → t ≠ 4 → a.tmps.getD t undef = a0.tmps.getD t undef
 rely : Below base w0 w
 v0 : L.getD 0 false = true → a.tmps.getD 6 undef = .pointer (some ⟨g, 0, none⟩)
 v1 : L.getD 1 false = true → a.tmps.getD 7 undef = .agg X.toArray
 v2 : L.getD 2 false = true → a.tmps.getD 8 undef = .pointer (some ⟨g, n, none⟩)
 v3 : L.getD 3 false = true → a.tmps.getD 9 undef = .agg Y.toArray
 v4 : L.getD 4 false = true → ∃ r, a.tmps.getD 3 undef = .pointer (some ⟨r, 0, none⟩) ∧ base ≤ r ∧ Bk w r (bif L.getD 6 false then X else Z).toArray T
 v5 : L.getD 5 false = true → ∃ r, a.tmps.getD 4 undef = .pointer (some ⟨r, 0, none⟩) ∧ base ≤ r ∧ Bk w r (bif L.getD 7 false then Y else Z).toArray T
 ap : ∀ r s, L.getD 4 false = true → L.getD 5 false = true → a.tmps.getD 3 undef = .pointer (some ⟨r, 0, none⟩) → a.tmps.getD 4 undef = .pointer (some ⟨s, 0, none⟩) → r ≠ s
 c6 : L.getD 6 false = true → L.getD 4 false = true ∧ L.getD 5 false = true
 c7 : L.getD 7 false = true → L.getD 4 false = true ∧ L.getD 5 false = true
section
variable {base g n : Nat} {X Y Z : List Value} {T : TypeId} {w0 w w' : World} {a0 a : Act} {L : Array Bool}
theorem ptr_inj {r s : Nat} (h : Value.pointer (some ⟨r, 0, none⟩) = Value.pointer (some ⟨s, 0, none⟩)) : r = s := by
 injection h with h; injection h with h; injection h with h
theorem getD_set_eq {L : Array Bool} {i : Nat} (h : i < L.size) : (L.setIfInBounds i true).getD i false = true := by simp [h]
theorem PairI.put0 (h : PairI base g n X Y Z T w0 a0 L a w) (hd : 6 < a.tmps.size) : PairI base g n X Y Z T w0 a0 (L.setIfInBounds 0 true) (a.put (some 6) (.pointer (some ⟨g, 0, none⟩))) w := by
 have e : ∀ j, j ≠ 0 → (L.setIfInBounds 0 true).getD j false = L.getD j false := fun j hj => getD_set_ne false (Ne.symm hj)
 have f : ∀ t, t ≠ 6 → (a.put (some 6) (.pointer (some ⟨g, 0, none⟩))).tmps.getD t undef = a.tmps.getD t undef := fun t ht => put_get_ne (Ne.symm ht)
 have f0 : (a.put (some 6) (.pointer (some ⟨g, 0, none⟩))).tmps.getD 6 undef = (.pointer (some ⟨g, 0, none⟩)) := put_get hd
 refine ⟨h.defers, by simp [Act.put, h.size], fun t h1 h2 h3 h4 h5 h6 => by rw [f t (by assumption)]; exact h.off t h1 h2 h3 h4 h5 h6, h.rely, fun _ => f0, fun hl => by rw [e 1 (by decide)] at hl; rw [f 7 (by decide)]; exact h.v1 hl, fun hl => by rw [e 2 (by decide)] at hl; rw [f 8 (by decide)]; exact h.v2 hl, fun hl => by rw [e 3 (by decide)] at hl; rw [f 9 (by decide)]; exact h.v3 hl, fun hl => ?_, fun hl => ?_, fun r s hl hk h1 h2 => ?_, fun hl => ?_, fun hl => ?_⟩
 ·rw [e 4 (by decide)] at hl; rw [f 3 (by decide), e 6 (by decide)]; exact h.v4 hl
 ·rw [e 5 (by decide)] at hl; rw [f 4 (by decide), e 7 (by decide)]; exact h.v5 hl
 ·rw [e 4 (by decide)] at hl; rw [e 5 (by decide)] at hk; rw [f 3 (by decide)] at h1; rw [f 4 (by decide)] at h2; exact h.ap r s hl hk h1 h2
 ·rw [e 6 (by decide)] at hl; rw [e 4 (by decide), e 5 (by decide)]; exact h.c6 hl
 ·rw [e 7 (by decide)] at hl; rw [e 4 (by decide), e 5 (by decide)]; exact h.c7 hl
theorem PairI.put1 (h : PairI base g n X Y Z T w0 a0 L a w) (hd : 7 < a.tmps.size) : PairI base g n X Y Z T w0 a0 (L.setIfInBounds 1 true) (a.put (some 7) (.agg X.toArray)) w := by
 have e : ∀ j, j ≠ 1 → (L.setIfInBounds 1 true).getD j false = L.getD j false := fun j hj => getD_set_ne false (Ne.symm hj)
 have f : ∀ t, t ≠ 7 → (a.put (some 7) (.agg X.toArray)).tmps.getD t undef = a.tmps.getD t undef := fun t ht => put_get_ne (Ne.symm ht)
 have f0 : (a.put (some 7) (.agg X.toArray)).tmps.getD 7 undef = (.agg X.toArray) := put_get hd
 refine ⟨h.defers, by simp [Act.put, h.size], fun t h1 h2 h3 h4 h5 h6 => by rw [f t (by assumption)]; exact h.off t h1 h2 h3 h4 h5 h6, h.rely, fun hl => by rw [e 0 (by decide)] at hl; rw [f 6 (by decide)]; exact h.v0 hl, fun _ => f0, fun hl => by rw [e 2 (by decide)] at hl; rw [f 8 (by decide)]; exact h.v2 hl, fun hl => by rw [e 3 (by decide)] at hl; rw [f 9 (by decide)]; exact h.v3 hl, fun hl => ?_, fun hl => ?_, fun r s hl hk h1 h2 => ?_, fun hl => ?_, fun hl => ?_⟩
 ·rw [e 4 (by decide)] at hl; rw [f 3 (by decide), e 6 (by decide)]; exact h.v4 hl
 ·rw [e 5 (by decide)] at hl; rw [f 4 (by decide), e 7 (by decide)]; exact h.v5 hl
 ·rw [e 4 (by decide)] at hl; rw [e 5 (by decide)] at hk; rw [f 3 (by decide)] at h1; rw [f 4 (by decide)] at h2; exact h.ap r s hl hk h1 h2
 ·rw [e 6 (by decide)] at hl; rw [e 4 (by decide), e 5 (by decide)]; exact h.c6 hl
 ·rw [e 7 (by decide)] at hl; rw [e 4 (by decide), e 5 (by decide)]; exact h.c7 hl
theorem PairI.put2 (h : PairI base g n X Y Z T w0 a0 L a w) (hd : 8 < a.tmps.size) : PairI base g n X Y Z T w0 a0 (L.setIfInBounds 2 true) (a.put (some 8) (.pointer (some ⟨g, n, none⟩))) w := by
 have e : ∀ j, j ≠ 2 → (L.setIfInBounds 2 true).getD j false = L.getD j false := fun j hj => getD_set_ne false (Ne.symm hj)
 have f : ∀ t, t ≠ 8 → (a.put (some 8) (.pointer (some ⟨g, n, none⟩))).tmps.getD t undef = a.tmps.getD t undef := fun t ht => put_get_ne (Ne.symm ht)
 have f0 : (a.put (some 8) (.pointer (some ⟨g, n, none⟩))).tmps.getD 8 undef = (.pointer (some ⟨g, n, none⟩)) := put_get hd
 refine ⟨h.defers, by simp [Act.put, h.size], fun t h1 h2 h3 h4 h5 h6 => by rw [f t (by assumption)]; exact h.off t h1 h2 h3 h4 h5 h6, h.rely, fun hl => by rw [e 0 (by decide)] at hl; rw [f 6 (by decide)]; exact h.v0 hl, fun hl => by rw [e 1 (by decide)] at hl; rw [f 7 (by decide)]; exact h.v1 hl, fun _ => f0, fun hl => by rw [e 3 (by decide)] at hl; rw [f 9 (by decide)]; exact h.v3 hl, fun hl => ?_, fun hl => ?_, fun r s hl hk h1 h2 => ?_, fun hl => ?_, fun hl => ?_⟩
 ·rw [e 4 (by decide)] at hl; rw [f 3 (by decide), e 6 (by decide)]; exact h.v4 hl
 ·rw [e 5 (by decide)] at hl; rw [f 4 (by decide), e 7 (by decide)]; exact h.v5 hl
 ·rw [e 4 (by decide)] at hl; rw [e 5 (by decide)] at hk; rw [f 3 (by decide)] at h1; rw [f 4 (by decide)] at h2; exact h.ap r s hl hk h1 h2
 ·rw [e 6 (by decide)] at hl; rw [e 4 (by decide), e 5 (by decide)]; exact h.c6 hl
 ·rw [e 7 (by decide)] at hl; rw [e 4 (by decide), e 5 (by decide)]; exact h.c7 hl
theorem PairI.put3 (h : PairI base g n X Y Z T w0 a0 L a w) (hd : 9 < a.tmps.size) : PairI base g n X Y Z T w0 a0 (L.setIfInBounds 3 true) (a.put (some 9) (.agg Y.toArray)) w := by
 have e : ∀ j, j ≠ 3 → (L.setIfInBounds 3 true).getD j false = L.getD j false := fun j hj => getD_set_ne false (Ne.symm hj)
 have f : ∀ t, t ≠ 9 → (a.put (some 9) (.agg Y.toArray)).tmps.getD t undef = a.tmps.getD t undef := fun t ht => put_get_ne (Ne.symm ht)
 have f0 : (a.put (some 9) (.agg Y.toArray)).tmps.getD 9 undef = (.agg Y.toArray) := put_get hd
 refine ⟨h.defers, by simp [Act.put, h.size], fun t h1 h2 h3 h4 h5 h6 => by rw [f t (by assumption)]; exact h.off t h1 h2 h3 h4 h5 h6, h.rely, fun hl => by rw [e 0 (by decide)] at hl; rw [f 6 (by decide)]; exact h.v0 hl, fun hl => by rw [e 1 (by decide)] at hl; rw [f 7 (by decide)]; exact h.v1 hl, fun hl => by rw [e 2 (by decide)] at hl; rw [f 8 (by decide)]; exact h.v2 hl, fun _ => f0, fun hl => ?_, fun hl => ?_, fun r s hl hk h1 h2 => ?_, fun hl => ?_, fun hl => ?_⟩
 ·rw [e 4 (by decide)] at hl; rw [f 3 (by decide), e 6 (by decide)]; exact h.v4 hl
 ·rw [e 5 (by decide)] at hl; rw [f 4 (by decide), e 7 (by decide)]; exact h.v5 hl
 ·rw [e 4 (by decide)] at hl; rw [e 5 (by decide)] at hk; rw [f 3 (by decide)] at h1; rw [f 4 (by decide)] at h2; exact h.ap r s hl hk h1 h2
 ·rw [e 6 (by decide)] at hl; rw [e 4 (by decide), e 5 (by decide)]; exact h.c6 hl
 ·rw [e 7 (by decide)] at hl; rw [e 4 (by decide), e 5 (by decide)]; exact h.c7 hl
theorem PairI.new4 {q : Nat} (h : PairI base g n X Y Z T w0 a0 L a w) (hun : L.getD 4 false = false) (hs : 4 < L.size) (hd : 3 < a.tmps.size) (hq : Bk w' q Z.toArray T) (hb : Below w.heap.size w w') (h1 : w.heap.size ≤ q) (hB : base ≤ w.heap.size) : PairI base g n X Y Z T w0 a0 (L.setIfInBounds 4 true) (a.put (some 3) (.pointer (some ⟨q, 0, none⟩))) w' := by
 have e : ∀ j, j ≠ 4 → (L.setIfInBounds 4 true).getD j false = L.getD j false := fun j hj => getD_set_ne false (Ne.symm hj)
 have f : ∀ t, t ≠ 3 → (a.put (some 3) (.pointer (some ⟨q, 0, none⟩))).tmps.getD t undef = a.tmps.getD t undef := fun t ht => put_get_ne (Ne.symm ht)
 have f0 : (a.put (some 3) (.pointer (some ⟨q, 0, none⟩))).tmps.getD 3 undef = (.pointer (some ⟨q, 0, none⟩)) := put_get hd
 have hn6 : L.getD 6 false = false := by
  cases hh : L.getD 6 false with
  | false => rfl
  | true => have := (h.c6 hh).1; rw [hun] at this; cases this
 have hn7 : L.getD 7 false = false := by
  cases hh : L.getD 7 false with
  | false => rfl
  | true => have := (h.c7 hh).1; rw [hun] at this; cases this
 refine ⟨h.defers, by simp [Act.put, h.size], fun t h1 h2 h3 h4 h5 h6 => by rw [f t (by assumption)]; exact h.off t h1 h2 h3 h4 h5 h6, h.rely.trans (hb.mono hB), fun hl => by rw [e 0 (by decide)] at hl; rw [f 6 (by decide)]; exact h.v0 hl, fun hl => by rw [e 1 (by decide)] at hl; rw [f 7 (by decide)]; exact h.v1 hl, fun hl => by rw [e 2 (by decide)] at hl; rw [f 8 (by decide)]; exact h.v2 hl, fun hl => by rw [e 3 (by decide)] at hl; rw [f 9 (by decide)]; exact h.v3 hl, fun hl => ?_, fun hl => ?_, fun r s hl hk h1 h2 => ?_, fun hl => ?_, fun hl => ?_⟩
 ·rw [e 6 (by decide), hn6]; exact ⟨q, f0, Nat.le_trans hB h1, hq⟩
 ·rw [e 5 (by decide)] at hl; rw [f 4 (by decide), e 7 (by decide)]; obtain ⟨r, k1, k2, k3⟩ := h.v5 hl; exact ⟨r, k1, k2, k3.below hb k3.lt⟩
 ·rw [e 5 (by decide)] at hk; rw [f0] at h1; rw [f 4 (by decide)] at h2; obtain ⟨r', k1, _, k3⟩ := h.v5 hk; rw [k1] at h2; have := ptr_inj h1; have := ptr_inj h2; have := k3.lt; omega
 ·rw [e 6 (by decide), hn6] at hl; cases hl
 ·rw [e 7 (by decide), hn7] at hl; cases hl
theorem PairI.new5 {q : Nat} (h : PairI base g n X Y Z T w0 a0 L a w) (hun : L.getD 5 false = false) (hs : 5 < L.size) (hd : 4 < a.tmps.size) (hq : Bk w' q Z.toArray T) (hb : Below w.heap.size w w') (h1 : w.heap.size ≤ q) (hB : base ≤ w.heap.size) : PairI base g n X Y Z T w0 a0 (L.setIfInBounds 5 true) (a.put (some 4) (.pointer (some ⟨q, 0, none⟩))) w' := by
 have e : ∀ j, j ≠ 5 → (L.setIfInBounds 5 true).getD j false = L.getD j false := fun j hj => getD_set_ne false (Ne.symm hj)
 have f : ∀ t, t ≠ 4 → (a.put (some 4) (.pointer (some ⟨q, 0, none⟩))).tmps.getD t undef = a.tmps.getD t undef := fun t ht => put_get_ne (Ne.symm ht)
 have f0 : (a.put (some 4) (.pointer (some ⟨q, 0, none⟩))).tmps.getD 4 undef = (.pointer (some ⟨q, 0, none⟩)) := put_get hd
 have hn6 : L.getD 6 false = false := by
  cases hh : L.getD 6 false with
  | false => rfl
  | true => have := (h.c6 hh).2; rw [hun] at this; cases this
 have hn7 : L.getD 7 false = false := by
  cases hh : L.getD 7 false with
  | false => rfl
  | true => have := (h.c7 hh).2; rw [hun] at this; cases this
 refine ⟨h.defers, by simp [Act.put, h.size], fun t h1 h2 h3 h4 h5 h6 => by rw [f t (by assumption)]; exact h.off t h1 h2 h3 h4 h5 h6, h.rely.trans (hb.mono hB), fun hl => by rw [e 0 (by decide)] at hl; rw [f 6 (by decide)]; exact h.v0 hl, fun hl => by rw [e 1 (by decide)] at hl; rw [f 7 (by decide)]; exact h.v1 hl, fun hl => by rw [e 2 (by decide)] at hl; rw [f 8 (by decide)]; exact h.v2 hl, fun hl => by rw [e 3 (by decide)] at hl; rw [f 9 (by decide)]; exact h.v3 hl, fun hl => ?_, fun hl => ?_, fun r s hl hk h1 h2 => ?_, fun hl => ?_, fun hl => ?_⟩
 ·rw [e 4 (by decide)] at hl; rw [f 3 (by decide), e 6 (by decide)]; obtain ⟨r, k1, k2, k3⟩ := h.v4 hl; exact ⟨r, k1, k2, k3.below hb k3.lt⟩
 ·rw [e 7 (by decide), hn7]; exact ⟨q, f0, Nat.le_trans hB h1, hq⟩
 ·rw [e 4 (by decide)] at hl; rw [f0] at h2; rw [f 3 (by decide)] at h1; obtain ⟨r', k1, _, k3⟩ := h.v4 hl; rw [k1] at h1; have := ptr_inj h1; have := ptr_inj h2; have := k3.lt; omega
 ·rw [e 6 (by decide), hn6] at hl; cases hl
 ·rw [e 7 (by decide), hn7] at hl; cases hl
theorem PairI.set6 {q : Nat} (h : PairI base g n X Y Z T w0 a0 L a w) (hs : 6 < L.size) (h4 : L.getD 4 false = true) (h5 : L.getD 5 false = true) (hp : a.tmps.getD 3 undef = .pointer (some ⟨q, 0, none⟩)) (hq0 : base ≤ q) (hq : Bk w' q X.toArray T) (hg : w.grownBy w' (some q)) (hB : base ≤ w.heap.size) : PairI base g n X Y Z T w0 a0 (L.setIfInBounds 6 true) (a.put none undef) w' := by
 have e : ∀ j, j ≠ 6 → (L.setIfInBounds 6 true).getD j false = L.getD j false := fun j hj => getD_set_ne false (Ne.symm hj)
 have f : (a.put none undef).tmps = a.tmps := rfl
 refine ⟨h.defers, h.size, h.off, below_grown2 h.rely hg hq0 hB, fun hl => by rw [e 0 (by decide)] at hl; exact h.v0 hl, fun hl => by rw [e 1 (by decide)] at hl; exact h.v1 hl, fun hl => by rw [e 2 (by decide)] at hl; exact h.v2 hl, fun hl => by rw [e 3 (by decide)] at hl; exact h.v3 hl, fun hl => ?_, fun hl => ?_, fun r s hl hk h1 h2 => ?_, fun hl => ?_, fun hl => ?_⟩
 ·rw [getD_set_eq hs]; exact ⟨q, hp, hq0, hq⟩
 ·rw [e 7 (by decide)]; obtain ⟨r, k1, k2, k3⟩ := h.v5 h5; exact ⟨r, k1, k2, k3.grown hg (fun hh => (h.ap q r h4 h5 hp k1) (by injection hh with hh; try omega))⟩
 ·exact h.ap r s h4 h5 h1 h2
 ·rw [e 4 (by decide), e 5 (by decide)]; exact ⟨h4, h5⟩
 ·rw [e 4 (by decide), e 5 (by decide)]; exact ⟨h4, h5⟩
theorem PairI.set7 {q : Nat} (h : PairI base g n X Y Z T w0 a0 L a w) (hs : 7 < L.size) (h4 : L.getD 4 false = true) (h5 : L.getD 5 false = true) (hp : a.tmps.getD 4 undef = .pointer (some ⟨q, 0, none⟩)) (hq0 : base ≤ q) (hq : Bk w' q Y.toArray T) (hg : w.grownBy w' (some q)) (hB : base ≤ w.heap.size) : PairI base g n X Y Z T w0 a0 (L.setIfInBounds 7 true) (a.put none undef) w' := by
 have e : ∀ j, j ≠ 7 → (L.setIfInBounds 7 true).getD j false = L.getD j false := fun j hj => getD_set_ne false (Ne.symm hj)
 have f : (a.put none undef).tmps = a.tmps := rfl
 refine ⟨h.defers, h.size, h.off, below_grown2 h.rely hg hq0 hB, fun hl => by rw [e 0 (by decide)] at hl; exact h.v0 hl, fun hl => by rw [e 1 (by decide)] at hl; exact h.v1 hl, fun hl => by rw [e 2 (by decide)] at hl; exact h.v2 hl, fun hl => by rw [e 3 (by decide)] at hl; exact h.v3 hl, fun hl => ?_, fun hl => ?_, fun r s hl hk h1 h2 => ?_, fun hl => ?_, fun hl => ?_⟩
 ·rw [e 6 (by decide)]; obtain ⟨r, k1, k2, k3⟩ := h.v4 h4; exact ⟨r, k1, k2, k3.grown hg (fun hh => (h.ap r q h4 h5 k1 hp) (by injection hh with hh; try omega))⟩
 ·rw [getD_set_eq hs]; exact ⟨q, hp, hq0, hq⟩
 ·exact h.ap r s h4 h5 h1 h2
 ·rw [e 4 (by decide), e 5 (by decide)]; exact ⟨h4, h5⟩
 ·rw [e 4 (by decide), e 5 (by decide)]; exact ⟨h4, h5⟩
theorem PairI.start (h : w0 = w) (hn : L = Array.replicate 8 false) : PairI base g n X Y Z T w0 a0 L a0 w := by
 subst h hn
 have z : ∀ i, ¬ (Array.replicate 8 false).getD i false = true := fun i hi => by rw [getD_replicate_false] at hi; cases hi
 exact ⟨rfl, rfl, fun _ _ _ _ _ _ _ => rfl, Below.refl _ _, fun hl => absurd hl (z 0), fun hl => absurd hl (z 1), fun hl => absurd hl (z 2), fun hl => absurd hl (z 3), fun hl => absurd hl (z 4), fun hl => absurd hl (z 5), fun _ _ hl => absurd hl (z 4), fun hl => absurd hl (z 6), fun hl => absurd hl (z 7)⟩
set_option maxHeartbeats 2000000 in
theorem PairI.done (h : PairI base g n X Y Z T w0 a0 L a w) (hs : 9 < a0.tmps.size) (hall : ∀ i, i < 8 → L.getD i false = true) :
  ∃ r3 r4, r3 ≠ r4 ∧ base ≤ r3 ∧ base ≤ r4 ∧ Bk w r3 X.toArray T ∧ Bk w r4 Y.toArray T ∧ Below base w0 w ∧
   a = (((((a0.put (some 6) (.pointer (some ⟨g, 0, none⟩))).put (some 7) (.agg X.toArray)).put (some 8) (.pointer (some ⟨g, n, none⟩))).put (some 9) (.agg Y.toArray)).put (some 3) (.pointer (some ⟨r3, 0, none⟩))).put (some 4) (.pointer (some ⟨r4, 0, none⟩)) := by
 obtain ⟨r3, p3, b3, k3⟩ := h.v4 (hall 4 (by decide))
 obtain ⟨r4, p4, b4, k4⟩ := h.v5 (hall 5 (by decide))
 rw [hall 6 (by decide)] at k3
 rw [hall 7 (by decide)] at k4
 have s0 : ∀ (b : Act) (d : Tmp) (v : Value), b.tmps.size = a0.tmps.size → (b.put (some d) v).tmps.size = a0.tmps.size := fun b d v hb => by simp [Act.put, hb]
 have pg : ∀ (b : Act) (d : Tmp) (v : Value), b.tmps.size = a0.tmps.size → d < 10 → (b.put (some d) v).tmps.getD d undef = v := fun b d v hb hd => put_get (hb.symm ▸ Nat.lt_of_lt_of_le hd hs)
 have hd := h.defers
 have hz := h.size
 have v0 := h.v0 (hall 0 (by decide))
 have v1 := h.v1 (hall 1 (by decide))
 have v2 := h.v2 (hall 2 (by decide))
 have v3 := h.v3 (hall 3 (by decide))
 have ho := h.off
 have hap := h.ap r3 r4 (hall 4 (by decide)) (hall 5 (by decide)) p3 p4
 have hr := h.rely
 clear h hall
 obtain ⟨b1, hb1⟩ : ∃ b, a0.put (some 6) (.pointer (some ⟨g, 0, none⟩)) = b := ⟨_, rfl⟩
 obtain ⟨b2, hb2⟩ : ∃ b, b1.put (some 7) (.agg X.toArray) = b := ⟨_, rfl⟩
 obtain ⟨b3', hb3⟩ : ∃ b, b2.put (some 8) (.pointer (some ⟨g, n, none⟩)) = b := ⟨_, rfl⟩
 obtain ⟨b4', hb4⟩ : ∃ b, b3'.put (some 9) (.agg Y.toArray) = b := ⟨_, rfl⟩
 obtain ⟨b5, hb5⟩ : ∃ b, b4'.put (some 3) (.pointer (some ⟨r3, 0, none⟩)) = b := ⟨_, rfl⟩
 have z1 : b1.tmps.size = a0.tmps.size := hb1 ▸ s0 _ _ _ rfl
 have z2 : b2.tmps.size = a0.tmps.size := hb2 ▸ s0 _ _ _ z1
 have z3 : b3'.tmps.size = a0.tmps.size := hb3 ▸ s0 _ _ _ z2
 have z4 : b4'.tmps.size = a0.tmps.size := hb4 ▸ s0 _ _ _ z3
 have z5 : b5.tmps.size = a0.tmps.size := hb5 ▸ s0 _ _ _ z4
 have d1 : b1.defers = a0.defers := hb1 ▸ rfl
 have d2 : b2.defers = a0.defers := hb2 ▸ d1
 have d3 : b3'.defers = a0.defers := hb3 ▸ d2
 have d4 : b4'.defers = a0.defers := hb4 ▸ d3
 have d5 : b5.defers = a0.defers := hb5 ▸ d4
 refine ⟨r3, r4, hap, b3, b4, k3, k4, hr, ?_⟩
 rw [hb1, hb2, hb3, hb4, hb5]
 refine act_ext (hd.trans d5.symm) (hz.trans (s0 _ _ _ z5).symm) fun t => ?_
 by_cases h4 : t = 4
 ·subst h4; rw [pg _ _ _ z5 (by decide), p4]
 rw [put_get_ne (Ne.symm h4), ← hb5]
 by_cases h3 : t = 3
 ·subst h3; rw [pg _ _ _ z4 (by decide), p3]
 rw [put_get_ne (Ne.symm h3), ← hb4]
 by_cases h9 : t = 9
 ·subst h9; rw [pg _ _ _ z3 (by decide), v3]
 rw [put_get_ne (Ne.symm h9), ← hb3]
 by_cases h8 : t = 8
 ·subst h8; rw [pg _ _ _ z2 (by decide), v2]
 rw [put_get_ne (Ne.symm h8), ← hb2]
 by_cases h7 : t = 7
 ·subst h7; rw [pg _ _ _ z1 (by decide), v1]
 rw [put_get_ne (Ne.symm h7), ← hb1]
 by_cases h6 : t = 6
 ·subst h6; rw [pg _ _ _ rfl (by decide), v0]
 rw [put_get_ne (Ne.symm h6)]
 exact ho t h6 h7 h8 h9 h3 h4
end
section
variable {P : Program} {ops : Array Oper}
theorem wpList_end {Q : Exit → Act → World → Prop} {a : Act} {w : World} (h : wpList P ops Q [] a w) : Q .normal a w := h
theorem wpList_detI {o : Oper} {K : Act → World → Prop} {a : Act} {w : World} (v : Value) (hg : o.guard = none) (hrun : (execOp a.eval o).run P w = .ok (.value v) w) (h : K (a.put o.dst v) w) : wpList P ops (StepI K) [o] a w := by
 refine wpList_plain hg fun K' hK => ?_
 unfold Oper.wp
 rw [hrun]
 exact hK _ _ h
end
end Go.Proofs.YtlhnhjglcbggmaaGreatRR

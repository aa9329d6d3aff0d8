/-
  A region that draws its order, whose head's operations each tell something of their value that no later operation undoes: shown operation by operation, each from what it waits for. No condition: lemmas over any program.
  A region that draws its order, whose head's operations each tell something that no later operation undoes: the elder law, with what an operation may do to the world left open (R), and with operations that have no value of their own (a store). No condition: lemmas over any program.
  A new Hasher; the bytes of a digest. Condition: the table of the first words reads as it was laid.
  A Hasher's digest: (*Hasher).Sum is sha of what it took. Condition: the Hasher has taken l; l is not too long; the table of the rounds reads as it was laid.
  The document's own tests of a transaction, a vote, a proposal (assentref04): they answer as package wire's. Condition: each number fits its kind.
  The document's own forms (assentref01, assentref04): a number in as few bytes as it needs, a text, a hash, a seal, pieces one behind the other: lists of bytes in new memory. Conditions: sizes below 2^46.
  The document's digest (assentref02.Sum): it is sha of the bytes. Conditions: the bytes lie in memory; there are not too many; the table of the rounds reads as it was laid.
  The digest of a letter and a form (id of package wire); TxId. Conditions: each number fits its kind; the tables read as they were laid.
-/
import Derived.StillTail
import Derived.Test.YtlhnhjglcbggmaaGreatRRY01
import Derived.Test.YtlhnhjglcbggmaaGreatRRY04
import Derived.Test.YtlhnhjglcbggmaaGreatRRY03
import Derived.Deep.DeepCutAuto
import Derived.Deep.CutBlock
import Derived.Deep.Cut
namespace Go.Proofs.YtlhnhjglcbggmaaGreatRR
set_option linter.unusedSimpArgs false
set_option linter.unusedVariables false
open Go.RowKit

abbrev Known := Value → World → Prop
def Steady (K : Known) : Prop := ∀ v w w', K v w → Below w.heap.size w w' → K v w'
def Is (x : Value) : Known := fun v _ => v = x
theorem Is.steady (x : Value) : Steady (Is x) := fun _ _ _ h _ => h
def kat (ks : List Known) (i : Nat) : Known := match ks[i]? with | some k => k | none => fun _ _ => True
def Steadys : List Known → Prop
 | [] => True
 | k :: ks => Steady k ∧ Steadys ks
theorem Steadys.at : ∀ {ks : List Known}, Steadys ks → ∀ i, Steady (kat ks i)
 | [], _, _ => fun _ _ _ _ _ => trivial
 | _ :: _, h, 0 => h.1
 | _ :: _, h, i + 1 => Steadys.at h.2 i

def QStep (a0 : Act) (d : Tmp) (K : Known) (w : World) : Exit → Act → World → Prop
 | .normal, a', w' => a'.defers = a0.defers ∧ Below w.heap.size w w' ∧ K (a'.tmps.getD d undef) w'
 | _, _, _ => False

section
variable (P : Program) (ops : Array Oper) (ks : List Known)
def FreeStep (w : World) (a0 : Act) (i : Nat) (d : Tmp) : List (Nat × Tmp) → Act → Prop
 | [], a => ∃ o, ops[i]? = some o ∧ wpList P ops (QStep a0 d (kat ks i) w) [o] a w
 | (e, t) :: ds, a => ∀ v, kat ks e v w → FreeStep w a0 i d ds (a.put (some t) v)
def FreeEnd (w : World) (body : Act → Prop) : Nat → List (Tmp × List (Nat × Tmp)) → Act → Prop
 | _, [], a => body a
 | i, (t, _) :: xs, a => ∀ v, kat ks i v w → FreeEnd w body (i + 1) xs (a.put (some t) v)
def FreeSteps (w0 : World) (a0 : Act) : Nat → List (Tmp × List (Nat × Tmp)) → Prop
 | _, [] => True
 | i, (t, ds) :: xs => (∀ w, Below w0.heap.size w0 w → FreeStep P ops ks w a0 i t ds a0) ∧ FreeSteps w0 a0 (i + 1) xs
end

def freeOne (ops : Array Oper) (its : List (Tmp × List (Nat × Tmp))) (i : Nat) : Bool :=
 match ops[i]?, its[i]? with
 | some o, some (d, ds) => o.guard.isNone && o.dst == some d && o.after.all (fun e => !Region.binds .any e || decide (e.on < i)) &&
   ds.all (fun x => Region.waitsFor .any ops i x.1 && decide (x.1 < its.length) && (its[x.1]?).map (·.1) == some x.2) &&
   (List.range its.length).all (fun j => match its[j]? with | some (t, _) => (j == i || t != d) && (ds.any (fun x => x.1 == j) || !(o.looksAt ops).contains t) | none => false)
 | _, _ => false
def allTrue (m n : Nat) : Array Bool := (List.range n).foldl (fun l i => l.setIfInBounds i true) (Array.replicate m false)
def freeB (ops : Array Oper) (its : List (Tmp × List (Nat × Tmp))) : Bool :=
 Region.noSelect ops && decide (its.length < ops.size) && Region.sinkB .any ops its.length && Region.chainB .any ops its.length &&
 (List.range its.length).all (freeOne ops its) && Region.seqB .any ops (ops.size - its.length) its.length (allTrue ops.size its.length)

theorem allTrue_size (m n : Nat) : (allTrue m n).size = m := by
 have : ∀ (l : List Nat) (b : Array Bool), (l.foldl (fun l i => l.setIfInBounds i true) b).size = b.size := by
  intro l
  induction l with
  | nil => intro b; rfl
  | cons i l ih => intro b; rw [List.foldl_cons, ih]; simp
 rw [allTrue, this]; simp
theorem allTrue_get (m n j : Nat) (h : j < m) : (allTrue m n).getD j false = decide (j < n) := by
 have key : ∀ (l : List Nat) (b : Array Bool), j < b.size → (l.foldl (fun l i => l.setIfInBounds i true) b).getD j false = (decide (j ∈ l) || b.getD j false) := by
  intro l
  induction l with
  | nil => intro b _; simp
  | cons i l ih =>
   intro b hb
   rw [List.foldl_cons, ih _ (by simpa using hb)]
   by_cases hij : i = j
   ·subst hij
    simp [hb]
   ·rw [getD_set_ne false hij]
    simp [show j ≠ i from fun h => hij h.symm]
 rw [allTrue, key _ _ (by simpa using h)]
 simp [List.mem_range, h]

/-- how many of the first n are not listed -/
def left (L : Array Bool) : Nat → Nat
 | 0 => 0
 | n + 1 => left L n + if L.getD n false then 0 else 1
theorem left_ne {L : Array Bool} {i : Nat} : ∀ n, n ≤ i → left (L.setIfInBounds i true) n = left L n
 | 0, _ => rfl
 | n + 1, h => by unfold left; rw [left_ne n (by omega), getD_set_ne false (by omega)]
theorem left_set {L : Array Bool} {i : Nat} (hs : i < L.size) (hf : L.getD i false = false) : ∀ n, i < n → left (L.setIfInBounds i true) n + 1 = left L n
 | 0, h => by omega
 | n + 1, h => by
  unfold left
  by_cases hin : i = n
  ·subst hin
   rw [left_ne i (Nat.le_refl _), hf]
   simp [hs]
  ·have := left_set hs hf n (by omega)
   rw [getD_set_ne false hin]
   omega
theorem left_zero {L : Array Bool} : ∀ n, left L n = 0 → ∀ i, i < n → L.getD i false = true
 | 0, _, i, hi => by omega
 | n + 1, h, i, hi => by
  unfold left at h
  by_cases hin : i = n
  ·subst hin
   cases hb : L.getD i false with
   | true => rfl
   | false => rw [hb] at h; simp at h
  ·exact left_zero n (by omega) i (by omega)
theorem left_pos {L : Array Bool} : ∀ n, 0 < left L n → ∃ i, i < n ∧ L.getD i false = false ∧ ∀ j, j < i → L.getD j false = true
 | 0, h => by unfold left at h; omega
 | n + 1, h => by
  by_cases h0 : 0 < left L n
  ·obtain ⟨i, hi, h1, h2⟩ := left_pos n h0
   exact ⟨i, by omega, h1, h2⟩
  ·have hz : ∀ j, j < n → L.getD j false = true := left_zero n (by omega)
   refine ⟨n, by omega, ?_, hz⟩
   cases hb : L.getD n false with
   | false => rfl
   | true => unfold left at h; rw [hb] at h; simp at h; omega
theorem left_all (m : Nat) : ∀ n, left (Array.replicate m false) n = n
 | 0 => rfl
 | n + 1 => by unfold left; rw [left_all m n, getD_replicate_false]; simp

theorem put_get {a : Act} {d : Tmp} {v : Value} (h : d < a.tmps.size) : (a.put (some d) v).tmps.getD d undef = v := by simp [Act.put, h]
theorem put_get_ne {a : Act} {d t : Tmp} {v : Value} (h : d ≠ t) : (a.put (some d) v).tmps.getD t undef = a.tmps.getD t undef := by
 simp [Act.put, Array.getElem?_setIfInBounds_ne h]
theorem act_ext {a b : Act} (h1 : a.defers = b.defers) (h2 : a.tmps.size = b.tmps.size) (h3 : ∀ t, a.tmps.getD t undef = b.tmps.getD t undef) : a = b := by
 obtain ⟨x, dx⟩ := a
 obtain ⟨y, dy⟩ := b
 simp only at h1 h2 h3
 subst h1
 congr 1
 apply Array.ext h2
 intro i hi hi'
 have := h3 i
 simpa [hi, hi'] using this

/-- the act with these temps as in a -/
def over (a : Act) (ts : List Tmp) (b : Act) : Act := ts.foldl (fun b t => b.put (some t) (a.tmps.getD t undef)) b
theorem over_defers (a : Act) : ∀ (ts : List Tmp) (b : Act), (over a ts b).defers = b.defers
 | [], _ => rfl
 | t :: ts, b => by show (over a ts _).defers = _; rw [over_defers a ts]; rfl
theorem over_size (a : Act) : ∀ (ts : List Tmp) (b : Act), (over a ts b).tmps.size = b.tmps.size
 | [], _ => rfl
 | t :: ts, b => by show (over a ts _).tmps.size = _; rw [over_size a ts]; simp [Act.put]
theorem over_get (a : Act) (t : Tmp) : ∀ (ts : List Tmp) (b : Act), a.tmps.size = b.tmps.size → (t ∈ ts ∨ b.tmps.getD t undef = a.tmps.getD t undef) → (over a ts b).tmps.getD t undef = a.tmps.getD t undef
 | [], b, _, h => by
  rcases h with h | h
  ·cases h
  ·exact h
 | s :: ts, b, hs, h => by
  show (over a ts _).tmps.getD t undef = _
  have hs' : a.tmps.size = (b.put (some s) (a.tmps.getD s undef)).tmps.size := by simp [Act.put, hs]
  refine over_get a t ts _ hs' ?_
  by_cases hst : s = t
  ·subst hst
   right
   by_cases hlt : s < b.tmps.size
   ·exact put_get hlt
   ·have h2 : a.tmps.size ≤ s := by rw [hs]; exact Nat.le_of_not_lt hlt
    have h1 : (b.put (some s) (a.tmps.getD s undef)).tmps.size ≤ s := hs' ▸ h2
    rw [Array.getD_eq_getD_getElem?, Array.getD_eq_getD_getElem?, Array.getElem?_eq_none h2, Array.getElem?_eq_none h1]
  ·rw [put_get_ne hst]
   rcases h with h | h
   ·rcases List.mem_cons.1 h with h | h
    ·exact absurd h.symm hst
    ·exact .inl h
   ·exact .inr h

section
variable {P : Program} {ops : Array Oper} {ks : List Known} {Q : Exit → Act → World → Prop}

theorem FreeStep.open {w : World} {a0 a : Act} {i : Nat} {d : Tmp} : ∀ {ds : List (Nat × Tmp)} {b : Act}, FreeStep P ops ks w a0 i d ds b → (∀ x ∈ ds, kat ks x.1 (a.tmps.getD x.2 undef) w) →
  ∃ o, ops[i]? = some o ∧ wpList P ops (QStep a0 d (kat ks i) w) [o] (over a (ds.map (·.2)) b) w
 | [], _, h, _ => h
 | (e, t) :: ds, b, h, hk => FreeStep.open (ds := ds) (h _ (hk (e, t) (List.mem_cons_self ..))) (fun x hx => hk x (List.mem_cons_of_mem _ hx))
theorem FreeEnd.open {w : World} {a : Act} {body : Act → Prop} : ∀ {its : List (Tmp × List (Nat × Tmp))} {i : Nat} {b : Act}, FreeEnd ks w body i its b → (∀ j x, its[j]? = some x → kat ks (i + j) (a.tmps.getD x.1 undef) w) →
  body (over a (its.map (·.1)) b)
 | [], _, _, h, _ => h
 | (t, ds) :: its, i, b, h, hk => FreeEnd.open (its := its) (i := i + 1) (h _ (hk 0 (t, ds) rfl)) (fun j x hx => by
   have := hk (j + 1) x (by simpa using hx)
   rwa [show i + (j + 1) = i + 1 + j by omega] at this)
theorem FreeSteps.at {w0 : World} {a0 : Act} : ∀ {its : List (Tmp × List (Nat × Tmp))} {k : Nat}, FreeSteps P ops ks w0 a0 k its → ∀ j x, its[j]? = some x → ∀ w, Below w0.heap.size w0 w → FreeStep P ops ks w a0 (k + j) x.1 x.2 a0
 | [], _, _, _, _, h => by cases h
 | (t, ds) :: its, k, h, 0, x, hx => by cases hx; exact h.1
 | (t, ds) :: its, k, h, j + 1, x, hx => by
  have := FreeSteps.at (its := its) h.2 j x (by simpa using hx)
  rwa [show k + 1 + j = k + (j + 1) by omega] at this

structure FreeInv (ops : Array Oper) (its : List (Tmp × List (Nat × Tmp))) (ks : List Known) (a0 : Act) (w0 : World) (L : Array Bool) (a : Act) (w : World) : Prop where
 head : HeadInv .any ops its.length L
 defers : a.defers = a0.defers
 size : a.tmps.size = a0.tmps.size
 off : ∀ t, (∀ x ∈ its, x.1 ≠ t) → a.tmps.getD t undef = a0.tmps.getD t undef
 rely : Below w0.heap.size w0 w
 known : ∀ i x, its[i]? = some x → L.getD i false = true → kat ks i (a.tmps.getD x.1 undef) w

theorem freeOne_spec {its : List (Tmp × List (Nat × Tmp))} {i : Nat} (h : freeOne ops its i = true) :
  ∃ o d ds, ops[i]? = some o ∧ its[i]? = some (d, ds) ∧ o.guard = none ∧ o.dst = some d ∧ (∀ e ∈ o.after, Region.binds .any e = true → e.on < i) ∧
   (∀ x ∈ ds, Region.waitsFor .any ops i x.1 = true ∧ x.1 < its.length ∧ (its[x.1]?).map (·.1) = some x.2) ∧
   (∀ j t es, its[j]? = some (t, es) → (j = i ∨ t ≠ d) ∧ ((∃ x ∈ ds, x.1 = j) ∨ t ∉ o.looksAt ops)) := by
 unfold freeOne at h
 split at h
 ·rename_i o d ds ho hi
  simp only [Bool.and_eq_true, List.all_eq_true, Array.all_eq_true_iff_forall_mem, Bool.or_eq_true, Bool.not_eq_true', decide_eq_true_eq, beq_iff_eq, Option.isNone_iff_eq_none] at h
  obtain ⟨⟨⟨⟨h1, h2⟩, h3⟩, h4⟩, h5⟩ := h
  refine ⟨o, d, ds, ho, hi, h1, h2, fun e he hb => ?_, fun x hx => ⟨(h4 x hx).1.1, (h4 x hx).1.2, (h4 x hx).2⟩, fun j t es hj => ?_⟩
  ·rcases h3 e he with h | h
   ·rw [hb] at h; cases h
   ·exact h
  ·have hjl : j < its.length := (List.getElem?_eq_some_iff.1 hj).1
   have h6 := h5 j (List.mem_range.2 hjl)
   rw [hj] at h6
   simp only [Bool.and_eq_true, Bool.or_eq_true, beq_iff_eq, bne_iff_ne, List.any_eq_true, Bool.not_eq_true', List.contains_eq_mem, decide_eq_false_iff_not] at h6
   exact h6
 ·cases h

theorem run_same {o : Oper} {a b : Act} (hs : ∀ cs d, o.op ≠ .select cs d) (h : ∀ t ∈ o.looksAt ops, a.tmps.getD t undef = b.tmps.getD t undef) : execOp a.eval o = execOp b.eval o := by
 refine execOp_congr o hs fun x hx => ?_
 cases x with
 | tmp t =>
  exact h t (List.mem_append_left _ (List.mem_filterMap.2 ⟨.tmp t, by simpa using hx, rfl⟩))
 | const v => rfl
 | global g => rfl
 | func f => rfl

theorem wp_carry {o : Oper} {a b a0 : Act} {d : Tmp} {K : Known} {w : World} {next : Act → World → Prop} (hd : o.dst = some d) (hg : o.guard = none) (he : execOp a.eval o = execOp b.eval o) (hb : b.defers = a0.defers) (hdb : d < b.tmps.size)
  (h : wpList P ops (QStep a0 d K w) [o] b w) (hn : ∀ v w', Below w.heap.size w w' → K v w' → next (a.put (some d) v) w') : o.wp P a w next Q := by
 unfold wpList at h
 rw [if_pos (by simp [Region.wanted, hg])] at h
 rcases h with h | ⟨_, _, _, h⟩
 case inr => exact h.elim
 unfold Oper.wp at *
 rw [he]
 have key : ∀ v w', wpList P ops (QStep a0 d K w) [] (b.put o.dst v) w' → next (a.put o.dst v) w' := by
  intro v w' h'
  rw [hd] at h' ⊢
  obtain ⟨_, h2, h3⟩ := h'
  rw [put_get hdb] at h3
  exact hn v w' h2 h3
 generalize (execOp b.eval o).run P w = r at h
 cases r with
 | ok n w' =>
  cases n <;> simp only [Oper.upon] at h ⊢
  case value v => exact key v w' h
  case skip => exact key undef w' h
  case defer x =>
   obtain ⟨h1, _⟩ := h
   exfalso
   have h2 : ({ b with defers := x :: b.defers }.put o.dst undef).defers = x :: b.defers := by rw [hd]; rfl
   rw [h2, hb] at h1
   have := congrArg List.length h1
   simp at this
  case enter f args =>
   refine Calls.mono h fun e w'' he => ?_
   cases e with
   | returned u => exact key u w'' he
   | panicked c => exact he.elim
   | outgrown => obtain ⟨_, _, h⟩ := he; exact h.elim
  case row row args => exact Rows.mono h fun u w'' he => key u w'' he
 | halt x w' =>
  cases x <;> simp only [Oper.upon] at h ⊢
  case panic u => exact h.elim

theorem wpAny_free {l : List Oper} {its : List (Tmp × List (Nat × Tmp))} {a0 : Act} {w0 : World} (hB : freeB l.toArray its = true) (hsz : ∀ x ∈ its, x.1 < a0.tmps.size) (hst : Steadys ks)
  (hsteps : FreeSteps P l.toArray ks w0 a0 0 its)
  (hend : ∀ w, Below w0.heap.size w0 w → FreeEnd ks w (fun a => wpList P l.toArray Q (l.drop its.length) a w) 0 its a0) :
  ∀ (m : Nat) (L : Array Bool) (a : Act) (w : World), left L its.length = m → FreeInv l.toArray its ks a0 w0 L a w → wpAny P .any l.toArray Q (m + (l.length - its.length)) L a w := by
 simp only [freeB, Bool.and_eq_true, decide_eq_true_eq, List.all_eq_true, List.mem_range] at hB
 obtain ⟨⟨⟨⟨⟨hsel, hn⟩, hs⟩, hc⟩, hone⟩, hseq⟩ := hB
 have hn' : its.length < l.length := by simpa using hn
 intro m
 induction m with
 | zero =>
  intro L a w hL inv
  have hall := left_zero its.length hL
  have hLe : L = allTrue l.toArray.size its.length := by
   apply Array.ext
   ·rw [allTrue_size]; exact inv.head.size
   ·intro j hj hj'
    have hj2 : j < l.toArray.size := by rw [allTrue_size] at hj'; exact hj'
    have e1 := allTrue_get l.toArray.size its.length j hj2
    have e2 : L.getD j false = decide (j < its.length) := by
     by_cases hlt : j < its.length
     ·rw [hall j hlt]; simp [hlt]
     ·rw [getD_both (inv.head.tail j (by omega) hj2)]; simp [hlt]
    have e3 := e2.trans e1.symm
    have e4 : L.getD j false = L[j] := by simp [hj]
    have e5 : (allTrue l.toArray.size its.length).getD j false = (allTrue l.toArray.size its.length)[j] := by simp only [Array.getD_eq_getD_getElem?, Array.getElem?_eq_getElem hj', Option.getD_some]
    rw [← e4, ← e5]
    exact e3
  have hfe := (hend w inv.rely).open (a := a) (fun j x hx => by
   have hlt : j < its.length := (List.getElem?_eq_some_iff.1 hx).1
   rw [Nat.zero_add]
   exact inv.known j x hx (hall j hlt))
  have hae : over a (its.map (·.1)) a0 = a := by
   refine act_ext ?_ ?_ fun t => ?_
   ·rw [over_defers, inv.defers]
   ·rw [over_size, inv.size]
   ·refine over_get a t _ a0 inv.size ?_
    by_cases ht : t ∈ its.map (·.1)
    ·exact .inl ht
    ·refine .inr (inv.off t fun x hx e => ht (List.mem_map.2 ⟨x, hx, e⟩)).symm
  rw [hae] at hfe
  have hdl : (l.drop its.length).length = l.length - its.length := by simp
  have := wpAny_of_seq (md := .any) (P := P) (Q' := Q) (l.drop its.length) its.length L a w (fun j => by simp [List.getElem?_drop]) (by rw [hdl, hLe]; simpa using hseq) hfe
  rw [hdl] at this
  rw [Nat.zero_add]
  exact this
 | succ m ih =>
  intro L a w hL inv
  obtain ⟨i0, hi0, hf0, hmin⟩ := left_pos (L := L) its.length (by rw [hL]; exact Nat.succ_pos m)
  have hun0 : L.getD i0 true = false := getD_in (by rw [inv.head.size]; exact Nat.lt_trans hi0 hn) hf0
  have hfu : m + 1 + (l.length - its.length) = (m + (l.length - its.length)) + 1 := by clear hL hun0 hf0; omega
  rw [hfu]
  refine ⟨fun hr => ?_, fun i hi => ?_⟩
  ·exfalso
   obtain ⟨o, d, ds, ho, _, _, _, haf, _, _⟩ := freeOne_spec (hone i0 hi0)
   have : i0 ∈ Region.ready .any l.toArray L := mem_ready.2 ⟨hun0, o, ho, fun e he hb => hmin e.on (haf e he hb)⟩
   rw [hr] at this
   cases this
  ·have hin : i < its.length := by
    rcases Nat.lt_or_ge i its.length with h | h
    ·exact h
    ·exact absurd hi (tail_waits hs hc hn inv.head _ i0 rfl hi0 hun0 i h)
   obtain ⟨hun, o', ho', hall⟩ := mem_ready.1 hi
   obtain ⟨o, d, ds, ho, hit, hg, hd, haf, hdeps, hdist⟩ := freeOne_spec (hone i hin)
   have hoe : o' = o := Option.some.inj (ho'.symm.trans ho)
   subst hoe
   have hlisted : ∀ x ∈ ds, L.getD x.1 false = true := by
    intro x hx
    obtain ⟨o2, ho2, e, he, hb, hon⟩ := Region.waitsFor_spec (hdeps x hx).1
    have : o2 = o' := Option.some.inj (ho2.symm.trans ho)
    subst this
    rw [← hon]
    exact hall e he hb
   have hdk : ∀ x ∈ ds, ∃ y, its[x.1]? = some y ∧ y.1 = x.2 := by
    intro x hx
    have h3 := (hdeps x hx).2.2
    cases hy : its[x.1]? with
    | none => rw [hy] at h3; cases h3
    | some y => rw [hy] at h3; exact ⟨y, rfl, Option.some.inj h3⟩
   have hst1 := hsteps.at i (d, ds) hit w inv.rely
   rw [Nat.zero_add] at hst1
   obtain ⟨o2, ho2, hwp⟩ := hst1.open (a := a) (fun x hx => by
    obtain ⟨y, hy, hy2⟩ := hdk x hx
    have := inv.known x.1 y hy (hlisted x hx)
    rwa [hy2] at this)
   have hoe2 : o2 = o' := Option.some.inj (ho2.symm.trans ho)
   subst hoe2
   have hsize : d < a0.tmps.size := hsz (d, ds) (List.mem_of_getElem? hit)
   have hsame : execOp a.eval o2 = execOp (over a (ds.map (·.2)) a0).eval o2 := by
    refine run_same (ops := l.toArray) (Region.noSelect_spec hsel i o2 · · ho) fun t ht => ?_
    refine (over_get a t _ a0 inv.size ?_).symm
    by_cases htd : t ∈ ds.map (·.2)
    ·exact .inl htd
    ·refine .inr (inv.off t fun x hx e => ?_).symm
     obtain ⟨j, hj, hjx⟩ := List.getElem_of_mem hx
     have hjs : its[j]? = some x := by rw [← hjx]; exact List.getElem?_eq_getElem hj
     rcases (hdist j x.1 x.2 hjs).2 with ⟨y, hy, hyj⟩ | hno
     ·obtain ⟨z, hz, hz2⟩ := hdk y hy
      rw [hyj, hjs] at hz
      have : x = z := Option.some.inj hz
      subst this
      exact htd (List.mem_map.2 ⟨y, hy, by rw [← hz2, e]⟩)
     ·rw [e] at hno
      exact hno ht
   unfold wpOp
   simp only [ho]
   rw [if_pos (by simp [Region.wanted, hg])]
   refine .inl (wp_carry hd hg hsame (by rw [over_defers]) (by rw [over_size]; exact hsize) hwp fun v w' hbel hk => ?_)
   have hLs : i < L.size := by rw [inv.head.size]; exact Nat.lt_trans hin hn
   refine ih (L.setIfInBounds i true) _ w' ?_ ?_
   ·have := left_set hLs (getD_both hun) its.length hin
    omega
   ·refine ⟨inv.head.set hi hin, inv.defers, by simp [Act.put, inv.size], fun t ht => ?_, inv.rely.trans (hbel.mono inv.rely.size), fun j x hj hl => ?_⟩
    ·rw [put_get_ne (ht (d, ds) (List.mem_of_getElem? hit))]
     exact inv.off t ht
    ·by_cases hji : i = j
     ·subst hji
      rw [hit] at hj
      cases hj
      rw [put_get (by rw [inv.size]; exact hsize)]
      exact hk
     ·rw [getD_set_ne false hji] at hl
      have hne : x.1 ≠ d := by
       rcases (hdist j x.1 x.2 hj).1 with h | h
       ·exact absurd h.symm hji
       ·exact h
      rw [put_get_ne (fun e => hne e.symm)]
      exact hst.at j _ _ _ (inv.known j x hj hl) hbel

/-- the law: n operations in whatever order, each shown by itself; the rest in turn -/
theorem wp_region_free {id : Nat} {l : List Oper} {a0 : Act} {w : World} (its : List (Tmp × List (Nat × Tmp))) (ks : List Known) (hm : P.follows .mixedOrders = true) (hB : freeB l.toArray its = true) (hsz : (its.all fun x => decide (x.1 < a0.tmps.size)) = true) (hst : Steadys ks)
  (hsteps : FreeSteps P l.toArray ks w.drew a0 0 its)
  (hend : ∀ w', Below w.heap.size w.drew w' → FreeEnd ks w' (fun a => wpList P l.toArray Q (l.drop its.length) a w') 0 its a0) : (Code.region id l.toArray true).wp P Q a0 w := by
 refine wp_region_any hm ?_
 have hn : its.length < l.length := by
  simp only [freeB, Bool.and_eq_true, decide_eq_true_eq] at hB
  simpa using hB.1.1.1.1.2
 have hsz' : ∀ x ∈ its, x.1 < a0.tmps.size := fun x hx => by simpa using List.all_eq_true.1 hsz x hx
 have := wpAny_free (Q := Q) (w0 := w.drew) hB hsz' hst hsteps hend its.length (Array.replicate l.toArray.size false) a0 w.drew (left_all _ _)
  ⟨⟨by simp, fun j oj _ hl => (by rw [getD_replicate_false] at hl; cases hl), fun t _ ht => getD_in (by simpa using ht) (getD_replicate_false _ _)⟩, rfl, rfl, fun _ _ => rfl, Below.refl _ _, fun i x _ hl => (by rw [getD_replicate_false] at hl; cases hl)⟩
 rw [show its.length + (l.length - its.length) = l.toArray.size by simp; omega] at this
 exact this
end
end Go.Proofs.YtlhnhjglcbggmaaGreatRR
namespace Go.Proofs.YtlhnhjglcbggmaaGreatRR
set_option linter.unusedSimpArgs false
set_option linter.unusedVariables false
open Go.RowKit

abbrev Its := List (Option Tmp × List (Nat × Tmp))

section
variable (R : World → World → Prop) (P : Program) (ops : Array Oper) (ks : List Known)
end

section
variable {R : World → World → Prop} {P : Program} {ops : Array Oper} {ks : List Known} {Q : Exit → Act → World → Prop}

end

section
variable {R : World → World → Prop} {P : Program} {ops : Array Oper} {ks : List Known} {w w0 : World} {a0 a : Act} {i e : Nat} {d : Option Tmp} {t : Tmp} {ds : List (Nat × Tmp)} {its : Its} {body : Act → Prop}
end
namespace RBk
variable {b n : Nat} {X : Array Value} {T : TypeId} {w w' : World}
end RBk
end Go.Proofs.YtlhnhjglcbggmaaGreatRR
namespace Go.Proofs.YtlhnhjglcbggmaaGreatRR
set_option linter.unusedSimpArgs false
set_option linter.unusedVariables false
open Go.RowKit
set_option maxRecDepth 100000

section
variable {P : Program}
theorem wpList_buildv {ops : Array Oper} {rest : List Oper} {o : Oper} {a : Act} {w : World} {Q : Exit → Act → World → Prop} (hw : Region.wanted o (yielded ops a.tmps) = true) (t : TypeId) (ps : List (Nat × Operand)) (ho : o.op = .build t ps.toArray)
  (vs : List (Nat × Value)) (hv : ps.map (fun p => (p.1, a.eval p.2)) = vs) (cells : Array Value) (hb : P.built t vs = some cells) (h : wpList P ops Q rest (a.put o.dst (.agg cells)) w) : wpList P ops Q (o :: rest) a w := by
 refine wpList_want hw fun K hK => ?_
 have hv2 : ps.toArray.map (fun (i, x) => (i, a.eval x)) = vs.toArray := by rw [← hv, List.map_toArray]
 unfold Oper.wp execOp
 simp only [ho, Sem.run_bind, Sem.run_pure, hv2, run_build w t vs.toArray cells (by simpa using hb), Result.andThen_ok]
 exact hK _ _ h
end
def zer (n : Nat) : List UInt8 := List.replicate n 0
/-! the bytes of a digest -/
end Go.Proofs.YtlhnhjglcbggmaaGreatRR
namespace Go.Proofs.YtlhnhjglcbggmaaGreatRR
set_option linter.unusedSimpArgs false
set_option linter.unusedVariables false
open Go.RowKit
set_option maxRecDepth 100000

theorem zero_hash : (Tryz.prog.info? 29).bind (·.zero) = some (.agg (bv (zer 32)).toArray) := by kernel_rfl
theorem info_h32 : (Tryz.prog.info? 29).map (·.size) = some 32 := by kernel_rfl
theorem agg_sz {a : Array Value} {n : Nat} (h : a.size = n) : (Value.agg a).cells.size = n := h
end Go.Proofs.YtlhnhjglcbggmaaGreatRR
namespace Go.Proofs.YtlhnhjglcbggmaaGreatRR
set_option linter.unusedVariables false
open Go.RowKit
set_option maxRecDepth 100000
set_option linter.unusedSimpArgs false

theorem ret_bool {a b : Bool} (h : a = b) : Ending.returned (.bool a) = .returned (.bool b) := by rw [h]

end Go.Proofs.YtlhnhjglcbggmaaGreatRR
namespace Go.Proofs.YtlhnhjglcbggmaaGreatRR
set_option linter.unusedSimpArgs false
set_option linter.unusedVariables false
open Go.RowKit
set_option maxRecDepth 100000

theorem Bs.nil (w : World) (B : Nat) : Bs w B (.slice none 0 0) [] := World.ownsRow_nil _ _ _ _
theorem Bs.made (w : World) (B : Nat) (cs : Array Value) (l : List UInt8) (h : cs.toList = bv l) (hB : B ≤ w.heap.size) (hl : l.length ≤ reach47) : Bs (w.alloc (.cells cs 5)) B (.slice (some ⟨w.heap.size, 0, none⟩) l.length l.length) l := by
 have hsz : cs.size = l.length := by rw [← Array.length_toList, h, bv_length]
 have := World.ownsRow_lit (base := B) (e := 5) (size := 1) w cs l.length hB (by unfold reach47 at hl; unfold maxLen; omega) (by rw [hsz, Nat.mul_one])
 rw [h] at this
 exact this
theorem Bs.alloc {w : World} {B : Nat} {v : Value} {l : List UInt8} (h : Bs w B v l) (o : Obj) : Bs (w.alloc o) B v l := World.ownsRow.alloc h o
theorem Bs.blk {w : World} {B : Nat} {v : Value} {l : List UInt8} (h : Bs w B v l) : ∀ k, v.ownBlock = some k → B ≤ k := fun k hk => (own_row h k hk).1
end Go.Proofs.YtlhnhjglcbggmaaGreatRR
namespace Go.Proofs.YtlhnhjglcbggmaaGreatRR
set_option linter.unusedSimpArgs false
set_option linter.unusedVariables false
open Go.RowKit
set_option maxRecDepth 100000

theorem Bs.apart {w w' : World} {B g : Nat} {v : Value} {l : List UInt8} {cs : Array Value} {t : TypeId} (h : Bs w B v l) (hg : w.grownBy w' (some g)) (hk : Bk w g cs t) (ht : 5 ≠ t) : Bs w' B v l := by
 have hne := own_ne_bk h hk ht
 refine ⟨h.1, h.2.imp id ?_⟩
 rintro ⟨g', cap, cur, hv, hb, hh, rest⟩
 refine ⟨g', cap, cur, hv, hb, (hg.block g' (Array.getElem?_eq_some_iff.1 hh).1 (fun e => hne (by rw [hv]; simp [Value.ownBlock]; injection e with e))).trans hh, rest⟩
end Go.Proofs.YtlhnhjglcbggmaaGreatRR
namespace Go.Proofs.YtlhnhjglcbggmaaGreatRR
set_option linter.unusedSimpArgs false
set_option linter.unusedVariables false
open Go.RowKit
set_option maxRecDepth 100000

section
variable {P : Program}
end
theorem bv_sz {l : List UInt8} {n : Nat} (h : l.length = n) : (bv l).toArray.size = n := by rw [List.size_toArray, bv_length, h]
theorem built_hash : Tryz.prog.built 29 [] = some (bv (zer 32)).toArray := by kernel_rfl

end Go.Proofs.YtlhnhjglcbggmaaGreatRR

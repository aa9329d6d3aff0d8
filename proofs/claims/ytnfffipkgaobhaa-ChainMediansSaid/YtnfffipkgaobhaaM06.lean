/-
  A region that draws its order, whose head's operations each tell something of their value that no later operation undoes: shown operation by operation, each from what it waits for. No condition: lemmas over any program.
  A region that draws its order, whose head's operations each tell something that no later operation undoes: the elder law, with what an operation may do to the world left open (R), and with operations that have no value of their own (a store). No condition: lemmas over any program.
-/
import Derived.Test.YtnfffipkgaobhaaM01
import Derived.StillTail
import Derived.Test.YtnfffipkgaobhaaM04
namespace Go.Proofs.Ytnfffipkgaobhaa
set_option linter.unusedSimpArgs false
set_option linter.unusedVariables false
open Go.RowKit

abbrev Known := Value → World → Prop
def Steady (K : Known) : Prop := ∀ v w w', K v w → Below w.heap.size w w' → K v w'
def Is (x : Value) : Known := fun v _ => v = x
theorem Is.steady (x : Value) : Steady (Is x) := fun _ _ _ h _ => h
def kat (ks : List Known) (i : Nat) : Known := match ks[i]? with | some k => k | none => fun _ _ => True
def Steadys : List Known → Prop
  | [] => True
  | k :: ks => Steady k ∧ Steadys ks
theorem Steadys.at : ∀ {ks : List Known}, Steadys ks → ∀ i, Steady (kat ks i)
  | [], _, _ => fun _ _ _ _ _ => trivial
  | _ :: _, h, 0 => h.1
  | _ :: _, h, i + 1 => Steadys.at h.2 i

def QStep (a0 : Act) (d : Tmp) (K : Known) (w : World) : Exit → Act → World → Prop
  | .normal, a', w' => a'.defers = a0.defers ∧ Below w.heap.size w w' ∧ K (a'.tmps.getD d undef) w'
  | _, _, _ => False

section
variable (P : Program) (ops : Array Oper) (ks : List Known)
def FreeStep (w : World) (a0 : Act) (i : Nat) (d : Tmp) : List (Nat × Tmp) → Act → Prop
  | [], a => ∃ o, ops[i]? = some o ∧ wpList P ops (QStep a0 d (kat ks i) w) [o] a w
  | (e, t) :: ds, a => ∀ v, kat ks e v w → FreeStep w a0 i d ds (a.put (some t) v)
def FreeEnd (w : World) (body : Act → Prop) : Nat → List (Tmp × List (Nat × Tmp)) → Act → Prop
  | _, [], a => body a
  | i, (t, _) :: xs, a => ∀ v, kat ks i v w → FreeEnd w body (i + 1) xs (a.put (some t) v)
def FreeSteps (w0 : World) (a0 : Act) : Nat → List (Tmp × List (Nat × Tmp)) → Prop
  | _, [] => True
  | i, (t, ds) :: xs => (∀ w, Below w0.heap.size w0 w → FreeStep P ops ks w a0 i t ds a0) ∧ FreeSteps w0 a0 (i + 1) xs
end

def freeOne (ops : Array Oper) (its : List (Tmp × List (Nat × Tmp))) (i : Nat) : Bool :=
  match ops[i]?, its[i]? with
  | some o, some (d, ds) => o.guard.isNone && o.dst == some d && o.after.all (fun e => !Region.binds .any e || decide (e.on < i)) &&
      ds.all (fun x => Region.waitsFor .any ops i x.1 && decide (x.1 < its.length) && (its[x.1]?).map (·.1) == some x.2) &&
      (List.range its.length).all (fun j => match its[j]? with | some (t, _) => (j == i || t != d) && (ds.any (fun x => x.1 == j) || !(o.looksAt ops).contains t) | none => false)
  | _, _ => false
def allTrue (m n : Nat) : Array Bool := (List.range n).foldl (fun l i => l.setIfInBounds i true) (Array.replicate m false)
def freeB (ops : Array Oper) (its : List (Tmp × List (Nat × Tmp))) : Bool :=
  Region.noSelect ops && decide (its.length < ops.size) && Region.sinkB .any ops its.length && Region.chainB .any ops its.length &&
  (List.range its.length).all (freeOne ops its) && Region.seqB .any ops (ops.size - its.length) its.length (allTrue ops.size its.length)

theorem allTrue_size (m n : Nat) : (allTrue m n).size = m := by
  have : ∀ (l : List Nat) (b : Array Bool), (l.foldl (fun l i => l.setIfInBounds i true) b).size = b.size := by
    intro l
    induction l with
    | nil => intro b; rfl
    | cons i l ih => intro b; rw [List.foldl_cons, ih]; simp
  rw [allTrue, this]; simp
theorem allTrue_get (m n j : Nat) (h : j < m) : (allTrue m n).getD j false = decide (j < n) := by
  have key : ∀ (l : List Nat) (b : Array Bool), j < b.size → (l.foldl (fun l i => l.setIfInBounds i true) b).getD j false = (decide (j ∈ l) || b.getD j false) := by
    intro l
    induction l with
    | nil => intro b _; simp
    | cons i l ih =>
      intro b hb
      rw [List.foldl_cons, ih _ (by simpa using hb)]
      by_cases hij : i = j
      · subst hij
        simp [hb]
      · rw [getD_set_ne false hij]
        simp [show j ≠ i from fun h => hij h.symm]
  rw [allTrue, key _ _ (by simpa using h)]
  simp [List.mem_range, h]

/-- how many of the first n are not listed -/
def left (L : Array Bool) : Nat → Nat
  | 0 => 0
  | n + 1 => left L n + if L.getD n false then 0 else 1
theorem left_ne {L : Array Bool} {i : Nat} : ∀ n, n ≤ i → left (L.setIfInBounds i true) n = left L n
  | 0, _ => rfl
  | n + 1, h => by unfold left; rw [left_ne n (by omega), getD_set_ne false (by omega)]
theorem left_set {L : Array Bool} {i : Nat} (hs : i < L.size) (hf : L.getD i false = false) : ∀ n, i < n → left (L.setIfInBounds i true) n + 1 = left L n
  | 0, h => by omega
  | n + 1, h => by
    unfold left
    by_cases hin : i = n
    · subst hin
      rw [left_ne i (Nat.le_refl _), hf]
      simp [hs]
    · have := left_set hs hf n (by omega)
      rw [getD_set_ne false hin]
      omega
theorem left_zero {L : Array Bool} : ∀ n, left L n = 0 → ∀ i, i < n → L.getD i false = true
  | 0, _, i, hi => by omega
  | n + 1, h, i, hi => by
    unfold left at h
    by_cases hin : i = n
    · subst hin
      cases hb : L.getD i false with
      | true => rfl
      | false => rw [hb] at h; simp at h
    · exact left_zero n (by omega) i (by omega)
theorem left_pos {L : Array Bool} : ∀ n, 0 < left L n → ∃ i, i < n ∧ L.getD i false = false ∧ ∀ j, j < i → L.getD j false = true
  | 0, h => by unfold left at h; omega
  | n + 1, h => by
    by_cases h0 : 0 < left L n
    · obtain ⟨i, hi, h1, h2⟩ := left_pos n h0
      exact ⟨i, by omega, h1, h2⟩
    · have hz : ∀ j, j < n → L.getD j false = true := left_zero n (by omega)
      refine ⟨n, by omega, ?_, hz⟩
      cases hb : L.getD n false with
      | false => rfl
      | true => unfold left at h; rw [hb] at h; simp at h; omega
theorem left_all (m : Nat) : ∀ n, left (Array.replicate m false) n = n
  | 0 => rfl
  | n + 1 => by unfold left; rw [left_all m n, getD_replicate_false]; simp

theorem put_get {a : Act} {d : Tmp} {v : Value} (h : d < a.tmps.size) : (a.put (some d) v).tmps.getD d undef = v := by simp [Act.put, h]
theorem put_get_ne {a : Act} {d t : Tmp} {v : Value} (h : d ≠ t) : (a.put (some d) v).tmps.getD t undef = a.tmps.getD t undef := by
  simp [Act.put, Array.getElem?_setIfInBounds_ne h]
theorem act_ext {a b : Act} (h1 : a.defers = b.defers) (h2 : a.tmps.size = b.tmps.size) (h3 : ∀ t, a.tmps.getD t undef = b.tmps.getD t undef) : a = b := by
  obtain ⟨x, dx⟩ := a
  obtain ⟨y, dy⟩ := b
  simp only at h1 h2 h3
  subst h1
  congr 1
  apply Array.ext h2
  intro i hi hi'
  have := h3 i
  simpa [hi, hi'] using this

/-- the act with these temps as in a -/
def over (a : Act) (ts : List Tmp) (b : Act) : Act := ts.foldl (fun b t => b.put (some t) (a.tmps.getD t undef)) b
theorem over_defers (a : Act) : ∀ (ts : List Tmp) (b : Act), (over a ts b).defers = b.defers
  | [], _ => rfl
  | t :: ts, b => by show (over a ts _).defers = _; rw [over_defers a ts]; rfl
theorem over_size (a : Act) : ∀ (ts : List Tmp) (b : Act), (over a ts b).tmps.size = b.tmps.size
  | [], _ => rfl
  | t :: ts, b => by show (over a ts _).tmps.size = _; rw [over_size a ts]; simp [Act.put]
theorem over_get (a : Act) (t : Tmp) : ∀ (ts : List Tmp) (b : Act), a.tmps.size = b.tmps.size → (t ∈ ts ∨ b.tmps.getD t undef = a.tmps.getD t undef) → (over a ts b).tmps.getD t undef = a.tmps.getD t undef
  | [], b, _, h => by
    rcases h with h | h
    · cases h
    · exact h
  | s :: ts, b, hs, h => by
    show (over a ts _).tmps.getD t undef = _
    have hs' : a.tmps.size = (b.put (some s) (a.tmps.getD s undef)).tmps.size := by simp [Act.put, hs]
    refine over_get a t ts _ hs' ?_
    by_cases hst : s = t
    · subst hst
      right
      by_cases hlt : s < b.tmps.size
      · exact put_get hlt
      · have h2 : a.tmps.size ≤ s := by rw [hs]; exact Nat.le_of_not_lt hlt
        have h1 : (b.put (some s) (a.tmps.getD s undef)).tmps.size ≤ s := hs' ▸ h2
        rw [Array.getD_eq_getD_getElem?, Array.getD_eq_getD_getElem?, Array.getElem?_eq_none h2, Array.getElem?_eq_none h1]
    · rw [put_get_ne hst]
      rcases h with h | h
      · rcases List.mem_cons.1 h with h | h
        · exact absurd h.symm hst
        · exact .inl h
      · exact .inr h

section
variable {P : Program} {ops : Array Oper} {ks : List Known} {Q : Exit → Act → World → Prop}

theorem FreeStep.open {w : World} {a0 a : Act} {i : Nat} {d : Tmp} : ∀ {ds : List (Nat × Tmp)} {b : Act}, FreeStep P ops ks w a0 i d ds b → (∀ x ∈ ds, kat ks x.1 (a.tmps.getD x.2 undef) w) →
    ∃ o, ops[i]? = some o ∧ wpList P ops (QStep a0 d (kat ks i) w) [o] (over a (ds.map (·.2)) b) w
  | [], _, h, _ => h
  | (e, t) :: ds, b, h, hk => FreeStep.open (ds := ds) (h _ (hk (e, t) (List.mem_cons_self ..))) (fun x hx => hk x (List.mem_cons_of_mem _ hx))
theorem FreeEnd.open {w : World} {a : Act} {body : Act → Prop} : ∀ {its : List (Tmp × List (Nat × Tmp))} {i : Nat} {b : Act}, FreeEnd ks w body i its b → (∀ j x, its[j]? = some x → kat ks (i + j) (a.tmps.getD x.1 undef) w) →
    body (over a (its.map (·.1)) b)
  | [], _, _, h, _ => h
  | (t, ds) :: its, i, b, h, hk => FreeEnd.open (its := its) (i := i + 1) (h _ (hk 0 (t, ds) rfl)) (fun j x hx => by
      have := hk (j + 1) x (by simpa using hx)
      rwa [show i + (j + 1) = i + 1 + j by omega] at this)
theorem FreeSteps.at {w0 : World} {a0 : Act} : ∀ {its : List (Tmp × List (Nat × Tmp))} {k : Nat}, FreeSteps P ops ks w0 a0 k its → ∀ j x, its[j]? = some x → ∀ w, Below w0.heap.size w0 w → FreeStep P ops ks w a0 (k + j) x.1 x.2 a0
  | [], _, _, _, _, h => by cases h
  | (t, ds) :: its, k, h, 0, x, hx => by cases hx; exact h.1
  | (t, ds) :: its, k, h, j + 1, x, hx => by
    have := FreeSteps.at (its := its) h.2 j x (by simpa using hx)
    rwa [show k + 1 + j = k + (j + 1) by omega] at this

structure FreeInv (ops : Array Oper) (its : List (Tmp × List (Nat × Tmp))) (ks : List Known) (a0 : Act) (w0 : World) (L : Array Bool) (a : Act) (w : World) : Prop where
  head : HeadInv .any ops its.length L
  defers : a.defers = a0.defers
  size : a.tmps.size = a0.tmps.size
  off : ∀ t, (∀ x ∈ its, x.1 ≠ t) → a.tmps.getD t undef = a0.tmps.getD t undef
  rely : Below w0.heap.size w0 w
  known : ∀ i x, its[i]? = some x → L.getD i false = true → kat ks i (a.tmps.getD x.1 undef) w

theorem freeOne_spec {its : List (Tmp × List (Nat × Tmp))} {i : Nat} (h : freeOne ops its i = true) :
    ∃ o d ds, ops[i]? = some o ∧ its[i]? = some (d, ds) ∧ o.guard = none ∧ o.dst = some d ∧ (∀ e ∈ o.after, Region.binds .any e = true → e.on < i) ∧
      (∀ x ∈ ds, Region.waitsFor .any ops i x.1 = true ∧ x.1 < its.length ∧ (its[x.1]?).map (·.1) = some x.2) ∧
      (∀ j t es, its[j]? = some (t, es) → (j = i ∨ t ≠ d) ∧ ((∃ x ∈ ds, x.1 = j) ∨ t ∉ o.looksAt ops)) := by
  unfold freeOne at h
  split at h
  · rename_i o d ds ho hi
    simp only [Bool.and_eq_true, List.all_eq_true, Array.all_eq_true_iff_forall_mem, Bool.or_eq_true, Bool.not_eq_true', decide_eq_true_eq, beq_iff_eq, Option.isNone_iff_eq_none] at h
    obtain ⟨⟨⟨⟨h1, h2⟩, h3⟩, h4⟩, h5⟩ := h
    refine ⟨o, d, ds, ho, hi, h1, h2, fun e he hb => ?_, fun x hx => ⟨(h4 x hx).1.1, (h4 x hx).1.2, (h4 x hx).2⟩, fun j t es hj => ?_⟩
    · rcases h3 e he with h | h
      · rw [hb] at h; cases h
      · exact h
    · have hjl : j < its.length := (List.getElem?_eq_some_iff.1 hj).1
      have h6 := h5 j (List.mem_range.2 hjl)
      rw [hj] at h6
      simp only [Bool.and_eq_true, Bool.or_eq_true, beq_iff_eq, bne_iff_ne, List.any_eq_true, Bool.not_eq_true', List.contains_eq_mem, decide_eq_false_iff_not] at h6
      exact h6
  · cases h

theorem run_same {o : Oper} {a b : Act} (hs : ∀ cs d, o.op ≠ .select cs d) (h : ∀ t ∈ o.looksAt ops, a.tmps.getD t undef = b.tmps.getD t undef) : execOp a.eval o = execOp b.eval o := by
  refine execOp_congr o hs fun x hx => ?_
  cases x with
  | tmp t =>
    exact h t (List.mem_append_left _ (List.mem_filterMap.2 ⟨.tmp t, by simpa using hx, rfl⟩))
  | const v => rfl
  | global g => rfl
  | func f => rfl

theorem wp_carry {o : Oper} {a b a0 : Act} {d : Tmp} {K : Known} {w : World} {next : Act → World → Prop} (hd : o.dst = some d) (hg : o.guard = none) (he : execOp a.eval o = execOp b.eval o) (hb : b.defers = a0.defers) (hdb : d < b.tmps.size)
    (h : wpList P ops (QStep a0 d K w) [o] b w) (hn : ∀ v w', Below w.heap.size w w' → K v w' → next (a.put (some d) v) w') : o.wp P a w next Q := by
  unfold wpList at h
  rw [if_pos (by simp [Region.wanted, hg])] at h
  rcases h with h | ⟨_, _, _, h⟩
  case inr => exact h.elim
  unfold Oper.wp at *
  rw [he]
  have key : ∀ v w', wpList P ops (QStep a0 d K w) [] (b.put o.dst v) w' → next (a.put o.dst v) w' := by
    intro v w' h'
    rw [hd] at h' ⊢
    obtain ⟨_, h2, h3⟩ := h'
    rw [put_get hdb] at h3
    exact hn v w' h2 h3
  generalize (execOp b.eval o).run P w = r at h
  cases r with
  | ok n w' =>
    cases n <;> simp only [Oper.upon] at h ⊢
    case value v => exact key v w' h
    case skip => exact key undef w' h
    case defer x =>
      obtain ⟨h1, _⟩ := h
      exfalso
      have h2 : ({ b with defers := x :: b.defers }.put o.dst undef).defers = x :: b.defers := by rw [hd]; rfl
      rw [h2, hb] at h1
      have := congrArg List.length h1
      simp at this
    case enter f args =>
      refine Calls.mono h fun e w'' he => ?_
      cases e with
      | returned u => exact key u w'' he
      | panicked c => exact he.elim
      | outgrown => obtain ⟨_, _, h⟩ := he; exact h.elim
    case row row args => exact Rows.mono h fun u w'' he => key u w'' he
  | halt x w' =>
    cases x <;> simp only [Oper.upon] at h ⊢
    case panic u => exact h.elim

theorem wpAny_free {l : List Oper} {its : List (Tmp × List (Nat × Tmp))} {a0 : Act} {w0 : World} (hB : freeB l.toArray its = true) (hsz : ∀ x ∈ its, x.1 < a0.tmps.size) (hst : Steadys ks)
    (hsteps : FreeSteps P l.toArray ks w0 a0 0 its)
    (hend : ∀ w, Below w0.heap.size w0 w → FreeEnd ks w (fun a => wpList P l.toArray Q (l.drop its.length) a w) 0 its a0) :
    ∀ (m : Nat) (L : Array Bool) (a : Act) (w : World), left L its.length = m → FreeInv l.toArray its ks a0 w0 L a w → wpAny P .any l.toArray Q (m + (l.length - its.length)) L a w := by
  simp only [freeB, Bool.and_eq_true, decide_eq_true_eq, List.all_eq_true, List.mem_range] at hB
  obtain ⟨⟨⟨⟨⟨hsel, hn⟩, hs⟩, hc⟩, hone⟩, hseq⟩ := hB
  have hn' : its.length < l.length := by simpa using hn
  intro m
  induction m with
  | zero =>
    intro L a w hL inv
    have hall := left_zero its.length hL
    have hLe : L = allTrue l.toArray.size its.length := by
      apply Array.ext
      · rw [allTrue_size]; exact inv.head.size
      · intro j hj hj'
        have hj2 : j < l.toArray.size := by rw [allTrue_size] at hj'; exact hj'
        have e1 := allTrue_get l.toArray.size its.length j hj2
        have e2 : L.getD j false = decide (j < its.length) := by
          by_cases hlt : j < its.length
          · rw [hall j hlt]; simp [hlt]
          · rw [getD_both (inv.head.tail j (by omega) hj2)]; simp [hlt]
        have e3 := e2.trans e1.symm
        have e4 : L.getD j false = L[j] := by simp [hj]
        have e5 : (allTrue l.toArray.size its.length).getD j false = (allTrue l.toArray.size its.length)[j] := by simp only [Array.getD_eq_getD_getElem?, Array.getElem?_eq_getElem hj', Option.getD_some]
        rw [← e4, ← e5]
        exact e3
    have hfe := (hend w inv.rely).open (a := a) (fun j x hx => by
      have hlt : j < its.length := (List.getElem?_eq_some_iff.1 hx).1
      rw [Nat.zero_add]
      exact inv.known j x hx (hall j hlt))
    have hae : over a (its.map (·.1)) a0 = a := by
      refine act_ext ?_ ?_ fun t => ?_
      · rw [over_defers, inv.defers]
      · rw [over_size, inv.size]
      · refine over_get a t _ a0 inv.size ?_
        by_cases ht : t ∈ its.map (·.1)
        · exact .inl ht
        · refine .inr (inv.off t fun x hx e => ht (List.mem_map.2 ⟨x, hx, e⟩)).symm
    rw [hae] at hfe
    have hdl : (l.drop its.length).length = l.length - its.length := by simp
    have := wpAny_of_seq (md := .any) (P := P) (Q' := Q) (l.drop its.length) its.length L a w (fun j => by simp [List.getElem?_drop]) (by rw [hdl, hLe]; simpa using hseq) hfe
    rw [hdl] at this
    rw [Nat.zero_add]
    exact this
  | succ m ih =>
    intro L a w hL inv
    obtain ⟨i0, hi0, hf0, hmin⟩ := left_pos (L := L) its.length (by rw [hL]; exact Nat.succ_pos m)
    have hun0 : L.getD i0 true = false := getD_in (by rw [inv.head.size]; exact Nat.lt_trans hi0 hn) hf0
    have hfu : m + 1 + (l.length - its.length) = (m + (l.length - its.length)) + 1 := by clear hL hun0 hf0; omega
    rw [hfu]
    refine ⟨fun hr => ?_, fun i hi => ?_⟩
    · exfalso
      obtain ⟨o, d, ds, ho, _, _, _, haf, _, _⟩ := freeOne_spec (hone i0 hi0)
      have : i0 ∈ Region.ready .any l.toArray L := mem_ready.2 ⟨hun0, o, ho, fun e he hb => hmin e.on (haf e he hb)⟩
      rw [hr] at this
      cases this
    · have hin : i < its.length := by
        rcases Nat.lt_or_ge i its.length with h | h
        · exact h
        · exact absurd hi (tail_waits hs hc hn inv.head _ i0 rfl hi0 hun0 i h)
      obtain ⟨hun, o', ho', hall⟩ := mem_ready.1 hi
      obtain ⟨o, d, ds, ho, hit, hg, hd, haf, hdeps, hdist⟩ := freeOne_spec (hone i hin)
      have hoe : o' = o := Option.some.inj (ho'.symm.trans ho)
      subst hoe
      have hlisted : ∀ x ∈ ds, L.getD x.1 false = true := by
        intro x hx
        obtain ⟨o2, ho2, e, he, hb, hon⟩ := Region.waitsFor_spec (hdeps x hx).1
        have : o2 = o' := Option.some.inj (ho2.symm.trans ho)
        subst this
        rw [← hon]
        exact hall e he hb
      have hdk : ∀ x ∈ ds, ∃ y, its[x.1]? = some y ∧ y.1 = x.2 := by
        intro x hx
        have h3 := (hdeps x hx).2.2
        cases hy : its[x.1]? with
        | none => rw [hy] at h3; cases h3
        | some y => rw [hy] at h3; exact ⟨y, rfl, Option.some.inj h3⟩
      have hst1 := hsteps.at i (d, ds) hit w inv.rely
      rw [Nat.zero_add] at hst1
      obtain ⟨o2, ho2, hwp⟩ := hst1.open (a := a) (fun x hx => by
        obtain ⟨y, hy, hy2⟩ := hdk x hx
        have := inv.known x.1 y hy (hlisted x hx)
        rwa [hy2] at this)
      have hoe2 : o2 = o' := Option.some.inj (ho2.symm.trans ho)
      subst hoe2
      have hsize : d < a0.tmps.size := hsz (d, ds) (List.mem_of_getElem? hit)
      have hsame : execOp a.eval o2 = execOp (over a (ds.map (·.2)) a0).eval o2 := by
        refine run_same (ops := l.toArray) (Region.noSelect_spec hsel i o2 · · ho) fun t ht => ?_
        refine (over_get a t _ a0 inv.size ?_).symm
        by_cases htd : t ∈ ds.map (·.2)
        · exact .inl htd
        · refine .inr (inv.off t fun x hx e => ?_).symm
          obtain ⟨j, hj, hjx⟩ := List.getElem_of_mem hx
          have hjs : its[j]? = some x := by rw [← hjx]; exact List.getElem?_eq_getElem hj
          rcases (hdist j x.1 x.2 hjs).2 with ⟨y, hy, hyj⟩ | hno
          · obtain ⟨z, hz, hz2⟩ := hdk y hy
            rw [hyj, hjs] at hz
            have : x = z := Option.some.inj hz
            subst this
            exact htd (List.mem_map.2 ⟨y, hy, by rw [← hz2, e]⟩)
          · rw [e] at hno
            exact hno ht
      unfold wpOp
      simp only [ho]
      rw [if_pos (by simp [Region.wanted, hg])]
      refine .inl (wp_carry hd hg hsame (by rw [over_defers]) (by rw [over_size]; exact hsize) hwp fun v w' hbel hk => ?_)
      have hLs : i < L.size := by rw [inv.head.size]; exact Nat.lt_trans hin hn
      refine ih (L.setIfInBounds i true) _ w' ?_ ?_
      · have := left_set hLs (getD_both hun) its.length hin
        omega
      · refine ⟨inv.head.set hi hin, inv.defers, by simp [Act.put, inv.size], fun t ht => ?_, inv.rely.trans (hbel.mono inv.rely.size), fun j x hj hl => ?_⟩
        · rw [put_get_ne (ht (d, ds) (List.mem_of_getElem? hit))]
          exact inv.off t ht
        · by_cases hji : i = j
          · subst hji
            rw [hit] at hj
            cases hj
            rw [put_get (by rw [inv.size]; exact hsize)]
            exact hk
          · rw [getD_set_ne false hji] at hl
            have hne : x.1 ≠ d := by
              rcases (hdist j x.1 x.2 hj).1 with h | h
              · exact absurd h.symm hji
              · exact h
            rw [put_get_ne (fun e => hne e.symm)]
            exact hst.at j _ _ _ (inv.known j x hj hl) hbel

/-- the law: n operations in whatever order, each shown by itself; the rest in turn -/
theorem wp_region_free {id : Nat} {l : List Oper} {a0 : Act} {w : World} (its : List (Tmp × List (Nat × Tmp))) (ks : List Known) (hm : P.follows .mixedOrders = true) (hB : freeB l.toArray its = true) (hsz : (its.all fun x => decide (x.1 < a0.tmps.size)) = true) (hst : Steadys ks)
    (hsteps : FreeSteps P l.toArray ks w.drew a0 0 its)
    (hend : ∀ w', Below w.heap.size w.drew w' → FreeEnd ks w' (fun a => wpList P l.toArray Q (l.drop its.length) a w') 0 its a0) : (Code.region id l.toArray true).wp P Q a0 w := by
  refine wp_region_any hm ?_
  have hn : its.length < l.length := by
    simp only [freeB, Bool.and_eq_true, decide_eq_true_eq] at hB
    simpa using hB.1.1.1.1.2
  have hsz' : ∀ x ∈ its, x.1 < a0.tmps.size := fun x hx => by simpa using List.all_eq_true.1 hsz x hx
  have := wpAny_free (Q := Q) (w0 := w.drew) hB hsz' hst hsteps hend its.length (Array.replicate l.toArray.size false) a0 w.drew (left_all _ _)
    ⟨⟨by simp, fun j oj _ hl => (by rw [getD_replicate_false] at hl; cases hl), fun t _ ht => getD_in (by simpa using ht) (getD_replicate_false _ _)⟩, rfl, rfl, fun _ _ => rfl, Below.refl _ _, fun i x _ hl => (by rw [getD_replicate_false] at hl; cases hl)⟩
  rw [show its.length + (l.length - its.length) = l.toArray.size by simp; omega] at this
  exact this
end
end Go.Proofs.Ytnfffipkgaobhaa
namespace Go.Proofs.Ytnfffipkgaobhaa
set_option linter.unusedSimpArgs false
set_option linter.unusedVariables false
open Go.RowKit

structure Pre (R : World → World → Prop) : Prop where
  refl : ∀ w, R w w
  trans : ∀ {a b c}, R a b → R b c → R a c
abbrev SteadyR (R : World → World → Prop) (K : Known) : Prop := ∀ v w w', K v w → R w w' → K v w'
theorem SteadyR.is (R : World → World → Prop) (x : Value) : SteadyR R (Is x) := fun _ _ _ h _ => h
def SteadysR (R : World → World → Prop) : List Known → Prop
  | [] => True
  | k :: ks => SteadyR R k ∧ SteadysR R ks
theorem SteadysR.at {R : World → World → Prop} : ∀ {ks : List Known}, SteadysR R ks → ∀ i, SteadyR R (kat ks i)
  | [], _, _ => fun _ _ _ _ _ => trivial
  | _ :: _, h, 0 => h.1
  | _ :: _, h, i + 1 => SteadysR.at h.2 i
def valAt (d : Option Tmp) (a : Act) : Value := match d with | some t => a.tmps.getD t undef | none => undef

def QStepR (R : World → World → Prop) (a0 : Act) (d : Option Tmp) (K : Known) (w : World) : Exit → Act → World → Prop
  | .normal, a', w' => a'.defers = a0.defers ∧ R w w' ∧ K (valAt d a') w'
  | _, _, _ => False
abbrev Its := List (Option Tmp × List (Nat × Tmp))

section
variable (R : World → World → Prop) (P : Program) (ops : Array Oper) (ks : List Known)
def FreeStepR (w : World) (a0 : Act) (i : Nat) (d : Option Tmp) : List (Nat × Tmp) → Act → Prop
  | [], a => ∃ o, ops[i]? = some o ∧ wpList P ops (QStepR R a0 d (kat ks i) w) [o] a w
  | (e, t) :: ds, a => ∀ v, kat ks e v w → FreeStepR w a0 i d ds (a.put (some t) v)
def FreeEndR (w : World) (body : Act → Prop) : Nat → Its → Act → Prop
  | _, [], a => body a
  | i, (t, _) :: xs, a => ∀ v, kat ks i v w → FreeEndR w body (i + 1) xs (a.put t v)
def FreeStepsR (w0 : World) (a0 : Act) : Nat → Its → Prop
  | _, [] => True
  | i, (t, ds) :: xs => (∀ w, R w0 w → FreeStepR R P ops ks w a0 i t ds a0) ∧ FreeStepsR w0 a0 (i + 1) xs
end

def freeOneR (ops : Array Oper) (its : Its) (i : Nat) : Bool :=
  match ops[i]?, its[i]? with
  | some o, some (d, ds) => o.guard.isNone && o.dst == d && o.after.all (fun e => !Region.binds .any e || decide (e.on < i)) &&
      ds.all (fun x => Region.waitsFor .any ops i x.1 && decide (x.1 < its.length) && (its[x.1]?).map (·.1) == some (some x.2)) &&
      (List.range its.length).all (fun j => match its[j]? with | some (some t, _) => (j == i || d != some t) && (ds.any (fun x => x.1 == j) || !(o.looksAt ops).contains t) | some (none, _) => true | none => false)
  | _, _ => false
def freeRB (ops : Array Oper) (its : Its) : Bool :=
  Region.noSelect ops && decide (its.length < ops.size) && Region.sinkB .any ops its.length && Region.chainB .any ops its.length &&
  (List.range its.length).all (freeOneR ops its) && Region.seqB .any ops (ops.size - its.length) its.length (allTrue ops.size its.length)

theorem act_put_none (a : Act) (v : Value) : a.put none v = a := rfl
theorem valAt_put {a : Act} {d : Option Tmp} {v : Value} (h : ∀ t, d = some t → t < a.tmps.size) (hv : d = none → v = undef) : valAt d (a.put d v) = v := by
  cases d with
  | none => exact (hv rfl).symm
  | some t => exact put_get (h t rfl)

section
variable {R : World → World → Prop} {P : Program} {ops : Array Oper} {ks : List Known} {Q : Exit → Act → World → Prop}

theorem FreeStepR.open {w : World} {a0 a : Act} {i : Nat} {d : Option Tmp} : ∀ {ds : List (Nat × Tmp)} {b : Act}, FreeStepR R P ops ks w a0 i d ds b → (∀ x ∈ ds, kat ks x.1 (a.tmps.getD x.2 undef) w) →
    ∃ o, ops[i]? = some o ∧ wpList P ops (QStepR R a0 d (kat ks i) w) [o] (over a (ds.map (·.2)) b) w
  | [], _, h, _ => h
  | (e, t) :: ds, b, h, hk => FreeStepR.open (ds := ds) (h _ (hk (e, t) (List.mem_cons_self ..))) (fun x hx => hk x (List.mem_cons_of_mem _ hx))
theorem FreeEndR.open {w : World} {a : Act} {body : Act → Prop} : ∀ {its : Its} {i : Nat} {b : Act}, FreeEndR ks w body i its b → (∀ j x, its[j]? = some x → kat ks (i + j) (valAt x.1 a) w) →
    body (over a (its.filterMap (·.1)) b)
  | [], _, _, h, _ => h
  | (none, ds) :: its, i, b, h, hk => FreeEndR.open (its := its) (i := i + 1) (h _ (hk 0 (none, ds) rfl)) (fun j x hx => by
      have := hk (j + 1) x (by simpa using hx)
      rwa [show i + (j + 1) = i + 1 + j by omega] at this)
  | (some t, ds) :: its, i, b, h, hk => FreeEndR.open (its := its) (i := i + 1) (h _ (hk 0 (some t, ds) rfl)) (fun j x hx => by
      have := hk (j + 1) x (by simpa using hx)
      rwa [show i + (j + 1) = i + 1 + j by omega] at this)
theorem FreeStepsR.at {w0 : World} {a0 : Act} : ∀ {its : Its} {k : Nat}, FreeStepsR R P ops ks w0 a0 k its → ∀ j x, its[j]? = some x → ∀ w, R w0 w → FreeStepR R P ops ks w a0 (k + j) x.1 x.2 a0
  | [], _, _, _, _, h => by cases h
  | (t, ds) :: its, k, h, 0, x, hx => by cases hx; exact h.1
  | (t, ds) :: its, k, h, j + 1, x, hx => by
    have := FreeStepsR.at (its := its) h.2 j x (by simpa using hx)
    rwa [show k + 1 + j = k + (j + 1) by omega] at this

structure FreeInvR (R : World → World → Prop) (ops : Array Oper) (its : Its) (ks : List Known) (a0 : Act) (w0 : World) (L : Array Bool) (a : Act) (w : World) : Prop where
  head : HeadInv .any ops its.length L
  defers : a.defers = a0.defers
  size : a.tmps.size = a0.tmps.size
  off : ∀ t, (∀ x ∈ its, x.1 ≠ some t) → a.tmps.getD t undef = a0.tmps.getD t undef
  rely : R w0 w
  known : ∀ i x, its[i]? = some x → L.getD i false = true → kat ks i (valAt x.1 a) w

theorem freeOneR_spec {its : Its} {i : Nat} (h : freeOneR ops its i = true) :
    ∃ o d ds, ops[i]? = some o ∧ its[i]? = some (d, ds) ∧ o.guard = none ∧ o.dst = d ∧ (∀ e ∈ o.after, Region.binds .any e = true → e.on < i) ∧
      (∀ x ∈ ds, Region.waitsFor .any ops i x.1 = true ∧ x.1 < its.length ∧ (its[x.1]?).map (·.1) = some (some x.2)) ∧
      (∀ j t es, its[j]? = some (some t, es) → (j = i ∨ d ≠ some t) ∧ ((∃ x ∈ ds, x.1 = j) ∨ t ∉ o.looksAt ops)) := by
  unfold freeOneR at h
  split at h
  · rename_i o d ds ho hi
    simp only [Bool.and_eq_true, List.all_eq_true, Array.all_eq_true_iff_forall_mem, Bool.or_eq_true, Bool.not_eq_true', decide_eq_true_eq, beq_iff_eq, Option.isNone_iff_eq_none] at h
    obtain ⟨⟨⟨⟨h1, h2⟩, h3⟩, h4⟩, h5⟩ := h
    refine ⟨o, d, ds, ho, hi, h1, h2, fun e he hb => ?_, fun x hx => ⟨(h4 x hx).1.1, (h4 x hx).1.2, (h4 x hx).2⟩, fun j t es hj => ?_⟩
    · rcases h3 e he with h | h
      · rw [hb] at h; cases h
      · exact h
    · have hjl : j < its.length := (List.getElem?_eq_some_iff.1 hj).1
      have h6 := h5 j (List.mem_range.2 hjl)
      rw [hj] at h6
      simp only [Bool.and_eq_true, Bool.or_eq_true, beq_iff_eq, bne_iff_ne, List.any_eq_true, Bool.not_eq_true', List.contains_eq_mem, decide_eq_false_iff_not] at h6
      exact h6
  · cases h

theorem wp_carryR {o : Oper} {a b a0 : Act} {d : Option Tmp} {K : Known} {w : World} {next : Act → World → Prop} (hd : o.dst = d) (hg : o.guard = none) (he : execOp a.eval o = execOp b.eval o) (hb : b.defers = a0.defers) (hdb : ∀ t, d = some t → t < b.tmps.size)
    (h : wpList P ops (QStepR R a0 d K w) [o] b w) (hn : ∀ v w', R w w' → K (valAt d (a.put d v)) w' → next (a.put d v) w') (hda : ∀ t, d = some t → t < a.tmps.size) : o.wp P a w next Q := by
  unfold wpList at h
  rw [if_pos (by simp [Region.wanted, hg])] at h
  rcases h with h | ⟨_, _, _, h⟩
  case inr => exact h.elim
  unfold Oper.wp at *
  rw [he]
  have key : ∀ v w', wpList P ops (QStepR R a0 d K w) [] (b.put o.dst v) w' → next (a.put o.dst v) w' := by
    intro v w' h'
    rw [hd] at h' ⊢
    obtain ⟨_, h2, h3⟩ := h'
    refine hn v w' h2 ?_
    have e : valAt d (a.put d v) = valAt d (b.put d v) := by
      cases d with
      | none => rfl
      | some t =>
        show (a.put (some t) v).tmps.getD t undef = (b.put (some t) v).tmps.getD t undef
        rw [put_get (hda t rfl), put_get (hdb t rfl)]
    rw [e]; exact h3
  generalize (execOp b.eval o).run P w = r at h
  cases r with
  | ok n w' =>
    cases n <;> simp only [Oper.upon] at h ⊢
    case value v => exact key v w' h
    case skip => exact key undef w' h
    case defer x =>
      obtain ⟨h1, _⟩ := h
      exfalso
      have h2 : ({ b with defers := x :: b.defers }.put o.dst undef).defers = x :: b.defers := by rw [hd]; cases d <;> rfl
      rw [h2, hb] at h1
      have := congrArg List.length h1
      simp at this
    case enter f args =>
      refine Calls.mono h fun e w'' he => ?_
      cases e with
      | returned u => exact key u w'' he
      | panicked c => exact he.elim
      | outgrown => obtain ⟨_, _, h⟩ := he; exact h.elim
    case row row args => exact Rows.mono h fun u w'' he => key u w'' he
  | halt x w' =>
    cases x <;> simp only [Oper.upon] at h ⊢
    case panic u => exact h.elim

theorem wpAny_freeR (hR : Pre R) {l : List Oper} {its : Its} {a0 : Act} {w0 : World} (hB : freeRB l.toArray its = true) (hsz : ∀ x ∈ its, ∀ t, x.1 = some t → t < a0.tmps.size) (hst : SteadysR R ks)
    (hsteps : FreeStepsR R P l.toArray ks w0 a0 0 its)
    (hend : ∀ w, R w0 w → FreeEndR ks w (fun a => wpList P l.toArray Q (l.drop its.length) a w) 0 its a0) :
    ∀ (m : Nat) (L : Array Bool) (a : Act) (w : World), left L its.length = m → FreeInvR R l.toArray its ks a0 w0 L a w → wpAny P .any l.toArray Q (m + (l.length - its.length)) L a w := by
  simp only [freeRB, Bool.and_eq_true, decide_eq_true_eq, List.all_eq_true, List.mem_range] at hB
  obtain ⟨⟨⟨⟨⟨hsel, hn⟩, hs⟩, hc⟩, hone⟩, hseq⟩ := hB
  have hn' : its.length < l.length := by simpa using hn
  intro m
  induction m with
  | zero =>
    intro L a w hL inv
    have hall := left_zero its.length hL
    have hLe : L = allTrue l.toArray.size its.length := by
      apply Array.ext
      · rw [allTrue_size]; exact inv.head.size
      · intro j hj hj'
        have hj2 : j < l.toArray.size := by rw [allTrue_size] at hj'; exact hj'
        have e1 := allTrue_get l.toArray.size its.length j hj2
        have e2 : L.getD j false = decide (j < its.length) := by
          by_cases hlt : j < its.length
          · rw [hall j hlt]; simp [hlt]
          · rw [getD_both (inv.head.tail j (by omega) hj2)]; simp [hlt]
        have e3 := e2.trans e1.symm
        have e4 : L.getD j false = L[j] := by simp [hj]
        have e5 : (allTrue l.toArray.size its.length).getD j false = (allTrue l.toArray.size its.length)[j] := by simp only [Array.getD_eq_getD_getElem?, Array.getElem?_eq_getElem hj', Option.getD_some]
        rw [← e4, ← e5]
        exact e3
    have hfe := (hend w inv.rely).open (a := a) (fun j x hx => by
      have hlt : j < its.length := (List.getElem?_eq_some_iff.1 hx).1
      rw [Nat.zero_add]
      exact inv.known j x hx (hall j hlt))
    have hae : over a (its.filterMap (·.1)) a0 = a := by
      refine act_ext ?_ ?_ fun t => ?_
      · rw [over_defers, inv.defers]
      · rw [over_size, inv.size]
      · refine over_get a t _ a0 inv.size ?_
        by_cases ht : t ∈ its.filterMap (·.1)
        · exact .inl ht
        · refine .inr (inv.off t fun x hx e => ht (List.mem_filterMap.2 ⟨x, hx, e⟩)).symm
    rw [hae] at hfe
    have hdl : (l.drop its.length).length = l.length - its.length := by simp
    have := wpAny_of_seq (md := .any) (P := P) (Q' := Q) (l.drop its.length) its.length L a w (fun j => by simp [List.getElem?_drop]) (by rw [hdl, hLe]; simpa using hseq) hfe
    rw [hdl] at this
    rw [Nat.zero_add]
    exact this
  | succ m ih =>
    intro L a w hL inv
    obtain ⟨i0, hi0, hf0, hmin⟩ := left_pos (L := L) its.length (by rw [hL]; exact Nat.succ_pos m)
    have hun0 : L.getD i0 true = false := getD_in (by rw [inv.head.size]; exact Nat.lt_trans hi0 hn) hf0
    have hfu : m + 1 + (l.length - its.length) = (m + (l.length - its.length)) + 1 := by clear hL hun0 hf0; omega
    rw [hfu]
    refine ⟨fun hr => ?_, fun i hi => ?_⟩
    · exfalso
      obtain ⟨o, d, ds, ho, _, _, _, haf, _, _⟩ := freeOneR_spec (hone i0 hi0)
      have : i0 ∈ Region.ready .any l.toArray L := mem_ready.2 ⟨hun0, o, ho, fun e he hb => hmin e.on (haf e he hb)⟩
      rw [hr] at this
      cases this
    · have hin : i < its.length := by
        rcases Nat.lt_or_ge i its.length with h | h
        · exact h
        · exact absurd hi (tail_waits hs hc hn inv.head _ i0 rfl hi0 hun0 i h)
      obtain ⟨hun, o', ho', hall⟩ := mem_ready.1 hi
      obtain ⟨o, d, ds, ho, hit, hg, hd, haf, hdeps, hdist⟩ := freeOneR_spec (hone i hin)
      have hoe : o' = o := Option.some.inj (ho'.symm.trans ho)
      subst hoe
      have hlisted : ∀ x ∈ ds, L.getD x.1 false = true := by
        intro x hx
        obtain ⟨o2, ho2, e, he, hb, hon⟩ := Region.waitsFor_spec (hdeps x hx).1
        have : o2 = o' := Option.some.inj (ho2.symm.trans ho)
        subst this
        rw [← hon]
        exact hall e he hb
      have hdk : ∀ x ∈ ds, ∃ y, its[x.1]? = some y ∧ y.1 = some x.2 := by
        intro x hx
        have h3 := (hdeps x hx).2.2
        cases hy : its[x.1]? with
        | none => rw [hy] at h3; cases h3
        | some y => rw [hy] at h3; exact ⟨y, rfl, Option.some.inj h3⟩
      have hst1 := hsteps.at i (d, ds) hit w inv.rely
      rw [Nat.zero_add] at hst1
      obtain ⟨o2, ho2, hwp⟩ := hst1.open (a := a) (fun x hx => by
        obtain ⟨y, hy, hy2⟩ := hdk x hx
        have := inv.known x.1 y hy (hlisted x hx)
        rwa [hy2] at this)
      have hoe2 : o2 = o' := Option.some.inj (ho2.symm.trans ho)
      subst hoe2
      have hsize : ∀ t, d = some t → t < a0.tmps.size := hsz (d, ds) (List.mem_of_getElem? hit)
      have hsame : execOp a.eval o2 = execOp (over a (ds.map (·.2)) a0).eval o2 := by
        refine run_same (ops := l.toArray) (Region.noSelect_spec hsel i o2 · · ho) fun t ht => ?_
        refine (over_get a t _ a0 inv.size ?_).symm
        by_cases htd : t ∈ ds.map (·.2)
        · exact .inl htd
        · refine .inr (inv.off t fun x hx e => ?_).symm
          obtain ⟨j, hj, hjx⟩ := List.getElem_of_mem hx
          have hjs : its[j]? = some x := by rw [← hjx]; exact List.getElem?_eq_getElem hj
          have hjs' : its[j]? = some (some t, x.2) := by rw [hjs, ← e]
          rcases (hdist j t x.2 hjs').2 with ⟨y, hy, hyj⟩ | hno
          · obtain ⟨z, hz, hz2⟩ := hdk y hy
            rw [hyj, hjs] at hz
            have hxz : x = z := Option.some.inj hz
            subst hxz
            exact htd (List.mem_map.2 ⟨y, hy, Option.some.inj (hz2.symm.trans e)⟩)
          · exact hno ht
      unfold wpOp
      simp only [ho]
      rw [if_pos (by simp [Region.wanted, hg])]
      refine .inl (wp_carryR hd hg hsame (by rw [over_defers]) (by intro t ht; rw [over_size]; exact hsize t ht) hwp (fun v w' hbel hk => ?_) (by intro t ht; rw [inv.size]; exact hsize t ht))
      have hLs : i < L.size := by rw [inv.head.size]; exact Nat.lt_trans hin hn
      refine ih (L.setIfInBounds i true) _ w' ?_ ?_
      · have := left_set hLs (getD_both hun) its.length hin
        omega
      · refine ⟨inv.head.set hi hin, by cases d <;> exact inv.defers, by cases d <;> simp [Act.put, inv.size], fun t ht => ?_, hR.trans inv.rely hbel, fun j x hj hl => ?_⟩
        · cases d with
          | none => exact inv.off t ht
          | some d =>
            rw [put_get_ne (fun e => ht (some d, ds) (List.mem_of_getElem? hit) (by rw [e]))]
            exact inv.off t ht
        · by_cases hji : i = j
          · subst hji
            rw [hit] at hj
            cases hj
            exact hk
          · rw [getD_set_ne false hji] at hl
            obtain ⟨xt, xs⟩ := x
            cases xt with
            | none => exact hst.at j _ _ _ (inv.known j _ hj hl) hbel
            | some t =>
              have e : valAt (some t) (a.put d v) = valAt (some t) a := by
                cases d with
                | none => rfl
                | some d =>
                  have hne : d ≠ t := by
                    rcases (hdist j t xs hj).1 with h | h
                    · exact absurd h.symm hji
                    · exact fun e => h (by rw [e])
                  exact put_get_ne hne
              show kat ks j (valAt (some t) (a.put d v)) w'
              rw [e]
              exact hst.at j _ _ _ (inv.known j _ hj hl) hbel

/-- the law: n operations in whatever order, each shown by itself; the rest in turn -/
theorem wp_region_freeR (R : World → World → Prop) (hR : Pre R) {id : Nat} {l : List Oper} {a0 : Act} {w : World} (its : Its) (ks : List Known) (hm : P.follows .mixedOrders = true) (hB : freeRB l.toArray its = true) (hsz : (its.all fun x => x.1.all fun t => decide (t < a0.tmps.size)) = true) (hst : SteadysR R ks)
    (hsteps : FreeStepsR R P l.toArray ks w.drew a0 0 its)
    (hend : ∀ w', R w.drew w' → FreeEndR ks w' (fun a => wpList P l.toArray Q (l.drop its.length) a w') 0 its a0) : (Code.region id l.toArray true).wp P Q a0 w := by
  refine wp_region_any hm ?_
  have hn : its.length < l.length := by
    simp only [freeRB, Bool.and_eq_true, decide_eq_true_eq] at hB
    simpa using hB.1.1.1.1.2
  have hsz' : ∀ x ∈ its, ∀ t, x.1 = some t → t < a0.tmps.size := fun x hx t ht => by
    have := List.all_eq_true.1 hsz x hx
    rw [ht] at this
    simpa using this
  have := wpAny_freeR (Q := Q) hR (w0 := w.drew) hB hsz' hst hsteps hend its.length (Array.replicate l.toArray.size false) a0 w.drew (left_all _ _)
    ⟨⟨by simp, fun j oj _ hl => (by rw [getD_replicate_false] at hl; cases hl), fun t _ ht => getD_in (by simpa using ht) (getD_replicate_false _ _)⟩, rfl, rfl, fun _ _ => rfl, hR.refl _, fun i x _ hl => (by rw [getD_replicate_false] at hl; cases hl)⟩
  rw [show its.length + (l.length - its.length) = l.toArray.size by simp; omega] at this
  exact this
end

section
variable {R : World → World → Prop} {P : Program} {ops : Array Oper} {ks : List Known} {w w0 : World} {a0 a : Act} {i e : Nat} {d : Option Tmp} {t : Tmp} {ds : List (Nat × Tmp)} {its : Its} {body : Act → Prop}
theorem FreeStepsR.nil : FreeStepsR R P ops ks w0 a0 i [] := trivial
theorem FreeStepsR.cons (h1 : ∀ w, R w0 w → FreeStepR R P ops ks w a0 i d ds a0) (h2 : FreeStepsR R P ops ks w0 a0 (i + 1) its) : FreeStepsR R P ops ks w0 a0 i ((d, ds) :: its) := ⟨h1, h2⟩
theorem FreeStepR.is {x : Value} (hk : kat ks e = Is x) (h : FreeStepR R P ops ks w a0 i d ds (a.put (some t) x)) : FreeStepR R P ops ks w a0 i d ((e, t) :: ds) a := fun v hv => by
  rw [hk] at hv; cases hv; exact h
theorem FreeStepR.dep {K : Known} (hk : kat ks e = K) (h : ∀ v, K v w → FreeStepR R P ops ks w a0 i d ds (a.put (some t) v)) : FreeStepR R P ops ks w a0 i d ((e, t) :: ds) a := fun v hv => h v (hk ▸ hv)
theorem FreeEndR.is {x : Value} (hk : kat ks i = Is x) (h : FreeEndR ks w body (i + 1) its (a.put d x)) : FreeEndR ks w body i ((d, ds) :: its) a := fun v hv => by
  rw [hk] at hv; cases hv; exact h
theorem FreeEndR.cons {K : Known} (hk : kat ks i = K) (h : ∀ v, K v w → FreeEndR ks w body (i + 1) its (a.put d v)) : FreeEndR ks w body i ((d, ds) :: its) a := fun v hv => h v (hk ▸ hv)
theorem FreeEndR.nil (h : body a) : FreeEndR ks w body i [] a := h
theorem FreeStepR.op {o : Oper} {K : Known} (ho : ops[i]? = some o) (hk : kat ks i = K) (h : wpList P ops (QStepR R a0 d K w) [o] a w) : FreeStepR R P ops ks w a0 i d [] a := ⟨o, ho, hk ▸ h⟩
theorem FreeStepR.det (hR : Pre R) {o : Oper} {x : Value} (ho : ops[i]? = some o) (hg : o.guard = none) (hd : o.dst = some t) (hs : decide (t < a.tmps.size) = true) (hf : a.defers = a0.defers) (hk : kat ks i = Is x)
    (hrun : (execOp a.eval o).run P w = .ok (.value x) w) : FreeStepR R P ops ks w a0 i (some t) [] a := by
  refine FreeStepR.op ho hk (wpList_plain hg fun K hK => ?_)
  unfold Oper.wp
  rw [hrun]
  refine hK _ _ ?_
  show QStepR _ _ _ _ _ _ _ _
  refine ⟨by rw [hd]; exact hf, hR.refl _, ?_⟩
  rw [hd]
  exact put_get (by simpa using hs)
theorem FreeStepR.load_part (hR : Pre R) {o : Oper} {x : Value} (ty : TypeId) (p : Operand) (ho : ops[i]? = some o) (hop : o.op = .load ty p) (hg : o.guard = none) (hd : o.dst = some t) (hs : decide (t < a.tmps.size) = true) (hf : a.defers = a0.defers) (hk : kat ks i = Is x)
    (g off n : Nat) (hx : a.eval p = .pointer (some ⟨g, off, none⟩)) (cs : Array Value) (bt : TypeId) (td : TypeDesc) (hb : Bk w g cs bt) (hu : P.underlying ty = some td) (hda : aggD td = true) (hi : (P.info? ty).map (·.size) = some n) (hn : off + n ≤ cs.size)
    (v : Array Value) (hv : cs.extract off (off + n) = v) (hxv : x = .agg v) : FreeStepR R P ops ks w a0 i (some t) [] a := by
  refine FreeStepR.det hR ho hg hd hs hf hk ?_
  unfold execOp
  simp only [hop, hx, Instr.loadAt, Instr.sureAddr, Sem.run_bind, Sem.run_pure, Result.andThen_ok, run_loadVar_part hb hu hda hi hn, hv, hxv]
/-- the step is a call of a Go function -/
theorem FreeStepR.call {o : Oper} {K : Known} {f : FuncId} {vs : Array Value} {post : Ending → World → Prop} (ho : ops[i]? = some o) (hg : o.guard = none) (hd : o.dst = some t) (hs : decide (t < a.tmps.size) = true) (hf : a.defers = a0.defers) (hk : kat ks i = K)
    (hrun : (execOp a.eval o).run P w = .ok (.enter f vs) w) (hc : Calls P f vs w post) (hp : ∀ e w', post e w' → ∃ v, e = .returned v ∧ R w w' ∧ K v w') : FreeStepR R P ops ks w a0 i (some t) [] a := by
  refine FreeStepR.op ho hk (wpList_plain hg fun K' hK => ?_)
  unfold Oper.wp
  rw [hrun]
  refine Calls.mono hc fun e w' he => ?_
  obtain ⟨v, rfl, hb, hv⟩ := hp e w' he
  refine hK _ _ ?_
  show QStepR _ _ _ _ _ _ _ _
  refine ⟨by rw [hd]; exact hf, hb, ?_⟩
  have e : valAt (some t) (a.put o.dst v) = v := by rw [hd]; exact put_get (by simpa using hs)
  rw [e]
  exact hv
/-- the step lays a value into a known variable, whole -/
theorem FreeStepR.store {o : Oper} {K : Known} (ty : TypeId) (p y : Operand) (ho : ops[i]? = some o) (hop : o.op = .store ty p y) (hg : o.guard = none) (hd : o.dst = none) (hf : a.defers = a0.defers) (hk : kat ks i = K)
    (g n : Nat) (hx : a.eval p = .pointer (some ⟨g, 0, none⟩)) (v : Value) (hy : a.eval y = v) (cs : Array Value) (t : TypeId) (hb : Bk w g cs t) (hi : (P.info? ty).map (·.size) = some n) (hvn : v.cells.size = n) (hn : n = cs.size) (h1 : ∀ u ∈ v.cells.toList, u.oneCell' = true)
    (h : ∀ w', Bk w' g v.cells t → w.grownBy w' (some g) → w'.heap.size = w.heap.size → R w w' ∧ K undef w') : FreeStepR R P ops ks w a0 i none [] a := by
  refine FreeStepR.op ho hk ?_
  refine wpList_store_bk (by simp [Region.wanted, hg]) ty p y hop g hx v hy cs t hb (by rw [hi, hvn]) (by omega) h1 fun w' h2 h3 h4 => ?_
  show QStepR _ _ _ _ _ _ _ _
  rw [hd]
  exact ⟨hf, (h w' h2 h3 h4).1, (h w' h2 h3 h4).2⟩
end
theorem QStepR.mk {R : World → World → Prop} {a0 a' : Act} {d : Option Tmp} {K : Known} {w w' : World} (h1 : a'.defers = a0.defers) (h2 : R w w') (h3 : K (valAt d a') w') : QStepR R a0 d K w .normal a' w' := ⟨h1, h2, h3⟩

def Sized (w : World) (b n : Nat) (T : TypeId) : Prop := ∃ Y, Bk w b Y T ∧ Y.size = n
/-- nothing else changes than block b; it keeps its size; once it is X it stays X -/
structure RBk (b n : Nat) (X : Array Value) (T : TypeId) (w w' : World) : Prop where
  os : w'.os = w.os
  tape : w'.tape = w.tape
  output : w'.output = w.output
  size : w.heap.size ≤ w'.heap.size
  block : ∀ k, k < w.heap.size → k ≠ b → w'.heap[k]? = w.heap[k]?
  sized : Sized w b n T → Sized w' b n T
  keep : Bk w b X T → Bk w' b X T
namespace RBk
variable {b n : Nat} {X : Array Value} {T : TypeId} {w w' : World}
theorem pre (b n : Nat) (X : Array Value) (T : TypeId) : Pre (RBk b n X T) :=
  ⟨fun _ => ⟨rfl, rfl, rfl, Nat.le_refl _, fun _ _ _ => rfl, id, id⟩, fun h h' => ⟨h'.os.trans h.os, h'.tape.trans h.tape, h'.output.trans h.output, Nat.le_trans h.size h'.size,
    fun k hk hn => (h'.block k (Nat.lt_of_lt_of_le hk h.size) hn).trans (h.block k hk hn), fun hs => h'.sized (h.sized hs), fun hb => h'.keep (h.keep hb)⟩⟩
theorem of_below (h : Below w.heap.size w w') : RBk b n X T w w' :=
  ⟨h.os, h.tape, h.output, h.size, fun k hk _ => h.block k hk, fun ⟨Y, hY, hs⟩ => ⟨Y, hY.below h hY.lt, hs⟩, fun hb => hb.below h hb.lt⟩
theorem of_store (hk : Bk w' b X T) (hX : X.size = n) (hg : w.grownBy w' (some b)) : RBk b n X T w w' :=
  ⟨hg.os, hg.tape, hg.output, hg.size, fun k hk hn => hg.block k hk (fun e => hn (by simpa using e)), fun _ => ⟨X, hk, hX⟩, fun _ => hk⟩
theorem bk {b' : Nat} {cs : Array Value} {t : TypeId} (h : RBk b n X T w w') (hk : Bk w b' cs t) (hne : b' ≠ b) : Bk w' b' cs t := (h.block b' hk.lt hne).trans hk
theorem below {B : Nat} {w0 : World} (h : RBk b n X T w w') (hb : Below B w0 w) (hB : B ≤ b) (hBs : B ≤ w.heap.size) : Below B w0 w' :=
  ⟨h.os.trans hb.os, h.tape.trans hb.tape, h.output.trans hb.output, Nat.le_trans hb.size h.size, fun k hk => (h.block k (by omega) (by omega)).trans (hb.block k hk)⟩
end RBk
def BkK (b : Nat) (X : Array Value) (T : TypeId) : Known := fun _ w => Bk w b X T
theorem BkK.steady (b n : Nat) (X : Array Value) (T : TypeId) : SteadyR (RBk b n X T) (BkK b X T) := fun _ _ _ h hr => hr.keep h
/-- the store of a value into a variable of its own size, whatever lies there -/
theorem FreeStepR.fill {P : Program} {ops : Array Oper} {ks : List Known} {w : World} {a0 a : Act} {i : Nat} {o : Oper} (ty : TypeId) (p y : Operand) (ho : ops[i]? = some o) (hop : o.op = .store ty p y) (hg : o.guard = none) (hd : o.dst = none) (hf : a.defers = a0.defers)
    (b n : Nat) (hx : a.eval p = .pointer (some ⟨b, 0, none⟩)) (X : Array Value) (hy : a.eval y = .agg X) (T : TypeId) (hs : Sized w b n T) (hi : (P.info? ty).map (·.size) = some n) (hX : X.size = n) (h1 : ∀ u ∈ X.toList, u.oneCell' = true) (hk : kat ks i = BkK b X T) : FreeStepR (RBk b n X T) P ops ks w a0 i none [] a := by
  obtain ⟨Y, hY, hn⟩ := hs
  exact FreeStepR.store ty p y ho hop hg hd hf hk b n hx (.agg X) hy Y T hY hi hX hn.symm h1 fun w' h2 h3 _ => ⟨RBk.of_store h2 hX h3, h2⟩
end Go.Proofs.Ytnfffipkgaobhaa

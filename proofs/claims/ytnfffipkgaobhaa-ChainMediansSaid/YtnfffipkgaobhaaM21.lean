/-
  A region that draws its order, with guards, in which several operations make new memory: the law of XFreeG, and that what these make lies apart. No condition: lemmas over any program.
  A region that draws its order, by an invariant over what has been done; two variables made at once out of two parts of one. No condition: lemmas over any program.
-/
import Derived.Test.YtnfffipkgaobhaaM20
import Derived.Test.YtnfffipkgaobhaaM04
import Derived.Test.YtnfffipkgaobhaaM05
namespace Go.Proofs.Ytnfffipkgaobhaa
set_option linter.unusedSimpArgs false
set_option linter.unusedVariables false
open Go.RowKit

/-- a pointer to new memory -/
def NewAt (w : World) (v : Value) (w' : World) : Prop := ∃ g, v = .pointer (some ⟨g, 0, none⟩) ∧ w.heap.size ≤ g ∧ g < w'.heap.size
def katF (ks : List Known) (fs : List Nat) (w : World) (i : Nat) : Known := fun v w' => kat ks i v w' ∧ (i ∈ fs → NewAt w v w')
section
variable (P : Program) (ops : Array Oper) (ks : List Known) (fs : List Nat)
def FreeStepF (w : World) (a0 : Act) (i : Nat) (d : Tmp) : List (Nat × Tmp) → Act → Prop
  | [], a => ∃ o, ops[i]? = some o ∧ wpList P ops (QStep a0 d (katF ks fs w i) w) [o] a w
  | (e, t) :: ds, a => ∀ v, kat ks e v w → FreeStepF w a0 i d ds (a.put (some t) v)
def FreeStepsF (w0 : World) (a0 : Act) : Nat → List (Tmp × List (Nat × Tmp)) → Prop
  | _, [] => True
  | i, (t, ds) :: xs => (∀ w, Below w0.heap.size w0 w → FreeStepF P ops ks fs w a0 i t ds a0) ∧ FreeStepsF w0 a0 (i + 1) xs
end
/-- what the operations fs have made lies apart -/
def ApartF (its : List (Tmp × List (Nat × Tmp))) (fs : List Nat) (a : Act) : Prop :=
  ∀ i j x y gi gj, i ∈ fs → j ∈ fs → i ≠ j → its[i]? = some x → its[j]? = some y → a.tmps.getD x.1 undef = .pointer (some ⟨gi, 0, none⟩) → a.tmps.getD y.1 undef = .pointer (some ⟨gj, 0, none⟩) → gi ≠ gj
section
variable {P : Program} {ops : Array Oper} {ks : List Known} {fs : List Nat} {Q : Exit → Act → World → Prop}
theorem FreeStepF.open {w : World} {a0 a : Act} {i : Nat} {d : Tmp} : ∀ {ds : List (Nat × Tmp)} {b : Act}, FreeStepF P ops ks fs w a0 i d ds b → (∀ x ∈ ds, kat ks x.1 (a.tmps.getD x.2 undef) w) →
    ∃ o, ops[i]? = some o ∧ wpList P ops (QStep a0 d (katF ks fs w i) w) [o] (over a (ds.map (·.2)) b) w
  | [], _, h, _ => h
  | (e, t) :: ds, b, h, hk => FreeStepF.open (ds := ds) (h _ (hk (e, t) (List.mem_cons_self ..))) (fun x hx => hk x (List.mem_cons_of_mem _ hx))
theorem FreeStepsF.at {w0 : World} {a0 : Act} : ∀ {its : List (Tmp × List (Nat × Tmp))} {k : Nat}, FreeStepsF P ops ks fs w0 a0 k its → ∀ j x, its[j]? = some x → ∀ w, Below w0.heap.size w0 w → FreeStepF P ops ks fs w a0 (k + j) x.1 x.2 a0
  | [], _, _, _, _, h => by cases h
  | (t, ds) :: its, k, h, 0, x, hx => by cases hx; exact h.1
  | (t, ds) :: its, k, h, j + 1, x, hx => by
    have := FreeStepsF.at (its := its) h.2 j x (by simpa using hx)
    rwa [show k + 1 + j = k + (j + 1) by omega] at this

structure FreeInvF (ops : Array Oper) (its : List (Tmp × List (Nat × Tmp))) (ks : List Known) (fs : List Nat) (a0 : Act) (w0 : World) (L : Array Bool) (a : Act) (w : World) : Prop where
  head : HeadInv .any ops its.length L
  defers : a.defers = a0.defers
  size : a.tmps.size = a0.tmps.size
  off : ∀ t, (∀ x ∈ its, x.1 ≠ t) → a.tmps.getD t undef = a0.tmps.getD t undef
  rely : Below w0.heap.size w0 w
  known : ∀ i x, its[i]? = some x → L.getD i false = true → kat ks i (a.tmps.getD x.1 undef) w
  fresh : ∀ i x, i ∈ fs → its[i]? = some x → L.getD i false = true → ∃ g, a.tmps.getD x.1 undef = .pointer (some ⟨g, 0, none⟩) ∧ g < w.heap.size
  apart : ∀ i j x y gi gj, i ∈ fs → j ∈ fs → i ≠ j → its[i]? = some x → its[j]? = some y → L.getD i false = true → L.getD j false = true → a.tmps.getD x.1 undef = .pointer (some ⟨gi, 0, none⟩) → a.tmps.getD y.1 undef = .pointer (some ⟨gj, 0, none⟩) → gi ≠ gj
theorem wpAny_freeF {l : List Oper} {its : List (Tmp × List (Nat × Tmp))} {a0 : Act} {w0 : World} (hB : freeBG l.toArray its = true) (hsz : ∀ x ∈ its, x.1 < a0.tmps.size) (hst : Steadys ks)
    (hsteps : FreeStepsF P l.toArray ks fs w0 a0 0 its)
    (hend : ∀ w, Below w0.heap.size w0 w → FreeEnd ks w (fun a => ApartF its fs a → wpList P l.toArray Q (l.drop its.length) a w) 0 its a0) :
    ∀ (m : Nat) (L : Array Bool) (a : Act) (w : World), left L its.length = m → FreeInvF l.toArray its ks fs a0 w0 L a w → wpAny P .any l.toArray Q (m + (l.length - its.length)) L a w := by
  simp only [freeBG, Bool.and_eq_true, decide_eq_true_eq, List.all_eq_true, List.mem_range] at hB
  obtain ⟨⟨⟨⟨⟨hsel, hn⟩, hs⟩, hc⟩, hone⟩, hseq⟩ := hB
  have hn' : its.length < l.length := by simpa using hn
  intro m
  induction m with
  | zero =>
    intro L a w hL inv
    have hall := left_zero its.length hL
    have hLe : L = allTrue l.toArray.size its.length := by
      apply Array.ext
      · rw [allTrue_size]; exact inv.head.size
      · intro j hj hj'
        have hj2 : j < l.toArray.size := by rw [allTrue_size] at hj'; exact hj'
        have e1 := allTrue_get l.toArray.size its.length j hj2
        have e2 : L.getD j false = decide (j < its.length) := by
          by_cases hlt : j < its.length
          · rw [hall j hlt]; simp [hlt]
          · rw [getD_both (inv.head.tail j (by omega) hj2)]; simp [hlt]
        have e3 := e2.trans e1.symm
        have e4 : L.getD j false = L[j] := by simp [hj]
        have e5 : (allTrue l.toArray.size its.length).getD j false = (allTrue l.toArray.size its.length)[j] := by simp only [Array.getD_eq_getD_getElem?, Array.getElem?_eq_getElem hj', Option.getD_some]
        rw [← e4, ← e5]
        exact e3
    have hfe := (hend w inv.rely).open (a := a) (fun j x hx => by
      have hlt : j < its.length := (List.getElem?_eq_some_iff.1 hx).1
      rw [Nat.zero_add]
      exact inv.known j x hx (hall j hlt))
    have hae : over a (its.map (·.1)) a0 = a := by
      refine act_ext ?_ ?_ fun t => ?_
      · rw [over_defers, inv.defers]
      · rw [over_size, inv.size]
      · refine over_get a t _ a0 inv.size ?_
        by_cases ht : t ∈ its.map (·.1)
        · exact .inl ht
        · refine .inr (inv.off t fun x hx e => ht (List.mem_map.2 ⟨x, hx, e⟩)).symm
    rw [hae] at hfe
    have hfe := hfe (fun i j x y gi gj hi hj hij hx hy h1 h2 => inv.apart i j x y gi gj hi hj hij hx hy (hall i (List.getElem?_eq_some_iff.1 hx).1) (hall j (List.getElem?_eq_some_iff.1 hy).1) h1 h2)
    have hdl : (l.drop its.length).length = l.length - its.length := by simp
    have := wpAny_of_seq (md := .any) (P := P) (Q' := Q) (l.drop its.length) its.length L a w (fun j => by simp [List.getElem?_drop]) (by rw [hdl, hLe]; simpa using hseq) hfe
    rw [hdl] at this
    rw [Nat.zero_add]
    exact this
  | succ m ih =>
    intro L a w hL inv
    obtain ⟨i0, hi0, hf0, hmin⟩ := left_pos (L := L) its.length (by rw [hL]; exact Nat.succ_pos m)
    have hun0 : L.getD i0 true = false := getD_in (by rw [inv.head.size]; exact Nat.lt_trans hi0 hn) hf0
    have hfu : m + 1 + (l.length - its.length) = (m + (l.length - its.length)) + 1 := by clear hL hun0 hf0; omega
    rw [hfu]
    refine ⟨fun hr => ?_, fun i hi => ?_⟩
    · exfalso
      obtain ⟨o, d, ds, ho, _, _, haf, _, _⟩ := freeOneG_spec (hone i0 hi0)
      have : i0 ∈ Region.ready .any l.toArray L := mem_ready.2 ⟨hun0, o, ho, fun e he hb => hmin e.on (haf e he hb)⟩
      rw [hr] at this
      cases this
    · have hin : i < its.length := by
        rcases Nat.lt_or_ge i its.length with h | h
        · exact h
        · exact absurd hi (tail_waits hs hc hn inv.head _ i0 rfl hi0 hun0 i h)
      obtain ⟨hun, o', ho', hall⟩ := mem_ready.1 hi
      obtain ⟨o, d, ds, ho, hit, hd, haf, hdeps, hdist⟩ := freeOneG_spec (hone i hin)
      have hoe : o' = o := Option.some.inj (ho'.symm.trans ho)
      subst hoe
      have hlisted : ∀ x ∈ ds, L.getD x.1 false = true := by
        intro x hx
        obtain ⟨o2, ho2, e, he, hb, hon⟩ := Region.waitsFor_spec (hdeps x hx).1
        have : o2 = o' := Option.some.inj (ho2.symm.trans ho)
        subst this
        rw [← hon]
        exact hall e he hb
      have hdk : ∀ x ∈ ds, ∃ y, its[x.1]? = some y ∧ y.1 = x.2 := by
        intro x hx
        have h3 := (hdeps x hx).2.2
        cases hy : its[x.1]? with
        | none => rw [hy] at h3; cases h3
        | some y => rw [hy] at h3; exact ⟨y, rfl, Option.some.inj h3⟩
      have hst1 := hsteps.at i (d, ds) hit w inv.rely
      rw [Nat.zero_add] at hst1
      obtain ⟨o2, ho2, hwp⟩ := hst1.open (a := a) (fun x hx => by
        obtain ⟨y, hy, hy2⟩ := hdk x hx
        have := inv.known x.1 y hy (hlisted x hx)
        rwa [hy2] at this)
      have hoe2 : o2 = o' := Option.some.inj (ho2.symm.trans ho)
      subst hoe2
      have hsize : d < a0.tmps.size := hsz (d, ds) (List.mem_of_getElem? hit)
      have hlook : ∀ t ∈ o2.looksAt l.toArray, a.tmps.getD t undef = (over a (ds.map (·.2)) a0).tmps.getD t undef := by
        intro t ht
        refine (over_get a t _ a0 inv.size ?_).symm
        by_cases htd : t ∈ ds.map (·.2)
        · exact .inl htd
        · refine .inr (inv.off t fun x hx e => ?_).symm
          obtain ⟨j, hj, hjx⟩ := List.getElem_of_mem hx
          have hjs : its[j]? = some x := by rw [← hjx]; exact List.getElem?_eq_getElem hj
          rcases (hdist j x.1 x.2 hjs).2 with ⟨y, hy, hyj⟩ | hno
          · obtain ⟨z, hz, hz2⟩ := hdk y hy
            rw [hyj, hjs] at hz
            have : x = z := Option.some.inj hz
            subst this
            exact htd (List.mem_map.2 ⟨y, hy, by rw [← hz2, e]⟩)
          · rw [e] at hno
            exact hno ht
      have hsame : execOp a.eval o2 = execOp (over a (ds.map (·.2)) a0).eval o2 := run_same (ops := l.toArray) (Region.noSelect_spec hsel i o2 · · ho) hlook
      unfold wpOp
      simp only [ho]
      refine wp_carryG hd (wanted_same (by rw [over_size]; exact inv.size) hlook) hsame (by rw [over_defers]) (by rw [over_size]; exact hsize) hwp fun v w' hbel hkk => ?_
      obtain ⟨hk, hnew⟩ := hkk
      have hLs : i < L.size := by rw [inv.head.size]; exact Nat.lt_trans hin hn
      refine ih (L.setIfInBounds i true) _ w' ?_ ?_
      · have := left_set hLs (getD_both hun) its.length hin
        omega
      · have hkeep : ∀ j x, its[j]? = some x → j ≠ i → (a.put (some d) v).tmps.getD x.1 undef = a.tmps.getD x.1 undef := by
          intro j x hj hji
          have hne : x.1 ≠ d := by
            rcases (hdist j x.1 x.2 hj).1 with h | h
            · exact absurd h hji
            · exact h
          exact put_get_ne (fun e => hne e.symm)
        have hself : (a.put (some d) v).tmps.getD d undef = v := put_get (by rw [inv.size]; exact hsize)
        refine ⟨inv.head.set hi hin, inv.defers, by simp [Act.put, inv.size], fun t ht => ?_, inv.rely.trans (hbel.mono inv.rely.size), fun j x hj hl => ?_, fun j x hjf hj hl => ?_, fun j k x y gj gk hjf hkf hjk hj hk2 hlj hlk e1 e2 => ?_⟩
        · rw [put_get_ne (ht (d, ds) (List.mem_of_getElem? hit))]
          exact inv.off t ht
        · by_cases hji : j = i
          · subst hji
            rw [hit] at hj
            cases hj
            rw [hself]
            exact hk
          · rw [getD_set_ne false (fun e => hji e.symm)] at hl
            rw [hkeep j x hj hji]
            exact hst.at j _ _ _ (inv.known j x hj hl) hbel
        · by_cases hji : j = i
          · subst hji
            rw [hit] at hj
            cases hj
            rw [hself]
            obtain ⟨g, hg, _, hlt⟩ := hnew hjf
            exact ⟨g, hg, hlt⟩
          · rw [getD_set_ne false (fun e => hji e.symm)] at hl
            rw [hkeep j x hj hji]
            obtain ⟨g, hg, hlt⟩ := inv.fresh j x hjf hj hl
            exact ⟨g, hg, Nat.lt_of_lt_of_le hlt hbel.size⟩
        · by_cases hji : j = i
          · have hki : k ≠ i := fun e => hjk (hji.trans e.symm)
            rw [getD_set_ne false (fun e => hki e.symm)] at hlk
            rw [hkeep k y hk2 hki] at e2
            obtain ⟨g, hg, hlt⟩ := inv.fresh k y hkf hk2 hlk
            rw [hg] at e2
            subst hji
            rw [hit] at hj
            cases hj
            rw [hself] at e1
            obtain ⟨g', hg', hle, _⟩ := hnew hjf
            rw [hg'] at e1
            injection e1 with e1; injection e1 with e1; injection e1 with e1
            injection e2 with e2; injection e2 with e2; injection e2 with e2
            omega
          · rw [getD_set_ne false (fun e => hji e.symm)] at hlj
            rw [hkeep j x hj hji] at e1
            by_cases hki : k = i
            · obtain ⟨g, hg, hlt⟩ := inv.fresh j x hjf hj hlj
              rw [hg] at e1
              subst hki
              rw [hit] at hk2
              cases hk2
              rw [hself] at e2
              obtain ⟨g', hg', hle, _⟩ := hnew hkf
              rw [hg'] at e2
              injection e1 with e1; injection e1 with e1; injection e1 with e1
              injection e2 with e2; injection e2 with e2; injection e2 with e2
              omega
            · rw [getD_set_ne false (fun e => hki e.symm)] at hlk
              rw [hkeep k y hk2 hki] at e2
              exact inv.apart j k x y gj gk hjf hkf hjk hj hk2 hlj hlk e1 e2

/-- the law: n operations in whatever order, each shown by itself; the rest in turn -/
theorem wp_region_freeF {id : Nat} {l : List Oper} {a0 : Act} {w : World} (its : List (Tmp × List (Nat × Tmp))) (ks : List Known) (fs : List Nat) (hm : P.follows .mixedOrders = true) (hB : freeBG l.toArray its = true) (hsz : (its.all fun x => decide (x.1 < a0.tmps.size)) = true) (hst : Steadys ks)
    (hsteps : FreeStepsF P l.toArray ks fs w.drew a0 0 its)
    (hend : ∀ w', Below w.heap.size w.drew w' → FreeEnd ks w' (fun a => ApartF its fs a → wpList P l.toArray Q (l.drop its.length) a w') 0 its a0) : (Code.region id l.toArray true).wp P Q a0 w := by
  refine wp_region_any hm ?_
  have hn : its.length < l.length := by
    simp only [freeBG, Bool.and_eq_true, decide_eq_true_eq] at hB
    simpa using hB.1.1.1.1.2
  have hsz' : ∀ x ∈ its, x.1 < a0.tmps.size := fun x hx => by simpa using List.all_eq_true.1 hsz x hx
  have := wpAny_freeF (Q := Q) (w0 := w.drew) hB hsz' hst hsteps hend its.length (Array.replicate l.toArray.size false) a0 w.drew (left_all _ _)
    ⟨⟨by simp, fun j oj _ hl => (by rw [getD_replicate_false] at hl; cases hl), fun t _ ht => getD_in (by simpa using ht) (getD_replicate_false _ _)⟩, rfl, rfl, fun _ _ => rfl, Below.refl _ _, fun i x _ hl => (by rw [getD_replicate_false] at hl; cases hl), fun i x _ _ hl => (by rw [getD_replicate_false] at hl; cases hl), fun i j x y gi gj _ _ _ _ _ hl => (by rw [getD_replicate_false] at hl; cases hl)⟩
  rw [show its.length + (l.length - its.length) = l.toArray.size by simp; omega] at this
  exact this
end
section
variable {P : Program} {ops : Array Oper} {ks : List Known} {fs : List Nat} {w w0 : World} {a0 a : Act} {i : Nat} {d : Tmp} {its : List (Tmp × List (Nat × Tmp))} {ds : List (Nat × Tmp)} {e : Nat} {t : Tmp}
theorem FreeStepsF.nil : FreeStepsF P ops ks fs w0 a0 i [] := trivial
theorem FreeStepsF.cons (h1 : ∀ w, Below w0.heap.size w0 w → FreeStepF P ops ks fs w a0 i t ds a0) (h2 : FreeStepsF P ops ks fs w0 a0 (i + 1) its) : FreeStepsF P ops ks fs w0 a0 i ((t, ds) :: its) := ⟨h1, h2⟩
/-- an operation that makes no memory of its own: as before -/
theorem FreeStepF.of : ∀ {ds : List (Nat × Tmp)} {a : Act}, (hn : ¬ i ∈ fs) → FreeStep P ops ks w a0 i d ds a → FreeStepF P ops ks fs w a0 i d ds a
  | [], a, hn, h => by
    obtain ⟨o, ho, h⟩ := h
    refine ⟨o, ho, ?_⟩
    have e : katF ks fs w i = kat ks i := by
      funext v w'
      exact propext ⟨fun h => h.1, fun h => ⟨h, fun hi => absurd hi hn⟩⟩
    rw [e]
    exact h
  | (e, t) :: ds, a, hn, h => fun v hv => FreeStepF.of (ds := ds) hn (h v hv)
/-- a variable is made -/
theorem FreeStepF.alloc {o : Oper} {K : Known} (ty : TypeId) (z : Value) (ho : ops[i]? = some o) (hop : o.op = .alloc ty) (hg : o.guard = none) (hd : o.dst = some d) (hs : decide (d < a.tmps.size) = true) (hf : a.defers = a0.defers) (hz : (P.info? ty).bind (·.zero) = some z) (hk : kat ks i = K)
    (h : ∀ g w', Bk w' g z.cells ty → Below w.heap.size w w' → w.heap.size ≤ g → g < w'.heap.size → K (.pointer (some ⟨g, 0, none⟩)) w') : FreeStepF P ops ks fs w a0 i d [] a := by
  refine ⟨o, ho, ?_⟩
  refine wpList_alloc_bk hg ty hop z hz fun g w' h1 h2 h3 h4 => ?_
  show QStep _ _ _ _ _ _ _
  have hsd : d < a.tmps.size := by simpa using hs
  refine ⟨by rw [hd]; exact hf, h2, ?_⟩
  rw [hd, put_get hsd]
  exact ⟨hk ▸ h g w' h1 h2 (by omega) (by omega), fun _ => ⟨g, rfl, by omega, by omega⟩⟩
end
end Go.Proofs.Ytnfffipkgaobhaa
namespace Go.Proofs.Ytnfffipkgaobhaa
set_option linter.unusedSimpArgs false
set_option linter.unusedVariables false
open Go.RowKit

def StepI (K : Act → World → Prop) : Exit → Act → World → Prop
  | .normal, a, w => K a w
  | _, _, _ => False
def acyc (ops : Array Oper) : Bool := (List.range ops.size).all fun i => match ops[i]? with | some o => o.after.all (fun e => !Region.binds .any e || decide (e.on < i)) | none => false
section
variable {P : Program} {ops : Array Oper} {Q : Exit → Act → World → Prop}
theorem wpOp_of {i : Nat} {o : Oper} {K : Act → World → Prop} {a : Act} {w : World} (ho : ops[i]? = some o) (h : wpList P ops (StepI K) [o] a w) : wpOp P ops Q i K a w := by
  unfold wpOp
  simp only [ho]
  unfold wpList at h
  by_cases hwt : Region.wanted o (yielded ops a.tmps) = true
  case neg =>
    rw [if_neg hwt] at h ⊢
    exact h
  rw [if_pos hwt] at h ⊢
  rcases h with h | ⟨_, _, _, h⟩
  case inr => exact h.elim
  left
  unfold Oper.wp at *
  generalize (execOp a.eval o).run P w = r at h
  cases r with
  | ok n w' =>
    cases n <;> simp only [Oper.upon] at h ⊢
    case value v => exact h
    case skip => exact h
    case defer x => exact h
    case enter f args =>
      refine Calls.mono h fun e w'' he => ?_
      cases e with
      | returned u => exact he
      | panicked c => exact he.elim
      | outgrown => obtain ⟨_, _, h⟩ := he; exact h.elim
    case row row args => exact Rows.mono h fun u w'' he => he
  | halt x w' =>
    cases x <;> simp only [Oper.upon] at h ⊢
    case panic u => exact h.elim
theorem wpOp_mono {i : Nat} {K K' : Act → World → Prop} {a : Act} {w : World} (hk : ∀ a w, K a w → K' a w) (h : wpOp P ops Q i K a w) : wpOp P ops Q i K' a w := by
  unfold wpOp at *
  cases ho : ops[i]? with
  | none => rw [ho] at h; exact hk _ _ h
  | some o =>
    rw [ho] at h
    simp only at h ⊢
    by_cases hwt : Region.wanted o (yielded ops a.tmps) = true
    · rw [if_pos hwt] at h ⊢
      exact h.imp (fun h => Oper.wp_mono hk h) id
    · rw [if_neg hwt] at h ⊢
      exact hk _ _ h
theorem wpAny_inv (hac : acyc ops = true) (I : Array Bool → Act → World → Prop)
    (hstep : ∀ L a w i o, L.size = ops.size → I L a w → L.getD i true = false → ops[i]? = some o → (∀ e ∈ o.after, Region.binds .any e = true → L.getD e.on false = true) → wpList P ops (StepI (I (L.setIfInBounds i true))) [o] a w)
    (hend : ∀ L a w, I L a w → (∀ i, i < ops.size → L.getD i false = true) → Q .normal a w) :
    ∀ (m : Nat) (L : Array Bool) (a : Act) (w : World), left L ops.size = m → L.size = ops.size → I L a w → wpAny P .any ops Q m L a w := by
  intro m
  induction m with
  | zero =>
    intro L a w hL hs hI
    have hall := left_zero ops.size hL
    refine ⟨?_, hend L a w hI hall⟩
    apply List.eq_nil_iff_forall_not_mem.2
    intro j hj
    obtain ⟨h1, o, ho, _⟩ := mem_ready.1 hj
    have hjl : j < ops.size := (Array.getElem?_eq_some_iff.1 ho).1
    have h2 := hall j hjl
    rw [getD_both h1] at h2
    cases h2
  | succ m ih =>
    intro L a w hL hs hI
    refine ⟨fun hr => ?_, fun i hi => ?_⟩
    · exfalso
      obtain ⟨i0, hi0, hf0, hmin⟩ := left_pos (L := L) ops.size (by rw [hL]; exact Nat.succ_pos m)
      have hun0 : L.getD i0 true = false := getD_in (by rw [hs]; exact hi0) hf0
      unfold acyc at hac
      have h1 := List.all_eq_true.1 hac i0 (List.mem_range.2 hi0)
      have ho : ops[i0]? = some ops[i0] := Array.getElem?_eq_getElem hi0
      rw [ho] at h1
      simp only [Array.all_eq_true_iff_forall_mem, Bool.or_eq_true, Bool.not_eq_true', decide_eq_true_eq] at h1
      have hm : i0 ∈ Region.ready .any ops L := mem_ready.2 ⟨hun0, _, ho, fun e he hb => hmin e.on (by
        rcases h1 e he with h | h
        · rw [hb] at h; cases h
        · exact h)⟩
      rw [hr] at hm
      cases hm
    · obtain ⟨hun, o, ho, haf⟩ := mem_ready.1 hi
      have hil : i < ops.size := (Array.getElem?_eq_some_iff.1 ho).1
      refine wpOp_mono (fun a' w' h => ?_) (wpOp_of ho (hstep L a w i o hs hI hun ho haf))
      refine ih _ a' w' ?_ (by simp [hs]) h
      have := left_set (L := L) (i := i) (by rw [hs]; exact hil) (getD_both hun) ops.size hil
      omega
theorem wp_region_inv {id : Nat} {l : List Oper} {a0 : Act} {w : World} (hm : P.follows .mixedOrders = true) (hac : acyc l.toArray = true) (I : Array Bool → Act → World → Prop)
    (h0 : I (Array.replicate l.toArray.size false) a0 w.drew)
    (hstep : ∀ L a w i o, L.size = l.toArray.size → I L a w → L.getD i true = false → l.toArray[i]? = some o → (∀ e ∈ o.after, Region.binds .any e = true → L.getD e.on false = true) → wpList P l.toArray (StepI (I (L.setIfInBounds i true))) [o] a w)
    (hend : ∀ L a w, I L a w → (∀ i, i < l.toArray.size → L.getD i false = true) → Q .normal a w) : (Code.region id l.toArray true).wp P Q a0 w := by
  refine wp_region_any hm ?_
  exact wpAny_inv hac I hstep hend l.toArray.size (Array.replicate l.toArray.size false) a0 w.drew (left_all _ _) (by simp) h0
end

/-- what holds while 'a, b := x.A, x.B' is under way: x at g, its parts of n cells; base: where new memory begins -/
structure PairI (base g n : Nat) (X Y Z : List Value) (T : TypeId) (w0 : World) (a0 : Act) (L : Array Bool) (a : Act) (w : World) : Prop where
  defers : a.defers = a0.defers
  size : a.tmps.size = a0.tmps.size
  off : ∀ t, t ≠ 6 → t ≠ 7 → t ≠ 8 → t ≠ 9 → t ≠ 3 → t ≠ 4 → a.tmps.getD t undef = a0.tmps.getD t undef
  rely : Below base w0 w
  v0 : L.getD 0 false = true → a.tmps.getD 6 undef = .pointer (some ⟨g, 0, none⟩)
  v1 : L.getD 1 false = true → a.tmps.getD 7 undef = .agg X.toArray
  v2 : L.getD 2 false = true → a.tmps.getD 8 undef = .pointer (some ⟨g, n, none⟩)
  v3 : L.getD 3 false = true → a.tmps.getD 9 undef = .agg Y.toArray
  v4 : L.getD 4 false = true → ∃ r, a.tmps.getD 3 undef = .pointer (some ⟨r, 0, none⟩) ∧ base ≤ r ∧ Bk w r (bif L.getD 6 false then X else Z).toArray T
  v5 : L.getD 5 false = true → ∃ r, a.tmps.getD 4 undef = .pointer (some ⟨r, 0, none⟩) ∧ base ≤ r ∧ Bk w r (bif L.getD 7 false then Y else Z).toArray T
  ap : ∀ r s, L.getD 4 false = true → L.getD 5 false = true → a.tmps.getD 3 undef = .pointer (some ⟨r, 0, none⟩) → a.tmps.getD 4 undef = .pointer (some ⟨s, 0, none⟩) → r ≠ s
  c6 : L.getD 6 false = true → L.getD 4 false = true ∧ L.getD 5 false = true
  c7 : L.getD 7 false = true → L.getD 4 false = true ∧ L.getD 5 false = true
section
variable {base g n : Nat} {X Y Z : List Value} {T : TypeId} {w0 w w' : World} {a0 a : Act} {L : Array Bool}
theorem ptr_inj {r s : Nat} (h : Value.pointer (some ⟨r, 0, none⟩) = Value.pointer (some ⟨s, 0, none⟩)) : r = s := by
  injection h with h; injection h with h; injection h with h
theorem getD_set_eq {L : Array Bool} {i : Nat} (h : i < L.size) : (L.setIfInBounds i true).getD i false = true := by simp [h]
theorem PairI.put0 (h : PairI base g n X Y Z T w0 a0 L a w) (hd : 6 < a.tmps.size) : PairI base g n X Y Z T w0 a0 (L.setIfInBounds 0 true) (a.put (some 6) (.pointer (some ⟨g, 0, none⟩))) w := by
  have e : ∀ j, j ≠ 0 → (L.setIfInBounds 0 true).getD j false = L.getD j false := fun j hj => getD_set_ne false (Ne.symm hj)
  have f : ∀ t, t ≠ 6 → (a.put (some 6) (.pointer (some ⟨g, 0, none⟩))).tmps.getD t undef = a.tmps.getD t undef := fun t ht => put_get_ne (Ne.symm ht)
  have f0 : (a.put (some 6) (.pointer (some ⟨g, 0, none⟩))).tmps.getD 6 undef = (.pointer (some ⟨g, 0, none⟩)) := put_get hd
  refine ⟨h.defers, by simp [Act.put, h.size], fun t h1 h2 h3 h4 h5 h6 => by rw [f t (by assumption)]; exact h.off t h1 h2 h3 h4 h5 h6, h.rely, fun _ => f0, fun hl => by rw [e 1 (by decide)] at hl; rw [f 7 (by decide)]; exact h.v1 hl, fun hl => by rw [e 2 (by decide)] at hl; rw [f 8 (by decide)]; exact h.v2 hl, fun hl => by rw [e 3 (by decide)] at hl; rw [f 9 (by decide)]; exact h.v3 hl, fun hl => ?_, fun hl => ?_, fun r s hl hk h1 h2 => ?_, fun hl => ?_, fun hl => ?_⟩
  · rw [e 4 (by decide)] at hl; rw [f 3 (by decide), e 6 (by decide)]; exact h.v4 hl
  · rw [e 5 (by decide)] at hl; rw [f 4 (by decide), e 7 (by decide)]; exact h.v5 hl
  · rw [e 4 (by decide)] at hl; rw [e 5 (by decide)] at hk; rw [f 3 (by decide)] at h1; rw [f 4 (by decide)] at h2; exact h.ap r s hl hk h1 h2
  · rw [e 6 (by decide)] at hl; rw [e 4 (by decide), e 5 (by decide)]; exact h.c6 hl
  · rw [e 7 (by decide)] at hl; rw [e 4 (by decide), e 5 (by decide)]; exact h.c7 hl
theorem PairI.put1 (h : PairI base g n X Y Z T w0 a0 L a w) (hd : 7 < a.tmps.size) : PairI base g n X Y Z T w0 a0 (L.setIfInBounds 1 true) (a.put (some 7) (.agg X.toArray)) w := by
  have e : ∀ j, j ≠ 1 → (L.setIfInBounds 1 true).getD j false = L.getD j false := fun j hj => getD_set_ne false (Ne.symm hj)
  have f : ∀ t, t ≠ 7 → (a.put (some 7) (.agg X.toArray)).tmps.getD t undef = a.tmps.getD t undef := fun t ht => put_get_ne (Ne.symm ht)
  have f0 : (a.put (some 7) (.agg X.toArray)).tmps.getD 7 undef = (.agg X.toArray) := put_get hd
  refine ⟨h.defers, by simp [Act.put, h.size], fun t h1 h2 h3 h4 h5 h6 => by rw [f t (by assumption)]; exact h.off t h1 h2 h3 h4 h5 h6, h.rely, fun hl => by rw [e 0 (by decide)] at hl; rw [f 6 (by decide)]; exact h.v0 hl, fun _ => f0, fun hl => by rw [e 2 (by decide)] at hl; rw [f 8 (by decide)]; exact h.v2 hl, fun hl => by rw [e 3 (by decide)] at hl; rw [f 9 (by decide)]; exact h.v3 hl, fun hl => ?_, fun hl => ?_, fun r s hl hk h1 h2 => ?_, fun hl => ?_, fun hl => ?_⟩
  · rw [e 4 (by decide)] at hl; rw [f 3 (by decide), e 6 (by decide)]; exact h.v4 hl
  · rw [e 5 (by decide)] at hl; rw [f 4 (by decide), e 7 (by decide)]; exact h.v5 hl
  · rw [e 4 (by decide)] at hl; rw [e 5 (by decide)] at hk; rw [f 3 (by decide)] at h1; rw [f 4 (by decide)] at h2; exact h.ap r s hl hk h1 h2
  · rw [e 6 (by decide)] at hl; rw [e 4 (by decide), e 5 (by decide)]; exact h.c6 hl
  · rw [e 7 (by decide)] at hl; rw [e 4 (by decide), e 5 (by decide)]; exact h.c7 hl
theorem PairI.put2 (h : PairI base g n X Y Z T w0 a0 L a w) (hd : 8 < a.tmps.size) : PairI base g n X Y Z T w0 a0 (L.setIfInBounds 2 true) (a.put (some 8) (.pointer (some ⟨g, n, none⟩))) w := by
  have e : ∀ j, j ≠ 2 → (L.setIfInBounds 2 true).getD j false = L.getD j false := fun j hj => getD_set_ne false (Ne.symm hj)
  have f : ∀ t, t ≠ 8 → (a.put (some 8) (.pointer (some ⟨g, n, none⟩))).tmps.getD t undef = a.tmps.getD t undef := fun t ht => put_get_ne (Ne.symm ht)
  have f0 : (a.put (some 8) (.pointer (some ⟨g, n, none⟩))).tmps.getD 8 undef = (.pointer (some ⟨g, n, none⟩)) := put_get hd
  refine ⟨h.defers, by simp [Act.put, h.size], fun t h1 h2 h3 h4 h5 h6 => by rw [f t (by assumption)]; exact h.off t h1 h2 h3 h4 h5 h6, h.rely, fun hl => by rw [e 0 (by decide)] at hl; rw [f 6 (by decide)]; exact h.v0 hl, fun hl => by rw [e 1 (by decide)] at hl; rw [f 7 (by decide)]; exact h.v1 hl, fun _ => f0, fun hl => by rw [e 3 (by decide)] at hl; rw [f 9 (by decide)]; exact h.v3 hl, fun hl => ?_, fun hl => ?_, fun r s hl hk h1 h2 => ?_, fun hl => ?_, fun hl => ?_⟩
  · rw [e 4 (by decide)] at hl; rw [f 3 (by decide), e 6 (by decide)]; exact h.v4 hl
  · rw [e 5 (by decide)] at hl; rw [f 4 (by decide), e 7 (by decide)]; exact h.v5 hl
  · rw [e 4 (by decide)] at hl; rw [e 5 (by decide)] at hk; rw [f 3 (by decide)] at h1; rw [f 4 (by decide)] at h2; exact h.ap r s hl hk h1 h2
  · rw [e 6 (by decide)] at hl; rw [e 4 (by decide), e 5 (by decide)]; exact h.c6 hl
  · rw [e 7 (by decide)] at hl; rw [e 4 (by decide), e 5 (by decide)]; exact h.c7 hl
theorem PairI.put3 (h : PairI base g n X Y Z T w0 a0 L a w) (hd : 9 < a.tmps.size) : PairI base g n X Y Z T w0 a0 (L.setIfInBounds 3 true) (a.put (some 9) (.agg Y.toArray)) w := by
  have e : ∀ j, j ≠ 3 → (L.setIfInBounds 3 true).getD j false = L.getD j false := fun j hj => getD_set_ne false (Ne.symm hj)
  have f : ∀ t, t ≠ 9 → (a.put (some 9) (.agg Y.toArray)).tmps.getD t undef = a.tmps.getD t undef := fun t ht => put_get_ne (Ne.symm ht)
  have f0 : (a.put (some 9) (.agg Y.toArray)).tmps.getD 9 undef = (.agg Y.toArray) := put_get hd
  refine ⟨h.defers, by simp [Act.put, h.size], fun t h1 h2 h3 h4 h5 h6 => by rw [f t (by assumption)]; exact h.off t h1 h2 h3 h4 h5 h6, h.rely, fun hl => by rw [e 0 (by decide)] at hl; rw [f 6 (by decide)]; exact h.v0 hl, fun hl => by rw [e 1 (by decide)] at hl; rw [f 7 (by decide)]; exact h.v1 hl, fun hl => by rw [e 2 (by decide)] at hl; rw [f 8 (by decide)]; exact h.v2 hl, fun _ => f0, fun hl => ?_, fun hl => ?_, fun r s hl hk h1 h2 => ?_, fun hl => ?_, fun hl => ?_⟩
  · rw [e 4 (by decide)] at hl; rw [f 3 (by decide), e 6 (by decide)]; exact h.v4 hl
  · rw [e 5 (by decide)] at hl; rw [f 4 (by decide), e 7 (by decide)]; exact h.v5 hl
  · rw [e 4 (by decide)] at hl; rw [e 5 (by decide)] at hk; rw [f 3 (by decide)] at h1; rw [f 4 (by decide)] at h2; exact h.ap r s hl hk h1 h2
  · rw [e 6 (by decide)] at hl; rw [e 4 (by decide), e 5 (by decide)]; exact h.c6 hl
  · rw [e 7 (by decide)] at hl; rw [e 4 (by decide), e 5 (by decide)]; exact h.c7 hl
theorem PairI.new4 {q : Nat} (h : PairI base g n X Y Z T w0 a0 L a w) (hun : L.getD 4 false = false) (hs : 4 < L.size) (hd : 3 < a.tmps.size) (hq : Bk w' q Z.toArray T) (hb : Below w.heap.size w w') (h1 : w.heap.size ≤ q) (hB : base ≤ w.heap.size) : PairI base g n X Y Z T w0 a0 (L.setIfInBounds 4 true) (a.put (some 3) (.pointer (some ⟨q, 0, none⟩))) w' := by
  have e : ∀ j, j ≠ 4 → (L.setIfInBounds 4 true).getD j false = L.getD j false := fun j hj => getD_set_ne false (Ne.symm hj)
  have f : ∀ t, t ≠ 3 → (a.put (some 3) (.pointer (some ⟨q, 0, none⟩))).tmps.getD t undef = a.tmps.getD t undef := fun t ht => put_get_ne (Ne.symm ht)
  have f0 : (a.put (some 3) (.pointer (some ⟨q, 0, none⟩))).tmps.getD 3 undef = (.pointer (some ⟨q, 0, none⟩)) := put_get hd
  have hn6 : L.getD 6 false = false := by
    cases hh : L.getD 6 false with
    | false => rfl
    | true => have := (h.c6 hh).1; rw [hun] at this; cases this
  have hn7 : L.getD 7 false = false := by
    cases hh : L.getD 7 false with
    | false => rfl
    | true => have := (h.c7 hh).1; rw [hun] at this; cases this
  refine ⟨h.defers, by simp [Act.put, h.size], fun t h1 h2 h3 h4 h5 h6 => by rw [f t (by assumption)]; exact h.off t h1 h2 h3 h4 h5 h6, h.rely.trans (hb.mono hB), fun hl => by rw [e 0 (by decide)] at hl; rw [f 6 (by decide)]; exact h.v0 hl, fun hl => by rw [e 1 (by decide)] at hl; rw [f 7 (by decide)]; exact h.v1 hl, fun hl => by rw [e 2 (by decide)] at hl; rw [f 8 (by decide)]; exact h.v2 hl, fun hl => by rw [e 3 (by decide)] at hl; rw [f 9 (by decide)]; exact h.v3 hl, fun hl => ?_, fun hl => ?_, fun r s hl hk h1 h2 => ?_, fun hl => ?_, fun hl => ?_⟩
  · rw [e 6 (by decide), hn6]; exact ⟨q, f0, Nat.le_trans hB h1, hq⟩
  · rw [e 5 (by decide)] at hl; rw [f 4 (by decide), e 7 (by decide)]; obtain ⟨r, k1, k2, k3⟩ := h.v5 hl; exact ⟨r, k1, k2, k3.below hb k3.lt⟩
  · rw [e 5 (by decide)] at hk; rw [f0] at h1; rw [f 4 (by decide)] at h2; obtain ⟨r', k1, _, k3⟩ := h.v5 hk; rw [k1] at h2; have := ptr_inj h1; have := ptr_inj h2; have := k3.lt; omega
  · rw [e 6 (by decide), hn6] at hl; cases hl
  · rw [e 7 (by decide), hn7] at hl; cases hl
theorem PairI.new5 {q : Nat} (h : PairI base g n X Y Z T w0 a0 L a w) (hun : L.getD 5 false = false) (hs : 5 < L.size) (hd : 4 < a.tmps.size) (hq : Bk w' q Z.toArray T) (hb : Below w.heap.size w w') (h1 : w.heap.size ≤ q) (hB : base ≤ w.heap.size) : PairI base g n X Y Z T w0 a0 (L.setIfInBounds 5 true) (a.put (some 4) (.pointer (some ⟨q, 0, none⟩))) w' := by
  have e : ∀ j, j ≠ 5 → (L.setIfInBounds 5 true).getD j false = L.getD j false := fun j hj => getD_set_ne false (Ne.symm hj)
  have f : ∀ t, t ≠ 4 → (a.put (some 4) (.pointer (some ⟨q, 0, none⟩))).tmps.getD t undef = a.tmps.getD t undef := fun t ht => put_get_ne (Ne.symm ht)
  have f0 : (a.put (some 4) (.pointer (some ⟨q, 0, none⟩))).tmps.getD 4 undef = (.pointer (some ⟨q, 0, none⟩)) := put_get hd
  have hn6 : L.getD 6 false = false := by
    cases hh : L.getD 6 false with
    | false => rfl
    | true => have := (h.c6 hh).2; rw [hun] at this; cases this
  have hn7 : L.getD 7 false = false := by
    cases hh : L.getD 7 false with
    | false => rfl
    | true => have := (h.c7 hh).2; rw [hun] at this; cases this
  refine ⟨h.defers, by simp [Act.put, h.size], fun t h1 h2 h3 h4 h5 h6 => by rw [f t (by assumption)]; exact h.off t h1 h2 h3 h4 h5 h6, h.rely.trans (hb.mono hB), fun hl => by rw [e 0 (by decide)] at hl; rw [f 6 (by decide)]; exact h.v0 hl, fun hl => by rw [e 1 (by decide)] at hl; rw [f 7 (by decide)]; exact h.v1 hl, fun hl => by rw [e 2 (by decide)] at hl; rw [f 8 (by decide)]; exact h.v2 hl, fun hl => by rw [e 3 (by decide)] at hl; rw [f 9 (by decide)]; exact h.v3 hl, fun hl => ?_, fun hl => ?_, fun r s hl hk h1 h2 => ?_, fun hl => ?_, fun hl => ?_⟩
  · rw [e 4 (by decide)] at hl; rw [f 3 (by decide), e 6 (by decide)]; obtain ⟨r, k1, k2, k3⟩ := h.v4 hl; exact ⟨r, k1, k2, k3.below hb k3.lt⟩
  · rw [e 7 (by decide), hn7]; exact ⟨q, f0, Nat.le_trans hB h1, hq⟩
  · rw [e 4 (by decide)] at hl; rw [f0] at h2; rw [f 3 (by decide)] at h1; obtain ⟨r', k1, _, k3⟩ := h.v4 hl; rw [k1] at h1; have := ptr_inj h1; have := ptr_inj h2; have := k3.lt; omega
  · rw [e 6 (by decide), hn6] at hl; cases hl
  · rw [e 7 (by decide), hn7] at hl; cases hl
theorem PairI.set6 {q : Nat} (h : PairI base g n X Y Z T w0 a0 L a w) (hs : 6 < L.size) (h4 : L.getD 4 false = true) (h5 : L.getD 5 false = true) (hp : a.tmps.getD 3 undef = .pointer (some ⟨q, 0, none⟩)) (hq0 : base ≤ q) (hq : Bk w' q X.toArray T) (hg : w.grownBy w' (some q)) (hB : base ≤ w.heap.size) : PairI base g n X Y Z T w0 a0 (L.setIfInBounds 6 true) (a.put none undef) w' := by
  have e : ∀ j, j ≠ 6 → (L.setIfInBounds 6 true).getD j false = L.getD j false := fun j hj => getD_set_ne false (Ne.symm hj)
  have f : (a.put none undef).tmps = a.tmps := rfl
  refine ⟨h.defers, h.size, h.off, below_grown2 h.rely hg hq0 hB, fun hl => by rw [e 0 (by decide)] at hl; exact h.v0 hl, fun hl => by rw [e 1 (by decide)] at hl; exact h.v1 hl, fun hl => by rw [e 2 (by decide)] at hl; exact h.v2 hl, fun hl => by rw [e 3 (by decide)] at hl; exact h.v3 hl, fun hl => ?_, fun hl => ?_, fun r s hl hk h1 h2 => ?_, fun hl => ?_, fun hl => ?_⟩
  · rw [getD_set_eq hs]; exact ⟨q, hp, hq0, hq⟩
  · rw [e 7 (by decide)]; obtain ⟨r, k1, k2, k3⟩ := h.v5 h5; exact ⟨r, k1, k2, k3.grown hg (fun hh => (h.ap q r h4 h5 hp k1) (by injection hh with hh; try omega))⟩
  · exact h.ap r s h4 h5 h1 h2
  · rw [e 4 (by decide), e 5 (by decide)]; exact ⟨h4, h5⟩
  · rw [e 4 (by decide), e 5 (by decide)]; exact ⟨h4, h5⟩
theorem PairI.set7 {q : Nat} (h : PairI base g n X Y Z T w0 a0 L a w) (hs : 7 < L.size) (h4 : L.getD 4 false = true) (h5 : L.getD 5 false = true) (hp : a.tmps.getD 4 undef = .pointer (some ⟨q, 0, none⟩)) (hq0 : base ≤ q) (hq : Bk w' q Y.toArray T) (hg : w.grownBy w' (some q)) (hB : base ≤ w.heap.size) : PairI base g n X Y Z T w0 a0 (L.setIfInBounds 7 true) (a.put none undef) w' := by
  have e : ∀ j, j ≠ 7 → (L.setIfInBounds 7 true).getD j false = L.getD j false := fun j hj => getD_set_ne false (Ne.symm hj)
  have f : (a.put none undef).tmps = a.tmps := rfl
  refine ⟨h.defers, h.size, h.off, below_grown2 h.rely hg hq0 hB, fun hl => by rw [e 0 (by decide)] at hl; exact h.v0 hl, fun hl => by rw [e 1 (by decide)] at hl; exact h.v1 hl, fun hl => by rw [e 2 (by decide)] at hl; exact h.v2 hl, fun hl => by rw [e 3 (by decide)] at hl; exact h.v3 hl, fun hl => ?_, fun hl => ?_, fun r s hl hk h1 h2 => ?_, fun hl => ?_, fun hl => ?_⟩
  · rw [e 6 (by decide)]; obtain ⟨r, k1, k2, k3⟩ := h.v4 h4; exact ⟨r, k1, k2, k3.grown hg (fun hh => (h.ap r q h4 h5 k1 hp) (by injection hh with hh; try omega))⟩
  · rw [getD_set_eq hs]; exact ⟨q, hp, hq0, hq⟩
  · exact h.ap r s h4 h5 h1 h2
  · rw [e 4 (by decide), e 5 (by decide)]; exact ⟨h4, h5⟩
  · rw [e 4 (by decide), e 5 (by decide)]; exact ⟨h4, h5⟩
theorem PairI.start (h : w0 = w) (hn : L = Array.replicate 8 false) : PairI base g n X Y Z T w0 a0 L a0 w := by
  subst h hn
  have z : ∀ i, ¬ (Array.replicate 8 false).getD i false = true := fun i hi => by rw [getD_replicate_false] at hi; cases hi
  exact ⟨rfl, rfl, fun _ _ _ _ _ _ _ => rfl, Below.refl _ _, fun hl => absurd hl (z 0), fun hl => absurd hl (z 1), fun hl => absurd hl (z 2), fun hl => absurd hl (z 3), fun hl => absurd hl (z 4), fun hl => absurd hl (z 5), fun _ _ hl => absurd hl (z 4), fun hl => absurd hl (z 6), fun hl => absurd hl (z 7)⟩
set_option maxHeartbeats 2000000 in
theorem PairI.done (h : PairI base g n X Y Z T w0 a0 L a w) (hs : 9 < a0.tmps.size) (hall : ∀ i, i < 8 → L.getD i false = true) :
    ∃ r3 r4, r3 ≠ r4 ∧ base ≤ r3 ∧ base ≤ r4 ∧ Bk w r3 X.toArray T ∧ Bk w r4 Y.toArray T ∧ Below base w0 w ∧
      a = (((((a0.put (some 6) (.pointer (some ⟨g, 0, none⟩))).put (some 7) (.agg X.toArray)).put (some 8) (.pointer (some ⟨g, n, none⟩))).put (some 9) (.agg Y.toArray)).put (some 3) (.pointer (some ⟨r3, 0, none⟩))).put (some 4) (.pointer (some ⟨r4, 0, none⟩)) := by
  obtain ⟨r3, p3, b3, k3⟩ := h.v4 (hall 4 (by decide))
  obtain ⟨r4, p4, b4, k4⟩ := h.v5 (hall 5 (by decide))
  rw [hall 6 (by decide)] at k3
  rw [hall 7 (by decide)] at k4
  have s0 : ∀ (b : Act) (d : Tmp) (v : Value), b.tmps.size = a0.tmps.size → (b.put (some d) v).tmps.size = a0.tmps.size := fun b d v hb => by simp [Act.put, hb]
  have pg : ∀ (b : Act) (d : Tmp) (v : Value), b.tmps.size = a0.tmps.size → d < 10 → (b.put (some d) v).tmps.getD d undef = v := fun b d v hb hd => put_get (hb.symm ▸ Nat.lt_of_lt_of_le hd hs)
  have hd := h.defers
  have hz := h.size
  have v0 := h.v0 (hall 0 (by decide))
  have v1 := h.v1 (hall 1 (by decide))
  have v2 := h.v2 (hall 2 (by decide))
  have v3 := h.v3 (hall 3 (by decide))
  have ho := h.off
  have hap := h.ap r3 r4 (hall 4 (by decide)) (hall 5 (by decide)) p3 p4
  have hr := h.rely
  clear h hall
  obtain ⟨b1, hb1⟩ : ∃ b, a0.put (some 6) (.pointer (some ⟨g, 0, none⟩)) = b := ⟨_, rfl⟩
  obtain ⟨b2, hb2⟩ : ∃ b, b1.put (some 7) (.agg X.toArray) = b := ⟨_, rfl⟩
  obtain ⟨b3', hb3⟩ : ∃ b, b2.put (some 8) (.pointer (some ⟨g, n, none⟩)) = b := ⟨_, rfl⟩
  obtain ⟨b4', hb4⟩ : ∃ b, b3'.put (some 9) (.agg Y.toArray) = b := ⟨_, rfl⟩
  obtain ⟨b5, hb5⟩ : ∃ b, b4'.put (some 3) (.pointer (some ⟨r3, 0, none⟩)) = b := ⟨_, rfl⟩
  have z1 : b1.tmps.size = a0.tmps.size := hb1 ▸ s0 _ _ _ rfl
  have z2 : b2.tmps.size = a0.tmps.size := hb2 ▸ s0 _ _ _ z1
  have z3 : b3'.tmps.size = a0.tmps.size := hb3 ▸ s0 _ _ _ z2
  have z4 : b4'.tmps.size = a0.tmps.size := hb4 ▸ s0 _ _ _ z3
  have z5 : b5.tmps.size = a0.tmps.size := hb5 ▸ s0 _ _ _ z4
  have d1 : b1.defers = a0.defers := hb1 ▸ rfl
  have d2 : b2.defers = a0.defers := hb2 ▸ d1
  have d3 : b3'.defers = a0.defers := hb3 ▸ d2
  have d4 : b4'.defers = a0.defers := hb4 ▸ d3
  have d5 : b5.defers = a0.defers := hb5 ▸ d4
  refine ⟨r3, r4, hap, b3, b4, k3, k4, hr, ?_⟩
  rw [hb1, hb2, hb3, hb4, hb5]
  refine act_ext (hd.trans d5.symm) (hz.trans (s0 _ _ _ z5).symm) fun t => ?_
  by_cases h4 : t = 4
  · subst h4; rw [pg _ _ _ z5 (by decide), p4]
  rw [put_get_ne (Ne.symm h4), ← hb5]
  by_cases h3 : t = 3
  · subst h3; rw [pg _ _ _ z4 (by decide), p3]
  rw [put_get_ne (Ne.symm h3), ← hb4]
  by_cases h9 : t = 9
  · subst h9; rw [pg _ _ _ z3 (by decide), v3]
  rw [put_get_ne (Ne.symm h9), ← hb3]
  by_cases h8 : t = 8
  · subst h8; rw [pg _ _ _ z2 (by decide), v2]
  rw [put_get_ne (Ne.symm h8), ← hb2]
  by_cases h7 : t = 7
  · subst h7; rw [pg _ _ _ z1 (by decide), v1]
  rw [put_get_ne (Ne.symm h7), ← hb1]
  by_cases h6 : t = 6
  · subst h6; rw [pg _ _ _ rfl (by decide), v0]
  rw [put_get_ne (Ne.symm h6)]
  exact ho t h6 h7 h8 h9 h3 h4
end
section
variable {P : Program} {ops : Array Oper}
theorem wpList_end {Q : Exit → Act → World → Prop} {a : Act} {w : World} (h : wpList P ops Q [] a w) : Q .normal a w := h
theorem wpList_detI {o : Oper} {K : Act → World → Prop} {a : Act} {w : World} (v : Value) (hg : o.guard = none) (hrun : (execOp a.eval o).run P w = .ok (.value v) w) (h : K (a.put o.dst v) w) : wpList P ops (StepI K) [o] a w := by
  refine wpList_plain hg fun K' hK => ?_
  unfold Oper.wp
  rw [hrun]
  exact hK _ _ h
end
end Go.Proofs.Ytnfffipkgaobhaa

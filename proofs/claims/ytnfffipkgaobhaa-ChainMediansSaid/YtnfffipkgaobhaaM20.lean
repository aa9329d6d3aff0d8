/-
  The reference's root of a list. Conditions: the items lie in memory; there are at most 65536, each of at most a thousand bytes; the table reads as it was laid.
  Lists of records in memory; a list of byte slices that grows. No condition.
  A region that draws its order and holds guarded operations: the law of XFree with guards: an operation whose guard bars it leaves 'undef'. No condition: lemmas over any program.
  A pair of votes as evidence: its cells, and how it is laid down; the comparing of bytes. Conditions: each number fits its kind; the Writer has room.
-/
import Derived.Test.YtnfffipkgaobhaaM18
import Derived.Test.YtnfffipkgaobhaaM19
import Derived.Test.YtnfffipkgaobhaaM14
import Derived.Lib.BytesEntry
import Derived.Laws.Externs
namespace Go.Proofs.Ytnfffipkgaobhaa
set_option linter.unusedSimpArgs false
set_option linter.unusedVariables false
open Go.RowKit
set_option maxRecDepth 100000

theorem lvs_take (ps : List Piece) (k : Nat) : (lvs ps).take k = lvs (ps.take k) := by simp [lvs, List.map_take]
theorem lvs_drop (ps : List Piece) (k : Nat) : (lvs ps).drop k = lvs (ps.drop k) := by simp [lvs, List.map_drop]
end Go.Proofs.Ytnfffipkgaobhaa
namespace Go.Proofs.Ytnfffipkgaobhaa
set_option linter.unusedSimpArgs false
set_option linter.unusedVariables false
open Go.RowKit
set_option maxRecDepth 100000

section
variable {α : Type} {cl : α → List Value} {N : Nat}
theorem fl_at : ∀ (xs : List α) (_ : ∀ x ∈ xs, (cl x).length = N) (k : Nat) (hk : k < xs.length) (j : Nat) (u : Value), (cl xs[k])[j]? = some u → (xs.flatMap cl)[N * k + j]? = some u
  | m :: ms, hm, 0, hk, j, u, hu => by
    rw [List.flatMap_cons, Nat.mul_zero, Nat.zero_add]
    exact List.getElem?_append_left (List.getElem?_eq_some_iff.1 hu).1 |>.trans hu
  | m :: ms, hm, k + 1, hk, j, u, hu => by
    have hl := hm m (List.mem_cons_self ..)
    rw [List.flatMap_cons, List.getElem?_append_right (by rw [hl, Nat.mul_add]; omega), hl, show N * (k + 1) + j - N = N * k + j by rw [Nat.mul_add]; omega]
    exact fl_at ms (fun m' h' => hm m' (List.mem_cons_of_mem _ h')) k (by simpa using hk) j u (by simpa using hu)
theorem fl_len : ∀ (xs : List α) (_ : ∀ x ∈ xs, (cl x).length = N), (xs.flatMap cl).length = xs.length * N
  | [], _ => by simp
  | m :: ms, hm => by
    rw [List.flatMap_cons, List.length_append, hm m (List.mem_cons_self ..), fl_len ms (fun m' h' => hm m' (List.mem_cons_of_mem _ h')), List.length_cons, Nat.add_mul]; omega
theorem rd_elem {w : World} {A : Option Addr} {xs : List α} (hN : 0 < N) (hm : ∀ x ∈ xs, (cl x).length = N) (h : Rd w A (xs.flatMap cl)) {k : Nat} (hk : k < xs.length) :
    ∃ ad, A = some ad ∧ ∀ j u, (cl xs[k])[j]? = some u → w.cell? ((ad.add (k * N)).add j) = some u := by
  have hl := hm _ (List.getElem_mem hk)
  have h0 := fl_at xs hm k hk 0 _ (List.getElem?_eq_getElem (by omega))
  obtain ⟨ad, ha, _⟩ := h _ _ h0
  refine ⟨ad, ha, fun j u hu => ?_⟩
  obtain ⟨a', ha', hc⟩ := h _ _ (fl_at xs hm k hk j u hu)
  rw [ha] at ha'; injection ha' with ha'; subst ha'
  rw [add_comm', Nat.mul_comm]
  exact hc
end

theorem own_some {w : World} {B : Nat} {e : TypeId} {size n : Nat} {v : Value} {xs : List Value} (h : w.ownsRow B e size v n xs) : ∀ k, v.ownBlock = some k → ∃ c, w.heap[k]? = some (.cells c e (0, 0)) := by
  intro k hk
  rcases h.2 with ⟨rfl, _⟩ | ⟨g', cap, cur, rfl, hb, hh, _⟩
  · simp [Value.ownBlock] at hk
  · simp [Value.ownBlock] at hk
    subst hk
    exact ⟨_, hh⟩
/-- what is owned of another type stays -/
theorem own_keep {w w' : World} {B B' : Nat} {e e' : TypeId} {size n size' n' : Nat} {v v' : Value} {xs xs' : List Value} (h : w.ownsRow B e size v n xs) (hg : w.grownBy w' v'.ownBlock) (h' : w.ownsRow B' e' size' v' n' xs') (he : e ≠ e') : w'.ownsRow B e size v n xs := by
  refine ⟨h.1, h.2.imp id ?_⟩
  rintro ⟨g, cap, cur, rfl, hb, hh, h3⟩
  refine ⟨g, cap, cur, rfl, hb, ?_, h3⟩
  rw [← hh]
  refine hg.block g (Array.getElem?_eq_some_iff.1 hh).1 (fun e1 => ?_)
  obtain ⟨c, hc⟩ := own_some h' g e1.symm
  rw [hh] at hc
  injection hc with hc
  injection hc with _ hc _
  exact he hc
theorem bk_keep {w w' : World} {B' g : Nat} {e e' : TypeId} {size' n' : Nat} {cs : Array Value} {v' : Value} {xs' : List Value} (h : Bk w g cs e) (hg : w.grownBy w' v'.ownBlock) (h' : w.ownsRow B' e' size' v' n' xs') (he : e ≠ e') : Bk w' g cs e := by
  have hh : w.heap[g]? = some (.cells cs e (0, 0)) := h
  show w'.heap[g]? = some (.cells cs e (0, 0))
  rw [← hh]
  refine hg.block g (Array.getElem?_eq_some_iff.1 hh).1 (fun e1 => ?_)
  obtain ⟨c, hc⟩ := own_some h' g e1.symm
  rw [hh] at hc
  injection hc with hc
  injection hc with _ hc _
  exact he hc
theorem below_own {B0 : Nat} {w0 w w' : World} {B : Nat} {e : TypeId} {size n : Nat} {v : Value} {xs : List Value} (h : Below B0 w0 w) (hs : w.ownsRow B e size v n xs) (hB0 : B0 ≤ B) (hg : w.grownBy w' v.ownBlock) (hB : B0 ≤ w.heap.size) : Below B0 w0 w' :=
  h.grown hg hB (fun k hk => Nat.le_trans hB0 (own_row hs k hk).1)
/-- the first error of a list of things -/
def rootsErr (lim n : Nat) (es : List Int) : Int := if lim < n then 4 else firstErr es
theorem firstErr_take_zero {es : List Int} {k : Nat} {e : Int} (h : ∀ x ∈ es.take k, x = 0) (he : es[k]? = some e) (hne : e ≠ 0) : firstErr es = e := by
  induction es generalizing k with
  | nil => simp at he
  | cons a l ih =>
    cases k with
    | zero =>
      simp at he
      subst he
      unfold firstErr
      rw [if_pos hne]
    | succ k =>
      have ha : a = 0 := h a (by simp)
      subst ha
      unfold firstErr
      rw [if_neg (by simp)]
      exact ih (k := k) (fun x hx => h x (by rw [List.take_succ_cons]; exact List.mem_cons_of_mem _ hx)) (by simpa using he)
theorem firstErr_all_zero {es : List Int} (h : ∀ x ∈ es, x = 0) : firstErr es = 0 := by
  induction es with
  | nil => rfl
  | cons a l ih =>
    unfold firstErr
    rw [if_neg (by simp [h a (by simp)])]
    exact ih (fun x hx => h x (List.mem_cons_of_mem _ hx))
end Go.Proofs.Ytnfffipkgaobhaa
namespace Go.Proofs.Ytnfffipkgaobhaa
set_option linter.unusedSimpArgs false
set_option linter.unusedVariables false
open Go.RowKit

def freeOneG (ops : Array Oper) (its : List (Tmp × List (Nat × Tmp))) (i : Nat) : Bool :=
  match ops[i]?, its[i]? with
  | some o, some (d, ds) => o.dst == some d && o.after.all (fun e => !Region.binds .any e || decide (e.on < i)) &&
      ds.all (fun x => Region.waitsFor .any ops i x.1 && decide (x.1 < its.length) && (its[x.1]?).map (·.1) == some x.2) &&
      (List.range its.length).all (fun j => match its[j]? with | some (t, _) => (j == i || t != d) && (ds.any (fun x => x.1 == j) || !(o.looksAt ops).contains t) | none => false)
  | _, _ => false
def freeBG (ops : Array Oper) (its : List (Tmp × List (Nat × Tmp))) : Bool :=
  Region.noSelect ops && decide (its.length < ops.size) && Region.sinkB .any ops its.length && Region.chainB .any ops its.length &&
  (List.range its.length).all (freeOneG ops its) && Region.seqB .any ops (ops.size - its.length) its.length (allTrue ops.size its.length)

section
variable {P : Program} {ops : Array Oper} {ks : List Known} {Q : Exit → Act → World → Prop}
theorem freeOneG_spec {its : List (Tmp × List (Nat × Tmp))} {i : Nat} (h : freeOneG ops its i = true) :
    ∃ o d ds, ops[i]? = some o ∧ its[i]? = some (d, ds) ∧ o.dst = some d ∧ (∀ e ∈ o.after, Region.binds .any e = true → e.on < i) ∧
      (∀ x ∈ ds, Region.waitsFor .any ops i x.1 = true ∧ x.1 < its.length ∧ (its[x.1]?).map (·.1) = some x.2) ∧
      (∀ j t es, its[j]? = some (t, es) → (j = i ∨ t ≠ d) ∧ ((∃ x ∈ ds, x.1 = j) ∨ t ∉ o.looksAt ops)) := by
  unfold freeOneG at h
  split at h
  · rename_i o d ds ho hi
    simp only [Bool.and_eq_true, List.all_eq_true, Array.all_eq_true_iff_forall_mem, Bool.or_eq_true, Bool.not_eq_true', decide_eq_true_eq, beq_iff_eq] at h
    obtain ⟨⟨⟨h2, h3⟩, h4⟩, h5⟩ := h
    refine ⟨o, d, ds, ho, hi, h2, fun e he hb => ?_, fun x hx => ⟨(h4 x hx).1.1, (h4 x hx).1.2, (h4 x hx).2⟩, fun j t es hj => ?_⟩
    · rcases h3 e he with h | h
      · rw [hb] at h; cases h
      · exact h
    · have hjl : j < its.length := (List.getElem?_eq_some_iff.1 hj).1
      have h6 := h5 j (List.mem_range.2 hjl)
      rw [hj] at h6
      simp only [Bool.and_eq_true, Bool.or_eq_true, beq_iff_eq, bne_iff_ne, List.any_eq_true, Bool.not_eq_true', List.contains_eq_mem, decide_eq_false_iff_not] at h6
      exact h6
  · cases h

theorem wanted_same {o : Oper} {a b : Act} (hs : a.tmps.size = b.tmps.size) (h : ∀ t ∈ o.looksAt ops, a.tmps.getD t undef = b.tmps.getD t undef) : Region.wanted o (yielded ops a.tmps) = Region.wanted o (yielded ops b.tmps) := by
  unfold Region.wanted
  cases hg : o.guard with
  | none => rfl
  | some x =>
    obtain ⟨g, v⟩ := x
    have e : yielded ops a.tmps g = yielded ops b.tmps g := by
      unfold yielded
      cases hd : (ops[g]?).bind (·.dst) with
      | none => rfl
      | some t =>
        have ht : t ∈ o.looksAt ops := by
          unfold Oper.looksAt
          rw [hg]
          simp [hd]
        have e1 := h t ht
        have e2 : a.tmps[t]? = b.tmps[t]? := by
          rcases Nat.lt_or_ge t a.tmps.size with hl | hl
          · have hl' : t < b.tmps.size := hs ▸ hl
            simpa [hl, hl'] using e1
          · rw [Array.getElem?_eq_none hl, Array.getElem?_eq_none (show b.tmps.size ≤ t from hs ▸ hl)]
        simp only [Option.bind_some, e2]
    simp only [e]
theorem wp_carryG {o : Oper} {a b a0 : Act} {d : Tmp} {K : Known} {w : World} {next : Act → World → Prop} (hd : o.dst = some d) (hw : Region.wanted o (yielded ops a.tmps) = Region.wanted o (yielded ops b.tmps)) (he : execOp a.eval o = execOp b.eval o) (hb : b.defers = a0.defers) (hdb : d < b.tmps.size)
    (h : wpList P ops (QStep a0 d K w) [o] b w) (hn : ∀ v w', Below w.heap.size w w' → K v w' → next (a.put (some d) v) w') : if Region.wanted o (yielded ops a.tmps) then o.wp P a w next Q ∨ (o.asks P a w ∧ LetsOut Q) else next (a.put o.dst undef) w := by
  unfold wpList at h
  rw [← hw] at h
  by_cases hwt : Region.wanted o (yielded ops a.tmps) = true
  case neg =>
    rw [if_neg hwt] at h ⊢
    unfold wpList at h
    obtain ⟨_, h2, h3⟩ := h
    rw [hd] at h3 ⊢
    rw [put_get hdb] at h3
    exact hn _ _ h2 h3
  rw [if_pos hwt] at h ⊢
  rcases h with h | ⟨_, _, _, h⟩
  case inr => exact h.elim
  left
  unfold Oper.wp at *
  rw [he]
  have key : ∀ v w', wpList P ops (QStep a0 d K w) [] (b.put o.dst v) w' → next (a.put o.dst v) w' := by
    intro v w' h'
    rw [hd] at h' ⊢
    obtain ⟨_, h2, h3⟩ := h'
    rw [put_get hdb] at h3
    exact hn v w' h2 h3
  generalize (execOp b.eval o).run P w = r at h
  cases r with
  | ok n w' =>
    cases n <;> simp only [Oper.upon] at h ⊢
    case value v => exact key v w' h
    case skip => exact key undef w' h
    case defer x =>
      obtain ⟨h1, _⟩ := h
      exfalso
      have h2 : ({ b with defers := x :: b.defers }.put o.dst undef).defers = x :: b.defers := by rw [hd]; rfl
      rw [h2, hb] at h1
      have := congrArg List.length h1
      simp at this
    case enter f args =>
      refine Calls.mono h fun e w'' he => ?_
      cases e with
      | returned u => exact key u w'' he
      | panicked c => exact he.elim
      | outgrown => obtain ⟨_, _, h⟩ := he; exact h.elim
    case row row args => exact Rows.mono h fun u w'' he => key u w'' he
  | halt x w' =>
    cases x <;> simp only [Oper.upon] at h ⊢
    case panic u => exact h.elim

theorem wpAny_freeG {l : List Oper} {its : List (Tmp × List (Nat × Tmp))} {a0 : Act} {w0 : World} (hB : freeBG l.toArray its = true) (hsz : ∀ x ∈ its, x.1 < a0.tmps.size) (hst : Steadys ks)
    (hsteps : FreeSteps P l.toArray ks w0 a0 0 its)
    (hend : ∀ w, Below w0.heap.size w0 w → FreeEnd ks w (fun a => wpList P l.toArray Q (l.drop its.length) a w) 0 its a0) :
    ∀ (m : Nat) (L : Array Bool) (a : Act) (w : World), left L its.length = m → FreeInv l.toArray its ks a0 w0 L a w → wpAny P .any l.toArray Q (m + (l.length - its.length)) L a w := by
  simp only [freeBG, Bool.and_eq_true, decide_eq_true_eq, List.all_eq_true, List.mem_range] at hB
  obtain ⟨⟨⟨⟨⟨hsel, hn⟩, hs⟩, hc⟩, hone⟩, hseq⟩ := hB
  have hn' : its.length < l.length := by simpa using hn
  intro m
  induction m with
  | zero =>
    intro L a w hL inv
    have hall := left_zero its.length hL
    have hLe : L = allTrue l.toArray.size its.length := by
      apply Array.ext
      · rw [allTrue_size]; exact inv.head.size
      · intro j hj hj'
        have hj2 : j < l.toArray.size := by rw [allTrue_size] at hj'; exact hj'
        have e1 := allTrue_get l.toArray.size its.length j hj2
        have e2 : L.getD j false = decide (j < its.length) := by
          by_cases hlt : j < its.length
          · rw [hall j hlt]; simp [hlt]
          · rw [getD_both (inv.head.tail j (by omega) hj2)]; simp [hlt]
        have e3 := e2.trans e1.symm
        have e4 : L.getD j false = L[j] := by simp [hj]
        have e5 : (allTrue l.toArray.size its.length).getD j false = (allTrue l.toArray.size its.length)[j] := by simp only [Array.getD_eq_getD_getElem?, Array.getElem?_eq_getElem hj', Option.getD_some]
        rw [← e4, ← e5]
        exact e3
    have hfe := (hend w inv.rely).open (a := a) (fun j x hx => by
      have hlt : j < its.length := (List.getElem?_eq_some_iff.1 hx).1
      rw [Nat.zero_add]
      exact inv.known j x hx (hall j hlt))
    have hae : over a (its.map (·.1)) a0 = a := by
      refine act_ext ?_ ?_ fun t => ?_
      · rw [over_defers, inv.defers]
      · rw [over_size, inv.size]
      · refine over_get a t _ a0 inv.size ?_
        by_cases ht : t ∈ its.map (·.1)
        · exact .inl ht
        · refine .inr (inv.off t fun x hx e => ht (List.mem_map.2 ⟨x, hx, e⟩)).symm
    rw [hae] at hfe
    have hdl : (l.drop its.length).length = l.length - its.length := by simp
    have := wpAny_of_seq (md := .any) (P := P) (Q' := Q) (l.drop its.length) its.length L a w (fun j => by simp [List.getElem?_drop]) (by rw [hdl, hLe]; simpa using hseq) hfe
    rw [hdl] at this
    rw [Nat.zero_add]
    exact this
  | succ m ih =>
    intro L a w hL inv
    obtain ⟨i0, hi0, hf0, hmin⟩ := left_pos (L := L) its.length (by rw [hL]; exact Nat.succ_pos m)
    have hun0 : L.getD i0 true = false := getD_in (by rw [inv.head.size]; exact Nat.lt_trans hi0 hn) hf0
    have hfu : m + 1 + (l.length - its.length) = (m + (l.length - its.length)) + 1 := by clear hL hun0 hf0; omega
    rw [hfu]
    refine ⟨fun hr => ?_, fun i hi => ?_⟩
    · exfalso
      obtain ⟨o, d, ds, ho, _, _, haf, _, _⟩ := freeOneG_spec (hone i0 hi0)
      have : i0 ∈ Region.ready .any l.toArray L := mem_ready.2 ⟨hun0, o, ho, fun e he hb => hmin e.on (haf e he hb)⟩
      rw [hr] at this
      cases this
    · have hin : i < its.length := by
        rcases Nat.lt_or_ge i its.length with h | h
        · exact h
        · exact absurd hi (tail_waits hs hc hn inv.head _ i0 rfl hi0 hun0 i h)
      obtain ⟨hun, o', ho', hall⟩ := mem_ready.1 hi
      obtain ⟨o, d, ds, ho, hit, hd, haf, hdeps, hdist⟩ := freeOneG_spec (hone i hin)
      have hoe : o' = o := Option.some.inj (ho'.symm.trans ho)
      subst hoe
      have hlisted : ∀ x ∈ ds, L.getD x.1 false = true := by
        intro x hx
        obtain ⟨o2, ho2, e, he, hb, hon⟩ := Region.waitsFor_spec (hdeps x hx).1
        have : o2 = o' := Option.some.inj (ho2.symm.trans ho)
        subst this
        rw [← hon]
        exact hall e he hb
      have hdk : ∀ x ∈ ds, ∃ y, its[x.1]? = some y ∧ y.1 = x.2 := by
        intro x hx
        have h3 := (hdeps x hx).2.2
        cases hy : its[x.1]? with
        | none => rw [hy] at h3; cases h3
        | some y => rw [hy] at h3; exact ⟨y, rfl, Option.some.inj h3⟩
      have hst1 := hsteps.at i (d, ds) hit w inv.rely
      rw [Nat.zero_add] at hst1
      obtain ⟨o2, ho2, hwp⟩ := hst1.open (a := a) (fun x hx => by
        obtain ⟨y, hy, hy2⟩ := hdk x hx
        have := inv.known x.1 y hy (hlisted x hx)
        rwa [hy2] at this)
      have hoe2 : o2 = o' := Option.some.inj (ho2.symm.trans ho)
      subst hoe2
      have hsize : d < a0.tmps.size := hsz (d, ds) (List.mem_of_getElem? hit)
      have hlook : ∀ t ∈ o2.looksAt l.toArray, a.tmps.getD t undef = (over a (ds.map (·.2)) a0).tmps.getD t undef := by
        intro t ht
        refine (over_get a t _ a0 inv.size ?_).symm
        by_cases htd : t ∈ ds.map (·.2)
        · exact .inl htd
        · refine .inr (inv.off t fun x hx e => ?_).symm
          obtain ⟨j, hj, hjx⟩ := List.getElem_of_mem hx
          have hjs : its[j]? = some x := by rw [← hjx]; exact List.getElem?_eq_getElem hj
          rcases (hdist j x.1 x.2 hjs).2 with ⟨y, hy, hyj⟩ | hno
          · obtain ⟨z, hz, hz2⟩ := hdk y hy
            rw [hyj, hjs] at hz
            have : x = z := Option.some.inj hz
            subst this
            exact htd (List.mem_map.2 ⟨y, hy, by rw [← hz2, e]⟩)
          · rw [e] at hno
            exact hno ht
      have hsame : execOp a.eval o2 = execOp (over a (ds.map (·.2)) a0).eval o2 := run_same (ops := l.toArray) (Region.noSelect_spec hsel i o2 · · ho) hlook
      unfold wpOp
      simp only [ho]
      refine wp_carryG hd (wanted_same (by rw [over_size]; exact inv.size) hlook) hsame (by rw [over_defers]) (by rw [over_size]; exact hsize) hwp fun v w' hbel hk => ?_
      have hLs : i < L.size := by rw [inv.head.size]; exact Nat.lt_trans hin hn
      refine ih (L.setIfInBounds i true) _ w' ?_ ?_
      · have := left_set hLs (getD_both hun) its.length hin
        omega
      · refine ⟨inv.head.set hi hin, inv.defers, by simp [Act.put, inv.size], fun t ht => ?_, inv.rely.trans (hbel.mono inv.rely.size), fun j x hj hl => ?_⟩
        · rw [put_get_ne (ht (d, ds) (List.mem_of_getElem? hit))]
          exact inv.off t ht
        · by_cases hji : i = j
          · subst hji
            rw [hit] at hj
            cases hj
            rw [put_get (by rw [inv.size]; exact hsize)]
            exact hk
          · rw [getD_set_ne false hji] at hl
            have hne : x.1 ≠ d := by
              rcases (hdist j x.1 x.2 hj).1 with h | h
              · exact absurd h.symm hji
              · exact h
            rw [put_get_ne (fun e => hne e.symm)]
            exact hst.at j _ _ _ (inv.known j x hj hl) hbel

/-- the law: n operations in whatever order, each shown by itself; the rest in turn -/
theorem wp_region_freeG {id : Nat} {l : List Oper} {a0 : Act} {w : World} (its : List (Tmp × List (Nat × Tmp))) (ks : List Known) (hm : P.follows .mixedOrders = true) (hB : freeBG l.toArray its = true) (hsz : (its.all fun x => decide (x.1 < a0.tmps.size)) = true) (hst : Steadys ks)
    (hsteps : FreeSteps P l.toArray ks w.drew a0 0 its)
    (hend : ∀ w', Below w.heap.size w.drew w' → FreeEnd ks w' (fun a => wpList P l.toArray Q (l.drop its.length) a w') 0 its a0) : (Code.region id l.toArray true).wp P Q a0 w := by
  refine wp_region_any hm ?_
  have hn : its.length < l.length := by
    simp only [freeBG, Bool.and_eq_true, decide_eq_true_eq] at hB
    simpa using hB.1.1.1.1.2
  have hsz' : ∀ x ∈ its, x.1 < a0.tmps.size := fun x hx => by simpa using List.all_eq_true.1 hsz x hx
  have := wpAny_freeG (Q := Q) (w0 := w.drew) hB hsz' hst hsteps hend its.length (Array.replicate l.toArray.size false) a0 w.drew (left_all _ _)
    ⟨⟨by simp, fun j oj _ hl => (by rw [getD_replicate_false] at hl; cases hl), fun t _ ht => getD_in (by simpa using ht) (getD_replicate_false _ _)⟩, rfl, rfl, fun _ _ => rfl, Below.refl _ _, fun i x _ hl => (by rw [getD_replicate_false] at hl; cases hl)⟩
  rw [show its.length + (l.length - its.length) = l.toArray.size by simp; omega] at this
  exact this
end
end Go.Proofs.Ytnfffipkgaobhaa
namespace Go.Proofs.Ytnfffipkgaobhaa
set_option linter.unusedSimpArgs false
set_option linter.unusedVariables false
open Go.RowKit
set_option maxRecDepth 100000

theorem cl_seal_atE (x : Vote) (hi : x.id.length = 32) (j : Nat) (u : Value) (h : (bv x.sl)[j]? = some u) : x.cl.toArray[37 + j]? = some u := by
  have e : x.cl = ([.int .i64 x.kind, .int .u64 x.height, .int .i64 x.round] ++ bv x.id ++ [.int .u64 x.time, .int .u64 x.frm]) ++ bv x.sl := by simp [Vote.cl]
  have el : ([.int .i64 x.kind, .int .u64 x.height, .int .i64 x.round] ++ bv x.id ++ [.int .u64 x.time, .int .u64 x.frm] : List Value).length = 37 := by simp [bv_length, hi]
  rw [List.getElem?_toArray, e, List.getElem?_append_right (by omega), el, Nat.add_sub_cancel_left]
  exact h
/-- evidence: two votes -/
structure Ev where
  a : Vote
  b : Vote
def Ev.cl (x : Ev) : List Value := x.a.cl ++ x.b.cl
structure Ev.ok (x : Ev) : Prop where
  a : x.a.ok
  b : x.b.ok
def fvE (x : Vote) : List UInt8 := encVote x ++ x.sl
def formEv (x : Ev) : List UInt8 := fvE x.a ++ fvE x.b
theorem Ev.cl_len (x : Ev) (h : x.ok) : x.cl.length = 106 := by simp [Ev.cl, x.a.cl_len h.a, x.b.cl_len h.b]
theorem Ev.cl_a (x : Ev) (h : x.ok) : x.cl.toArray.extract 0 (0 + 53) = x.a.cl.toArray := by
  refine extract_cl _ _ _ _ ?_
  rw [Ev.cl, List.drop_zero, show 0 + 53 - 0 = x.a.cl.length by rw [x.a.cl_len h.a], List.take_left]
theorem Ev.cl_b (x : Ev) (h : x.ok) : x.cl.toArray.extract 53 (53 + 53) = x.b.cl.toArray := by
  refine extract_cl _ _ _ _ ?_
  rw [Ev.cl, show x.a.cl ++ x.b.cl = x.a.cl ++ (x.b.cl ++ []) by simp, show (53 : Nat) = x.a.cl.length by rw [x.a.cl_len h.a], List.drop_left, show x.a.cl.length + x.a.cl.length - x.a.cl.length = x.b.cl.length by rw [x.a.cl_len h.a, x.b.cl_len h.b], List.take_left]
theorem info_Ev : (Try.prog.info? 59).map (·.size) = some 106 := by kernel_rfl
theorem cl_allN {l : List Value} {n : Nat} (h : l.length = n) : l.toArray.extract 0 (0 + n) = l.toArray := by
  apply Array.ext'
  simp [List.take_of_length_le (Nat.le_of_eq h)]

theorem bytesOf_nat (l : List UInt8) : Lib.bytesOf (l.map fun b => (b.toNat : Int)) = l := by
  unfold Lib.bytesOf
  rw [List.map_map]
  exact (List.map_congr_left (g := id) (fun b _ => by simp)).trans (List.map_id l)
theorem run_cmpSlices {P : Program} (w : World) (a b : Addr) (l r : List UInt8) (n m ca cb : Nat) (hn : l.length = n) (hm : r.length = m) (h1 : Rd w (some a) (bv l)) (h2 : Rd w (some b) (bv r)) :
    (Extern.BytealgCompare.compare #[.slice (some a) n ca, .slice (some b) m cb]).run P w = .ok (.int .i64 (Lib.compareBytes l r)) w := by
  have key : ∀ (a : Addr) (l : List UInt8), Rd w (some a) (bv l) → (Extern.Bytes.loadBytes a l.length .empty).run P w = .ok ⟨l.toArray⟩ w := by
    intro a l h
    have hl := Lib.run_loadBytesX (P := P) w (l.map fun b => (b.toNat : Int)) a .empty (fun j x hj => by
      rw [List.getElem?_map] at hj
      obtain ⟨y, hy, rfl⟩ := Option.map_eq_some_iff.1 hj
      obtain ⟨a', ha, hc⟩ := h j (.int .u8 (y.toNat : Int)) (by rw [bv_get, hy]; rfl)
      injection ha with ha
      subst ha
      exact hc)
    rw [List.length_map, bytesOf_nat] at hl
    rw [hl]
    congr 1
    apply ByteArray.ext
    show (#[] : Array UInt8) ++ l.toArray = l.toArray
    simp
  subst hn hm
  have k1 := key a l h1
  have k2 := key b r h2
  change Sem.run P (do pure (goInt (Extern.BytealgCompare.cmp (← Extern.Bytes.bytesOf (.slice (some a) l.length ca)) (← Extern.Bytes.bytesOf (.slice (some b) r.length cb))))) w = _
  simp only [Extern.Bytes.bytesOf, Sem.run_bind, Sem.run_pure, k1, k2, Result.andThen]
  rw [Lib.cmp_eq]
  rfl
end Go.Proofs.Ytnfffipkgaobhaa

/-
  A pair of votes as evidence: its cells, and how it is laid down; the comparing of bytes. Conditions: each number fits its kind; the Writer has room.
  A region that draws its order, with guards, in which several operations make new memory: the law of XFreeG, and that what these make lies apart. No condition: lemmas over any program.
-/
import Derived.Lib.BytesEntry
import Derived.Laws.Externs
import Derived.Test.YtlhnhjglcbggmaaGreatRRY08
import Derived.Test.YtlhnhjglcbggmaaGreatRRY05
import Derived.Test.YtlhnhjglcbggmaaGreatRRY04
namespace Go.Proofs.YtlhnhjglcbggmaaGreatRR
set_option linter.unusedSimpArgs false
set_option linter.unusedVariables false
open Go.RowKit
set_option maxRecDepth 100000

theorem cl_seal_atE (x : Vote) (hi : x.id.length = 32) (j : Nat) (u : Value) (h : (bv x.sl)[j]? = some u) : x.cl.toArray[37 + j]? = some u := by
 have e : x.cl = ([.int .i64 x.kind, .int .u64 x.height, .int .i64 x.round] ++ bv x.id ++ [.int .u64 x.time, .int .u64 x.frm]) ++ bv x.sl := by simp [Vote.cl]
 have el : ([.int .i64 x.kind, .int .u64 x.height, .int .i64 x.round] ++ bv x.id ++ [.int .u64 x.time, .int .u64 x.frm] : List Value).length = 37 := by simp [bv_length, hi]
 rw [List.getElem?_toArray, e, List.getElem?_append_right (by omega), el, Nat.add_sub_cancel_left]
 exact h
set_option maxHeartbeats 1000000 in
theorem putVote_rawE (w : World) (B g : Nat) (bs : List UInt8) (x : Vote) (hx : x.ok) (hp : VoteB x) (hw : Wr w B g bs) (hb : bs.length + 200 ≤ room46) :
  Calls Tryz.prog 76 #[.pointer (some ⟨g, 0, none⟩), .agg x.cl.toArray, .func (.func 77) #[.pointer (some ⟨g, 0, none⟩)] #[]] w fun e w' => e = .returned (.tuple #[]) ∧ Wr w' B g (bs ++ (encVote x ++ x.sl)) ∧ Eff B WrT w w' := by
 obtain ⟨k1, k2, h1, h2, r1, r2, t1, t2, _, f1, f2⟩ := hp
 have lh := varB_int (n := x.height) (by omega) (by unfold two64; omega)
 have lr := varB_int (n := x.round) (by omega) (by unfold two64; omega)
 have lt := varB_int (n := x.time) (by omega) (by unfold two64; omega)
 have lf := varB_int (n := x.frm) (by omega) (by unfold two64; omega)
 have li := hx.id
 have ls := hx.sl
 have F2 := Lib.hid f2; clear f2
 have Li := Lib.hid li; clear li
 have Ls := Lib.hid ls; clear ls
 go_enter Tryz.func76, Tryz.ntmps76
 go_wp2_with (refine wpList_box_bk rfl _ _ rfl _ rfl ?_)
 intro bx w1 hk hbl hg hs
 clear hg hs
 have hw1 := hw.below hbl
 have c0 : w1.cell? ⟨bx, 0, none⟩ = some (.int .i64 x.kind) := hk.cell 0
 go_wp2_with fail
 refine (byte_int _ B g bs x.kind hw1 (by omega) (by omega) (by omega)).mono ?_
 rintro e w2 ⟨rfl, hw2, e2⟩
 have hk2 := hk.effT e2 (by decide)
 have c1 : w2.cell? ⟨bx, 1, none⟩ = some (.int .u64 x.height) := hk2.cell 1
 go_wp2_with fail
 refine (var_int _ B g _ x.height hw2 (by omega) (by unfold two64; omega) (by simp only [List.length_append, List.length_cons, List.length_nil]; omega)).mono ?_
 rintro e w3 ⟨rfl, hw3, e3⟩
 have hk3 := hk2.effT e3 (by decide)
 have c2 : w3.cell? ⟨bx, 2, none⟩ = some (.int .i64 x.round) := hk3.cell 2
 go_wp2_with fail
 refine (var_int _ B g _ x.round hw3 (by omega) (by unfold two64; omega) (by simp only [List.length_append, List.length_cons, List.length_nil]; omega)).mono ?_
 rintro e w4 ⟨rfl, hw4, e4⟩
 have hk4 := hk3.effT e4 (by decide)
 go_wp2_with (refine wpList_load_part rfl 29 _ rfl bx 3 32 rfl _ _ _ hk4 Tryz.underlying29 rfl info_hash (by have := x.cl_len hx; simp [this]) _ (x.cl_id hx.id) ?_)
 refine (putHash_any _ B g _ x.id hw4 Li.out (by simp only [List.length_append, List.length_cons, List.length_nil]; omega)).mono ?_
 rintro e w5 ⟨rfl, hw5, e5⟩
 have hk5 := hk4.effT e5 (by decide)
 have c3 : w5.cell? ⟨bx, 35, none⟩ = some (.int .u64 x.time) := (hk5.cell 35).trans (x.cl_35 hx.id)
 go_wp2_with fail
 refine (var_int _ B g _ x.time hw5 (by omega) (by unfold two64; omega) (by simp only [List.length_append, List.length_cons, List.length_nil, Li.out]; omega)).mono ?_
 rintro e w6 ⟨rfl, hw6, e6⟩
 have hk6 := hk5.effT e6 (by decide)
 have c4 : w6.cell? ⟨bx, 36, none⟩ = some (.int .u64 x.frm) := (hk6.cell 36).trans (x.cl_36 hx.id)
 go_wp2_with fail
 refine (var_int _ B g _ x.frm hw6 (by omega) (by unfold two64; exact F2.out) (by simp only [List.length_append, List.length_cons, List.length_nil, Li.out]; omega)).mono ?_
 rintro e w7 ⟨rfl, hw7, e7⟩
 have hk7 := hk6.effT e7 (by decide)
 have hr7 : Rd w7 (some ⟨bx, 37, none⟩) (bv x.sl) := Rd.of_bk hk7 37 _ (fun j u hu => cl_seal_atE x hx.id j u hu)
 go_wp2_with fail
 refine (raw_any _ B g _ x.sl _ 16 16 hw7 hr7 Ls.out (by simp only [List.length_append, List.length_cons, List.length_nil, Li.out]; omega)).mono ?_
 rintro e w8 ⟨rfl, hw8, e8⟩
 go_wp2
 go_end0
 refine ⟨rfl, ?_, (Eff.of_below hbl _ _).trans (e2.trans (e3.trans (e4.trans (e5.trans (e6.trans (e7.trans e8))))))⟩
 unfold encVote
 simpa only [List.append_assoc] using hw8


/-- evidence: two votes -/
structure Ev where
 a : Vote
 b : Vote
def Ev.cl (x : Ev) : List Value := x.a.cl ++ x.b.cl
structure Ev.ok (x : Ev) : Prop where
 a : x.a.ok
 b : x.b.ok
def fvE (x : Vote) : List UInt8 := encVote x ++ x.sl
def formEv (x : Ev) : List UInt8 := fvE x.a ++ fvE x.b
theorem Ev.cl_len (x : Ev) (h : x.ok) : x.cl.length = 106 := by simp [Ev.cl, x.a.cl_len h.a, x.b.cl_len h.b]
theorem Ev.cl_a (x : Ev) (h : x.ok) : x.cl.toArray.extract 0 (0 + 53) = x.a.cl.toArray := by
 refine extract_cl _ _ _ _ ?_
 rw [Ev.cl, List.drop_zero, show 0 + 53 - 0 = x.a.cl.length by rw [x.a.cl_len h.a], List.take_left]
theorem Ev.cl_b (x : Ev) (h : x.ok) : x.cl.toArray.extract 53 (53 + 53) = x.b.cl.toArray := by
 refine extract_cl _ _ _ _ ?_
 rw [Ev.cl, show x.a.cl ++ x.b.cl = x.a.cl ++ (x.b.cl ++ []) by simp, show (53 : Nat) = x.a.cl.length by rw [x.a.cl_len h.a], List.drop_left, show x.a.cl.length + x.a.cl.length - x.a.cl.length = x.b.cl.length by rw [x.a.cl_len h.a, x.b.cl_len h.b], List.take_left]
theorem info_Ev : (Tryz.prog.info? 38).map (·.size) = some 106 := by kernel_rfl
theorem cl_allN {l : List Value} {n : Nat} (h : l.length = n) : l.toArray.extract 0 (0 + n) = l.toArray := by
 apply Array.ext'
 simp [List.take_of_length_le (Nat.le_of_eq h)]

set_option maxHeartbeats 1000000 in
theorem putEvidence_any (w : World) (B g : Nat) (bs : List UInt8) (x : Ev) (hx : x.ok) (ha : VoteB x.a) (hb : VoteB x.b) (hw : Wr w B g bs) (hr : bs.length + 600 ≤ room46) :
  Calls Tryz.prog 43 #[.pointer (some ⟨g, 0, none⟩), .agg x.cl.toArray] w fun e w' => e = .returned (.tuple #[]) ∧ Wr w' B g (bs ++ formEv x) ∧ Eff B WrT w w' := by
 have HX := Lib.hid hx
 have HA := Lib.hid ha
 have HB := Lib.hid hb
 have HL := Lib.hid (x.cl_len hx)
 have LA := Lib.hid (encVote_len hx.a ha)
 have LS := Lib.hid hx.a.sl
 clear hx ha hb
 go_enter Tryz.func43, Tryz.ntmps43
 go_wp2_with (with_reducible show wpList _ _ _ (Oper.mk _ (Op.box _ _) _ _ _ _ :: _) _ _; refine wpList_box_bk rfl _ _ rfl _ rfl ?_)
 intro bx w1 hk hbl hg hs
 clear hg hs
 have HK := Lib.hid (bk_eqT (cs' := x.cl.toArray) hk rfl)
 have hw1 := hw.below hbl
 clear hk
 go_wp2_with (with_reducible show wpList _ _ _ (Oper.mk (some 6) (Op.load _ _) _ _ _ _ :: _) _ _; refine wpList_load_part rfl 31 _ rfl bx 0 53 rfl _ _ _ HK.out Tryz.underlying31 rfl info_Vote (by simp [HL.out]) _ (x.cl_a HX.out) ?_)
 refine (putVote_rawE w1 B g bs x.a HX.out.a HA.out hw1 (by omega)).mono ?_
 rintro e w2 ⟨rfl, hw2, e2⟩
 have HK2 := Lib.hid (HK.out.effT e2 (by decide))
 go_wp2_with (with_reducible show wpList _ _ _ (Oper.mk (some 12) (Op.load _ _) _ _ _ _ :: _) _ _; refine wpList_load_part rfl 31 _ rfl bx 53 53 rfl _ _ _ HK2.out Tryz.underlying31 rfl info_Vote (by simp [HL.out]) _ (x.cl_b HX.out) ?_)
 refine (putVote_rawE w2 B g _ x.b HX.out.b HB.out hw2 (by simp only [List.length_append, LS.out]; have := LA.out; omega)).mono ?_
 rintro e w3 ⟨rfl, hw3, e3⟩
 go_wp2
 go_end0
 refine ⟨rfl, ?_, (Eff.of_below hbl _ _).trans (e2.trans e3)⟩
 unfold formEv fvE
 simpa only [List.append_assoc] using hw3

-- ---- bytes.Compare
theorem bytesOf_nat (l : List UInt8) : Lib.bytesOf (l.map fun b => (b.toNat : Int)) = l := by
 unfold Lib.bytesOf
 rw [List.map_map]
 exact (List.map_congr_left (g := id) (fun b _ => by simp)).trans (List.map_id l)
theorem run_cmpSlices {P : Program} (w : World) (a b : Addr) (l r : List UInt8) (n m ca cb : Nat) (hn : l.length = n) (hm : r.length = m) (h1 : Rd w (some a) (bv l)) (h2 : Rd w (some b) (bv r)) :
  (Extern.BytealgCompare.compare #[.slice (some a) n ca, .slice (some b) m cb]).run P w = .ok (.int .i64 (Lib.compareBytes l r)) w := by
 have key : ∀ (a : Addr) (l : List UInt8), Rd w (some a) (bv l) → (Extern.Bytes.loadBytes a l.length .empty).run P w = .ok ⟨l.toArray⟩ w := by
  intro a l h
  have hl := Lib.run_loadBytesX (P := P) w (l.map fun b => (b.toNat : Int)) a .empty (fun j x hj => by
   rw [List.getElem?_map] at hj
   obtain ⟨y, hy, rfl⟩ := Option.map_eq_some_iff.1 hj
   obtain ⟨a', ha, hc⟩ := h j (.int .u8 (y.toNat : Int)) (by rw [bv_get, hy]; rfl)
   injection ha with ha
   subst ha
   exact hc)
  rw [List.length_map, bytesOf_nat] at hl
  rw [hl]
  congr 1
  apply ByteArray.ext
  show (#[] : Array UInt8) ++ l.toArray = l.toArray
  simp
 subst hn hm
 have k1 := key a l h1
 have k2 := key b r h2
 change Sem.run P (do pure (goInt (Extern.BytealgCompare.cmp (← Extern.Bytes.bytesOf (.slice (some a) l.length ca)) (← Extern.Bytes.bytesOf (.slice (some b) r.length cb))))) w = _
 simp only [Extern.Bytes.bytesOf, Sem.run_bind, Sem.run_pure, k1, k2, Result.andThen]
 rw [Lib.cmp_eq]
 rfl
set_option maxHeartbeats 400000 in
theorem bytesCompare_any (w : World) (a b : Addr) (l r : List UInt8) (n m ca cb : Nat) (hn : l.length = n) (hm : r.length = m) (h1 : Rd w (some a) (bv l)) (h2 : Rd w (some b) (bv r)) :
  Calls Tryz.prog 88 #[.slice (some a) n ca, .slice (some b) m cb] w fun e w' => e = .returned (.int .i64 (Lib.compareBytes l r)) ∧ w = w' := by
 have hl := run_cmpSlices (P := Tryz.prog) w a b l r n m ca cb hn hm h1 h2
 go_enter Tryz.func88, Tryz.ntmps88
 go_wp2
 rw [run_callFunc_extern Tryz.func140 (by kernel_rfl) (by kernel_rfl) (by kernel_rfl) (e := Extern.BytealgCompare.compare) (by kernel_rfl), hl]
 simp only [Result.andThen]
 rw [Oper.upon_value]
 go_wp2
 go_ret
 exact ⟨rfl, rfl⟩
end Go.Proofs.YtlhnhjglcbggmaaGreatRR
namespace Go.Proofs.YtlhnhjglcbggmaaGreatRR
set_option linter.unusedSimpArgs false
set_option linter.unusedVariables false
open Go.RowKit

/-- a pointer to new memory -/
def NewAt (w : World) (v : Value) (w' : World) : Prop := ∃ g, v = .pointer (some ⟨g, 0, none⟩) ∧ w.heap.size ≤ g ∧ g < w'.heap.size
def katF (ks : List Known) (fs : List Nat) (w : World) (i : Nat) : Known := fun v w' => kat ks i v w' ∧ (i ∈ fs → NewAt w v w')
section
variable (P : Program) (ops : Array Oper) (ks : List Known) (fs : List Nat)
def FreeStepF (w : World) (a0 : Act) (i : Nat) (d : Tmp) : List (Nat × Tmp) → Act → Prop
 | [], a => ∃ o, ops[i]? = some o ∧ wpList P ops (QStep a0 d (katF ks fs w i) w) [o] a w
 | (e, t) :: ds, a => ∀ v, kat ks e v w → FreeStepF w a0 i d ds (a.put (some t) v)
def FreeStepsF (w0 : World) (a0 : Act) : Nat → List (Tmp × List (Nat × Tmp)) → Prop
 | _, [] => True
 | i, (t, ds) :: xs => (∀ w, Below w0.heap.size w0 w → FreeStepF P ops ks fs w a0 i t ds a0) ∧ FreeStepsF w0 a0 (i + 1) xs
end
/-- what the operations fs have made lies apart -/
def ApartF (its : List (Tmp × List (Nat × Tmp))) (fs : List Nat) (a : Act) : Prop :=
 ∀ i j x y gi gj, i ∈ fs → j ∈ fs → i ≠ j → its[i]? = some x → its[j]? = some y → a.tmps.getD x.1 undef = .pointer (some ⟨gi, 0, none⟩) → a.tmps.getD y.1 undef = .pointer (some ⟨gj, 0, none⟩) → gi ≠ gj
section
variable {P : Program} {ops : Array Oper} {ks : List Known} {fs : List Nat} {Q : Exit → Act → World → Prop}
theorem FreeStepF.open {w : World} {a0 a : Act} {i : Nat} {d : Tmp} : ∀ {ds : List (Nat × Tmp)} {b : Act}, FreeStepF P ops ks fs w a0 i d ds b → (∀ x ∈ ds, kat ks x.1 (a.tmps.getD x.2 undef) w) →
  ∃ o, ops[i]? = some o ∧ wpList P ops (QStep a0 d (katF ks fs w i) w) [o] (over a (ds.map (·.2)) b) w
 | [], _, h, _ => h
 | (e, t) :: ds, b, h, hk => FreeStepF.open (ds := ds) (h _ (hk (e, t) (List.mem_cons_self ..))) (fun x hx => hk x (List.mem_cons_of_mem _ hx))
theorem FreeStepsF.at {w0 : World} {a0 : Act} : ∀ {its : List (Tmp × List (Nat × Tmp))} {k : Nat}, FreeStepsF P ops ks fs w0 a0 k its → ∀ j x, its[j]? = some x → ∀ w, Below w0.heap.size w0 w → FreeStepF P ops ks fs w a0 (k + j) x.1 x.2 a0
 | [], _, _, _, _, h => by cases h
 | (t, ds) :: its, k, h, 0, x, hx => by cases hx; exact h.1
 | (t, ds) :: its, k, h, j + 1, x, hx => by
  have := FreeStepsF.at (its := its) h.2 j x (by simpa using hx)
  rwa [show k + 1 + j = k + (j + 1) by omega] at this

structure FreeInvF (ops : Array Oper) (its : List (Tmp × List (Nat × Tmp))) (ks : List Known) (fs : List Nat) (a0 : Act) (w0 : World) (L : Array Bool) (a : Act) (w : World) : Prop where
 head : HeadInv .any ops its.length L
 defers : a.defers = a0.defers
 size : a.tmps.size = a0.tmps.size
 off : ∀ t, (∀ x ∈ its, x.1 ≠ t) → a.tmps.getD t undef = a0.tmps.getD t undef
 rely : Below w0.heap.size w0 w
 known : ∀ i x, its[i]? = some x → L.getD i false = true → kat ks i (a.tmps.getD x.1 undef) w
 fresh : ∀ i x, i ∈ fs → its[i]? = some x → L.getD i false = true → ∃ g, a.tmps.getD x.1 undef = .pointer (some ⟨g, 0, none⟩) ∧ g < w.heap.size
 apart : ∀ i j x y gi gj, i ∈ fs → j ∈ fs → i ≠ j → its[i]? = some x → its[j]? = some y → L.getD i false = true → L.getD j false = true → a.tmps.getD x.1 undef = .pointer (some ⟨gi, 0, none⟩) → a.tmps.getD y.1 undef = .pointer (some ⟨gj, 0, none⟩) → gi ≠ gj
theorem wpAny_freeF {l : List Oper} {its : List (Tmp × List (Nat × Tmp))} {a0 : Act} {w0 : World} (hB : freeBG l.toArray its = true) (hsz : ∀ x ∈ its, x.1 < a0.tmps.size) (hst : Steadys ks)
  (hsteps : FreeStepsF P l.toArray ks fs w0 a0 0 its)
  (hend : ∀ w, Below w0.heap.size w0 w → FreeEnd ks w (fun a => ApartF its fs a → wpList P l.toArray Q (l.drop its.length) a w) 0 its a0) :
  ∀ (m : Nat) (L : Array Bool) (a : Act) (w : World), left L its.length = m → FreeInvF l.toArray its ks fs a0 w0 L a w → wpAny P .any l.toArray Q (m + (l.length - its.length)) L a w := by
 simp only [freeBG, Bool.and_eq_true, decide_eq_true_eq, List.all_eq_true, List.mem_range] at hB
 obtain ⟨⟨⟨⟨⟨hsel, hn⟩, hs⟩, hc⟩, hone⟩, hseq⟩ := hB
 have hn' : its.length < l.length := by simpa using hn
 intro m
 induction m with
 | zero =>
  intro L a w hL inv
  have hall := left_zero its.length hL
  have hLe : L = allTrue l.toArray.size its.length := by
   apply Array.ext
   ·rw [allTrue_size]; exact inv.head.size
   ·intro j hj hj'
    have hj2 : j < l.toArray.size := by rw [allTrue_size] at hj'; exact hj'
    have e1 := allTrue_get l.toArray.size its.length j hj2
    have e2 : L.getD j false = decide (j < its.length) := by
     by_cases hlt : j < its.length
     ·rw [hall j hlt]; simp [hlt]
     ·rw [getD_both (inv.head.tail j (by omega) hj2)]; simp [hlt]
    have e3 := e2.trans e1.symm
    have e4 : L.getD j false = L[j] := by simp [hj]
    have e5 : (allTrue l.toArray.size its.length).getD j false = (allTrue l.toArray.size its.length)[j] := by simp only [Array.getD_eq_getD_getElem?, Array.getElem?_eq_getElem hj', Option.getD_some]
    rw [← e4, ← e5]
    exact e3
  have hfe := (hend w inv.rely).open (a := a) (fun j x hx => by
   have hlt : j < its.length := (List.getElem?_eq_some_iff.1 hx).1
   rw [Nat.zero_add]
   exact inv.known j x hx (hall j hlt))
  have hae : over a (its.map (·.1)) a0 = a := by
   refine act_ext ?_ ?_ fun t => ?_
   ·rw [over_defers, inv.defers]
   ·rw [over_size, inv.size]
   ·refine over_get a t _ a0 inv.size ?_
    by_cases ht : t ∈ its.map (·.1)
    ·exact .inl ht
    ·refine .inr (inv.off t fun x hx e => ht (List.mem_map.2 ⟨x, hx, e⟩)).symm
  rw [hae] at hfe
  have hfe := hfe (fun i j x y gi gj hi hj hij hx hy h1 h2 => inv.apart i j x y gi gj hi hj hij hx hy (hall i (List.getElem?_eq_some_iff.1 hx).1) (hall j (List.getElem?_eq_some_iff.1 hy).1) h1 h2)
  have hdl : (l.drop its.length).length = l.length - its.length := by simp
  have := wpAny_of_seq (md := .any) (P := P) (Q' := Q) (l.drop its.length) its.length L a w (fun j => by simp [List.getElem?_drop]) (by rw [hdl, hLe]; simpa using hseq) hfe
  rw [hdl] at this
  rw [Nat.zero_add]
  exact this
 | succ m ih =>
  intro L a w hL inv
  obtain ⟨i0, hi0, hf0, hmin⟩ := left_pos (L := L) its.length (by rw [hL]; exact Nat.succ_pos m)
  have hun0 : L.getD i0 true = false := getD_in (by rw [inv.head.size]; exact Nat.lt_trans hi0 hn) hf0
  have hfu : m + 1 + (l.length - its.length) = (m + (l.length - its.length)) + 1 := by clear hL hun0 hf0; omega
  rw [hfu]
  refine ⟨fun hr => ?_, fun i hi => ?_⟩
  ·exfalso
   obtain ⟨o, d, ds, ho, _, _, haf, _, _⟩ := freeOneG_spec (hone i0 hi0)
   have : i0 ∈ Region.ready .any l.toArray L := mem_ready.2 ⟨hun0, o, ho, fun e he hb => hmin e.on (haf e he hb)⟩
   rw [hr] at this
   cases this
  ·have hin : i < its.length := by
    rcases Nat.lt_or_ge i its.length with h | h
    ·exact h
    ·exact absurd hi (tail_waits hs hc hn inv.head _ i0 rfl hi0 hun0 i h)
   obtain ⟨hun, o', ho', hall⟩ := mem_ready.1 hi
   obtain ⟨o, d, ds, ho, hit, hd, haf, hdeps, hdist⟩ := freeOneG_spec (hone i hin)
   have hoe : o' = o := Option.some.inj (ho'.symm.trans ho)
   subst hoe
   have hlisted : ∀ x ∈ ds, L.getD x.1 false = true := by
    intro x hx
    obtain ⟨o2, ho2, e, he, hb, hon⟩ := Region.waitsFor_spec (hdeps x hx).1
    have : o2 = o' := Option.some.inj (ho2.symm.trans ho)
    subst this
    rw [← hon]
    exact hall e he hb
   have hdk : ∀ x ∈ ds, ∃ y, its[x.1]? = some y ∧ y.1 = x.2 := by
    intro x hx
    have h3 := (hdeps x hx).2.2
    cases hy : its[x.1]? with
    | none => rw [hy] at h3; cases h3
    | some y => rw [hy] at h3; exact ⟨y, rfl, Option.some.inj h3⟩
   have hst1 := hsteps.at i (d, ds) hit w inv.rely
   rw [Nat.zero_add] at hst1
   obtain ⟨o2, ho2, hwp⟩ := hst1.open (a := a) (fun x hx => by
    obtain ⟨y, hy, hy2⟩ := hdk x hx
    have := inv.known x.1 y hy (hlisted x hx)
    rwa [hy2] at this)
   have hoe2 : o2 = o' := Option.some.inj (ho2.symm.trans ho)
   subst hoe2
   have hsize : d < a0.tmps.size := hsz (d, ds) (List.mem_of_getElem? hit)
   have hlook : ∀ t ∈ o2.looksAt l.toArray, a.tmps.getD t undef = (over a (ds.map (·.2)) a0).tmps.getD t undef := by
    intro t ht
    refine (over_get a t _ a0 inv.size ?_).symm
    by_cases htd : t ∈ ds.map (·.2)
    ·exact .inl htd
    ·refine .inr (inv.off t fun x hx e => ?_).symm
     obtain ⟨j, hj, hjx⟩ := List.getElem_of_mem hx
     have hjs : its[j]? = some x := by rw [← hjx]; exact List.getElem?_eq_getElem hj
     rcases (hdist j x.1 x.2 hjs).2 with ⟨y, hy, hyj⟩ | hno
     ·obtain ⟨z, hz, hz2⟩ := hdk y hy
      rw [hyj, hjs] at hz
      have : x = z := Option.some.inj hz
      subst this
      exact htd (List.mem_map.2 ⟨y, hy, by rw [← hz2, e]⟩)
     ·rw [e] at hno
      exact hno ht
   have hsame : execOp a.eval o2 = execOp (over a (ds.map (·.2)) a0).eval o2 := run_same (ops := l.toArray) (Region.noSelect_spec hsel i o2 · · ho) hlook
   unfold wpOp
   simp only [ho]
   refine wp_carryG hd (wanted_same (by rw [over_size]; exact inv.size) hlook) hsame (by rw [over_defers]) (by rw [over_size]; exact hsize) hwp fun v w' hbel hkk => ?_
   obtain ⟨hk, hnew⟩ := hkk
   have hLs : i < L.size := by rw [inv.head.size]; exact Nat.lt_trans hin hn
   refine ih (L.setIfInBounds i true) _ w' ?_ ?_
   ·have := left_set hLs (getD_both hun) its.length hin
    omega
   ·have hkeep : ∀ j x, its[j]? = some x → j ≠ i → (a.put (some d) v).tmps.getD x.1 undef = a.tmps.getD x.1 undef := by
     intro j x hj hji
     have hne : x.1 ≠ d := by
      rcases (hdist j x.1 x.2 hj).1 with h | h
      ·exact absurd h hji
      ·exact h
     exact put_get_ne (fun e => hne e.symm)
    have hself : (a.put (some d) v).tmps.getD d undef = v := put_get (by rw [inv.size]; exact hsize)
    refine ⟨inv.head.set hi hin, inv.defers, by simp [Act.put, inv.size], fun t ht => ?_, inv.rely.trans (hbel.mono inv.rely.size), fun j x hj hl => ?_, fun j x hjf hj hl => ?_, fun j k x y gj gk hjf hkf hjk hj hk2 hlj hlk e1 e2 => ?_⟩
    ·rw [put_get_ne (ht (d, ds) (List.mem_of_getElem? hit))]
     exact inv.off t ht
    ·by_cases hji : j = i
     ·subst hji
      rw [hit] at hj
      cases hj
      rw [hself]
      exact hk
     ·rw [getD_set_ne false (fun e => hji e.symm)] at hl
      rw [hkeep j x hj hji]
      exact hst.at j _ _ _ (inv.known j x hj hl) hbel
    ·by_cases hji : j = i
     ·subst hji
      rw [hit] at hj
      cases hj
      rw [hself]
      obtain ⟨g, hg, _, hlt⟩ := hnew hjf
      exact ⟨g, hg, hlt⟩
     ·rw [getD_set_ne false (fun e => hji e.symm)] at hl
      rw [hkeep j x hj hji]
      obtain ⟨g, hg, hlt⟩ := inv.fresh j x hjf hj hl
      exact ⟨g, hg, Nat.lt_of_lt_of_le hlt hbel.size⟩
    ·by_cases hji : j = i
     ·have hki : k ≠ i := fun e => hjk (hji.trans e.symm)
      rw [getD_set_ne false (fun e => hki e.symm)] at hlk
      rw [hkeep k y hk2 hki] at e2
      obtain ⟨g, hg, hlt⟩ := inv.fresh k y hkf hk2 hlk
      rw [hg] at e2
      subst hji
      rw [hit] at hj
      cases hj
      rw [hself] at e1
      obtain ⟨g', hg', hle, _⟩ := hnew hjf
      rw [hg'] at e1
      injection e1 with e1; injection e1 with e1; injection e1 with e1
      injection e2 with e2; injection e2 with e2; injection e2 with e2
      omega
     ·rw [getD_set_ne false (fun e => hji e.symm)] at hlj
      rw [hkeep j x hj hji] at e1
      by_cases hki : k = i
      ·obtain ⟨g, hg, hlt⟩ := inv.fresh j x hjf hj hlj
       rw [hg] at e1
       subst hki
       rw [hit] at hk2
       cases hk2
       rw [hself] at e2
       obtain ⟨g', hg', hle, _⟩ := hnew hkf
       rw [hg'] at e2
       injection e1 with e1; injection e1 with e1; injection e1 with e1
       injection e2 with e2; injection e2 with e2; injection e2 with e2
       omega
      ·rw [getD_set_ne false (fun e => hki e.symm)] at hlk
       rw [hkeep k y hk2 hki] at e2
       exact inv.apart j k x y gj gk hjf hkf hjk hj hk2 hlj hlk e1 e2

/-- the law: n operations in whatever order, each shown by itself; the rest in turn -/
theorem wp_region_freeF {id : Nat} {l : List Oper} {a0 : Act} {w : World} (its : List (Tmp × List (Nat × Tmp))) (ks : List Known) (fs : List Nat) (hm : P.follows .mixedOrders = true) (hB : freeBG l.toArray its = true) (hsz : (its.all fun x => decide (x.1 < a0.tmps.size)) = true) (hst : Steadys ks)
  (hsteps : FreeStepsF P l.toArray ks fs w.drew a0 0 its)
  (hend : ∀ w', Below w.heap.size w.drew w' → FreeEnd ks w' (fun a => ApartF its fs a → wpList P l.toArray Q (l.drop its.length) a w') 0 its a0) : (Code.region id l.toArray true).wp P Q a0 w := by
 refine wp_region_any hm ?_
 have hn : its.length < l.length := by
  simp only [freeBG, Bool.and_eq_true, decide_eq_true_eq] at hB
  simpa using hB.1.1.1.1.2
 have hsz' : ∀ x ∈ its, x.1 < a0.tmps.size := fun x hx => by simpa using List.all_eq_true.1 hsz x hx
 have := wpAny_freeF (Q := Q) (w0 := w.drew) hB hsz' hst hsteps hend its.length (Array.replicate l.toArray.size false) a0 w.drew (left_all _ _)
  ⟨⟨by simp, fun j oj _ hl => (by rw [getD_replicate_false] at hl; cases hl), fun t _ ht => getD_in (by simpa using ht) (getD_replicate_false _ _)⟩, rfl, rfl, fun _ _ => rfl, Below.refl _ _, fun i x _ hl => (by rw [getD_replicate_false] at hl; cases hl), fun i x _ _ hl => (by rw [getD_replicate_false] at hl; cases hl), fun i j x y gi gj _ _ _ _ _ hl => (by rw [getD_replicate_false] at hl; cases hl)⟩
 rw [show its.length + (l.length - its.length) = l.toArray.size by simp; omega] at this
 exact this
end
section
variable {P : Program} {ops : Array Oper} {ks : List Known} {fs : List Nat} {w w0 : World} {a0 a : Act} {i : Nat} {d : Tmp} {its : List (Tmp × List (Nat × Tmp))} {ds : List (Nat × Tmp)} {e : Nat} {t : Tmp}
theorem FreeStepsF.nil : FreeStepsF P ops ks fs w0 a0 i [] := trivial
theorem FreeStepsF.cons (h1 : ∀ w, Below w0.heap.size w0 w → FreeStepF P ops ks fs w a0 i t ds a0) (h2 : FreeStepsF P ops ks fs w0 a0 (i + 1) its) : FreeStepsF P ops ks fs w0 a0 i ((t, ds) :: its) := ⟨h1, h2⟩
/-- an operation that makes no memory of its own: as before -/
theorem FreeStepF.of : ∀ {ds : List (Nat × Tmp)} {a : Act}, (hn : ¬ i ∈ fs) → FreeStep P ops ks w a0 i d ds a → FreeStepF P ops ks fs w a0 i d ds a
 | [], a, hn, h => by
  obtain ⟨o, ho, h⟩ := h
  refine ⟨o, ho, ?_⟩
  have e : katF ks fs w i = kat ks i := by
   funext v w'
   exact propext ⟨fun h => h.1, fun h => ⟨h, fun hi => absurd hi hn⟩⟩
  rw [e]
  exact h
 | (e, t) :: ds, a, hn, h => fun v hv => FreeStepF.of (ds := ds) hn (h v hv)
/-- a variable is made -/
theorem FreeStepF.alloc {o : Oper} {K : Known} (ty : TypeId) (z : Value) (ho : ops[i]? = some o) (hop : o.op = .alloc ty) (hg : o.guard = none) (hd : o.dst = some d) (hs : decide (d < a.tmps.size) = true) (hf : a.defers = a0.defers) (hz : (P.info? ty).bind (·.zero) = some z) (hk : kat ks i = K)
  (h : ∀ g w', Bk w' g z.cells ty → Below w.heap.size w w' → w.heap.size ≤ g → g < w'.heap.size → K (.pointer (some ⟨g, 0, none⟩)) w') : FreeStepF P ops ks fs w a0 i d [] a := by
 refine ⟨o, ho, ?_⟩
 refine wpList_alloc_bk hg ty hop z hz fun g w' h1 h2 h3 h4 => ?_
 show QStep _ _ _ _ _ _ _
 have hsd : d < a.tmps.size := by simpa using hs
 refine ⟨by rw [hd]; exact hf, h2, ?_⟩
 rw [hd, put_get hsd]
 exact ⟨hk ▸ h g w' h1 h2 (by omega) (by omega), fun _ => ⟨g, rfl, by omega, by omega⟩⟩
end
end Go.Proofs.YtlhnhjglcbggmaaGreatRR

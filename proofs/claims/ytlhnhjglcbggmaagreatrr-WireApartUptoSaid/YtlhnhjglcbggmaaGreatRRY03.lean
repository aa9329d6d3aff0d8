/-
  Laws at single operations, with the world behind them under a name of its own: a value laid into a new block, a part of a block read or written. No condition: lemmas over any program.
  Transactions, votes and proposals as cells; PlainTx, PlainVote, PlainProposal. Condition: each number fits its kind.
  How a transaction, a vote, a proposal are laid down without their seals. Conditions: they are plain; the Writer has room.
  TxBytes, VoteBytes, ProposalBytes of package wire: the error of the name or of the thing, or the letter, the name and the form without the seal. Condition: each number fits its kind.
-/
import Derived.Deep.QuietTactic
import Derived.BigQuiet
import Derived.StillTailTactics
import Derived.Laws.IdiomStrings
import Derived.Test.YtlhnhjglcbggmaaGreatRRY02
namespace Go.Proofs.YtlhnhjglcbggmaaGreatRR
set_option linter.unusedSimpArgs false
set_option linter.unusedVariables false
open Go.RowKit

section
variable {P : Program}
theorem wpList_want {ops : Array Oper} {rest : List Oper} {o : Oper} {a : Act} {w : World} {Q : Exit → Act → World → Prop} (hw : Region.wanted o (yielded ops a.tmps) = true)
  (h : ∀ K : Act → World → Prop, (∀ a w, wpList P ops Q rest a w → K a w) → o.wp P a w K Q) : wpList P ops Q (o :: rest) a w :=
 wpList_step fun K hK => by rw [if_pos hw]; exact h K hK
theorem addr_add (g o j : Nat) : (⟨g, o, none⟩ : Addr).add j = ⟨g, o + j, none⟩ := by unfold Addr.add; split <;> simp_all

/-- a value laid into a new block -/
theorem wpList_box_bk {ops : Array Oper} {rest : List Oper} {o : Oper} {a : Act} {w : World} {Q : Exit → Act → World → Prop} (hgd : o.guard = none) (t : TypeId) (x : Operand) (ho : o.op = .box t x) (v : Value) (hx : a.eval x = v)
  (h : ∀ g w', Bk w' g v.cells t → Below w.heap.size w w' → w.heap.size = g → w'.heap.size = g + 1 → wpList P ops Q rest (a.put o.dst (.pointer (some ⟨g, 0, none⟩))) w') : wpList P ops Q (o :: rest) a w := by
 refine wpList_plain hgd fun K hK => ?_
 unfold Oper.wp execOp
 simp only [ho, hx, Instr.box, newVar, newRow, newObj, Sem.run_bind, Sem.run_pure, Result.andThen_ok]
 refine hK _ _ (h w.heap.size (w.alloc (.cells v.cells t)) (Bk.new w t _) ((Below.refl _ _).alloc (Nat.le_refl _) _) rfl (by simp))

/-- a part of a known block, read whole -/
theorem run_loadVar_part {w : World} {g off ty n : Nat} {cs : Array Value} {t : TypeId} {d : TypeDesc} (hk : Bk w g cs t) (hu : P.underlying ty = some d) (hd : aggD d = true) (hi : (P.info? ty).map (·.size) = some n) (hn : off + n ≤ cs.size) :
  (loadVar ty ⟨g, off, none⟩).run P w = .ok (.agg (cs.extract off (off + n))) w := by
 have hl : (loadCells ⟨g, off, none⟩ (cs.extract off (off + n)).toList.length).run P w = .ok (cs.extract off (off + n)).toList.toArray w :=
  run_loadCells_list (P := P) w ⟨g, off, none⟩ _ (fun j v hv => by
   rw [addr_add, hk.cell]
   simp only [Array.getElem?_toList, Array.getElem?_extract] at hv
   split at hv
   ·exact hv
   ·cases hv)
 have hlen : (cs.extract off (off + n)).toList.length = n := by simp; omega
 rw [hlen] at hl
 have hagg : (isAgg ty).run P w = .ok true w := by
  rw [run_isAgg hu w]
  congr 1
  unfold isAggT
  rw [hu]
  cases d <;> simp [aggD] at hd ⊢
 simp only [Array.toArray_toList] at hl
 simp [loadVar, Sem.run_bind, hagg, run_sizeOf' hi, hl]

theorem wpList_load_part {ops : Array Oper} {rest : List Oper} {o : Oper} {a : Act} {w : World} {Q : Exit → Act → World → Prop} (hw : Region.wanted o (yielded ops a.tmps) = true) (ty : TypeId) (x : Operand) (ho : o.op = .load ty x)
  (g off n : Nat) (hx : a.eval x = .pointer (some ⟨g, off, none⟩)) (cs : Array Value) (t : TypeId) (d : TypeDesc) (hk : Bk w g cs t) (hu : P.underlying ty = some d) (hd : aggD d = true) (hi : (P.info? ty).map (·.size) = some n) (hn : off + n ≤ cs.size)
  (v : Array Value) (hv : cs.extract off (off + n) = v)
  (h : wpList P ops Q rest (a.put o.dst (.agg v)) w) : wpList P ops Q (o :: rest) a w := by
 refine wpList_want hw fun K hK => ?_
 unfold Oper.wp execOp
 simp only [ho, hx, Instr.loadAt, Instr.sureAddr, Sem.run_bind, Sem.run_pure, Result.andThen_ok, run_loadVar_part hk hu hd hi hn, hv]
 exact hK _ _ h

/-- the cells of a block with a part written over -/
def splice (cs : Array Value) (off : Nat) (xs : List Value) : Array Value := (cs.toList.take off ++ xs ++ cs.toList.drop (off + xs.length)).toArray
theorem run_storeVar_part {w : World} {g off ty : Nat} {cs : Array Value} {t : TypeId} {v : Value} (hk : Bk w g cs t) (hi : (P.info? ty).map (·.size) = some v.cells.size) (hn : off + v.cells.size ≤ cs.size) (h1 : ∀ u ∈ v.cells.toList, u.oneCell' = true) :
  (storeVar ty ⟨g, off, none⟩ v).run P w = .ok () (w.setRow g (splice cs off v.cells.toList)) := by
 have hst := run_storeCells_at P g off t v.cells.toList 0 cs w hk (by simpa using hn) h1
 simp only [Nat.add_zero] at hst
 have e : (cs.toList.take off ++ v.cells.toList ++ cs.toList.drop (off + v.cells.toList.length)).toArray = splice cs off v.cells.toList := rfl
 rw [e] at hst
 simp [storeVar, Sem.run_bind, run_sizeOf' hi, hst]

theorem wpList_store_part {ops : Array Oper} {rest : List Oper} {o : Oper} {a : Act} {w : World} {Q : Exit → Act → World → Prop} (hw : Region.wanted o (yielded ops a.tmps) = true) (ty : TypeId) (x y : Operand) (ho : o.op = .store ty x y)
  (g off : Nat) (hx : a.eval x = .pointer (some ⟨g, off, none⟩)) (v : Value) (hy : a.eval y = v) (cs : Array Value) (t : TypeId) (hk : Bk w g cs t) (hi : (P.info? ty).map (·.size) = some v.cells.size) (hn : off + v.cells.size ≤ cs.size) (h1 : ∀ u ∈ v.cells.toList, u.oneCell' = true)
  (h : ∀ w', Bk w' g (splice cs off v.cells.toList) t → w.grownBy w' (some g) → w'.heap.size = w.heap.size → wpList P ops Q rest (a.put o.dst undef) w') : wpList P ops Q (o :: rest) a w := by
 refine wpList_want hw fun K hK => ?_
 unfold Oper.wp execOp
 simp only [ho, hx, hy, Instr.storeAt, Instr.sureAddr, Sem.run_bind, Sem.run_pure, Result.andThen_ok, run_storeVar_part hk hi hn h1]
 refine hK _ _ (h _ (setRow_heap w g cs _ t _ hk) ⟨rfl, rfl, rfl, by simp, fun k _ hne => setRow_other w g k _ (fun e => hne (by rw [e]))⟩ (by simp))

/-! Inside a region that draws its order. -/
theorem quiet_load_part {o : Oper} {a : Act} {C : World → Prop} {K : Act → Prop} (ty : TypeId) (x : Operand) (ho : o.op = .load ty x)
  (g off n : Nat) (hx : a.eval x = .pointer (some ⟨g, off, none⟩)) (cs : Array Value) (t : TypeId) (d : TypeDesc) (hk : ∀ w, C w → Bk w g cs t) (hu : P.underlying ty = some d) (hd : aggD d = true) (hi : (P.info? ty).map (·.size) = some n) (hn : off + n ≤ cs.size)
  (v : Array Value) (hv : cs.extract off (off + n) = v) (h : K (a.put o.dst (.agg v))) : o.quiet P a C K := by
 refine ⟨_, fun w hw => ?_, h⟩
 unfold Oper.quietAt execOp
 simp only [ho, hx, Instr.loadAt, Instr.sureAddr, Sem.run_bind, Sem.run_pure, Result.andThen_ok, run_loadVar_part (hk w hw) hu hd hi hn, hv]
 exact ⟨rfl, rfl⟩
theorem run_eqGuard_flat {t : TypeId} (op : BinOp) (x y : Operand) (xs ys : Array Value) (hm : P.eqGuardType P.depth t = false) (w : World) : (eqGuard op t x y (.agg xs) (.agg ys)).run P w = .ok () w := run_eqGuard_agg w op t x y xs ys hm
theorem quiet_eql_flat {o : Oper} {a : Act} {C : World → Prop} {K : Act → Prop} (ty ty' : TypeId) (x y : Operand) (ho : o.op = .binOp .eql ty x y ty') (xs ys : List Value) (hx : a.eval x = .agg xs.toArray) (hy : a.eval y = .agg ys.toArray)
  (n : Nat) (ks : List CK) (hf : flat P n ty = some ks) (hn : n ≤ 10000) (ha : isAggT P ty = true) (hm : P.eqGuardType P.depth ty = false) (fx : Fits ks xs) (fy : Fits ks ys) (q : Bool) (hq : q = true ↔ xs = ys) (h : K (a.put o.dst (.bool q))) : o.quiet P a C K := by
 refine ⟨_, fun w hw => ?_, h⟩
 unfold Oper.quietAt execOp
 simp only [ho, hx, hy, Sem.run_bind, Sem.run_pure, Result.andThen_ok, run_eqGuard_flat .eql x y _ _ hm, run_eql_flat hf hn ha fx fy hq]
 exact ⟨rfl, rfl⟩
/-! Outside one. -/
theorem wpList_eql_flat {ops : Array Oper} {rest : List Oper} {o : Oper} {a : Act} {w : World} {Q : Exit → Act → World → Prop} (hw : Region.wanted o (yielded ops a.tmps) = true) (ty ty' : TypeId) (x y : Operand) (ho : o.op = .binOp .eql ty x y ty') (xs ys : List Value) (hx : a.eval x = .agg xs.toArray) (hy : a.eval y = .agg ys.toArray)
  (n : Nat) (ks : List CK) (hf : flat P n ty = some ks) (hn : n ≤ 10000) (ha : isAggT P ty = true) (hm : P.eqGuardType P.depth ty = false) (fx : Fits ks xs) (fy : Fits ks ys) (q : Bool) (hq : q = true ↔ xs = ys) (h : wpList P ops Q rest (a.put o.dst (.bool q)) w) : wpList P ops Q (o :: rest) a w := by
 refine wpList_want hw fun K hK => ?_
 unfold Oper.wp execOp
 simp only [ho, hx, hy, Sem.run_bind, Sem.run_pure, Result.andThen_ok, run_eqGuard_flat .eql x y _ _ hm, run_eql_flat hf hn ha fx fy hq]
 exact hK _ _ h
theorem wpList_neq_flat {ops : Array Oper} {rest : List Oper} {o : Oper} {a : Act} {w : World} {Q : Exit → Act → World → Prop} (hw : Region.wanted o (yielded ops a.tmps) = true) (ty ty' : TypeId) (x y : Operand) (ho : o.op = .binOp .neq ty x y ty') (xs ys : List Value) (hx : a.eval x = .agg xs.toArray) (hy : a.eval y = .agg ys.toArray)
  (n : Nat) (ks : List CK) (hf : flat P n ty = some ks) (hn : n ≤ 10000) (ha : isAggT P ty = true) (hm : P.eqGuardType P.depth ty = false) (fx : Fits ks xs) (fy : Fits ks ys) (q : Bool) (hq : q = true ↔ xs = ys) (h : wpList P ops Q rest (a.put o.dst (.bool (!q))) w) : wpList P ops Q (o :: rest) a w := by
 refine wpList_want hw fun K hK => ?_
 unfold Oper.wp execOp
 simp only [ho, hx, hy, Sem.run_bind, Sem.run_pure, Result.andThen_ok, run_eqGuard_flat .neq x y _ _ hm, run_neq_flat hf hn ha fx fy hq]
 exact hK _ _ h
end
end Go.Proofs.YtlhnhjglcbggmaaGreatRR
namespace Go.Proofs.YtlhnhjglcbggmaaGreatRR
set_option linter.unusedSimpArgs false
set_option linter.unusedVariables false
open Go.RowKit
set_option maxRecDepth 100000

structure Tx where
 kind : Int
 frm : Int
 to : Int
 amount : Int
 fee : Int
 nonce : Int
 sl : List UInt8
def Tx.cl (x : Tx) : List Value := [.int .i64 x.kind, .int .u64 x.frm, .int .u64 x.to, .int .u64 x.amount, .int .u64 x.fee, .int .u64 x.nonce] ++ bv x.sl

structure Vote where
 kind : Int
 height : Int
 round : Int
 id : List UInt8
 time : Int
 frm : Int
 sl : List UInt8
def Vote.cl (x : Vote) : List Value := [.int .i64 x.kind, .int .u64 x.height, .int .i64 x.round] ++ bv x.id ++ [.int .u64 x.time, .int .u64 x.frm] ++ bv x.sl

structure Proposal where
 height : Int
 round : Int
 valid : Int
 id : List UInt8
 frm : Int
 sl : List UInt8
def Proposal.cl (x : Proposal) : List Value := [.int .u64 x.height, .int .i64 x.round, .int .i64 x.valid] ++ bv x.id ++ [.int .u64 x.frm] ++ bv x.sl

/-- a 64-bit number without sign -/
def U64 (n : Int) : Prop := 0 ≤ n ∧ n < 18446744073709551616
def I64 (n : Int) : Prop := -9223372036854775808 ≤ n ∧ n < 9223372036854775808
structure Tx.ok (x : Tx) : Prop where
 kind : I64 x.kind
 frm : U64 x.frm
 to : U64 x.to
 amount : U64 x.amount
 fee : U64 x.fee
 nonce : U64 x.nonce
 sl : x.sl.length = 16
structure Vote.ok (x : Vote) : Prop where
 kind : I64 x.kind
 height : U64 x.height
 round : I64 x.round
 id : x.id.length = 32
 time : U64 x.time
 frm : U64 x.frm
 sl : x.sl.length = 16
structure Proposal.ok (x : Proposal) : Prop where
 height : U64 x.height
 round : I64 x.round
 valid : I64 x.valid
 id : x.id.length = 32
 frm : U64 x.frm
 sl : x.sl.length = 16

def plainTx (x : Tx) : Int := firstErr [kind x.kind 1 4, field ((x.frm == 0) || ((x.to != 0) != (x.kind == 1))), amount x.amount, field ((x.kind == 4) && (x.amount != 0)), amount x.fee]

theorem still_of {P : Program} {f : FuncId} {args : Array Value} {w : World} {v : Value} (h : Calls P f args w fun e w' => e = .returned v ∧ w = w') : Calls P f args w fun e w' => e = .returned v ∧ w' = w :=
 h.mono fun _ _ ⟨h1, h2⟩ => ⟨h1, h2.symm⟩

/-- the lexical walk of what leaves the world alone, from the quiet one -/
theorem still_quiet {P : Program} {ops : Array Oper} {w : World} {Q : Act → Prop} : ∀ (l : List Oper) (a : Act), wpQuiet P ops (fun w' => w' = w) Q l a → wpStill P ops w Q l a
 | [], _, h => h
 | o :: rest, a, h => by
  unfold wpQuiet at h
  unfold wpStill
  split at h
  ·rename_i hw
   rw [if_pos hw]
   obtain ⟨v, h1, h2⟩ := h
   have h3 := still_quiet rest _ h2
   have h4 := h1 w rfl
   unfold Oper.quietAt at h4
   unfold Oper.still
   generalize (execOp a.eval o).run P w = r at h4
   unfold Oper.quietUpon at h4
   unfold Oper.stillUpon
   split at h4
   ·obtain ⟨e1, e2⟩ := h4; subst e2; exact ⟨e1, h3⟩
   ·obtain ⟨e1, e2⟩ := h4; subst e2; exact ⟨e1, h3⟩
   ·obtain ⟨e1, e2⟩ := h4; exact ⟨e1, v, e2, h3⟩
   ·exact h4.elim
  ·rename_i hw
   rw [if_neg hw]
   exact still_quiet rest _ h

theorem rd_errs (w : World) (cs : Array Value) (l : List Int) (h : cs.toList = l.map (Value.int .i64)) : Rd (w.alloc (.cells cs 73)) (some ⟨w.heap.size, 0, none⟩) (l.map (Value.int .i64)) :=
 Rd.of_bk (Bk.new w _ cs) 0 _ (fun j u hu => by rw [← h] at hu; simpa using hu)

set_option maxHeartbeats 1000000 in
theorem plainTx_any (w : World) (x : Tx) :
  Calls Tryz.prog 33 #[.agg x.cl.toArray] w fun e w' => e = .returned (.int .i64 (plainTx x)) ∧ Below w.heap.size w w' := by
 obtain ⟨q1, h1⟩ : ∃ q, (x.frm == 0) = q := ⟨_, rfl⟩
 obtain ⟨q2, h2⟩ : ∃ q, (x.kind == 4) = q := ⟨_, rfl⟩
 cases q1 <;> cases q2
 all_goals
  go_enter Tryz.func33, Tryz.ntmps33
  go_wp2_with (refine wpList_box_bk rfl _ _ rfl _ rfl ?_)
  intro g w1 hb hbl hg hs
  have Hg := Lib.hid hg; clear hg
  have Hs := Lib.hid hs; clear hs
  have c0 : w1.cell? ⟨g, 0, none⟩ = some (.int .i64 x.kind) := hb.cell 0
  have c1 : w1.cell? ⟨g, 1, none⟩ = some (.int .u64 x.frm) := hb.cell 1
  have c2 : w1.cell? ⟨g, 2, none⟩ = some (.int .u64 x.to) := hb.cell 2
  have c3 : w1.cell? ⟨g, 3, none⟩ = some (.int .u64 x.amount) := hb.cell 3
  have c4 : w1.cell? ⟨g, 4, none⟩ = some (.int .u64 x.fee) := hb.cell 4
  go_wp2_with fail
  refine wp_region_still_tail 31 (by kernel_rfl) (by kernel_rfl) ?_
  simp only [List.take_succ_cons, List.take_zero, List.drop_succ_cons, List.drop_zero]
  refine still_quiet _ _ ?_
  repeat (first | go_big_quiet_skip | (go_big_quiet_want; go_big_quiet_op; first | go_big_quiet_on | (apply Exists.intro; refine ⟨still_of (by first | (go_at_call 71; exact kind_any _ _ _ _) | (go_at_call 75; exact field_any _ _) | (go_at_call 81; exact amount_any _ _)), ?_⟩; go_big_quiet_on)))
  refine wpQuiet_nil ?_
  change wpList _ _ _ _ _ w1.drew
  go_wp2_with (go_at_call 70; go_must (refine (all_any _ _ 5 5 [_, _, _, _, _] (rd_errs w1.drew _ [_, _, _, _, _] rfl) rfl (by omega)).mono ?_); rintro e w2 ⟨rfl, rfl⟩)
  go_ret
  refine ⟨ret_i64 ?_, (hbl.drew).alloc (Nat.le_of_lt (by have := Hs.out; have := Hg.out; simp; omega)) _⟩
  unfold plainTx; rw [h1, h2]; rfl

def zeros (n : Nat) : List UInt8 := List.replicate n 0
theorem flat_hash : flat Tryz.prog 2 29 = some (List.replicate 32 (.int .u8)) := by kernel_rfl
theorem agg_hash : isAggT Tryz.prog 29 = true := by kernel_rfl
theorem guard_hash : Tryz.prog.eqGuardType Tryz.prog.depth 29 = false := by kernel_rfl
theorem info_hash : (Tryz.prog.info? 29).map (·.size) = some 32 := by kernel_rfl
theorem fits_hash {h : List UInt8} (hl : h.length = 32) : Fits (List.replicate 32 (.int .u8)) (bv h) := by rw [← hl]; exact Fits.bytes h
theorem bv_iff {a b : List UInt8} {q : Bool} (h : q = (a == b)) : q = true ↔ bv a = bv b := by
 rw [h, beq_iff_eq]; exact ⟨fun e => by rw [e], bv_inj⟩

def plainVote (x : Vote) : Int := firstErr [kind x.kind 1 2, height x.height, round x.round, moment x.time, field ((x.time != 0) && ((x.kind == 1) || (x.id == zeros 32))), field (x.frm == 0)]

theorem extract_cl (l : List Value) (a b : Nat) (m : List Value) (h : (l.drop a).take (b - a) = m) : l.toArray.extract a b = m.toArray := by
 apply Array.ext'
 simp [h]
theorem Vote.cl_id (x : Vote) (h : x.id.length = 32) : x.cl.toArray.extract 3 (3 + 32) = (bv x.id).toArray := by
 refine extract_cl _ _ _ _ ?_
 have e : x.cl.drop 3 = bv x.id ++ ([.int .u64 x.time, .int .u64 x.frm] ++ bv x.sl) := by simp [Vote.cl]
 rw [e, show 3 + 32 - 3 = (bv x.id).length from by rw [bv_length, h]]
 exact List.take_left
theorem Vote.cl_len (x : Vote) (h : x.ok) : x.cl.length = 53 := by simp [Vote.cl, bv_length, h.id, h.sl]
theorem Vote.cl_35 (x : Vote) (h : x.id.length = 32) : x.cl.toArray[35]? = some (.int .u64 x.time) := by
 simp [Vote.cl, bv, List.getElem?_append, h]
theorem Vote.cl_36 (x : Vote) (h : x.id.length = 32) : x.cl.toArray[36]? = some (.int .u64 x.frm) := by
 simp [Vote.cl, bv, List.getElem?_append, h]

set_option maxHeartbeats 1000000 in
theorem plainVote_any (w : World) (x : Vote) (hx : x.ok) :
  Calls Tryz.prog 28 #[.agg x.cl.toArray] w fun e w' => e = .returned (.int .i64 (plainVote x)) ∧ Below w.heap.size w w' := by
 obtain ⟨q1, h1⟩ : ∃ q, (x.time != 0) = q := ⟨_, rfl⟩
 obtain ⟨q2, h2⟩ : ∃ q, (x.kind == 1) = q := ⟨_, rfl⟩
 cases q1 <;> cases q2
 all_goals
  go_enter Tryz.func28, Tryz.ntmps28
  go_wp2_with (refine wpList_box_bk rfl _ _ rfl _ rfl ?_)
  intro g w1 hb hbl hg hs
  have Hg := Lib.hid hg; clear hg
  have Hs := Lib.hid hs; clear hs
  have c0 : w1.cell? ⟨g, 0, none⟩ = some (.int .i64 x.kind) := hb.cell 0
  have c1 : w1.cell? ⟨g, 1, none⟩ = some (.int .u64 x.height) := hb.cell 1
  have c2 : w1.cell? ⟨g, 2, none⟩ = some (.int .i64 x.round) := hb.cell 2
  have c3 : w1.cell? ⟨g, 35, none⟩ = some (.int .u64 x.time) := (hb.cell 35).trans (x.cl_35 hx.id)
  have c4 : w1.cell? ⟨g, 36, none⟩ = some (.int .u64 x.frm) := (hb.cell 36).trans (x.cl_36 hx.id)
  go_wp2_with fail
  refine wp_region_still_tail 31 (by kernel_rfl) (by kernel_rfl) ?_
  simp only [List.take_succ_cons, List.take_zero, List.drop_succ_cons, List.drop_zero]
  refine still_quiet _ _ ?_
  repeat (first | go_big_quiet_skip | (go_big_quiet_want; first
    | (refine quiet_load_part 29 _ rfl g 3 32 rfl _ _ _ (fun wx hw => by subst hw; exact hb) Tryz.underlying29 rfl info_hash (by have := x.cl_len hx; simp [this]) _ (x.cl_id hx.id) ?_; go_simp; go_big_quiet_on)
    | (refine quiet_eql_flat 29 _ _ _ rfl (bv x.id) (bv (zeros 32)) rfl rfl 2 _ flat_hash (by omega) agg_hash guard_hash (fits_hash hx.id) (fits_hash rfl) _ (bv_iff rfl) ?_; go_simp; go_big_quiet_on)
    | (go_big_quiet_op; first | go_big_quiet_on | (apply Exists.intro; refine ⟨still_of (by first | (go_at_call 71; exact kind_any _ _ _ _) | (go_at_call 75; exact field_any _ _) | (go_at_call 72; exact height_any _ _) | (go_at_call 73; exact round_any _ _) | (go_at_call 74; exact moment_any _ _)), ?_⟩; go_big_quiet_on))))
  refine wpQuiet_nil ?_
  change wpList _ _ _ _ _ w1.drew
  go_wp2_with (go_at_call 70; go_must (refine (all_any _ _ 6 6 [_, _, _, _, _, _] (rd_errs w1.drew _ [_, _, _, _, _, _] rfl) rfl (by omega)).mono ?_); rintro e w2 ⟨rfl, rfl⟩)
  go_ret
  refine ⟨ret_i64 ?_, (hbl.drew).alloc (Nat.le_of_lt (by have := Hs.out; have := Hg.out; simp; omega)) _⟩
  unfold plainVote; rw [h1, h2]; rfl

def plainProposal (x : Proposal) : Int := firstErr [height x.height, round x.round, field (decide (x.valid < -1) || decide (x.round ≤ x.valid)), field (x.id == zeros 32), field (x.frm == 0)]
theorem Proposal.cl_id (x : Proposal) (h : x.id.length = 32) : x.cl.toArray.extract 3 (3 + 32) = (bv x.id).toArray := by
 refine extract_cl _ _ _ _ ?_
 have e : x.cl.drop 3 = bv x.id ++ ([.int .u64 x.frm] ++ bv x.sl) := by simp [Proposal.cl]
 rw [e, show 3 + 32 - 3 = (bv x.id).length from by rw [bv_length, h]]
 exact List.take_left
theorem Proposal.cl_len (x : Proposal) (h : x.ok) : x.cl.length = 52 := by simp [Proposal.cl, bv_length, h.id, h.sl]
theorem Proposal.cl_35 (x : Proposal) (h : x.id.length = 32) : x.cl.toArray[35]? = some (.int .u64 x.frm) := by
 simp [Proposal.cl, bv, List.getElem?_append, h]

set_option maxHeartbeats 1000000 in
theorem plainProposal_any (w : World) (x : Proposal) (hx : x.ok) :
  Calls Tryz.prog 36 #[.agg x.cl.toArray] w fun e w' => e = .returned (.int .i64 (plainProposal x)) ∧ Below w.heap.size w w' := by
 obtain ⟨q1, h1⟩ : ∃ q, (decide (x.valid < -1)) = q := ⟨_, rfl⟩
 cases q1
 all_goals
  go_enter Tryz.func36, Tryz.ntmps36
  go_wp2_with (refine wpList_box_bk rfl _ _ rfl _ rfl ?_)
  intro g w1 hb hbl hg hs
  have Hg := Lib.hid hg; clear hg
  have Hs := Lib.hid hs; clear hs
  have c0 : w1.cell? ⟨g, 0, none⟩ = some (.int .u64 x.height) := hb.cell 0
  have c1 : w1.cell? ⟨g, 1, none⟩ = some (.int .i64 x.round) := hb.cell 1
  have c2 : w1.cell? ⟨g, 2, none⟩ = some (.int .i64 x.valid) := hb.cell 2
  have c4 : w1.cell? ⟨g, 35, none⟩ = some (.int .u64 x.frm) := (hb.cell 35).trans (x.cl_35 hx.id)
  go_wp2_with fail
  refine wp_region_still_tail 26 (by kernel_rfl) (by kernel_rfl) ?_
  simp only [List.take_succ_cons, List.take_zero, List.drop_succ_cons, List.drop_zero]
  refine still_quiet _ _ ?_
  repeat (first | go_big_quiet_skip | (go_big_quiet_want; first
    | (refine quiet_load_part 29 _ rfl g 3 32 rfl _ _ _ (fun wx hw => by subst hw; exact hb) Tryz.underlying29 rfl info_hash (by have := x.cl_len hx; simp [this]) _ (x.cl_id hx.id) ?_; go_simp; go_big_quiet_on)
    | (refine quiet_eql_flat 29 _ _ _ rfl (bv x.id) (bv (zeros 32)) rfl rfl 2 _ flat_hash (by omega) agg_hash guard_hash (fits_hash hx.id) (fits_hash rfl) _ (bv_iff rfl) ?_; go_simp; go_big_quiet_on)
    | (go_big_quiet_op; first | go_big_quiet_on | (apply Exists.intro; refine ⟨still_of (by first | (go_at_call 75; exact field_any _ _) | (go_at_call 72; exact height_any _ _) | (go_at_call 73; exact round_any _ _)), ?_⟩; go_big_quiet_on))))
  refine wpQuiet_nil ?_
  change wpList _ _ _ _ _ w1.drew
  go_wp2_with (go_at_call 70; go_must (refine (all_any _ _ 5 5 [_, _, _, _, _] (rd_errs w1.drew _ [_, _, _, _, _] rfl) rfl (by omega)).mono ?_); rintro e w2 ⟨rfl, rfl⟩)
  go_ret
  refine ⟨ret_i64 ?_, (hbl.drew).alloc (Nat.le_of_lt (by have := Hs.out; have := Hg.out; simp; omega)) _⟩
  unfold plainProposal; rw [h1]; rfl
end Go.Proofs.YtlhnhjglcbggmaaGreatRR
namespace Go.Proofs.YtlhnhjglcbggmaaGreatRR
set_option linter.unusedSimpArgs false
set_option linter.unusedVariables false
open Go.RowKit
set_option maxRecDepth 100000

theorem var_int (w : World) (B g : Nat) (bs : List UInt8) (n : Int) (h : Wr w B g bs) (h0 : 0 ≤ n) (h1 : n < two64) (hb : bs.length + 10 ≤ room46) :
  Calls Tryz.prog 59 #[.pointer (some ⟨g, 0, none⟩), .int .u64 n] w fun e w' => e = .returned (.tuple #[]) ∧ Wr w' B g (bs ++ varB n.toNat) ∧ Eff B WrT w w' := by
 obtain ⟨m, rfl⟩ := Int.eq_ofNat_of_zero_le h0
 exact var_any w B g bs m h (by omega) hb
theorem byte_int (w : World) (B g : Nat) (bs : List UInt8) (n : Int) (h : Wr w B g bs) (h0 : 0 ≤ n) (h1 : n < 256) (hb : bs.length + 1 ≤ room46) :
  Calls Tryz.prog 53 #[.pointer (some ⟨g, 0, none⟩), .int .u8 n] w fun e w' => e = .returned (.tuple #[]) ∧ Wr w' B g (bs ++ [UInt8.ofNat n.toNat]) ∧ Eff B WrT w w' := by
 have hc := byte_any w B g bs (UInt8.ofNat n.toNat) h hb
 have e : ((UInt8.ofNat n.toNat).toNat : Int) = n := by rw [byte_of]; omega
 rw [e] at hc
 exact hc
theorem varB_int {n : Int} (h0 : 0 ≤ n) (h1 : n < two64) : (varB n.toNat).length ≤ 10 := varB_ten (by omega)

set_option maxHeartbeats 400000 in
theorem putHash_any (w : World) (B g : Nat) (bs h : List UInt8) (hw : Wr w B g bs) (hl : h.length = 32) (hb : bs.length + 32 ≤ room46) :
  Calls Tryz.prog 85 #[.pointer (some ⟨g, 0, none⟩), .agg (bv h).toArray] w fun e w' => e = .returned (.tuple #[]) ∧ Wr w' B g (bs ++ h) ∧ Eff B WrT w w' := by
 go_enter Tryz.func85, Tryz.ntmps85
 go_wp2_with (refine wpList_box_bk rfl _ _ rfl _ rfl ?_)
 intro g1 w1 hk hbl hg hs
 have hw1 := hw.below hbl
 have hr : Rd w1 (some ⟨g1, 0, none⟩) (bv h) := Rd.of_bk hk 0 _ (fun j u hu => by simpa using hu)
 clear hg hs
 have Hl := Lib.hid hl; clear hl
 go_wp2_with (go_at_call 77; go_must (refine (raw_any _ B g bs h _ 32 32 hw1 hr Hl.out hb).mono ?_); rintro e w' ⟨rfl, hw', he⟩)
 go_end0
 exact ⟨rfl, hw', (Eff.of_below hbl _ _).trans he⟩

def encVote (x : Vote) : List UInt8 := [UInt8.ofNat x.kind.toNat] ++ varB x.height.toNat ++ varB x.round.toNat ++ x.id ++ varB x.time.toNat ++ varB x.frm.toNat

theorem firstErr_zero : ∀ {l : List Int}, firstErr l = 0 → ∀ e ∈ l, e = 0
 | [], _, e, h => by cases h
 | a :: l, h, e, he => by
  unfold firstErr at h
  by_cases ha : a = 0
  ·rw [if_neg (by simpa using ha)] at h
   rcases List.mem_cons.1 he with rfl | he
   ·exact ha
   ·exact firstErr_zero h e he
  ·rw [if_pos ha] at h; exact absurd h ha
theorem field_zero {b : Bool} (h : field b = 0) : b = false := by cases b with | false => rfl | true => cases h

structure VoteB (x : Vote) : Prop where
 k1 : 1 ≤ x.kind
 k2 : x.kind ≤ 2
 h1 : 1 ≤ x.height
 h2 : x.height ≤ 1099511627776
 r1 : 0 ≤ x.round
 r2 : x.round ≤ 65535
 t1 : 0 ≤ x.time
 t2 : x.time ≤ 1125899906842624
 tz : x.time ≠ 0 → x.kind = 2 ∧ x.id ≠ zeros 32
 f1 : 1 ≤ x.frm
 f2 : x.frm < 18446744073709551616
theorem voteB {x : Vote} (hx : x.ok) (h : plainVote x = 0) : VoteB x := by
 have hall := firstErr_zero h
 have a1 := hall _ (List.mem_cons_self ..)
 have a2 := hall (height x.height) (by simp)
 have a3 := hall (round x.round) (by simp)
 have a4 := hall (moment x.time) (by simp)
 have a5 := field_zero (hall (field ((x.time != 0) && ((x.kind == 1) || (x.id == zeros 32)))) (by simp))
 have a6 := field_zero (hall (field (x.frm == 0)) (by simp))
 have b2 := of_decide_eq_false (field_zero a2)
 have b3 := of_decide_eq_false (field_zero a3)
 have b4 := of_decide_eq_false (field_zero a4)
 have b1 : ¬ (x.kind < 1 ∨ 2 < x.kind) := by
  intro hh; unfold kind at a1; rw [if_pos hh] at a1; cases a1
 have ht := hx.time
 have hf := hx.frm
 unfold U64 at ht hf
 have a6' : x.frm ≠ 0 := by simpa using a6
 refine ⟨by omega, by omega, by omega, by omega, by omega, by omega, ht.1, by omega, fun hz => ?_, by omega, hf.2⟩
 simp only [Bool.and_eq_false_iff, bne_eq_false_iff_eq, Bool.or_eq_false_iff, beq_eq_false_iff_ne, ne_eq] at a5
 rcases a5 with a5 | ⟨a5, a7⟩
 ·exact absurd a5 hz
 ·exact ⟨by omega, a7⟩

def encProposal (x : Proposal) : List UInt8 := varB x.height.toNat ++ varB x.round.toNat ++ varB (x.valid + 1).toNat ++ x.id ++ varB x.frm.toNat
structure ProposalB (x : Proposal) : Prop where
 h1 : 1 ≤ x.height
 h2 : x.height ≤ 1099511627776
 r1 : 0 ≤ x.round
 r2 : x.round ≤ 65535
 v1 : -1 ≤ x.valid
 v2 : x.valid < x.round
 i1 : x.id ≠ zeros 32
 f1 : 1 ≤ x.frm
 f2 : x.frm < 18446744073709551616
theorem proposalB {x : Proposal} (hx : x.ok) (h : plainProposal x = 0) : ProposalB x := by
 have hall := firstErr_zero h
 have a2 := hall (height x.height) (by simp)
 have a3 := hall (round x.round) (by simp)
 have a4 := field_zero (hall (field (decide (x.valid < -1) || decide (x.round ≤ x.valid))) (by simp))
 have a5 := field_zero (hall (field (x.id == zeros 32)) (by simp))
 have a6 := field_zero (hall (field (x.frm == 0)) (by simp))
 have b2 := of_decide_eq_false (field_zero a2)
 have b3 := of_decide_eq_false (field_zero a3)
 have hf := hx.frm
 unfold U64 at hf
 have a6' : x.frm ≠ 0 := by simpa using a6
 simp only [Bool.or_eq_false_iff, decide_eq_false_iff_not] at a4
 exact ⟨by omega, by omega, by omega, by omega, by omega, by omega, by simpa using a5, by omega, hf.2⟩

def encTx (x : Tx) : List UInt8 := [UInt8.ofNat x.kind.toNat] ++ varB x.frm.toNat ++ varB x.to.toNat ++ varB x.amount.toNat ++ varB x.fee.toNat ++ varB x.nonce.toNat
structure TxB (x : Tx) : Prop where
 k1 : 1 ≤ x.kind
 k2 : x.kind ≤ 4
 f : x.frm ≠ 0
 t : x.to = 0 ↔ x.kind ≠ 1
 a2 : x.amount ≤ 1152921504606846975
 e2 : x.fee ≤ 1152921504606846975
 z : x.kind = 4 → x.amount = 0
theorem txB {x : Tx} (h : plainTx x = 0) : TxB x := by
 have hall := firstErr_zero h
 have a1 := hall _ (List.mem_cons_self ..)
 have a2 := field_zero (hall (field ((x.frm == 0) || ((x.to != 0) != (x.kind == 1)))) (by simp))
 have a3 := hall (amount x.amount) (by simp)
 have a4 := field_zero (hall (field ((x.kind == 4) && (x.amount != 0))) (by simp))
 have a5 := hall (amount x.fee) (by simp)
 have b3 := of_decide_eq_false (field_zero a3)
 have b5 := of_decide_eq_false (field_zero a5)
 have b1 : ¬ (x.kind < 1 ∨ 4 < x.kind) := by
  intro hh; unfold kind at a1; rw [if_pos hh] at a1; cases a1
 simp only [Bool.or_eq_false_iff, beq_eq_false_iff_ne, ne_eq, bne_eq_false_iff_eq] at a2
 simp only [Bool.and_eq_false_iff, beq_eq_false_iff_ne, ne_eq, bne_eq_false_iff_eq] at a4
 refine ⟨by omega, by omega, a2.1, ?_, by omega, by omega, fun hz => by rcases a4 with a4 | a4; exact absurd hz a4; exact a4⟩
 have h2 := a2.2
 by_cases ht : x.to = 0
 ·by_cases hk : x.kind = 1
  ·rw [ht, hk] at h2; cases h2
  ·exact ⟨fun _ => hk, fun _ => ht⟩
 ·by_cases hk : x.kind = 1
  ·exact ⟨fun q => absurd q ht, fun q => absurd hk q⟩
  ·have e1 : (x.to != 0) = true := by simp [ht]
   have e2 : (x.kind == 1) = false := by simp [hk]
   rw [e1, e2] at h2; cases h2

theorem Tx.cl_len (x : Tx) (h : x.ok) : x.cl.length = 22 := by simp [Tx.cl, bv_length, h.sl]

theorem encVote_len {x : Vote} (hx : x.ok) (hp : VoteB x) : (encVote x).length ≤ 73 := by
 obtain ⟨k1, k2, h1, h2, r1, r2, t1, t2, _, f1, f2⟩ := hp
 have lh := varB_int (n := x.height) (by omega) (by unfold two64; omega)
 have lr := varB_int (n := x.round) (by omega) (by unfold two64; omega)
 have lt := varB_int (n := x.time) (by omega) (by unfold two64; omega)
 have lf := varB_int (n := x.frm) (by omega) (by unfold two64; omega)
 have li := hx.id
 simp only [encVote, List.length_append, List.length_cons, List.length_nil]
 omega
theorem encTx_len {x : Tx} (hx : x.ok) (_ : TxB x) : (encTx x).length ≤ 73 := by
 obtain ⟨fa, fb⟩ := hx.frm
 obtain ⟨ta, tb⟩ := hx.to
 obtain ⟨aa, ab⟩ := hx.amount
 obtain ⟨ea, eb⟩ := hx.fee
 obtain ⟨na, nb⟩ := hx.nonce
 have l1 := varB_int (n := x.frm) (by omega) (by unfold two64; omega)
 have l2 := varB_int (n := x.to) (by omega) (by unfold two64; omega)
 have l3 := varB_int (n := x.amount) (by omega) (by unfold two64; omega)
 have l4 := varB_int (n := x.fee) (by omega) (by unfold two64; omega)
 have l5 := varB_int (n := x.nonce) (by omega) (by unfold two64; omega)
 simp only [encTx, List.length_append, List.length_cons, List.length_nil]
 omega
end Go.Proofs.YtlhnhjglcbggmaaGreatRR
namespace Go.Proofs.YtlhnhjglcbggmaaGreatRR
set_option linter.unusedSimpArgs false
set_option linter.unusedVariables false
open Go.RowKit
set_option maxRecDepth 100000

/-- what a call that answers bytes or an error comes to -/
def BytesRes (w : World) (err : Int) (l : List UInt8) (e : Ending) (w' : World) : Prop :=
 Below w.heap.size w w' ∧ ((err ≠ 0 ∧ e = .returned (.tuple #[.slice none 0 0, .int .i64 err])) ∨ (err = 0 ∧ ∃ v, e = .returned (.tuple #[v, .int .i64 0]) ∧ Bs w' w.heap.size v l))

theorem cl_all {l : List Value} {n : Nat} (h : l.length = n) : l.toArray.extract 0 (0 + n) = l.toArray := by
 apply Array.ext'
 simp [← h]
theorem info_Tx : (Tryz.prog.info? 27).map (·.size) = some 22 := by kernel_rfl

theorem info_Vote : (Tryz.prog.info? 31).map (·.size) = some 53 := by kernel_rfl

end Go.Proofs.YtlhnhjglcbggmaaGreatRR

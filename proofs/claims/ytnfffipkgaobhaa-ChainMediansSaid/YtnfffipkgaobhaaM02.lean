/-
  '==' on whole numbers, bools, strings, and arrays and structs of these, is the equality of their cells; a part of such a value is the cells that lie there. No condition: lemmas over any program.
  Laws at single operations, with the world behind them under a name of its own: a value laid into a new block, a part of a block read or written. No condition: lemmas over any program.
  Transactions, votes and proposals as cells; PlainTx, PlainVote, PlainProposal. Condition: each number fits its kind.
-/
import Derived.Test.YtnfffipkgaobhaaM01
import Derived.ChangeKeysEq
import Derived.Deep.QuietTactic
import Derived.BigQuiet
import Derived.StillTailTactics
import Derived.Laws.IdiomStrings
namespace Go.Proofs.Ytnfffipkgaobhaa
set_option linter.unusedSimpArgs false
set_option linter.unusedVariables false
open Go.RowKit

/-- the kinds of the cells of a value without pointers -/
inductive CK where
  | int (k : IntKind) | bool | str
def CK.fits : CK → Value → Prop
  | .int k, .int k' _ => k' = k
  | .bool, .bool _ => True
  | .str, .string _ => True
  | _, _ => False
/-- these cells are of these kinds -/
def Fits : List CK → List Value → Prop
  | [], [] => True
  | k :: ks, v :: vs => k.fits v ∧ Fits ks vs
  | _, _ => False
theorem Fits.len : ∀ {ks : List CK} {vs : List Value}, Fits ks vs → vs.length = ks.length
  | [], [], _ => rfl
  | k :: ks, v :: vs, h => by simp [Fits.len h.2]
  | [], _ :: _, h => h.elim
  | _ :: _, [], h => h.elim
theorem Fits.app : ∀ {ks ks' : List CK} {vs vs' : List Value}, Fits ks vs → Fits ks' vs' → Fits (ks ++ ks') (vs ++ vs')
  | [], _, [], _, _, h' => h'
  | k :: ks, _, v :: vs, _, h, h' => ⟨h.1, Fits.app h.2 h'⟩
  | [], _, _ :: _, _, h, _ => h.elim
  | _ :: _, _, [], _, h, _ => h.elim
theorem Fits.split : ∀ {ks ks' : List CK} {vs : List Value}, Fits (ks ++ ks') vs → Fits ks (vs.take ks.length) ∧ Fits ks' (vs.drop ks.length)
  | [], _, _, h => ⟨trivial, h⟩
  | k :: ks, _, v :: vs, h => ⟨⟨h.1, (Fits.split h.2).1⟩, (Fits.split h.2).2⟩
  | _ :: _, _, [], h => h.elim
theorem Fits.bytes (l : List UInt8) : Fits (List.replicate l.length (.int .u8)) (bv l) := by
  induction l with
  | nil => trivial
  | cons b l ih => exact ⟨rfl, ih⟩

def flatFields (P : Program) (g : TypeId → Option (List CK)) : List Field → Nat → Option (List CK)
  | [], _ => some []
  | f :: fs, off =>
    if f.name == "_" || f.offset != off then none else
    match g f.type with
    | none => none
    | some ks => if (P.info? f.type).map (·.size) == some ks.length then (flatFields P g fs (off + ks.length)).map (ks ++ ·) else none
/-- the kinds of the cells of a type without pointers -/
def flat (P : Program) : Nat → TypeId → Option (List CK)
  | 0, _ => none
  | n + 1, t =>
    match P.underlying t with
    | some (.int k) => some [.int k]
    | some .bool => some [.bool]
    | some .string => some [.str]
    | some (.struct fs) => if P.stoodInHeld t then none else flatFields P (flat P n) fs.toList 0
    | some (.array m e) =>
      match flat P n e with
      | some ks => if (P.info? e).map (·.size) == some ks.length then some (List.replicate m ks).flatten else none
      | none => none
    | _ => none

/-- is it kept as an aggregate? -/
def isAggT (P : Program) (t : TypeId) : Bool := match P.underlying t with | some (.struct _) | some (.array _ _) => true | _ => false
def packV (agg : Bool) (xs : List Value) : Value := if agg then .agg xs.toArray else xs.headD undef

section
variable {P : Program}
theorem run_isAgg {t : TypeId} {d : TypeDesc} (hu : P.underlying t = some d) (w : World) : (isAgg t).run P w = .ok (isAggT P t) w := by
  unfold isAgg isAggT
  rw [Sem.run_bind, run_underlying hu w, hu]
  cases d <;> simp
theorem run_sizeOf' {t : TypeId} {n : Nat} (hi : (P.info? t).map (·.size) = some n) (w : World) : (sizeOf t).run P w = .ok n w := by
  cases hq : P.info? t with
  | none => simp [hq] at hi
  | some i => simp [hq] at hi; simp [sizeOf, typeInfo, hq, hi]
theorem run_part {t : TypeId} {d : TypeDesc} {n : Nat} (hu : P.underlying t = some d) (hi : (P.info? t).map (·.size) = some n) (h1 : isAggT P t = false → n = 1) (cs : Array Value) (off : Nat) (hl : n = 1 → off < cs.size) (w : World) :
    (part t cs off).run P w = .ok (packV (isAggT P t) ((cs.toList.drop off).take n)) w := by
  unfold part
  simp only [Sem.run_bind, run_isAgg hu w, Result.andThen_ok]
  cases hb : isAggT P t with
  | true =>
    simp only [if_true, Sem.run_bind, run_sizeOf' hi w, Result.andThen_ok, Sem.run_pure, packV]
    congr 2
    apply Array.ext'
    simp
  | false =>
    have hn := h1 hb
    subst hn
    have hlt : off < cs.size := hl rfl
    simp only [Bool.false_eq_true, if_false, packV]
    rw [Array.getElem?_eq_getElem hlt]
    simp only [Sem.run_pure]
    congr 1
    have : cs.toList.drop off = cs[off] :: cs.toList.drop (off + 1) := by
      rw [List.drop_eq_getElem_cons (by simpa using hlt)]
      simp
    rw [this]
    rfl
theorem flat_one {n : Nat} {t : TypeId} {ks : List CK} (h : flat P n t = some ks) (ha : isAggT P t = false) : ks.length = 1 := by
  cases n with
  | zero => simp [flat] at h
  | succ n =>
    unfold flat at h
    unfold isAggT at ha
    cases hu : P.underlying t with
    | none => simp [hu] at h
    | some d => cases d <;> simp [hu] at h ha <;> subst h <;> rfl
theorem flat_under {n : Nat} {t : TypeId} {ks : List CK} (h : flat P n t = some ks) : ∃ d, P.underlying t = some d := by
  cases n with
  | zero => simp [flat] at h
  | succ n =>
    unfold flat at h
    cases hu : P.underlying t with
    | none => simp [hu] at h
    | some d => exact ⟨d, rfl⟩

/-- '==' at type t looks just at the cells -/
def EqOk (P : Program) (m : Nat) (t : TypeId) (ks : List CK) : Prop :=
  ∀ (d : Nat) (xs ys : List Value) (w : World), Fits ks xs → Fits ks ys → ∃ b : Bool, (Op.equalIn (m + d) t (packV (isAggT P t) xs) (packV (isAggT P t) ys)).run P w = .ok b w ∧ (b = true ↔ xs = ys)

theorem append_eq_iff {α : Type} {a b c d : List α} (h : a.length = b.length) : a ++ c = b ++ d ↔ a = b ∧ c = d :=
  ⟨fun e => List.append_inj e h, fun ⟨e1, e2⟩ => by rw [e1, e2]⟩

theorem fields_eq (m : Nat) (g : TypeId → Option (List CK)) (hg : ∀ t ks, g t = some ks → EqOk P m t ks ∧ (∃ d, P.underlying t = some d) ∧ (isAggT P t = false → ks.length = 1)) (d : Nat) (xs ys : List Value) :
    ∀ (fs : List Field) (off : Nat) (ks : List CK), flatFields P g fs off = some ks → Fits ks (xs.drop off) → Fits ks (ys.drop off) → ∀ w : World,
      ∃ b : Bool, (Op.eqFields (m + d) xs.toArray ys.toArray fs).run P w = .ok b w ∧ (b = true ↔ xs.drop off = ys.drop off)
  | [], off, ks, h, hx, hy, w => by
    simp [flatFields] at h
    subst h
    have hx' := List.eq_nil_of_length_eq_zero hx.len
    have hy' := List.eq_nil_of_length_eq_zero hy.len
    exact ⟨true, by simp [Op.eqFields], by rw [hx', hy']; simp⟩
  | f :: fs, off, ks, h, hx, hy, w => by
    unfold flatFields at h
    split at h
    · cases h
    · rename_i hc
      simp only [Bool.or_eq_true, beq_iff_eq, bne_iff_ne, ne_eq, not_or, Classical.not_not] at hc
      obtain ⟨hn, ho⟩ := hc
      cases hk : g f.type with
      | none => simp [hk] at h
      | some k1 =>
        simp only [hk] at h
        split at h
        · rename_i hi
          simp only [beq_iff_eq] at hi
          obtain ⟨k2, h2, rfl⟩ := Option.map_eq_some_iff.1 h
          obtain ⟨he, ⟨dd, hu⟩, h1⟩ := hg f.type k1 hk
          obtain ⟨fx1, fx2⟩ := hx.split
          obtain ⟨fy1, fy2⟩ := hy.split
          have lx := fx1.len
          have ly := fy1.len
          have hlx : k1.length = 1 → off < xs.length := by intro q; simp [q] at lx; omega
          have hly : k1.length = 1 → off < ys.length := by intro q; simp [q] at ly; omega
          obtain ⟨b, hb, hbi⟩ := he d _ _ w fx1 fy1
          rw [List.drop_drop] at fx2 fy2
          obtain ⟨b', hb', hbi'⟩ := fields_eq m g hg d xs ys fs (off + k1.length) k2 h2 fx2 fy2 w
          have px := run_part hu hi (fun q => h1 q) xs.toArray off (by simpa using hlx) w
          have py := run_part hu hi (fun q => h1 q) ys.toArray off (by simpa using hly) w
          simp only at px py
          simp only [Op.eqFields, hn, ne_eq, not_false_eq_true, if_true, Sem.run_bind, ho, px, py, Result.andThen_ok, hb]
          have key : xs.drop off = ys.drop off ↔ (xs.drop off).take k1.length = (ys.drop off).take k1.length ∧ xs.drop (off + k1.length) = ys.drop (off + k1.length) := by
            rw [← List.drop_drop, ← List.drop_drop]
            have e1 := (List.take_append_drop k1.length (xs.drop off)).symm
            have e2 := (List.take_append_drop k1.length (ys.drop off)).symm
            constructor
            · intro e; rw [e]; exact ⟨rfl, rfl⟩
            · rintro ⟨q1, q2⟩; rw [e1, e2, q1, q2]
          cases b
          · refine ⟨false, by simp, ?_⟩
            rw [key]
            constructor
            · intro e; cases e
            · rintro ⟨q, _⟩; exact absurd (hbi.2 q) (by simp)
          · refine ⟨b', by simpa using hb', ?_⟩
            rw [hbi', key]
            exact ⟨fun q => ⟨hbi.1 rfl, q⟩, fun q => q.2⟩
        · cases h

theorem items_eq (m : Nat) {e : TypeId} {ks : List CK} (he : EqOk P m e ks) (hu : ∃ d, P.underlying e = some d) (h1 : isAggT P e = false → ks.length = 1) (hi : (P.info? e).map (·.size) = some ks.length) (d : Nat) (xs ys : List Value) :
    ∀ (n j : Nat), Fits (List.replicate n ks).flatten (xs.drop (j * ks.length)) → Fits (List.replicate n ks).flatten (ys.drop (j * ks.length)) → ∀ w : World,
      ∃ b : Bool, (Op.eqItems (m + d) e ks.length xs.toArray ys.toArray (List.range' j n)).run P w = .ok b w ∧ (b = true ↔ xs.drop (j * ks.length) = ys.drop (j * ks.length))
  | 0, j, hx, hy, w => by
    have hx' := List.eq_nil_of_length_eq_zero hx.len
    have hy' := List.eq_nil_of_length_eq_zero hy.len
    exact ⟨true, by simp [Op.eqItems], by rw [hx', hy']; simp⟩
  | n + 1, j, hx, hy, w => by
    rw [List.replicate_succ, List.flatten_cons] at hx hy
    obtain ⟨fx1, fx2⟩ := hx.split
    obtain ⟨fy1, fy2⟩ := hy.split
    have lx := fx1.len
    have ly := fy1.len
    have hlx : ks.length = 1 → j * ks.length < xs.length := by intro q; simp [q] at lx; rw [q]; omega
    have hly : ks.length = 1 → j * ks.length < ys.length := by intro q; simp [q] at ly; rw [q]; omega
    obtain ⟨dd, hu⟩ := hu
    have hsucc : (j + 1) * ks.length = j * ks.length + ks.length := by rw [Nat.add_mul, Nat.one_mul]
    rw [List.drop_drop, ← hsucc] at fx2 fy2
    obtain ⟨b, hb, hbi⟩ := he d _ _ w fx1 fy1
    obtain ⟨b', hb', hbi'⟩ := items_eq m he ⟨dd, hu⟩ h1 hi d xs ys n (j + 1) fx2 fy2 w
    have px := run_part hu hi (fun q => h1 q) xs.toArray (j * ks.length) (by simpa using hlx) w
    have py := run_part hu hi (fun q => h1 q) ys.toArray (j * ks.length) (by simpa using hly) w
    simp only at px py
    rw [List.range'_succ]
    simp only [Op.eqItems, Sem.run_bind, px, py, Result.andThen_ok, hb]
    have key : xs.drop (j * ks.length) = ys.drop (j * ks.length) ↔ (xs.drop (j * ks.length)).take ks.length = (ys.drop (j * ks.length)).take ks.length ∧ xs.drop ((j + 1) * ks.length) = ys.drop ((j + 1) * ks.length) := by
      rw [hsucc, ← List.drop_drop, ← List.drop_drop]
      have e1 := (List.take_append_drop ks.length (xs.drop (j * ks.length))).symm
      have e2 := (List.take_append_drop ks.length (ys.drop (j * ks.length))).symm
      constructor
      · intro e; rw [e]; exact ⟨rfl, rfl⟩
      · rintro ⟨q1, q2⟩; rw [e1, e2, q1, q2]
    cases b
    · refine ⟨false, by simp, ?_⟩
      rw [key]
      constructor
      · intro e; cases e
      · rintro ⟨q, _⟩; exact absurd (hbi.2 q) (by simp)
    · refine ⟨b', by simpa using hb', ?_⟩
      rw [hbi', key]
      exact ⟨fun q => ⟨hbi.1 rfl, q⟩, fun q => q.2⟩

theorem fits_one {k : CK} {xs : List Value} (h : Fits [k] xs) : ∃ v, xs = [v] ∧ k.fits v := by
  match xs, h with
  | [v], h => exact ⟨v, rfl, h.1⟩
  | [], h => exact h.elim
  | _ :: _ :: _, h => exact h.2.elim

theorem byteArray_beq (a b : ByteArray) : (a == b) = true ↔ a = b := by
  rw [beq_toListBytes]
  simp only [beq_iff_eq, ByteArray.toList_eq]
  constructor
  · intro h
    obtain ⟨⟨x⟩⟩ := a
    obtain ⟨⟨y⟩⟩ := b
    simpa using h
  · rintro rfl; rfl
def aggD : TypeDesc → Bool | .struct _ | .array _ _ => true | _ => false
theorem flat_eq : ∀ (n : Nat) (t : TypeId) (ks : List CK), flat P n t = some ks → EqOk P n t ks
  | 0, t, ks, h => by simp [flat] at h
  | n + 1, t, ks, h => by
    intro d xs ys w hx hy
    have hd : n + 1 + d = (n + d) + 1 := by omega
    rw [hd]
    unfold flat at h
    cases hu : P.underlying t with
    | none => simp [hu] at h
    | some dd =>
      have hagg : isAggT P t = aggD dd := by unfold isAggT; rw [hu]; cases dd <;> rfl
      cases dd <;> simp only [hu] at h <;> try (cases h; done)
      case some.bool =>
        cases h
        obtain ⟨v, rfl, fv⟩ := fits_one hx
        obtain ⟨u, rfl, fu⟩ := fits_one hy
        cases v <;> simp [CK.fits] at fv
        cases u <;> simp [CK.fits] at fu
        rename_i a b
        rw [hagg]
        exact ⟨a == b, run_equalIn_bool' w (n + d) t a b hu, by simp⟩
      case some.int k =>
        cases h
        obtain ⟨v, rfl, fv⟩ := fits_one hx
        obtain ⟨u, rfl, fu⟩ := fits_one hy
        cases v <;> simp [CK.fits] at fv
        cases u <;> simp [CK.fits] at fu
        subst fv fu
        rename_i a _ b
        rw [hagg]
        exact ⟨a == b, run_equalIn_int w (n + d) t _ _ a b hu, by simp⟩
      case some.string =>
        cases h
        obtain ⟨v, rfl, fv⟩ := fits_one hx
        obtain ⟨u, rfl, fu⟩ := fits_one hy
        cases v <;> simp [CK.fits] at fv
        cases u <;> simp [CK.fits] at fu
        rename_i a b
        rw [hagg]
        refine ⟨a == b, (run_equalIn_string w (n + d) t a b hu).trans (by rw [← beq_toListBytes]), by rw [byteArray_beq]; simp⟩
      case some.struct fs =>
        split at h
        · cases h
        · rename_i hsi
          have hsi' : P.stoodInHeld t = false := by simpa using hsi
          have hf : P.fieldsOf t = fs := by unfold Program.fieldsOf; rw [hu]
          rw [hagg]
          simp only [packV, aggD, if_true]
          rw [run_equalIn_struct w (n + d) t xs.toArray ys.toArray (by rw [hf]; exact hu) hsi', hf]
          have := fields_eq n (flat P n) (fun t' k' h' => ⟨flat_eq n t' k' h', flat_under h', flat_one h'⟩) d xs ys fs.toList 0 ks h (by simpa using hx) (by simpa using hy) w
          simpa using this
      case some.array m e =>
        split at h
        · rename_i k1 hk1
          split at h
          · rename_i hi
            simp only [beq_iff_eq] at hi
            cases h
            rw [hagg]
            simp only [packV, aggD, if_true]
            have hie : ∃ i, P.info? e = some i ∧ i.size = k1.length := by
              cases hq : P.info? e with
              | none => simp [hq] at hi
              | some i => exact ⟨i, rfl, by simpa [hq] using hi⟩
            obtain ⟨i, hie, hsz⟩ := hie
            have hco : P.cellsOf e = k1.length := by unfold Program.cellsOf; simp [hie, hsz]
            rw [run_equalIn_array w (n + d) xs.toArray ys.toArray hu hie, hco, List.range_eq_range']
            have := items_eq n (flat_eq n e k1 hk1) (flat_under hk1) (flat_one hk1) hi d xs ys m 0 (by simpa using hx) (by simpa using hy) w
            simpa using this
          · cases h
        · cases h

/-- '==' and '!=' at an aggregate, for the walk -/
theorem run_eql_flat {t : TypeId} {n : Nat} {ks : List CK} (hf : flat P n t = some ks) (hn : n ≤ 10000) (ha : isAggT P t = true) {xs ys : List Value} (hx : Fits ks xs) (hy : Fits ks ys) {q : Bool} (hq : q = true ↔ xs = ys) (w : World) :
    (binOp .eql t (.agg xs.toArray) (.agg ys.toArray)).run P w = .ok (.bool q) w := by
  obtain ⟨b, hb, hbi⟩ := flat_eq n t ks hf (10000 - n) xs ys w hx hy
  have hbq : b = q := by rw [Bool.eq_iff_iff, hbi, hq]
  rw [run_eql_struct]
  have e : n + (10000 - n) = 10000 := by omega
  rw [e, ha] at hb
  simp only [packV, if_true] at hb
  rw [hb, hbq]
  simp
theorem run_neq_flat {t : TypeId} {n : Nat} {ks : List CK} (hf : flat P n t = some ks) (hn : n ≤ 10000) (ha : isAggT P t = true) {xs ys : List Value} (hx : Fits ks xs) (hy : Fits ks ys) {q : Bool} (hq : q = true ↔ xs = ys) (w : World) :
    (binOp .neq t (.agg xs.toArray) (.agg ys.toArray)).run P w = .ok (.bool (!q)) w := by
  obtain ⟨b, hb, hbi⟩ := flat_eq n t ks hf (10000 - n) xs ys w hx hy
  have hbq : b = q := by rw [Bool.eq_iff_iff, hbi, hq]
  rw [run_neq_struct]
  have e : n + (10000 - n) = 10000 := by omega
  rw [e, ha] at hb
  simp only [packV, if_true] at hb
  rw [hb, hbq]
  simp
end
end Go.Proofs.Ytnfffipkgaobhaa
namespace Go.Proofs.Ytnfffipkgaobhaa
set_option linter.unusedSimpArgs false
set_option linter.unusedVariables false
open Go.RowKit

section
variable {P : Program}
theorem wpList_want {ops : Array Oper} {rest : List Oper} {o : Oper} {a : Act} {w : World} {Q : Exit → Act → World → Prop} (hw : Region.wanted o (yielded ops a.tmps) = true)
    (h : ∀ K : Act → World → Prop, (∀ a w, wpList P ops Q rest a w → K a w) → o.wp P a w K Q) : wpList P ops Q (o :: rest) a w :=
  wpList_step fun K hK => by rw [if_pos hw]; exact h K hK
theorem addr_add (g o j : Nat) : (⟨g, o, none⟩ : Addr).add j = ⟨g, o + j, none⟩ := by unfold Addr.add; split <;> simp_all

/-- a value laid into a new block -/
theorem wpList_box_bk {ops : Array Oper} {rest : List Oper} {o : Oper} {a : Act} {w : World} {Q : Exit → Act → World → Prop} (hgd : o.guard = none) (t : TypeId) (x : Operand) (ho : o.op = .box t x) (v : Value) (hx : a.eval x = v)
    (h : ∀ g w', Bk w' g v.cells t → Below w.heap.size w w' → w.heap.size = g → w'.heap.size = g + 1 → wpList P ops Q rest (a.put o.dst (.pointer (some ⟨g, 0, none⟩))) w') : wpList P ops Q (o :: rest) a w := by
  refine wpList_plain hgd fun K hK => ?_
  unfold Oper.wp execOp
  simp only [ho, hx, Instr.box, newVar, newRow, newObj, Sem.run_bind, Sem.run_pure, Result.andThen_ok]
  refine hK _ _ (h w.heap.size (w.alloc (.cells v.cells t)) (Bk.new w t _) ((Below.refl _ _).alloc (Nat.le_refl _) _) rfl (by simp))

/-- a part of a known block, read whole -/
theorem run_loadVar_part {w : World} {g off ty n : Nat} {cs : Array Value} {t : TypeId} {d : TypeDesc} (hk : Bk w g cs t) (hu : P.underlying ty = some d) (hd : aggD d = true) (hi : (P.info? ty).map (·.size) = some n) (hn : off + n ≤ cs.size) :
    (loadVar ty ⟨g, off, none⟩).run P w = .ok (.agg (cs.extract off (off + n))) w := by
  have hl : (loadCells ⟨g, off, none⟩ (cs.extract off (off + n)).toList.length).run P w = .ok (cs.extract off (off + n)).toList.toArray w :=
    run_loadCells_list (P := P) w ⟨g, off, none⟩ _ (fun j v hv => by
      rw [addr_add, hk.cell]
      simp only [Array.getElem?_toList, Array.getElem?_extract] at hv
      split at hv
      · exact hv
      · cases hv)
  have hlen : (cs.extract off (off + n)).toList.length = n := by simp; omega
  rw [hlen] at hl
  have hagg : (isAgg ty).run P w = .ok true w := by
    rw [run_isAgg hu w]
    congr 1
    unfold isAggT
    rw [hu]
    cases d <;> simp [aggD] at hd ⊢
  simp only [Array.toArray_toList] at hl
  simp [loadVar, Sem.run_bind, hagg, run_sizeOf' hi, hl]

theorem wpList_load_part {ops : Array Oper} {rest : List Oper} {o : Oper} {a : Act} {w : World} {Q : Exit → Act → World → Prop} (hw : Region.wanted o (yielded ops a.tmps) = true) (ty : TypeId) (x : Operand) (ho : o.op = .load ty x)
    (g off n : Nat) (hx : a.eval x = .pointer (some ⟨g, off, none⟩)) (cs : Array Value) (t : TypeId) (d : TypeDesc) (hk : Bk w g cs t) (hu : P.underlying ty = some d) (hd : aggD d = true) (hi : (P.info? ty).map (·.size) = some n) (hn : off + n ≤ cs.size)
    (v : Array Value) (hv : cs.extract off (off + n) = v)
    (h : wpList P ops Q rest (a.put o.dst (.agg v)) w) : wpList P ops Q (o :: rest) a w := by
  refine wpList_want hw fun K hK => ?_
  unfold Oper.wp execOp
  simp only [ho, hx, Instr.loadAt, Instr.sureAddr, Sem.run_bind, Sem.run_pure, Result.andThen_ok, run_loadVar_part hk hu hd hi hn, hv]
  exact hK _ _ h

/-- the cells of a block with a part written over -/
def splice (cs : Array Value) (off : Nat) (xs : List Value) : Array Value := (cs.toList.take off ++ xs ++ cs.toList.drop (off + xs.length)).toArray
theorem splice_size {cs : Array Value} {off : Nat} {xs : List Value} (h : off + xs.length ≤ cs.size) : (splice cs off xs).size = cs.size := by
  simp [splice]; omega
theorem splice_at {cs : Array Value} {off : Nat} {xs : List Value} (h : off + xs.length ≤ cs.size) (j : Nat) : (splice cs off xs)[j]? = if off ≤ j ∧ j < off + xs.length then xs[j - off]? else cs[j]? := by
  simp only [splice, List.getElem?_toArray]
  by_cases h1 : j < off
  · rw [if_neg (by omega), List.append_assoc, List.getElem?_append_left (by simp; omega), List.getElem?_take, if_pos h1, Array.getElem?_toList]
  · by_cases h2 : j < off + xs.length
    · rw [if_pos (by omega), List.append_assoc, List.getElem?_append_right (by simp; omega)]
      have e : (cs.toList.take off).length = off := by simp; omega
      rw [e, List.getElem?_append_left (by omega)]
    · rw [if_neg (by omega), List.getElem?_append_right (by simp; omega)]
      have e : (cs.toList.take off ++ xs).length = off + xs.length := by simp; omega
      rw [e, List.getElem?_drop, Array.getElem?_toList]
      congr 1; omega

theorem run_storeVar_part {w : World} {g off ty : Nat} {cs : Array Value} {t : TypeId} {v : Value} (hk : Bk w g cs t) (hi : (P.info? ty).map (·.size) = some v.cells.size) (hn : off + v.cells.size ≤ cs.size) (h1 : ∀ u ∈ v.cells.toList, u.oneCell' = true) :
    (storeVar ty ⟨g, off, none⟩ v).run P w = .ok () (w.setRow g (splice cs off v.cells.toList)) := by
  have hst := run_storeCells_at P g off t v.cells.toList 0 cs w hk (by simpa using hn) h1
  simp only [Nat.add_zero] at hst
  have e : (cs.toList.take off ++ v.cells.toList ++ cs.toList.drop (off + v.cells.toList.length)).toArray = splice cs off v.cells.toList := rfl
  rw [e] at hst
  simp [storeVar, Sem.run_bind, run_sizeOf' hi, hst]

theorem wpList_store_part {ops : Array Oper} {rest : List Oper} {o : Oper} {a : Act} {w : World} {Q : Exit → Act → World → Prop} (hw : Region.wanted o (yielded ops a.tmps) = true) (ty : TypeId) (x y : Operand) (ho : o.op = .store ty x y)
    (g off : Nat) (hx : a.eval x = .pointer (some ⟨g, off, none⟩)) (v : Value) (hy : a.eval y = v) (cs : Array Value) (t : TypeId) (hk : Bk w g cs t) (hi : (P.info? ty).map (·.size) = some v.cells.size) (hn : off + v.cells.size ≤ cs.size) (h1 : ∀ u ∈ v.cells.toList, u.oneCell' = true)
    (h : ∀ w', Bk w' g (splice cs off v.cells.toList) t → w.grownBy w' (some g) → w'.heap.size = w.heap.size → wpList P ops Q rest (a.put o.dst undef) w') : wpList P ops Q (o :: rest) a w := by
  refine wpList_want hw fun K hK => ?_
  unfold Oper.wp execOp
  simp only [ho, hx, hy, Instr.storeAt, Instr.sureAddr, Sem.run_bind, Sem.run_pure, Result.andThen_ok, run_storeVar_part hk hi hn h1]
  refine hK _ _ (h _ (setRow_heap w g cs _ t _ hk) ⟨rfl, rfl, rfl, by simp, fun k _ hne => setRow_other w g k _ (fun e => hne (by rw [e]))⟩ (by simp))

/-- a text turned into bytes, in new memory -/
theorem wpList_conv_sb {ops : Array Oper} {rest : List Oper} {o : Oper} {a : Act} {w : World} {Q : Exit → Act → World → Prop} (hw : Region.wanted o (yielded ops a.tmps) = true) (src dst e : TypeId) (x : Operand) (ho : o.op = .convert src dst x)
    (s : ByteArray) (hx : a.eval x = .string s) (hs : P.underlying src = some .string) (hd : P.underlying dst = some (.slice e)) (he : P.underlying e = some (.int .u8))
    (h : ∀ g c w', Rd w' (some ⟨g, 0, none⟩) (bv s.data.toList) → Below w.heap.size w w' → w.heap.size = g → wpList P ops Q rest (a.put o.dst (.slice (some ⟨g, 0, none⟩) s.size c)) w') : wpList P ops Q (o :: rest) a w := by
  refine wpList_want hw fun K hK => ?_
  unfold Oper.wp execOp
  simp only [ho, hx, Sem.run_bind, Sem.run_pure, run_bytes_of_string w src dst e s hs hd he, Result.andThen_ok]
  refine hK _ _ (h w.heap.size _ _ ?_ (((Below.refl _ _).drew).alloc (Nat.le_refl _) _) rfl)
  intro j u hu
  refine ⟨_, rfl, ?_⟩
  rw [addr_add, Nat.zero_add]
  have hb : (w.drew.alloc (.cells (bytesRow s (grownCap w s.size 0 e)) e ((bytesRow s (grownCap w s.size 0 e)).size, (bytesRow s (grownCap w s.size 0 e)).size + 1))).heap[w.heap.size]? = some (.cells (bytesRow s (grownCap w s.size 0 e)) e ((bytesRow s (grownCap w s.size 0 e)).size, (bytesRow s (grownCap w s.size 0 e)).size + 1)) := heap_alloc_new w.drew _
  rw [cell_of_row _ _ _ _ _ _ hb]
  have hlen : j < s.data.toList.length := by
    have := (List.getElem?_eq_some_iff.1 hu).1
    simpa [bv_length] using this
  rw [bv_get] at hu
  unfold bytesRow
  rw [Array.getElem?_append_left (by simpa using hlen)]
  simpa using hu

/-! Inside a region that draws its order. -/
theorem quiet_load_part {o : Oper} {a : Act} {C : World → Prop} {K : Act → Prop} (ty : TypeId) (x : Operand) (ho : o.op = .load ty x)
    (g off n : Nat) (hx : a.eval x = .pointer (some ⟨g, off, none⟩)) (cs : Array Value) (t : TypeId) (d : TypeDesc) (hk : ∀ w, C w → Bk w g cs t) (hu : P.underlying ty = some d) (hd : aggD d = true) (hi : (P.info? ty).map (·.size) = some n) (hn : off + n ≤ cs.size)
    (v : Array Value) (hv : cs.extract off (off + n) = v) (h : K (a.put o.dst (.agg v))) : o.quiet P a C K := by
  refine ⟨_, fun w hw => ?_, h⟩
  unfold Oper.quietAt execOp
  simp only [ho, hx, Instr.loadAt, Instr.sureAddr, Sem.run_bind, Sem.run_pure, Result.andThen_ok, run_loadVar_part (hk w hw) hu hd hi hn, hv]
  exact ⟨rfl, rfl⟩
theorem run_eqGuard_flat {t : TypeId} (op : BinOp) (x y : Operand) (xs ys : Array Value) (hm : P.eqGuardType P.depth t = false) (w : World) : (eqGuard op t x y (.agg xs) (.agg ys)).run P w = .ok () w := run_eqGuard_agg w op t x y xs ys hm
theorem quiet_eql_flat {o : Oper} {a : Act} {C : World → Prop} {K : Act → Prop} (ty ty' : TypeId) (x y : Operand) (ho : o.op = .binOp .eql ty x y ty') (xs ys : List Value) (hx : a.eval x = .agg xs.toArray) (hy : a.eval y = .agg ys.toArray)
    (n : Nat) (ks : List CK) (hf : flat P n ty = some ks) (hn : n ≤ 10000) (ha : isAggT P ty = true) (hm : P.eqGuardType P.depth ty = false) (fx : Fits ks xs) (fy : Fits ks ys) (q : Bool) (hq : q = true ↔ xs = ys) (h : K (a.put o.dst (.bool q))) : o.quiet P a C K := by
  refine ⟨_, fun w hw => ?_, h⟩
  unfold Oper.quietAt execOp
  simp only [ho, hx, hy, Sem.run_bind, Sem.run_pure, Result.andThen_ok, run_eqGuard_flat .eql x y _ _ hm, run_eql_flat hf hn ha fx fy hq]
  exact ⟨rfl, rfl⟩
theorem quiet_neq_flat {o : Oper} {a : Act} {C : World → Prop} {K : Act → Prop} (ty ty' : TypeId) (x y : Operand) (ho : o.op = .binOp .neq ty x y ty') (xs ys : List Value) (hx : a.eval x = .agg xs.toArray) (hy : a.eval y = .agg ys.toArray)
    (n : Nat) (ks : List CK) (hf : flat P n ty = some ks) (hn : n ≤ 10000) (ha : isAggT P ty = true) (hm : P.eqGuardType P.depth ty = false) (fx : Fits ks xs) (fy : Fits ks ys) (q : Bool) (hq : q = true ↔ xs = ys) (h : K (a.put o.dst (.bool (!q)))) : o.quiet P a C K := by
  refine ⟨_, fun w hw => ?_, h⟩
  unfold Oper.quietAt execOp
  simp only [ho, hx, hy, Sem.run_bind, Sem.run_pure, Result.andThen_ok, run_eqGuard_flat .neq x y _ _ hm, run_neq_flat hf hn ha fx fy hq]
  exact ⟨rfl, rfl⟩
/-! Outside one. -/
theorem wpList_eql_flat {ops : Array Oper} {rest : List Oper} {o : Oper} {a : Act} {w : World} {Q : Exit → Act → World → Prop} (hw : Region.wanted o (yielded ops a.tmps) = true) (ty ty' : TypeId) (x y : Operand) (ho : o.op = .binOp .eql ty x y ty') (xs ys : List Value) (hx : a.eval x = .agg xs.toArray) (hy : a.eval y = .agg ys.toArray)
    (n : Nat) (ks : List CK) (hf : flat P n ty = some ks) (hn : n ≤ 10000) (ha : isAggT P ty = true) (hm : P.eqGuardType P.depth ty = false) (fx : Fits ks xs) (fy : Fits ks ys) (q : Bool) (hq : q = true ↔ xs = ys) (h : wpList P ops Q rest (a.put o.dst (.bool q)) w) : wpList P ops Q (o :: rest) a w := by
  refine wpList_want hw fun K hK => ?_
  unfold Oper.wp execOp
  simp only [ho, hx, hy, Sem.run_bind, Sem.run_pure, Result.andThen_ok, run_eqGuard_flat .eql x y _ _ hm, run_eql_flat hf hn ha fx fy hq]
  exact hK _ _ h
theorem wpList_neq_flat {ops : Array Oper} {rest : List Oper} {o : Oper} {a : Act} {w : World} {Q : Exit → Act → World → Prop} (hw : Region.wanted o (yielded ops a.tmps) = true) (ty ty' : TypeId) (x y : Operand) (ho : o.op = .binOp .neq ty x y ty') (xs ys : List Value) (hx : a.eval x = .agg xs.toArray) (hy : a.eval y = .agg ys.toArray)
    (n : Nat) (ks : List CK) (hf : flat P n ty = some ks) (hn : n ≤ 10000) (ha : isAggT P ty = true) (hm : P.eqGuardType P.depth ty = false) (fx : Fits ks xs) (fy : Fits ks ys) (q : Bool) (hq : q = true ↔ xs = ys) (h : wpList P ops Q rest (a.put o.dst (.bool (!q))) w) : wpList P ops Q (o :: rest) a w := by
  refine wpList_want hw fun K hK => ?_
  unfold Oper.wp execOp
  simp only [ho, hx, hy, Sem.run_bind, Sem.run_pure, Result.andThen_ok, run_eqGuard_flat .neq x y _ _ hm, run_neq_flat hf hn ha fx fy hq]
  exact hK _ _ h
end
end Go.Proofs.Ytnfffipkgaobhaa
namespace Go.Proofs.Ytnfffipkgaobhaa
set_option linter.unusedSimpArgs false
set_option linter.unusedVariables false
open Go.RowKit
set_option maxRecDepth 100000

structure Tx where
  kind : Int
  frm : Int
  to : Int
  amount : Int
  fee : Int
  nonce : Int
  sl : List UInt8
def Tx.cl (x : Tx) : List Value := [.int .i64 x.kind, .int .u64 x.frm, .int .u64 x.to, .int .u64 x.amount, .int .u64 x.fee, .int .u64 x.nonce] ++ bv x.sl

structure Vote where
  kind : Int
  height : Int
  round : Int
  id : List UInt8
  time : Int
  frm : Int
  sl : List UInt8
def Vote.cl (x : Vote) : List Value := [.int .i64 x.kind, .int .u64 x.height, .int .i64 x.round] ++ bv x.id ++ [.int .u64 x.time, .int .u64 x.frm] ++ bv x.sl

structure Proposal where
  height : Int
  round : Int
  valid : Int
  id : List UInt8
  frm : Int
  sl : List UInt8
def Proposal.cl (x : Proposal) : List Value := [.int .u64 x.height, .int .i64 x.round, .int .i64 x.valid] ++ bv x.id ++ [.int .u64 x.frm] ++ bv x.sl

/-- a 64-bit number without sign -/
def U64 (n : Int) : Prop := 0 ≤ n ∧ n < 18446744073709551616
def I64 (n : Int) : Prop := -9223372036854775808 ≤ n ∧ n < 9223372036854775808
structure Tx.ok (x : Tx) : Prop where
  kind : I64 x.kind
  frm : U64 x.frm
  to : U64 x.to
  amount : U64 x.amount
  fee : U64 x.fee
  nonce : U64 x.nonce
  sl : x.sl.length = 16
structure Vote.ok (x : Vote) : Prop where
  kind : I64 x.kind
  height : U64 x.height
  round : I64 x.round
  id : x.id.length = 32
  time : U64 x.time
  frm : U64 x.frm
  sl : x.sl.length = 16
structure Proposal.ok (x : Proposal) : Prop where
  height : U64 x.height
  round : I64 x.round
  valid : I64 x.valid
  id : x.id.length = 32
  frm : U64 x.frm
  sl : x.sl.length = 16

def plainTx (x : Tx) : Int := firstErr [kind x.kind 1 4, field ((x.frm == 0) || ((x.to != 0) != (x.kind == 1))), amount x.amount, field ((x.kind == 4) && (x.amount != 0)), amount x.fee]

theorem still_of {P : Program} {f : FuncId} {args : Array Value} {w : World} {v : Value} (h : Calls P f args w fun e w' => e = .returned v ∧ w = w') : Calls P f args w fun e w' => e = .returned v ∧ w' = w :=
  h.mono fun _ _ ⟨h1, h2⟩ => ⟨h1, h2.symm⟩

/-- the lexical walk of what leaves the world alone, from the quiet one -/
theorem still_quiet {P : Program} {ops : Array Oper} {w : World} {Q : Act → Prop} : ∀ (l : List Oper) (a : Act), wpQuiet P ops (fun w' => w' = w) Q l a → wpStill P ops w Q l a
  | [], _, h => h
  | o :: rest, a, h => by
    unfold wpQuiet at h
    unfold wpStill
    split at h
    · rename_i hw
      rw [if_pos hw]
      obtain ⟨v, h1, h2⟩ := h
      have h3 := still_quiet rest _ h2
      have h4 := h1 w rfl
      unfold Oper.quietAt at h4
      unfold Oper.still
      generalize (execOp a.eval o).run P w = r at h4
      unfold Oper.quietUpon at h4
      unfold Oper.stillUpon
      split at h4
      · obtain ⟨e1, e2⟩ := h4; subst e2; exact ⟨e1, h3⟩
      · obtain ⟨e1, e2⟩ := h4; subst e2; exact ⟨e1, h3⟩
      · obtain ⟨e1, e2⟩ := h4; exact ⟨e1, v, e2, h3⟩
      · exact h4.elim
    · rename_i hw
      rw [if_neg hw]
      exact still_quiet rest _ h

theorem rd_errs (w : World) (cs : Array Value) (l : List Int) (h : cs.toList = l.map (Value.int .i64)) : Rd (w.alloc (.cells cs 40)) (some ⟨w.heap.size, 0, none⟩) (l.map (Value.int .i64)) :=
  Rd.of_bk (Bk.new w _ cs) 0 _ (fun j u hu => by rw [← h] at hu; simpa using hu)

def zeros (n : Nat) : List UInt8 := List.replicate n 0
theorem flat_hash : flat Try.prog 2 27 = some (List.replicate 32 (.int .u8)) := by kernel_rfl
theorem agg_hash : isAggT Try.prog 27 = true := by kernel_rfl
theorem guard_hash : Try.prog.eqGuardType Try.prog.depth 27 = false := by kernel_rfl
theorem info_hash : (Try.prog.info? 27).map (·.size) = some 32 := by kernel_rfl
theorem fits_hash {h : List UInt8} (hl : h.length = 32) : Fits (List.replicate 32 (.int .u8)) (bv h) := by rw [← hl]; exact Fits.bytes h
theorem bv_iff {a b : List UInt8} {q : Bool} (h : q = (a == b)) : q = true ↔ bv a = bv b := by
  rw [h, beq_iff_eq]; exact ⟨fun e => by rw [e], bv_inj⟩

def plainVote (x : Vote) : Int := firstErr [kind x.kind 1 2, height x.height, round x.round, moment x.time, field ((x.time != 0) && ((x.kind == 1) || (x.id == zeros 32))), field (x.frm == 0)]

theorem extract_cl (l : List Value) (a b : Nat) (m : List Value) (h : (l.drop a).take (b - a) = m) : l.toArray.extract a b = m.toArray := by
  apply Array.ext'
  simp [h]
theorem Vote.cl_id (x : Vote) (h : x.id.length = 32) : x.cl.toArray.extract 3 (3 + 32) = (bv x.id).toArray := by
  refine extract_cl _ _ _ _ ?_
  have e : x.cl.drop 3 = bv x.id ++ ([.int .u64 x.time, .int .u64 x.frm] ++ bv x.sl) := by simp [Vote.cl]
  rw [e, show 3 + 32 - 3 = (bv x.id).length from by rw [bv_length, h]]
  exact List.take_left
theorem Vote.cl_len (x : Vote) (h : x.ok) : x.cl.length = 53 := by simp [Vote.cl, bv_length, h.id, h.sl]
theorem Vote.cl_35 (x : Vote) (h : x.id.length = 32) : x.cl.toArray[35]? = some (.int .u64 x.time) := by
  simp [Vote.cl, bv, List.getElem?_append, h]
theorem Vote.cl_36 (x : Vote) (h : x.id.length = 32) : x.cl.toArray[36]? = some (.int .u64 x.frm) := by
  simp [Vote.cl, bv, List.getElem?_append, h]

def plainProposal (x : Proposal) : Int := firstErr [height x.height, round x.round, field (decide (x.valid < -1) || decide (x.round ≤ x.valid)), field (x.id == zeros 32), field (x.frm == 0)]
theorem Proposal.cl_id (x : Proposal) (h : x.id.length = 32) : x.cl.toArray.extract 3 (3 + 32) = (bv x.id).toArray := by
  refine extract_cl _ _ _ _ ?_
  have e : x.cl.drop 3 = bv x.id ++ ([.int .u64 x.frm] ++ bv x.sl) := by simp [Proposal.cl]
  rw [e, show 3 + 32 - 3 = (bv x.id).length from by rw [bv_length, h]]
  exact List.take_left
theorem Proposal.cl_len (x : Proposal) (h : x.ok) : x.cl.length = 52 := by simp [Proposal.cl, bv_length, h.id, h.sl]
theorem Proposal.cl_35 (x : Proposal) (h : x.id.length = 32) : x.cl.toArray[35]? = some (.int .u64 x.frm) := by
  simp [Proposal.cl, bv, List.getElem?_append, h]

end Go.Proofs.Ytnfffipkgaobhaa

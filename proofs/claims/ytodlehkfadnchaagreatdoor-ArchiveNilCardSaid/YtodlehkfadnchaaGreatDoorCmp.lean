/-
  '==' on whole numbers, bools, strings, and arrays and structs of these, is the equality of their cells; a part of such a value is the cells that lie there. No condition: lemmas over any program.
-/
import Derived.Test.YtodlehkfadnchaaGreatDoorEng
import Derived.ChangeKeysEq
namespace Go.Proofs.YtodlehkfadnchaaGreatDoor
set_option linter.unusedSimpArgs false
set_option linter.unusedVariables false
open Go.RowKit

/-- the kinds of the cells of a value without pointers -/
inductive CK where
  | int (k : IntKind) | bool | str
def CK.fits : CK → Value → Prop
  | .int k, .int k' _ => k' = k
  | .bool, .bool _ => True
  | .str, .string _ => True
  | _, _ => False
/-- these cells are of these kinds -/
def Fits : List CK → List Value → Prop
  | [], [] => True
  | k :: ks, v :: vs => k.fits v ∧ Fits ks vs
  | _, _ => False
theorem Fits.len : ∀ {ks : List CK} {vs : List Value}, Fits ks vs → vs.length = ks.length
  | [], [], _ => rfl
  | k :: ks, v :: vs, h => by simp [Fits.len h.2]
  | [], _ :: _, h => h.elim
  | _ :: _, [], h => h.elim
theorem Fits.app : ∀ {ks ks' : List CK} {vs vs' : List Value}, Fits ks vs → Fits ks' vs' → Fits (ks ++ ks') (vs ++ vs')
  | [], _, [], _, _, h' => h'
  | k :: ks, _, v :: vs, _, h, h' => ⟨h.1, Fits.app h.2 h'⟩
  | [], _, _ :: _, _, h, _ => h.elim
  | _ :: _, _, [], _, h, _ => h.elim
theorem Fits.split : ∀ {ks ks' : List CK} {vs : List Value}, Fits (ks ++ ks') vs → Fits ks (vs.take ks.length) ∧ Fits ks' (vs.drop ks.length)
  | [], _, _, h => ⟨trivial, h⟩
  | k :: ks, _, v :: vs, h => ⟨⟨h.1, (Fits.split h.2).1⟩, (Fits.split h.2).2⟩
  | _ :: _, _, [], h => h.elim
theorem Fits.bytes (l : List UInt8) : Fits (List.replicate l.length (.int .u8)) (bv l) := by
  induction l with
  | nil => trivial
  | cons b l ih => exact ⟨rfl, ih⟩

def flatFields (P : Program) (g : TypeId → Option (List CK)) : List Field → Nat → Option (List CK)
  | [], _ => some []
  | f :: fs, off =>
    if f.name == "_" || f.offset != off then none else
    match g f.type with
    | none => none
    | some ks => if (P.info? f.type).map (·.size) == some ks.length then (flatFields P g fs (off + ks.length)).map (ks ++ ·) else none
/-- the kinds of the cells of a type without pointers -/
def flat (P : Program) : Nat → TypeId → Option (List CK)
  | 0, _ => none
  | n + 1, t =>
    match P.underlying t with
    | some (.int k) => some [.int k]
    | some .bool => some [.bool]
    | some .string => some [.str]
    | some (.struct fs) => if P.stoodInHeld t then none else flatFields P (flat P n) fs.toList 0
    | some (.array m e) =>
      match flat P n e with
      | some ks => if (P.info? e).map (·.size) == some ks.length then some (List.replicate m ks).flatten else none
      | none => none
    | _ => none

/-- is it kept as an aggregate? -/
def isAggT (P : Program) (t : TypeId) : Bool := match P.underlying t with | some (.struct _) | some (.array _ _) => true | _ => false
def packV (agg : Bool) (xs : List Value) : Value := if agg then .agg xs.toArray else xs.headD undef

section
variable {P : Program}
theorem run_isAgg {t : TypeId} {d : TypeDesc} (hu : P.underlying t = some d) (w : World) : (isAgg t).run P w = .ok (isAggT P t) w := by
  unfold isAgg isAggT
  rw [Sem.run_bind, run_underlying hu w, hu]
  cases d <;> simp
theorem run_sizeOf' {t : TypeId} {n : Nat} (hi : (P.info? t).map (·.size) = some n) (w : World) : (sizeOf t).run P w = .ok n w := by
  cases hq : P.info? t with
  | none => simp [hq] at hi
  | some i => simp [hq] at hi; simp [sizeOf, typeInfo, hq, hi]
theorem run_part {t : TypeId} {d : TypeDesc} {n : Nat} (hu : P.underlying t = some d) (hi : (P.info? t).map (·.size) = some n) (h1 : isAggT P t = false → n = 1) (cs : Array Value) (off : Nat) (hl : n = 1 → off < cs.size) (w : World) :
    (part t cs off).run P w = .ok (packV (isAggT P t) ((cs.toList.drop off).take n)) w := by
  unfold part
  simp only [Sem.run_bind, run_isAgg hu w, Result.andThen_ok]
  cases hb : isAggT P t with
  | true =>
    simp only [if_true, Sem.run_bind, run_sizeOf' hi w, Result.andThen_ok, Sem.run_pure, packV]
    congr 2
    apply Array.ext'
    simp
  | false =>
    have hn := h1 hb
    subst hn
    have hlt : off < cs.size := hl rfl
    simp only [Bool.false_eq_true, if_false, packV]
    rw [Array.getElem?_eq_getElem hlt]
    simp only [Sem.run_pure]
    congr 1
    have : cs.toList.drop off = cs[off] :: cs.toList.drop (off + 1) := by
      rw [List.drop_eq_getElem_cons (by simpa using hlt)]
      simp
    rw [this]
    rfl
theorem flat_one {n : Nat} {t : TypeId} {ks : List CK} (h : flat P n t = some ks) (ha : isAggT P t = false) : ks.length = 1 := by
  cases n with
  | zero => simp [flat] at h
  | succ n =>
    unfold flat at h
    unfold isAggT at ha
    cases hu : P.underlying t with
    | none => simp [hu] at h
    | some d => cases d <;> simp [hu] at h ha <;> subst h <;> rfl
theorem flat_under {n : Nat} {t : TypeId} {ks : List CK} (h : flat P n t = some ks) : ∃ d, P.underlying t = some d := by
  cases n with
  | zero => simp [flat] at h
  | succ n =>
    unfold flat at h
    cases hu : P.underlying t with
    | none => simp [hu] at h
    | some d => exact ⟨d, rfl⟩

/-- '==' at type t looks just at the cells -/
def EqOk (P : Program) (m : Nat) (t : TypeId) (ks : List CK) : Prop :=
  ∀ (d : Nat) (xs ys : List Value) (w : World), Fits ks xs → Fits ks ys → ∃ b : Bool, (Op.equalIn (m + d) t (packV (isAggT P t) xs) (packV (isAggT P t) ys)).run P w = .ok b w ∧ (b = true ↔ xs = ys)

theorem append_eq_iff {α : Type} {a b c d : List α} (h : a.length = b.length) : a ++ c = b ++ d ↔ a = b ∧ c = d :=
  ⟨fun e => List.append_inj e h, fun ⟨e1, e2⟩ => by rw [e1, e2]⟩

theorem fields_eq (m : Nat) (g : TypeId → Option (List CK)) (hg : ∀ t ks, g t = some ks → EqOk P m t ks ∧ (∃ d, P.underlying t = some d) ∧ (isAggT P t = false → ks.length = 1)) (d : Nat) (xs ys : List Value) :
    ∀ (fs : List Field) (off : Nat) (ks : List CK), flatFields P g fs off = some ks → Fits ks (xs.drop off) → Fits ks (ys.drop off) → ∀ w : World,
      ∃ b : Bool, (Op.eqFields (m + d) xs.toArray ys.toArray fs).run P w = .ok b w ∧ (b = true ↔ xs.drop off = ys.drop off)
  | [], off, ks, h, hx, hy, w => by
    simp [flatFields] at h
    subst h
    have hx' := List.eq_nil_of_length_eq_zero hx.len
    have hy' := List.eq_nil_of_length_eq_zero hy.len
    exact ⟨true, by simp [Op.eqFields], by rw [hx', hy']; simp⟩
  | f :: fs, off, ks, h, hx, hy, w => by
    unfold flatFields at h
    split at h
    · cases h
    · rename_i hc
      simp only [Bool.or_eq_true, beq_iff_eq, bne_iff_ne, ne_eq, not_or, Classical.not_not] at hc
      obtain ⟨hn, ho⟩ := hc
      cases hk : g f.type with
      | none => simp [hk] at h
      | some k1 =>
        simp only [hk] at h
        split at h
        · rename_i hi
          simp only [beq_iff_eq] at hi
          obtain ⟨k2, h2, rfl⟩ := Option.map_eq_some_iff.1 h
          obtain ⟨he, ⟨dd, hu⟩, h1⟩ := hg f.type k1 hk
          obtain ⟨fx1, fx2⟩ := hx.split
          obtain ⟨fy1, fy2⟩ := hy.split
          have lx := fx1.len
          have ly := fy1.len
          have hlx : k1.length = 1 → off < xs.length := by intro q; simp [q] at lx; omega
          have hly : k1.length = 1 → off < ys.length := by intro q; simp [q] at ly; omega
          obtain ⟨b, hb, hbi⟩ := he d _ _ w fx1 fy1
          rw [List.drop_drop] at fx2 fy2
          obtain ⟨b', hb', hbi'⟩ := fields_eq m g hg d xs ys fs (off + k1.length) k2 h2 fx2 fy2 w
          have px := run_part hu hi (fun q => h1 q) xs.toArray off (by simpa using hlx) w
          have py := run_part hu hi (fun q => h1 q) ys.toArray off (by simpa using hly) w
          simp only at px py
          simp only [Op.eqFields, hn, ne_eq, not_false_eq_true, if_true, Sem.run_bind, ho, px, py, Result.andThen_ok, hb]
          have key : xs.drop off = ys.drop off ↔ (xs.drop off).take k1.length = (ys.drop off).take k1.length ∧ xs.drop (off + k1.length) = ys.drop (off + k1.length) := by
            rw [← List.drop_drop, ← List.drop_drop]
            have e1 := (List.take_append_drop k1.length (xs.drop off)).symm
            have e2 := (List.take_append_drop k1.length (ys.drop off)).symm
            constructor
            · intro e; rw [e]; exact ⟨rfl, rfl⟩
            · rintro ⟨q1, q2⟩; rw [e1, e2, q1, q2]
          cases b
          · refine ⟨false, by simp, ?_⟩
            rw [key]
            constructor
            · intro e; cases e
            · rintro ⟨q, _⟩; exact absurd (hbi.2 q) (by simp)
          · refine ⟨b', by simpa using hb', ?_⟩
            rw [hbi', key]
            exact ⟨fun q => ⟨hbi.1 rfl, q⟩, fun q => q.2⟩
        · cases h

theorem items_eq (m : Nat) {e : TypeId} {ks : List CK} (he : EqOk P m e ks) (hu : ∃ d, P.underlying e = some d) (h1 : isAggT P e = false → ks.length = 1) (hi : (P.info? e).map (·.size) = some ks.length) (d : Nat) (xs ys : List Value) :
    ∀ (n j : Nat), Fits (List.replicate n ks).flatten (xs.drop (j * ks.length)) → Fits (List.replicate n ks).flatten (ys.drop (j * ks.length)) → ∀ w : World,
      ∃ b : Bool, (Op.eqItems (m + d) e ks.length xs.toArray ys.toArray (List.range' j n)).run P w = .ok b w ∧ (b = true ↔ xs.drop (j * ks.length) = ys.drop (j * ks.length))
  | 0, j, hx, hy, w => by
    have hx' := List.eq_nil_of_length_eq_zero hx.len
    have hy' := List.eq_nil_of_length_eq_zero hy.len
    exact ⟨true, by simp [Op.eqItems], by rw [hx', hy']; simp⟩
  | n + 1, j, hx, hy, w => by
    rw [List.replicate_succ, List.flatten_cons] at hx hy
    obtain ⟨fx1, fx2⟩ := hx.split
    obtain ⟨fy1, fy2⟩ := hy.split
    have lx := fx1.len
    have ly := fy1.len
    have hlx : ks.length = 1 → j * ks.length < xs.length := by intro q; simp [q] at lx; rw [q]; omega
    have hly : ks.length = 1 → j * ks.length < ys.length := by intro q; simp [q] at ly; rw [q]; omega
    obtain ⟨dd, hu⟩ := hu
    have hsucc : (j + 1) * ks.length = j * ks.length + ks.length := by rw [Nat.add_mul, Nat.one_mul]
    rw [List.drop_drop, ← hsucc] at fx2 fy2
    obtain ⟨b, hb, hbi⟩ := he d _ _ w fx1 fy1
    obtain ⟨b', hb', hbi'⟩ := items_eq m he ⟨dd, hu⟩ h1 hi d xs ys n (j + 1) fx2 fy2 w
    have px := run_part hu hi (fun q => h1 q) xs.toArray (j * ks.length) (by simpa using hlx) w
    have py := run_part hu hi (fun q => h1 q) ys.toArray (j * ks.length) (by simpa using hly) w
    simp only at px py
    rw [List.range'_succ]
    simp only [Op.eqItems, Sem.run_bind, px, py, Result.andThen_ok, hb]
    have key : xs.drop (j * ks.length) = ys.drop (j * ks.length) ↔ (xs.drop (j * ks.length)).take ks.length = (ys.drop (j * ks.length)).take ks.length ∧ xs.drop ((j + 1) * ks.length) = ys.drop ((j + 1) * ks.length) := by
      rw [hsucc, ← List.drop_drop, ← List.drop_drop]
      have e1 := (List.take_append_drop ks.length (xs.drop (j * ks.length))).symm
      have e2 := (List.take_append_drop ks.length (ys.drop (j * ks.length))).symm
      constructor
      · intro e; rw [e]; exact ⟨rfl, rfl⟩
      · rintro ⟨q1, q2⟩; rw [e1, e2, q1, q2]
    cases b
    · refine ⟨false, by simp, ?_⟩
      rw [key]
      constructor
      · intro e; cases e
      · rintro ⟨q, _⟩; exact absurd (hbi.2 q) (by simp)
    · refine ⟨b', by simpa using hb', ?_⟩
      rw [hbi', key]
      exact ⟨fun q => ⟨hbi.1 rfl, q⟩, fun q => q.2⟩

theorem fits_one {k : CK} {xs : List Value} (h : Fits [k] xs) : ∃ v, xs = [v] ∧ k.fits v := by
  match xs, h with
  | [v], h => exact ⟨v, rfl, h.1⟩
  | [], h => exact h.elim
  | _ :: _ :: _, h => exact h.2.elim

theorem byteArray_beq (a b : ByteArray) : (a == b) = true ↔ a = b := by
  rw [beq_toListBytes]
  simp only [beq_iff_eq, ByteArray.toList_eq]
  constructor
  · intro h
    obtain ⟨⟨x⟩⟩ := a
    obtain ⟨⟨y⟩⟩ := b
    simpa using h
  · rintro rfl; rfl
def aggD : TypeDesc → Bool | .struct _ | .array _ _ => true | _ => false
theorem flat_eq : ∀ (n : Nat) (t : TypeId) (ks : List CK), flat P n t = some ks → EqOk P n t ks
  | 0, t, ks, h => by simp [flat] at h
  | n + 1, t, ks, h => by
    intro d xs ys w hx hy
    have hd : n + 1 + d = (n + d) + 1 := by omega
    rw [hd]
    unfold flat at h
    cases hu : P.underlying t with
    | none => simp [hu] at h
    | some dd =>
      have hagg : isAggT P t = aggD dd := by unfold isAggT; rw [hu]; cases dd <;> rfl
      cases dd <;> simp only [hu] at h <;> try (cases h; done)
      case some.bool =>
        cases h
        obtain ⟨v, rfl, fv⟩ := fits_one hx
        obtain ⟨u, rfl, fu⟩ := fits_one hy
        cases v <;> simp [CK.fits] at fv
        cases u <;> simp [CK.fits] at fu
        rename_i a b
        rw [hagg]
        exact ⟨a == b, run_equalIn_bool' w (n + d) t a b hu, by simp⟩
      case some.int k =>
        cases h
        obtain ⟨v, rfl, fv⟩ := fits_one hx
        obtain ⟨u, rfl, fu⟩ := fits_one hy
        cases v <;> simp [CK.fits] at fv
        cases u <;> simp [CK.fits] at fu
        subst fv fu
        rename_i a _ b
        rw [hagg]
        exact ⟨a == b, run_equalIn_int w (n + d) t _ _ a b hu, by simp⟩
      case some.string =>
        cases h
        obtain ⟨v, rfl, fv⟩ := fits_one hx
        obtain ⟨u, rfl, fu⟩ := fits_one hy
        cases v <;> simp [CK.fits] at fv
        cases u <;> simp [CK.fits] at fu
        rename_i a b
        rw [hagg]
        refine ⟨a == b, (run_equalIn_string w (n + d) t a b hu).trans (by rw [← beq_toListBytes]), by rw [byteArray_beq]; simp⟩
      case some.struct fs =>
        split at h
        · cases h
        · rename_i hsi
          have hsi' : P.stoodInHeld t = false := by simpa using hsi
          have hf : P.fieldsOf t = fs := by unfold Program.fieldsOf; rw [hu]
          rw [hagg]
          simp only [packV, aggD, if_true]
          rw [run_equalIn_struct w (n + d) t xs.toArray ys.toArray (by rw [hf]; exact hu) hsi', hf]
          have := fields_eq n (flat P n) (fun t' k' h' => ⟨flat_eq n t' k' h', flat_under h', flat_one h'⟩) d xs ys fs.toList 0 ks h (by simpa using hx) (by simpa using hy) w
          simpa using this
      case some.array m e =>
        split at h
        · rename_i k1 hk1
          split at h
          · rename_i hi
            simp only [beq_iff_eq] at hi
            cases h
            rw [hagg]
            simp only [packV, aggD, if_true]
            have hie : ∃ i, P.info? e = some i ∧ i.size = k1.length := by
              cases hq : P.info? e with
              | none => simp [hq] at hi
              | some i => exact ⟨i, rfl, by simpa [hq] using hi⟩
            obtain ⟨i, hie, hsz⟩ := hie
            have hco : P.cellsOf e = k1.length := by unfold Program.cellsOf; simp [hie, hsz]
            rw [run_equalIn_array w (n + d) xs.toArray ys.toArray hu hie, hco, List.range_eq_range']
            have := items_eq n (flat_eq n e k1 hk1) (flat_under hk1) (flat_one hk1) hi d xs ys m 0 (by simpa using hx) (by simpa using hy) w
            simpa using this
          · cases h
        · cases h

/-- '==' and '!=' at an aggregate, for the walk -/
theorem run_eql_flat {t : TypeId} {n : Nat} {ks : List CK} (hf : flat P n t = some ks) (hn : n ≤ 10000) (ha : isAggT P t = true) {xs ys : List Value} (hx : Fits ks xs) (hy : Fits ks ys) {q : Bool} (hq : q = true ↔ xs = ys) (w : World) :
    (binOp .eql t (.agg xs.toArray) (.agg ys.toArray)).run P w = .ok (.bool q) w := by
  obtain ⟨b, hb, hbi⟩ := flat_eq n t ks hf (10000 - n) xs ys w hx hy
  have hbq : b = q := by rw [Bool.eq_iff_iff, hbi, hq]
  rw [run_eql_struct]
  have e : n + (10000 - n) = 10000 := by omega
  rw [e, ha] at hb
  simp only [packV, if_true] at hb
  rw [hb, hbq]
  simp
theorem run_neq_flat {t : TypeId} {n : Nat} {ks : List CK} (hf : flat P n t = some ks) (hn : n ≤ 10000) (ha : isAggT P t = true) {xs ys : List Value} (hx : Fits ks xs) (hy : Fits ks ys) {q : Bool} (hq : q = true ↔ xs = ys) (w : World) :
    (binOp .neq t (.agg xs.toArray) (.agg ys.toArray)).run P w = .ok (.bool (!q)) w := by
  obtain ⟨b, hb, hbi⟩ := flat_eq n t ks hf (10000 - n) xs ys w hx hy
  have hbq : b = q := by rw [Bool.eq_iff_iff, hbi, hq]
  rw [run_neq_struct]
  have e : n + (10000 - n) = 10000 := by omega
  rw [e, ha] at hb
  simp only [packV, if_true] at hb
  rw [hb, hbq]
  simp
end
end Go.Proofs.YtodlehkfadnchaaGreatDoor

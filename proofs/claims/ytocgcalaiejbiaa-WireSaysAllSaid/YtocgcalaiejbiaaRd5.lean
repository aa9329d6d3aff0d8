/-
  The Reader's calls: Byte, Var, Raw, Text. Condition: the Reader was made by NewReader (Re).
-/
import Derived.Test.YtocgcalaiejbiaaRd4
namespace Go.Proofs.Ytocgcalaiejbiaa
set_option linter.unusedSimpArgs false
set_option linter.unusedVariables false
open Go.RowKit
set_option maxRecDepth 100000

def RdRes {α : Type} (g : Nat) (A : Option Addr) (c : Nat) (l : List UInt8) (k : Got α) (f : α → Value) (w : World) (en : Ending) (w' : World) : Prop :=
  en = .returned (f k.val) ∧ Ch [g] w w' ∧ Re w' g A c l k.at' k.err
theorem Re.alloc {w : World} {g : Nat} {A : Option Addr} {c : Nat} {l : List UInt8} {p : Nat} {e : Int} (h : Re w g A c l p e) (o : Obj) : Re (w.alloc o) g A c l p e := h.below ((Below.refl _ _).alloc (Nat.le_refl _) o)
theorem after_zero {α : Type} (z : α) (p : Nat) (k : Got α) : after z p 0 k = k := if_pos rfl
theorem after_ne {α : Type} (z : α) (p : Nat) {e : Int} (k : Got α) (h : e ≠ 0) : after z p e k = ⟨z, p, e⟩ := if_neg h
theorem coreByte_at {l : List UInt8} {p : Nat} (h : (coreByte l p).err ≠ 0) : (coreByte l p).at' = p := by
  unfold coreByte at h ⊢
  cases hq : l[p]? with
  | none => rfl
  | some b => rw [hq] at h; exact absurd rfl h
theorem ch_new {w w2 w3 : World} {g : Nat} {ks : List Nat} (h : Below w.heap.size w w2) (hc : Ch (g :: ks) w2 w3) (hk : ∀ k ∈ ks, w.heap.size ≤ k) : Ch [g] w w3 :=
  (Ch.of_below [g] h).trans hc (fun k hm => by
    rcases List.mem_cons.1 hm with rfl | hm
    · exact .inl (by simp)
    · exact .inr (hk k hm))
theorem rd_close {w w2 w3 : World} {g bv c q : Nat} {A : Option Addr} {l : List UInt8} {x : Int} {v : Value} {T : TypeId} (hb2 : Below w.heap.size w w2) (ch3 : Ch [g, bv] w2 w3) (b3 : Bk w3 bv #[v] T) (r3 : Re w3 g A c l q x) (hbv : w.heap.size ≤ bv) (hg : g < w.heap.size) (hA : ∀ a, A = some a → a.block < w.heap.size) :
    (w3.setCell ⟨bv, 0, none⟩ v).cell? ⟨bv, 0, none⟩ = some v ∧ Ch [g] w (w3.setCell ⟨bv, 0, none⟩ v) ∧ Re (w3.setCell ⟨bv, 0, none⟩ v) g A c l q x :=
  ⟨by have := (b3.set_ 0 v).cell 0; simpa using this, ch_new (ks := [bv]) hb2 (ch3.setCell (by simp) _) (fun k hk => by simp at hk; omega),
    r3.ch ((Ch.refl [bv] w3).setCell (by simp) _) (by simp; omega) (fun a ha => by have := hA a ha; simp; omega)⟩
set_option maxHeartbeats 1000000 in
theorem Byte_any (w : World) (g : Nat) (A : Option Addr) (c : Nat) (l : List UInt8) (p : Nat) (e : Int) (h : Re w g A c l p e) :
    Calls Try.prog 79 #[.pointer (some ⟨g, 0, none⟩)] w (RdRes g A c l (after (0 : Int) p e (coreByte l p)) (Value.int .u8) w) := by
  have R2 := ((h.alloc (.cells #[.pointer (some ⟨g, 0, none⟩)] 115)).alloc (.cells #[.int .u8 0] 5))
  have B0 : Bk ((w.alloc (.cells #[.pointer (some ⟨g, 0, none⟩)] 115)).alloc (.cells #[.int .u8 0] 5)) (w.heap.size + 0) #[.pointer (some ⟨g, 0, none⟩)] 115 := by
    have := ((Bk.new w 115 #[.pointer (some ⟨g, 0, none⟩)]).alloc (.cells #[.int .u8 0] 5))
    simpa using this
  have B1 : Bk ((w.alloc (.cells #[.pointer (some ⟨g, 0, none⟩)] 115)).alloc (.cells #[.int .u8 0] 5)) (w.heap.size + 1) #[.int .u8 0] 5 := by
    have := (Bk.new (w.alloc (.cells #[.pointer (some ⟨g, 0, none⟩)] 115)) 5 #[.int .u8 0])
    simpa using this
  have hb2 : Below w.heap.size w ((w.alloc (.cells #[.pointer (some ⟨g, 0, none⟩)] 115)).alloc (.cells #[.int .u8 0] 5)) := (((Below.refl _ _).alloc (by simp) _).alloc (by simp) _)
  have hgl : g < w.heap.size := h.bk.lt
  have hAl := h.lt
  have HL := Lib.hid hAl
  clear h hAl
  go_enter Try.func79, Try.ntmps79
  go_wp2_with fail
  generalize ((w.alloc (.cells #[.pointer (some ⟨g, 0, none⟩)] 115)).alloc (.cells #[.int .u8 0] 5)) = w2 at *
  obtain ⟨b1, hb1v⟩ : ∃ b, w.heap.size + 1 = b := ⟨_, rfl⟩
  rw [hb1v] at B1 ⊢
  have HV1 := Lib.hid hb1v
  clear hb1v
  have B0' : Bk w2 w.heap.size #[.pointer (some ⟨g, 0, none⟩)] 115 := B0
  clear B0
  have key : Calls Try.prog 102 #[.pointer (some ⟨g, 0, none⟩), .func (.func 103) #[] #[.pointer (some ⟨w.heap.size, 0, none⟩), .pointer (some ⟨b1, 0, none⟩)]] w2
      (ReadRes w2 g A c l b1 5 ((Value.int .u8) (after (0 : Int) p e (coreByte l p)).val) (after (0 : Int) p e (coreByte l p)).at' (after (0 : Int) p e (coreByte l p)).err) := by
    have hne : b1 ≠ g := by have := HV1.out; omega
    by_cases he : e = 0
    · subst he
      rw [after_zero]
      exact read_ok w2 g A c l p _ _ b1 _ _ _ _ R2 hne coreByte_at (run_callFunc_enter Try.func103 (by kernel_rfl) (by kernel_rfl) _)
        (byteC w2 g A c l p _ b1 R2 B0' B1 hne (fun a ha => by have := HL.out a ha; have := HV1.out; omega))
    · rw [after_ne _ _ _ he]
      exact read_no w2 g A c l p e _ b1 _ _ R2 B1 he
  refine key.mono ?_
  rintro en w3 ⟨rfl, ch3, b3, r3⟩
  have cv := b3.cell 0
  have fv := b3.frozen 0
  simp at cv
  have HZ := Lib.hid (rd_close hb2 ch3 b3 r3 (by have := HV1.out; omega) hgl HL.out)
  clear key R2 B0' B1 hb2 ch3 b3 r3 HL
  generalize after (0 : Int) p e (coreByte l p) = K at *
  go_wp2
  have c4 := HZ.out.1
  exact bodyPost_ret (v := (Value.int .u8) K.val) (by simp [results, Try.results79, go_sem, c4]) rfl ⟨rfl, HZ.out.2⟩

/-- a number -/
def coreVar (l : List UInt8) (p : Nat) : Got Nat := match groups (l.drop p) 0 0 with
  | .inl x => ⟨0, p, x⟩
  | .inr (v, k) => ⟨v, p + k, 0⟩
theorem groups_err {rest : List UInt8} : ∀ {k acc : Nat} {x : Int}, groups rest k acc = .inl x → x = 10 ∨ x = 11 := by
  induction rest with
  | nil => intro k acc x h; unfold groups at h; cases h; exact .inl rfl
  | cons b rest ih =>
    intro k acc x h
    unfold groups at h
    split at h
    · cases h; exact .inr rfl
    · split at h
      · cases h
      · exact ih h
theorem groups_le {rest : List UInt8} : ∀ {k acc v n : Nat}, groups rest k acc = .inr (v, n) → n ≤ k + rest.length ∧ k < n := by
  induction rest with
  | nil => intro k acc v n h; unfold groups at h; cases h
  | cons b rest ih =>
    intro k acc v n h
    unfold groups at h
    split at h
    · cases h
    · split at h
      · cases h; exact ⟨by have : (b :: rest).length = rest.length + 1 := rfl
                           omega, by omega⟩
      · have := ih h; exact ⟨by have : (b :: rest).length = rest.length + 1 := rfl
                                omega, by omega⟩
theorem coreVar_at {l : List UInt8} {p : Nat} (h : (coreVar l p).err ≠ 0) : (coreVar l p).at' = p := by
  unfold coreVar at h ⊢
  cases hq : groups (l.drop p) 0 0 with
  | inl x => rfl
  | inr x => rw [hq] at h; exact absurd rfl h
abbrev toU64 (n : Nat) : Value := .int .u64 n

theorem NumRes.core {g : Nat} {A : Option Addr} {c : Nat} {l : List UInt8} {p : Nat} {w : World} {en : Ending} {w' : World} (h : NumRes g A c l p w en w') :
    en = .returned (.tuple #[.int .u64 (coreVar l p).val, .int .i64 (coreVar l p).err]) ∧ Ch [g] w w' ∧ Re w' g A c l (coreVar l p).at' 0 := by
  unfold NumRes at h
  unfold coreVar
  cases hq : groups (l.drop p) 0 0 with
  | inl x => rw [hq] at h; exact ⟨h.2.1, h.1, h.2.2⟩
  | inr x => rw [hq] at h; exact ⟨h.2.1, h.1, h.2.2⟩

set_option maxHeartbeats 1000000 in
theorem varC (w : World) (g : Nat) (A : Option Addr) (c : Nat) (l : List UInt8) (p : Nat) (br bv : Nat) (h : Re w g A c l p 0) (hr : Bk w br #[.pointer (some ⟨g, 0, none⟩)] 115) (hv : Bk w bv #[.int .u64 0] 22) (hne : bv ≠ g) (hAb : ∀ a, A = some a → a.block ≠ bv) :
    Calls Try.prog 107 #[.pointer (some ⟨br, 0, none⟩), .pointer (some ⟨bv, 0, none⟩)] w fun en w' => en = .returned (.int .i64 (coreVar l p).err) ∧ Ch [g, bv] w w' ∧ Bk w' bv #[toU64 (coreVar l p).val] 22 ∧ ∃ q', Re w' g A c l q' 0 ∧ ((coreVar l p).err = 0 → q' = (coreVar l p).at') := by
  have c0 : w.cell? ⟨br, 0, none⟩ = some (.pointer (some ⟨g, 0, none⟩)) := hr.cell 0
  go_enter Try.func107, Try.ntmps107
  go_wp2_with fail
  refine (number_any w g A c l p h).mono ?_
  intro en w1 hres
  obtain ⟨rfl, ch1, r1⟩ := hres.core
  clear hres
  have hv1 := hv.ch ch1 (by simpa using hne)
  have cv : w1.cell? ⟨bv, 0, none⟩ = some (.int .u64 0) := hv1.cell 0
  have fv := hv1.frozen 0
  have HR := Lib.hid r1
  have HC := Lib.hid ch1
  have HV := Lib.hid hv1
  clear r1 ch1 c0 hv1
  go_wp2
  go_ret
  refine ⟨rfl, ?_, HV.out.set_ 0 _, (coreVar l p).at', ?_, fun _ => rfl⟩
  · exact (HC.out.wide (by simp)).setCell (by simp) _
  · exact HR.out.ch ((Ch.refl [bv] _).setCell (by simp) _) (by simpa using fun h => hne h.symm) (fun a ha => by simpa using hAb a ha)

set_option maxHeartbeats 1000000 in
theorem Var_any (w : World) (g : Nat) (A : Option Addr) (c : Nat) (l : List UInt8) (p : Nat) (e : Int) (h : Re w g A c l p e) :
    Calls Try.prog 83 #[.pointer (some ⟨g, 0, none⟩)] w (RdRes g A c l (after (0 : Nat) p e (coreVar l p)) toU64 w) := by
  have R2 := ((h.alloc (.cells #[.pointer (some ⟨g, 0, none⟩)] 115)).alloc (.cells #[.int .u64 0] 22))
  have B0 : Bk ((w.alloc (.cells #[.pointer (some ⟨g, 0, none⟩)] 115)).alloc (.cells #[.int .u64 0] 22)) (w.heap.size + 0) #[.pointer (some ⟨g, 0, none⟩)] 115 := by
    have := ((Bk.new w 115 #[.pointer (some ⟨g, 0, none⟩)]).alloc (.cells #[.int .u64 0] 22))
    simpa using this
  have B1 : Bk ((w.alloc (.cells #[.pointer (some ⟨g, 0, none⟩)] 115)).alloc (.cells #[.int .u64 0] 22)) (w.heap.size + 1) #[.int .u64 0] 22 := by
    have := (Bk.new (w.alloc (.cells #[.pointer (some ⟨g, 0, none⟩)] 115)) 22 #[.int .u64 0])
    simpa using this
  have hb2 : Below w.heap.size w ((w.alloc (.cells #[.pointer (some ⟨g, 0, none⟩)] 115)).alloc (.cells #[.int .u64 0] 22)) := (((Below.refl _ _).alloc (by simp) _).alloc (by simp) _)
  have hgl : g < w.heap.size := h.bk.lt
  have hAl := h.lt
  have HL := Lib.hid hAl
  clear h hAl
  go_enter Try.func83, Try.ntmps83
  go_wp2_with fail
  generalize ((w.alloc (.cells #[.pointer (some ⟨g, 0, none⟩)] 115)).alloc (.cells #[.int .u64 0] 22)) = w2 at *
  obtain ⟨b1, hb1v⟩ : ∃ b, w.heap.size + 1 = b := ⟨_, rfl⟩
  rw [hb1v] at B1 ⊢
  have HV1 := Lib.hid hb1v
  clear hb1v
  have B0' : Bk w2 w.heap.size #[.pointer (some ⟨g, 0, none⟩)] 115 := B0
  clear B0
  have key : Calls Try.prog 102 #[.pointer (some ⟨g, 0, none⟩), .func (.func 107) #[] #[.pointer (some ⟨w.heap.size, 0, none⟩), .pointer (some ⟨b1, 0, none⟩)]] w2
      (ReadRes w2 g A c l b1 22 (toU64 (after (0 : Nat) p e (coreVar l p)).val) (after (0 : Nat) p e (coreVar l p)).at' (after (0 : Nat) p e (coreVar l p)).err) := by
    have hne : b1 ≠ g := by have := HV1.out; omega
    by_cases he : e = 0
    · subst he
      rw [after_zero]
      exact read_ok w2 g A c l p _ _ b1 _ _ _ _ R2 hne coreVar_at (run_callFunc_enter Try.func107 (by kernel_rfl) (by kernel_rfl) _)
        (varC w2 g A c l p _ b1 R2 B0' B1 hne (fun a ha => by have := HL.out a ha; have := HV1.out; omega))
    · rw [after_ne _ _ _ he]
      exact read_no w2 g A c l p e _ b1 _ _ R2 B1 he
  refine key.mono ?_
  rintro en w3 ⟨rfl, ch3, b3, r3⟩
  have cv := b3.cell 0
  have fv := b3.frozen 0
  simp at cv
  have HZ := Lib.hid (rd_close hb2 ch3 b3 r3 (by have := HV1.out; omega) hgl HL.out)
  clear key R2 B0' B1 hb2 ch3 b3 r3 HL
  generalize after (0 : Nat) p e (coreVar l p) = K at *
  go_wp2
  have c4 := HZ.out.1
  exact bodyPost_ret (v := toU64 K.val) (by simp [results, Try.results83, go_sem, c4]) rfl ⟨rfl, HZ.out.2⟩

end Go.Proofs.Ytocgcalaiejbiaa

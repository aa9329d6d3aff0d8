/-
  The codec Writer's Text, NewWriter and Out; slices.Clone of bytes. Conditions: as in the text on the Writer; a list that is cloned has at most 2^47 - 4096 bytes.
-/
import Derived.Test.YtocgcalaiejbiaaCodW
namespace Go.Proofs.Ytocgcalaiejbiaa
set_option linter.unusedSimpArgs false
set_option linter.unusedVariables false
open Go.RowKit
set_option maxRecDepth 100000

/-- 2^47 - 4096 -/
def reach47 : Nat := 140737488351232

set_option maxHeartbeats 400000 in
theorem putText_any (w : World) (B g : Nat) (bs : List UInt8) (s : ByteArray) (h : Wr w B g bs) (hs : s.size < two64) (hb : bs.length + 10 + s.size ≤ room46) :
    Calls Try.prog 99 #[.pointer (some ⟨g, 0, none⟩), .string s] w fun e w' => e = .returned (.tuple #[]) ∧ Wr w' B g (bs ++ (varB s.size ++ s.data.toList)) ∧ Eff B WrT w w' := by
  obtain ⟨i0, hi, hz0, hz1, hz2⟩ := info_parts info_u8
  have hb1 : bs.length + 10 ≤ room46 := by omega
  have hsm : s.size ≤ 9223372036854775807 := by unfold room46 at hb; omega
  go_enter Try.func99, Try.ntmps99
  go_wp2_with fail
  refine (var_any w B g bs s.size h hs hb1).mono ?_
  rintro e w1 ⟨rfl, hw1, he1⟩
  go_wp2_with fail
  refine (live_any w1 B g _ hw1).mono ?_
  rintro e w2 ⟨rfl, rfl⟩
  obtain ⟨sl, hk, hB, ho⟩ := hw1
  have c1 := hk.cell 1
  simp at c1
  have hsrc : Src Try.prog 1 9 (.string s) s.size (bv s.data.toList) w1 := Src.ofString w1 Try.underlying9 s
  have hv := varB_ten hs
  go_wp2_with (at_builtin; go_must (refine wpList_append_src _ rfl _ _ 36 9 rfl B 5 i0 (.int .u8 0) 1 1 Try.underlying36 hi hz0 hz1 hz2 rfl (by decide) _ _ _ rfl ho _ _ _ rfl hsrc ?c2 ?c3 ?c4 ?_))
  case c2 => simp only [List.length_append]; unfold room46 at hb; unfold maxLen; omega
  case c3 => simp only [List.length_append]; unfold room46 at hb; omega
  case c4 => have := hk.lt; omega
  intro A' c' w3 hown1 hg1 hblk
  have hk1 := hk.grown hg1 (fun e => own_ne_bk ho hk (by decide) e.symm)
  have d1 := hk1.cell 1
  have e1 := hk1.frozen 1
  simp at d1
  clear hblk hi hz0 hz1 hz2 hb c1 hsrc
  go_wp2
  go_end0
  have hne := own_ne_bk hown1 hk1 (by decide)
  have hl : (bs ++ (varB s.size ++ s.data.toList)).length = bs.length + (varB s.size).length + s.size := by simp [Nat.add_assoc]
  refine ⟨rfl, ⟨.slice A' (bs.length + (varB s.size).length + s.size) c', ?_, hB, ?_⟩, ?_⟩
  · have := hk1.set_ 1 (.slice A' (bs.length + (varB s.size).length + s.size) c')
    simpa using this
  · rw [hl, ← List.append_assoc, bv_append]
    exact ownsRow_setCell_other (a := ⟨g, 1, none⟩) hown1 hne _
  · refine he1.trans ((Eff.grown hg1 (fun k hk' => ?_)).trans (Eff.setCell hk1 hB (by decide) 1 _))
    obtain ⟨a1, cc, t, f, a2, a3⟩ := own_row ho k hk'
    exact ⟨a1, cc, t, f, a2, by simp at a3; simp [a3]⟩

set_option maxHeartbeats 400000 in
theorem text_any (w : World) (B g : Nat) (bs : List UInt8) (s : ByteArray) (h : Wr w B g bs) (hs : s.size < two64) (hb : bs.length + 10 + s.size ≤ room46) :
    Calls Try.prog 59 #[.pointer (some ⟨g, 0, none⟩), .string s] w fun e w' => e = .returned (.tuple #[]) ∧ Wr w' B g (bs ++ (varB s.size ++ s.data.toList)) ∧ Eff B WrT w w' := by
  go_enter Try.func59, Try.ntmps59
  go_wp2_with (go_at_call 99; go_must (refine (putText_any _ B g bs s h hs hb).mono ?_); rintro e w' ⟨rfl, hw, he⟩)
  go_end0
  exact ⟨rfl, hw, he⟩

set_option maxHeartbeats 400000 in
theorem newWriter_any (w : World) :
    Calls Try.prog 57 #[] w fun e w' => ∃ g, e = .returned (.pointer (some ⟨g, 0, none⟩)) ∧ Wr w' w.heap.size g [] ∧ Below w.heap.size w w' := by
  go_enter Try.func57, Try.ntmps57
  go_wp2
  go_ret
  refine ⟨w.heap.size, rfl, ⟨.slice none 0 0, Bk.new w _ _, Nat.le_refl _, ?_⟩, (Below.refl _ _).alloc (Nat.le_refl _) _⟩
  exact World.ownsRow_nil _ _ _ _

/-- a list of bytes in new memory -/
def Bs (w : World) (B : Nat) (v : Value) (l : List UInt8) : Prop := w.ownsRow B 5 1 v l.length (bv l)
theorem Bs.form {w : World} {B : Nat} {v : Value} {l : List UInt8} (h : Bs w B v l) : ∃ A c, v = .slice A l.length c := own_form h
theorem Bs.rd {w : World} {B n c : Nat} {A : Option Addr} {l : List UInt8} (h : Bs w B (.slice A n c) l) : Rd w A (bv l) := by
  obtain ⟨A', c', e⟩ := h.form
  injection e with e1 e2 e3
  subst e1 e2 e3
  exact Rd.of_own h
theorem Bs.below {w w' : World} {B : Nat} {v : Value} {l : List UInt8} (h : Bs w B v l) (e : Below w.heap.size w w') : Bs w' B v l := own_below h e
theorem Bs.mono {w : World} {B B' : Nat} {v : Value} {l : List UInt8} (h : Bs w B v l) (e : B' ≤ B) : Bs w B' v l := by
  refine ⟨h.1, h.2.imp id ?_⟩
  rintro ⟨g, cap, cur, hv, hb, rest⟩
  exact ⟨g, cap, cur, hv, by omega, rest⟩

set_option maxHeartbeats 400000 in
theorem clone_any (w : World) (A : Option Addr) (n c : Nat) (l : List UInt8) (hr : Rd w A (bv l)) (hn : n = l.length) (hl : l.length ≤ reach47) :
    Calls Try.prog 100 #[.slice A n c] w fun e w' => ∃ v, e = .returned v ∧ Bs w' w.heap.size v l ∧ Below w.heap.size w w' := by
  obtain ⟨i0, hi, hz0, hz1, hz2⟩ := info_parts info_u8
  subst hn
  rcases A with _ | ad
  · have hl0 : l = [] := by
      cases l with
      | nil => rfl
      | cons u l =>
        obtain ⟨ad, ha, _⟩ := hr 0 (.int .u8 u.toNat) rfl
        cases ha
    subst hl0
    have hq := fun wx : World => Lib.run_eql_slice_nil (P := Try.prog) wx 36 5 none 0 c 0 0 Try.underlying36
    go_enter Try.func100, Try.ntmps100
    go_wp2
    go_ret
    exact ⟨_, rfl, World.ownsRow_nil _ _ _ _, Below.refl _ _⟩
  · have hq := fun wx : World => Lib.run_eql_slice_nil (P := Try.prog) wx 36 5 (some ad) l.length c 0 0 Try.underlying36
    have hr1 := hr.alloc (.cells #[] 5)
    have ho : (w.alloc (.cells #[] 5)).ownsRow w.heap.size 5 1 (.slice (some ⟨w.heap.size, 0, none⟩) 0 0) 0 [] := World.ownsRow_made w #[] 0 (Nat.le_refl _) (by unfold maxLen; omega) rfl
    go_enter Try.func100, Try.ntmps100
    go_wp2_with (at_builtin; go_must (refine wpList_append_rd _ rfl _ _ 36 rfl w.heap.size 5 i0 (.int .u8 0) 1 1 Try.underlying36 hi hz0 hz1 hz2 rfl (by decide) _ _ _ rfl ho (some ad) _ c (bv l) rfl ?c1 hr1 (bv_one _) ?c2 ?c3 ?c4 ?_))
    case c1 => rw [bv_length, Nat.mul_one]
    case c2 => unfold reach47 at hl; unfold maxLen; omega
    case c3 => unfold reach47 at hl; omega
    case c4 => simp
    intro A' c' w3 hown1 hg1 hblk
    clear hblk hi hz0 hz1 hz2 hq hl
    go_wp2
    go_ret
    refine ⟨_, rfl, ?_, ((Below.refl _ _).alloc (Nat.le_refl _) _).grown hg1 (by simp) (by simp [Value.ownBlock])⟩
    unfold Bs
    simpa using hown1

set_option maxHeartbeats 400000 in
theorem out_any (w : World) (B g : Nat) (bs : List UInt8) (h : Wr w B g bs) (hl : bs.length ≤ reach47) :
    Calls Try.prog 60 #[.pointer (some ⟨g, 0, none⟩)] w fun e w' => ∃ v, e = .returned (.tuple #[v, .int .i64 0]) ∧ Bs w' w.heap.size v bs ∧ Below w.heap.size w w' := by
  obtain ⟨sl, hk, hB, ho⟩ := h
  obtain ⟨A, c, rfl⟩ := own_form ho
  have hr := Rd.of_own ho
  have c0 := hk.cell 0
  have c1 := hk.cell 1
  have c2 := hk.cell 2
  simp at c0 c1 c2
  go_enter Try.func60, Try.ntmps60
  go_wp2_with (go_at_call 100; go_must (refine (clone_any _ A _ c bs hr rfl hl).mono ?_); rintro e w' ⟨v, rfl, hv, hb⟩)
  go_ret2
  exact ⟨v, rfl, hv, hb⟩
end Go.Proofs.Ytocgcalaiejbiaa

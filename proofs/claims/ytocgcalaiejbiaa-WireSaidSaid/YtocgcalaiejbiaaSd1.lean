/-
  The law's helpers lent and kept. Condition: the bytes are within reach.
-/
import Derived.Test.YtocgcalaiejbiaaSame
import Derived.Test.YtocgcalaiejbiaaRd12
namespace Go.Proofs.Ytocgcalaiejbiaa
set_option linter.unusedSimpArgs false
set_option linter.unusedVariables false
open Go.RowKit
set_option maxRecDepth 100000

def lentB (l : List UInt8) : List UInt8 := l ++ [171, 172]
def LentRes (l : List UInt8) (w : World) (en : Ending) (w' : World) : Prop :=
  ∃ A' n c', n = l.length ∧ en = .returned (.slice A' n c') ∧ Bs w' w.heap.size (.slice A' (n + 2) c') (lentB l) ∧ Below w.heap.size w w'
theorem bs_cap {w : World} {B n c : Nat} {A : Option Addr} {l : List UInt8} (h : Bs w B (.slice A n c) l) : n ≤ c ∧ c ≤ 9223372036854775807 := by
  rcases h.2 with ⟨h1, h2⟩ | ⟨g, cap, cur, hv, _, _, h3, h4, _⟩
  · injection h1 with _ h2 h3
    subst h2 h3
    exact ⟨by omega, by omega⟩
  · injection hv with _ h5 h6
    subst h5 h6
    unfold maxLen at h4
    exact ⟨h3, h4⟩
set_option maxHeartbeats 2000000 in
theorem lent_any (w : World) (A : Option Addr) (n c : Nat) (l : List UInt8) (hr : Rd w A (bv l)) (hn : n = l.length) (hl : l.length ≤ reach47) :
    Calls Try.prog 16 #[.slice A n c] w (LentRes l w) := by
  have HR := Lib.hid (hr.alloc (.cells #[] 5))
  have HN := Lib.hid hn
  have HL := Lib.hid hl
  have HM := Lib.hid (show Bs (w.alloc (.cells #[] 5)) w.heap.size (.slice (some ⟨w.heap.size, 0, none⟩) 0 0) [] from Bs.made w w.heap.size #[] [] rfl (Nat.le_refl _) (by unfold reach47; simp))
  have HB := Lib.hid ((Below.refl w.heap.size w).alloc (Nat.le_refl _) (.cells #[] 5))
  have hn9 : n ≤ 9000000000000000000 := by unfold reach47 at hl; omega
  clear hr hn hl
  go_enter Try.func16, Try.ntmps16
  go_wp2_with (first
    | (at_builtin; refine wpList_app rfl (.tmp 4) (.tmp 5) rfl w.heap.size (.slice (some ⟨w.heap.size, 0, none⟩) 0 0) [] rfl HM.out A n c l rfl HN.out.symm HR.out (by have := HL.out; unfold reach47 at *; simp; omega) (by simp) ?_; intro A4 c4 w7 hown7 hg7 hat7; have H7 := Lib.hid (below_app HB.out HM.out hg7 (by simp)); have O7 : Hid (Bs w7 w.heap.size (.slice A4 n c4) l) := Lib.hid (by simpa using hown7); have S7 := Lib.hid H7.out.size; have hc4 := (bs_cap O7.out).2; clear hown7 hg7 hat7 HM HB HR)
    | (at_builtin; go_must (refine wpList_app rfl (.tmp 7) (.tmp 8) rfl w.heap.size (.slice A4 n c4) l rfl (O7.out.alloc _) _ 2 2 [171, 172] rfl rfl (rd_lit w7 #[.int .u8 171, .int .u8 172] [171, 172] rfl) (by have := HL.out; unfold reach47 at *; simp; omega) (by have := S7.out; simp; omega) ?_); intro A5 c5 w8 hown8 hg8 hat8; have H8 := Lib.hid (below_app (H7.out.alloc S7.out _) (O7.out.alloc _) hg8 (by have := S7.out; simp; omega)); have O8 : Hid (Bs w8 w.heap.size (.slice A5 (n + 2) c5) (lentB l)) := Lib.hid (by have h := hown8; rw [← HN.out] at h; exact h); have hc5 := bs_cap O8.out; have hi5 : (n : Int) ≤ c5 := (by omega); clear hown8 hg8 hat8 O7 H7))
  go_ret
  exact ⟨A5, n, c5, HN.out, rfl, O8.out, H8.out⟩

theorem lent_rd {w : World} {B n c : Nat} {A : Option Addr} {l : List UInt8} (h : Bs w B (.slice A n c) (lentB l)) : Rd w A (bv l) := by
  have hr := h.rd
  intro j u hu
  refine hr j u ?_
  unfold lentB
  rw [bv_append, List.getElem?_append_left (List.getElem?_eq_some_iff.1 hu).1]
  exact hu
theorem lent_at {w : World} {B n c : Nat} {A : Option Addr} {l : List UInt8} (h : Bs w B (.slice A n c) (lentB l)) : ∃ g, A = some ⟨g, 0, none⟩ ∧ w.cell? ⟨g, l.length, none⟩ = some (.int .u8 171) ∧ w.cell? ⟨g, l.length + 1, none⟩ = some (.int .u8 172) := by
  have hr := h.rd
  have hl : (bv l).length = l.length := bv_length l
  rcases h.2 with ⟨h1, h2⟩ | ⟨g, cap, cur, hv, _⟩
  · have : (lentB l).length = l.length + 2 := by simp [lentB]
    omega
  · injection hv with h1 _ _
    subst h1
    obtain ⟨ad, ha, c1⟩ := hr l.length (.int .u8 171) (by
      unfold lentB
      rw [bv_append, List.getElem?_append_right (by omega), hl, Nat.sub_self]
      rfl)
    cases ha
    obtain ⟨ad, ha, c2⟩ := hr (l.length + 1) (.int .u8 172) (by
      unfold lentB
      rw [bv_append, List.getElem?_append_right (by omega), hl, Nat.add_sub_cancel_left]
      rfl)
    cases ha
    rw [addr_add, Nat.zero_add] at c1 c2
    exact ⟨g, rfl, c1, c2⟩

set_option maxHeartbeats 2000000 in
theorem kept_any (w : World) (A A2 : Option Addr) (n c c2 B : Nat) (l : List UInt8) (h : Bs w B (.slice A2 (n + 2) c2) (lentB l)) (hr : Rd w A (bv l)) (hn : n = l.length) (hl : l.length ≤ reach47) :
    Calls Try.prog 21 #[.slice A2 n c2, .slice A n c] w fun en w' => en = .returned (.bool true) ∧ Below w.heap.size w w' := by
  have HR := Lib.hid hr
  have HN := Lib.hid hn
  have HL := Lib.hid hl
  have HB := Lib.hid h
  have hn9 : n ≤ 9000000000000000000 := by unfold reach47 at hl; omega
  have hc2 := bs_cap h
  have W1 : IntKind.i64.wrap ((n : Int) + 2) = (n : Int) + 2 := by rw [IntKind.wrap_i64]; omega
  have W2 : IntKind.i64.wrap ((n : Int) + 1) = (n : Int) + 1 := by rw [IntKind.wrap_i64]; omega
  have i1 : (n : Int) + 2 ≤ c2 := by omega
  have i0 : (0 : Int) ≤ (n : Int) + 2 := by omega
  obtain ⟨gg, hA, d1, d2⟩ := lent_at h
  rw [← hn] at d1 d2
  subst hA
  clear hr hn hl h
  have HT := Lib.hid (beq_self_eq_true l)
  go_enter Try.func21, Try.ntmps21
  go_wp2_with fail
  refine (sameBytes_any w (some ⟨gg, 0, none⟩) A n c2 n c l l HN.out.symm HN.out.symm (lent_rd HB.out) HR.out (by have := HL.out; have := HN.out; omega)).mono ?_
  rintro en w1 ⟨rfl, hb1⟩
  rw [HT.out]
  have HB1 := Lib.hid (HB.out.below hb1)
  obtain ⟨gg', hA', e1, e2⟩ := lent_at HB1.out
  cases hA'
  rw [← HN.out] at e1 e2
  have H1 := Lib.hid hb1
  have j0 : (0 : Int) ≤ (n : Int) := by omega
  have j1 : (n : Int) < (n : Int) + 2 := by omega
  have j2 : (n : Int) + 1 < (n : Int) + 2 := by omega
  have j3 : (0 : Int) ≤ (n : Int) + 1 := by omega
  clear hb1 d1 d2
  go_wp2
  go_ret
  exact ⟨rfl, H1.out⟩
end Go.Proofs.Ytocgcalaiejbiaa

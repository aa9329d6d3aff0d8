/-
  Reader.take: so many bytes of what is left, or the error. No condition.
-/
import Derived.Test.YtocgcalaiejbiaaRd1
import Derived.Test.YtocgcalaiejbiaaRdLaw
namespace Go.Proofs.Ytocgcalaiejbiaa
set_option linter.unusedSimpArgs false
set_option linter.unusedVariables false
open Go.RowKit
set_option maxRecDepth 100000

/-- what lies in a part of a slice -/
theorem Rd.drop {w : World} {A : Option Addr} {xs : List Value} (h : Rd w A xs) (p n : Nat) : Rd w (A.map fun a => a.add p) ((xs.drop p).take n) := by
  intro j u hu
  rw [List.getElem?_take] at hu
  split at hu
  · rw [List.getElem?_drop] at hu
    obtain ⟨ad, rfl, hc⟩ := h (p + j) u hu
    refine ⟨ad.add p, rfl, ?_⟩
    rw [Addr.add_add]
    exact hc
  · cases hu

/-- what take answers -/
def TakeRes (g : Nat) (A : Option Addr) (c : Nat) (l : List UInt8) (p : Nat) (e : Int) (n : Nat) (w : World) (en : Ending) (w' : World) : Prop :=
  Ch [g] w w' ∧
      ((l.length - p < n ∧ en = .returned (.tuple #[.slice none 0 0, .int .i64 10]) ∧ Re w' g A c l p e) ∨
       (n ≤ l.length - p ∧ ∃ A' c', en = .returned (.tuple #[.slice A' n c', .int .i64 0]) ∧ Rd w' A' (bv ((l.drop p).take n)) ∧ Re w' g A c l (p + n) e))
set_option maxHeartbeats 2000000 in
theorem take_any (w : World) (g : Nat) (A : Option Addr) (c : Nat) (l : List UInt8) (p : Nat) (e : Int) (n : Nat) (h : Re w g A c l p e) (hn : n ≤ 9223372036854775807) :
    Calls Try.prog 104 #[.pointer (some ⟨g, 0, none⟩), .int .i64 n] w (TakeRes g A c l p e n w) := by
  have hle := h.le
  have hcap := h.cap
  have hroom := h.room
  have H := Lib.hid h
  have c1 : w.cell? ⟨g, 1, none⟩ = some (.slice A l.length c) := h.bk.cell 1
  have c2 : w.cell? ⟨g, 2, none⟩ = some (.int .i64 p) := h.bk.cell 2
  clear h
  go_enter Try.func104, Try.ntmps104
  have W1 : IntKind.i64.wrap ((l.length : Int) - p) = (l.length : Int) - p := by rw [IntKind.wrap_i64]; omega
  by_cases hlt : (l.length : Int) - p < n
  · go_wp2
    go_quiet (fail)
    go_wp2
    go_ret2
    exact ⟨(Ch.refl _ _).drewN _, .inl ⟨by omega, rfl, H.out.drewN _⟩⟩
  · have W2 : IntKind.i64.wrap ((p : Int) + n) = (p : Int) + n := by rw [IntKind.wrap_i64]; omega
    have W3 : IntKind.i64.wrap ((p : Int) + n - n) = p := by rw [IntKind.wrap_i64]; omega
    have W4 : IntKind.i64.wrap (p : Int) = p := by rw [IntKind.wrap_i64]; omega
    have z2 := H.out.bk.frozen 2
    go_wp2
    go_quiet (fail)
    go_wp2
    have R2 := (H.out.drewN nq).at_ (p + n) (by omega)
    have C2 : Ch [g] w ((w.drewN nq).setCell ⟨g, 2, none⟩ (.int .i64 ((p : Int) + n))) := ((Ch.refl [g] w).drewN nq).setCell (by simp) _
    rw [Int.natCast_add] at R2
    generalize (w.drewN nq).setCell ⟨g, 2, none⟩ (.int .i64 ((p : Int) + n)) = w2 at R2 C2 ⊢
    have d1 : w2.cell? ⟨g, 1, none⟩ = some (.slice A l.length c) := R2.bk.cell 1
    have d2 : w2.cell? ⟨g, 2, none⟩ = some (.int .i64 ((p : Int) + n)) := by have := R2.bk.cell 2; simpa using this
    have b0 : (0 : Int) ≤ p := by omega
    have b1 : (p : Int) ≤ (p : Int) + n := by omega
    have b2 : (p : Int) + n ≤ c := by omega
    have HR := Lib.hid R2; clear R2
    have HC := Lib.hid C2; clear C2
    clear c1 c2 z2
    have hrd : Rd w2 (A.map fun a => a.add p) (bv ((l.drop p).take n)) := by
      have := HR.out.rd.drop p n
      rwa [show ((bv l).drop p).take n = bv ((l.drop p).take n) from by simp [bv, List.map_take, List.map_drop]] at this
    have HRD := Lib.hid hrd; clear hrd
    by_cases hcp : c = p
    · subst hcp
      have hn0 : n = 0 := by omega
      subst hn0
      go_quiet (fail)
      go_wp2
      go_ret2
      refine ⟨HC.out.drewN _, .inr ⟨by omega, _, _, rfl, ?_, HR.out.drewN _⟩⟩
      intro j u hu
      simp [bv] at hu
    · have Hcp := Lib.hid hcp
      go_quiet (fail)
      go_wp2
      go_ret2
      refine ⟨HC.out.drewN _, .inr ⟨by omega, A.map fun a => a.add p, c - p, ?_, HRD.out, HR.out.drewN _⟩⟩
      show Ending.returned (.tuple #[.slice (A.map fun a => a.add p) (p + n - p) (c - p), .int .i64 0]) = _
      rw [Nat.add_sub_cancel_left]
end Go.Proofs.Ytocgcalaiejbiaa

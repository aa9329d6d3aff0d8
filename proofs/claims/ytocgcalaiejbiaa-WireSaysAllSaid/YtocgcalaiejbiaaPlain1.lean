/-
  The small tests of package wire: all, field, height, moment, round, amount, kind, named. No condition but that whole numbers fit their kinds.
-/
import Derived.Test.YtocgcalaiejbiaaCodW2
namespace Go.Proofs.Ytocgcalaiejbiaa
set_option linter.unusedSimpArgs false
set_option linter.unusedVariables false
open Go.RowKit
set_option maxRecDepth 100000

def field (b : Bool) : Int := if b then 41 else 0
theorem field_ret (b : Bool) : Ending.returned (.int .i64 (if b then 41 else 0)) = .returned (.int .i64 (field b)) := rfl

set_option maxHeartbeats 400000 in
theorem field_any (w : World) (b : Bool) :
    Calls Try.prog 62 #[.bool b] w fun e w' => e = .returned (.int .i64 (field b)) ∧ w = w' := by
  cases b
  · go_enter Try.func62, Try.ntmps62
    go_wp2
    go_ret
    exact ⟨rfl, rfl⟩
  · go_enter Try.func62, Try.ntmps62
    go_wp2
    go_ret
    exact ⟨rfl, rfl⟩

def height (h : Int) : Int := field (decide (h < 1 ∨ 1099511627776 < h))
def moment (t : Int) : Int := field (decide (1125899906842624 < t))
def round (r : Int) : Int := field (decide (r < 0 ∨ 65535 < r))
def amount (a : Int) : Int := field (decide (1152921504606846975 < a))
def kind (k lo hi : Int) : Int := if k < lo ∨ hi < k then 40 else 0
def named (n : Nat) : Int := field (decide (n < 1 ∨ 16 < n))

theorem ret_i64 {a b : Int} (h : a = b) : Ending.returned (.int .i64 a) = .returned (.int .i64 b) := by rw [h]
theorem field_t {p : Prop} [Decidable p] (h : p) : (41 : Int) = field (decide p) := by rw [decide_eq_true h]; rfl
theorem field_f {p : Prop} [Decidable p] (h : ¬ p) : (0 : Int) = field (decide p) := by rw [decide_eq_false h]; rfl

set_option maxHeartbeats 400000 in
theorem height_any (w : World) (h : Int) :
    Calls Try.prog 65 #[.int .u64 h] w fun e w' => e = .returned (.int .i64 (height h)) ∧ w = w' := by
  go_enter Try.func65, Try.ntmps65
  go_wp2
  all_goals
    go_ret
    exact ⟨ret_i64 (by unfold height; first | exact field_t (by omega) | exact field_f (by omega)), rfl⟩

set_option maxHeartbeats 400000 in
theorem moment_any (w : World) (t : Int) :
    Calls Try.prog 67 #[.int .u64 t] w fun e w' => e = .returned (.int .i64 (moment t)) ∧ w = w' := by
  go_enter Try.func67, Try.ntmps67
  go_wp2
  all_goals
    go_ret
    exact ⟨ret_i64 (by unfold moment; first | exact field_t (by omega) | exact field_f (by omega)), rfl⟩

set_option maxHeartbeats 400000 in
theorem round_any (w : World) (r : Int) :
    Calls Try.prog 66 #[.int .i64 r] w fun e w' => e = .returned (.int .i64 (round r)) ∧ w = w' := by
  go_enter Try.func66, Try.ntmps66
  go_wp2
  all_goals
    go_ret
    exact ⟨ret_i64 (by unfold round; first | exact field_t (by omega) | exact field_f (by omega)), rfl⟩

set_option maxHeartbeats 400000 in
theorem amount_any (w : World) (a : Int) :
    Calls Try.prog 63 #[.int .u64 a] w fun e w' => e = .returned (.int .i64 (amount a)) ∧ w = w' := by
  go_enter Try.func63, Try.ntmps63
  go_wp2
  all_goals
    go_ret
    exact ⟨ret_i64 (by unfold amount; first | exact field_t (by omega) | exact field_f (by omega)), rfl⟩

set_option maxHeartbeats 400000 in
theorem kind_any (w : World) (k lo hi : Int) :
    Calls Try.prog 61 #[.int .i64 k, .int .i64 lo, .int .i64 hi] w fun e w' => e = .returned (.int .i64 (kind k lo hi)) ∧ w = w' := by
  go_enter Try.func61, Try.ntmps61
  go_wp2
  all_goals
    go_ret
    exact ⟨ret_i64 (by unfold kind; first | rw [if_pos (by omega)] | rw [if_neg (by omega)]), rfl⟩

set_option maxHeartbeats 400000 in
theorem named_any (w : World) (s : ByteArray) (hs : s.size ≤ 9223372036854775807) :
    Calls Try.prog 56 #[.string s] w fun e w' => e = .returned (.int .i64 (named s.size)) ∧ w = w' := by
  go_enter Try.func56, Try.ntmps56
  go_wp2
  all_goals
    go_ret
    exact ⟨ret_i64 (by unfold named; first | exact field_t (by omega) | exact field_f (by omega)), rfl⟩

/-- the first that is not 0 -/
def firstErr : List Int → Int
  | [] => 0
  | e :: l => if e ≠ 0 then e else firstErr l

theorem rd_at {w : World} {A : Option Addr} {xs : List Value} (h : Rd w A xs) {j : Nat} {u : Value} (hu : xs[j]? = some u) : ∃ ad, A = some ad ∧ w.cell? (ad.add j) = some u := h j u hu

set_option maxHeartbeats 400000 in
theorem all_any (w : World) (A : Option Addr) (n c : Nat) (l : List Int) (hr : Rd w A (l.map (Value.int .i64))) (hn : l.length = n) (hm : n ≤ 1000) :
    Calls Try.prog 55 #[.slice A n c] w fun e w' => e = .returned (.int .i64 (firstErr l)) ∧ w = w' := by
  have Hn := Lib.hid hn; clear hn
  go_enter Try.func55, Try.ntmps55
  go_wp2
  go_loop [7] (fun i => ∃ k : Nat, k ≤ n ∧ i = .int .i64 k ∧ firstErr (l.drop k) = firstErr l) (fun i => n - (intOf i).toNat)
  case atStart => exact ⟨0, Nat.zero_le _, rfl, rfl⟩
  case round =>
    obtain ⟨k, hk, rfl, hf⟩ := hrel
    have Hf := Lib.hid hf; clear hf
    by_cases hlt : k < n
    · have hkl : k < l.length := by rw [Hn.out]; exact hlt
      have hd : l.drop k = l[k] :: l.drop (k + 1) := List.drop_eq_getElem_cons hkl
      obtain ⟨ad, hA, hcell⟩ := rd_at hr (j := k) (u := .int .i64 l[k]) (by simp [hkl])
      have Hd := Lib.hid hd; clear hd
      subst hA
      by_cases hz : l[k] = 0
      · rw [hz] at hcell
        have Hz := Lib.hid hz; clear hz
        go_wp2
        go_round
        case rel => exact ⟨k + 1, by omega, by go_num, by rw [← Hf.out, Hd.out]; simp [firstErr, Hz.out]⟩
        case measure => simp [intOf]; omega
      · have hz' : (l[k] == 0) = false := by simp [hz]
        have hz2 : (l[k] != 0) = true := by simp [hz]
        go_wp2
        go_ret
        exact ⟨ret_i64 (by rw [← Hf.out, Hd.out]; simp [firstErr, hz]), rfl⟩
    · have hk' : k = n := by omega
      have Hk := Lib.hid hk'; clear hk'
      go_wp2
      go_ret
      refine ⟨ret_i64 ?_, rfl⟩
      rw [← Hf.out, List.drop_of_length_le (by rw [Hn.out, Hk.out]; exact Nat.le_refl _)]; rfl
end Go.Proofs.Ytocgcalaiejbiaa

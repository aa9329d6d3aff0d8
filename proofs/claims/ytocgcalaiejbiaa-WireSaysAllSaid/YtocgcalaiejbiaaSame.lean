/-
  The law's own helpers: num, sameBytes, turn. Conditions: sizes below 2^46; what is turned is the call's own.
-/
import Derived.Test.YtocgcalaiejbiaaRef3
namespace Go.Proofs.Ytocgcalaiejbiaa
set_option linter.unusedSimpArgs false
set_option linter.unusedVariables false
open Go.RowKit
set_option maxRecDepth 100000

set_option maxHeartbeats 400000 in
theorem lawNum_any (w : World) (n : Int) :
    Calls Try.prog 13 #[.int .i64 n] w fun e w' => e = .returned (.int .i64 n) ∧ w = w' := by
  go_enter Try.func13, Try.ntmps13
  go_wp2
  go_ret
  exact ⟨rfl, rfl⟩

theorem take_eq_succ {l1 l2 : List UInt8} {k : Nat} {a : UInt8} (h1 : l1[k]? = some a) (h2 : l2[k]? = some a) (h : l1.take k = l2.take k) : l1.take (k + 1) = l2.take (k + 1) := by
  rw [List.take_add_one, List.take_add_one, h, h1, h2]

theorem below_drewN {B n : Nat} {a w : World} (h : Below B a w) : Below B a (w.drewN n) := ⟨h.os, h.tape, h.output, h.size, h.block⟩
set_option maxHeartbeats 1000000 in
theorem sameBytes_any (w : World) (A1 A2 : Option Addr) (n1 c1 n2 c2 : Nat) (l1 l2 : List UInt8) (e1 : l1.length = n1) (e2 : l2.length = n2) (r1 : Rd w A1 (bv l1)) (r2 : Rd w A2 (bv l2)) (hm : n1 ≤ reach47 + 100) :
    Calls Try.prog 14 #[.slice A1 n1 c1, .slice A2 n2 c2] w fun e w' => e = .returned (.bool (l1 == l2)) ∧ Below w.heap.size w w' := by
  have E1 := Lib.hid e1; clear e1
  have E2 := Lib.hid e2; clear e2
  have hm' : n1 ≤ 9000000000000000000 := by unfold reach47 at hm; omega
  clear hm
  by_cases hn : n1 = n2
  case neg =>
    have hf : (l1 == l2) = false := by
      rw [beq_eq_false_iff_ne]; intro h; exact hn (by rw [← E1.out, ← E2.out, h])
    have hn' : ¬ ((n1 : Int) = (n2 : Int)) := by omega
    go_enter Try.func14, Try.ntmps14
    go_wp2
    go_ret
    exact ⟨ret_bool hf.symm, Below.refl _ _⟩
  case pos =>
    subst hn
    go_enter Try.func14, Try.ntmps14
    go_wp2
    go_loopw [5] (fun i wr => ∃ k : Nat, k ≤ n1 ∧ i = .int .i64 k ∧ l1.take k = l2.take k ∧ Below w.heap.size w wr) (fun i _ => n1 - (intOf i).toNat)
    case atStart => exact ⟨0, Nat.zero_le _, rfl, rfl, Below.refl _ _⟩
    case round =>
      obtain ⟨k, hk, rfl, htk, hbl⟩ := hrel
      have Htk := Lib.hid htk; clear htk
      by_cases hlt : k < n1
      · have hk1 : k < l1.length := by rw [E1.out]; exact hlt
        have hk2 : k < l2.length := by rw [E2.out]; exact hlt
        obtain ⟨a1, hA1, hc1⟩ := rd_at (r1.below hbl) (j := k) (u := .int .u8 (l1[k].toNat : Int)) (by simp [bv, hk1])
        obtain ⟨a2, hA2, hc2⟩ := rd_at (r2.below hbl) (j := k) (u := .int .u8 (l2[k].toNat : Int)) (by simp [bv, hk2])
        by_cases hb : l1[k] = l2[k]
        · rw [← hb] at hc2
          have hs : l1.take (k + 1) = l2.take (k + 1) := take_eq_succ (a := l1[k]) (by simp [hk1]) (by rw [List.getElem?_eq_getElem hk2, hb]) Htk.out
          have Hs := Lib.hid hs; clear hs hb
          generalize (l1[k].toNat : Int) = z at hc1 hc2
          clear hk1 hk2
          subst hA1 hA2
          go_wp2
          go_quiet (fail)
          go_wp2
          refine ⟨⟨k + 1, by omega, by go_num, Hs.out, below_drewN hbl⟩, by simp [intOf]; omega⟩
        · have hf : (l1 == l2) = false := by
            rw [beq_eq_false_iff_ne]; intro h; subst h; exact hb rfl
          have hz : ¬ ((l1[k].toNat : Int) = (l2[k].toNat : Int)) := by
            intro h; apply hb; exact UInt8.toNat_inj.mp (by omega)
          clear hb
          generalize (l1[k].toNat : Int) = z1 at hc1 hz
          generalize (l2[k].toNat : Int) = z2 at hc2 hz
          clear hk1 hk2
          subst hA1 hA2
          go_wp2
          go_quiet (fail)
          go_wp2
          go_ret
          exact ⟨ret_bool hf.symm, below_drewN hbl⟩
      · have hk' : k = n1 := by omega
        have ht : l1 = l2 := by
          have := Htk.out
          rwa [List.take_of_length_le (by rw [E1.out]; omega), List.take_of_length_le (by rw [E2.out]; omega)] at this
        have hT : (l1 == l2) = true := by rw [ht]; exact beq_self_eq_true l2
        clear ht
        go_wp2
        go_ret
        exact ⟨ret_bool hT.symm, hbl⟩
end Go.Proofs.Ytocgcalaiejbiaa

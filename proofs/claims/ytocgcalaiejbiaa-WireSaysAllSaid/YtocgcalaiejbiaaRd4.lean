/-
  Reader.number: a number in groups of seven bits, in the one form. Condition: the Reader was made by NewReader (Re), and no error is set.
-/
import Derived.Test.YtocgcalaiejbiaaRd3

import Derived.WalkMore
import Derived.Deep.LoopGhost
namespace Go.Proofs.Ytocgcalaiejbiaa
set_option linter.unusedSimpArgs false
set_option linter.unusedVariables false
open Go.RowKit
set_option maxRecDepth 100000

def NumRes (g : Nat) (A : Option Addr) (c : Nat) (l : List UInt8) (p : Nat) (w : World) (en : Ending) (w' : World) : Prop :=
  Ch [g] w w' ∧ match groups (l.drop p) 0 0 with
    | .inl x => en = .returned (.tuple #[.int .u64 0, .int .i64 x]) ∧ Re w' g A c l p 0
    | .inr (v, k) => en = .returned (.tuple #[.int .u64 v, .int .i64 0]) ∧ Re w' g A c l (p + k) 0
theorem NumRes.inl {g : Nat} {A : Option Addr} {c : Nat} {l : List UInt8} {p : Nat} {w : World} {en : Ending} {w' : World} {x : Int} (h : groups (l.drop p) 0 0 = .inl x) (h1 : Ch [g] w w') (h2 : en = .returned (.tuple #[.int .u64 0, .int .i64 x])) (h3 : Re w' g A c l p 0) : NumRes g A c l p w en w' := by
  unfold NumRes; rw [h]; exact ⟨h1, h2, h3⟩
theorem NumRes.inr {g : Nat} {A : Option Addr} {c : Nat} {l : List UInt8} {p : Nat} {w : World} {en : Ending} {w' : World} {v k : Nat} (h : groups (l.drop p) 0 0 = .inr (v, k)) (h1 : Ch [g] w w') (h2 : en = .returned (.tuple #[.int .u64 v, .int .i64 0])) (h3 : Re w' g A c l (p + k) 0) : NumRes g A c l p w en w' := by
  unfold NumRes; rw [h]; exact ⟨h1, h2, h3⟩

theorem and127 (c : Nat) (h : c < 256) : bits .and .u8 (c : Int) 127 = ((c % 128 : Nat) : Int) := by
  have hb := (bits_nat .u8 8 (by decide) wraps_u8 c 127 (by omega) (by decide)).1
  refine hb.trans ?_
  have : c &&& 127 = c % 128 := Nat.and_two_pow_sub_one_eq_mod c 7
  rw [this]
theorem wraps64 (n : Int) (h₀ : 0 ≤ n) (h₁ : n < 2 ^ 64) : IntKind.u64.wrap n = n := by rw [IntKind.wrap_u64]; omega
theorem or_add (a x n : Nat) (h : a < 2 ^ n) : a ||| x * 2 ^ n = a + x * 2 ^ n := by
  rw [Nat.or_comm, ← Nat.shiftLeft_eq, ← Nat.shiftLeft_add_eq_or_of_lt h, Nat.shiftLeft_eq, Nat.add_comm]
theorem pow128 (k : Nat) : 128 ^ k = 2 ^ (7 * k) := by rw [Nat.pow_mul]
theorem acc_lt {acc k c : Nat} (hacc : acc < 128 ^ k) (hk : k ≤ 9) (hc : c < 128) (h9 : k = 9 → c ≤ 1) : acc + c * 128 ^ k < 18446744073709551616 := by
  have h1 : c * 128 ^ k ≤ 127 * 128 ^ k := Nat.mul_le_mul_right _ (by omega)
  by_cases h : k = 9
  · subst h
    have := h9 rfl
    have : c * 128 ^ 9 ≤ 1 * 128 ^ 9 := Nat.mul_le_mul_right _ this
    have e : (128 : Nat) ^ 9 = 9223372036854775808 := by decide
    omega
  · have h2 : 128 ^ k ≤ 128 ^ 8 := Nat.pow_le_pow_right (by omega) (by omega)
    have e : (128 : Nat) ^ 8 = 72057594037927936 := by decide
    omega
theorem acc_lt' {acc k c : Nat} (hacc : acc < 128 ^ k) (hc : c < 128) : acc + c * 128 ^ k < 128 ^ (k + 1) := by
  have : c * 128 ^ k ≤ 127 * 128 ^ k := Nat.mul_le_mul_right _ (by omega)
  rw [Nat.pow_succ]; omega
theorem step_or (acc k c : Nat) (hacc : acc < 128 ^ k) (hk : k ≤ 9) (hc : c < 256) (h9 : k = 9 → c ≤ 1) :
    bits .or .u64 (acc : Int) (IntKind.u64.wrap (IntKind.u64.wrap (bits .and .u8 (c : Int) 127) * 2 ^ (7 * k))) = ((acc + c % 128 * 128 ^ k : Nat) : Int) := by
  rw [and127 c hc]
  have e0 : IntKind.u64.wrap ((c % 128 : Nat) : Int) = ((c % 128 : Nat) : Int) := by rw [IntKind.wrap_u64]; omega
  rw [e0]
  have e2 : (((c % 128 : Nat) : Int) * 2 ^ (7 * k)) = ((c % 128 * 128 ^ k : Nat) : Int) := by rw [pow128]; simp
  rw [e2]
  have hl := acc_lt (c := c % 128) hacc hk (Nat.mod_lt _ (by omega)) (fun h => by have := h9 h; omega)
  have e3 : IntKind.u64.wrap ((c % 128 * 128 ^ k : Nat) : Int) = ((c % 128 * 128 ^ k : Nat) : Int) := by rw [IntKind.wrap_u64]; omega
  rw [e3]
  have hb := (bits_nat .u64 64 (by decide) wraps64 acc (c % 128 * 128 ^ k) (by omega) (by omega)).2
  refine hb.trans ?_
  rw [pow128, or_add _ _ _ (by rw [← pow128]; exact hacc)]
theorem groups_bad {b : UInt8} {rest : List UInt8} {k acc : Nat} (h : (k = 9 ∧ 1 < b.toNat) ∨ (0 < k ∧ b.toNat = 0)) : groups (b :: rest) k acc = .inl 11 := by
  unfold groups; rw [if_pos h]
theorem groups_last {b : UInt8} {rest : List UInt8} {k acc : Nat} (h : ¬ ((k = 9 ∧ 1 < b.toNat) ∨ (0 < k ∧ b.toNat = 0))) (h2 : b.toNat < 128) : groups (b :: rest) k acc = .inr (acc + b.toNat * 128 ^ k, k + 1) := by
  unfold groups; rw [if_neg h, if_pos h2]
theorem groups_more {b : UInt8} {rest : List UInt8} {k acc : Nat} (h : ¬ ((k = 9 ∧ 1 < b.toNat) ∨ (0 < k ∧ b.toNat = 0))) (h2 : 128 ≤ b.toNat) (h3 : b.toNat < 256) : groups (b :: rest) k acc = groups rest (k + 1) (acc + b.toNat % 128 * 128 ^ k) := by
  conv => lhs; unfold groups
  rw [if_neg h, if_neg (by omega), show b.toNat % 128 = b.toNat - 128 by omega]
set_option maxHeartbeats 8000000 in
theorem number_any (w : World) (g : Nat) (A : Option Addr) (c : Nat) (l : List UInt8) (p : Nat) (h : Re w g A c l p 0) :
    Calls Try.prog 108 #[.pointer (some ⟨g, 0, none⟩)] w (NumRes g A c l p w) := by
  have hle := h.le
  have hcap := h.cap
  have hroom := h.room
  have hreach := h.reach
  unfold reach47 at hreach
  have H := Lib.hid h
  clear h
  go_enter Try.func108, Try.ntmps108
  go_wp2
  go_step3
  go_wp2
  go_step3
  go_wp2
  go_loopg [4, 5] 10 (fun m v i wr => ∃ (k acc : Nat), m + k = 10 ∧ k ≤ 9 ∧ v = .int .u64 acc ∧ i = .int .i64 k ∧ acc < 128 ^ k ∧ Hid (groups (l.drop (p + k)) k acc = groups (l.drop p) 0 0) ∧ Hid (Ch [g] w wr) ∧ Hid (Re wr g A c l p 0))
  case atStart => exact ⟨0, 0, rfl, by omega, rfl, rfl, by decide, Lib.hid rfl, Lib.hid (Ch.refl _ _), H⟩
  case round =>
    obtain ⟨k, acc, hm, hk, rfl, rfl, hacc, hg, hch, hre⟩ := hrel
    have Hm := Lib.hid hm; clear hm
    have c1 : wr.cell? ⟨g, 1, none⟩ = some (.slice A l.length c) := hre.out.bk.cell 1
    have c2 : wr.cell? ⟨g, 2, none⟩ = some (.int .i64 p) := hre.out.bk.cell 2
    have f2 := hre.out.bk.frozen 2
    have W1 : IntKind.i64.wrap ((p : Int) + k) = (p : Int) + k := by rw [IntKind.wrap_i64]; omega
    have W2 : IntKind.i64.wrap ((k : Int) + 1) = (k : Int) + 1 := by rw [IntKind.wrap_i64]; omega
    by_cases hlt : l.length ≤ p + k
    · have hgn : groups (l.drop (p + k)) k acc = .inl 10 := by rw [List.drop_of_length_le hlt]; rfl
      have Hgn := Lib.hid hgn; clear hgn
      have hlt' : (l.length : Int) ≤ (p : Int) + k := by omega
      go_wp2
      go_quiet (fail)
      go_wp2
      rw [Exit.noGoto_ret]
      go_ret2
      exact NumRes.inl (by rw [← hg.out, Hgn.out]) (hch.out.drewN _) rfl (hre.out.drewN _)
    · have hpk : p + k < l.length := by omega
      have hd : l.drop (p + k) = l[p + k] :: l.drop (p + k + 1) := List.drop_eq_getElem_cons hpk
      obtain ⟨ad, hA, hcell⟩ := hre.out.rd (p + k) (.int .u8 l[p + k].toNat) (by simp [bv, hpk])
      subst hA
      have hc256 : l[p + k].toNat < 256 := UInt8.toNat_lt _
      have Hd := Lib.hid hd; clear hd
      have hlt' : ¬ ((l.length : Int) ≤ (p : Int) + k) := by omega
      have b0 : (0 : Int) ≤ (p : Int) + k := by omega
      have b1 : (p : Int) + k < l.length := by omega
      obtain ⟨z, hz⟩ : ∃ z : Int, (l[p + k].toNat : Int) = z := ⟨_, rfl⟩
      rw [hz] at hcell
      have z0 : 0 ≤ z := by omega
      have z1 : z < 256 := by omega
      have HZ := Lib.hid hz
      clear hz
      --WAYS
      obtain hw | hw | hw | hw | hw | hw | hw | hw : (k = 9 ∧ 1 < z) ∨ (k = 9 ∧ z = 0) ∨ (k = 9 ∧ z = 1) ∨ (k ≠ 9 ∧ 0 < k ∧ z = 0) ∨ (k ≠ 9 ∧ 0 < k ∧ 0 < z ∧ z < 128) ∨ (k ≠ 9 ∧ 0 < k ∧ 128 ≤ z) ∨ (k = 0 ∧ z < 128) ∨ (k = 0 ∧ 128 ≤ z) := by omega
      · have HW := Lib.hid hw
        have h9 : ((k : Int) == 9) = true := by simp; omega
        have h1 : 1 < z := by omega
        clear hw
        go_wp2
        go_quiet (fail)
        go_wp2
        go_quiet (fail)
        go_wp2
        rw [Exit.noGoto_ret]
        go_ret2
        clear W1 W2
        exact NumRes.inl (by rw [← hg.out, Hd.out]; exact groups_bad (by have := HZ.out; have := HW.out; omega)) (hch.out.drewN _) rfl (hre.out.drewN _)
      · have HW := Lib.hid hw
        have h9 : ((k : Int) == 9) = true := by simp; omega
        have h1 : ¬ 1 < z := by omega
        have h0 : (0 : Int) < k := by omega
        have hz0 : (z == 0) = true := by simp; omega
        clear hw
        go_wp2
        go_quiet (fail)
        go_wp2
        go_quiet (fail)
        go_wp2
        rw [Exit.noGoto_ret]
        go_ret2
        clear W1 W2
        exact NumRes.inl (by rw [← hg.out, Hd.out]; exact groups_bad (by have := HZ.out; have := HW.out; omega)) (hch.out.drewN _) rfl (hre.out.drewN _)
      · have HW := Lib.hid hw
        have h9 : ((k : Int) == 9) = true := by simp; omega
        have h1 : ¬ 1 < z := by omega
        have h0 : (0 : Int) < k := by omega
        have hz0 : (z == 0) = false := by simp; omega
        have hz8 : z < 128 := by omega
        clear hw
        go_wp2
        go_quiet (fail)
        go_wp2
        go_quiet (fail)
        go_wp2
        rw [Exit.noGoto_ret]
        go_ret2
        clear W1 W2
        have hs := step_or acc k l[p + k].toNat hacc hk hc256 (by have := HZ.out; have := HW.out; omega)
        refine NumRes.inr (v := acc + l[p + k].toNat * 128 ^ k) (k := k + 1) (by rw [← hg.out, Hd.out]; exact groups_last (by have := HZ.out; have := HW.out; omega) (by have := HZ.out; have := HW.out; omega)) ?_ ?_ ?_
        · exact (hch.out.drewN _).setCell (by simp) _
        · rw [← HZ.out, hs, Nat.mod_eq_of_lt (by have := HZ.out; have := HW.out; omega)]
          rfl
        · have h2 := fun n => (hre.out.drewN n).at_ (p + (k + 1)) (by omega)
          rw [show ((p + (k + 1) : Nat) : Int) = (p : Int) + ((k : Int) + 1) from by omega] at h2
          exact h2 _
      · have HW := Lib.hid hw
        have h9 : ((k : Int) == 9) = false := by simp; omega
        have h0 : (0 : Int) < k := by omega
        have hz0 : (z == 0) = true := by simp; omega
        clear hw
        go_wp2
        go_quiet (fail)
        go_wp2
        go_quiet (fail)
        go_wp2
        rw [Exit.noGoto_ret]
        go_ret2
        clear W1 W2
        exact NumRes.inl (by rw [← hg.out, Hd.out]; exact groups_bad (by have := HZ.out; have := HW.out; omega)) (hch.out.drewN _) rfl (hre.out.drewN _)
      · have HW := Lib.hid hw
        have h9 : ((k : Int) == 9) = false := by simp; omega
        have h0 : (0 : Int) < k := by omega
        have hz0 : (z == 0) = false := by simp; omega
        have hz8 : z < 128 := by omega
        clear hw
        go_wp2
        go_quiet (fail)
        go_wp2
        go_quiet (fail)
        go_wp2
        rw [Exit.noGoto_ret]
        go_ret2
        clear W1 W2
        have hs := step_or acc k l[p + k].toNat hacc hk hc256 (by have := HZ.out; have := HW.out; omega)
        refine NumRes.inr (v := acc + l[p + k].toNat * 128 ^ k) (k := k + 1) (by rw [← hg.out, Hd.out]; exact groups_last (by have := HZ.out; have := HW.out; omega) (by have := HZ.out; have := HW.out; omega)) ?_ ?_ ?_
        · exact (hch.out.drewN _).setCell (by simp) _
        · rw [← HZ.out, hs, Nat.mod_eq_of_lt (by have := HZ.out; have := HW.out; omega)]
          rfl
        · have h2 := fun n => (hre.out.drewN n).at_ (p + (k + 1)) (by omega)
          rw [show ((p + (k + 1) : Nat) : Int) = (p : Int) + ((k : Int) + 1) from by omega] at h2
          exact h2 _
      · have HW := Lib.hid hw
        have h9 : ((k : Int) == 9) = false := by simp; omega
        have h0 : (0 : Int) < k := by omega
        have hz0 : (z == 0) = false := by simp; omega
        have hz8 : ¬ z < 128 := by omega
        clear hw
        go_wp2
        go_quiet (fail)
        go_wp2
        go_quiet (fail)
        go_wp2
        clear W1 W2
        have hs := step_or acc k l[p + k].toNat hacc hk hc256 (by have := HZ.out; have := HW.out; omega)
        go_roundg (9 - k)
        case measure => have := Hm.out; omega
        case rel =>
          have hw := HW.out
          have hm := Hm.out
          refine ⟨k + 1, acc + l[p + k].toNat % 128 * 128 ^ k, by omega, by omega, ?_, by go_num, ?_, ?_, Lib.hid (hch.out.drewN _), Lib.hid (hre.out.drewN _)⟩
          · rw [← HZ.out, hs]
          · exact acc_lt' hacc (Nat.mod_lt _ (by omega))
          · refine Lib.hid ?_
            rw [← hg.out, Hd.out]
            exact (groups_more (by have := HZ.out; have := HW.out; omega) (by have := HZ.out; have := HW.out; omega) (by have := HZ.out; have := HW.out; omega)).symm
      · have HW := Lib.hid hw
        have h9 : ((k : Int) == 9) = false := by simp; omega
        have h0 : ¬ (0 : Int) < k := by omega
        have hz8 : z < 128 := by omega
        clear hw
        go_wp2
        go_quiet (fail)
        go_wp2
        go_quiet (fail)
        go_wp2
        rw [Exit.noGoto_ret]
        go_ret2
        clear W1 W2
        have hs := step_or acc k l[p + k].toNat hacc hk hc256 (by have := HZ.out; have := HW.out; omega)
        refine NumRes.inr (v := acc + l[p + k].toNat * 128 ^ k) (k := k + 1) (by rw [← hg.out, Hd.out]; exact groups_last (by have := HZ.out; have := HW.out; omega) (by have := HZ.out; have := HW.out; omega)) ?_ ?_ ?_
        · exact (hch.out.drewN _).setCell (by simp) _
        · rw [← HZ.out, hs, Nat.mod_eq_of_lt (by have := HZ.out; have := HW.out; omega)]
          rfl
        · have h2 := fun n => (hre.out.drewN n).at_ (p + (k + 1)) (by omega)
          rw [show ((p + (k + 1) : Nat) : Int) = (p : Int) + ((k : Int) + 1) from by omega] at h2
          exact h2 _
      · have HW := Lib.hid hw
        have h9 : ((k : Int) == 9) = false := by simp; omega
        have h0 : ¬ (0 : Int) < k := by omega
        have hz8 : ¬ z < 128 := by omega
        clear hw
        go_wp2
        go_quiet (fail)
        go_wp2
        go_quiet (fail)
        go_wp2
        clear W1 W2
        have hs := step_or acc k l[p + k].toNat hacc hk hc256 (by have := HZ.out; have := HW.out; omega)
        go_roundg (9 - k)
        case measure => have := Hm.out; omega
        case rel =>
          have hw := HW.out
          have hm := Hm.out
          refine ⟨k + 1, acc + l[p + k].toNat % 128 * 128 ^ k, by omega, by omega, ?_, by go_num, ?_, ?_, Lib.hid (hch.out.drewN _), Lib.hid (hre.out.drewN _)⟩
          · rw [← HZ.out, hs]
          · exact acc_lt' hacc (Nat.mod_lt _ (by omega))
          · refine Lib.hid ?_
            rw [← hg.out, Hd.out]
            exact (groups_more (by have := HZ.out; have := HW.out; omega) (by have := HZ.out; have := HW.out; omega) (by have := HZ.out; have := HW.out; omega)).symm
end Go.Proofs.Ytocgcalaiejbiaa

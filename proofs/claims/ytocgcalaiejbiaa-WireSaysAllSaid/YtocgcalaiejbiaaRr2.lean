/-
  The reference's reader: Var. Condition: it was made by New (Rr).
-/
import Derived.Test.YtocgcalaiejbiaaRr1
namespace Go.Proofs.Ytocgcalaiejbiaa
set_option linter.unusedSimpArgs false
set_option linter.unusedVariables false
open Go.RowKit
set_option maxRecDepth 100000

theorem ref_step (acc k c tk : Nat) (ht : tk = 128 ^ k) (hacc : acc < 128 ^ k) (hk : k ≤ 9) (hc : c < 256) (h9 : k = 9 → c ≤ 1) :
    IntKind.u64.wrap ((acc : Int) + IntKind.u64.wrap (((c : Int) % 128) * (tk : Int))) = ((acc + c % 128 * 128 ^ k : Nat) : Int) := by
  have hl := acc_lt (c := c % 128) hacc hk (Nat.mod_lt _ (by omega)) (fun h => by have := h9 h; omega)
  subst ht
  have e2 : ((c : Int) % 128) * ((128 ^ k : Nat) : Int) = ((c % 128 * 128 ^ k : Nat) : Int) := by
    rw [Int.natCast_mul]; congr 1
  rw [e2]
  have e3 : IntKind.u64.wrap ((c % 128 * 128 ^ k : Nat) : Int) = ((c % 128 * 128 ^ k : Nat) : Int) := by rw [IntKind.wrap_u64]; omega
  rw [e3, IntKind.wrap_u64]
  omega
theorem ref_times (k tk : Nat) (ht : tk = 128 ^ k) (hk : k ≤ 8) : IntKind.u64.wrap ((tk : Int) * 128) = ((128 ^ (k + 1) : Nat) : Int) := by
  have h2 : 128 ^ k ≤ 128 ^ 8 := Nat.pow_le_pow_right (by omega) hk
  have e : (128 : Nat) ^ 8 = 72057594037927936 := by decide
  rw [IntKind.wrap_u64, Nat.pow_succ]
  omega

set_option maxHeartbeats 16000000 in
theorem rrVar_any (w : World) (g : Nat) (A : Option Addr) (c : Nat) (l : List UInt8) (p : Nat) (e : Int) (h : Rr w g A c l p e) :
    Calls Try.prog 90 #[.pointer (some ⟨g, 0, none⟩)] w (RrRes g A c l (readVar l p e) toU64 w) := by
  have hle := h.le
  have hcap := h.cap
  have hroom := h.room
  have hreach := h.reach
  unfold reach47 at hreach
  have H := Lib.hid h
  have c2 : w.cell? ⟨g, 2, none⟩ = some (.int .i64 e) := h.bk.cell 2
  clear h
  by_cases he : e = 0
  · subst he
    obtain ⟨K, hK⟩ : ∃ K, readVar l p 0 = K := ⟨_, rfl⟩
    have hK2 : coreVar l p = K := by rw [← hK]; exact (after_zero _ _ _).symm
    have hgr : (∀ x, groups (l.drop p) 0 0 = .inl x → K = ⟨0, p, x⟩) ∧ (∀ v k, groups (l.drop p) 0 0 = .inr (v, k) → K = ⟨v, p + k, 0⟩) := by
      constructor
      · intro x hx; rw [← hK2]; unfold coreVar; rw [hx]
      · intro v k hx; rw [← hK2]; unfold coreVar; rw [hx]
    rw [hK]
    have HG := Lib.hid hgr
    clear hK hK2 hgr
    go_enter Try.func90, Try.ntmps90
    go_wp2
    clear c2
    go_loopg [3, 4, 5] 10 (fun m v t i wr => ∃ (k acc tk : Nat), m + k = 10 ∧ k ≤ 9 ∧ v = .int .u64 acc ∧ t = .int .u64 tk ∧ i = .int .i64 k ∧ Hid (tk = 128 ^ k) ∧ acc < 128 ^ k ∧ Hid (groups (l.drop (p + k)) k acc = groups (l.drop p) 0 0) ∧ Hid (Ch [g] w wr) ∧ Hid (Rr wr g A c l p 0))
    case atStart => exact ⟨0, 0, 1, rfl, by omega, rfl, rfl, rfl, Lib.hid rfl, by decide, Lib.hid rfl, Lib.hid (Ch.refl _ _), H⟩
    case round =>
      obtain ⟨k, acc, tk, hm, hk, rfl, rfl, rfl, htk, hacc, hg, hch, hre⟩ := hrel
      have Hm := Lib.hid hm; clear hm
      have c0 : wr.cell? ⟨g, 0, none⟩ = some (.slice A l.length c) := hre.out.bk.cell 0
      have c1 : wr.cell? ⟨g, 1, none⟩ = some (.int .i64 p) := hre.out.bk.cell 1
      have c2 : wr.cell? ⟨g, 2, none⟩ = some (.int .i64 0) := hre.out.bk.cell 2
      have f1 := hre.out.bk.frozen 1
      have f2 := hre.out.bk.frozen 2
      have W1 : IntKind.i64.wrap ((p : Int) + k) = (p : Int) + k := by rw [IntKind.wrap_i64]; omega
      have W2 : IntKind.i64.wrap ((k : Int) + 1) = (k : Int) + 1 := by rw [IntKind.wrap_i64]; omega
      by_cases hlt : l.length ≤ p + k
      · have hgn : groups (l.drop (p + k)) k acc = .inl 10 := by rw [List.drop_of_length_le hlt]; rfl
        have Hgn := Lib.hid hgn; clear hgn
        have hlt' : (l.length : Int) ≤ (p : Int) + k := by omega
        go_wp2
        go_quiet (fail)
        go_wp2
        go_ret
        have e := HG.out.1 10 (by rw [← hg.out, Hgn.out])
        subst e
        exact ⟨rfl, (hch.out.drewN _).setCell (by simp) _, (hre.out.drewN _).err_ 10⟩
      · have hpk : p + k < l.length := by omega
        have hd : l.drop (p + k) = l[p + k] :: l.drop (p + k + 1) := List.drop_eq_getElem_cons hpk
        obtain ⟨ad, hA, hcell⟩ := hre.out.rd (p + k) (.int .u8 l[p + k].toNat) (by simp [bv, hpk])
        subst hA
        have hc256 : l[p + k].toNat < 256 := UInt8.toNat_lt _
        have Hd := Lib.hid hd; clear hd
        have hlt' : ¬ ((l.length : Int) ≤ (p : Int) + k) := by omega
        have b0 : (0 : Int) ≤ (p : Int) + k := by omega
        have b1 : (p : Int) + k < l.length := by omega
        obtain ⟨z, hz⟩ : ∃ z : Int, (l[p + k].toNat : Int) = z := ⟨_, rfl⟩
        rw [hz] at hcell
        have z0 : 0 ≤ z := by omega
        have z1 : z < 256 := by omega
        have W3 : IntKind.i64.wrap ((p : Int) + k + 1) = (p : Int) + k + 1 := by rw [IntKind.wrap_i64]; omega
        have HZ := Lib.hid hz
        clear hz
        obtain hw | hw | hw | hw | hw | hw | hw | hw : (k = 9 ∧ 1 < z) ∨ (k = 9 ∧ z = 0) ∨ (k = 9 ∧ z = 1) ∨ (k ≠ 9 ∧ 0 < k ∧ z = 0) ∨ (k ≠ 9 ∧ 0 < k ∧ 0 < z ∧ z < 128) ∨ (k ≠ 9 ∧ 0 < k ∧ 128 ≤ z) ∨ (k = 0 ∧ z < 128) ∨ (k = 0 ∧ 128 ≤ z) := by omega
        · have HW := Lib.hid hw
          have h9 : ((k : Int) == 9) = true := by simp; omega
          have h1 : 1 < z := by omega
          clear hw
          go_wp2
          go_quiet (fail)
          go_wp2
          go_quiet (fail)
          go_wp2
          go_ret
          clear W1 W2 W3
          have e := HG.out.1 11 (by rw [← hg.out, Hd.out]; exact groups_bad (by have := HZ.out; have := HW.out; omega))
          subst e
          exact ⟨rfl, (hch.out.drewN _).setCell (by simp) _, (hre.out.drewN _).err_ 11⟩
        · have HW := Lib.hid hw
          have h9 : ((k : Int) == 9) = true := by simp; omega
          have h1 : ¬ 1 < z := by omega
          have h0 : (0 : Int) < k := by omega
          have hz0 : (z == 0) = true := by simp; omega
          clear hw
          go_wp2
          go_quiet (fail)
          go_wp2
          go_quiet (fail)
          go_wp2
          go_ret
          clear W1 W2 W3
          have e := HG.out.1 11 (by rw [← hg.out, Hd.out]; exact groups_bad (by have := HZ.out; have := HW.out; omega))
          subst e
          exact ⟨rfl, (hch.out.drewN _).setCell (by simp) _, (hre.out.drewN _).err_ 11⟩
        · have HW := Lib.hid hw
          have h9 : ((k : Int) == 9) = true := by simp; omega
          have h1 : ¬ 1 < z := by omega
          have h0 : (0 : Int) < k := by omega
          have hz0 : (z == 0) = false := by simp; omega
          have hz8 : z < 128 := by omega
          clear hw
          go_wp2
          go_quiet (fail)
          go_wp2
          go_quiet (fail)
          go_wp2
          go_ret
          clear W1 W2 W3
          have e := HG.out.2 (acc + l[p + k].toNat * 128 ^ k) (k + 1) (by rw [← hg.out, Hd.out]; exact groups_last (by have := HZ.out; have := HW.out; omega) (by have := HZ.out; have := HW.out; omega))
          have hs := ref_step acc k l[p + k].toNat tk htk.out hacc hk hc256 (by have := HZ.out; have := HW.out; omega)
          rw [Nat.mod_eq_of_lt (by have := HZ.out; have := HW.out; omega), HZ.out] at hs
          subst e
          refine ⟨?_, (hch.out.drewN _).setCell (by simp) _, ?_⟩
          · show _ = Ending.returned (.int .u64 ((acc + l[p + k].toNat * 128 ^ k : Nat) : Int))
            rw [← hs]
            rfl
          · have h2 := fun n => (hre.out.drewN n).at_ (p + (k + 1)) (by omega)
            rw [show ((p + (k + 1) : Nat) : Int) = (p : Int) + k + 1 from by omega] at h2
            exact h2 _
        · have HW := Lib.hid hw
          have h9 : ((k : Int) == 9) = false := by simp; omega
          have h0 : (0 : Int) < k := by omega
          have hz0 : (z == 0) = true := by simp; omega
          clear hw
          go_wp2
          go_quiet (fail)
          go_wp2
          go_quiet (fail)
          go_wp2
          go_ret
          clear W1 W2 W3
          have e := HG.out.1 11 (by rw [← hg.out, Hd.out]; exact groups_bad (by have := HZ.out; have := HW.out; omega))
          subst e
          exact ⟨rfl, (hch.out.drewN _).setCell (by simp) _, (hre.out.drewN _).err_ 11⟩
        · have HW := Lib.hid hw
          have h9 : ((k : Int) == 9) = false := by simp; omega
          have h0 : (0 : Int) < k := by omega
          have hz0 : (z == 0) = false := by simp; omega
          have hz8 : z < 128 := by omega
          clear hw
          go_wp2
          go_quiet (fail)
          go_wp2
          go_quiet (fail)
          go_wp2
          go_ret
          clear W1 W2 W3
          have e := HG.out.2 (acc + l[p + k].toNat * 128 ^ k) (k + 1) (by rw [← hg.out, Hd.out]; exact groups_last (by have := HZ.out; have := HW.out; omega) (by have := HZ.out; have := HW.out; omega))
          have hs := ref_step acc k l[p + k].toNat tk htk.out hacc hk hc256 (by have := HZ.out; have := HW.out; omega)
          rw [Nat.mod_eq_of_lt (by have := HZ.out; have := HW.out; omega), HZ.out] at hs
          subst e
          refine ⟨?_, (hch.out.drewN _).setCell (by simp) _, ?_⟩
          · show _ = Ending.returned (.int .u64 ((acc + l[p + k].toNat * 128 ^ k : Nat) : Int))
            rw [← hs]
            rfl
          · have h2 := fun n => (hre.out.drewN n).at_ (p + (k + 1)) (by omega)
            rw [show ((p + (k + 1) : Nat) : Int) = (p : Int) + k + 1 from by omega] at h2
            exact h2 _
        · have HW := Lib.hid hw
          have h9 : ((k : Int) == 9) = false := by simp; omega
          have h0 : (0 : Int) < k := by omega
          have hz0 : (z == 0) = false := by simp; omega
          have hz8 : ¬ z < 128 := by omega
          clear hw
          go_wp2
          go_quiet (fail)
          go_wp2
          go_quiet (fail)
          go_wp2
          clear W1 W2 W3
          have hs := ref_step acc k l[p + k].toNat tk htk.out hacc hk hc256 (by have := HZ.out; have := HW.out; omega)
          have ht := ref_times k tk htk.out (by have := HW.out; omega)
          rw [HZ.out] at hs
          go_roundg (9 - k)
          case measure => have := Hm.out; omega
          case rel =>
            have hw := HW.out
            have hm := Hm.out
            refine ⟨k + 1, acc + l[p + k].toNat % 128 * 128 ^ k, 128 ^ (k + 1), by omega, by omega, ?_, ?_, by go_num, Lib.hid rfl, ?_, ?_, Lib.hid (hch.out.drewN _), Lib.hid (hre.out.drewN _)⟩
            · rw [← hs]
            · rw [← ht]
            · exact acc_lt' hacc (Nat.mod_lt _ (by omega))
            · refine Lib.hid ?_
              rw [← hg.out, Hd.out]
              exact (groups_more (by have := HZ.out; omega) (by have := HZ.out; omega) (by have := HZ.out; omega)).symm
        · have HW := Lib.hid hw
          have h9 : ((k : Int) == 9) = false := by simp; omega
          have h0 : ¬ (0 : Int) < k := by omega
          have hz8 : z < 128 := by omega
          clear hw
          go_wp2
          go_quiet (fail)
          go_wp2
          go_quiet (fail)
          go_wp2
          go_ret
          clear W1 W2 W3
          have e := HG.out.2 (acc + l[p + k].toNat * 128 ^ k) (k + 1) (by rw [← hg.out, Hd.out]; exact groups_last (by have := HZ.out; have := HW.out; omega) (by have := HZ.out; have := HW.out; omega))
          have hs := ref_step acc k l[p + k].toNat tk htk.out hacc hk hc256 (by have := HZ.out; have := HW.out; omega)
          rw [Nat.mod_eq_of_lt (by have := HZ.out; have := HW.out; omega), HZ.out] at hs
          subst e
          refine ⟨?_, (hch.out.drewN _).setCell (by simp) _, ?_⟩
          · show _ = Ending.returned (.int .u64 ((acc + l[p + k].toNat * 128 ^ k : Nat) : Int))
            rw [← hs]
            rfl
          · have h2 := fun n => (hre.out.drewN n).at_ (p + (k + 1)) (by omega)
            rw [show ((p + (k + 1) : Nat) : Int) = (p : Int) + k + 1 from by omega] at h2
            exact h2 _
        · have HW := Lib.hid hw
          have h9 : ((k : Int) == 9) = false := by simp; omega
          have h0 : ¬ (0 : Int) < k := by omega
          have hz8 : ¬ z < 128 := by omega
          clear hw
          go_wp2
          go_quiet (fail)
          go_wp2
          go_quiet (fail)
          go_wp2
          clear W1 W2 W3
          have hs := ref_step acc k l[p + k].toNat tk htk.out hacc hk hc256 (by have := HZ.out; have := HW.out; omega)
          have ht := ref_times k tk htk.out (by have := HW.out; omega)
          rw [HZ.out] at hs
          go_roundg (9 - k)
          case measure => have := Hm.out; omega
          case rel =>
            have hw := HW.out
            have hm := Hm.out
            refine ⟨k + 1, acc + l[p + k].toNat % 128 * 128 ^ k, 128 ^ (k + 1), by omega, by omega, ?_, ?_, by go_num, Lib.hid rfl, ?_, ?_, Lib.hid (hch.out.drewN _), Lib.hid (hre.out.drewN _)⟩
            · rw [← hs]
            · rw [← ht]
            · exact acc_lt' hacc (Nat.mod_lt _ (by omega))
            · refine Lib.hid ?_
              rw [← hg.out, Hd.out]
              exact (groups_more (by have := HZ.out; omega) (by have := HZ.out; omega) (by have := HZ.out; omega)).symm
  · have hk : readVar l p e = ⟨0, p, e⟩ := after_ne _ _ _ he
    have HK := Lib.hid hk
    have h1 : (e != 0) = true := by simp [he]
    have h2 : (e == 0) = false := by simp [he]
    clear hk he
    go_enter Try.func90, Try.ntmps90
    go_wp2
    go_ret
    rw [HK.out]
    exact ⟨rfl, Ch.refl _ _, H.out⟩
end Go.Proofs.Ytocgcalaiejbiaa

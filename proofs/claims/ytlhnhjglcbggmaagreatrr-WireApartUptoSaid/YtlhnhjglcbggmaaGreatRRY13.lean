/-
  Reader.read round a closure; Reader.Byte, Err, Left, End. Condition: the Reader was made by NewReader (Re).
  Reader.number: a number in groups of seven bits, in the one form. Condition: the Reader was made by NewReader (Re), and no error is set.
  The Reader's calls: Byte, Var, Raw, Text. Condition: the Reader was made by NewReader (Re).
-/
import Derived.Test.YtlhnhjglcbggmaaGreatRRY12
import Derived.WalkMore
import Derived.Deep.LoopGhost
namespace Go.Proofs.YtlhnhjglcbggmaaGreatRR
set_option linter.unusedSimpArgs false
set_option linter.unusedVariables false
open Go.RowKit
set_option maxRecDepth 100000

/-- what a read leaves: the value in its variable, the place, the error -/
structure ReadRes (w : World) (g : Nat) (A : Option Addr) (c : Nat) (l : List UInt8) (bv : Nat) (T : TypeId) (v : Value) (q : Nat) (x : Int) (en : Ending) (w' : World) : Prop where
 en : en = .returned (.tuple #[])
 ch : Ch [g, bv] w w'
 bk : Bk w' bv #[v] T
 re : Re w' g A c l q x

set_option maxHeartbeats 1000000 in
theorem read_no (w : World) (g : Nat) (A : Option Addr) (c : Nat) (l : List UInt8) (p : Nat) (e : Int) (F : Value) (bv : Nat) (T : TypeId) (v : Value) (h : Re w g A c l p e) (hb : Bk w bv #[v] T) (he : e ≠ 0) :
  Calls Tryz.prog 187 #[.pointer (some ⟨g, 0, none⟩), F] w (ReadRes w g A c l bv T v p e) := by
 have c0 : w.cell? ⟨g, 0, none⟩ = some (.bool true) := h.bk.cell 0
 have c3 : w.cell? ⟨g, 3, none⟩ = some (.int .i64 e) := h.bk.cell 3
 have h1 : (e != 0) = true := by simp [he]
 have h2 : (e == 0) = false := by simp [he]
 have H := Lib.hid h
 clear he h
 go_enter Tryz.func187, Tryz.ntmps187
 go_wp2
 go_end0
 exact ⟨rfl, Ch.refl _ _, hb, H.out⟩

theorem run_callFunc_enter {P : Program} {f : FuncId} {fn : Func} (hf : P.funcs[f]? = some fn) (hn : (fn.name == "runtime.NumGoroutine") = false) (hb : fn.body.isNone = false) (args : Array Value) (w : World) :
  (callFunc f args).run P w = .ok (.enter f args) w := by
 have h1 : ¬ fn.name = "runtime.NumGoroutine" := by simpa using hn
 have h2 : ¬ fn.body = none := by intro h; rw [h] at hb; cases hb
 simp [callFunc, hf, h1, h2]

set_option maxHeartbeats 1000000 in
theorem read_ok (w : World) (g : Nat) (A : Option Addr) (c : Nat) (l : List UInt8) (p : Nat) (fn : FuncId) (caps : Array Value) (bv : Nat) (T : TypeId) (v : Value) (q : Nat) (x : Int) (h : Re w g A c l p 0) (hne : bv ≠ g)
  (hq : x ≠ 0 → q = p) (hcf : ∀ w : World, (callFunc fn caps).run Tryz.prog w = .ok (.enter fn caps) w)
  (hc : Calls Tryz.prog fn caps w fun en w' => en = .returned (.int .i64 x) ∧ Ch [g, bv] w w' ∧ Bk w' bv #[v] T ∧ ∃ q', Re w' g A c l q' 0 ∧ (x = 0 → q' = q)) :
  Calls Tryz.prog 187 #[.pointer (some ⟨g, 0, none⟩), .func (.func fn) #[] caps] w (ReadRes w g A c l bv T v q x) := by
 have c0 : w.cell? ⟨g, 0, none⟩ = some (.bool true) := h.bk.cell 0
 have c2 : w.cell? ⟨g, 2, none⟩ = some (.int .i64 p) := h.bk.cell 2
 have c3 : w.cell? ⟨g, 3, none⟩ = some (.int .i64 0) := h.bk.cell 3
 have H := Lib.hid h
 have HC := Lib.hid hc
 have HQ := Lib.hid hq
 clear h hc hq
 go_enter Tryz.func187, Tryz.ntmps187
 go_wp2_with fail
 refine HC.out.mono ?_
 rintro en w1 ⟨rfl, ch1, b1, q', r1, e1⟩
 have d2 : w1.cell? ⟨g, 2, none⟩ = some (.int .i64 q') := r1.bk.cell 2
 have d3 : w1.cell? ⟨g, 3, none⟩ = some (.int .i64 0) := r1.bk.cell 3
 have f2 := r1.bk.frozen 2
 have f3 := r1.bk.frozen 3
 have HR := Lib.hid r1
 have HE := Lib.hid e1
 clear r1 e1 c0 c2 c3
 by_cases hx : x = 0
 ·have he := HE.out hx
  subst hx
  have HE2 := Lib.hid he
  clear he HE
  go_wp2
  go_end0
  refine ⟨rfl, ch1, b1, ?_⟩
  have := HR.out
  rwa [HE2.out] at this
 ·have h1 : (x != 0) = true := by simp [hx]
  have h2 : (x == 0) = false := by simp [hx]
  have HX := Lib.hid hx
  clear hx
  go_wp2
  go_end0
  have r2 := HR.out.at_ p H.out.le
  have r3 := r2.err_ x
  refine ⟨rfl, (ch1.setCell (by simp) _).setCell (by simp) _, (b1.far (by simpa using hne) _).far (by simpa using hne) _, ?_⟩
  rw [HQ.out HX.out]
  exact r3

/-- one byte -/
def coreByte (l : List UInt8) (p : Nat) : Got Int := match l[p]? with
 | none => ⟨0, p, 10⟩
 | some b => ⟨(b.toNat : Int), p + 1, 0⟩
def after {α : Type} (z : α) (p : Nat) (e : Int) (k : Got α) : Got α := if e = 0 then k else ⟨z, p, e⟩

set_option maxHeartbeats 1000000 in
theorem byteC (w : World) (g : Nat) (A : Option Addr) (c : Nat) (l : List UInt8) (p : Nat) (br bv : Nat) (h : Re w g A c l p 0) (hr : Bk w br #[.pointer (some ⟨g, 0, none⟩)] 156) (hv : Bk w bv #[.int .u8 0] 5) (hne : bv ≠ g) (hAb : ∀ a, A = some a → a.block ≠ bv) :
  Calls Tryz.prog 188 #[.pointer (some ⟨br, 0, none⟩), .pointer (some ⟨bv, 0, none⟩)] w fun en w' => en = .returned (.int .i64 (coreByte l p).err) ∧ Ch [g, bv] w w' ∧ Bk w' bv #[.int .u8 (coreByte l p).val] 5 ∧ ∃ q', Re w' g A c l q' 0 ∧ ((coreByte l p).err = 0 → q' = (coreByte l p).at') := by
 have c0 : w.cell? ⟨br, 0, none⟩ = some (.pointer (some ⟨g, 0, none⟩)) := hr.cell 0
 go_enter Tryz.func188, Tryz.ntmps188
 go_wp2_with fail
 refine (take_any w g A c l p 0 1 h (by omega)).mono ?_
 rintro en w1 ⟨ch1, ⟨hlt, rfl, r1⟩ | ⟨hlt, A', c', rfl, rd1, r1⟩⟩
 ·have hk : coreByte l p = ⟨0, p, 10⟩ := by unfold coreByte; rw [List.getElem?_eq_none (by have := h.le; omega)]
  have hv1 := hv.ch ch1 (by simpa using hne)
  have HR := Lib.hid r1
  have HK := Lib.hid hk
  clear r1 c0 hlt hk
  go_wp2
  go_ret
  rw [HK.out]
  exact ⟨rfl, ch1.wide (by simp), hv1, p, HR.out, fun h => by cases h⟩
 ·have hp : p < l.length := by have := h.le; omega
  have hk : coreByte l p = ⟨(l[p].toNat : Int), p + 1, 0⟩ := by unfold coreByte; rw [List.getElem?_eq_getElem hp]
  have hd : (l.drop p).take 1 = [l[p]] := by rw [List.drop_eq_getElem_cons hp]; rfl
  rw [hd] at rd1
  obtain ⟨ad, rfl, hcell⟩ := rd1 0 (.int .u8 l[p].toNat) rfl
  have hv1 := hv.ch ch1 (by simpa using hne)
  have cv : w1.cell? ⟨bv, 0, none⟩ = some (.int .u8 0) := hv1.cell 0
  have fv := hv1.frozen 0
  have hcell2 : w1.cell? ad = some (.int .u8 l[p].toNat) := by simpa [Addr.add] using hcell
  have HR := Lib.hid r1
  have HK := Lib.hid hk
  have HC := Lib.hid ch1
  generalize hz : (l[p].toNat : Int) = z at hcell hcell2
  have HZ := Lib.hid hz
  clear hz ch1
  -- (l[p].toNat : Int) = z at hcell hcell2
  clear r1 c0 hlt hk rd1 hd
  go_wp2
  go_ret
  rw [HK.out, HZ.out]
  refine ⟨rfl, ?_, hv1.set_ 0 _, p + 1, ?_, fun _ => rfl⟩
  ·exact (HC.out.wide (by simp)).setCell (by simp) _
  ·exact HR.out.ch ((Ch.refl [bv] _).setCell (by simp) _) (by simpa using fun h => hne h.symm) (fun a ha => by simpa using hAb a ha)
end Go.Proofs.YtlhnhjglcbggmaaGreatRR
namespace Go.Proofs.YtlhnhjglcbggmaaGreatRR
set_option linter.unusedSimpArgs false
set_option linter.unusedVariables false
open Go.RowKit
set_option maxRecDepth 100000

def NumRes (g : Nat) (A : Option Addr) (c : Nat) (l : List UInt8) (p : Nat) (w : World) (en : Ending) (w' : World) : Prop :=
 Ch [g] w w' ∧ match groups (l.drop p) 0 0 with
  | .inl x => en = .returned (.tuple #[.int .u64 0, .int .i64 x]) ∧ Re w' g A c l p 0
  | .inr (v, k) => en = .returned (.tuple #[.int .u64 v, .int .i64 0]) ∧ Re w' g A c l (p + k) 0
theorem NumRes.inl {g : Nat} {A : Option Addr} {c : Nat} {l : List UInt8} {p : Nat} {w : World} {en : Ending} {w' : World} {x : Int} (h : groups (l.drop p) 0 0 = .inl x) (h1 : Ch [g] w w') (h2 : en = .returned (.tuple #[.int .u64 0, .int .i64 x])) (h3 : Re w' g A c l p 0) : NumRes g A c l p w en w' := by
 unfold NumRes; rw [h]; exact ⟨h1, h2, h3⟩
theorem NumRes.inr {g : Nat} {A : Option Addr} {c : Nat} {l : List UInt8} {p : Nat} {w : World} {en : Ending} {w' : World} {v k : Nat} (h : groups (l.drop p) 0 0 = .inr (v, k)) (h1 : Ch [g] w w') (h2 : en = .returned (.tuple #[.int .u64 v, .int .i64 0])) (h3 : Re w' g A c l (p + k) 0) : NumRes g A c l p w en w' := by
 unfold NumRes; rw [h]; exact ⟨h1, h2, h3⟩

theorem and127 (c : Nat) (h : c < 256) : bits .and .u8 (c : Int) 127 = ((c % 128 : Nat) : Int) := by
 have hb := (bits_nat .u8 8 (by decide) wraps_u8 c 127 (by omega) (by decide)).1
 refine hb.trans ?_
 have : c &&& 127 = c % 128 := Nat.and_two_pow_sub_one_eq_mod c 7
 rw [this]
theorem wraps64 (n : Int) (h₀ : 0 ≤ n) (h₁ : n < 2 ^ 64) : IntKind.u64.wrap n = n := by rw [IntKind.wrap_u64]; omega
theorem or_add (a x n : Nat) (h : a < 2 ^ n) : a ||| x * 2 ^ n = a + x * 2 ^ n := by
 rw [Nat.or_comm, ← Nat.shiftLeft_eq, ← Nat.shiftLeft_add_eq_or_of_lt h, Nat.shiftLeft_eq, Nat.add_comm]
theorem pow128 (k : Nat) : 128 ^ k = 2 ^ (7 * k) := by rw [Nat.pow_mul]
theorem acc_lt {acc k c : Nat} (hacc : acc < 128 ^ k) (hk : k ≤ 9) (hc : c < 128) (h9 : k = 9 → c ≤ 1) : acc + c * 128 ^ k < 18446744073709551616 := by
 have h1 : c * 128 ^ k ≤ 127 * 128 ^ k := Nat.mul_le_mul_right _ (by omega)
 by_cases h : k = 9
 ·subst h
  have := h9 rfl
  have : c * 128 ^ 9 ≤ 1 * 128 ^ 9 := Nat.mul_le_mul_right _ this
  have e : (128 : Nat) ^ 9 = 9223372036854775808 := by decide
  omega
 ·have h2 : 128 ^ k ≤ 128 ^ 8 := Nat.pow_le_pow_right (by omega) (by omega)
  have e : (128 : Nat) ^ 8 = 72057594037927936 := by decide
  omega
theorem acc_lt' {acc k c : Nat} (hacc : acc < 128 ^ k) (hc : c < 128) : acc + c * 128 ^ k < 128 ^ (k + 1) := by
 have : c * 128 ^ k ≤ 127 * 128 ^ k := Nat.mul_le_mul_right _ (by omega)
 rw [Nat.pow_succ]; omega
theorem step_or (acc k c : Nat) (hacc : acc < 128 ^ k) (hk : k ≤ 9) (hc : c < 256) (h9 : k = 9 → c ≤ 1) :
  bits .or .u64 (acc : Int) (IntKind.u64.wrap (IntKind.u64.wrap (bits .and .u8 (c : Int) 127) * 2 ^ (7 * k))) = ((acc + c % 128 * 128 ^ k : Nat) : Int) := by
 rw [and127 c hc]
 have e0 : IntKind.u64.wrap ((c % 128 : Nat) : Int) = ((c % 128 : Nat) : Int) := by rw [IntKind.wrap_u64]; omega
 rw [e0]
 have e2 : (((c % 128 : Nat) : Int) * 2 ^ (7 * k)) = ((c % 128 * 128 ^ k : Nat) : Int) := by rw [pow128]; simp
 rw [e2]
 have hl := acc_lt (c := c % 128) hacc hk (Nat.mod_lt _ (by omega)) (fun h => by have := h9 h; omega)
 have e3 : IntKind.u64.wrap ((c % 128 * 128 ^ k : Nat) : Int) = ((c % 128 * 128 ^ k : Nat) : Int) := by rw [IntKind.wrap_u64]; omega
 rw [e3]
 have hb := (bits_nat .u64 64 (by decide) wraps64 acc (c % 128 * 128 ^ k) (by omega) (by omega)).2
 refine hb.trans ?_
 rw [pow128, or_add _ _ _ (by rw [← pow128]; exact hacc)]
theorem groups_bad {b : UInt8} {rest : List UInt8} {k acc : Nat} (h : (k = 9 ∧ 1 < b.toNat) ∨ (0 < k ∧ b.toNat = 0)) : groups (b :: rest) k acc = .inl 11 := by
 unfold groups; rw [if_pos h]
theorem groups_last {b : UInt8} {rest : List UInt8} {k acc : Nat} (h : ¬ ((k = 9 ∧ 1 < b.toNat) ∨ (0 < k ∧ b.toNat = 0))) (h2 : b.toNat < 128) : groups (b :: rest) k acc = .inr (acc + b.toNat * 128 ^ k, k + 1) := by
 unfold groups; rw [if_neg h, if_pos h2]
theorem groups_more {b : UInt8} {rest : List UInt8} {k acc : Nat} (h : ¬ ((k = 9 ∧ 1 < b.toNat) ∨ (0 < k ∧ b.toNat = 0))) (h2 : 128 ≤ b.toNat) (h3 : b.toNat < 256) : groups (b :: rest) k acc = groups rest (k + 1) (acc + b.toNat % 128 * 128 ^ k) := by
 conv => lhs; unfold groups
 rw [if_neg h, if_neg (by omega), show b.toNat % 128 = b.toNat - 128 by omega]
set_option maxHeartbeats 8000000 in
theorem number_any (w : World) (g : Nat) (A : Option Addr) (c : Nat) (l : List UInt8) (p : Nat) (h : Re w g A c l p 0) :
  Calls Tryz.prog 191 #[.pointer (some ⟨g, 0, none⟩)] w (NumRes g A c l p w) := by
 have hle := h.le
 have hcap := h.cap
 have hroom := h.room
 have hreach := h.reach
 unfold reach47 at hreach
 have H := Lib.hid h
 clear h
 go_enter Tryz.func191, Tryz.ntmps191
 go_wp2
 go_step3
 go_wp2
 go_step3
 go_wp2
 go_loopg [4, 5] 10 (fun m v i wr => ∃ (k acc : Nat), m + k = 10 ∧ k ≤ 9 ∧ v = .int .u64 acc ∧ i = .int .i64 k ∧ acc < 128 ^ k ∧ Hid (groups (l.drop (p + k)) k acc = groups (l.drop p) 0 0) ∧ Hid (Ch [g] w wr) ∧ Hid (Re wr g A c l p 0))
 case atStart => exact ⟨0, 0, rfl, by omega, rfl, rfl, by decide, Lib.hid rfl, Lib.hid (Ch.refl _ _), H⟩
 case round =>
  obtain ⟨k, acc, hm, hk, rfl, rfl, hacc, hg, hch, hre⟩ := hrel
  have Hm := Lib.hid hm; clear hm
  have c1 : wr.cell? ⟨g, 1, none⟩ = some (.slice A l.length c) := hre.out.bk.cell 1
  have c2 : wr.cell? ⟨g, 2, none⟩ = some (.int .i64 p) := hre.out.bk.cell 2
  have f2 := hre.out.bk.frozen 2
  have W1 : IntKind.i64.wrap ((p : Int) + k) = (p : Int) + k := by rw [IntKind.wrap_i64]; omega
  have W2 : IntKind.i64.wrap ((k : Int) + 1) = (k : Int) + 1 := by rw [IntKind.wrap_i64]; omega
  by_cases hlt : l.length ≤ p + k
  ·have hgn : groups (l.drop (p + k)) k acc = .inl 10 := by rw [List.drop_of_length_le hlt]; rfl
   have Hgn := Lib.hid hgn; clear hgn
   have hlt' : (l.length : Int) ≤ (p : Int) + k := by omega
   go_wp2
   go_quiet (fail)
   go_wp2
   rw [Exit.noGoto_ret]
   go_ret2
   exact NumRes.inl (by rw [← hg.out, Hgn.out]) (hch.out.drewN _) rfl (hre.out.drewN _)
  ·have hpk : p + k < l.length := by omega
   have hd : l.drop (p + k) = l[p + k] :: l.drop (p + k + 1) := List.drop_eq_getElem_cons hpk
   obtain ⟨ad, hA, hcell⟩ := hre.out.rd (p + k) (.int .u8 l[p + k].toNat) (by simp [bv, hpk])
   subst hA
   have hc256 : l[p + k].toNat < 256 := UInt8.toNat_lt _
   have Hd := Lib.hid hd; clear hd
   have hlt' : ¬ ((l.length : Int) ≤ (p : Int) + k) := by omega
   have b0 : (0 : Int) ≤ (p : Int) + k := by omega
   have b1 : (p : Int) + k < l.length := by omega
   obtain ⟨z, hz⟩ : ∃ z : Int, (l[p + k].toNat : Int) = z := ⟨_, rfl⟩
   rw [hz] at hcell
   have z0 : 0 ≤ z := by omega
   have z1 : z < 256 := by omega
   have HZ := Lib.hid hz
   clear hz
   --WAYS
   obtain hw | hw | hw | hw | hw | hw | hw | hw : (k = 9 ∧ 1 < z) ∨ (k = 9 ∧ z = 0) ∨ (k = 9 ∧ z = 1) ∨ (k ≠ 9 ∧ 0 < k ∧ z = 0) ∨ (k ≠ 9 ∧ 0 < k ∧ 0 < z ∧ z < 128) ∨ (k ≠ 9 ∧ 0 < k ∧ 128 ≤ z) ∨ (k = 0 ∧ z < 128) ∨ (k = 0 ∧ 128 ≤ z) := by omega
   ·have HW := Lib.hid hw
    have h9 : ((k : Int) == 9) = true := by simp; omega
    have h1 : 1 < z := by omega
    clear hw
    go_wp2
    go_quiet (fail)
    go_wp2
    go_quiet (fail)
    go_wp2
    rw [Exit.noGoto_ret]
    go_ret2
    clear W1 W2
    exact NumRes.inl (by rw [← hg.out, Hd.out]; exact groups_bad (by have := HZ.out; have := HW.out; omega)) (hch.out.drewN _) rfl (hre.out.drewN _)
   ·have HW := Lib.hid hw
    have h9 : ((k : Int) == 9) = true := by simp; omega
    have h1 : ¬ 1 < z := by omega
    have h0 : (0 : Int) < k := by omega
    have hz0 : (z == 0) = true := by simp; omega
    clear hw
    go_wp2
    go_quiet (fail)
    go_wp2
    go_quiet (fail)
    go_wp2
    rw [Exit.noGoto_ret]
    go_ret2
    clear W1 W2
    exact NumRes.inl (by rw [← hg.out, Hd.out]; exact groups_bad (by have := HZ.out; have := HW.out; omega)) (hch.out.drewN _) rfl (hre.out.drewN _)
   ·have HW := Lib.hid hw
    have h9 : ((k : Int) == 9) = true := by simp; omega
    have h1 : ¬ 1 < z := by omega
    have h0 : (0 : Int) < k := by omega
    have hz0 : (z == 0) = false := by simp; omega
    have hz8 : z < 128 := by omega
    clear hw
    go_wp2
    go_quiet (fail)
    go_wp2
    go_quiet (fail)
    go_wp2
    rw [Exit.noGoto_ret]
    go_ret2
    clear W1 W2
    have hs := step_or acc k l[p + k].toNat hacc hk hc256 (by have := HZ.out; have := HW.out; omega)
    refine NumRes.inr (v := acc + l[p + k].toNat * 128 ^ k) (k := k + 1) (by rw [← hg.out, Hd.out]; exact groups_last (by have := HZ.out; have := HW.out; omega) (by have := HZ.out; have := HW.out; omega)) ?_ ?_ ?_
    ·exact (hch.out.drewN _).setCell (by simp) _
    ·rw [← HZ.out, hs, Nat.mod_eq_of_lt (by have := HZ.out; have := HW.out; omega)]
     rfl
    ·have h2 := fun n => (hre.out.drewN n).at_ (p + (k + 1)) (by omega)
     rw [show ((p + (k + 1) : Nat) : Int) = (p : Int) + ((k : Int) + 1) from by omega] at h2
     exact h2 _
   ·have HW := Lib.hid hw
    have h9 : ((k : Int) == 9) = false := by simp; omega
    have h0 : (0 : Int) < k := by omega
    have hz0 : (z == 0) = true := by simp; omega
    clear hw
    go_wp2
    go_quiet (fail)
    go_wp2
    go_quiet (fail)
    go_wp2
    rw [Exit.noGoto_ret]
    go_ret2
    clear W1 W2
    exact NumRes.inl (by rw [← hg.out, Hd.out]; exact groups_bad (by have := HZ.out; have := HW.out; omega)) (hch.out.drewN _) rfl (hre.out.drewN _)
   ·have HW := Lib.hid hw
    have h9 : ((k : Int) == 9) = false := by simp; omega
    have h0 : (0 : Int) < k := by omega
    have hz0 : (z == 0) = false := by simp; omega
    have hz8 : z < 128 := by omega
    clear hw
    go_wp2
    go_quiet (fail)
    go_wp2
    go_quiet (fail)
    go_wp2
    rw [Exit.noGoto_ret]
    go_ret2
    clear W1 W2
    have hs := step_or acc k l[p + k].toNat hacc hk hc256 (by have := HZ.out; have := HW.out; omega)
    refine NumRes.inr (v := acc + l[p + k].toNat * 128 ^ k) (k := k + 1) (by rw [← hg.out, Hd.out]; exact groups_last (by have := HZ.out; have := HW.out; omega) (by have := HZ.out; have := HW.out; omega)) ?_ ?_ ?_
    ·exact (hch.out.drewN _).setCell (by simp) _
    ·rw [← HZ.out, hs, Nat.mod_eq_of_lt (by have := HZ.out; have := HW.out; omega)]
     rfl
    ·have h2 := fun n => (hre.out.drewN n).at_ (p + (k + 1)) (by omega)
     rw [show ((p + (k + 1) : Nat) : Int) = (p : Int) + ((k : Int) + 1) from by omega] at h2
     exact h2 _
   ·have HW := Lib.hid hw
    have h9 : ((k : Int) == 9) = false := by simp; omega
    have h0 : (0 : Int) < k := by omega
    have hz0 : (z == 0) = false := by simp; omega
    have hz8 : ¬ z < 128 := by omega
    clear hw
    go_wp2
    go_quiet (fail)
    go_wp2
    go_quiet (fail)
    go_wp2
    clear W1 W2
    have hs := step_or acc k l[p + k].toNat hacc hk hc256 (by have := HZ.out; have := HW.out; omega)
    go_roundg (9 - k)
    case measure => have := Hm.out; omega
    case rel =>
     have hw := HW.out
     have hm := Hm.out
     refine ⟨k + 1, acc + l[p + k].toNat % 128 * 128 ^ k, by omega, by omega, ?_, by go_num, ?_, ?_, Lib.hid (hch.out.drewN _), Lib.hid (hre.out.drewN _)⟩
     ·rw [← HZ.out, hs]
     ·exact acc_lt' hacc (Nat.mod_lt _ (by omega))
     ·refine Lib.hid ?_
      rw [← hg.out, Hd.out]
      exact (groups_more (by have := HZ.out; have := HW.out; omega) (by have := HZ.out; have := HW.out; omega) (by have := HZ.out; have := HW.out; omega)).symm
   ·have HW := Lib.hid hw
    have h9 : ((k : Int) == 9) = false := by simp; omega
    have h0 : ¬ (0 : Int) < k := by omega
    have hz8 : z < 128 := by omega
    clear hw
    go_wp2
    go_quiet (fail)
    go_wp2
    go_quiet (fail)
    go_wp2
    rw [Exit.noGoto_ret]
    go_ret2
    clear W1 W2
    have hs := step_or acc k l[p + k].toNat hacc hk hc256 (by have := HZ.out; have := HW.out; omega)
    refine NumRes.inr (v := acc + l[p + k].toNat * 128 ^ k) (k := k + 1) (by rw [← hg.out, Hd.out]; exact groups_last (by have := HZ.out; have := HW.out; omega) (by have := HZ.out; have := HW.out; omega)) ?_ ?_ ?_
    ·exact (hch.out.drewN _).setCell (by simp) _
    ·rw [← HZ.out, hs, Nat.mod_eq_of_lt (by have := HZ.out; have := HW.out; omega)]
     rfl
    ·have h2 := fun n => (hre.out.drewN n).at_ (p + (k + 1)) (by omega)
     rw [show ((p + (k + 1) : Nat) : Int) = (p : Int) + ((k : Int) + 1) from by omega] at h2
     exact h2 _
   ·have HW := Lib.hid hw
    have h9 : ((k : Int) == 9) = false := by simp; omega
    have h0 : ¬ (0 : Int) < k := by omega
    have hz8 : ¬ z < 128 := by omega
    clear hw
    go_wp2
    go_quiet (fail)
    go_wp2
    go_quiet (fail)
    go_wp2
    clear W1 W2
    have hs := step_or acc k l[p + k].toNat hacc hk hc256 (by have := HZ.out; have := HW.out; omega)
    go_roundg (9 - k)
    case measure => have := Hm.out; omega
    case rel =>
     have hw := HW.out
     have hm := Hm.out
     refine ⟨k + 1, acc + l[p + k].toNat % 128 * 128 ^ k, by omega, by omega, ?_, by go_num, ?_, ?_, Lib.hid (hch.out.drewN _), Lib.hid (hre.out.drewN _)⟩
     ·rw [← HZ.out, hs]
     ·exact acc_lt' hacc (Nat.mod_lt _ (by omega))
     ·refine Lib.hid ?_
      rw [← hg.out, Hd.out]
      exact (groups_more (by have := HZ.out; have := HW.out; omega) (by have := HZ.out; have := HW.out; omega) (by have := HZ.out; have := HW.out; omega)).symm
end Go.Proofs.YtlhnhjglcbggmaaGreatRR
namespace Go.Proofs.YtlhnhjglcbggmaaGreatRR
set_option linter.unusedSimpArgs false
set_option linter.unusedVariables false
open Go.RowKit
set_option maxRecDepth 100000

def RdRes {α : Type} (g : Nat) (A : Option Addr) (c : Nat) (l : List UInt8) (k : Got α) (f : α → Value) (w : World) (en : Ending) (w' : World) : Prop :=
 en = .returned (f k.val) ∧ Ch [g] w w' ∧ Re w' g A c l k.at' k.err
theorem Re.alloc {w : World} {g : Nat} {A : Option Addr} {c : Nat} {l : List UInt8} {p : Nat} {e : Int} (h : Re w g A c l p e) (o : Obj) : Re (w.alloc o) g A c l p e := h.below ((Below.refl _ _).alloc (Nat.le_refl _) o)
theorem after_zero {α : Type} (z : α) (p : Nat) (k : Got α) : after z p 0 k = k := if_pos rfl
theorem after_ne {α : Type} (z : α) (p : Nat) {e : Int} (k : Got α) (h : e ≠ 0) : after z p e k = ⟨z, p, e⟩ := if_neg h
theorem coreByte_at {l : List UInt8} {p : Nat} (h : (coreByte l p).err ≠ 0) : (coreByte l p).at' = p := by
 unfold coreByte at h ⊢
 cases hq : l[p]? with
 | none => rfl
 | some b => rw [hq] at h; exact absurd rfl h
theorem ch_new {w w2 w3 : World} {g : Nat} {ks : List Nat} (h : Below w.heap.size w w2) (hc : Ch (g :: ks) w2 w3) (hk : ∀ k ∈ ks, w.heap.size ≤ k) : Ch [g] w w3 :=
 (Ch.of_below [g] h).trans hc (fun k hm => by
  rcases List.mem_cons.1 hm with rfl | hm
  ·exact .inl (by simp)
  ·exact .inr (hk k hm))
theorem rd_close {w w2 w3 : World} {g bv c q : Nat} {A : Option Addr} {l : List UInt8} {x : Int} {v : Value} {T : TypeId} (hb2 : Below w.heap.size w w2) (ch3 : Ch [g, bv] w2 w3) (b3 : Bk w3 bv #[v] T) (r3 : Re w3 g A c l q x) (hbv : w.heap.size ≤ bv) (hg : g < w.heap.size) (hA : ∀ a, A = some a → a.block < w.heap.size) :
  (w3.setCell ⟨bv, 0, none⟩ v).cell? ⟨bv, 0, none⟩ = some v ∧ Ch [g] w (w3.setCell ⟨bv, 0, none⟩ v) ∧ Re (w3.setCell ⟨bv, 0, none⟩ v) g A c l q x :=
 ⟨by have := (b3.set_ 0 v).cell 0; simpa using this, ch_new (ks := [bv]) hb2 (ch3.setCell (by simp) _) (fun k hk => by simp at hk; omega),
  r3.ch ((Ch.refl [bv] w3).setCell (by simp) _) (by simp; omega) (fun a ha => by have := hA a ha; simp; omega)⟩
set_option maxHeartbeats 1000000 in
theorem Byte_any (w : World) (g : Nat) (A : Option Addr) (c : Nat) (l : List UInt8) (p : Nat) (e : Int) (h : Re w g A c l p e) :
  Calls Tryz.prog 134 #[.pointer (some ⟨g, 0, none⟩)] w (RdRes g A c l (after (0 : Int) p e (coreByte l p)) (Value.int .u8) w) := by
 have R2 := ((h.alloc (.cells #[.pointer (some ⟨g, 0, none⟩)] 156)).alloc (.cells #[.int .u8 0] 5))
 have B0 : Bk ((w.alloc (.cells #[.pointer (some ⟨g, 0, none⟩)] 156)).alloc (.cells #[.int .u8 0] 5)) (w.heap.size + 0) #[.pointer (some ⟨g, 0, none⟩)] 156 := by
  have := ((Bk.new w 156 #[.pointer (some ⟨g, 0, none⟩)]).alloc (.cells #[.int .u8 0] 5))
  simpa using this
 have B1 : Bk ((w.alloc (.cells #[.pointer (some ⟨g, 0, none⟩)] 156)).alloc (.cells #[.int .u8 0] 5)) (w.heap.size + 1) #[.int .u8 0] 5 := by
  have := (Bk.new (w.alloc (.cells #[.pointer (some ⟨g, 0, none⟩)] 156)) 5 #[.int .u8 0])
  simpa using this
 have hb2 : Below w.heap.size w ((w.alloc (.cells #[.pointer (some ⟨g, 0, none⟩)] 156)).alloc (.cells #[.int .u8 0] 5)) := (((Below.refl _ _).alloc (by simp) _).alloc (by simp) _)
 have hgl : g < w.heap.size := h.bk.lt
 have hAl := h.lt
 have HL := Lib.hid hAl
 clear h hAl
 go_enter Tryz.func134, Tryz.ntmps134
 go_wp2_with fail
 generalize ((w.alloc (.cells #[.pointer (some ⟨g, 0, none⟩)] 156)).alloc (.cells #[.int .u8 0] 5)) = w2 at *
 obtain ⟨b1, hb1v⟩ : ∃ b, w.heap.size + 1 = b := ⟨_, rfl⟩
 rw [hb1v] at B1 ⊢
 have HV1 := Lib.hid hb1v
 clear hb1v
 have B0' : Bk w2 w.heap.size #[.pointer (some ⟨g, 0, none⟩)] 156 := B0
 clear B0
 have key : Calls Tryz.prog 187 #[.pointer (some ⟨g, 0, none⟩), .func (.func 188) #[] #[.pointer (some ⟨w.heap.size, 0, none⟩), .pointer (some ⟨b1, 0, none⟩)]] w2
   (ReadRes w2 g A c l b1 5 ((Value.int .u8) (after (0 : Int) p e (coreByte l p)).val) (after (0 : Int) p e (coreByte l p)).at' (after (0 : Int) p e (coreByte l p)).err) := by
  have hne : b1 ≠ g := by have := HV1.out; omega
  by_cases he : e = 0
  ·subst he
   rw [after_zero]
   exact read_ok w2 g A c l p _ _ b1 _ _ _ _ R2 hne coreByte_at (run_callFunc_enter Tryz.func188 (by kernel_rfl) (by kernel_rfl) _)
    (byteC w2 g A c l p _ b1 R2 B0' B1 hne (fun a ha => by have := HL.out a ha; have := HV1.out; omega))
  ·rw [after_ne _ _ _ he]
   exact read_no w2 g A c l p e _ b1 _ _ R2 B1 he
 refine key.mono ?_
 rintro en w3 ⟨rfl, ch3, b3, r3⟩
 have cv := b3.cell 0
 have fv := b3.frozen 0
 simp at cv
 have HZ := Lib.hid (rd_close hb2 ch3 b3 r3 (by have := HV1.out; omega) hgl HL.out)
 clear key R2 B0' B1 hb2 ch3 b3 r3 HL
 generalize after (0 : Int) p e (coreByte l p) = K at *
 go_wp2
 have c4 := HZ.out.1
 exact bodyPost_ret (v := (Value.int .u8) K.val) (by simp [results, Tryz.results134, go_sem, c4]) rfl ⟨rfl, HZ.out.2⟩

/-- a number -/
def coreVar (l : List UInt8) (p : Nat) : Got Nat := match groups (l.drop p) 0 0 with
 | .inl x => ⟨0, p, x⟩
 | .inr (v, k) => ⟨v, p + k, 0⟩
theorem coreVar_at {l : List UInt8} {p : Nat} (h : (coreVar l p).err ≠ 0) : (coreVar l p).at' = p := by
 unfold coreVar at h ⊢
 cases hq : groups (l.drop p) 0 0 with
 | inl x => rfl
 | inr x => rw [hq] at h; exact absurd rfl h
abbrev toU64 (n : Nat) : Value := .int .u64 n

theorem NumRes.core {g : Nat} {A : Option Addr} {c : Nat} {l : List UInt8} {p : Nat} {w : World} {en : Ending} {w' : World} (h : NumRes g A c l p w en w') :
  en = .returned (.tuple #[.int .u64 (coreVar l p).val, .int .i64 (coreVar l p).err]) ∧ Ch [g] w w' ∧ Re w' g A c l (coreVar l p).at' 0 := by
 unfold NumRes at h
 unfold coreVar
 cases hq : groups (l.drop p) 0 0 with
 | inl x => rw [hq] at h; exact ⟨h.2.1, h.1, h.2.2⟩
 | inr x => rw [hq] at h; exact ⟨h.2.1, h.1, h.2.2⟩

set_option maxHeartbeats 1000000 in
theorem varC (w : World) (g : Nat) (A : Option Addr) (c : Nat) (l : List UInt8) (p : Nat) (br bv : Nat) (h : Re w g A c l p 0) (hr : Bk w br #[.pointer (some ⟨g, 0, none⟩)] 156) (hv : Bk w bv #[.int .u64 0] 22) (hne : bv ≠ g) (hAb : ∀ a, A = some a → a.block ≠ bv) :
  Calls Tryz.prog 190 #[.pointer (some ⟨br, 0, none⟩), .pointer (some ⟨bv, 0, none⟩)] w fun en w' => en = .returned (.int .i64 (coreVar l p).err) ∧ Ch [g, bv] w w' ∧ Bk w' bv #[toU64 (coreVar l p).val] 22 ∧ ∃ q', Re w' g A c l q' 0 ∧ ((coreVar l p).err = 0 → q' = (coreVar l p).at') := by
 have c0 : w.cell? ⟨br, 0, none⟩ = some (.pointer (some ⟨g, 0, none⟩)) := hr.cell 0
 go_enter Tryz.func190, Tryz.ntmps190
 go_wp2_with fail
 refine (number_any w g A c l p h).mono ?_
 intro en w1 hres
 obtain ⟨rfl, ch1, r1⟩ := hres.core
 clear hres
 have hv1 := hv.ch ch1 (by simpa using hne)
 have cv : w1.cell? ⟨bv, 0, none⟩ = some (.int .u64 0) := hv1.cell 0
 have fv := hv1.frozen 0
 have HR := Lib.hid r1
 have HC := Lib.hid ch1
 have HV := Lib.hid hv1
 clear r1 ch1 c0 hv1
 go_wp2
 go_ret
 refine ⟨rfl, ?_, HV.out.set_ 0 _, (coreVar l p).at', ?_, fun _ => rfl⟩
 ·exact (HC.out.wide (by simp)).setCell (by simp) _
 ·exact HR.out.ch ((Ch.refl [bv] _).setCell (by simp) _) (by simpa using fun h => hne h.symm) (fun a ha => by simpa using hAb a ha)

set_option maxHeartbeats 1000000 in
theorem Var_any (w : World) (g : Nat) (A : Option Addr) (c : Nat) (l : List UInt8) (p : Nat) (e : Int) (h : Re w g A c l p e) :
  Calls Tryz.prog 135 #[.pointer (some ⟨g, 0, none⟩)] w (RdRes g A c l (after (0 : Nat) p e (coreVar l p)) toU64 w) := by
 have R2 := ((h.alloc (.cells #[.pointer (some ⟨g, 0, none⟩)] 156)).alloc (.cells #[.int .u64 0] 22))
 have B0 : Bk ((w.alloc (.cells #[.pointer (some ⟨g, 0, none⟩)] 156)).alloc (.cells #[.int .u64 0] 22)) (w.heap.size + 0) #[.pointer (some ⟨g, 0, none⟩)] 156 := by
  have := ((Bk.new w 156 #[.pointer (some ⟨g, 0, none⟩)]).alloc (.cells #[.int .u64 0] 22))
  simpa using this
 have B1 : Bk ((w.alloc (.cells #[.pointer (some ⟨g, 0, none⟩)] 156)).alloc (.cells #[.int .u64 0] 22)) (w.heap.size + 1) #[.int .u64 0] 22 := by
  have := (Bk.new (w.alloc (.cells #[.pointer (some ⟨g, 0, none⟩)] 156)) 22 #[.int .u64 0])
  simpa using this
 have hb2 : Below w.heap.size w ((w.alloc (.cells #[.pointer (some ⟨g, 0, none⟩)] 156)).alloc (.cells #[.int .u64 0] 22)) := (((Below.refl _ _).alloc (by simp) _).alloc (by simp) _)
 have hgl : g < w.heap.size := h.bk.lt
 have hAl := h.lt
 have HL := Lib.hid hAl
 clear h hAl
 go_enter Tryz.func135, Tryz.ntmps135
 go_wp2_with fail
 generalize ((w.alloc (.cells #[.pointer (some ⟨g, 0, none⟩)] 156)).alloc (.cells #[.int .u64 0] 22)) = w2 at *
 obtain ⟨b1, hb1v⟩ : ∃ b, w.heap.size + 1 = b := ⟨_, rfl⟩
 rw [hb1v] at B1 ⊢
 have HV1 := Lib.hid hb1v
 clear hb1v
 have B0' : Bk w2 w.heap.size #[.pointer (some ⟨g, 0, none⟩)] 156 := B0
 clear B0
 have key : Calls Tryz.prog 187 #[.pointer (some ⟨g, 0, none⟩), .func (.func 190) #[] #[.pointer (some ⟨w.heap.size, 0, none⟩), .pointer (some ⟨b1, 0, none⟩)]] w2
   (ReadRes w2 g A c l b1 22 (toU64 (after (0 : Nat) p e (coreVar l p)).val) (after (0 : Nat) p e (coreVar l p)).at' (after (0 : Nat) p e (coreVar l p)).err) := by
  have hne : b1 ≠ g := by have := HV1.out; omega
  by_cases he : e = 0
  ·subst he
   rw [after_zero]
   exact read_ok w2 g A c l p _ _ b1 _ _ _ _ R2 hne coreVar_at (run_callFunc_enter Tryz.func190 (by kernel_rfl) (by kernel_rfl) _)
    (varC w2 g A c l p _ b1 R2 B0' B1 hne (fun a ha => by have := HL.out a ha; have := HV1.out; omega))
  ·rw [after_ne _ _ _ he]
   exact read_no w2 g A c l p e _ b1 _ _ R2 B1 he
 refine key.mono ?_
 rintro en w3 ⟨rfl, ch3, b3, r3⟩
 have cv := b3.cell 0
 have fv := b3.frozen 0
 simp at cv
 have HZ := Lib.hid (rd_close hb2 ch3 b3 r3 (by have := HV1.out; omega) hgl HL.out)
 clear key R2 B0' B1 hb2 ch3 b3 r3 HL
 generalize after (0 : Nat) p e (coreVar l p) = K at *
 go_wp2
 have c4 := HZ.out.1
 exact bodyPost_ret (v := toU64 K.val) (by simp [results, Tryz.results135, go_sem, c4]) rfl ⟨rfl, HZ.out.2⟩

end Go.Proofs.YtlhnhjglcbggmaaGreatRR

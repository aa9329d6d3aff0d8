/-
  Forms that say where they end: no program here.
  The codec Writer's Text, NewWriter and Out; slices.Clone of bytes. Conditions: as in the text on the Writer; a list that is cloned has at most 2^47 - 4096 bytes.
  The small tests of package wire: all, field, height, moment, round, amount, kind, named. No condition but that whole numbers fit their kinds.
  '==' on whole numbers, bools, strings, and arrays and structs of these, is the equality of their cells; a part of such a value is the cells that lie there. No condition: lemmas over any program.
-/
import Derived.Test.YtlhnhjglcbggmaaGreatRRY01
import Derived.ChangeKeysEq
namespace Go.Proofs.YtlhnhjglcbggmaaGreatRR
set_option linter.unusedSimpArgs false
set_option linter.unusedVariables false
open Go.RowKit

/-- what is laid down by enc says where it ends, and what it is up to R -/
def SD {α : Type} (enc : α → List UInt8) (P : α → Prop) (R : α → α → Prop) : Prop := ∀ x y r s, P x → P y → enc x ++ r = enc y ++ s → R x y ∧ r = s
theorem ofNat_inj {a b : Nat} (ha : a < 256) (hb : b < 256) (h : UInt8.ofNat a = UInt8.ofNat b) : a = b := by
 have := congrArg UInt8.toNat h
 simp at this
 omega
theorem varB_sd : ∀ (n m : Nat) (r s : List UInt8), varB n ++ r = varB m ++ s → n = m ∧ r = s := by
 intro n
 induction n using Nat.strongRecOn with
 | ind n ih =>
  intro m r s h
  by_cases hn : n < 128
  ·by_cases hm : m < 128
   ·rw [varB_small hn, varB_small hm] at h
    injection h with h1 h2
    exact ⟨ofNat_inj (by omega) (by omega) h1, h2⟩
   ·rw [varB_small hn, varB_big (by omega)] at h
    injection h with h1 h2
    have := ofNat_inj (by omega) (by omega) h1
    omega
  ·by_cases hm : m < 128
   ·rw [varB_big (by omega), varB_small hm] at h
    injection h with h1 h2
    have := ofNat_inj (by omega) (by omega) h1
    omega
   ·rw [varB_big (n := n) (by omega), varB_big (n := m) (by omega)] at h
    injection h with h1 h2
    have e1 := ofNat_inj (by omega) (by omega) h1
    obtain ⟨e2, e3⟩ := ih (n / 128) (by omega) (m / 128) r s h2
    exact ⟨by omega, e3⟩
theorem int_sd {n m : Int} {r s : List UInt8} (hn : 0 ≤ n) (hm : 0 ≤ m) (h : varB n.toNat ++ r = varB m.toNat ++ s) : n = m ∧ r = s := by
 obtain ⟨h1, h2⟩ := varB_sd _ _ _ _ h
 exact ⟨by omega, h2⟩
theorem raw_sd {l m r s : List UInt8} {n : Nat} (hl : l.length = n) (hm : m.length = n) (h : l ++ r = m ++ s) : l = m ∧ r = s := List.append_inj h (by omega)
theorem byte_sd {a b : Int} {r s : List UInt8} (ha : 0 ≤ a ∧ a < 256) (hb : 0 ≤ b ∧ b < 256) (h : [UInt8.ofNat a.toNat] ++ r = [UInt8.ofNat b.toNat] ++ s) : a = b ∧ r = s := by
 injection h with h1 h2
 have := ofNat_inj (by omega) (by omega) h1
 exact ⟨by omega, h2⟩
/-- two lists alike, element by element -/
def Alike {α : Type} (R : α → α → Prop) : List α → List α → Prop
 | [], [] => True
 | x :: l, y :: m => R x y ∧ Alike R l m
 | _, _ => False
theorem Alike.eq {α : Type} : ∀ {l m : List α}, Alike Eq l m → l = m
 | [], [], _ => rfl
 | x :: l, y :: m, h => by rw [h.1, Alike.eq h.2]
 | [], _ :: _, h => h.elim
 | _ :: _, [], h => h.elim
theorem flat_sd {α : Type} {enc : α → List UInt8} {P : α → Prop} {R : α → α → Prop} (he : SD enc P R) : ∀ (l m : List α) (r s : List UInt8), l.length = m.length → (∀ x ∈ l, P x) → (∀ x ∈ m, P x) → l.flatMap enc ++ r = m.flatMap enc ++ s → Alike R l m ∧ r = s
 | [], [], r, s, _, _, _, h => ⟨trivial, by simpa using h⟩
 | x :: l, y :: m, r, s, hl, hp, hq, h => by
  rw [List.flatMap_cons, List.flatMap_cons, List.append_assoc, List.append_assoc] at h
  obtain ⟨h1, h2⟩ := he x y _ _ (hp x (List.mem_cons_self ..)) (hq y (List.mem_cons_self ..)) h
  obtain ⟨h3, h4⟩ := flat_sd he l m r s (by simpa using hl) (fun z hz => hp z (List.mem_cons_of_mem _ hz)) (fun z hz => hq z (List.mem_cons_of_mem _ hz)) h2
  exact ⟨⟨h1, h3⟩, h4⟩
 | [], _ :: _, _, _, hl, _, _, _ => by simp at hl
 | _ :: _, [], _, _, hl, _, _, _ => by simp at hl
/-- a list with its number ahead -/
theorem list_sd {α : Type} {enc : α → List UInt8} {P : α → Prop} {R : α → α → Prop} (he : SD enc P R) (l m : List α) (r s : List UInt8) (hp : ∀ x ∈ l, P x) (hq : ∀ x ∈ m, P x) (h : varB l.length ++ l.flatMap enc ++ r = varB m.length ++ m.flatMap enc ++ s) : Alike R l m ∧ r = s := by
 rw [List.append_assoc, List.append_assoc] at h
 obtain ⟨h1, h2⟩ := varB_sd _ _ _ _ h
 exact flat_sd he l m r s h1 hp hq h2
/-- neither is a beginning of the other, unless they are alike -/
theorem apart {α : Type} {enc : α → List UInt8} {P : α → Prop} {R : α → α → Prop} (he : SD enc P R) {x y : α} (hx : P x) (hy : P y) (h : (enc x).take (min (enc x).length (enc y).length) = (enc y).take (min (enc x).length (enc y).length)) : R x y := by
 rcases Nat.le_total (enc x).length (enc y).length with hle | hle
 ·rw [Nat.min_eq_left hle, List.take_length] at h
  have : enc x ++ (enc y).drop (enc x).length = enc y ++ [] := by
   have h2 := List.take_append_drop (enc x).length (enc y)
   rw [← h] at h2
   rw [List.append_nil]; exact h2
  exact (he x y _ _ hx hy this).1
 ·rw [Nat.min_eq_right hle, List.take_length] at h
  have : enc x ++ [] = enc y ++ (enc x).drop (enc y).length := by
   have h2 := List.take_append_drop (enc y).length (enc x)
   rw [h] at h2
   rw [List.append_nil]; exact h2.symm
  exact (he x y _ _ hx hy this).1
/-- bounds of numbers laid down -/
theorem varB_le {n k : Nat} (h : n < 128 ^ k) (hk : 1 ≤ k) : (varB n).length ≤ k := by
 rcases varB_len k n h with h1 | h1
 ·omega
 ·subst h1; rw [varB_small (by omega)]; simpa using hk
end Go.Proofs.YtlhnhjglcbggmaaGreatRR
namespace Go.Proofs.YtlhnhjglcbggmaaGreatRR
set_option linter.unusedSimpArgs false
set_option linter.unusedVariables false
open Go.RowKit
set_option maxRecDepth 100000

/-- 2^47 - 4096 -/
def reach47 : Nat := 140737488351232

set_option maxHeartbeats 400000 in
theorem putText_any (w : World) (B g : Nat) (bs : List UInt8) (s : ByteArray) (h : Wr w B g bs) (hs : s.size < two64) (hb : bs.length + 10 + s.size ≤ room46) :
  Calls Tryz.prog 141 #[.pointer (some ⟨g, 0, none⟩), .string s] w fun e w' => e = .returned (.tuple #[]) ∧ Wr w' B g (bs ++ (varB s.size ++ s.data.toList)) ∧ Eff B WrT w w' := by
 obtain ⟨i0, hi, hz0, hz1, hz2⟩ := info_parts info_u8
 have hb1 : bs.length + 10 ≤ room46 := by omega
 have hsm : s.size ≤ 9223372036854775807 := by unfold room46 at hb; omega
 go_enter Tryz.func141, Tryz.ntmps141
 go_wp2_with fail
 refine (var_any w B g bs s.size h hs hb1).mono ?_
 rintro e w1 ⟨rfl, hw1, he1⟩
 go_wp2_with fail
 refine (live_any w1 B g _ hw1).mono ?_
 rintro e w2 ⟨rfl, rfl⟩
 obtain ⟨sl, hk, hB, ho⟩ := hw1
 have c1 := hk.cell 1
 simp at c1
 have hsrc : Src Tryz.prog 1 9 (.string s) s.size (bv s.data.toList) w1 := Src.ofString w1 Tryz.underlying9 s
 have hv := varB_ten hs
 go_wp2_with (at_builtin; go_must (refine wpList_append_src _ rfl _ _ 66 9 rfl B 5 i0 (.int .u8 0) 1 1 Tryz.underlying66 hi hz0 hz1 hz2 rfl (by decide) _ _ _ rfl ho _ _ _ rfl hsrc ?c2 ?c3 ?c4 ?_))
 case c2 => simp only [List.length_append]; unfold room46 at hb; unfold maxLen; omega
 case c3 => simp only [List.length_append]; unfold room46 at hb; omega
 case c4 => have := hk.lt; omega
 intro A' c' w3 hown1 hg1 hblk
 have hk1 := hk.grown hg1 (fun e => own_ne_bk ho hk (by decide) e.symm)
 have d1 := hk1.cell 1
 have e1 := hk1.frozen 1
 simp at d1
 clear hblk hi hz0 hz1 hz2 hb c1 hsrc
 go_wp2
 go_end0
 have hne := own_ne_bk hown1 hk1 (by decide)
 have hl : (bs ++ (varB s.size ++ s.data.toList)).length = bs.length + (varB s.size).length + s.size := by simp [Nat.add_assoc]
 refine ⟨rfl, ⟨.slice A' (bs.length + (varB s.size).length + s.size) c', ?_, hB, ?_⟩, ?_⟩
 ·have := hk1.set_ 1 (.slice A' (bs.length + (varB s.size).length + s.size) c')
  simpa using this
 ·rw [hl, ← List.append_assoc, bv_append]
  exact ownsRow_setCell_other (a := ⟨g, 1, none⟩) hown1 hne _
 ·refine he1.trans ((Eff.grown hg1 (fun k hk' => ?_)).trans (Eff.setCell hk1 hB (by decide) 1 _))
  obtain ⟨a1, cc, t, f, a2, a3⟩ := own_row ho k hk'
  exact ⟨a1, cc, t, f, a2, by simp at a3; simp [a3]⟩

set_option maxHeartbeats 400000 in
theorem text_any (w : World) (B g : Nat) (bs : List UInt8) (s : ByteArray) (h : Wr w B g bs) (hs : s.size < two64) (hb : bs.length + 10 + s.size ≤ room46) :
  Calls Tryz.prog 90 #[.pointer (some ⟨g, 0, none⟩), .string s] w fun e w' => e = .returned (.tuple #[]) ∧ Wr w' B g (bs ++ (varB s.size ++ s.data.toList)) ∧ Eff B WrT w w' := by
 go_enter Tryz.func90, Tryz.ntmps90
 go_wp2_with (go_at_call 141; go_must (refine (putText_any _ B g bs s h hs hb).mono ?_); rintro e w' ⟨rfl, hw, he⟩)
 go_end0
 exact ⟨rfl, hw, he⟩

set_option maxHeartbeats 400000 in
theorem newWriter_any (w : World) :
  Calls Tryz.prog 68 #[] w fun e w' => ∃ g, e = .returned (.pointer (some ⟨g, 0, none⟩)) ∧ Wr w' w.heap.size g [] ∧ Below w.heap.size w w' := by
 go_enter Tryz.func68, Tryz.ntmps68
 go_wp2
 go_ret
 refine ⟨w.heap.size, rfl, ⟨.slice none 0 0, Bk.new w _ _, Nat.le_refl _, ?_⟩, (Below.refl _ _).alloc (Nat.le_refl _) _⟩
 exact World.ownsRow_nil _ _ _ _

/-- a list of bytes in new memory -/
def Bs (w : World) (B : Nat) (v : Value) (l : List UInt8) : Prop := w.ownsRow B 5 1 v l.length (bv l)
theorem Bs.form {w : World} {B : Nat} {v : Value} {l : List UInt8} (h : Bs w B v l) : ∃ A c, v = .slice A l.length c := own_form h
theorem Bs.rd {w : World} {B n c : Nat} {A : Option Addr} {l : List UInt8} (h : Bs w B (.slice A n c) l) : Rd w A (bv l) := by
 obtain ⟨A', c', e⟩ := h.form
 injection e with e1 e2 e3
 subst e1 e2 e3
 exact Rd.of_own h
theorem Bs.below {w w' : World} {B : Nat} {v : Value} {l : List UInt8} (h : Bs w B v l) (e : Below w.heap.size w w') : Bs w' B v l := own_below h e
theorem Bs.mono {w : World} {B B' : Nat} {v : Value} {l : List UInt8} (h : Bs w B v l) (e : B' ≤ B) : Bs w B' v l := by
 refine ⟨h.1, h.2.imp id ?_⟩
 rintro ⟨g, cap, cur, hv, hb, rest⟩
 exact ⟨g, cap, cur, hv, by omega, rest⟩

set_option maxHeartbeats 400000 in
theorem clone_any (w : World) (A : Option Addr) (n c : Nat) (l : List UInt8) (hr : Rd w A (bv l)) (hn : n = l.length) (hl : l.length ≤ reach47) :
  Calls Tryz.prog 131 #[.slice A n c] w fun e w' => ∃ v, e = .returned v ∧ Bs w' w.heap.size v l ∧ Below w.heap.size w w' := by
 obtain ⟨i0, hi, hz0, hz1, hz2⟩ := info_parts info_u8
 subst hn
 rcases A with _ | ad
 ·have hl0 : l = [] := by
   cases l with
   | nil => rfl
   | cons u l =>
    obtain ⟨ad, ha, _⟩ := hr 0 (.int .u8 u.toNat) rfl
    cases ha
  subst hl0
  have hq := fun wx : World => Lib.run_eql_slice_nil (P := Tryz.prog) wx 66 5 none 0 c 0 0 Tryz.underlying66
  go_enter Tryz.func131, Tryz.ntmps131
  go_wp2
  go_ret
  exact ⟨_, rfl, World.ownsRow_nil _ _ _ _, Below.refl _ _⟩
 ·have hq := fun wx : World => Lib.run_eql_slice_nil (P := Tryz.prog) wx 66 5 (some ad) l.length c 0 0 Tryz.underlying66
  have hr1 := hr.alloc (.cells #[] 5)
  have ho : (w.alloc (.cells #[] 5)).ownsRow w.heap.size 5 1 (.slice (some ⟨w.heap.size, 0, none⟩) 0 0) 0 [] := World.ownsRow_made w #[] 0 (Nat.le_refl _) (by unfold maxLen; omega) rfl
  go_enter Tryz.func131, Tryz.ntmps131
  go_wp2_with (at_builtin; go_must (refine wpList_append_rd _ rfl _ _ 66 rfl w.heap.size 5 i0 (.int .u8 0) 1 1 Tryz.underlying66 hi hz0 hz1 hz2 rfl (by decide) _ _ _ rfl ho (some ad) _ c (bv l) rfl ?c1 hr1 (bv_one _) ?c2 ?c3 ?c4 ?_))
  case c1 => rw [bv_length, Nat.mul_one]
  case c2 => unfold reach47 at hl; unfold maxLen; omega
  case c3 => unfold reach47 at hl; omega
  case c4 => simp
  intro A' c' w3 hown1 hg1 hblk
  clear hblk hi hz0 hz1 hz2 hq hl
  go_wp2
  go_ret
  refine ⟨_, rfl, ?_, ((Below.refl _ _).alloc (Nat.le_refl _) _).grown hg1 (by simp) (by simp [Value.ownBlock])⟩
  unfold Bs
  simpa using hown1

set_option maxHeartbeats 400000 in
theorem out_any (w : World) (B g : Nat) (bs : List UInt8) (h : Wr w B g bs) (hl : bs.length ≤ reach47) :
  Calls Tryz.prog 69 #[.pointer (some ⟨g, 0, none⟩)] w fun e w' => ∃ v, e = .returned (.tuple #[v, .int .i64 0]) ∧ Bs w' w.heap.size v bs ∧ Below w.heap.size w w' := by
 obtain ⟨sl, hk, hB, ho⟩ := h
 obtain ⟨A, c, rfl⟩ := own_form ho
 have hr := Rd.of_own ho
 have c0 := hk.cell 0
 have c1 := hk.cell 1
 have c2 := hk.cell 2
 simp at c0 c1 c2
 go_enter Tryz.func69, Tryz.ntmps69
 go_wp2_with (go_at_call 131; go_must (refine (clone_any _ A _ c bs hr rfl hl).mono ?_); rintro e w' ⟨v, rfl, hv, hb⟩)
 go_ret2
 exact ⟨v, rfl, hv, hb⟩
end Go.Proofs.YtlhnhjglcbggmaaGreatRR
namespace Go.Proofs.YtlhnhjglcbggmaaGreatRR
set_option linter.unusedSimpArgs false
set_option linter.unusedVariables false
open Go.RowKit
set_option maxRecDepth 100000

def field (b : Bool) : Int := if b then 41 else 0
set_option maxHeartbeats 400000 in
theorem field_any (w : World) (b : Bool) :
  Calls Tryz.prog 75 #[.bool b] w fun e w' => e = .returned (.int .i64 (field b)) ∧ w = w' := by
 cases b
 ·go_enter Tryz.func75, Tryz.ntmps75
  go_wp2
  go_ret
  exact ⟨rfl, rfl⟩
 ·go_enter Tryz.func75, Tryz.ntmps75
  go_wp2
  go_ret
  exact ⟨rfl, rfl⟩

def height (h : Int) : Int := field (decide (h < 1 ∨ 1099511627776 < h))
def moment (t : Int) : Int := field (decide (1125899906842624 < t))
def round (r : Int) : Int := field (decide (r < 0 ∨ 65535 < r))
def amount (a : Int) : Int := field (decide (1152921504606846975 < a))
def kind (k lo hi : Int) : Int := if k < lo ∨ hi < k then 40 else 0
def named (n : Nat) : Int := field (decide (n < 1 ∨ 16 < n))

theorem ret_i64 {a b : Int} (h : a = b) : Ending.returned (.int .i64 a) = .returned (.int .i64 b) := by rw [h]
theorem field_t {p : Prop} [Decidable p] (h : p) : (41 : Int) = field (decide p) := by rw [decide_eq_true h]; rfl
theorem field_f {p : Prop} [Decidable p] (h : ¬ p) : (0 : Int) = field (decide p) := by rw [decide_eq_false h]; rfl

set_option maxHeartbeats 400000 in
theorem height_any (w : World) (h : Int) :
  Calls Tryz.prog 72 #[.int .u64 h] w fun e w' => e = .returned (.int .i64 (height h)) ∧ w = w' := by
 go_enter Tryz.func72, Tryz.ntmps72
 go_wp2
 all_goals
  go_ret
  exact ⟨ret_i64 (by unfold height; first | exact field_t (by omega) | exact field_f (by omega)), rfl⟩

set_option maxHeartbeats 400000 in
theorem moment_any (w : World) (t : Int) :
  Calls Tryz.prog 74 #[.int .u64 t] w fun e w' => e = .returned (.int .i64 (moment t)) ∧ w = w' := by
 go_enter Tryz.func74, Tryz.ntmps74
 go_wp2
 all_goals
  go_ret
  exact ⟨ret_i64 (by unfold moment; first | exact field_t (by omega) | exact field_f (by omega)), rfl⟩

set_option maxHeartbeats 400000 in
theorem round_any (w : World) (r : Int) :
  Calls Tryz.prog 73 #[.int .i64 r] w fun e w' => e = .returned (.int .i64 (round r)) ∧ w = w' := by
 go_enter Tryz.func73, Tryz.ntmps73
 go_wp2
 all_goals
  go_ret
  exact ⟨ret_i64 (by unfold round; first | exact field_t (by omega) | exact field_f (by omega)), rfl⟩

set_option maxHeartbeats 400000 in
theorem amount_any (w : World) (a : Int) :
  Calls Tryz.prog 81 #[.int .u64 a] w fun e w' => e = .returned (.int .i64 (amount a)) ∧ w = w' := by
 go_enter Tryz.func81, Tryz.ntmps81
 go_wp2
 all_goals
  go_ret
  exact ⟨ret_i64 (by unfold amount; first | exact field_t (by omega) | exact field_f (by omega)), rfl⟩

set_option maxHeartbeats 400000 in
theorem kind_any (w : World) (k lo hi : Int) :
  Calls Tryz.prog 71 #[.int .i64 k, .int .i64 lo, .int .i64 hi] w fun e w' => e = .returned (.int .i64 (kind k lo hi)) ∧ w = w' := by
 go_enter Tryz.func71, Tryz.ntmps71
 go_wp2
 all_goals
  go_ret
  exact ⟨ret_i64 (by unfold kind; first | rw [if_pos (by omega)] | rw [if_neg (by omega)]), rfl⟩

set_option maxHeartbeats 400000 in
theorem named_any (w : World) (s : ByteArray) (hs : s.size ≤ 9223372036854775807) :
  Calls Tryz.prog 89 #[.string s] w fun e w' => e = .returned (.int .i64 (named s.size)) ∧ w = w' := by
 go_enter Tryz.func89, Tryz.ntmps89
 go_wp2
 all_goals
  go_ret
  exact ⟨ret_i64 (by unfold named; first | exact field_t (by omega) | exact field_f (by omega)), rfl⟩

/-- the first that is not 0 -/
def firstErr : List Int → Int
 | [] => 0
 | e :: l => if e ≠ 0 then e else firstErr l

theorem rd_at {w : World} {A : Option Addr} {xs : List Value} (h : Rd w A xs) {j : Nat} {u : Value} (hu : xs[j]? = some u) : ∃ ad, A = some ad ∧ w.cell? (ad.add j) = some u := h j u hu

set_option maxHeartbeats 400000 in
theorem all_any (w : World) (A : Option Addr) (n c : Nat) (l : List Int) (hr : Rd w A (l.map (Value.int .i64))) (hn : l.length = n) (hm : n ≤ 1000) :
  Calls Tryz.prog 70 #[.slice A n c] w fun e w' => e = .returned (.int .i64 (firstErr l)) ∧ w = w' := by
 have Hn := Lib.hid hn; clear hn
 go_enter Tryz.func70, Tryz.ntmps70
 go_wp2
 go_loop [7] (fun i => ∃ k : Nat, k ≤ n ∧ i = .int .i64 k ∧ firstErr (l.drop k) = firstErr l) (fun i => n - (intOf i).toNat)
 case atStart => exact ⟨0, Nat.zero_le _, rfl, rfl⟩
 case round =>
  obtain ⟨k, hk, rfl, hf⟩ := hrel
  have Hf := Lib.hid hf; clear hf
  by_cases hlt : k < n
  ·have hkl : k < l.length := by rw [Hn.out]; exact hlt
   have hd : l.drop k = l[k] :: l.drop (k + 1) := List.drop_eq_getElem_cons hkl
   obtain ⟨ad, hA, hcell⟩ := rd_at hr (j := k) (u := .int .i64 l[k]) (by simp [hkl])
   have Hd := Lib.hid hd; clear hd
   subst hA
   by_cases hz : l[k] = 0
   ·rw [hz] at hcell
    have Hz := Lib.hid hz; clear hz
    go_wp2
    go_round
    case rel => exact ⟨k + 1, by omega, by go_num, by rw [← Hf.out, Hd.out]; simp [firstErr, Hz.out]⟩
    case measure => simp [intOf]; omega
   ·have hz' : (l[k] == 0) = false := by simp [hz]
    have hz2 : (l[k] != 0) = true := by simp [hz]
    go_wp2
    go_ret
    exact ⟨ret_i64 (by rw [← Hf.out, Hd.out]; simp [firstErr, hz]), rfl⟩
  ·have hk' : k = n := by omega
   have Hk := Lib.hid hk'; clear hk'
   go_wp2
   go_ret
   refine ⟨ret_i64 ?_, rfl⟩
   rw [← Hf.out, List.drop_of_length_le (by rw [Hn.out, Hk.out]; exact Nat.le_refl _)]; rfl
end Go.Proofs.YtlhnhjglcbggmaaGreatRR
namespace Go.Proofs.YtlhnhjglcbggmaaGreatRR
set_option linter.unusedSimpArgs false
set_option linter.unusedVariables false
open Go.RowKit

/-- the kinds of the cells of a value without pointers -/
inductive CK where
 | int (k : IntKind) | bool | str
def CK.fits : CK → Value → Prop
 | .int k, .int k' _ => k' = k
 | .bool, .bool _ => True
 | .str, .string _ => True
 | _, _ => False
/-- these cells are of these kinds -/
def Fits : List CK → List Value → Prop
 | [], [] => True
 | k :: ks, v :: vs => k.fits v ∧ Fits ks vs
 | _, _ => False
theorem Fits.len : ∀ {ks : List CK} {vs : List Value}, Fits ks vs → vs.length = ks.length
 | [], [], _ => rfl
 | k :: ks, v :: vs, h => by simp [Fits.len h.2]
 | [], _ :: _, h => h.elim
 | _ :: _, [], h => h.elim
theorem Fits.app : ∀ {ks ks' : List CK} {vs vs' : List Value}, Fits ks vs → Fits ks' vs' → Fits (ks ++ ks') (vs ++ vs')
 | [], _, [], _, _, h' => h'
 | k :: ks, _, v :: vs, _, h, h' => ⟨h.1, Fits.app h.2 h'⟩
 | [], _, _ :: _, _, h, _ => h.elim
 | _ :: _, _, [], _, h, _ => h.elim
theorem Fits.split : ∀ {ks ks' : List CK} {vs : List Value}, Fits (ks ++ ks') vs → Fits ks (vs.take ks.length) ∧ Fits ks' (vs.drop ks.length)
 | [], _, _, h => ⟨trivial, h⟩
 | k :: ks, _, v :: vs, h => ⟨⟨h.1, (Fits.split h.2).1⟩, (Fits.split h.2).2⟩
 | _ :: _, _, [], h => h.elim
theorem Fits.bytes (l : List UInt8) : Fits (List.replicate l.length (.int .u8)) (bv l) := by
 induction l with
 | nil => trivial
 | cons b l ih => exact ⟨rfl, ih⟩

def flatFields (P : Program) (g : TypeId → Option (List CK)) : List Field → Nat → Option (List CK)
 | [], _ => some []
 | f :: fs, off =>
  if f.name == "_" || f.offset != off then none else
  match g f.type with
  | none => none
  | some ks => if (P.info? f.type).map (·.size) == some ks.length then (flatFields P g fs (off + ks.length)).map (ks ++ ·) else none
/-- the kinds of the cells of a type without pointers -/
def flat (P : Program) : Nat → TypeId → Option (List CK)
 | 0, _ => none
 | n + 1, t =>
  match P.underlying t with
  | some (.int k) => some [.int k]
  | some .bool => some [.bool]
  | some .string => some [.str]
  | some (.struct fs) => if P.stoodInHeld t then none else flatFields P (flat P n) fs.toList 0
  | some (.array m e) =>
   match flat P n e with
   | some ks => if (P.info? e).map (·.size) == some ks.length then some (List.replicate m ks).flatten else none
   | none => none
  | _ => none

/-- is it kept as an aggregate? -/
def isAggT (P : Program) (t : TypeId) : Bool := match P.underlying t with | some (.struct _) | some (.array _ _) => true | _ => false
def packV (agg : Bool) (xs : List Value) : Value := if agg then .agg xs.toArray else xs.headD undef

section
variable {P : Program}
theorem run_isAgg {t : TypeId} {d : TypeDesc} (hu : P.underlying t = some d) (w : World) : (isAgg t).run P w = .ok (isAggT P t) w := by
 unfold isAgg isAggT
 rw [Sem.run_bind, run_underlying hu w, hu]
 cases d <;> simp
theorem run_sizeOf' {t : TypeId} {n : Nat} (hi : (P.info? t).map (·.size) = some n) (w : World) : (sizeOf t).run P w = .ok n w := by
 cases hq : P.info? t with
 | none => simp [hq] at hi
 | some i => simp [hq] at hi; simp [sizeOf, typeInfo, hq, hi]
theorem run_part {t : TypeId} {d : TypeDesc} {n : Nat} (hu : P.underlying t = some d) (hi : (P.info? t).map (·.size) = some n) (h1 : isAggT P t = false → n = 1) (cs : Array Value) (off : Nat) (hl : n = 1 → off < cs.size) (w : World) :
  (part t cs off).run P w = .ok (packV (isAggT P t) ((cs.toList.drop off).take n)) w := by
 unfold part
 simp only [Sem.run_bind, run_isAgg hu w, Result.andThen_ok]
 cases hb : isAggT P t with
 | true =>
  simp only [if_true, Sem.run_bind, run_sizeOf' hi w, Result.andThen_ok, Sem.run_pure, packV]
  congr 2
  apply Array.ext'
  simp
 | false =>
  have hn := h1 hb
  subst hn
  have hlt : off < cs.size := hl rfl
  simp only [Bool.false_eq_true, if_false, packV]
  rw [Array.getElem?_eq_getElem hlt]
  simp only [Sem.run_pure]
  congr 1
  have : cs.toList.drop off = cs[off] :: cs.toList.drop (off + 1) := by
   rw [List.drop_eq_getElem_cons (by simpa using hlt)]
   simp
  rw [this]
  rfl
theorem flat_one {n : Nat} {t : TypeId} {ks : List CK} (h : flat P n t = some ks) (ha : isAggT P t = false) : ks.length = 1 := by
 cases n with
 | zero => simp [flat] at h
 | succ n =>
  unfold flat at h
  unfold isAggT at ha
  cases hu : P.underlying t with
  | none => simp [hu] at h
  | some d => cases d <;> simp [hu] at h ha <;> subst h <;> rfl
theorem flat_under {n : Nat} {t : TypeId} {ks : List CK} (h : flat P n t = some ks) : ∃ d, P.underlying t = some d := by
 cases n with
 | zero => simp [flat] at h
 | succ n =>
  unfold flat at h
  cases hu : P.underlying t with
  | none => simp [hu] at h
  | some d => exact ⟨d, rfl⟩

/-- '==' at type t looks just at the cells -/
def EqOk (P : Program) (m : Nat) (t : TypeId) (ks : List CK) : Prop :=
 ∀ (d : Nat) (xs ys : List Value) (w : World), Fits ks xs → Fits ks ys → ∃ b : Bool, (Op.equalIn (m + d) t (packV (isAggT P t) xs) (packV (isAggT P t) ys)).run P w = .ok b w ∧ (b = true ↔ xs = ys)

theorem fields_eq (m : Nat) (g : TypeId → Option (List CK)) (hg : ∀ t ks, g t = some ks → EqOk P m t ks ∧ (∃ d, P.underlying t = some d) ∧ (isAggT P t = false → ks.length = 1)) (d : Nat) (xs ys : List Value) :
  ∀ (fs : List Field) (off : Nat) (ks : List CK), flatFields P g fs off = some ks → Fits ks (xs.drop off) → Fits ks (ys.drop off) → ∀ w : World,
   ∃ b : Bool, (Op.eqFields (m + d) xs.toArray ys.toArray fs).run P w = .ok b w ∧ (b = true ↔ xs.drop off = ys.drop off)
 | [], off, ks, h, hx, hy, w => by
  simp [flatFields] at h
  subst h
  have hx' := List.eq_nil_of_length_eq_zero hx.len
  have hy' := List.eq_nil_of_length_eq_zero hy.len
  exact ⟨true, by simp [Op.eqFields], by rw [hx', hy']; simp⟩
 | f :: fs, off, ks, h, hx, hy, w => by
  unfold flatFields at h
  split at h
  ·cases h
  ·rename_i hc
   simp only [Bool.or_eq_true, beq_iff_eq, bne_iff_ne, ne_eq, not_or, Classical.not_not] at hc
   obtain ⟨hn, ho⟩ := hc
   cases hk : g f.type with
   | none => simp [hk] at h
   | some k1 =>
    simp only [hk] at h
    split at h
    ·rename_i hi
     simp only [beq_iff_eq] at hi
     obtain ⟨k2, h2, rfl⟩ := Option.map_eq_some_iff.1 h
     obtain ⟨he, ⟨dd, hu⟩, h1⟩ := hg f.type k1 hk
     obtain ⟨fx1, fx2⟩ := hx.split
     obtain ⟨fy1, fy2⟩ := hy.split
     have lx := fx1.len
     have ly := fy1.len
     have hlx : k1.length = 1 → off < xs.length := by intro q; simp [q] at lx; omega
     have hly : k1.length = 1 → off < ys.length := by intro q; simp [q] at ly; omega
     obtain ⟨b, hb, hbi⟩ := he d _ _ w fx1 fy1
     rw [List.drop_drop] at fx2 fy2
     obtain ⟨b', hb', hbi'⟩ := fields_eq m g hg d xs ys fs (off + k1.length) k2 h2 fx2 fy2 w
     have px := run_part hu hi (fun q => h1 q) xs.toArray off (by simpa using hlx) w
     have py := run_part hu hi (fun q => h1 q) ys.toArray off (by simpa using hly) w
     simp only at px py
     simp only [Op.eqFields, hn, ne_eq, not_false_eq_true, if_true, Sem.run_bind, ho, px, py, Result.andThen_ok, hb]
     have key : xs.drop off = ys.drop off ↔ (xs.drop off).take k1.length = (ys.drop off).take k1.length ∧ xs.drop (off + k1.length) = ys.drop (off + k1.length) := by
      rw [← List.drop_drop, ← List.drop_drop]
      have e1 := (List.take_append_drop k1.length (xs.drop off)).symm
      have e2 := (List.take_append_drop k1.length (ys.drop off)).symm
      constructor
      ·intro e; rw [e]; exact ⟨rfl, rfl⟩
      ·rintro ⟨q1, q2⟩; rw [e1, e2, q1, q2]
     cases b
     ·refine ⟨false, by simp, ?_⟩
      rw [key]
      constructor
      ·intro e; cases e
      ·rintro ⟨q, _⟩; exact absurd (hbi.2 q) (by simp)
     ·refine ⟨b', by simpa using hb', ?_⟩
      rw [hbi', key]
      exact ⟨fun q => ⟨hbi.1 rfl, q⟩, fun q => q.2⟩
    ·cases h

theorem items_eq (m : Nat) {e : TypeId} {ks : List CK} (he : EqOk P m e ks) (hu : ∃ d, P.underlying e = some d) (h1 : isAggT P e = false → ks.length = 1) (hi : (P.info? e).map (·.size) = some ks.length) (d : Nat) (xs ys : List Value) :
  ∀ (n j : Nat), Fits (List.replicate n ks).flatten (xs.drop (j * ks.length)) → Fits (List.replicate n ks).flatten (ys.drop (j * ks.length)) → ∀ w : World,
   ∃ b : Bool, (Op.eqItems (m + d) e ks.length xs.toArray ys.toArray (List.range' j n)).run P w = .ok b w ∧ (b = true ↔ xs.drop (j * ks.length) = ys.drop (j * ks.length))
 | 0, j, hx, hy, w => by
  have hx' := List.eq_nil_of_length_eq_zero hx.len
  have hy' := List.eq_nil_of_length_eq_zero hy.len
  exact ⟨true, by simp [Op.eqItems], by rw [hx', hy']; simp⟩
 | n + 1, j, hx, hy, w => by
  rw [List.replicate_succ, List.flatten_cons] at hx hy
  obtain ⟨fx1, fx2⟩ := hx.split
  obtain ⟨fy1, fy2⟩ := hy.split
  have lx := fx1.len
  have ly := fy1.len
  have hlx : ks.length = 1 → j * ks.length < xs.length := by intro q; simp [q] at lx; rw [q]; omega
  have hly : ks.length = 1 → j * ks.length < ys.length := by intro q; simp [q] at ly; rw [q]; omega
  obtain ⟨dd, hu⟩ := hu
  have hsucc : (j + 1) * ks.length = j * ks.length + ks.length := by rw [Nat.add_mul, Nat.one_mul]
  rw [List.drop_drop, ← hsucc] at fx2 fy2
  obtain ⟨b, hb, hbi⟩ := he d _ _ w fx1 fy1
  obtain ⟨b', hb', hbi'⟩ := items_eq m he ⟨dd, hu⟩ h1 hi d xs ys n (j + 1) fx2 fy2 w
  have px := run_part hu hi (fun q => h1 q) xs.toArray (j * ks.length) (by simpa using hlx) w
  have py := run_part hu hi (fun q => h1 q) ys.toArray (j * ks.length) (by simpa using hly) w
  simp only at px py
  rw [List.range'_succ]
  simp only [Op.eqItems, Sem.run_bind, px, py, Result.andThen_ok, hb]
  have key : xs.drop (j * ks.length) = ys.drop (j * ks.length) ↔ (xs.drop (j * ks.length)).take ks.length = (ys.drop (j * ks.length)).take ks.length ∧ xs.drop ((j + 1) * ks.length) = ys.drop ((j + 1) * ks.length) := by
   rw [hsucc, ← List.drop_drop, ← List.drop_drop]
   have e1 := (List.take_append_drop ks.length (xs.drop (j * ks.length))).symm
   have e2 := (List.take_append_drop ks.length (ys.drop (j * ks.length))).symm
   constructor
   ·intro e; rw [e]; exact ⟨rfl, rfl⟩
   ·rintro ⟨q1, q2⟩; rw [e1, e2, q1, q2]
  cases b
  ·refine ⟨false, by simp, ?_⟩
   rw [key]
   constructor
   ·intro e; cases e
   ·rintro ⟨q, _⟩; exact absurd (hbi.2 q) (by simp)
  ·refine ⟨b', by simpa using hb', ?_⟩
   rw [hbi', key]
   exact ⟨fun q => ⟨hbi.1 rfl, q⟩, fun q => q.2⟩

theorem fits_one {k : CK} {xs : List Value} (h : Fits [k] xs) : ∃ v, xs = [v] ∧ k.fits v := by
 match xs, h with
 | [v], h => exact ⟨v, rfl, h.1⟩
 | [], h => exact h.elim
 | _ :: _ :: _, h => exact h.2.elim

theorem byteArray_beq (a b : ByteArray) : (a == b) = true ↔ a = b := by
 rw [beq_toListBytes]
 simp only [beq_iff_eq, ByteArray.toList_eq]
 constructor
 ·intro h
  obtain ⟨⟨x⟩⟩ := a
  obtain ⟨⟨y⟩⟩ := b
  simpa using h
 ·rintro rfl; rfl
def aggD : TypeDesc → Bool | .struct _ | .array _ _ => true | _ => false
theorem flat_eq : ∀ (n : Nat) (t : TypeId) (ks : List CK), flat P n t = some ks → EqOk P n t ks
 | 0, t, ks, h => by simp [flat] at h
 | n + 1, t, ks, h => by
  intro d xs ys w hx hy
  have hd : n + 1 + d = (n + d) + 1 := by omega
  rw [hd]
  unfold flat at h
  cases hu : P.underlying t with
  | none => simp [hu] at h
  | some dd =>
   have hagg : isAggT P t = aggD dd := by unfold isAggT; rw [hu]; cases dd <;> rfl
   cases dd <;> simp only [hu] at h <;> try (cases h; done)
   case some.bool =>
    cases h
    obtain ⟨v, rfl, fv⟩ := fits_one hx
    obtain ⟨u, rfl, fu⟩ := fits_one hy
    cases v <;> simp [CK.fits] at fv
    cases u <;> simp [CK.fits] at fu
    rename_i a b
    rw [hagg]
    exact ⟨a == b, run_equalIn_bool' w (n + d) t a b hu, by simp⟩
   case some.int k =>
    cases h
    obtain ⟨v, rfl, fv⟩ := fits_one hx
    obtain ⟨u, rfl, fu⟩ := fits_one hy
    cases v <;> simp [CK.fits] at fv
    cases u <;> simp [CK.fits] at fu
    subst fv fu
    rename_i a _ b
    rw [hagg]
    exact ⟨a == b, run_equalIn_int w (n + d) t _ _ a b hu, by simp⟩
   case some.string =>
    cases h
    obtain ⟨v, rfl, fv⟩ := fits_one hx
    obtain ⟨u, rfl, fu⟩ := fits_one hy
    cases v <;> simp [CK.fits] at fv
    cases u <;> simp [CK.fits] at fu
    rename_i a b
    rw [hagg]
    refine ⟨a == b, (run_equalIn_string w (n + d) t a b hu).trans (by rw [← beq_toListBytes]), by rw [byteArray_beq]; simp⟩
   case some.struct fs =>
    split at h
    ·cases h
    ·rename_i hsi
     have hsi' : P.stoodInHeld t = false := by simpa using hsi
     have hf : P.fieldsOf t = fs := by unfold Program.fieldsOf; rw [hu]
     rw [hagg]
     simp only [packV, aggD, if_true]
     rw [run_equalIn_struct w (n + d) t xs.toArray ys.toArray (by rw [hf]; exact hu) hsi', hf]
     have := fields_eq n (flat P n) (fun t' k' h' => ⟨flat_eq n t' k' h', flat_under h', flat_one h'⟩) d xs ys fs.toList 0 ks h (by simpa using hx) (by simpa using hy) w
     simpa using this
   case some.array m e =>
    split at h
    ·rename_i k1 hk1
     split at h
     ·rename_i hi
      simp only [beq_iff_eq] at hi
      cases h
      rw [hagg]
      simp only [packV, aggD, if_true]
      have hie : ∃ i, P.info? e = some i ∧ i.size = k1.length := by
       cases hq : P.info? e with
       | none => simp [hq] at hi
       | some i => exact ⟨i, rfl, by simpa [hq] using hi⟩
      obtain ⟨i, hie, hsz⟩ := hie
      have hco : P.cellsOf e = k1.length := by unfold Program.cellsOf; simp [hie, hsz]
      rw [run_equalIn_array w (n + d) xs.toArray ys.toArray hu hie, hco, List.range_eq_range']
      have := items_eq n (flat_eq n e k1 hk1) (flat_under hk1) (flat_one hk1) hi d xs ys m 0 (by simpa using hx) (by simpa using hy) w
      simpa using this
     ·cases h
    ·cases h

/-- '==' and '!=' at an aggregate, for the walk -/
theorem run_eql_flat {t : TypeId} {n : Nat} {ks : List CK} (hf : flat P n t = some ks) (hn : n ≤ 10000) (ha : isAggT P t = true) {xs ys : List Value} (hx : Fits ks xs) (hy : Fits ks ys) {q : Bool} (hq : q = true ↔ xs = ys) (w : World) :
  (binOp .eql t (.agg xs.toArray) (.agg ys.toArray)).run P w = .ok (.bool q) w := by
 obtain ⟨b, hb, hbi⟩ := flat_eq n t ks hf (10000 - n) xs ys w hx hy
 have hbq : b = q := by rw [Bool.eq_iff_iff, hbi, hq]
 rw [run_eql_struct]
 have e : n + (10000 - n) = 10000 := by omega
 rw [e, ha] at hb
 simp only [packV, if_true] at hb
 rw [hb, hbq]
 simp
theorem run_neq_flat {t : TypeId} {n : Nat} {ks : List CK} (hf : flat P n t = some ks) (hn : n ≤ 10000) (ha : isAggT P t = true) {xs ys : List Value} (hx : Fits ks xs) (hy : Fits ks ys) {q : Bool} (hq : q = true ↔ xs = ys) (w : World) :
  (binOp .neq t (.agg xs.toArray) (.agg ys.toArray)).run P w = .ok (.bool (!q)) w := by
 obtain ⟨b, hb, hbi⟩ := flat_eq n t ks hf (10000 - n) xs ys w hx hy
 have hbq : b = q := by rw [Bool.eq_iff_iff, hbi, hq]
 rw [run_neq_struct]
 have e : n + (10000 - n) = 10000 := by omega
 rw [e, ha] at hb
 simp only [packV, if_true] at hb
 rw [hb, hbq]
 simp
end
end Go.Proofs.YtlhnhjglcbggmaaGreatRR

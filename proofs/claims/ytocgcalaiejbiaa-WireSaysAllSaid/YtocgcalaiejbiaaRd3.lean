/-
  Reader.read round a closure; Reader.Byte, Err, Left, End. Condition: the Reader was made by NewReader (Re).
-/
import Derived.Test.YtocgcalaiejbiaaRd2
namespace Go.Proofs.Ytocgcalaiejbiaa
set_option linter.unusedSimpArgs false
set_option linter.unusedVariables false
open Go.RowKit
set_option maxRecDepth 100000

/-- what a read leaves: the value in its variable, the place, the error -/
structure ReadRes (w : World) (g : Nat) (A : Option Addr) (c : Nat) (l : List UInt8) (bv : Nat) (T : TypeId) (v : Value) (q : Nat) (x : Int) (en : Ending) (w' : World) : Prop where
  en : en = .returned (.tuple #[])
  ch : Ch [g, bv] w w'
  bk : Bk w' bv #[v] T
  re : Re w' g A c l q x

set_option maxHeartbeats 1000000 in
theorem read_no (w : World) (g : Nat) (A : Option Addr) (c : Nat) (l : List UInt8) (p : Nat) (e : Int) (F : Value) (bv : Nat) (T : TypeId) (v : Value) (h : Re w g A c l p e) (hb : Bk w bv #[v] T) (he : e ≠ 0) :
    Calls Try.prog 102 #[.pointer (some ⟨g, 0, none⟩), F] w (ReadRes w g A c l bv T v p e) := by
  have c0 : w.cell? ⟨g, 0, none⟩ = some (.bool true) := h.bk.cell 0
  have c3 : w.cell? ⟨g, 3, none⟩ = some (.int .i64 e) := h.bk.cell 3
  have h1 : (e != 0) = true := by simp [he]
  have h2 : (e == 0) = false := by simp [he]
  have H := Lib.hid h
  clear he h
  go_enter Try.func102, Try.ntmps102
  go_wp2
  go_end0
  exact ⟨rfl, Ch.refl _ _, hb, H.out⟩

theorem run_callFunc_enter {P : Program} {f : FuncId} {fn : Func} (hf : P.funcs[f]? = some fn) (hn : (fn.name == "runtime.NumGoroutine") = false) (hb : fn.body.isNone = false) (args : Array Value) (w : World) :
    (callFunc f args).run P w = .ok (.enter f args) w := by
  have h1 : ¬ fn.name = "runtime.NumGoroutine" := by simpa using hn
  have h2 : ¬ fn.body = none := by intro h; rw [h] at hb; cases hb
  simp [callFunc, hf, h1, h2]

set_option maxHeartbeats 1000000 in
theorem read_ok (w : World) (g : Nat) (A : Option Addr) (c : Nat) (l : List UInt8) (p : Nat) (fn : FuncId) (caps : Array Value) (bv : Nat) (T : TypeId) (v : Value) (q : Nat) (x : Int) (h : Re w g A c l p 0) (hne : bv ≠ g)
    (hq : x ≠ 0 → q = p) (hcf : ∀ w : World, (callFunc fn caps).run Try.prog w = .ok (.enter fn caps) w)
    (hc : Calls Try.prog fn caps w fun en w' => en = .returned (.int .i64 x) ∧ Ch [g, bv] w w' ∧ Bk w' bv #[v] T ∧ ∃ q', Re w' g A c l q' 0 ∧ (x = 0 → q' = q)) :
    Calls Try.prog 102 #[.pointer (some ⟨g, 0, none⟩), .func (.func fn) #[] caps] w (ReadRes w g A c l bv T v q x) := by
  have c0 : w.cell? ⟨g, 0, none⟩ = some (.bool true) := h.bk.cell 0
  have c2 : w.cell? ⟨g, 2, none⟩ = some (.int .i64 p) := h.bk.cell 2
  have c3 : w.cell? ⟨g, 3, none⟩ = some (.int .i64 0) := h.bk.cell 3
  have H := Lib.hid h
  have HC := Lib.hid hc
  have HQ := Lib.hid hq
  clear h hc hq
  go_enter Try.func102, Try.ntmps102
  go_wp2_with fail
  refine HC.out.mono ?_
  rintro en w1 ⟨rfl, ch1, b1, q', r1, e1⟩
  have d2 : w1.cell? ⟨g, 2, none⟩ = some (.int .i64 q') := r1.bk.cell 2
  have d3 : w1.cell? ⟨g, 3, none⟩ = some (.int .i64 0) := r1.bk.cell 3
  have f2 := r1.bk.frozen 2
  have f3 := r1.bk.frozen 3
  have HR := Lib.hid r1
  have HE := Lib.hid e1
  clear r1 e1 c0 c2 c3
  by_cases hx : x = 0
  · have he := HE.out hx
    subst hx
    have HE2 := Lib.hid he
    clear he HE
    go_wp2
    go_end0
    refine ⟨rfl, ch1, b1, ?_⟩
    have := HR.out
    rwa [HE2.out] at this
  · have h1 : (x != 0) = true := by simp [hx]
    have h2 : (x == 0) = false := by simp [hx]
    have HX := Lib.hid hx
    clear hx
    go_wp2
    go_end0
    have r2 := HR.out.at_ p H.out.le
    have r3 := r2.err_ x
    refine ⟨rfl, (ch1.setCell (by simp) _).setCell (by simp) _, (b1.far (by simpa using hne) _).far (by simpa using hne) _, ?_⟩
    rw [HQ.out HX.out]
    exact r3

/-- one byte -/
def coreByte (l : List UInt8) (p : Nat) : Got Int := match l[p]? with
  | none => ⟨0, p, 10⟩
  | some b => ⟨(b.toNat : Int), p + 1, 0⟩
def after {α : Type} (z : α) (p : Nat) (e : Int) (k : Got α) : Got α := if e = 0 then k else ⟨z, p, e⟩

set_option maxHeartbeats 1000000 in
theorem byteC (w : World) (g : Nat) (A : Option Addr) (c : Nat) (l : List UInt8) (p : Nat) (br bv : Nat) (h : Re w g A c l p 0) (hr : Bk w br #[.pointer (some ⟨g, 0, none⟩)] 115) (hv : Bk w bv #[.int .u8 0] 5) (hne : bv ≠ g) (hAb : ∀ a, A = some a → a.block ≠ bv) :
    Calls Try.prog 103 #[.pointer (some ⟨br, 0, none⟩), .pointer (some ⟨bv, 0, none⟩)] w fun en w' => en = .returned (.int .i64 (coreByte l p).err) ∧ Ch [g, bv] w w' ∧ Bk w' bv #[.int .u8 (coreByte l p).val] 5 ∧ ∃ q', Re w' g A c l q' 0 ∧ ((coreByte l p).err = 0 → q' = (coreByte l p).at') := by
  have c0 : w.cell? ⟨br, 0, none⟩ = some (.pointer (some ⟨g, 0, none⟩)) := hr.cell 0
  go_enter Try.func103, Try.ntmps103
  go_wp2_with fail
  refine (take_any w g A c l p 0 1 h (by omega)).mono ?_
  rintro en w1 ⟨ch1, ⟨hlt, rfl, r1⟩ | ⟨hlt, A', c', rfl, rd1, r1⟩⟩
  · have hk : coreByte l p = ⟨0, p, 10⟩ := by unfold coreByte; rw [List.getElem?_eq_none (by have := h.le; omega)]
    have hv1 := hv.ch ch1 (by simpa using hne)
    have HR := Lib.hid r1
    have HK := Lib.hid hk
    clear r1 c0 hlt hk
    go_wp2
    go_ret
    rw [HK.out]
    exact ⟨rfl, ch1.wide (by simp), hv1, p, HR.out, fun h => by cases h⟩
  · have hp : p < l.length := by have := h.le; omega
    have hk : coreByte l p = ⟨(l[p].toNat : Int), p + 1, 0⟩ := by unfold coreByte; rw [List.getElem?_eq_getElem hp]
    have hd : (l.drop p).take 1 = [l[p]] := by rw [List.drop_eq_getElem_cons hp]; rfl
    rw [hd] at rd1
    obtain ⟨ad, rfl, hcell⟩ := rd1 0 (.int .u8 l[p].toNat) rfl
    have hv1 := hv.ch ch1 (by simpa using hne)
    have cv : w1.cell? ⟨bv, 0, none⟩ = some (.int .u8 0) := hv1.cell 0
    have fv := hv1.frozen 0
    have hcell2 : w1.cell? ad = some (.int .u8 l[p].toNat) := by simpa [Addr.add] using hcell
    have HR := Lib.hid r1
    have HK := Lib.hid hk
    have HC := Lib.hid ch1
    generalize hz : (l[p].toNat : Int) = z at hcell hcell2
    have HZ := Lib.hid hz
    clear hz ch1
    -- (l[p].toNat : Int) = z at hcell hcell2
    clear r1 c0 hlt hk rd1 hd
    go_wp2
    go_ret
    rw [HK.out, HZ.out]
    refine ⟨rfl, ?_, hv1.set_ 0 _, p + 1, ?_, fun _ => rfl⟩
    · exact (HC.out.wide (by simp)).setCell (by simp) _
    · exact HR.out.ch ((Ch.refl [bv] _).setCell (by simp) _) (by simpa using fun h => hne h.symm) (fun a ha => by simpa using hAb a ha)
end Go.Proofs.Ytocgcalaiejbiaa

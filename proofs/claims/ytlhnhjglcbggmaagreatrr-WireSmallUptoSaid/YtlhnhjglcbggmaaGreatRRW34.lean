/-
  An argument of the claim opened: a slice of bytes. No condition.
  A header and a certificate among the arguments opened. No condition.
-/
import Derived.ProofKit
import Derived.OpenShut
import Derived.SizedLaws
import Derived.Test.YtlhnhjglcbggmaaGreatRRW11
import Derived.Test.YtlhnhjglcbggmaaGreatRRW07
import Derived.FnData
import Derived.Test.YtlhnhjglcbggmaaGreatRRW03
import Derived.Test.YtlhnhjglcbggmaaGreatRRRows
namespace Go.Proofs.YtlhnhjglcbggmaaGreatRR
set_option linter.unusedSimpArgs false
set_option linter.unusedVariables false
open Go.ChangeShapes Go.WideShapes Go.ChangeAt Go.RowKit
set_option maxRecDepth 100000

theorem cells_u8 : Tryz.prog.cellsOf 5 = 1 := by kernel_rfl
section
variable {H : Type} {enc : TypeId × Value → H}
end
end Go.Proofs.YtlhnhjglcbggmaaGreatRR
namespace Go.Proofs.YtlhnhjglcbggmaaGreatRR
set_option linter.unusedSimpArgs false
set_option linter.unusedVariables false
open Go.ChangeShapes Go.WideShapes Go.ChangeAt Go.RowKit
set_option maxRecDepth 100000

section
variable {H : Type} {enc : TypeId × Value → H} {W : World} {sp : Nat → Bool} {held : Bool}
theorem wf_i64 {n : Int} (h : (Lit.int .i64 n).wf = true) : I64 n := by
  simp [Lit.wf, IntKind.min, IntKind.max, IntKind.signed, IntKind.bits] at h
  unfold I64; omega
theorem wf_u64 {n : Int} (h : (Lit.int .u64 n).wf = true) : U64 n := by
  simp [Lit.wf, IntKind.min, IntKind.max, IntKind.signed, IntKind.bits] at h
  unfold U64; omega
theorem one_at {l : List Value} {k : Nat} {v : Value} (h : (l.drop k).take 1 = [v]) : l[k]? = some v := by
  have := congrArg (fun l : List Value => l[0]?) h
  simpa using this
/-- cells that read as bytes -/
theorem trod_bytes {n fuel : Nat} {t : TypeId} {cs : List Value} {x : DataW H × List MemPlace} (ht : Tryz.prog.underlying t = some (.array n 5)) (hn : Tryz.prog.cellsOf t = n) (h : DataW.trod enc Tryz.prog W 0 sp held fuel t cs = some x) :
    ∃ l : List UInt8, l.length = n ∧ cs = bv l := by
  obtain ⟨xs, m, _, hx, hc, hl, hi⟩ := DataW.trod_array ht h
  rw [hn] at hc
  have hb : ∀ i, i < n → ∃ b : UInt8, cs[i]? = some (.int .u8 (b.toNat : Int)) := fun i hin => by
    have h2 := hi i hin
    rw [cells_u8, Nat.mul_one, List.getElem?_eq_getElem (by omega)] at h2
    obtain ⟨k, hk, _, hw⟩ := DataW.trod_int Tryz.underlying5 h2
    refine ⟨UInt8.ofNat k.toNat, ?_⟩
    rw [one_at hk, byte_of]
    simp [Lit.wf, IntKind.min, IntKind.max, IntKind.signed, IntKind.bits] at hw
    congr 2
    omega
  refine ⟨cs.map fun v => match v with | .int _ k => UInt8.ofNat k.toNat | _ => 0, by simp [hc], ?_⟩
  apply List.ext_getElem?
  intro i
  rw [bv_get, List.getElem?_map]
  rcases Nat.lt_or_ge i n with hin | hin
  · obtain ⟨b, hb⟩ := hb i hin
    rw [hb]
    simp
  · rw [List.getElem?_eq_none (by omega)]; rfl
theorem trod_field {t : TypeId} {fs : Array Field} {fuel : Nat} {cs : List Value} {x : DataW H × List MemPlace} (hu : Tryz.prog.underlying t = some (.struct fs)) (h : DataW.trod enc Tryz.prog W 0 sp held fuel t cs = some x) (i : Nat) {ft : TypeId} {off : Nat} (hi : i < fs.size) (hf : (fs[i]?).map (fun f => (f.type, f.offset)) = some (ft, off)) :
    ∃ n y, DataW.trod enc Tryz.prog W 0 sp held n ft ((cs.drop off).take (Tryz.prog.cellsOf ft)) = some y := by
  obtain ⟨xs, n, _, _, _, hl, ht⟩ := DataW.trod_struct hu h
  obtain ⟨f, hf1, hf2⟩ := Option.map_eq_some_iff.1 hf
  have := ht i f hf1
  simp only [Prod.mk.injEq] at hf2
  rw [hf2.1, hf2.2, List.getElem?_eq_getElem (by omega)] at this
  exact ⟨n, _, this⟩
theorem list_of {α : Type} {P : Nat → α → Prop} : ∀ {n : Nat}, (∀ i, i < n → ∃ a, P i a) → ∃ l : List α, l.length = n ∧ ∀ (i : Nat) (h : i < l.length), P i l[i]
  | 0, _ => ⟨[], rfl, fun i h => absurd h (by simp)⟩
  | n + 1, h => by
    obtain ⟨l, hl, hp⟩ := list_of (n := n) fun i hi => h i (by omega)
    obtain ⟨a, ha⟩ := h n (by omega)
    refine ⟨l ++ [a], by simp [hl], fun i hi => ?_⟩
    rcases Nat.lt_or_ge i l.length with h1 | h1
    · rw [List.getElem_append_left h1]; exact hp i h1
    · have e : i = n := by simp at hi; omega
      subst e
      rw [List.getElem_append_right h1]
      simpa using ha
end
end Go.Proofs.YtlhnhjglcbggmaaGreatRR

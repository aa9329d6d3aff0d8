/-
  The document's own forms, further: join. Condition: the pieces have less than 2^46 bytes together.
-/
import Derived.Test.YtocgcalaiejbiaaRef2
namespace Go.Proofs.Ytocgcalaiejbiaa
set_option linter.unusedSimpArgs false
set_option linter.unusedVariables false
open Go.RowKit
set_option maxRecDepth 100000

/-- a slice value that reads as these bytes -/
def Part (w : World) (v : Value) (l : List UInt8) : Prop := ∃ A c, v = .slice A l.length c ∧ Rd w A (bv l)
theorem Bs.part {w : World} {B : Nat} {v : Value} {l : List UInt8} (h : Bs w B v l) : Part w v l := by
  obtain ⟨A, c, rfl⟩ := h.form
  exact ⟨A, c, rfl, h.rd⟩
theorem Part.below {w w' : World} {v : Value} {l : List UInt8} (h : Part w v l) (hb : Below w.heap.size w w') : Part w' v l := by
  obtain ⟨A, c, rfl, hr⟩ := h
  exact ⟨A, c, rfl, hr.below hb⟩
def Parts (w : World) (ps : List (Value × List UInt8)) : Prop := ∀ p ∈ ps, Part w p.1 p.2
def joined (ps : List (Value × List UInt8)) : List UInt8 := ps.flatMap (·.2)
theorem joined_take {ps : List (Value × List UInt8)} {k : Nat} (h : k < ps.length) : joined (ps.take (k + 1)) = joined (ps.take k) ++ ps[k].2 := by
  unfold joined
  rw [List.take_succ_eq_append_getElem h, List.flatMap_append]
  simp
theorem joined_le {ps : List (Value × List UInt8)} (k : Nat) : (joined (ps.take k)).length ≤ (joined ps).length := by
  have e : joined ps = joined (ps.take k) ++ joined (ps.drop k) := by
    unfold joined
    rw [← List.flatMap_append, List.take_append_drop]
  rw [e, List.length_append]
  omega

set_option maxHeartbeats 1000000 in
theorem join_any (w : World) (A : Option Addr) (n c : Nat) (ps : List (Value × List UInt8)) (hr : Rd w A (ps.map (·.1))) (hn : ps.length = n) (hp : Parts w ps) (hl : (joined ps).length ≤ reach47) (hm : n ≤ 1000000) :
    Calls Try.prog 71 #[.slice A n c] w fun e w' => ∃ v, e = .returned v ∧ Bs w' w.heap.size v (joined ps) ∧ Below w.heap.size w w' := by
  have Hn := Lib.hid hn; clear hn
  go_enter Try.func71, Try.ntmps71
  go_wp2
  go_loopw [3, 4] (fun b i wr => ∃ k : Nat, k ≤ n ∧ i = .int .i64 k ∧ Bs wr w.heap.size b (joined (ps.take k)) ∧ Below w.heap.size w wr) (fun _ i _ => n - (intOf i).toNat)
  case atStart => exact ⟨0, Nat.zero_le _, rfl, Bs.nil _ _, Below.refl _ _⟩
  case round =>
    obtain ⟨k, hk, rfl, hown, hbl⟩ := hrel
    by_cases hlt : k < n
    · have hkl : k < ps.length := by rw [Hn.out]; exact hlt
      obtain ⟨ad, hA, hcell⟩ := rd_at (hr.below hbl) (j := k) (u := ps[k].1) (by simp [hkl])
      obtain ⟨A1, c1, hv, hr1⟩ := (hp ps[k] (List.getElem_mem hkl)).below hbl
      rw [hv] at hcell
      have hj := joined_take hkl
      have hle := joined_le (ps := ps) (k + 1)
      rw [hj, List.length_append] at hle
      have hlen : (joined (ps.take k)).length + ps[k].2.length ≤ reach47 + 64 := by omega
      have Hj := Lib.hid hj; clear hj
      clear hv
      subst hA
      have hs := hbl.size
      go_wp2_with (at_builtin; go_must (refine wpList_app rfl _ _ rfl w.heap.size _ _ rfl hown A1 _ c1 ps[k].2 rfl rfl hr1 hlen hs ?_); intro A' c' w1 hown1 hg1 hat1)
      refine ⟨⟨k + 1, by omega, by go_num, by rw [Hj.out]; exact hown1, below_app hbl hown hg1 hs⟩, by simp [intOf]; omega⟩
    · have hk' : k = n := by omega
      have Hk := Lib.hid hk'; clear hk'
      go_wp2
      go_ret
      refine ⟨_, rfl, ?_, hbl⟩
      rw [List.take_of_length_le (by rw [Hn.out, Hk.out]; exact Nat.le_refl _)] at hown
      exact hown
end Go.Proofs.Ytocgcalaiejbiaa

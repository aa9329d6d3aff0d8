/-
  The law's helper turn: it writes over its slice, and appends to it: what else there is stays. Conditions: the slice is the call's own, below 2^46 bytes.
-/
import Derived.Test.YtocgcalaiejbiaaSame
namespace Go.Proofs.Ytocgcalaiejbiaa
set_option linter.unusedSimpArgs false
set_option linter.unusedVariables false
open Go.RowKit
set_option maxRecDepth 100000

/-- a row of bytes of the call's own, whatever they are -/
def Bz (w : World) (B : Nat) (v : Value) (n : Nat) : Prop := ∃ zs : List Int, w.ownsRow B 5 1 v n (zs.map (Value.int .u8))
theorem Bs.bz {w : World} {B : Nat} {v : Value} {l : List UInt8} (h : Bs w B v l) : Bz w B v l.length := ⟨l.map fun b => (b.toNat : Int), by rw [List.map_map]; exact h⟩
theorem grown_trans {w w1 w2 : World} {r r' : Option Nat} (h1 : w.grownBy w1 r) (h2 : w1.grownBy w2 r') (h : r' = r ∨ r' = none ∨ ∃ k, r' = some k ∧ w.heap.size ≤ k) : w.grownBy w2 r :=
  ⟨h2.os.trans h1.os, h2.tape.trans h1.tape, h2.output.trans h1.output, Nat.le_trans h1.size h2.size, fun k hk hr => by
    rw [h2.block k (Nat.lt_of_lt_of_le hk h1.size) ?_, h1.block k hk hr]
    intro e
    rcases h with h | h | ⟨j, h, hj⟩
    · exact hr (e.trans h)
    · rw [h] at e; cases e
    · rw [h] at e; cases e; omega⟩
theorem grown_drewN {w w1 : World} {r : Option Nat} (h : w.grownBy w1 r) (n : Nat) : w.grownBy (w1.drewN n) r := ⟨h.os, h.tape, h.output, h.size, h.block⟩

theorem bz_set {w : World} {B g n c : Nat} {zs : List Int} (h : w.ownsRow B 5 1 (.slice (some ⟨g, 0, none⟩) n c) n (zs.map (Value.int .u8))) (k : Nat) (u : Int) : Bz (w.setCell ⟨g, k, none⟩ (.int .u8 u)) B (.slice (some ⟨g, 0, none⟩) n c) n := by
  refine ⟨zs.set k u, ?_⟩
  have := (h.stored k (.int .u8 u)).1
  rw [← List.map_set] at this
  exact this
set_option maxHeartbeats 2000000 in
theorem turn_any (w : World) (B : Nat) (v : Value) (n : Nat) (d : Int) (h : Bz w B v n) (hn : n ≤ reach47) (hB : B ≤ w.heap.size) :
    Calls Try.prog 15 #[v, .int .u8 d] w fun e w' => (∃ u, e = .returned u) ∧ w.grownBy w' v.ownBlock := by
  obtain ⟨zs0, h0⟩ := h
  obtain ⟨A, c, rfl⟩ := own_form h0
  have hn' : n ≤ 9000000000000000000 := by unfold reach47 at hn; omega
  have HN := Lib.hid hn; clear hn
  go_enter Try.func15, Try.ntmps15
  go_wp2
  go_loopw [5] (fun i wr => ∃ k : Nat, k ≤ n ∧ i = .int .i64 k ∧ Bz wr B (.slice A n c) n ∧ w.grownBy wr (Value.slice A n c).ownBlock) (fun i _ => n - (intOf i).toNat)
  case atStart => exact ⟨0, Nat.zero_le _, rfl, ⟨zs0, h0⟩, World.grownBy.refl _ _⟩
  case round =>
    obtain ⟨k, hk, rfl, ⟨zs, hz⟩, hg⟩ := hrel
    by_cases hlt : k < n
    · rcases hz.2 with ⟨h', _⟩ | ⟨g, cap, cur, h', _⟩
      · simp only [Value.slice.injEq] at h'; omega
      · simp only [Value.slice.injEq] at h'
        obtain ⟨rfl, _, rfl⟩ := h'
        have hlen : zs.length = n := by have := hz.1; simpa using this
        have hkz : k < zs.length := by omega
        have c1 : wr.cell? ⟨g, k, none⟩ = some (.int .u8 zs[k]) := by rw [hz.cellAt k (by omega)]; simp [hkz]
        have c2 : wr.frozen? ⟨g, k, none⟩ = false := hz.frozenAt k
        have hst := fun u => hz.stored k (.int .u8 u)
        have Hst := Lib.hid hst; clear hst
        have Hz := Lib.hid hz; clear hz
        have Hlen := Lib.hid hlen; clear hlen
        generalize zs[k] = z at c1
        go_wp2
        refine ⟨⟨k + 1, by omega, by go_num, ?_, ?_⟩, by simp [intOf]; omega⟩
        · exact bz_set Hz.out k _
        · exact grown_trans hg (Hst.out _).2 (.inl rfl)
    · go_wp2
      go_loopw [0, 6] (fun v i wr => ∃ (m : Nat) (k : Nat), k ≤ 40 ∧ m ≤ n + k ∧ i = .int .i64 k ∧ Bz wr B v m ∧ w.grownBy wr (Value.slice A n c).ownBlock ∧ (v.ownBlock = (Value.slice A n c).ownBlock ∨ v.ownBlock = none ∨ ∃ j, v.ownBlock = some j ∧ w.heap.size ≤ j)) (fun _ i _ => 40 - (intOf i).toNat)
      case atStart => exact ⟨n, 0, by omega, by omega, rfl, ⟨zs, hz⟩, hg, .inl rfl⟩
      case round =>
        clear hz hg
        obtain ⟨m, k2, hk2, hm, rfl, ⟨zs2, hz2⟩, hg2, hat⟩ := hrel
        by_cases hlt2 : k2 < 40
        · obtain ⟨A2, c3, rfl⟩ := own_form hz2
          obtain ⟨i0, hi, hz0, hz1, hzz⟩ := info_u8'
          have Hi := Lib.hid hi; clear hi
          have Hz0 := Lib.hid hz0; clear hz0
          have Hz1 := Lib.hid hz1; clear hz1
          have Hzz := Lib.hid hzz; clear hzz
          have Hz2 := Lib.hid hz2; clear hz2
          have Hat := Lib.hid hat; clear hat
          have hsz := hg2.size
          go_wp2_with (at_builtin; go_must (refine wpList_append_rd _ rfl _ _ 36 rfl B 5 i0 (.int .u8 0) 1 1 Try.underlying36 Hi.out Hz0.out Hz1.out Hzz.out rfl (by decide) _ m _ rfl (Hz2.out.alloc _) _ 1 1 [.int .u8 d] rfl rfl (Rd.of_bk (Bk.new _ _ _) 0 _ (fun j u hu => by simpa using hu)) (by simp [Value.oneCell']) (by have := HN.out; unfold reach47 at this; unfold maxLen; omega) (by have := HN.out; unfold reach47 at this; omega) (by simp; omega) ?_); intro A' c' w5 hown5 hg5 hat5)
          refine ⟨⟨m + 1, k2 + 1, by omega, by omega, by go_num, ⟨zs2 ++ [d], by rw [List.map_append]; exact hown5⟩, ?_, ?_⟩, by simp [intOf]; omega⟩
          · exact grown_trans (grown_trans hg2 (World.grownBy_alloc _ _ none) (.inr (.inl rfl))) hg5 Hat.out
          · rcases hat5 with e | e
            · rw [e]; exact Hat.out
            · refine .inr (.inr ⟨_, e, by simp; omega⟩)
        · go_wp2
          go_ret
          exact ⟨⟨_, rfl⟩, hg2⟩
end Go.Proofs.Ytocgcalaiejbiaa

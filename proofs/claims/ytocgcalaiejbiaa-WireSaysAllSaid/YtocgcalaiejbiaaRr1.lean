/-
  The reference's reader (assentref01.Read): what it holds; take, Byte, Raw. Condition: it was made by New (Rr).
-/
import Derived.Test.YtocgcalaiejbiaaRd12
namespace Go.Proofs.Ytocgcalaiejbiaa
set_option linter.unusedSimpArgs false
set_option linter.unusedVariables false
open Go.RowKit
set_option maxRecDepth 100000

/-- a reader of the reference in block g over these bytes, at this place, with this error -/
structure Rr (w : World) (g : Nat) (A : Option Addr) (c : Nat) (l : List UInt8) (p : Nat) (e : Int) : Prop where
  bk : Bk w g #[.slice A l.length c, .int .i64 p, .int .i64 e] 126
  rd : Rd w A (bv l)
  ne : ∀ a, A = some a → a.block ≠ g
  lt : ∀ a, A = some a → a.block < w.heap.size
  le : p ≤ l.length
  cap : l.length ≤ c
  room : c ≤ 9223372036854775807
  reach : l.length ≤ reach47
namespace Rr
variable {w w' : World} {g : Nat} {A : Option Addr} {c : Nat} {l : List UInt8} {p : Nat} {e : Int}
theorem ch {ks : List Nat} (h : Rr w g A c l p e) (hc : Ch ks w w') (hg : g ∉ ks) (hd : ∀ a, A = some a → a.block ∉ ks) : Rr w' g A c l p e :=
  ⟨h.bk.ch hc hg, h.rd.ch hc hd, h.ne, fun a ha => Nat.lt_of_lt_of_le (h.lt a ha) hc.size, h.le, h.cap, h.room, h.reach⟩
theorem below (h : Rr w g A c l p e) (hb : Below w.heap.size w w') : Rr w' g A c l p e := h.ch (Ch.of_below [] hb) (by simp) (by simp)
theorem at_ (h : Rr w g A c l p e) (q : Nat) (hq : q ≤ l.length) : Rr (w.setCell ⟨g, 1, none⟩ (.int .i64 q)) g A c l q e := by
  have hne := h.ne
  refine ⟨h.bk.set_ 1 _, ?_, h.ne, fun a ha => by have := h.lt a ha; simpa [World.setCell] using this, hq, h.cap, h.room, h.reach⟩
  refine h.rd.ch (ks := [g]) ((Ch.refl [g] w).setCell (by simp) _) (fun a ha => by simpa using hne a ha)
theorem err_ (h : Rr w g A c l p e) (x : Int) : Rr (w.setCell ⟨g, 2, none⟩ (.int .i64 x)) g A c l p x := by
  have hne := h.ne
  refine ⟨h.bk.set_ 2 _, ?_, h.ne, fun a ha => by have := h.lt a ha; simpa [World.setCell] using this, h.le, h.cap, h.room, h.reach⟩
  refine h.rd.ch (ks := [g]) ((Ch.refl [g] w).setCell (by simp) _) (fun a ha => by simpa using hne a ha)
theorem drewN (h : Rr w g A c l p e) (n : Nat) : Rr (w.drewN n) g A c l p e := ⟨h.bk, h.rd, h.ne, h.lt, h.le, h.cap, h.room, h.reach⟩
theorem any (h : Rr w g A c l p e) (hh : w'.heap = w.heap) : Rr w' g A c l p e :=
  ⟨by unfold Bk; rw [hh]; exact h.bk, fun j u hu => by
      obtain ⟨ad, ha, hc⟩ := h.rd j u hu
      exact ⟨ad, ha, by rw [World.cell?_of_block (w := w) (by rw [hh])]; exact hc⟩, h.ne, fun a ha => by rw [hh]; exact h.lt a ha, h.le, h.cap, h.room, h.reach⟩
theorem low {B : Nat} (h : Rr w g A c l p e) (hb : Below B w w') (hg : g < B) (hA : ∀ a, A = some a → a.block < B) : Rr w' g A c l p e :=
  ⟨h.bk.below hb hg, h.rd.of_cells fun ad j ha _ => hb.cell (by rw [add_block]; exact hA ad ha), h.ne, fun a ha => Nat.lt_of_lt_of_le (h.lt a ha) hb.size, h.le, h.cap, h.room, h.reach⟩
theorem own {b : Nat} (h : Rr w g A c l p e) (hg' : w.grownBy w' (some b)) (hg : g < b) (hA : ∀ a, A = some a → a.block < b) : Rr w' g A c l p e :=
  h.ch (Ch.of_grown hg') (by simp; omega) (fun a ha => by have := hA a ha; simp; omega)
end Rr
def RrRes {α : Type} (g : Nat) (A : Option Addr) (c : Nat) (l : List UInt8) (k : Got α) (f : α → Value) (w : World) (en : Ending) (w' : World) : Prop :=
  en = .returned (f k.val) ∧ Ch [g] w w' ∧ Rr w' g A c l k.at' k.err

/-- what take answers: the bytes in new memory, and whether -/
def RtRes (g : Nat) (A : Option Addr) (c : Nat) (l : List UInt8) (k : Got (List UInt8)) (w : World) (en : Ending) (w' : World) : Prop :=
  ∃ A' m c', m = k.val.length ∧ en = .returned (.tuple #[.slice A' m c', .bool (decide (k.err = 0))]) ∧ Bs w' w.heap.size (.slice A' m c') k.val ∧ Ch [g] w w' ∧ Rr w' g A c l k.at' k.err

def PartN (l : List UInt8) : Known := fun v w => ∃ A m c, m = l.length ∧ v = .slice A m c ∧ Rd w A (bv l)
theorem PartN.steady (l : List UInt8) : Steady (PartN l) := fun v w w' h hb => by
  obtain ⟨A, m, c, h1, h2, h3⟩ := h
  exact ⟨A, m, c, h1, h2, h3.below hb⟩
def EmpK (B : Nat) : Known := fun v w => ∃ A c, v = .slice A 0 c ∧ Bs w B (.slice A 0 c) []
theorem EmpK.steady (B : Nat) : Steady (EmpK B) := fun v w w' h hb => by
  obtain ⟨A, c, h1, h2⟩ := h
  exact ⟨A, c, h1, h2.below hb⟩
theorem ch_bs {w w' : World} {g B : Nat} {v : Value} {bs : List UInt8} (h : Bs w' B v bs) : ∀ k, v.ownBlock = some k → B ≤ k := fun k hk => (World.ownsRow.lt h k hk).1
set_option maxHeartbeats 4000000 in
theorem rtake_any (w : World) (g : Nat) (A : Option Addr) (c : Nat) (l : List UInt8) (p : Nat) (e : Int) (n : Nat) (hn : n ≤ 9223372036854775807) (h : Rr w g A c l p e) :
    Calls Try.prog 111 #[.pointer (some ⟨g, 0, none⟩), .int .i64 n] w (RtRes g A c l (after [] p e (coreRaw l n p)) w) := by
  have hle := h.le
  have hcap := h.cap
  have hroom := h.room
  have hreach := h.reach
  unfold reach47 at hreach
  have H := Lib.hid h
  have c0 : w.cell? ⟨g, 0, none⟩ = some (.slice A l.length c) := h.bk.cell 0
  have c1 : w.cell? ⟨g, 1, none⟩ = some (.int .i64 p) := h.bk.cell 1
  have c2 : w.cell? ⟨g, 2, none⟩ = some (.int .i64 e) := h.bk.cell 2
  have f2 := h.bk.frozen 2
  clear h
  by_cases he : e = 0
  · subst he
    rw [after_zero]
    have W1 : IntKind.i64.wrap ((l.length : Int) - p) = (l.length : Int) - p := by rw [IntKind.wrap_i64]; omega
    by_cases hlt : l.length - p < n
    · have hk : coreRaw l n p = ⟨[], p, 10⟩ := by unfold coreRaw; rw [if_pos hlt]
      have HK := Lib.hid hk
      have hlt' : (l.length : Int) - p < n := by omega
      clear hk
      go_enter Try.func111, Try.ntmps111
      go_wp2
      go_quiet (fail)
      go_wp2
      go_ret2
      rw [HK.out]
      exact ⟨none, 0, 0, rfl, rfl, World.ownsRow_nil _ _ _ _, ((Ch.refl _ _).drewN _).setCell (by simp) _, (H.out.drewN _).err_ 10⟩
    · have hk : coreRaw l n p = ⟨(l.drop p).take n, p + n, 0⟩ := by unfold coreRaw; rw [if_neg hlt]
      have HK := Lib.hid hk
      have hlt' : ¬ (l.length : Int) - p < n := by omega
      have hlen : ((l.drop p).take n).length = n := by simp; omega
      have W2 : IntKind.i64.wrap ((p : Int) + n) = (p : Int) + n := by rw [IntKind.wrap_i64]; omega
      have b0 : (0 : Int) ≤ p := by omega
      have b1 : (p : Int) ≤ (p : Int) + n := by omega
      have b2 : (p : Int) + n ≤ c := by omega
      clear hk
      --R6
      obtain ⟨ys, hys⟩ : ∃ ys, (l.drop p).take n = ys := ⟨_, rfl⟩
      rw [hys] at hlen
      have HYS := Lib.hid hys
      have HYL := Lib.hid hlen
      have HK2 := Lib.hid (show coreRaw l n p = ⟨ys, p + n, 0⟩ from by rw [HK.out, hys])
      clear hys hlen HK
      go_enter Try.func111, Try.ntmps111
      go_wp2
      go_quiet (fail)
      go_wp2
      have HW := Lib.hid (H.out.drewN nq)
      have HSZ := Lib.hid (show w.heap.size = (w.drewN nq).heap.size from rfl)
      have HBW := Lib.hid (below_drewN (n := nq) (Below.refl w.heap.size w))
      generalize w.drewN nq = W at *
      clear c0 c1 c2 f2
      refine wp_region_free [(27, []), (28, []), (29, [(1, 28)]), (30, [(2, 29)]), (31, [(3, 30)]), (32, []), (33, [(5, 32)]), (34, [(6, 33)]), (35, [(7, 34)]), (36, []), (37, [(9, 36)]), (38, [(10, 37)]), (39, [(11, 38)]), (40, []), (41, [(12, 39), (13, 40)]), (42, [(4, 31), (8, 35), (14, 41)])]
        [EmpK w.heap.size, Is (.pointer (some ⟨g, 0, none⟩)), Is (.pointer (some ⟨g, 0, none⟩)), Is (.pointer (some ⟨g, 0, none⟩)), Is (.slice A l.length c), Is (.pointer (some ⟨g, 0, none⟩)), Is (.pointer (some ⟨g, 0, none⟩)), Is (.pointer (some ⟨g, 1, none⟩)), Is (.int .i64 p), Is (.pointer (some ⟨g, 0, none⟩)), Is (.pointer (some ⟨g, 0, none⟩)), Is (.pointer (some ⟨g, 1, none⟩)), Is (.int .i64 p), Is (.int .i64 n), Is (.int .i64 ((p : Int) + n)), PartN ys]
        (by kernel_rfl) (by kernel_rfl) (by rfl) ?stsix ?stepssix ?finsix
      case stsix => exact ⟨EmpK.steady _, Is.steady _, Is.steady _, Is.steady _, Is.steady _, Is.steady _, Is.steady _, Is.steady _, Is.steady _, Is.steady _, Is.steady _, Is.steady _, Is.steady _, Is.steady _, Is.steady _, PartN.steady _, trivial⟩
      case stepssix =>
        refine FreeSteps.cons (fun w2 hw2 => ?_) ?_
        · refine FreeStep.op rfl rfl ?_
          (try simp only [Act.put, List.setIfInBounds_toArray, List.set_cons_zero, List.set_cons_succ])
          go_wp2_with fail
          refine QStep.mk rfl ((Below.refl _ _).alloc (Nat.le_refl _) _) ?_
          exact ⟨_, _, rfl, Bs.made w2 w.heap.size #[] [] rfl (Nat.le_trans (Nat.le_of_eq HSZ.out) hw2.size) (by unfold reach47; simp)⟩
        refine FreeSteps.cons (fun w2 hw2 => ?_) ?_
        · (refine FreeStep.det rfl rfl rfl (by rfl) rfl rfl ?_; (try simp only [Act.put, List.setIfInBounds_toArray, List.set_cons_zero, List.set_cons_succ]); go_simp; (try with_reducible rfl))
        refine FreeSteps.cons (fun w2 hw2 => (FreeStep.is rfl ?_)) ?_
        · (refine FreeStep.det rfl rfl rfl (by rfl) rfl rfl ?_; (try simp only [Act.put, List.setIfInBounds_toArray, List.set_cons_zero, List.set_cons_succ]); go_simp; (try with_reducible rfl))
        refine FreeSteps.cons (fun w2 hw2 => (FreeStep.is rfl ?_)) ?_
        · (refine FreeStep.det rfl rfl rfl (by rfl) rfl rfl ?_; (try simp only [Act.put, List.setIfInBounds_toArray, List.set_cons_zero, List.set_cons_succ]); go_simp; (try with_reducible rfl))
        refine FreeSteps.cons (fun w2 hw2 => (FreeStep.is rfl ?_)) ?_
        · have c := (Bk.below (w := W.drew) HW.out.bk hw2 HW.out.bk.lt).cell 0
          simp at c
          (refine FreeStep.det rfl rfl rfl (by rfl) rfl rfl ?_; (try simp only [Act.put, List.setIfInBounds_toArray, List.set_cons_zero, List.set_cons_succ]); go_simp; (try with_reducible rfl))
        refine FreeSteps.cons (fun w2 hw2 => ?_) ?_
        · (refine FreeStep.det rfl rfl rfl (by rfl) rfl rfl ?_; (try simp only [Act.put, List.setIfInBounds_toArray, List.set_cons_zero, List.set_cons_succ]); go_simp; (try with_reducible rfl))
        refine FreeSteps.cons (fun w2 hw2 => (FreeStep.is rfl ?_)) ?_
        · (refine FreeStep.det rfl rfl rfl (by rfl) rfl rfl ?_; (try simp only [Act.put, List.setIfInBounds_toArray, List.set_cons_zero, List.set_cons_succ]); go_simp; (try with_reducible rfl))
        refine FreeSteps.cons (fun w2 hw2 => (FreeStep.is rfl ?_)) ?_
        · (refine FreeStep.det rfl rfl rfl (by rfl) rfl rfl ?_; (try simp only [Act.put, List.setIfInBounds_toArray, List.set_cons_zero, List.set_cons_succ]); go_simp; (try with_reducible rfl))
        refine FreeSteps.cons (fun w2 hw2 => (FreeStep.is rfl ?_)) ?_
        · have c := (Bk.below (w := W.drew) HW.out.bk hw2 HW.out.bk.lt).cell 1
          simp at c
          (refine FreeStep.det rfl rfl rfl (by rfl) rfl rfl ?_; (try simp only [Act.put, List.setIfInBounds_toArray, List.set_cons_zero, List.set_cons_succ]); go_simp; (try with_reducible rfl))
        refine FreeSteps.cons (fun w2 hw2 => ?_) ?_
        · (refine FreeStep.det rfl rfl rfl (by rfl) rfl rfl ?_; (try simp only [Act.put, List.setIfInBounds_toArray, List.set_cons_zero, List.set_cons_succ]); go_simp; (try with_reducible rfl))
        refine FreeSteps.cons (fun w2 hw2 => (FreeStep.is rfl ?_)) ?_
        · (refine FreeStep.det rfl rfl rfl (by rfl) rfl rfl ?_; (try simp only [Act.put, List.setIfInBounds_toArray, List.set_cons_zero, List.set_cons_succ]); go_simp; (try with_reducible rfl))
        refine FreeSteps.cons (fun w2 hw2 => (FreeStep.is rfl ?_)) ?_
        · (refine FreeStep.det rfl rfl rfl (by rfl) rfl rfl ?_; (try simp only [Act.put, List.setIfInBounds_toArray, List.set_cons_zero, List.set_cons_succ]); go_simp; (try with_reducible rfl))
        refine FreeSteps.cons (fun w2 hw2 => (FreeStep.is rfl ?_)) ?_
        · have c := (Bk.below (w := W.drew) HW.out.bk hw2 HW.out.bk.lt).cell 1
          simp at c
          (refine FreeStep.det rfl rfl rfl (by rfl) rfl rfl ?_; (try simp only [Act.put, List.setIfInBounds_toArray, List.set_cons_zero, List.set_cons_succ]); go_simp; (try with_reducible rfl))
        refine FreeSteps.cons (fun w2 hw2 => ?_) ?_
        · (refine FreeStep.det rfl rfl rfl (by rfl) rfl rfl ?_; (try simp only [Act.put, List.setIfInBounds_toArray, List.set_cons_zero, List.set_cons_succ]); go_simp; (try with_reducible rfl))
        refine FreeSteps.cons (fun w2 hw2 => (FreeStep.is rfl (FreeStep.is rfl ?_))) ?_
        · (refine FreeStep.det rfl rfl rfl (by rfl) rfl rfl ?_; (try simp only [Act.put, List.setIfInBounds_toArray, List.set_cons_zero, List.set_cons_succ]); go_simp; (try with_reducible rfl))
        refine FreeSteps.cons (fun w2 hw2 => (FreeStep.is rfl (FreeStep.is rfl (FreeStep.is rfl ?_)))) ?_
        · have hrd := ((Rr.any (w' := W.drew) HW.out rfl).below hw2).rd.drop p n
          rw [show ((bv l).drop p).take n = bv ys from by rw [← HYS.out]; simp [bv, List.map_take, List.map_drop]] at hrd
          have HRD := Lib.hid hrd
          clear hrd
          refine FreeStep.op rfl rfl ?_
          (try simp only [Act.put, List.setIfInBounds_toArray, List.set_cons_zero, List.set_cons_succ])
          by_cases hcp : c = p
          · subst hcp
            have hn0 : n = 0 := by omega
            have HY0 := Lib.hid (show ys = [] from by rw [← HYS.out, hn0]; simp)
            subst hn0
            go_wp2_with fail
            refine QStep.mk rfl (Below.refl _ _) ⟨_, _, _, ?_, rfl, ?_⟩
            · rw [HY0.out]; simp
            · rw [HY0.out]; exact Rd.nil _ _
          · have Hcp := Lib.hid hcp
            go_wp2_with fail
            refine QStep.mk rfl (Below.refl _ _) ⟨_, _, _, ?_, rfl, HRD.out⟩
            rw [HYL.out]; omega
        exact FreeSteps.nil
      case finsix =>
        intro w6 hw6
        refine FreeEnd.cons rfl fun vsix_0 hvsix_0 => ?_
        obtain ⟨A0, c0', rfl, s0⟩ := hvsix_0
        refine FreeEnd.is rfl ?_
        refine FreeEnd.is rfl ?_
        refine FreeEnd.is rfl ?_
        refine FreeEnd.is rfl ?_
        refine FreeEnd.is rfl ?_
        refine FreeEnd.is rfl ?_
        refine FreeEnd.is rfl ?_
        refine FreeEnd.is rfl ?_
        refine FreeEnd.is rfl ?_
        refine FreeEnd.is rfl ?_
        refine FreeEnd.is rfl ?_
        refine FreeEnd.is rfl ?_
        refine FreeEnd.is rfl ?_
        refine FreeEnd.is rfl ?_
        refine FreeEnd.cons rfl fun vsix_15 hvsix_15 => ?_
        obtain ⟨A2, m, c2', hm, rfl, r2⟩ := hvsix_15
        refine FreeEnd.nil ?_
        (try simp only [Act.put, List.setIfInBounds_toArray, List.set_cons_zero, List.set_cons_succ])
        simp only [List.length_cons, List.length_nil, Nat.reduceAdd, List.drop_succ_cons, List.drop_zero]
        have HB6 := Lib.hid hw6
        have S0 := Lib.hid s0
        have R2 := Lib.hid r2
        have HM := Lib.hid hm
        clear hw6 s0 r2 hm
        have SZ6 := Lib.hid (Nat.le_trans (Nat.le_of_eq HSZ.out) HB6.out.size)
        go_wp2_with (at_builtin; go_must (refine wpList_app rfl _ _ rfl w.heap.size (.slice A0 0 c0') [] rfl S0.out A2 m c2' ys rfl HM.out.symm R2.out (by have := HYL.out; unfold reach47; simp; omega) (Nat.le_trans (Nat.le_of_eq HSZ.out) HB6.out.size) ?_); intro A4 c4 w7 hown7 hg7 hat7; have R7 := Lib.hid (H.out.below (below_app ((HBW.out.drew).trans (HB6.out.mono (Nat.le_of_eq HSZ.out))) S0.out hg7 SZ6.out)); have B7 := Lib.hid (below_app ((HBW.out.drew).trans (HB6.out.mono (Nat.le_of_eq HSZ.out))) S0.out hg7 SZ6.out); have O7 : Hid (Bs w7 w.heap.size (.slice A4 m c4) ys) := Lib.hid (by simpa using hown7); have d1 : w7.cell? ⟨g, 1, none⟩ = some (.int .i64 p) := R7.out.bk.cell 1; have e1 := R7.out.bk.frozen 1; clear hown7 hg7 hat7 S0 R2)
        go_ret2
        rw [HK2.out]
        refine ⟨A4, m, c4, HM.out, by simp, bs_set O7.out R7.out.bk (by decide) 1 _, (Ch.of_below [g] B7.out).setCell (by simp) _, ?_⟩
        have R8 := R7.out.at_ (p + n) (by omega)
        rw [Int.natCast_add] at R8
        exact R8
  · have hk : after [] p e (coreRaw l n p) = ⟨[], p, e⟩ := after_ne _ _ _ he
    have HK := Lib.hid hk
    have h1 : (e != 0) = true := by simp [he]
    have h2 : (e == 0) = false := by simp [he]
    have HD := Lib.hid (show decide (e = 0) = false from by simp [he])
    clear hk he
    go_enter Try.func111, Try.ntmps111
    go_wp2
    go_ret2
    rw [HK.out]
    refine ⟨none, 0, 0, rfl, ?_, World.ownsRow_nil _ _ _ _, Ch.refl _ _, H.out⟩
    show _ = Ending.returned (.tuple #[_, .bool (decide (e = 0))])
    rw [HD.out]
    rfl
end Go.Proofs.Ytocgcalaiejbiaa

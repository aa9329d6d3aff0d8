/-
  A Hasher takes a piece of bytes: (*Hasher).Write. Conditions: the Hasher has taken l; the bytes lie in no cell of its own; there are not too many.
-/
import Derived.Test.YtjdegphpalhapaaDoorK07
import Derived.Test.YtjdegphpalhapaaDoorKFreeR
namespace Go.Proofs.YtjdegphpalhapaaDoor
set_option linter.unusedSimpArgs false
set_option linter.unusedVariables false
open Go.RowKit
set_option maxRecDepth 100000

theorem info_hasher : (Tryd.prog.info? 166).map (·.size) = some 75 := by kernel_rfl
theorem info_u64' : (Tryd.prog.info? 22).map (·.size) = some 1 := by kernel_rfl
theorem info_int' : (Tryd.prog.info? 3).map (·.size) = some 1 := by kernel_rfl
theorem info_su8 : (Tryd.prog.info? 5).map (·.size) = some 1 := by kernel_rfl
theorem info_chunk : (Tryd.prog.info? 164).map (·.size) = some 64 := by kernel_rfl

set_option maxHeartbeats 400000 in
theorem good_any (w : World) (g : Nat) (hc : w.cell? ⟨g, 0, none⟩ = some (.bool true)) :
    Calls Tryd.prog 118 #[.pointer (some ⟨g, 0, none⟩)] w fun e w' => e = .returned (.bool true) ∧ w = w' := by
  go_enter Tryd.func118, Tryd.ntmps118
  go_wp2
  go_ret
  exact ⟨rfl, rfl⟩

theorem grown_drew {w w' : World} {r : Option Nat} (h : w.grownBy w' r) : w.grownBy w'.drew r := ⟨h.os, h.tape, h.output, h.size, h.block⟩
theorem bv_take {rem x : List UInt8} {q j : Nat} {u : Value} (h : rem.take q = x) (hu : (bv x)[j]? = some u) : (bv rem)[j]? = some u := by
  have e : bv x = (bv rem).take q := by rw [← h]; simp [bv, List.map_take]
  rw [e, List.getElem?_take] at hu
  split at hu
  · exact hu
  · cases hu
def WrR (w : World) (g : Nat) (b : List UInt8) (l : List UInt8) (T : Int) (v : Value) (wr : World) : Prop :=
  ∃ (done rem : List UInt8) (A : Option Addr) (c : Nat), b = done ++ rem ∧ v = .slice A rem.length c ∧ rem.length ≤ c ∧ Rd wr A (bv rem) ∧ (∀ ad, A = some ad → ad.block ≠ g) ∧ Hs wr g (l ++ done) T ∧ w.grownBy wr (some g)

section
variable {P : Program} {ops : Array Oper} {o : Oper} {a : Act} {w : World} {K : Act → World → Prop} {Q : Exit → Act → World → Prop} {E : Prop}
theorem step_load_part (hgd : o.guard = none) (ty : TypeId) (x : Operand) (ho : o.op = .load ty x)
    (g off n : Nat) (hx : a.eval x = .pointer (some ⟨g, off, none⟩)) (cs : Array Value) (t : TypeId) (d : TypeDesc) (hk : Bk w g cs t) (hu : P.underlying ty = some d) (hd : aggD d = true) (hi : (P.info? ty).map (·.size) = some n) (hn : off + n ≤ cs.size)
    (v : Array Value) (hv : cs.extract off (off + n) = v) (h : K (a.put o.dst (.agg v)) w) : if Region.wanted o (yielded ops a.tmps) = true then Oper.wp P o a w K Q else E := by
  rw [if_pos (by simp [Region.wanted, hgd])]
  unfold Oper.wp execOp
  simp only [ho, hx, Instr.loadAt, Instr.sureAddr, Sem.run_bind, Sem.run_pure, Result.andThen_ok, run_loadVar_part hk hu hd hi hn, hv]
  exact h
theorem step_store_part (hgd : o.guard = none) (ty : TypeId) (x y : Operand) (ho : o.op = .store ty x y)
    (g off : Nat) (hx : a.eval x = .pointer (some ⟨g, off, none⟩)) (v : Value) (hy : a.eval y = v) (cs : Array Value) (t : TypeId) (hk : Bk w g cs t) (hi : (P.info? ty).map (·.size) = some v.cells.size) (hn : off + v.cells.size ≤ cs.size) (h1 : ∀ u ∈ v.cells.toList, u.oneCell' = true)
    (h : ∀ w', Bk w' g (splice cs off v.cells.toList) t → w.grownBy w' (some g) → w'.heap.size = w.heap.size → K (a.put o.dst undef) w') : if Region.wanted o (yielded ops a.tmps) = true then Oper.wp P o a w K Q else E := by
  rw [if_pos (by simp [Region.wanted, hgd])]
  unfold Oper.wp execOp
  simp only [ho, hx, hy, Instr.storeAt, Instr.sureAddr, Sem.run_bind, Sem.run_pure, Result.andThen_ok, run_storeVar_part hk hi hn h1]
  exact h _ (setRow_heap w g cs _ t _ hk) ⟨rfl, rfl, rfl, by simp, fun k _ hne => setRow_other w g k _ (fun e => hne (by rw [e]))⟩ (by simp)
end
theorem step_enter {P : Program} {ops : Array Oper} {o : Oper} {a : Act} {w : World} {K : Act → World → Prop} {Q : Exit → Act → World → Prop} {E : Prop} (hgd : o.guard = none) {f : FuncId} {vs : Array Value} {post : Ending → World → Prop}
    (hrun : (execOp a.eval o).run P w = .ok (.enter f vs) w) (hc : Calls P f vs w post) (hK : ∀ e w', post e w' → ∃ v, e = .returned v ∧ K (a.put o.dst v) w') :
    if Region.wanted o (yielded ops a.tmps) = true then Oper.wp P o a w K Q else E := by
  have hw : Region.wanted o (yielded ops a.tmps) = true := by simp [Region.wanted, hgd]
  rw [if_pos hw]
  unfold Oper.wp
  rw [hrun]
  refine Calls.mono hc fun e w' he => ?_
  obtain ⟨v, rfl, hv⟩ := hK e w' he
  exact hv
theorem ite_or {c' q : Nat} {ad : Addr} : (c' = q ∧ (if c' = q then ad else ad.add q) = ad) ∨ (c' ≠ q ∧ (if c' = q then ad else ad.add q) = ad.add q) := by
  by_cases h : c' = q
  · exact .inl ⟨h, if_pos h⟩
  · exact .inr ⟨h, if_neg h⟩
theorem drop_rd {w : World} {ad : Addr} {rem : List UInt8} {q : Nat} (h : Rd w (some ad) (bv rem)) : Rd w (some (ad.add q)) (bv (rem.drop q)) := fun j u hu => by
  rw [bv, List.map_drop, List.getElem?_drop] at hu
  obtain ⟨_, h1, h2⟩ := h (q + j) u hu
  injection h1 with h1
  subst h1
  refine ⟨_, rfl, ?_⟩
  rw [← h2]
  congr 1
  unfold Addr.add
  split <;> split <;> simp_all <;> omega
theorem rel_any {w w9 : World} {g m q c' : Nat} {l b done rem x : List UInt8} {T : Int} {ad A2 : Addr} (hbd : b = done ++ rem) (hm : rem.length = m) (hxl : x.length = q) (hx : rem.take q = x) (hrc : m ≤ c') (hq : q ≤ m) (hh : Hs w9 g (l ++ (done ++ x)) T) (hg : w.grownBy w9 (some g)) (hr : Rd w9 (some ad) (bv rem)) (hne : ∀ a, some ad = some a → a.block ≠ g)
    (hA : (c' = q ∧ A2 = ad) ∨ (c' ≠ q ∧ A2 = ad.add q)) : WrR w g b l T (.slice (some A2) (m - q) (c' - q)) w9 := by
  have hd : (rem.drop q).length = m - q := by rw [List.length_drop, hm]
  refine ⟨done ++ x, rem.drop q, some A2, c' - q, ?_, by rw [hd], by rw [hd]; omega, ?_, ?_, hh, hg⟩
  · rw [hbd, ← hx, List.append_assoc, List.take_append_drop]
  · rcases hA with ⟨h1, h2⟩ | ⟨h1, h2⟩
    · have e : rem.drop q = [] := List.drop_eq_nil_of_le (by omega)
      rw [e]
      exact Rd.nil _ _
    · rw [h2]
      exact drop_rd hr
  · intro a ha
    injection ha with ha
    rw [← ha]
    rcases hA with ⟨h1, h2⟩ | ⟨h1, h2⟩
    · rw [h2]; exact hne _ rfl
    · rw [h2, add_block]; exact hne _ rfl
theorem rel_short {w w9 : World} {g m q c' H : Nat} {l b done rem x part5 : List UInt8} {T : Int} {ad A2 : Addr} (hbd : b = done ++ rem) (hm : rem.length = m) (hxl : x.length = q) (hx : rem.take q = x) (hrc : m ≤ c') (hq : q ≤ m) (hH : (l ++ done).length % 64 = H) (hf : H + q < 64) (hp5 : part5.length = 64) (hpt : part5.take (H + q) = rest (l ++ done) ++ x)
    (hk : Bk w9 g (hc (eat comp begin256 (l ++ done)) part5 ((H : Int) + q) T).toArray 166) (hg : w.grownBy w9 (some g)) (hr : Rd w9 (some ad) (bv rem)) (hne : ∀ a, some ad = some a → a.block ≠ g)
    (hA : (c' = q ∧ A2 = ad) ∨ (c' ≠ q ∧ A2 = ad.add q)) : WrR w g b l T (.slice (some A2) (m - q) (c' - q)) w9 := by
  obtain ⟨t1, t2, t3⟩ := take_short (l := l ++ done) (x := x) (by rw [hH, hxl]; exact hf)
  refine rel_any hbd hm hxl hx hrc hq ⟨part5, hp5, ?_, ?_⟩ hg hr hne hA
  · rw [← List.append_assoc, t2, t3, hH, hxl]; exact hpt
  · rw [← List.append_assoc, t1, t2, hH, hxl]; simpa using hk
theorem rel_full {w w9 : World} {g m q c' H : Nat} {l b done rem x part5 : List UInt8} {T : Int} {ad A2 : Addr} (hbd : b = done ++ rem) (hm : rem.length = m) (hxl : x.length = q) (hx : rem.take q = x) (hrc : m ≤ c') (hq : q ≤ m) (hH : (l ++ done).length % 64 = H) (hf : H + q = 64) (hp5 : part5.length = 64) (hpt : part5.take (H + q) = rest (l ++ done) ++ x)
    (hk : Bk w9 g (hc (comp (eat comp begin256 (l ++ done)) part5) part5 0 T).toArray 166) (hg : w.grownBy w9 (some g)) (hr : Rd w9 (some ad) (bv rem)) (hne : ∀ a, some ad = some a → a.block ≠ g)
    (hA : (c' = q ∧ A2 = ad) ∨ (c' ≠ q ∧ A2 = ad.add q)) : WrR w g b l T (.slice (some A2) (m - q) (c' - q)) w9 := by
  obtain ⟨t1, t2, t3⟩ := take_full (l := l ++ done) (x := x) (by rw [hH, hxl]; exact hf)
  have hpp : rest (l ++ done) ++ x = part5 := by rw [← hpt, List.take_of_length_le (by omega)]
  refine rel_any hbd hm hxl hx hrc hq ⟨part5, hp5, ?_, ?_⟩ hg hr hne hA
  · rw [← List.append_assoc, t2, t3]; rfl
  · rw [← List.append_assoc, t1, t2, hpp]; exact hk

set_option maxHeartbeats 4000000 in
theorem write_any (w : World) (g : Nat) (l b : List UInt8) (A : Option Addr) (n cp : Nat) (hn : b.length = n) (hcp : n ≤ cp) (hr : Rd w A (bv b)) (hne : ∀ ad, A = some ad → ad.block ≠ g) (hh : Hs w g l l.length) (hb : l.length + n ≤ room46) (ha : Adds w 3) (hG : 3 < w.heap.size) (hGg : 3 ≠ g) :
    Calls Tryd.prog 105 #[.pointer (some ⟨g, 0, none⟩), .slice A n cp] w fun e w' => e = .returned (.tuple #[]) ∧ Hs w' g (l ++ b) (l ++ b).length ∧ w.grownBy w' (some g) := by
  obtain ⟨part, hp, hpr, hk⟩ := hh
  have x0 := (hk.cell 0).trans (hc_0 _ _ _ _)
  have x74 := (hk.cell 74).trans (hc_74 hp)
  have HN := Lib.hid hn; clear hn
  have HR := Lib.hid hr; clear hr
  have HNE := Lib.hid hne; clear hne
  have HP := Lib.hid hp; clear hp
  have HPR := Lib.hid hpr; clear hpr
  have HA := Lib.hid ha; clear ha
  have HGG := Lib.hid hGg; clear hGg
  have HK := Lib.hid hk; clear hk
  unfold room46 at hb
  obtain ⟨L, hL⟩ : ∃ L, l.length = L := ⟨_, rfl⟩
  rw [hL] at x74 hb
  have HL := Lib.hid hL; clear hL
  have hn0 : n ≤ 70368744177664 := by omega
  have e1 : IntKind.u64.wrap (n : Int) = n := by rw [IntKind.wrap_u64]; omega
  have e2 : IntKind.u64.wrap ((L : Int) + n) = (L : Int) + n := by rw [IntKind.wrap_u64]; omega
  go_enter Tryd.func105, Tryd.ntmps105
  go_wp2_with (first
    | (go_at_call 118; (with_reducible refine (good_any _ _ x0).mono ?_); rintro e w2 ⟨rfl, rfl⟩)
    | (with_reducible show wpList _ _ _ (Oper.mk _ (Op.store 22 _ _) _ _ _ _ :: _) _ _; refine wpList_store_w rfl 22 _ _ rfl g 74 rfl _ _ rfl _ _ HK.out info_u64' (by simp [hc_len HP.out]) ?_))
  intro w1 hk1 hg1 hs1
  have hh1 : Hs w1 g l ((L : Int) + n) := ⟨part, HP.out, HPR.out, by rw [← splice_74 HP.out]; exact hk1⟩
  have HW := Lib.hid (show WrR w g b l ((L : Int) + n) (.slice A n cp) w1 from ⟨[], b, A, cp, rfl, by rw [HN.out], by rw [HN.out]; exact hcp, HR.out.grown hg1 HNE.out, HNE.out, by simpa using hh1, hg1⟩)
  clear hk1 hg1 hs1 hh1 HP HPR HK e1 e2 x0 x74 HR
  go_wp2
  go_loopw [1] (fun v wr => WrR w g b l ((L : Int) + n) v wr) (fun v _ => match v with | .slice _ m _ => m | _ => 0)
  case atStart => exact HW.out
  case round =>
    clear HW
    obtain ⟨done, rem, A', c', hbd, rfl, hrc, hr, hne, ⟨part, hp, hpr, hk⟩, hg⟩ := hrel
    obtain ⟨m, hm⟩ : ∃ m, rem.length = m := ⟨_, rfl⟩
    have HBD := Lib.hid hbd
    have HMM := Lib.hid hm
    rw [hm] at hrc ⊢
    have HS := Lib.hid hk
    have HP := Lib.hid hp
    have HPR := Lib.hid hpr
    have HGR := Lib.hid hg
    have HRR := Lib.hid hr
    have HNN := Lib.hid hne
    have hmn : m ≤ n := by have := HN.out; rw [hbd, List.length_append, hm] at this; omega
    by_cases hz : 0 < m
    · obtain ⟨ad, hA, hx⟩ := hr.at_ (j := 0) (by rw [bv_length]; omega)
      have x73 := (hk.cell 73).trans (hc_73 hp)
      obtain ⟨H, hH⟩ : ∃ H, (l ++ done).length % 64 = H := ⟨_, rfl⟩
      rw [hH] at x73
      have hH64 : H < 64 := by omega
      have HH := Lib.hid hH
      subst hA
      clear hbd hm hk hp hpr hg hr hne hx hH
      have HZ : (0 : Int) < m := by omega
      have i1 : (H : Int) ≤ 64 := by omega
      have i2 : ¬ (64 = H) := by omega
      obtain ⟨q, hq⟩ : ∃ q, Nat.min m (64 - H) = q := ⟨_, rfl⟩
      have hq1 : q ≤ m := by rw [← hq]; exact Nat.min_le_left _ _
      have hq2 : H + q ≤ 64 := by have h2 : Nat.min m (64 - H) ≤ 64 - H := Nat.min_le_right _ _; rw [hq] at h2; omega
      have hq3 : 0 < q := by rw [← hq]; exact Nat.lt_min.2 ⟨hz, by omega⟩
      obtain ⟨x, hx⟩ : ∃ x, rem.take q = x := ⟨_, rfl⟩
      have hxl : x.length = q := by rw [← hx, List.length_take, HMM.out]; omega
      have HX := Lib.hid hx
      have HXL := Lib.hid hxl
      have HQ := Lib.hid hq
      clear hq hx hxl
      go_wp2
      go_still_tail 9, (by kernel_rfl)
      clear x73 i2
      change wpList _ _ _ _ _ wr.drew
      refine wpList_copy_bk (w := wr.drew) rfl (.tmp 28) (.tmp 29) 57 57 rfl 5 Tryd.underlying57 info_su8 g (9 + H) (64 - H) (64 - H) ad m c' rfl rfl _ _ HS.out (bv x) (by rw [bv_length, HXL.out, HQ.out]) ?hsrc (by rw [List.size_toArray, hc_len HP.out, bv_length, HXL.out]; omega) (bv_one x) ?_
      case hsrc =>
        intro j u hu
        obtain ⟨_, h1, h2⟩ := HRR.out j u (bv_take (HX.out) hu)
        injection h1 with h1
        subst h1
        exact h2
      intro w5 hk5 hg5' hs5
      have hg5 : wr.grownBy w5 (some g) := ⟨hg5'.os, hg5'.tape, hg5'.output, hg5'.size, hg5'.block⟩
      clear hg5'
      obtain ⟨part5, hp5⟩ : ∃ p, part.take H ++ (x ++ part.drop (H + x.length)) = p := ⟨_, rfl⟩
      have HP5 := Lib.hid (show part5.length = 64 from hp5 ▸ part_len HP.out (by rw [HXL.out]; exact hq2))
      have HPT := Lib.hid (show part5.take (H + q) = rest (l ++ done) ++ x from by
        rw [← hp5, ← HXL.out]
        exact part_take (by rw [← HPR.out, HH.out]) (by rw [HP.out]; omega))
      have hk6 : Bk w5 g (hc (eat comp begin256 (l ++ done)) part5 H ((L : Int) + n)).toArray 166 := by
        rw [← hp5, ← splice_part HP.out (by rw [HXL.out]; exact hq2), ← HH.out]
        rw [← HH.out] at hk5
        exact hk5
      have x73 := (hk6.cell 73).trans (hc_73 HP5.out)
      have HG5 := Lib.hid (grw_trans HGR.out hg5)
      have HR5 := Lib.hid (HRR.out.grown (g := g) hg5 HNN.out)
      have HK6 := Lib.hid hk6
      have HBL := Lib.hid (show (bv x).length = q by rw [bv_length, HXL.out])
      rw [HBL.out]
      clear hk5 hg5 hs5 hk6 HS HP HPR HRR HGR hp5 HBL
      have e3 : IntKind.i64.wrap ((H : Int) + q) = (H : Int) + q := by rw [IntKind.wrap_i64]; omega
      have i5 : (q : Int) ≤ m := by omega
      go_wp2_with (with_reducible show wpList _ _ _ (Oper.mk _ (Op.store 3 _ _) _ _ _ _ :: _) _ _; refine wpList_store_w rfl 3 _ _ rfl g 73 rfl _ _ rfl _ _ HK6.out info_int' (by simp [hc_len HP5.out]) ?_)
      intro w6 hk6 hg6 hs6
      -- FULL
      have hk7 : Bk w6 g (hc (eat comp begin256 (l ++ done)) part5 ((H : Int) + q) ((L : Int) + n)).toArray 166 := by
        rw [← splice_73 (h := (H : Int)) HP5.out]; exact hk6
      have x73 := (hk7.cell 73).trans (hc_73 HP5.out)
      have HK7 := Lib.hid hk7
      have HG6 := Lib.hid (grw_trans HG5.out hg6)
      have HR6 := Lib.hid (HR5.out.grown (g := g) hg6 HNN.out)
      clear hk6 hg6 hs6 hk7 HK6 HG5 HR5 e3
      by_cases hf : H + q = 64
      · have f1 : ((H : Int) + q == 64) = true := by simp; omega
        have f2 : ((H : Int) + q = 64) = True := by simp; omega
        have HF := Lib.hid hf
        clear hf f2
        go_wp2
        all_goals
          refine wp_region_any (by kernel_rfl) ?_
          change wpAny _ _ _ _ _ _ _ (World.drew _)
          refine wpAny_take (i := 0) (oi := ⟨some 47, .move (.tmp 0), _, _, _, none⟩) (v := .pointer (some ⟨g, 0, none⟩)) rfl (by kernel_rfl) (by kernel_rfl) (by kernel_rfl) (fun _ _ _ h => h) (Or.inl ⟨by rfl, fun wz => by go_simp⟩) ?_
          simp only [Act.put, List.setIfInBounds_toArray, List.set_cons_zero, List.set_cons_succ]
          refine wpAny_take (i := 1) (oi := ⟨some 48, .move (.tmp 0), _, _, _, none⟩) (v := .pointer (some ⟨g, 0, none⟩)) rfl (by kernel_rfl) (by kernel_rfl) (by kernel_rfl) (fun _ _ _ h => h) (Or.inl ⟨by rfl, fun wz => by go_simp⟩) ?_
          simp only [Act.put, List.setIfInBounds_toArray, List.set_cons_zero, List.set_cons_succ]
          refine wpAny_take (i := 2) (oi := ⟨some 49, .move (.tmp 0), _, _, _, none⟩) (v := .pointer (some ⟨g, 0, none⟩)) rfl (by kernel_rfl) (by kernel_rfl) (by kernel_rfl) (fun _ _ _ h => h) (Or.inl ⟨by rfl, fun wz => by go_simp⟩) ?_
          simp only [Act.put, List.setIfInBounds_toArray, List.set_cons_zero, List.set_cons_succ]
          refine wpAny_take (i := 3) (oi := ⟨some 50, .nilCheck (.tmp 49), _, _, _, none⟩) (v := .pointer (some ⟨g, 0, none⟩)) rfl (by kernel_rfl) (by kernel_rfl) (by kernel_rfl) (fun _ _ _ h => h) (Or.inl ⟨by rfl, fun wz => by go_simp⟩) ?_
          simp only [Act.put, List.setIfInBounds_toArray, List.set_cons_zero, List.set_cons_succ]
          refine wpAny_take (i := 4) (oi := ⟨some 51, .fieldAddr 166 (.tmp 50) 1, _, _, _, none⟩) (v := .pointer (some ⟨g, 1, none⟩)) rfl (by kernel_rfl) (by kernel_rfl) (by kernel_rfl) (fun _ _ _ h => h) (Or.inl ⟨by rfl, fun wz => by go_simp⟩) ?_
          simp only [Act.put, List.setIfInBounds_toArray, List.set_cons_zero, List.set_cons_succ]
          refine wpAny_take (i := 6) (oi := ⟨some 53, .move (.tmp 0), _, _, _, none⟩) (v := .pointer (some ⟨g, 0, none⟩)) rfl (by kernel_rfl) (by kernel_rfl) (by kernel_rfl) (fun _ _ _ h => h) (Or.inl ⟨by rfl, fun wz => by go_simp⟩) ?_
          simp only [Act.put, List.setIfInBounds_toArray, List.set_cons_zero, List.set_cons_succ]
          refine wpAny_take (i := 7) (oi := ⟨some 54, .nilCheck (.tmp 53), _, _, _, none⟩) (v := .pointer (some ⟨g, 0, none⟩)) rfl (by kernel_rfl) (by kernel_rfl) (by kernel_rfl) (fun _ _ _ h => h) (Or.inl ⟨by rfl, fun wz => by go_simp⟩) ?_
          simp only [Act.put, List.setIfInBounds_toArray, List.set_cons_zero, List.set_cons_succ]
          refine wpAny_take (i := 8) (oi := ⟨some 55, .fieldAddr 166 (.tmp 54) 2, _, _, _, none⟩) (v := .pointer (some ⟨g, 9, none⟩)) rfl (by kernel_rfl) (by kernel_rfl) (by kernel_rfl) (fun _ _ _ h => h) (Or.inl ⟨by rfl, fun wz => by go_simp⟩) ?_
          simp only [Act.put, List.setIfInBounds_toArray, List.set_cons_zero, List.set_cons_succ]
          refine wpAny_ready (rs := [5, 9]) (by kernel_rfl) (by simp) ?_
          refine AllReady.cons (o := ⟨some 52, .load 163 (.tmp 51), _, _, _, none⟩) rfl (fun K hK => ?_) (AllReady.cons (o := ⟨some 56, .load 164 (.tmp 55), _, _, _, none⟩) rfl (fun K hK => ?_) AllReady.nil)
          ·
            refine step_load_part rfl 163 _ rfl g 1 8 rfl _ _ _ (w := w6.drew) HK7.out Tryd.underlying163 rfl info_state (by rw [hc_size HP5.out]; decide) _ (words_part _ _ _ _) ?_
            go_simp
            refine hK _ _ ?_
            clear hK K
            refine wpAny_ready (rs := [9]) (by kernel_rfl) (by simp) ?_
            refine AllReady.cons (o := ⟨some 56, .load 164 (.tmp 55), _, _, _, none⟩) rfl (fun K hK => ?_) AllReady.nil
            refine step_load_part rfl 164 _ rfl g 9 64 rfl _ _ _ (w := w6.drew) HK7.out Tryd.underlying164 rfl info_chunk (by rw [hc_size HP5.out]; decide) _ (part_part HP5.out) ?_
            go_simp
            refine hK _ _ ?_
            clear hK K
            refine wpAny_ready (rs := [10]) (by kernel_rfl) (by simp) ?_
            refine AllReady.cons (o := ⟨some 57, .call { callee := .value (.func 119), args := #[.tmp 52, .tmp 56], argTypes := #[163, 164] }, _, _, _, none⟩) rfl (fun K hK => ?_) AllReady.nil
            refine step_enter rfl (by go_simp) (mix_any _ (eat comp begin256 (l ++ done)) part5 HP5.out ((HA.out.grown (grown_drew HG6.out) hG HGG.out)) (Nat.lt_of_lt_of_le hG HG6.out.size)) ?_
            rintro e w7 ⟨rfl, hb7⟩
            refine ⟨_, rfl, ?_⟩
            have HK8 := Lib.hid (Bk.below (w := w6.drew) HK7.out hb7 HK7.out.lt)
            have HG8 := Lib.hid (grown_below (grown_drew HG6.out) hb7)
            have HR8 := Lib.hid (Rd.below (w := w6.drew) HR6.out hb7)
            clear hb7
            go_simp
            refine hK _ _ ?_
            clear hK K
            refine wpAny_take (i := 11) (oi := ⟨some 58, .nilCheck (.tmp 47), _, _, _, none⟩) (v := .pointer (some ⟨g, 0, none⟩)) rfl (by kernel_rfl) (by kernel_rfl) (by kernel_rfl) (fun _ _ _ h => h) (Or.inl ⟨by rfl, fun wz => by go_simp⟩) ?_
            simp only [Act.put, List.setIfInBounds_toArray, List.set_cons_zero, List.set_cons_succ]
            refine wpAny_take (i := 12) (oi := ⟨some 59, .fieldAddr 166 (.tmp 58) 1, _, _, _, none⟩) (v := .pointer (some ⟨g, 1, none⟩)) rfl (by kernel_rfl) (by kernel_rfl) (by kernel_rfl) (fun _ _ _ h => h) (Or.inl ⟨by rfl, fun wz => by go_simp⟩) ?_
            simp only [Act.put, List.setIfInBounds_toArray, List.set_cons_zero, List.set_cons_succ]
            refine wpAny_ready (rs := [13]) (by kernel_rfl) (by simp) ?_
            refine AllReady.cons (o := ⟨none, .store 163 (.tmp 59) (.tmp 57), _, _, _, none⟩) rfl (fun K hK => ?_) AllReady.nil
            refine step_store_part rfl 163 _ _ rfl g 1 rfl (.agg (uv (comp (eat comp begin256 (l ++ done)) part5).list).toArray) rfl _ _ HK8.out (by rw [size_state]; exact info_state) (by rw [size_state, hc_size HP5.out]; decide) (uv_one _) ?_
            intro w8 hk8 hg8 hs8
            have HK9 := Lib.hid (show Bk w8 g (hc (comp (eat comp begin256 (l ++ done)) part5) part5 ((H : Int) + q) ((L : Int) + n)).toArray 166 from hk8)
            have HG9 := Lib.hid (grw_trans HG8.out hg8)
            have HR9 := Lib.hid (HR8.out.grown (g := g) hg8 HNN.out)
            clear hk8 hg8 hs8
            go_simp
            refine hK _ _ ?_
            clear hK K
            refine wpAny_take (i := 14) (oi := ⟨some 60, .nilCheck (.tmp 48), _, _, _, none⟩) (v := .pointer (some ⟨g, 0, none⟩)) rfl (by kernel_rfl) (by kernel_rfl) (by kernel_rfl) (fun _ _ _ h => h) (Or.inl ⟨by rfl, fun wz => by go_simp⟩) ?_
            simp only [Act.put, List.setIfInBounds_toArray, List.set_cons_zero, List.set_cons_succ]
            refine wpAny_take (i := 15) (oi := ⟨some 61, .fieldAddr 166 (.tmp 60) 3, _, _, _, none⟩) (v := .pointer (some ⟨g, 73, none⟩)) rfl (by kernel_rfl) (by kernel_rfl) (by kernel_rfl) (fun _ _ _ h => h) (Or.inl ⟨by rfl, fun wz => by go_simp⟩) ?_
            simp only [Act.put, List.setIfInBounds_toArray, List.set_cons_zero, List.set_cons_succ]
            refine wpAny_ready (rs := [16]) (by kernel_rfl) (by simp) ?_
            refine AllReady.cons (o := ⟨none, .store 3 (.tmp 61) (.const (.int .i64 0)), _, _, _, none⟩) rfl (fun K hK => ?_) AllReady.nil
            refine step_store_part rfl 3 _ _ rfl g 73 rfl (.int .i64 0) rfl _ _ HK9.out info_int' (by rw [hc_size HP5.out]; decide) (by simp [Value.cells, Value.oneCell']) ?_
            intro w9 hk9 hg9 hs9
            have HK10 := Lib.hid (show Bk w9 g (hc (comp (eat comp begin256 (l ++ done)) part5) part5 0 ((L : Int) + n)).toArray 166 from splice_73 (h := (H : Int) + q) (h' := 0) HP5.out ▸ hk9)
            have HG10 := Lib.hid (grw_trans HG9.out hg9)
            have HR10 := Lib.hid (HR9.out.grown (g := g) hg9 HNN.out)
            clear hk9 hg9 hs9
            go_simp
            refine hK _ _ ?_
            clear hK K
            refine wpAny_done (by kernel_rfl) ?_ _
            go_wp2
            go_roundw
            case rel => first | (have z := rel_full HBD.out HMM.out HXL.out HX.out hrc hq1 HH.out HF.out HP5.out HPT.out HK10.out HG10.out HR10.out HNN.out (A2 := ad) (Or.inl ⟨by assumption, rfl⟩); rw [show c' - q = 0 by omega] at z; exact z) | exact rel_full HBD.out HMM.out HXL.out HX.out hrc hq1 HH.out HF.out HP5.out HPT.out HK10.out HG10.out HR10.out HNN.out (Or.inr ⟨by assumption, rfl⟩) | (have z := rel_full HBD.out HMM.out HXL.out HX.out hrc hq1 HH.out HF.out HP5.out HPT.out HK10.out HG10.out HR10.out HNN.out ite_or; rw [apply_ite some] at z; exact z)
            case measure => show m - q < m; omega
          ·
            refine step_load_part rfl 164 _ rfl g 9 64 rfl _ _ _ (w := w6.drew) HK7.out Tryd.underlying164 rfl info_chunk (by rw [hc_size HP5.out]; decide) _ (part_part HP5.out) ?_
            go_simp
            refine hK _ _ ?_
            clear hK K
            refine wpAny_ready (rs := [5]) (by kernel_rfl) (by simp) ?_
            refine AllReady.cons (o := ⟨some 52, .load 163 (.tmp 51), _, _, _, none⟩) rfl (fun K hK => ?_) AllReady.nil
            refine step_load_part rfl 163 _ rfl g 1 8 rfl _ _ _ (w := w6.drew) HK7.out Tryd.underlying163 rfl info_state (by rw [hc_size HP5.out]; decide) _ (words_part _ _ _ _) ?_
            go_simp
            refine hK _ _ ?_
            clear hK K
            refine wpAny_ready (rs := [10]) (by kernel_rfl) (by simp) ?_
            refine AllReady.cons (o := ⟨some 57, .call { callee := .value (.func 119), args := #[.tmp 52, .tmp 56], argTypes := #[163, 164] }, _, _, _, none⟩) rfl (fun K hK => ?_) AllReady.nil
            refine step_enter rfl (by go_simp) (mix_any _ (eat comp begin256 (l ++ done)) part5 HP5.out ((HA.out.grown (grown_drew HG6.out) hG HGG.out)) (Nat.lt_of_lt_of_le hG HG6.out.size)) ?_
            rintro e w7 ⟨rfl, hb7⟩
            refine ⟨_, rfl, ?_⟩
            have HK8 := Lib.hid (Bk.below (w := w6.drew) HK7.out hb7 HK7.out.lt)
            have HG8 := Lib.hid (grown_below (grown_drew HG6.out) hb7)
            have HR8 := Lib.hid (Rd.below (w := w6.drew) HR6.out hb7)
            clear hb7
            go_simp
            refine hK _ _ ?_
            clear hK K
            refine wpAny_take (i := 11) (oi := ⟨some 58, .nilCheck (.tmp 47), _, _, _, none⟩) (v := .pointer (some ⟨g, 0, none⟩)) rfl (by kernel_rfl) (by kernel_rfl) (by kernel_rfl) (fun _ _ _ h => h) (Or.inl ⟨by rfl, fun wz => by go_simp⟩) ?_
            simp only [Act.put, List.setIfInBounds_toArray, List.set_cons_zero, List.set_cons_succ]
            refine wpAny_take (i := 12) (oi := ⟨some 59, .fieldAddr 166 (.tmp 58) 1, _, _, _, none⟩) (v := .pointer (some ⟨g, 1, none⟩)) rfl (by kernel_rfl) (by kernel_rfl) (by kernel_rfl) (fun _ _ _ h => h) (Or.inl ⟨by rfl, fun wz => by go_simp⟩) ?_
            simp only [Act.put, List.setIfInBounds_toArray, List.set_cons_zero, List.set_cons_succ]
            refine wpAny_ready (rs := [13]) (by kernel_rfl) (by simp) ?_
            refine AllReady.cons (o := ⟨none, .store 163 (.tmp 59) (.tmp 57), _, _, _, none⟩) rfl (fun K hK => ?_) AllReady.nil
            refine step_store_part rfl 163 _ _ rfl g 1 rfl (.agg (uv (comp (eat comp begin256 (l ++ done)) part5).list).toArray) rfl _ _ HK8.out (by rw [size_state]; exact info_state) (by rw [size_state, hc_size HP5.out]; decide) (uv_one _) ?_
            intro w8 hk8 hg8 hs8
            have HK9 := Lib.hid (show Bk w8 g (hc (comp (eat comp begin256 (l ++ done)) part5) part5 ((H : Int) + q) ((L : Int) + n)).toArray 166 from hk8)
            have HG9 := Lib.hid (grw_trans HG8.out hg8)
            have HR9 := Lib.hid (HR8.out.grown (g := g) hg8 HNN.out)
            clear hk8 hg8 hs8
            go_simp
            refine hK _ _ ?_
            clear hK K
            refine wpAny_take (i := 14) (oi := ⟨some 60, .nilCheck (.tmp 48), _, _, _, none⟩) (v := .pointer (some ⟨g, 0, none⟩)) rfl (by kernel_rfl) (by kernel_rfl) (by kernel_rfl) (fun _ _ _ h => h) (Or.inl ⟨by rfl, fun wz => by go_simp⟩) ?_
            simp only [Act.put, List.setIfInBounds_toArray, List.set_cons_zero, List.set_cons_succ]
            refine wpAny_take (i := 15) (oi := ⟨some 61, .fieldAddr 166 (.tmp 60) 3, _, _, _, none⟩) (v := .pointer (some ⟨g, 73, none⟩)) rfl (by kernel_rfl) (by kernel_rfl) (by kernel_rfl) (fun _ _ _ h => h) (Or.inl ⟨by rfl, fun wz => by go_simp⟩) ?_
            simp only [Act.put, List.setIfInBounds_toArray, List.set_cons_zero, List.set_cons_succ]
            refine wpAny_ready (rs := [16]) (by kernel_rfl) (by simp) ?_
            refine AllReady.cons (o := ⟨none, .store 3 (.tmp 61) (.const (.int .i64 0)), _, _, _, none⟩) rfl (fun K hK => ?_) AllReady.nil
            refine step_store_part rfl 3 _ _ rfl g 73 rfl (.int .i64 0) rfl _ _ HK9.out info_int' (by rw [hc_size HP5.out]; decide) (by simp [Value.cells, Value.oneCell']) ?_
            intro w9 hk9 hg9 hs9
            have HK10 := Lib.hid (show Bk w9 g (hc (comp (eat comp begin256 (l ++ done)) part5) part5 0 ((L : Int) + n)).toArray 166 from splice_73 (h := (H : Int) + q) (h' := 0) HP5.out ▸ hk9)
            have HG10 := Lib.hid (grw_trans HG9.out hg9)
            have HR10 := Lib.hid (HR9.out.grown (g := g) hg9 HNN.out)
            clear hk9 hg9 hs9
            go_simp
            refine hK _ _ ?_
            clear hK K
            refine wpAny_done (by kernel_rfl) ?_ _
            go_wp2
            go_roundw
            case rel => first | (have z := rel_full HBD.out HMM.out HXL.out HX.out hrc hq1 HH.out HF.out HP5.out HPT.out HK10.out HG10.out HR10.out HNN.out (A2 := ad) (Or.inl ⟨by assumption, rfl⟩); rw [show c' - q = 0 by omega] at z; exact z) | exact rel_full HBD.out HMM.out HXL.out HX.out hrc hq1 HH.out HF.out HP5.out HPT.out HK10.out HG10.out HR10.out HNN.out (Or.inr ⟨by assumption, rfl⟩) | (have z := rel_full HBD.out HMM.out HXL.out HX.out hrc hq1 HH.out HF.out HP5.out HPT.out HK10.out HG10.out HR10.out HNN.out ite_or; rw [apply_ite some] at z; exact z)
            case measure => show m - q < m; omega
      · have f1 : ((H : Int) + q == 64) = false := by simp; omega
        have hf2 : H + q < 64 := by omega
        clear hf
        go_wp2
        all_goals
          go_roundw
          case rel => first | (have z := rel_short HBD.out HMM.out HXL.out HX.out hrc hq1 HH.out hf2 HP5.out HPT.out HK7.out HG6.out HR6.out HNN.out (A2 := ad) (Or.inl ⟨by assumption, rfl⟩); rw [show c' - q = 0 by omega] at z; exact z) | exact rel_short HBD.out HMM.out HXL.out HX.out hrc hq1 HH.out hf2 HP5.out HPT.out HK7.out HG6.out HR6.out HNN.out (Or.inr ⟨by assumption, rfl⟩) | (have z := rel_short HBD.out HMM.out HXL.out HX.out hrc hq1 HH.out hf2 HP5.out HPT.out HK7.out HG6.out HR6.out HNN.out ite_or; rw [apply_ite some] at z; exact z)
          case measure => show m - q < m; omega
    · have hm0 : m = 0 := by omega
      subst hm0
      have hrem : rem = [] := List.length_eq_zero_iff.1 HMM.out
      have HREM := Lib.hid hrem
      clear hrem hz hbd hm hk hp hpr hg hr hne
      go_wp2
      go_end0
      have hb2 : b = done := by rw [HBD.out, HREM.out, List.append_nil]
      refine ⟨rfl, ⟨part, HP.out, by rw [hb2]; exact HPR.out, ?_⟩, HGR.out⟩
      have e : ((l ++ b).length : Int) = (L : Int) + n := by rw [List.length_append, HN.out, HL.out]; simp
      rw [e, hb2]
      exact HS.out
end Go.Proofs.YtjdegphpalhapaaDoor

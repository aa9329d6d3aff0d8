/-
  The reference's PlainEvidence and its form of evidence. Condition: each number fits its kind.
  The program's roots of lists of transfers. Conditions: the list lies in memory; each number fits its kind; the tables read as they were laid.
-/
import Derived.Test.YtjdegphpalhapaaDoorKEv3
import Derived.Test.YtjdegphpalhapaaDoorK20
import Derived.Test.YtjdegphpalhapaaDoorK30
namespace Go.Proofs.YtjdegphpalhapaaDoor
set_option linter.unusedSimpArgs false
set_option linter.unusedVariables false
open Go.RowKit
set_option maxRecDepth 100000

-- ---- Below: the bytes of a lie before those of b
theorem cmp_step (a b : UInt8) (la lb : List UInt8) : Lib.compareBytes (a :: la) (b :: lb) = if a < b then -1 else if b < a then 1 else Lib.compareBytes la lb := rfl
theorem cmp_drop {l r : List UInt8} {k : Nat} {a b : UInt8} (hl : l[k]? = some a) (hr : r[k]? = some b) : Lib.compareBytes (l.drop k) (r.drop k) = if a < b then -1 else if b < a then 1 else Lib.compareBytes (l.drop (k + 1)) (r.drop (k + 1)) := by
  have h1 := (List.getElem?_eq_some_iff.1 hl)
  have h2 := (List.getElem?_eq_some_iff.1 hr)
  obtain ⟨h1, e1⟩ := h1
  obtain ⟨h2, e2⟩ := h2
  rw [List.drop_eq_getElem_cons h1, List.drop_eq_getElem_cons h2, e1, e2, cmp_step]
theorem bk_drewN {w : World} {g n : Nat} {cs : Array Value} {t : TypeId} (h : Bk w g cs t) : Bk (w.drewN n) g cs t := h
theorem below_drewNE {B n : Nat} {a w : World} (h : Below B a w) : Below B a (w.drewN n) := ⟨h.os, h.tape, h.output, h.size, h.block⟩
set_option maxHeartbeats 1000000 in
theorem rBelow_any (w : World) (l r : List UInt8) (hl : l.length = 32) (hr : r.length = 32) :
    Calls Tryd.prog 70 #[.agg (bv l).toArray, .agg (bv r).toArray] w fun e w' => e = .returned (.bool (decide (Lib.compareBytes l r < 0))) ∧ Below w.heap.size w w' := by
  obtain ⟨C, hC⟩ : ∃ C, Lib.compareBytes l r = C := ⟨_, rfl⟩
  have HC := Lib.hid hC
  rw [hC]
  have HL := Lib.hid hl
  have HR := Lib.hid hr
  clear hl hr hC
  go_enter Tryd.func70, Tryd.ntmps70
  go_wp2_with (with_reducible show wpList _ _ _ (Oper.mk _ (Op.box _ _) _ _ _ _ :: _) _ _; refine wpList_box_i rfl _ _ rfl _ rfl ?_)
  intro g1 w1 hk1 hb1 hg1 hs1
  go_wp2_with (with_reducible show wpList _ _ _ (Oper.mk _ (Op.box _ _) _ _ _ _ :: _) _ _; refine wpList_box_i rfl _ _ rfl _ rfl ?_)
  intro g2 w2 hk2 hb2 hg2 hs2
  have HK1 := Lib.hid ((bk_eqT (cs' := (bv l).toArray) hk1 rfl).below hb2 hk1.lt)
  have HK2 := Lib.hid (bk_eqT (cs' := (bv r).toArray) hk2 rfl)
  have HB2 := Lib.hid (hb1.trans (hb2.mono hb1.size))
  clear hk1 hb1 hg1 hs1 hk2 hb2 hg2 hs2
  go_wp2
  go_loopw [5] (fun i wr => ∃ k : Nat, k ≤ 32 ∧ i = .int .i64 (k : Int) ∧ Lib.compareBytes (l.drop k) (r.drop k) = C ∧ Bk wr g1 (bv l).toArray 29 ∧ Bk wr g2 (bv r).toArray 29 ∧ Below w.heap.size w wr) (fun i _ => 32 - (intOf i).toNat)
  case atStart => exact ⟨0, by omega, rfl, by simpa using HC.out, HK1.out, HK2.out, HB2.out⟩
  case round =>
    clear HK1 HK2 HB2
    obtain ⟨k, hk, rfl, hc, h4, h5, h6⟩ := hrel
    have HK1 := Lib.hid h4
    have HK2 := Lib.hid h5
    have HW := Lib.hid h6
    have HCK := Lib.hid hc
    clear h4 h5 h6 hc
    by_cases hlt : k < 32
    · have p0 : (k : Int) < 32 := by omega
      obtain ⟨a, ha⟩ : ∃ a, l[k]? = some a := ⟨_, List.getElem?_eq_getElem (by rw [HL.out]; exact hlt)⟩
      obtain ⟨b, hb⟩ : ∃ b, r[k]? = some b := ⟨_, List.getElem?_eq_getElem (by rw [HR.out]; exact hlt)⟩
      have HST := Lib.hid (show C = if a < b then -1 else if b < a then 1 else Lib.compareBytes (l.drop (k + 1)) (r.drop (k + 1)) by rw [← HCK.out, cmp_drop ha hb])
      have c1 : wr.cell? ⟨g1, k, none⟩ = some (.int .u8 (a.toNat : Int)) := (HK1.out.cell k).trans (by rw [List.getElem?_toArray, bv_get, ha]; rfl)
      have c2 : wr.cell? ⟨g2, k, none⟩ = some (.int .u8 (b.toNat : Int)) := (HK2.out.cell k).trans (by rw [List.getElem?_toArray, bv_get, hb]; rfl)
      clear ha hb
      by_cases hab : a = b
      · subst hab
        have HN := Lib.hid (show Lib.compareBytes (l.drop (k + 1)) (r.drop (k + 1)) = C by rw [HST.out, if_neg (UInt8.lt_irrefl a), if_neg (UInt8.lt_irrefl a)])
        generalize (a.toNat : Int) = z at c1 c2
        go_wp2
        go_quiet (fail)
        go_wp2
        exact ⟨⟨k + 1, by omega, by go_num, HN.out, bk_drewN HK1.out, bk_drewN HK2.out, below_drewNE HW.out⟩, by simp [intOf]; omega⟩
      · have hz : ¬ ((a.toNat : Int) = (b.toNat : Int)) := by
          intro h; apply hab; exact UInt8.toNat_inj.mp (by omega)
        by_cases hl2 : a < b
        · have HV := Lib.hid (show decide (C < 0) = true by rw [HST.out, if_pos hl2]; rfl)
          have hi : (a.toNat : Int) < (b.toNat : Int) := by have := UInt8.lt_iff_toNat_lt.1 hl2; omega
          clear hl2 hab
          generalize (a.toNat : Int) = z1 at c1 hz hi
          generalize (b.toNat : Int) = z2 at c2 hz hi
          go_wp2
          go_quiet (fail)
          go_wp2
          go_quiet (fail)
          go_wp2
          go_ret
          exact ⟨ret_bool HV.out.symm, by first | exact below_drewNE (below_drewNE HW.out) | exact below_drewNE HW.out⟩
        · have hba : b < a := by
            rcases Nat.lt_trichotomy a.toNat b.toNat with h | h | h
            · exact absurd (UInt8.lt_iff_toNat_lt.2 h) hl2
            · exact absurd (UInt8.toNat_inj.1 h) hab
            · exact UInt8.lt_iff_toNat_lt.2 h
          have HV := Lib.hid (show decide (C < 0) = false by rw [HST.out, if_neg hl2, if_pos hba]; rfl)
          have hi : ¬ (a.toNat : Int) < (b.toNat : Int) := by have := UInt8.lt_iff_toNat_lt.1 hba; omega
          clear hl2 hab hba
          generalize (a.toNat : Int) = z1 at c1 hz hi
          generalize (b.toNat : Int) = z2 at c2 hz hi
          go_wp2
          go_quiet (fail)
          go_wp2
          go_quiet (fail)
          go_wp2
          go_ret
          exact ⟨ret_bool (by first | exact HV.out.symm | exact (decide_eq_false (by omega)).trans HV.out.symm), by first | exact below_drewNE (below_drewNE HW.out) | exact below_drewNE HW.out⟩
    · have hk32 : k = 32 := by omega
      have HV := Lib.hid (show decide (C < 0) = false by
        rw [← HCK.out, hk32, List.drop_of_length_le (by rw [HL.out]; omega), List.drop_of_length_le (by rw [HR.out]; omega)]; rfl)
      clear hlt
      go_wp2
      go_ret
      exact ⟨ret_bool HV.out.symm, HW.out⟩

theorem Ev.cell_a (x : Ev) (hx : x.ok) {j : Nat} {u : Value} (h : x.a.cl.toArray[j]? = some u) : x.cl.toArray[j]? = some u := by
  rw [List.getElem?_toArray] at h ⊢
  rw [Ev.cl, List.getElem?_append_left (List.getElem?_eq_some_iff.1 h).1]
  exact h
theorem Ev.cell_b (x : Ev) (hx : x.ok) {j : Nat} {u : Value} (h : x.b.cl.toArray[j]? = some u) : x.cl.toArray[53 + j]? = some u := by
  rw [List.getElem?_toArray] at h ⊢
  rw [Ev.cl, List.getElem?_append_right (by rw [x.a.cl_len hx.a]; omega), x.a.cl_len hx.a, Nat.add_sub_cancel_left]
  exact h
theorem Ev.cl_ida (x : Ev) (hx : x.ok) : x.cl.toArray.extract 3 (3 + 32) = (bv x.a.id).toArray := by
  refine extract_cl _ _ _ _ ?_
  have e : x.cl.drop 3 = bv x.a.id ++ ([.int .u64 x.a.time, .int .u64 x.a.frm] ++ bv x.a.sl ++ x.b.cl) := by simp [Ev.cl, Vote.cl]
  rw [e, show 3 + 32 - 3 = (bv x.a.id).length from by rw [bv_length, hx.a.id]]
  exact List.take_left
theorem Ev.cl_idb (x : Ev) (hx : x.ok) : x.cl.toArray.extract 56 (56 + 32) = (bv x.b.id).toArray := by
  refine extract_cl _ _ _ _ ?_
  have e : x.cl.drop 56 = bv x.b.id ++ ([.int .u64 x.b.time, .int .u64 x.b.frm] ++ bv x.b.sl) := by
    rw [Ev.cl, show 56 = x.a.cl.length + 3 by rw [x.a.cl_len hx.a], ← List.drop_drop, List.drop_left]
    simp [Vote.cl]
  rw [e, show 56 + 32 - 56 = (bv x.b.id).length from by rw [bv_length, hx.b.id]]
  exact List.take_left

set_option maxHeartbeats 4000000 in
theorem rPlainEv_any (w : World) (x : Ev) (hx : x.ok) :
    Calls Tryd.prog 38 #[.agg x.cl.toArray] w fun e w' => e = .returned (.int .i64 (plainEv x)) ∧ Below w.heap.size w w' := by
  have HX := Lib.hid hx
  have HL := Lib.hid (x.cl_len hx)
  obtain ⟨EA, hEA⟩ : ∃ E, plainVote x.a = E := ⟨_, rfl⟩
  obtain ⟨EB, hEB⟩ : ∃ E, plainVote x.b = E := ⟨_, rfl⟩
  obtain ⟨C, hC⟩ : ∃ C, Lib.compareBytes x.a.id x.b.id = C := ⟨_, rfl⟩
  obtain ⟨R, hR⟩ : ∃ R, plainEv x = R := ⟨_, rfl⟩
  obtain ⟨q1, h1⟩ : ∃ q, (x.a.kind != x.b.kind) = q := ⟨_, rfl⟩
  obtain ⟨q2, h2⟩ : ∃ q, (x.a.height != x.b.height) = q := ⟨_, rfl⟩
  obtain ⟨q3, h3⟩ : ∃ q, (x.a.round != x.b.round) = q := ⟨_, rfl⟩
  obtain ⟨q4, h4⟩ : ∃ q, (x.a.frm != x.b.frm) = q := ⟨_, rfl⟩
  have HRR := Lib.hid (show R = if firstErr [EA, EB, field (q1 || q2 || q3 || q4)] ≠ 0 then firstErr [EA, EB, field (q1 || q2 || q3 || q4)] else if 0 ≤ C then 42 else 0 by
    rw [← hR]; unfold plainEv headEv unlike; rw [hEA, hEB, h1, h2, h3, h4, hC])
  have HEA := Lib.hid hEA
  have HEB := Lib.hid hEB
  have HC := Lib.hid hC
  rw [hR]
  clear hx hEA hEB hC hR
  go_enter Tryd.func38, Tryd.ntmps38
  go_wp2_with (with_reducible show wpList _ _ _ (Oper.mk _ (Op.box _ _) _ _ _ _ :: _) _ _; refine wpList_box_bk rfl _ _ rfl _ rfl ?_)
  intro g w1 hk hbl hg hs
  have HK1 := Lib.hid (bk_eqT (cs' := x.cl.toArray) hk rfl)
  have HB1 := Lib.hid hbl
  clear hg hs hk hbl
  go_wp2_with (with_reducible show wpList _ _ _ (Oper.mk (some 6) (Op.load _ _) _ _ _ _ :: _) _ _; go_must (refine wpList_load_part rfl 73 _ rfl g 0 53 rfl _ _ _ HK1.out Tryd.underlying73 rfl info_Vote (by simp [HL.out]) _ (x.cl_a HX.out) ?_); go_wp2_with fail)
  refine (rPlainVote_any w1 x.a HX.out.a).mono ?_
  rintro e w2 ⟨rfl, hl2⟩
  rw [plainVoteR_eq, HEA.out]
  have HK2 := Lib.hid (HK1.out.below hl2 HK1.out.lt)
  have HB2 := Lib.hid (HB1.out.trans (hl2.mono HB1.out.size))
  clear hl2 HK1 HB1
  by_cases ha : EA = 0
  case neg =>
    have f1 : (EA != 0) = true := by simp [ha]
    have HA0 := Lib.hid ha
    clear ha
    go_wp2
    go_ret
    exact ⟨ret_i64 (by
      have e : firstErr [EA, EB, field (q1 || q2 || q3 || q4)] = EA := by unfold firstErr; rw [if_pos HA0.out]
      rw [HRR.out, e, if_pos HA0.out]), HB2.out⟩
  have f1 : (EA != 0) = false := by simp [ha]
  have HA0 := Lib.hid ha
  clear ha
  go_wp2_with (with_reducible show wpList _ _ _ (Oper.mk (some 12) (Op.load _ _) _ _ _ _ :: _) _ _; go_must (refine wpList_load_part rfl 73 _ rfl g 53 53 rfl _ _ _ HK2.out Tryd.underlying73 rfl info_Vote (by simp [HL.out]) _ (x.cl_b HX.out) ?_); go_wp2_with fail)
  refine (rPlainVote_any w2 x.b HX.out.b).mono ?_
  rintro e w3 ⟨rfl, hl3⟩
  rw [plainVoteR_eq, HEB.out]
  have HK3 := Lib.hid (HK2.out.below hl3 HK2.out.lt)
  have HB3 := Lib.hid (HB2.out.trans (hl3.mono HB2.out.size))
  clear hl3 HK2 HB2
  by_cases hb : EB = 0
  case neg =>
    have f2 : (EB != 0) = true := by simp [hb]
    have HB0 := Lib.hid hb
    clear hb
    go_wp2
    go_ret
    exact ⟨ret_i64 (by
      have e : firstErr [EA, EB, field (q1 || q2 || q3 || q4)] = EB := by rw [HA0.out]; simp [firstErr, HB0.out]
      rw [HRR.out, e, if_pos HB0.out]), HB3.out⟩
  have f2 : (EB != 0) = false := by simp [hb]
  have HB0 := Lib.hid hb
  clear hb
  have ca0 : w3.cell? ⟨g, 0, none⟩ = some (.int .i64 x.a.kind) := (HK3.out.cell 0).trans (x.cell_a HX.out rfl)
  have ca1 : w3.cell? ⟨g, 1, none⟩ = some (.int .u64 x.a.height) := (HK3.out.cell 1).trans (x.cell_a HX.out rfl)
  have ca2 : w3.cell? ⟨g, 2, none⟩ = some (.int .i64 x.a.round) := (HK3.out.cell 2).trans (x.cell_a HX.out rfl)
  have ca3 : w3.cell? ⟨g, 36, none⟩ = some (.int .u64 x.a.frm) := (HK3.out.cell 36).trans (x.cell_a HX.out (x.a.cl_36 HX.out.a.id))
  have cb0 : w3.cell? ⟨g, 53, none⟩ = some (.int .i64 x.b.kind) := (HK3.out.cell 53).trans (x.cell_b HX.out (j := 0) rfl)
  have cb1 : w3.cell? ⟨g, 54, none⟩ = some (.int .u64 x.b.height) := (HK3.out.cell 54).trans (x.cell_b HX.out (j := 1) rfl)
  have cb2 : w3.cell? ⟨g, 55, none⟩ = some (.int .i64 x.b.round) := (HK3.out.cell 55).trans (x.cell_b HX.out (j := 2) rfl)
  have cb3 : w3.cell? ⟨g, 89, none⟩ = some (.int .u64 x.b.frm) := (HK3.out.cell 89).trans (x.cell_b HX.out (j := 36) (x.b.cl_36 HX.out.b.id))
  by_cases hq : q1 = false ∧ q2 = false ∧ q3 = false ∧ q4 = false
  · obtain ⟨rfl, rfl, rfl, rfl⟩ := hq
    have HR2 := Lib.hid (show R = if 0 ≤ C then 42 else 0 by rw [HRR.out, HA0.out, HB0.out]; rfl)
    go_wp2_with (first
      | (with_reducible show wpList _ _ _ (Oper.mk (some 53) (Op.load _ _) _ _ _ _ :: _) _ _; go_must (refine wpList_load_part rfl 29 _ rfl g 3 32 rfl _ _ _ HK3.out Tryd.underlying29 rfl info_hash (by simp [HL.out]) _ (x.cl_ida HX.out) ?_))
      | (with_reducible show wpList _ _ _ (Oper.mk (some 56) (Op.load _ _) _ _ _ _ :: _) _ _; go_must (refine wpList_load_part rfl 29 _ rfl g 56 32 rfl _ _ _ HK3.out Tryd.underlying29 rfl info_hash (by simp [HL.out]) _ (x.cl_idb HX.out) ?_)))
    refine (rBelow_any w3 x.a.id x.b.id HX.out.a.id HX.out.b.id).mono ?_
    rintro e w4 ⟨rfl, hl4⟩
    rw [HC.out]
    have HB4 := Lib.hid (HB3.out.trans (hl4.mono HB3.out.size))
    clear hl4 ca0 ca1 ca2 ca3 cb0 cb1 cb2 cb3
    by_cases hc : C < 0
    · have HCC := Lib.hid hc
      have hd : decide (C < 0) = true := decide_eq_true hc
      go_wp2
      go_ret
      exact ⟨ret_i64 (by rw [HR2.out, if_neg (by have := HCC.out; omega)]), HB4.out⟩
    · have HCC := Lib.hid hc
      have hd : decide (C < 0) = false := decide_eq_false hc
      go_wp2
      go_ret
      exact ⟨ret_i64 (by rw [HR2.out, if_pos (by have := HCC.out; omega)]), HB4.out⟩
  · have HR2 := Lib.hid (show R = 41 by
      have e : (q1 || q2 || q3 || q4) = true := by cases q1 <;> cases q2 <;> cases q3 <;> cases q4 <;> first | rfl | exact absurd ⟨rfl, rfl, rfl, rfl⟩ hq
      rw [HRR.out, HA0.out, HB0.out, e]; rfl)
    cases q1 <;> cases q2 <;> cases q3 <;> cases q4
    all_goals first
      | exact absurd ⟨rfl, rfl, rfl, rfl⟩ hq
      | (go_wp2
         go_ret
         exact ⟨ret_i64 HR2.out.symm, HB3.out⟩)

theorem refVote_fv (x : Vote) : refVote x true = fvE x := by
  unfold refVote fvE encVote optB; simp [List.append_assoc]
set_option maxHeartbeats 4000000 in
theorem rEvidence_any (w : World) (x : Ev) (hx : x.ok) (ha : VoteB x.a) (hb : VoteB x.b) :
    Calls Tryd.prog 39 #[.agg x.cl.toArray] w fun e w' => ∃ v, e = .returned v ∧ Bs w' w.heap.size v (formEv x) ∧ Below w.heap.size w w' := by
  have HX := Lib.hid hx
  have HL := Lib.hid (x.cl_len hx)
  have HA := Lib.hid ha
  have HBB := Lib.hid hb
  have hl : (formEv x).length ≤ reach47 := by have := formEv_len hx ha hb; unfold reach47; omega
  have LA := Lib.hid (show (refVote x.a true).length ≤ reach47 by have := formEv_len hx ha hb; rw [refVote_fv]; unfold formEv at this; rw [List.length_append] at this; unfold reach47; omega)
  have LB := Lib.hid (show (refVote x.b true).length ≤ reach47 by have := formEv_len hx ha hb; rw [refVote_fv]; unfold formEv at this; rw [List.length_append] at this; unfold reach47; omega)
  clear hx ha hb
  go_enter Tryd.func39, Tryd.ntmps39
  go_wp2_with (with_reducible show wpList _ _ _ (Oper.mk _ (Op.box _ _) _ _ _ _ :: _) _ _; refine wpList_box_bk rfl _ _ rfl _ rfl ?_)
  intro g w1 hb0 hbl hg hs
  clear hg hs
  have hb : Bk w1.drew g x.cl.toArray _ := hb0.drew
  go_wp2_with fail
  refine wp_region_free [(3, []), (4, [(0, 3)]), (5, [(1, 4)]), (6, []), (7, [(3, 6)]), (8, [(4, 7)])]
    [Is (.pointer (some ⟨g, 0, none⟩)), Is (.agg x.a.cl.toArray), PartK (fvE x.a), Is (.pointer (some ⟨g, 53, none⟩)), Is (.agg x.b.cl.toArray), PartK (fvE x.b)]
    (by kernel_rfl) (by kernel_rfl) (by rfl) ?st ?steps ?fin
  case st => exact ⟨Is.steady _, Is.steady _, PartK.steady _, Is.steady _, Is.steady _, PartK.steady _, trivial⟩
  case steps =>
    refine FreeSteps.cons (fun w2 hw2 => ?_) ?_
    · (refine FreeStep.det rfl rfl rfl (by rfl) rfl rfl ?_; (try simp only [Act.put, List.setIfInBounds_toArray, List.set_cons_zero, List.set_cons_succ]); go_simp; (try with_reducible rfl))
    refine FreeSteps.cons (fun w2 hw2 => FreeStep.is rfl ?_) ?_
    · refine FreeStep.load_part 73 _ rfl rfl rfl rfl (by rfl) rfl rfl g 0 53 rfl _ _ _ (hb.below hw2 hb.lt) Tryd.underlying73 rfl info_Vote (by simp [HL.out]) _ (x.cl_a HX.out) ?_
      with_reducible rfl
    refine FreeSteps.cons (fun w2 hw2 => FreeStep.is rfl ?_) ?_
    · refine FreeStep.call rfl rfl rfl (by rfl) rfl rfl (by (try simp only [Act.put, List.setIfInBounds_toArray, List.set_cons_zero, List.set_cons_succ]); go_simp; (try with_reducible rfl)) (rVote_any w2 x.a true HX.out.a (by have := HA.out.k1; omega) (by have := HA.out.k2; omega) HA.out.r1 LA.out) ?_
      rintro e w3 ⟨v, rfl, hv, hb3⟩; exact ⟨v, rfl, hb3, by rw [refVote_fv] at hv; exact hv.part⟩
    refine FreeSteps.cons (fun w2 hw2 => ?_) ?_
    · (refine FreeStep.det rfl rfl rfl (by rfl) rfl rfl ?_; (try simp only [Act.put, List.setIfInBounds_toArray, List.set_cons_zero, List.set_cons_succ]); go_simp; (try with_reducible rfl))
    refine FreeSteps.cons (fun w2 hw2 => FreeStep.is rfl ?_) ?_
    · refine FreeStep.load_part 73 _ rfl rfl rfl rfl (by rfl) rfl rfl g 53 53 rfl _ _ _ (hb.below hw2 hb.lt) Tryd.underlying73 rfl info_Vote (by simp [HL.out]) _ (x.cl_b HX.out) ?_
      with_reducible rfl
    refine FreeSteps.cons (fun w2 hw2 => FreeStep.is rfl ?_) ?_
    · refine FreeStep.call rfl rfl rfl (by rfl) rfl rfl (by (try simp only [Act.put, List.setIfInBounds_toArray, List.set_cons_zero, List.set_cons_succ]); go_simp; (try with_reducible rfl)) (rVote_any w2 x.b true HX.out.b (by have := HBB.out.k1; omega) (by have := HBB.out.k2; omega) HBB.out.r1 LB.out) ?_
      rintro e w3 ⟨v, rfl, hv, hb3⟩; exact ⟨v, rfl, hb3, by rw [refVote_fv] at hv; exact hv.part⟩
    exact FreeSteps.nil
  case fin =>
    intro w2 hw2
    refine FreeEnd.is rfl ?_
    refine FreeEnd.is rfl ?_
    refine FreeEnd.cons rfl fun v hv => ?_
    obtain ⟨A5, c5, rfl, r5⟩ := hv
    refine FreeEnd.is rfl ?_
    refine FreeEnd.is rfl ?_
    refine FreeEnd.cons rfl fun v hv => ?_
    obtain ⟨A8, c8, rfl, r8⟩ := hv
    refine FreeEnd.nil ?_
    (try simp only [Act.put, List.setIfInBounds_toArray, List.set_cons_zero, List.set_cons_succ])
    simp only [List.length_cons, List.length_nil, Nat.reduceAdd, List.drop_succ_cons, List.drop_zero]
    have hj : joined [(Value.slice A5 (fvE x.a).length c5, fvE x.a), (Value.slice A8 (fvE x.b).length c8, fvE x.b)] = formEv x := by
      simp only [joined, formEv, List.flatMap_cons, List.flatMap_nil, List.append_nil, List.append_assoc]
    have hpp : Parts (w2.alloc (.cells #[Value.slice A5 (fvE x.a).length c5, Value.slice A8 (fvE x.b).length c8] 57)) [(Value.slice A5 (fvE x.a).length c5, fvE x.a), (Value.slice A8 (fvE x.b).length c8, fvE x.b)] := by
      intro p hp
      simp only [List.mem_cons, List.not_mem_nil, or_false] at hp
      rcases hp with rfl | rfl
      · exact Part.below ⟨A5, c5, rfl, r5⟩ ((Below.refl _ _).alloc (Nat.le_refl _) _)
      · exact Part.below ⟨A8, c8, rfl, r8⟩ ((Below.refl _ _).alloc (Nat.le_refl _) _)
    have hrr : Rd (w2.alloc (.cells #[Value.slice A5 (fvE x.a).length c5, Value.slice A8 (fvE x.b).length c8] 57)) (some ⟨w2.heap.size, 0, none⟩) ([(Value.slice A5 (fvE x.a).length c5, fvE x.a), (Value.slice A8 (fvE x.b).length c8, fvE x.b)].map (·.1)) := Rd.of_bk (Bk.new _ _ _) 0 _ (fun j u hu => by simpa using hu)
    go_wp2_with (go_at_call 54; go_must (refine (join_any _ _ 2 2 _ hrr rfl hpp (by rw [hj]; exact hl) (by omega)).mono ?_); rintro e w3 ⟨v, rfl, hv, hb3⟩; go_wp2_with fail)
    go_ret
    rw [hj] at hv
    have hs3 : w.heap.size ≤ w2.heap.size := Nat.le_trans hbl.size hw2.size
    exact ⟨_, rfl, hv.mono (by simp; omega), ((hbl.drew.trans (hw2.mono hbl.size)).alloc hs3 _).trans (hb3.mono (by simp; omega))⟩
end Go.Proofs.YtjdegphpalhapaaDoor
namespace Go.Proofs.YtjdegphpalhapaaDoor
set_option linter.unusedSimpArgs false
set_option linter.unusedVariables false
open Go.RowKit
set_option maxRecDepth 100000

theorem tx_one (x : Tx) : ∀ u ∈ (Value.agg x.cl.toArray).cells.toList, u.oneCell' = true := by
  intro u hu
  simp only [Value.cells, Tx.cl, List.mem_append, List.mem_cons, List.not_mem_nil, or_false] at hu
  rcases hu with (rfl | rfl | rfl | rfl | rfl | rfl) | hu
  all_goals first | rfl | exact bv_one _ u (by simpa [Value.cells] using hu)
def zeroTxC : List Value := [.int .i64 0, .int .u64 0, .int .u64 0, .int .u64 0, .int .u64 0, .int .u64 0] ++ bv (zer 16)
theorem zero_TxC : (Tryd.prog.info? 27).bind (·.zero) = some (.agg zeroTxC.toArray) := by kernel_rfl
theorem zeroTxC_len : zeroTxC.length = 22 := rfl

set_option maxHeartbeats 4000000 in
theorem rootedTx_any (w : World) (A : Option Addr) (n c : Nat) (xs : List Tx) (hn : xs.length = n) (hx : ∀ x ∈ xs, x.ok) (hr : Rd w A (xs.flatMap Tx.cl)) (ht : Tabs w) :
    Calls Tryd.prog 34 #[.slice A n c, .int .i64 1000, .func (.func 19) #[] #[]] w (HashRes w (rootsErr 1000 n (xs.map plainTx)) (rootOf (xs.map formTx))) := by
  have HN := Lib.hid hn
  have HX := Lib.hid hx
  have HR := Lib.hid hr
  have HT := Lib.hid ht
  have HLN := Lib.hid (show ∀ x ∈ xs, x.cl.length = 22 from fun x h => x.cl_len (hx x h))
  clear hn hx hr ht
  go_enter Tryd.func34, Tryd.ntmps34
  go_wp2_with (with_reducible show wpList _ _ _ (Oper.mk _ (Op.alloc _) _ _ _ _ :: _) _ _; refine wpList_alloc_i rfl 29 rfl (.agg (bv (zer 32)).toArray) zero_hash ?_)
  intro r w1 h1 hl1 hg1 hs1
  have H1 := Lib.hid (show Bk w1 r (bv (zer 32)).toArray 29 from h1)
  have HL1 := Lib.hid hl1
  have HGR := Lib.hid hg1
  clear h1 hl1 hg1 hs1
  by_cases hbig : 1000 < n
  · have HBG := Lib.hid hbig
    have hb : (1000 : Int) < (n : Int) := by omega
    clear hbig
    go_wp2_with (first
      | (with_reducible show wpList _ _ _ (Oper.mk _ (Op.build _ _) _ _ _ _ :: _) _ _; go_must (refine wpList_buildv rfl 29 [] rfl [] rfl _ built_hash ?_))
      | (with_reducible show wpList _ _ _ (Oper.mk _ (Op.store 29 _ _) _ _ _ _ :: _) _ _; go_must (refine wpList_store_bk rfl 29 _ _ rfl r rfl (.agg (bv (zer 32)).toArray) rfl _ _ H1.out (by rw [agg_sz (bv_sz (n := 32) rfl)]; exact info_h32) rfl (by simpa [Value.cells] using bv_one (zer 32)) ?_)))
    intro w5 h5 hg5 hs5
    have HB := Lib.hid (below_grown2 HL1.out hg5 HGR.out HL1.out.size)
    have H5 := Lib.hid (show Bk w5 r (bv (zer 32)).toArray 29 from h5)
    clear h5 hg5 hs5
    go_wp2
    exact bodyPost_ct (x := .int .i64 4) rfl rfl rfl H5.out Tryd.underlying29 rfl info_h32 (bv_sz (n := 32) rfl).symm rfl ⟨HB.out, by unfold rootsErr; rw [if_pos HBG.out]; rfl⟩
  have hb : ¬ (1000 : Int) < (n : Int) := by omega
  have HBG := Lib.hid hbig
  have hn1000 : n ≤ 1000 := by omega
  clear hbig
  go_wp2
  go_loopw [8, 20] (fun v i wr => ∃ (k : Nat) (ps : List Piece), k ≤ n ∧ ps.length = k ∧ i = .int .i64 (k : Int) ∧ Items wr w.heap.size v ps ∧ ps.map Piece.b = (xs.take k).map formTx ∧ (∀ e ∈ (xs.take k).map plainTx, e = 0) ∧ (∀ p ∈ ps, p.b.length ≤ 1000) ∧ Bk wr r (bv (zer 32)).toArray 29 ∧ Below w.heap.size w wr) (fun _ i _ => n - (intOf i).toNat)
  case atStart => exact ⟨0, [], by omega, rfl, rfl, Items.nil _ _, rfl, fun e he => (by simp at he), fun p hp => (by cases hp), H1.out, HL1.out⟩
  case round =>
    clear H1 HL1
    obtain ⟨k, ps, hk, hps, rfl, h4, h5, h6, h7, h8, h9⟩ := hrel
    obtain ⟨Av, cv, rfl, hcv⟩ := h4.form
    have HIT := Lib.hid h4
    have HFM := Lib.hid h5
    have HPL := Lib.hid h6
    have HSM := Lib.hid h7
    have HRB := Lib.hid h8
    have HW := Lib.hid h9
    have HPS := Lib.hid hps
    have HCV := Lib.hid hcv
    rw [hps] at HIT ⊢
    clear h4 h5 h6 h7 h8 h9 hps hcv
    by_cases hlt : k < n
    · have hkl : k < xs.length := by rw [HN.out]; exact hlt
      obtain ⟨ad, hA, hcell⟩ := rd_elem (by omega) HLN.out (HR.out.below HW.out) hkl
      obtain ⟨x, hxk⟩ : ∃ x, xs[k] = x := ⟨_, rfl⟩
      have HXO := Lib.hid (show x.ok from hxk ▸ HX.out _ (List.getElem_mem hkl))
      have HTK := Lib.hid (show xs.take (k + 1) = xs.take k ++ [x] by rw [List.take_succ_eq_append_getElem hkl, hxk])
      have HEK := Lib.hid (show (xs.map plainTx)[k]? = some (plainTx x) by rw [List.getElem?_map, List.getElem?_eq_getElem hkl, hxk]; rfl)
      rw [hxk] at hcell
      have HC := Lib.hid hcell
      have HXL := Lib.hid (x.cl_len HXO.out)
      subst hA
      clear hcell hxk
      have hi : (k : Int) < n := by omega
      go_wp2_with (first
        | (with_reducible show wpList _ _ _ (Oper.mk (some 23) (Op.load _ _) _ _ _ _ :: _) _ _; go_must (refine wpList_load_at rfl 27 _ rfl (ad.add (k * 22)) 22 rfl x.cl HC.out _ Tryd.underlying27 rfl info_Tx HXL.out ?_))
        | (with_reducible show wpList _ _ _ (Oper.mk _ (Op.alloc _) _ _ _ _ :: _) _ _; refine wpList_alloc_i rfl 27 rfl (.agg zeroTxC.toArray) zero_TxC ?_))
      intro q w4 k4 l4 g4 s4
      have K4 := Lib.hid k4
      have L4 := Lib.hid l4
      have G4 := Lib.hid g4
      have ZL := Lib.hid zeroTxC_len
      clear k4 l4 g4 s4
      go_wp2_with (with_reducible show wpList _ _ _ (Oper.mk _ (Op.store 27 _ _) _ _ _ _ :: _) _ _; go_must (refine wpList_store_bk rfl 27 _ _ rfl q rfl (.agg x.cl.toArray) rfl _ _ K4.out (by rw [agg_sz (show x.cl.toArray.size = 22 by rw [List.size_toArray, HXL.out])]; exact info_Tx) (by rw [agg_sz (show x.cl.toArray.size = 22 by rw [List.size_toArray, HXL.out]), List.size_toArray, ZL.out]) (tx_one x) ?_))
      intro w5 h5 hg5 hs5
      have L5 := Lib.hid (below_grown2 L4.out hg5 G4.out L4.out.size)
      have K5 := Lib.hid (show Bk w5 q x.cl.toArray 27 from h5)
      clear h5 hg5 hs5 K4 L4 G4
      go_wp2_with (with_reducible show wpList _ _ _ (Oper.mk (some 26) (Op.load _ _) _ _ _ _ :: _) _ _; go_must (refine wpList_load_part rfl 27 _ rfl q 0 22 rfl _ _ _ K5.out Tryd.underlying27 rfl info_Tx (by simp [HXL.out]) _ (cl_allN HXL.out) ?_); go_wp2_with fail)
      refine (EncodeTx_any w5 x HXO.out).mono ?_
      rintro e w6 ⟨hl6, hres⟩
      have L6 := Lib.hid (L5.out.trans (hl6.mono L5.out.size))
      have HIT6 := Lib.hid (HIT.out.below L6.out)
      have HRB6 := Lib.hid (HRB.out.below L6.out HRB.out.lt)
      have HW6 := Lib.hid (HW.out.trans (L6.out.mono HW.out.size))
      have HB6 := Lib.hid (show w.heap.size ≤ w5.heap.size from Nat.le_trans HW.out.size L5.out.size)
      clear hl6 HIT HRB
      rcases hres with ⟨hz, rfl⟩ | ⟨hz, v, rfl, hv⟩
      · obtain ⟨E, hE⟩ : ∃ E, plainTx x = E := ⟨_, rfl⟩
        rw [hE] at hz HEK ⊢
        have HZ := Lib.hid hz
        have f1 : (E != 0) = true := by simp [hz]
        have HER := Lib.hid (show rootsErr 1000 n (xs.map plainTx) = E by unfold rootsErr; rw [if_neg HBG.out]; exact firstErr_take_zero (by rw [← List.map_take]; exact HPL.out) HEK.out HZ.out)
        clear hz hE
        go_wp2_with (first
          | (with_reducible show wpList _ _ _ (Oper.mk _ (Op.build _ _) _ _ _ _ :: _) _ _; go_must (refine wpList_buildv rfl 29 [] rfl [] rfl _ built_hash ?_))
          | (with_reducible show wpList _ _ _ (Oper.mk _ (Op.store 29 _ _) _ _ _ _ :: _) _ _; go_must (refine wpList_store_bk rfl 29 _ _ rfl r rfl (.agg (bv (zer 32)).toArray) rfl _ _ HRB6.out (by rw [agg_sz (bv_sz (n := 32) rfl)]; exact info_h32) rfl (by simpa [Value.cells] using bv_one (zer 32)) ?_)))
        intro w8 h8 hg8 hs8
        have HB := Lib.hid (below_grown2 HW6.out hg8 HGR.out HW6.out.size)
        have H8 := Lib.hid (show Bk w8 r (bv (zer 32)).toArray 29 from h8)
        clear h8 hg8 hs8
        go_wp2
        exact bodyPost_ct (x := .int .i64 E) rfl rfl rfl H8.out Tryd.underlying29 rfl info_h32 (bv_sz (n := 32) rfl).symm rfl ⟨HB.out, by rw [HER.out]; unfold hashOr; rw [if_neg HZ.out]⟩
      · have HZ := Lib.hid hz
        have HFL := Lib.hid (formTx_len HXO.out hz)
        obtain ⟨Ab, cb, rfl⟩ := hv.form
        have HV := Lib.hid (hv.mono HB6.out)
        obtain ⟨m, hm⟩ : ∃ m, (formTx x).length = m := ⟨_, rfl⟩
        have HM := Lib.hid hm
        rw [hm]
        clear hz hv hm
        have HA7 := Lib.hid (show Below w6.heap.size w6 (w6.alloc (.cells #[.slice Ab m cb] 57)) from (Below.refl _ _).alloc (Nat.le_refl _) _)
        have HR7 := Lib.hid (show Rd (w6.alloc (.cells #[.slice Ab m cb] 57)) (some ⟨w6.heap.size, 0, none⟩) [(⟨Ab, cb, formTx x⟩ : Piece).val] from Rd.of_bk (Bk.new w6 _ _) 0 _ (fun j u hu => by rw [← HM.out]; simpa [Piece.val] using hu))
        have HV7 := Lib.hid (show Bs (w6.alloc (.cells #[.slice Ab m cb] 57)) w.heap.size (⟨Ab, cb, formTx x⟩ : Piece).val (formTx x) from HV.out.below HA7.out)
        have HI7 := Lib.hid (HIT6.out.below HA7.out)
        have HRB7 := Lib.hid (HRB6.out.below HA7.out HRB6.out.lt)
        have HW7 := Lib.hid (HW6.out.trans (HA7.out.mono HW6.out.size))
        clear HIT6 HRB6 HV HW6
        go_wp2_with (with_reducible show wpList _ _ _ (Oper.mk (some 37) (Op.call _) _ _ _ _ :: _) _ _; go_must (refine wpList_item rfl _ _ rfl w.heap.size (.slice Av k cv) ps rfl HI7.out ⟨Ab, cb, formTx x⟩ HV7.out _ 1 rfl HR7.out (by rw [HPS.out]; omega) HW7.out.size ?_); intro v8 w8 it8 hg8)
        have HI8 := Lib.hid it8
        have HRB8 := Lib.hid (bk_keep HRB7.out hg8 HI7.out.own (by decide))
        have HW8 := Lib.hid (below_own HW7.out HI7.out.own (Nat.le_refl _) hg8 HW7.out.size)
        clear it8 hg8
        go_wp2
        refine ⟨⟨k + 1, ps ++ [⟨Ab, cb, formTx x⟩], by omega, by simp [HPS.out], by go_num, HI8.out, by rw [HTK.out, List.map_append, List.map_append, HFM.out]; rfl, fun e he => ?_, fun p hp => ?_, HRB8.out, HW8.out⟩, by simp [intOf]; omega⟩
        · rw [HTK.out, List.map_append] at he
          rcases List.mem_append.1 he with he | he
          · exact HPL.out e he
          · rw [List.mem_singleton.1 he]; exact HZ.out
        · rcases List.mem_append.1 hp with hp | hp
          · exact HSM.out p hp
          · rw [List.mem_singleton.1 hp]; have := HFL.out; simp only; omega
    · have hkn : k = n := by omega
      subst hkn
      have hi : ¬ (k : Int) < (k : Int) := by omega
      have HTA := Lib.hid (show xs.take k = xs from List.take_of_length_le (by rw [HN.out]; exact Nat.le_refl _))
      have HER := Lib.hid (show rootsErr 1000 k (xs.map plainTx) = 0 by
        unfold rootsErr; rw [if_neg HBG.out]; exact firstErr_all_zero (fun e he => HPL.out e (by rw [HTA.out]; exact he)))
      have HRT := Lib.hid (show rootOf (ps.map Piece.b) = rootOf (xs.map formTx) by rw [HFM.out, HTA.out])
      have HZ := Lib.hid (show (bv (rootOf (xs.map formTx))).toArray.size = 32 by rw [List.size_toArray, bv_length]; exact rootH_len _ _)
      clear hlt
      go_wp2_with (first
        | (go_at_call 62; go_must (refine (Root_any wr Av k cv ps HPS.out HIT.out.rd HIT.out.ok HSM.out (by omega) (HT.out.below HW.out)).mono ?_); rw [HRT.out]; rintro e w6 ⟨hl6, rfl⟩; have HR6 := Lib.hid (HRB.out.below hl6 HRB.out.lt); have HW6 := Lib.hid (HW.out.trans (hl6.mono HW.out.size)); have HHO := Lib.hid (show hashOr 0 (rootOf (xs.map formTx)) = rootOf (xs.map formTx) by unfold hashOr; rw [if_pos rfl]); rw [HHO.out]; clear hl6)
        | (with_reducible show wpList _ _ _ (Oper.mk _ (Op.store 29 _ _) _ _ _ _ :: _) _ _; go_must (refine wpList_store_bk rfl 29 _ _ rfl r rfl (.agg (bv (rootOf (xs.map formTx))).toArray) rfl _ _ HR6.out (by rw [agg_sz HZ.out]; exact info_h32) (by rw [agg_sz HZ.out]; simp [bv, zer]) (by simpa [Value.cells] using bv_one (rootOf (xs.map formTx))) ?_)))
      intro w8 h8 hg8 hs8
      have HB := Lib.hid (below_grown2 HW6.out hg8 HGR.out HW6.out.size)
      have H8 := Lib.hid (show Bk w8 r (bv (rootOf (xs.map formTx))).toArray 29 from h8)
      clear h8 hg8 hs8
      go_wp2
      exact bodyPost_ct (x := .int .i64 0) rfl rfl rfl H8.out Tryd.underlying29 rfl info_h32 HZ.out.symm rfl ⟨HB.out, by rw [HER.out]; unfold hashOr; rw [if_pos rfl]⟩

set_option maxHeartbeats 1000000 in
theorem TxsRoot_any (w : World) (A : Option Addr) (n c : Nat) (xs : List Tx) (hn : xs.length = n) (hx : ∀ x ∈ xs, x.ok) (hr : Rd w A (xs.flatMap Tx.cl)) (ht : Tabs w) :
    Calls Tryd.prog 13 #[.slice A n c] w (HashRes w (rootsErr 1000 n (xs.map plainTx)) (rootOf (xs.map formTx))) := by
  obtain ⟨E, hE⟩ : ∃ E, rootsErr 1000 n (xs.map plainTx) = E := ⟨_, rfl⟩
  have HRT := Lib.hid (fun w1 (hb : Below w.heap.size w w1) => rootedTx_any w1 A n c xs hn hx (hr.below hb) (ht.below hb))
  obtain ⟨H, hH⟩ : ∃ H, hashOr E (rootOf (xs.map formTx)) = H := ⟨_, rfl⟩
  have HLN := Lib.hid (show H.length = 32 by rw [← hH]; exact hashOr_len (rootH_len _ _))
  have HE := Lib.hid hE
  have HH := Lib.hid hH
  clear hn hx hr ht hE hH
  go_enter Tryd.func13, Tryd.ntmps13
  go_wp2_with (with_reducible show wpList _ _ _ (Oper.mk _ (Op.alloc _) _ _ _ _ :: _) _ _; refine wpList_alloc_i rfl 29 rfl (.agg (bv (zer 32)).toArray) zero_hash ?_)
  intro r w1 h1 hl1 hg1 hs1
  have H1 := Lib.hid (show Bk w1 r (bv (zer 32)).toArray 29 from h1)
  have HL1 := Lib.hid hl1
  have HZ := Lib.hid (show (bv H).toArray.size = 32 by rw [List.size_toArray, bv_length, HLN.out])
  clear h1 hl1 hs1
  go_wp2_with (first
    | (go_at_call 34; go_must (refine (HRT.out w1 HL1.out).mono ?_); rintro e w2 ⟨hl2, rfl⟩; rw [HE.out, HH.out]; have H2 := Lib.hid (H1.out.below hl2 H1.out.lt); have HL2 := Lib.hid (HL1.out.trans (hl2.mono HL1.out.size)); clear hl2)
    | (with_reducible show wpList _ _ _ (Oper.mk _ (Op.store 29 _ _) _ _ _ _ :: _) _ _; go_must (refine wpList_store_bk rfl 29 _ _ rfl r rfl (.agg (bv H).toArray) rfl _ _ H2.out (by rw [agg_sz HZ.out]; exact info_h32) (by rw [agg_sz HZ.out]; simp [bv, zer]) (by simpa [Value.cells] using bv_one H) ?_)))
  intro w8 h8 hg8 hs8
  have HB := Lib.hid (below_grown2 HL2.out hg8 hg1 HL2.out.size)
  have H8 := Lib.hid (show Bk w8 r (bv H).toArray 29 from h8)
  clear h8 hg8 hs8
  go_wp2
  exact bodyPost_ct (x := .int .i64 E) rfl rfl rfl H8.out Tryd.underlying29 rfl info_h32 HZ.out.symm rfl ⟨HB.out, by rw [HE.out, HH.out]⟩
end Go.Proofs.YtjdegphpalhapaaDoor

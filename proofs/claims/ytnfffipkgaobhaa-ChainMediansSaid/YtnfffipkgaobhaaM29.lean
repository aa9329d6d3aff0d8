/-
  The program's Median. Conditions: each number fits its kind; the lists lie in the world.
  The reference's councils: total, Sound. Conditions: each number fits its kind; the members lie in the world.
-/
import Derived.Test.YtnfffipkgaobhaaM28
import Derived.Test.YtnfffipkgaobhaaM16
namespace Go.Proofs.Ytnfffipkgaobhaa
set_option linter.unusedSimpArgs false
set_option linter.unusedVariables false
open Go.RowKit
set_option maxRecDepth 100000

theorem rd_first {w : World} {A : Option Addr} {xs ys : List Value} (h : Rd w A (xs ++ ys)) : Rd w A xs := fun j u hu => h j u (by rw [List.getElem?_append_left (List.getElem?_eq_some_iff.1 hu).1]; exact hu)
def medV (l : List Mem) (x : Crt) : Value := .tuple #[.int .u64 (medRes l x).1, .int .i64 (medRes l x).2]
theorem medV_eq {l : List Mem} {x : Crt} {a b : Int} (h : medRes l x = (a, b)) : Value.tuple #[.int .u64 a, .int .i64 b] = medV l x := by unfold medV; rw [h]
theorem medS_step {l : List Mem} {ms : List Mk} {T S M : Int} {k : Nat} (hk : k < ms.length) (hS : S = psum (pwOf l) (ms.take (k + 1))) (h : medS Mk.time (pwOf l) T (psum (pwOf l) (ms.take k)) (ms.drop k) = some M) :
    if T < 2 * S then M = (ms[k]).time else medS Mk.time (pwOf l) T (psum (pwOf l) (ms.take (k + 1))) (ms.drop (k + 1)) = some M := by
  rw [List.drop_eq_getElem_cons hk] at h
  unfold medS at h
  rw [← psum_take_succ _ _ _ hk, ← hS] at h
  rw [← hS]
  split
  · next hh => rw [if_pos hh] at h; injection h with h; exact h.symm
  · next hh => rw [if_neg hh] at h; exact h

set_option maxHeartbeats 8000000 in
theorem Median_any (w : World) (A : Option Addr) (n c : Nat) (l : List Mem) (hn : n = l.length) (hm : ∀ m ∈ l, m.ok) (hr : Rd w A (l.flatMap Mem.cl)) (hl : n ≤ 10000000000000) (x : Crt) (hx : x.ok) (hat : x.at w) (hxl : x.n ≤ 10000000000000) :
    Calls Try.prog 6 #[.agg #[.slice A n c], .agg x.cl.toArray] w fun e w' => e = .returned (medV l x) ∧ Below w.heap.size w w' := by
  have HN := Lib.hid hn
  have HX := Lib.hid hx
  have HXL := Lib.hid (x.cl_len hx)
  have HR := Lib.hid hr
  have HAT := Lib.hid (show Rd w x.A (x.ms.flatMap Mk.cl) from hat)
  have HM := Lib.hid hm
  obtain ⟨E1, hE1⟩ : ∃ E, soundErr l = E := ⟨_, rfl⟩
  obtain ⟨E2, hE2⟩ : ∃ E, plainCrt x = E := ⟨_, rfl⟩
  have HC1 := Lib.hid (show ∀ w', Below w.heap.size w w' → Calls Try.prog 13 #[.agg #[.slice A n c]] w' fun e w'' => e = .returned (.int .i64 E1) ∧ Below w'.heap.size w' w'' from fun w' hb => by rw [← hE1]; exact Sound_any w' A n c l hn hm (hr.below hb) hl)
  have HC2 := Lib.hid (show ∀ w', Below w.heap.size w w' → Calls Try.prog 14 #[.agg x.cl.toArray] w' fun e w'' => e = .returned (.int .i64 E2) ∧ Below w'.heap.size w' w'' from fun w' hb => by rw [← hE2]; exact plainCrt_any w' x hx (show Rd w' x.A (x.ms.flatMap Mk.cl) from hat.below hb))
  obtain ⟨q, hq⟩ : ∃ q, x.ms.any (farMk l) = q := ⟨_, rfl⟩
  have HC3 := Lib.hid (show ∀ w', Below w.heap.size w w' → Calls Try.prog 15 #[.agg #[.slice A n c], .agg x.cl.toArray] w' fun e w'' => e = .returned (.bool (!q)) ∧ Below w'.heap.size w' w'' from fun w' hb => by rw [← hq]; exact seated_any w' A n c l hn x hx (show Rd w' x.A (x.ms.flatMap Mk.cl) from hat.below hb) hxl)
  have HE1 := Lib.hid hE1
  have HE2 := Lib.hid hE2
  have HQ := Lib.hid hq
  have HMR : Hid (medRes l x = if E1 ≠ 0 then (0, E1) else if E2 ≠ 0 then (0, E2) else if x.ms.length = 0 then (0, 127) else if q = true then (0, 101) else ((bestS Mk.time (pwOf l) (psum (pwOf l) x.ms) x.ms x.ms none).getD 0, 0)) := Lib.hid (by unfold medRes; rw [hE1, hE2, hq])
  clear hn hx hr hat hm hE1 hE2 hq
  go_enter Try.func6, Try.ntmps6
  go_wp2_with (with_reducible show wpList _ _ _ (Oper.mk _ (Op.box _ _) _ _ _ _ :: _) _ _; refine wpList_box_i rfl _ _ rfl _ rfl ?_)
  intro g w1 hk1 hb1 hg1 hs1
  go_wp2_with (with_reducible show wpList _ _ _ (Oper.mk _ (Op.box _ _) _ _ _ _ :: _) _ _; refine wpList_box_i rfl _ _ rfl _ rfl ?_)
  intro g2 w2 hk2 hb2 hg2 hs2
  have HKG := Lib.hid ((bk_eqT (cs' := #[.slice A n c]) hk1 rfl).below hb2 hk1.lt)
  have HKX := Lib.hid (bk_eqT (cs' := x.cl.toArray) hk2 rfl)
  have HB2 := Lib.hid (hb1.trans (hb2.mono hb1.size))
  clear hk1 hk2 hb1 hb2 hg1 hg2 hs1 hs2
  go_wp2_with fail
  refine wp_region_free [(10, []), (11, [(0, 10)]), (12, []), (13, [(2, 12)])]
    [Is (.agg #[.slice A n c]), Is (.int .i64 E1), Is (.agg x.cl.toArray), Is (.int .i64 E2)]
    (by kernel_rfl) (by kernel_rfl) (by rfl) ?st ?steps ?fin
  case st => exact ⟨Is.steady _, Is.steady _, Is.steady _, Is.steady _, trivial⟩
  case steps =>
    refine FreeSteps.cons (fun w4 hw4 => ?_) ?_
    · refine FreeStep.load_part 24 _ rfl rfl rfl rfl (by rfl) rfl rfl g 0 1 rfl _ _ _ (HKG.out.drew.below hw4 HKG.out.lt) Try.underlying24 rfl info_Cou (by simp) _ (arr_all (n := 1) rfl) ?_
      with_reducible rfl
    refine FreeSteps.cons (fun w4 hw4 => FreeStep.is rfl ?_) ?_
    · refine FreeStep.call rfl rfl rfl (by rfl) rfl rfl (by (try simp only [Act.put, List.setIfInBounds_toArray, List.set_cons_zero, List.set_cons_succ]); go_simp; (try with_reducible rfl)) (HC1.out w4 (HB2.out.drew.trans (hw4.mono HB2.out.size))) ?_
      rintro e w5 ⟨rfl, hb5⟩; exact ⟨_, rfl, hb5, rfl⟩
    refine FreeSteps.cons (fun w4 hw4 => ?_) ?_
    · refine FreeStep.load_part 30 _ rfl rfl rfl rfl (by rfl) rfl rfl g2 0 35 rfl _ _ _ (HKX.out.drew.below hw4 HKX.out.lt) Try.underlying30 rfl info_Crt (by simp [HXL.out]) _ (cl_allN HXL.out) ?_
      with_reducible rfl
    refine FreeSteps.cons (fun w4 hw4 => FreeStep.is rfl ?_) ?_
    · refine FreeStep.call rfl rfl rfl (by rfl) rfl rfl (by (try simp only [Act.put, List.setIfInBounds_toArray, List.set_cons_zero, List.set_cons_succ]); go_simp; (try with_reducible rfl)) (HC2.out w4 (HB2.out.drew.trans (hw4.mono HB2.out.size))) ?_
      rintro e w5 ⟨rfl, hb5⟩; exact ⟨_, rfl, hb5, rfl⟩
    exact FreeSteps.nil
  case fin =>
    intro w4 hw4
    refine FreeEnd.is rfl ?_
    refine FreeEnd.is rfl ?_
    refine FreeEnd.is rfl ?_
    refine FreeEnd.is rfl ?_
    refine FreeEnd.nil ?_
    (try simp only [Act.put, List.setIfInBounds_toArray, List.set_cons_zero, List.set_cons_succ])
    simp only [List.length_cons, List.length_nil, Nat.reduceAdd, List.drop_succ_cons, List.drop_zero]
    have HB4 := Lib.hid (HB2.out.drew.trans (hw4.mono HB2.out.size))
    have HKG := Lib.hid (HKG.out.drew.below hw4 HKG.out.lt)
    have HKX := Lib.hid (HKX.out.drew.below hw4 HKX.out.lt)
    clear hw4 HB2
    obtain ⟨E, hE⟩ : ∃ E, firstErr [E1, E2] = E := ⟨_, rfl⟩
    have HEQ := Lib.hid hE
    clear hE
    go_wp2_with fail
    refine (or_any _ _ 2 2 [_, _] (rd_errs w4 _ [_, _] rfl) rfl (by omega)).mono ?_
    rintro e w6 ⟨rfl, hw6⟩
    rw [HEQ.out]
    have hb6 : Below w4.heap.size w4 w6 := by rw [← hw6]; exact (Below.refl _ _).alloc (Nat.le_refl _) _
    have HB6 := Lib.hid (HB4.out.trans (hb6.mono HB4.out.size))
    have HKG := Lib.hid (HKG.out.below hb6 HKG.out.lt)
    have HKX := Lib.hid (HKX.out.below hb6 HKX.out.lt)
    clear hw6 hb6 HB4
    by_cases he : E = 0
    case neg =>
      have f1 : (E != 0) = true := by simp [he]
      have f2 : (E == 0) = false := by simp [he]
      have HZ := Lib.hid (show medRes l x = (0, E) by
        have h := HEQ.out
        simp only [firstErr] at h
        rw [HMR.out]
        by_cases e1 : E1 = 0
        · rw [if_neg (by simp [e1])] at h ⊢
          by_cases e2 : E2 = 0
          · rw [if_neg (by simp [e2])] at h; exact absurd h.symm he
          · rw [if_pos e2] at h ⊢; rw [h]
        · rw [if_pos e1] at h ⊢; rw [h])
      clear he
      go_wp2
      go_ret2
      exact ⟨ret_eq (medV_eq HZ.out), HB6.out⟩
    have f1 : (E != 0) = false := by simp [he]
    have f2 : (E == 0) = true := by simp [he]
    obtain ⟨e1, e2⟩ : E1 = 0 ∧ E2 = 0 := by
      have h := HEQ.out
      rw [he] at h
      simp only [firstErr] at h
      by_cases e1 : E1 = 0
      · rw [if_neg (by simp [e1])] at h
        by_cases e2 : E2 = 0
        · exact ⟨e1, e2⟩
        · rw [if_pos e2] at h; exact absurd h e2
      · rw [if_pos e1] at h; exact absurd h e1
    have HS1 := Lib.hid (HE1.out.trans e1)
    have HS2 := Lib.hid (HE2.out.trans e2)
    have HMR := Lib.hid (show medRes l x = if x.ms.length = 0 then (0, 127) else if q = true then (0, 101) else ((bestS Mk.time (pwOf l) (psum (pwOf l) x.ms) x.ms x.ms none).getD 0, 0) by rw [HMR.out, if_neg (by simp [e1]), if_neg (by simp [e2])])
    clear he e1 e2
    have c34 : w6.cell? ⟨g2, 34, none⟩ = some (.slice x.A x.n x.c) := (HKX.out.cell 34).trans (x.cl_34 HX.out.id)
    have HC34 := Lib.hid (show x.cl.toArray[34]? = some (.slice x.A x.n x.c) from x.cl_34 HX.out.id)
    have HNM := Lib.hid (show x.n = x.ms.length from HX.out.n)
    have HMO := Lib.hid (show ∀ m ∈ x.ms, m.ok from HX.out.ms)
    have HSU := Lib.hid (show 0 < x.ms.length → ¬ q = true → Sums l x.ms from fun h1 h2 => sums_of HM.out HX.out HS1.out HS2.out h1 (by rw [HQ.out]; exact h2))
    have H64 := Lib.hid (show x.ms.length ≤ 64 by
      have h := HS2.out
      unfold plainCrt at h
      by_cases hz : zeroC x = true
      · unfold zeroC at hz
        simp only [Bool.and_eq_true, beq_iff_eq] at hz
        have := hz.2.2.2
        have := HNM.out
        omega
      · rw [if_neg hz] at h
        by_cases hh : headC x = 0
        · rw [if_neg (by simp [hh])] at h
          by_cases hb : 64 < (x.n : Int)
          · rw [if_pos hb] at h; cases h
          · have := HNM.out; omega
        · rw [if_pos hh] at h; exact absurd h hh)
    have HL64 := Lib.hid (show n ≤ 64 by have := (sounds_of HM.out HS1.out).len; have := HN.out; omega)
    obtain ⟨m, hm⟩ : ∃ m, x.n = m := ⟨_, rfl⟩
    obtain ⟨AX, hAX⟩ : ∃ A, x.A = A := ⟨_, rfl⟩
    obtain ⟨cx, hcx⟩ : ∃ c, x.c = c := ⟨_, rfl⟩
    obtain ⟨ms, hms⟩ : ∃ ms, x.ms = ms := ⟨_, rfl⟩
    rw [hm, hAX, hcx] at c34 HC34
    rw [hm, hms] at HNM
    rw [hms] at HMR HMO HSU H64
    rw [hAX, hms] at HAT
    clear hm hAX hcx hms HE1 HE2 HQ
    by_cases hz : m = 0
    · have HZ := Lib.hid (show medRes l x = (0, 127) by rw [HMR.out, if_pos (by rw [← HNM.out]; exact hz)])
      have z1 : (m : Int) = 0 := by omega
      have z2 : ((m : Int) == 0) = true := by simp [hz]
      subst hz
      go_wp2
      go_ret2
      exact ⟨ret_eq (medV_eq HZ.out), HB6.out⟩
    have z1 : ¬ (m : Int) = 0 := by omega
    have z2 : ((m : Int) == 0) = false := by simpa using z1
    have HMR := Lib.hid (show medRes l x = if q = true then (0, 101) else ((bestS Mk.time (pwOf l) (psum (pwOf l) ms) ms ms none).getD 0, 0) by rw [HMR.out, if_neg (by rw [← HNM.out]; exact hz)])
    have hm0 : 0 < m := by omega
    clear hz z1
    go_wp2_with (first
      | (with_reducible show wpList _ _ _ (Oper.mk (some 25) (Op.load _ _) _ _ _ _ :: _) _ _; go_must (refine wpList_load_part rfl 24 _ rfl g 0 1 rfl _ _ _ HKG.out Try.underlying24 rfl info_Cou (by simp) _ (arr_all (n := 1) rfl) ?_))
      | (with_reducible show wpList _ _ _ (Oper.mk (some 26) (Op.load _ _) _ _ _ _ :: _) _ _; go_must (refine wpList_load_part rfl 30 _ rfl g2 0 35 rfl _ _ _ HKX.out Try.underlying30 rfl info_Crt (by simp [HXL.out]) _ (cl_allN HXL.out) ?_); go_wp2_with fail))
    refine (HC3.out w6 HB6.out).mono ?_
    rintro e w7 ⟨rfl, h7⟩
    have HB7 := Lib.hid (HB6.out.trans (h7.mono HB6.out.size))
    have HKG := Lib.hid (HKG.out.below h7 HKG.out.lt)
    have HKX := Lib.hid (HKX.out.below h7 HKX.out.lt)
    clear h7 HB6 c34
    cases q
    case true =>
      have HZ := Lib.hid (show medRes l x = (0, 101) by rw [HMR.out, if_pos rfl])
      go_wp2
      go_ret2
      exact ⟨ret_eq (medV_eq HZ.out), HB7.out⟩
    have HSS := Lib.hid (HSU.out (by rw [← HNM.out]; exact hm0) Bool.false_ne_true)
    have HMR := Lib.hid (show medRes l x = ((bestS Mk.time (pwOf l) (psum (pwOf l) ms) ms ms none).getD 0, 0) by rw [HMR.out, if_neg Bool.false_ne_true])
    clear HSU
    obtain ⟨ax, hax⟩ : ∃ ax, AX = some ax := by
      match ms, HNM.out, HAT.out, HMO.out with
      | [], h, _, _ => simp at h; omega
      | y :: r, _, h, hmo =>
        obtain ⟨ad, h1, _⟩ := rd_elem (cl := Mk.cl) (N := 18) (by omega) (fun q hq => q.cl_len (hmo q hq)) h (k := 0) (by simp)
        exact ⟨ad, h1⟩
    subst hax
    have c34 : w7.cell? ⟨g2, 34, none⟩ = some (.slice (some ax) m cx) := (HKX.out.cell 34).trans HC34.out
    have hm64 : m ≤ 64 := by have := H64.out; have := HNM.out; omega
    have HG7 := Lib.hid (show g < w7.heap.size from HKG.out.lt)
    have HCL := Lib.hid (cloneMk_any w7 ax m cx ms HNM.out HMO.out (HAT.out.below HB7.out) hm64 hm0)
    go_wp2_with fail
    refine HCL.out.mono ?_
    rintro e w8 ⟨v, rfl, ho, h8⟩
    obtain ⟨g3, cp, cur, rfl, hg3, hh, hmc, hcm, hcs, htk⟩ : ∃ g3 cap cur, v = .slice (some ⟨g3, 0, none⟩) m cap ∧ w7.heap.size ≤ g3 ∧ w8.heap[g3]? = some (.cells cur 50 (0, 0)) ∧ m ≤ cap ∧ cap ≤ maxLen ∧ cur.size = cap * 18 ∧ cur.toList.take (m * 18) = ms.flatMap Mk.cl := by
      rcases ho.2 with ⟨_, h⟩ | ⟨g3, cap, cur, h1, h2, h3, h4, h5, h6, h7⟩
      · omega
      · exact ⟨g3, cap, cur, h1, h2, h3, h4, h5, h6, h7⟩
    have HB8 := Lib.hid (HB7.out.trans (h8.mono HB7.out.size))
    have HKG := Lib.hid (HKG.out.below h8 HKG.out.lt)
    have HW7 := Lib.hid HB7.out.size
    clear h8 ho hcm HB7 c34 HKX HCL
    have HCS := Lib.hid (sortMk_any w8 w7.heap.size g3 cp cur ms m HNM.out HMO.out hh htk (by rw [hcs]; omega) hg3 hm64)
    have HG3 := Lib.hid hg3
    have HMC := Lib.hid hmc
    clear hh htk hcs hg3 hmc
    go_wp2_with fail
    refine HCS.out.mono ?_
    rintro e w9 ⟨rfl, ms', hsw⟩
    have HPM := Lib.hid hsw.perm
    have HASC := Lib.hid hsw.asc
    have HOK := Lib.hid hsw.ok
    have HRS := Lib.hid hsw.rd
    have HKG := Lib.hid (HKG.out.below hsw.below HG7.out)
    have HB9 := Lib.hid (HB8.out.trans (hsw.below.mono HW7.out))
    clear hsw HB8 HCS
    have HLM := Lib.hid (show ms'.length = m by rw [HPM.out.length_eq, ← HNM.out])
    obtain ⟨T, hT⟩ : ∃ T, psum (pwOf l) ms = T := ⟨_, rfl⟩
    have HTT := Lib.hid (show psum (pwOf l) ms' = T by rw [← hT]; exact psum_perm (pwOf l) HPM.out)
    have HNE : Hid (Near l ms') := Lib.hid ⟨fun q hq => HSS.out.near q (HPM.out.mem_iff.1 hq), fun q hq => by have := (HSS.out.pow q hq).1; omega, by rw [HTT.out, ← hT]; exact HSS.out.sum⟩
    obtain ⟨M, hM1, hM2⟩ := med_best Mk.time (pwOf l) HPM.out HASC.out (fun q hq => pw_nonneg HNE.out.pow q) HSS.out.pos
    have HMR := Lib.hid (show medRes l x = (M, 0) by rw [HMR.out, hM2]; rfl)
    rw [hT] at hM1
    have HM1 := Lib.hid hM1
    have hT0 : 0 ≤ T := by rw [← hT]; exact Int.le_of_lt HSS.out.pos
    have hT1 : T ≤ 1152921504606846975 := by rw [← hT]; exact HSS.out.sum
    have HPC := Lib.hid (show ∀ k, k ≤ m → ∀ w', Below w9.heap.size w9 w' → Calls Try.prog 20 #[.agg #[.slice A n c], .slice (some ⟨g3, 0, none⟩) k cp] w' fun e w'' => e = .returned (.int .u64 (psum (pwOf l) (ms'.take k))) ∧ Below w'.heap.size w' w'' from fun k hk w' hb =>
      power_any w' A n c l HN.out (HR.out.below (HB9.out.trans (hb.mono HB9.out.size))) (some ⟨g3, 0, none⟩) k cp (ms'.take k) (by rw [List.length_take, HLM.out]; omega) (fun q hq => HOK.out q (List.mem_of_mem_take hq)) (rd_first (by
        have h := HRS.out.below hb
        rw [← List.take_append_drop k ms', List.flatMap_append] at h
        exact h)) HL64.out (by omega) (HNE.out.take k))
    clear hM1 hM2 hT
    have HPT := HPC.out m (Nat.le_refl _) w9 (Below.refl _ _)
    rw [List.take_of_length_le (by rw [HLM.out]; exact Nat.le_refl _), HTT.out] at HPT
    have HPT := Lib.hid HPT
    go_wp2_with (with_reducible show wpList _ _ _ (Oper.mk (some 34) (Op.load _ _) _ _ _ _ :: _) _ _; go_must (refine wpList_load_part rfl 24 _ rfl g 0 1 rfl _ _ _ HKG.out Try.underlying24 rfl info_Cou (by simp) _ (arr_all (n := 1) rfl) ?_); go_wp2_with fail)
    refine HPT.out.mono ?_
    rintro e w10 ⟨rfl, h10⟩
    have HB10 := Lib.hid h10
    have HKG := Lib.hid (HKG.out.below h10 HKG.out.lt)
    clear h10 HPT
    go_wp2
    go_loopw [39] (fun i wr => ∃ k : Nat, k ≤ m ∧ i = .int .i64 (k : Int) ∧ medS Mk.time (pwOf l) T (psum (pwOf l) (ms'.take k)) (ms'.drop k) = some M ∧ Bk wr g #[.slice A n c] 24 ∧ Below w9.heap.size w9 wr) (fun i _ => m - (intOf i).toNat)
    case atStart => exact ⟨0, by omega, rfl, by simpa [psum] using HM1.out, HKG.out, HB10.out⟩
    case round =>
      clear HKG HB10 HM1
      obtain ⟨k, hk, rfl, hmd, hkg, hb⟩ := hrel
      have HMD := Lib.hid hmd
      have HKG := Lib.hid hkg
      have HB := Lib.hid hb
      clear hmd hkg hb
      by_cases hlt : k < m
      case neg =>
        exfalso
        have h := HMD.out
        rw [List.drop_of_length_le (by rw [HLM.out]; omega)] at h
        unfold medS at h
        cases h
      have hkl : k < ms'.length := by rw [HLM.out]; exact hlt
      obtain ⟨S, hS⟩ : ∃ S, psum (pwOf l) (ms'.take (k + 1)) = S := ⟨_, rfl⟩
      have HST := Lib.hid (medS_step hkl hS.symm HMD.out)
      have HSS2 := Lib.hid hS
      have hS0 : 0 ≤ S := by rw [← hS]; exact psum_nonneg _ fun q _ => pw_nonneg HNE.out.pow q
      have hS1 : S ≤ 1152921504606846975 := by rw [← hS]; exact (HNE.out.take (k + 1)).sum
      have HPK := Lib.hid (show ∀ w', Below wr.heap.size wr w' → Calls Try.prog 20 #[.agg #[.slice A n c], .slice (some ⟨g3, 0, none⟩) (k + 1) cp] w' fun e w'' => e = .returned (.int .u64 S) ∧ Below w'.heap.size w' w'' from fun w' hb => by
        rw [← hS]
        exact HPC.out (k + 1) (by omega) w' (HB.out.trans (hb.mono HB.out.size)))
      have hi : (k : Int) < m := by omega
      have p1 : IntKind.i64.wrap ((k : Int) + 1) = (k : Int) + 1 := by rw [IntKind.wrap_i64]; omega
      have p2 : IntKind.u64.wrap (2 * S) = 2 * S := by rw [IntKind.wrap_u64]; omega
      have p3 : (0 : Int) ≤ (k : Int) + 1 := by omega
      have p4 : ((k : Int) + 1).toNat = k + 1 := by omega
      have p5 : k + 1 ≤ cp := by have := HMC.out; omega
      have p6 : (k : Int) + 1 ≤ cp := by omega
      have HCT := Lib.hid (show wr.cell? ⟨g3, k * 18 + 1, none⟩ = some (.int .u64 (ms'[k]).time) by
        obtain ⟨ad, h1, h2⟩ := rd_elem (cl := Mk.cl) (N := 18) (by omega) (fun q hq => q.cl_len (HOK.out q hq)) (HRS.out.below HB.out) hkl
        injection h1 with h1
        have h3 := h2 1 (.int .u64 (ms'[k]).time) rfl
        rw [← h1, addr_add, addr_add, Nat.zero_add] at h3
        exact h3)
      clear hS
      go_wp2_with fail
      refine wp_region_free [(42, []), (43, []), (44, []), (45, [(2, 44)]), (46, [(1, 43), (3, 45)]), (47, [(0, 42), (4, 46)]), (48, [(5, 47)]), (49, [])]
        [Is (.agg #[.slice A n c]), Is (.slice (some ⟨g3, 0, none⟩) m cp), Is (.int .i64 (k : Int)), Is (.int .i64 ((k : Int) + 1)), Is (.slice (some ⟨g3, 0, none⟩) (k + 1) cp), Is (.int .u64 S), Is (.int .u64 (2 * S)), Is (.int .u64 T)]
        (by kernel_rfl) (by kernel_rfl) (by rfl) ?st ?steps ?fin
      case st => exact ⟨Is.steady _, Is.steady _, Is.steady _, Is.steady _, Is.steady _, Is.steady _, Is.steady _, Is.steady _, trivial⟩
      case steps =>
        refine FreeSteps.cons (fun w4 hw4 => ?_) ?_
        · refine FreeStep.load_part 24 _ rfl rfl rfl rfl (by rfl) rfl rfl g 0 1 rfl _ _ _ (HKG.out.drew.below hw4 HKG.out.lt) Try.underlying24 rfl info_Cou (by simp) _ (arr_all (n := 1) rfl) ?_
          with_reducible rfl
        refine FreeSteps.cons (fun w4 hw4 => ?_) ?_
        · refine FreeStep.op rfl rfl ?_
          (try simp only [Act.put, List.setIfInBounds_toArray, List.set_cons_zero, List.set_cons_succ])
          go_wp2_with fail
          exact QStep.mk rfl (Below.refl _ _) rfl
        refine FreeSteps.cons (fun w4 hw4 => ?_) ?_
        · refine FreeStep.op rfl rfl ?_
          (try simp only [Act.put, List.setIfInBounds_toArray, List.set_cons_zero, List.set_cons_succ])
          go_wp2_with fail
          exact QStep.mk rfl (Below.refl _ _) rfl
        refine FreeSteps.cons (fun w4 hw4 => FreeStep.is rfl ?_) ?_
        · refine FreeStep.op rfl rfl ?_
          (try simp only [Act.put, List.setIfInBounds_toArray, List.set_cons_zero, List.set_cons_succ])
          go_wp2_with fail
          exact QStep.mk rfl (Below.refl _ _) rfl
        refine FreeSteps.cons (fun w4 hw4 => FreeStep.is rfl (FreeStep.is rfl ?_)) ?_
        · refine FreeStep.op rfl rfl ?_
          (try simp only [Act.put, List.setIfInBounds_toArray, List.set_cons_zero, List.set_cons_succ])
          go_wp2_with fail
          exact QStep.mk rfl (Below.refl _ _) rfl
        refine FreeSteps.cons (fun w4 hw4 => FreeStep.is rfl (FreeStep.is rfl ?_)) ?_
        · refine FreeStep.call rfl rfl rfl (by rfl) rfl rfl (by (try simp only [Act.put, List.setIfInBounds_toArray, List.set_cons_zero, List.set_cons_succ]); go_simp; (try with_reducible rfl)) (HPK.out w4 (Below.trans (Below.refl _ _).drew hw4)) ?_
          rintro e w5 ⟨rfl, hb5⟩; exact ⟨_, rfl, hb5, rfl⟩
        refine FreeSteps.cons (fun w4 hw4 => FreeStep.is rfl ?_) ?_
        · refine FreeStep.op rfl rfl ?_
          (try simp only [Act.put, List.setIfInBounds_toArray, List.set_cons_zero, List.set_cons_succ])
          go_wp2_with fail
          exact QStep.mk rfl (Below.refl _ _) rfl
        refine FreeSteps.cons (fun w4 hw4 => ?_) ?_
        · refine FreeStep.op rfl rfl ?_
          (try simp only [Act.put, List.setIfInBounds_toArray, List.set_cons_zero, List.set_cons_succ])
          go_wp2_with fail
          exact QStep.mk rfl (Below.refl _ _) rfl
        exact FreeSteps.nil
      case fin =>
        intro w4 hw4
        refine FreeEnd.is rfl ?_
        refine FreeEnd.is rfl ?_
        refine FreeEnd.is rfl ?_
        refine FreeEnd.is rfl ?_
        refine FreeEnd.is rfl ?_
        refine FreeEnd.is rfl ?_
        refine FreeEnd.is rfl ?_
        refine FreeEnd.is rfl ?_
        refine FreeEnd.nil ?_
        (try simp only [Act.put, List.setIfInBounds_toArray, List.set_cons_zero, List.set_cons_succ])
        simp only [List.length_cons, List.length_nil, Nat.reduceAdd, List.drop_succ_cons, List.drop_zero]
        have HBW := Lib.hid (show Below wr.heap.size wr w4 from Below.trans (Below.refl _ _).drew hw4)
        have HB4 := Lib.hid (HB.out.trans (HBW.out.mono HB.out.size))
        have HKG4 := Lib.hid (HKG.out.below HBW.out HKG.out.lt)
        have c3 : w4.cell? ⟨g3, k * 18 + 1, none⟩ = some (.int .u64 (ms'[k]).time) := cell_keep HCT.out HBW.out
        clear hw4
        by_cases hbig : T < 2 * S
        · have HZ := Lib.hid (show M = (ms'[k]).time by have h := HST.out; rw [if_pos hbig] at h; exact h)
          obtain ⟨tm, htm⟩ : ∃ tm, (ms'[k]).time = tm := ⟨_, rfl⟩
          rw [htm] at HZ c3
          clear htm HCT HST
          have hi2 : k < m := hlt
          go_wp2
          go_ret2
          exact ⟨ret_eq (medV_eq (by rw [HMR.out, HZ.out])), HB9.out.trans (HB4.out.mono HB9.out.size)⟩
        · have HZ := Lib.hid (show medS Mk.time (pwOf l) T (psum (pwOf l) (ms'.take (k + 1))) (ms'.drop (k + 1)) = some M by have h := HST.out; rw [if_neg hbig] at h; exact h)
          clear HCT HST c3
          go_wp2
          go_round
          case rel => exact ⟨k + 1, by omega, by go_num, HZ.out, HKG4.out, HB4.out⟩
          case measure => simp [intOf]; omega
end Go.Proofs.Ytnfffipkgaobhaa
namespace Go.Proofs.Ytnfffipkgaobhaa
set_option linter.unusedSimpArgs false
set_option linter.unusedVariables false
open Go.RowKit
set_option maxRecDepth 100000

def RTot (ms : List Mem) (e : Ending) : Prop := ∃ r : Int, e = .returned (.int .u64 r) ∧ 0 ≤ r ∧ r ≤ 2305843009213693950 ∧ (if supply < totalM ms then supply < r else r = totalM ms)
set_option maxHeartbeats 4000000 in
theorem rtotal_any (w : World) (A : Option Addr) (n c : Nat) (ms : List Mem) (hn : n = ms.length) (hm : ∀ m ∈ ms, 0 ≤ m.power ∧ m.power ≤ 1152921504606846975) (hr : Rd w A (ms.flatMap Mem.cl)) (hl : n ≤ 10000000000000) :
    Calls Try.prog 35 #[.slice A n c] w fun e w' => RTot ms e ∧ w = w' := by
  have HN := Lib.hid hn
  have HM := Lib.hid hm
  have HR := Lib.hid hr
  have H0 := Lib.hid (show ∀ m ∈ ms, 0 ≤ m.power from fun m h => (hm m h).1)
  clear hn hm hr
  go_enter Try.func35, Try.ntmps35
  go_wp2
  go_loopw [3, 4] (fun v i wr => ∃ (k : Nat) (t : Int), k ≤ n ∧ i = .int .i64 (k : Int) ∧ v = .int .u64 t ∧ t = psum Mem.power (ms.take k) ∧ 0 ≤ t ∧ t ≤ 2305843009213693950 ∧ wr = w) (fun _ i _ => n - (intOf i).toNat)
  case atStart => exact ⟨0, 0, by omega, rfl, rfl, rfl, by omega, by omega, rfl⟩
  case round =>
    obtain ⟨k, t, hk, rfl, rfl, ht, h0, h1, rfl⟩ := hrel
    have HT := Lib.hid ht
    clear ht
    by_cases hlt : k < n
    · have hkl : k < ms.length := by rw [← HN.out]; exact hlt
      obtain ⟨ad, hA, hcell⟩ := rd_elem (by omega) memln HR.out hkl
      obtain ⟨m, hmk⟩ : ∃ m, ms[k] = m := ⟨_, rfl⟩
      have hmem : m ∈ ms := by rw [← hmk]; exact List.getElem_mem hkl
      have HTK := Lib.hid (show psum Mem.power (ms.take (k + 1)) = t + m.power by rw [psum_take_succ _ _ _ hkl, hmk, ← HT.out])
      obtain ⟨hp0, hp1⟩ := HM.out m hmem
      rw [hmk] at hcell
      have c1 : wr.cell? ⟨(ad.add (k * 3)).block, (ad.add (k * 3)).off + 1, none⟩ = some (.int .u64 m.power) := by rw [← add_rec]; exact hcell 1 _ rfl
      subst hA
      have HLE := Lib.hid (show t ≤ totalM ms by rw [HT.out]; exact psum_take_le Mem.power ms H0.out k)
      clear hcell hmk hmem
      have hi : (k : Int) < n := by omega
      have hpb : ¬ 1152921504606846975 < m.power := by omega
      by_cases hbig : 1152921504606846975 < t
      · have HBG := Lib.hid (show supply < totalM ms by have := HLE.out; unfold supply; omega)
        go_wp2
        go_ret
        exact ⟨⟨_, rfl, by omega, by omega, by rw [if_pos HBG.out]; unfold supply; omega⟩, rfl⟩
      · have pw2 : IntKind.u64.wrap (t + m.power) = t + m.power := by rw [IntKind.wrap_u64]; omega
        go_wp2
        go_round
        case rel => exact ⟨k + 1, t + m.power, by omega, by go_num, rfl, HTK.out.symm, by omega, by omega, trivial⟩
        case measure => simp [intOf]; omega
    · have hk' : k = n := by omega
      have HE := Lib.hid (show totalM ms = t by rw [HT.out, List.take_of_length_le (by rw [hk', HN.out]; exact Nat.le_refl _)]; rfl)
      clear hk'
      go_wp2
      go_ret
      refine ⟨⟨t, rfl, h0, h1, ?_⟩, rfl⟩
      rw [HE.out]
      split
      · assumption
      · rfl
set_option maxHeartbeats 4000000 in
theorem rSound_any (w : World) (A : Option Addr) (n c : Nat) (ms : List Mem) (hn : n = ms.length) (hm : ∀ m ∈ ms, m.ok) (hr : Rd w A (ms.flatMap Mem.cl)) (hl : n ≤ 10000000000000) :
    Calls Try.prog 21 #[.agg #[.slice A n c]] w fun e w' => e = .returned (.int .i64 (soundErr ms)) ∧ Below w.heap.size w w' := by
  have HN := Lib.hid hn
  have HM := Lib.hid hm
  have HR := Lib.hid hr
  obtain ⟨E, hE⟩ : ∃ E, memE ms = E := ⟨_, rfl⟩
  have hEE : E = if n = 0 then 53 else if 64 < n then 4 else if memErr none ms ≠ 0 then memErr none ms else if supply < totalM ms then 51 else 0 := by rw [← hE, hn]; rfl
  have HE := Lib.hid hE
  have HEE := Lib.hid hEE
  clear hn hm hr hE hEE
  go_enter Try.func21, Try.ntmps21
  go_wp2_with (with_reducible show wpList _ _ _ (Oper.mk _ (Op.box _ _) _ _ _ _ :: _) _ _; refine wpList_box_i rfl _ _ rfl _ rfl ?_)
  intro g w1 hk1 hb1 hg1 hs1
  have c0 : w1.cell? ⟨g, 0, none⟩ = some (.slice A n c) := hk1.cell 0
  have HB0 := Lib.hid hb1
  clear hk1 hb1 hg1 hs1
  by_cases hz : n = 0
  · have HZ := Lib.hid (show memE ms = 53 by rw [HE.out, HEE.out, if_pos hz])
    subst hz
    go_wp2
    go_ret
    exact ⟨ret_i64 (souErr_of HZ.out (by decide)).symm, HB0.out⟩
  have hz1 : ¬ (n : Int) = 0 := by omega
  have hz2 : ((n : Int) == 0) = false := by simpa using hz1
  by_cases hbig : 64 < n
  · have HZ := Lib.hid (show memE ms = 4 by rw [HE.out, HEE.out, if_neg hz, if_pos hbig])
    have hb2 : (64 : Int) < (n : Int) := by omega
    clear hz hz1 hbig
    go_wp2
    go_ret
    exact ⟨ret_i64 (souErr_of HZ.out (by decide)).symm, HB0.out⟩
  have HEF := Lib.hid (show E = if memErr none ms ≠ 0 then memErr none ms else if supply < totalM ms then 51 else 0 by rw [HEE.out, if_neg hz, if_neg hbig])
  have hn64 : n ≤ 64 := by omega
  have hb2 : ¬ (64 : Int) < (n : Int) := by omega
  clear hz hz1 hbig HEE
  go_wp2
  obtain ⟨R, hRR⟩ : ∃ R, memErr none ms = R := ⟨_, rfl⟩
  rw [hRR] at HEF
  have HRR := Lib.hid hRR
  clear hRR c0
  go_loopw [4] (fun i wr => ∃ k : Nat, k ≤ n ∧ i = .int .i64 (k : Int) ∧ memErr (prevM ms k) (ms.drop k) = R ∧ Below w.heap.size w wr) (fun i _ => n - (intOf i).toNat)
  case atStart => exact ⟨0, by omega, rfl, by rw [← HRR.out]; rfl, HB0.out⟩
  case round =>
    obtain ⟨k, hk, rfl, hp4, hb⟩ := hrel
    have HP4 := Lib.hid hp4
    have HB := Lib.hid hb
    clear hp4 hb
    by_cases hlt : k < n
    · have hkl : k < ms.length := by rw [← HN.out]; exact hlt
      have hd := memErr_drop hkl (prevM ms k)
      obtain ⟨ad, hA, hcell⟩ := rd_elem (by omega) memln (HR.out.below HB.out) hkl
      obtain ⟨m, hmk⟩ : ∃ m, ms[k] = m := ⟨_, rfl⟩
      rw [HP4.out, hmk] at hd
      have HD := Lib.hid hd
      rw [hmk] at hcell
      have c0 : wr.cell? (ad.add (k * 3)) = some (.int .u64 m.addr) := by have := hcell 0 _ rfl; simpa [Addr.add] using this
      have c1 : wr.cell? ⟨(ad.add (k * 3)).block, (ad.add (k * 3)).off + 1, none⟩ = some (.int .u64 m.power) := by rw [← add_rec]; exact hcell 1 _ rfl
      subst hA
      clear hcell hmk hd
      have hi : (k : Int) < n := by omega
      by_cases ha : m.addr = 0
      · have HZ := Lib.hid (show memE ms = 85 by rw [HE.out, HEF.out, HD.out, if_pos ha]; rfl)
        have ha2 : (m.addr == 0) = true := by simp [ha]
        clear ha
        go_wp2
        go_ret
        exact ⟨ret_i64 (souErr_of HZ.out (by decide)).symm, HB.out⟩
      have ha2 : (m.addr == 0) = false := by simp [ha]
      have HD1 := Lib.hid (show R = if (match prevM ms k with | some q => decide (m.addr ≤ q) | none => false) = true then 52 else if m.power = 0 ∨ supply < m.power then 50 else memErr (prevM ms (k + 1)) (ms.drop (k + 1)) by rw [HD.out, if_neg ha] <;> rfl)
      clear ha HD
      obtain ⟨b, HB1, hway⟩ : ∃ b : Bool, Hid (R = if b = true then 52 else if m.power = 0 ∨ supply < m.power then 50 else memErr (prevM ms (k + 1)) (ms.drop (k + 1))) ∧ ((k = 0 ∧ b = false) ∨ (0 < k ∧ ∃ pa, wr.cell? (ad.add ((k - 1) * 3)) = some (.int .u64 pa) ∧ decide (m.addr ≤ pa) = b)) := by
        by_cases hk0 : k = 0
        · exact ⟨false, Lib.hid (by rw [HD1.out, hk0]; rfl), .inl ⟨hk0, rfl⟩⟩
        · have hkp : k - 1 < ms.length := by omega
          have hpv : prevM ms k = some (ms[k - 1]).addr := by unfold prevM; rw [if_neg hk0, List.getElem?_eq_getElem hkp]; rfl
          refine ⟨decide (m.addr ≤ (ms[k - 1]).addr), Lib.hid (by rw [HD1.out, hpv]), .inr ⟨by omega, (ms[k - 1]).addr, ?_, rfl⟩⟩
          obtain ⟨ad', ha', h1⟩ := rd_elem (by omega) memln (HR.out.below HB.out) hkp
          injection ha' with ha'
          have := h1 0 (.int .u64 (ms[k - 1]).addr) rfl
          rw [← ha'] at this
          simpa [Addr.add] using this
      have LD := Lib.hid (show Below w.heap.size w wr.drew from HB.out.drew)
      rcases hway with ⟨hk0, rfl⟩ | ⟨hkp, pa, hcp, hpb⟩
      · have hk1 : decide ((0 : Int) < (k : Int)) = false := decide_eq_false (by omega)
        have hk2 : decide (0 < k) = false := decide_eq_false (by omega)
        clear hk0
        go_wp2_with fail
        refine wp_region_still_tail 15 (by kernel_rfl) (by kernel_rfl) ?_
        simp only [List.take_succ_cons, List.take_zero, List.drop_succ_cons, List.drop_zero]
        refine still_quiet _ _ ?_
        repeat (first | go_big_quiet_skip | (go_big_quiet_want; go_big_quiet_op; go_big_quiet_on))
        refine wpQuiet_nil ?_
        change wpList _ _ _ _ _ wr.drew
        by_cases hpz : m.power = 0
        · have HZ := Lib.hid (show memE ms = 50 by have hr : R = 50 := by { rw [HB1.out, if_neg Bool.false_ne_true, if_pos (.inl hpz)] }; rw [HE.out, HEF.out, hr]; rfl)
          have hq1 : (m.power == 0) = true := by simp [hpz]
          clear hpz
          go_wp2
          go_ret
          exact ⟨ret_i64 (souErr_of HZ.out (by decide)).symm, LD.out⟩
        · have hq1 : (m.power == 0) = false := by simp [hpz]
          by_cases hps : 1152921504606846975 < m.power
          · have HZ := Lib.hid (show memE ms = 50 by have hr : R = 50 := by { rw [HB1.out, if_neg Bool.false_ne_true, if_pos (.inr hps)] }; rw [HE.out, HEF.out, hr]; rfl)
            go_wp2
            go_ret
            exact ⟨ret_i64 (souErr_of HZ.out (by decide)).symm, LD.out⟩
          · have HZ := Lib.hid (show memErr (prevM ms (k + 1)) (ms.drop (k + 1)) = R by rw [HB1.out, if_neg Bool.false_ne_true, if_neg (by unfold supply; omega)])
            clear hpz
            go_wp2
            go_round
            case rel => exact ⟨k + 1, by omega, by go_num, HZ.out, LD.out⟩
            case measure => simp [intOf]; omega
      · have hk1 : decide ((0 : Int) < (k : Int)) = true := decide_eq_true (by omega)
        have hk2 : decide (0 < k) = true := decide_eq_true (by omega)
        have p1 : IntKind.i64.wrap ((k : Int) - 1) = (k : Int) - 1 := by rw [IntKind.wrap_i64]; omega
        have p2 : ((k : Int) - 1).toNat = k - 1 := by omega
        have p3 : (0 : Int) ≤ (k : Int) - 1 := by omega
        have p4 : (k : Int) - 1 < n := by omega
        have p5 : k - 1 < n := by omega
        cases b
        · go_wp2_with fail
          refine wp_region_still_tail 15 (by kernel_rfl) (by kernel_rfl) ?_
          simp only [List.take_succ_cons, List.take_zero, List.drop_succ_cons, List.drop_zero]
          refine still_quiet _ _ ?_
          repeat (first | go_big_quiet_skip | (go_big_quiet_want; go_big_quiet_op; go_big_quiet_on))
          refine wpQuiet_nil ?_
          change wpList _ _ _ _ _ wr.drew
          clear p1 p2 p3 p4 p5
          by_cases hpz : m.power = 0
          · have HZ := Lib.hid (show memE ms = 50 by have hr : R = 50 := by { rw [HB1.out, if_neg Bool.false_ne_true, if_pos (.inl hpz)] }; rw [HE.out, HEF.out, hr]; rfl)
            have hq1 : (m.power == 0) = true := by simp [hpz]
            clear hpz
            go_wp2
            go_ret
            exact ⟨ret_i64 (souErr_of HZ.out (by decide)).symm, LD.out⟩
          · have hq1 : (m.power == 0) = false := by simp [hpz]
            by_cases hps : 1152921504606846975 < m.power
            · have HZ := Lib.hid (show memE ms = 50 by have hr : R = 50 := by { rw [HB1.out, if_neg Bool.false_ne_true, if_pos (.inr hps)] }; rw [HE.out, HEF.out, hr]; rfl)
              go_wp2
              go_ret
              exact ⟨ret_i64 (souErr_of HZ.out (by decide)).symm, LD.out⟩
            · have HZ := Lib.hid (show memErr (prevM ms (k + 1)) (ms.drop (k + 1)) = R by rw [HB1.out, if_neg Bool.false_ne_true, if_neg (by unfold supply; omega)])
              clear hpz
              go_wp2
              go_round
              case rel => exact ⟨k + 1, by omega, by go_num, HZ.out, LD.out⟩
              case measure => simp [intOf]; omega
        · have HZ := Lib.hid (show memE ms = 52 by rw [HE.out, HEF.out, HB1.out, if_pos rfl]; rfl)
          go_wp2_with fail
          refine wp_region_still_tail 15 (by kernel_rfl) (by kernel_rfl) ?_
          simp only [List.take_succ_cons, List.take_zero, List.drop_succ_cons, List.drop_zero]
          refine still_quiet _ _ ?_
          repeat (first | go_big_quiet_skip | (go_big_quiet_want; go_big_quiet_op; go_big_quiet_on))
          refine wpQuiet_nil ?_
          change wpList _ _ _ _ _ wr.drew
          go_wp2
          go_ret
          exact ⟨ret_i64 (souErr_of HZ.out (by decide)).symm, LD.out⟩
    · have hk' : k = n := by omega
      have HZ := Lib.hid (show R = 0 by rw [← HP4.out, List.drop_of_length_le (by rw [hk', HN.out]; exact Nat.le_refl _)]; cases prevM ms k <;> rfl)
      clear hk'
      have HEG := Lib.hid (show E = if supply < totalM ms then 51 else 0 by rw [HEF.out, if_neg (by rw [HZ.out]; decide)])
      have HPW := Lib.hid (memErr_pow ms none HM.out (by rw [HRR.out, HZ.out]))
      have HCT := Lib.hid (rtotal_any wr A n c ms HN.out (fun m hm => by have := HPW.out m hm; unfold supply at this; omega) (HR.out.below HB.out) hl)
      go_wp2_with fail
      refine HCT.out.mono ?_
      rintro e w5 ⟨⟨T, rfl, t0, t1, ht⟩, rfl⟩
      by_cases hs : supply < totalM ms
      · have HZ2 := Lib.hid (show memE ms = 51 by rw [HE.out, HEG.out, if_pos hs])
        rw [if_pos hs] at ht
        have ht : 1152921504606846975 < T := ht
        clear hs
        go_wp2
        go_ret
        exact ⟨ret_i64 (souErr_of HZ2.out (by decide)).symm, HB.out⟩
      · obtain ⟨s1, s2, s3, s4, s5⟩ := souErr_on (show memE ms = 0 by rw [HE.out, HEG.out, if_neg hs])
        rw [if_neg hs] at ht
        rw [← ht] at s5 s1
        have hT : T ≤ 1152921504606846975 := s1
        have HS := Lib.hid s5
        clear ht hs s1 s2 s3 s4 s5 HCT
        have hT2 : ¬ 1152921504606846975 < T := by omega
        have p1 : IntKind.i64.wrap T = T := by rw [IntKind.wrap_i64]; omega
        have p2 : IntKind.i64.wrap (7 * T) = 7 * T := by rw [IntKind.wrap_i64]; omega
        have p3 : IntKind.i64.wrap (-7 * T) = -7 * T := by rw [IntKind.wrap_i64]; omega
        have p4 : IntKind.i64.wrap (-(7 * T)) = -(7 * T) := by rw [IntKind.wrap_i64]; omega
        go_wp2
        go_loopw [6] (fun i wx => ∃ k : Nat, k ≤ n ∧ i = .int .i64 (k : Int) ∧ (ms.take k).any (prioBad T) = false ∧ wx = wr) (fun i _ => n - (intOf i).toNat)
        case atStart => exact ⟨0, by omega, rfl, rfl, rfl⟩
        case round =>
          obtain ⟨j, hj, rfl, hp4, rfl⟩ := hrel
          have HP5 := Lib.hid hp4
          clear hp4
          by_cases hlt : j < n
          · have hkl : j < ms.length := by rw [← HN.out]; exact hlt
            obtain ⟨ad, hA, hcell⟩ := rd_elem (by omega) memln (HR.out.below HB.out) hkl
            have HTK := Lib.hid (any_take_succ (prioBad T) ms j hkl HP5.out)
            obtain ⟨m, hmk⟩ : ∃ m, ms[j] = m := ⟨_, rfl⟩
            rw [hmk] at hcell HTK
            have c2 : wr.cell? ⟨(ad.add (j * 3)).block, (ad.add (j * 3)).off + 2, none⟩ = some (.int .i64 m.prio) := by rw [← add_rec]; exact hcell 2 _ rfl
            subst hA
            clear hcell hmk
            have hi : (j : Int) < n := by omega
            by_cases h1 : m.prio < -7 * T
            · have HY := Lib.hid (any_of_take (prioBad T) ms (j + 1) (by rw [HTK.out]; unfold prioBad; rw [decide_eq_true (show m.prio < -(7 * T) by omega)]; rfl))
              have HZ := Lib.hid (show soundErr ms = 2 by rw [HS.out, HY.out]; rfl)
              go_wp2
              go_ret
              exact ⟨ret_i64 HZ.out.symm, HB.out⟩
            · by_cases h2 : 7 * T < m.prio
              · have HY := Lib.hid (any_of_take (prioBad T) ms (j + 1) (by rw [HTK.out]; unfold prioBad; rw [decide_eq_true h2, Bool.or_true]))
                have HZ := Lib.hid (show soundErr ms = 2 by rw [HS.out, HY.out]; rfl)
                go_wp2
                go_ret
                exact ⟨ret_i64 HZ.out.symm, HB.out⟩
              · have HY := Lib.hid (show (ms.take (j + 1)).any (prioBad T) = false by rw [HTK.out]; unfold prioBad; rw [decide_eq_false h2, decide_eq_false (show ¬ m.prio < -(7 * T) by omega)]; rfl)
                go_wp2
                go_round
                case rel => exact ⟨j + 1, by omega, by go_num, HY.out, trivial⟩
                case measure => simp [intOf]; omega
          · have hk' : j = n := by omega
            have HY := Lib.hid (show ms.any (prioBad T) = false by rw [← HP5.out, List.take_of_length_le (by rw [hk', HN.out]; exact Nat.le_refl _)])
            have HZ := Lib.hid (show soundErr ms = 0 by rw [HS.out, HY.out]; rfl)
            clear hk'
            go_wp2
            go_ret
            exact ⟨ret_i64 HZ.out.symm, HB.out⟩
end Go.Proofs.Ytnfffipkgaobhaa

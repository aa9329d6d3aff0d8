/-
  WireApart's walk: it answers true. Conditions: each number fits its kind; the lists lie in the world; lists of at most 10^9 elements.
-/
import Derived.Test.YtlhnhjglcbggmaaGreatRRYWa2
import Derived.Test.YtlhnhjglcbggmaaGreatRRY12
namespace Go.Proofs.YtlhnhjglcbggmaaGreatRR
set_option linter.unusedSimpArgs false
set_option linter.unusedVariables false
open Go.RowKit
set_option maxRecDepth 100000

theorem infoT_ThA : (Tryz.prog.info? 64).map (·.size) = some 1624 := by kernel_rfl
theorem info_intA : (Tryz.prog.info? 3).map (·.size) = some 1 := by kernel_rfl
theorem info_intC (j : Int) : (Tryz.prog.info? 3).map (·.size) = some (Value.int .i64 j).cells.size := info_intA
theorem size_intC {l : List Value} (h : l.length = 1624) (j : Int) : 0 + (Value.int .i64 j).cells.size ≤ l.toArray.size := by
 show 0 + 1 ≤ _
 simp [h]
theorem one_intC (j : Int) : ∀ u ∈ (Value.int .i64 j).cells.toList, u.oneCell' = true := fun u hu => by
 simp [Value.cells] at hu
 subst hu
 rfl
theorem Thg.form_cap47 (x : Thg) (hx : x.ok) (hf : x.st.few) (n : Nat) (hn : n < 10) (h : x.plainK n = 0) : (x.formK n).length ≤ 100000000000 := by
 match n, hn, h with
 | 0, _, h => exact Nat.le_trans (formTx_67 hx.tx) (by decide)
 | 1, _, h => exact Nat.le_trans (formVote_83 hx.vote (voteB hx.vote h)) (by decide)
 | 2, _, h => exact Nat.le_trans (formProposal_83 hx.prop (proposalB hx.prop h)) (by decide)
 | 3, _, h => exact Nat.le_trans (encCrt_1980 hx.crt (crtB hx.crt h)) (by decide)
 | 4, _, h => exact Nat.le_trans (formEv_166 hx.ev (evB hx.ev h).1 (evB hx.ev h).2) (by decide)
 | 5, _, h => exact Nat.le_trans (encHdr_350 hx.hd (hdrB hx.hd h)) (by decide)
 | 6, _, h => exact Nat.le_trans (formBlk_131072 hx.blk (blkB hx.blk h)) (by decide)
 | 7, _, h => exact Nat.le_trans (formMg_len hx.mg h) (by decide)
 | 8, _, h => exact Nat.le_trans (formIp_len hx.ip h) (by decide)
 | 9, _, h => exact formSta_len hx.st (staB hx.st h) hf.o hf.r
 | n + 10, hn, _ => omega
theorem BytesRes.two {w w' : World} {err : Int} {l : List UInt8} {e : Ending} (h : BytesRes w err l e w') : Below w.heap.size w w' ∧ ∃ A n c E, e = .returned (.tuple #[.slice A n c, .int .i64 E]) ∧ (E = 0 → err = 0 ∧ n = l.length ∧ Bs w' w.heap.size (.slice A n c) l) := by
 obtain ⟨hb, ⟨hne, rfl⟩ | ⟨he, v, rfl, hv⟩⟩ := h
 ·exact ⟨hb, none, 0, 0, err, rfl, fun h => absurd h hne⟩
 ·obtain ⟨A, c, hf⟩ := Bs.form hv
  exact ⟨hb, A, l.length, c, 0, by rw [hf], fun _ => ⟨he, rfl, hf ▸ hv⟩⟩
theorem splice_which (y : Thg) (j : Int) : splice y.cl.toArray 0 (Value.int .i64 j).cells.toList = ({ y with which := j } : Thg).cl.toArray := by
 apply Array.ext'
 simp [splice, Thg.cl, Value.cells]
theorem Sta.sm_of {x : Sta} (hx : x.ok) (hf : x.few) (hp : plainSta x = 0) : x.sm := by
 have h := staB hx hp
 exact ⟨by have := h.cou; omega, by have := h.next; omega, by have := h.pn; omega, fun p hp => by have := h.ps p hp; omega, by have := hf.o; omega, by have := h.an; omega, by have := hf.r; omega⟩
theorem take_bv (l : List UInt8) (k : Nat) {w : World} {A : Option Addr} (h : Rd w A (bv l)) : Rd w A (bv (l.take k)) := by
 intro j u hj
 refine h j u ?_
 rw [bv_get] at hj ⊢
 rw [List.getElem?_take] at hj
 split at hj
 ·exact hj
 ·simp at hj

set_option maxHeartbeats 16000000 in
theorem WireApart_walk (w : World) (x y : Thg) (hx : x.ok) (hy : y.ok) (hax : x.at w) (hay : y.at w) (lx : x.st.few) (ly : y.st.few) (lc : x.crt.n ≤ 5000000000000) :
  Calls Tryz.prog 3 #[.agg x.cl.toArray, .agg y.cl.toArray] w fun e w' => e = .returned (.bool true) ∧ Below w.heap.size w w' := by
 obtain ⟨z, hz⟩ : ∃ z : Thg, ({ y with which := x.which } : Thg) = z := ⟨_, rfl⟩
 have HX := Lib.hid hx
 have HZ := Lib.hid (show z.ok by rw [← hz]; exact ⟨hx.which, hy.tx, hy.vote, hy.prop, hy.crt, hy.ev, hy.hd, hy.blk, hy.mg, hy.ip, hy.st⟩)
 have HAX := Lib.hid hax
 have HAZ := Lib.hid (show z.at w by rw [← hz]; exact ⟨hay.crt, hay.blk, hay.mg, hay.ip, hay.st⟩)
 have HLI := Lib.hid lx
 have HLZ := Lib.hid (show z.st.few by rw [← hz]; exact ly)
 have HLC := Lib.hid lc
 have HKN := Lib.hid (show z.kn = x.kn by rw [← hz]; rfl)
 have HSP := Lib.hid (show splice y.cl.toArray 0 (Value.int .i64 x.which).cells.toList = z.cl.toArray by rw [← hz]; exact splice_which y x.which)
 have HLX := Lib.hid (x.cl_len hx)
 have HLY := Lib.hid (y.cl_len hy)
 have HLZL := Lib.hid (z.cl_len HZ.out)
 clear hz hax hay lx ly hx hy lc
 go_enter Tryz.func3, Tryz.ntmps3
 go_wp2_with (with_reducible show wpList _ _ _ (Oper.mk _ (Op.box _ _) _ _ _ _ :: _) _ _; refine wpList_box_i rfl _ _ rfl _ rfl ?_)
 intro ga w1 hk1 hb1 hg1 hs1
 go_wp2_with (with_reducible show wpList _ _ _ (Oper.mk _ (Op.box _ _) _ _ _ _ :: _) _ _; refine wpList_box_i rfl _ _ rfl _ rfl ?_)
 intro gb w2 hk2 hb2 hg2 hs2
 have HKA2 := Lib.hid ((bk_eqT (cs' := x.cl.toArray) hk1 rfl).below hb2 hk1.lt)
 have HKB2 := Lib.hid (bk_eqT (cs' := y.cl.toArray) hk2 rfl)
 have HB2 := Lib.hid (hb1.trans (hb2.mono hb1.size))
 have HGB := Lib.hid (Nat.le_trans hb1.size hg2)
 have HNE := Lib.hid (show gb ≠ ga by omega)
 clear hk1 hb1 hg1 hs1 hk2 hb2 hg2 hs2
 go_wp2_with fail
 refine (alive_any w2).mono ?_
 rintro e w3 ⟨rfl, hb3⟩
 have HKA3 := Lib.hid (HKA2.out.below hb3 HKA2.out.lt)
 have HKB3 := Lib.hid (HKB2.out.below hb3 HKB2.out.lt)
 have HB3 := Lib.hid (HB2.out.trans (hb3.mono HB2.out.size))
 have c0 : w3.cell? ⟨ga, 0, none⟩ = some (.int .i64 x.which) := HKA3.out.cell 0
 clear hb3 HKA2 HKB2 HB2
 go_wp2_with (with_reducible show wpList _ _ _ (Oper.mk _ (Op.store _ _ _) _ _ _ _ :: _) _ _; go_must (refine wpList_store_part rfl 3 _ _ rfl gb 0 rfl (.int .i64 x.which) rfl _ _ HKB3.out (info_intC x.which) (size_intC HLY.out x.which) (one_intC x.which) ?_))
 intro w4 h4 hg4 hs4
 have HKZ4 := Lib.hid (show Bk w4 gb z.cl.toArray 64 from bk_eqT h4 HSP.out)
 have HKA4 := Lib.hid (bk_other HKA3.out hg4 HNE.out)
 have HB4 := Lib.hid (below_grown2 HB3.out hg4 HGB.out HB3.out.size)
 clear h4 hg4 hs4 c0 HKA3 HKB3 HB3 HSP
 go_wp2_with (with_reducible show wpList _ _ _ (Oper.mk (some 16) (Op.load 64 _) _ _ _ _ :: _) _ _; go_must (refine wpList_load_part rfl 64 _ rfl ga 0 1624 rfl _ _ _ HKA4.out Tryz.underlying64 rfl infoT_ThA (by simp [HLX.out]) _ (cl_allN HLX.out) ?_))
 refine (encodeT_any w4 x HX.out (HAX.out.below HB4.out) HLI.out).mono ?_
 intro e w5 hr
 obtain ⟨hb5, A, n, c, E1, rfl, h1⟩ := BytesRes.two hr
 have HR1 := Lib.hid h1
 have HKZ5 := Lib.hid (HKZ4.out.below hb5 HKZ4.out.lt)
 have HKA5 := Lib.hid (HKA4.out.below hb5 HKA4.out.lt)
 have HB5 := Lib.hid (HB4.out.trans (hb5.mono HB4.out.size))
 clear hb5 h1 hr HKZ4 HKA4 HB4
 go_wp2_with (with_reducible show wpList _ _ _ (Oper.mk (some 21) (Op.load 64 _) _ _ _ _ :: _) _ _; go_must (refine wpList_load_part rfl 64 _ rfl gb 0 1624 rfl _ _ _ HKZ5.out Tryz.underlying64 rfl infoT_ThA (by simp [HLZL.out]) _ (cl_allN HLZL.out) ?_))
 refine (encodeT_any w5 z HZ.out (HAZ.out.below HB5.out) HLZ.out).mono ?_
 intro e w6 hr
 obtain ⟨hb6, B, m, d, E2, rfl, h2⟩ := BytesRes.two hr
 rw [HKN.out] at h2
 have HR2 := Lib.hid h2
 have HE6 := Lib.hid hb6
 have HKZ6 := Lib.hid (HKZ5.out.below hb6 HKZ5.out.lt)
 have HKA6 := Lib.hid (HKA5.out.below hb6 HKA5.out.lt)
 have HB6 := Lib.hid (HB5.out.trans (hb6.mono HB5.out.size))
 clear hb6 h2 hr HKZ5 HKA5
 by_cases he1 : E1 = 0
 case neg =>
  have f1 : (E1 != 0) = true := by simpa using he1
  clear he1
  go_wp2
  go_ret
  exact ⟨rfl, HB6.out⟩
 by_cases he2 : E2 = 0
 case neg =>
  have f1 : (E1 != 0) = false := by simp [he1]
  have f2 : (E2 != 0) = true := by simpa using he2
  clear he1 he2
  go_wp2
  go_ret
  exact ⟨rfl, HB6.out⟩
 obtain ⟨p1, ln1, hb1⟩ := HR1.out he1
 obtain ⟨p2, ln2, hb2⟩ := HR2.out he2
 have f1 : (E1 != 0) = false := by simp [he1]
 have f2 : (E2 != 0) = false := by simp [he2]
 have HP1 := Lib.hid p1
 have HP2 := Lib.hid p2
 have HBA := Lib.hid (hb1.below HE6.out)
 have HBB := Lib.hid hb2
 have HN1 := Lib.hid ln1
 have HN2 := Lib.hid ln2
 have hn47 : n ≤ 100000000000 := by rw [ln1]; exact x.form_cap47 HX.out HLI.out x.kn x.kn_lt p1
 have hm47 : m ≤ 100000000000 := by rw [ln2]; exact z.form_cap47 HZ.out HLZ.out x.kn x.kn_lt p2
 have HN47 := Lib.hid hn47
 have HM47 := Lib.hid hm47
 clear HR1 HR2 p1 p2 ln1 ln2 hb1 hb2 he1 he2 hn47 hm47
 go_wp2_with (first
  | (with_reducible show wpList _ _ _ (Oper.mk (some 31) (Op.load 64 _) _ _ _ _ :: _) _ _; go_must (refine wpList_load_part rfl 64 _ rfl ga 0 1624 rfl _ _ _ HKA6.out Tryz.underlying64 rfl infoT_ThA (by simp [HLX.out]) _ (cl_allN HLX.out) ?_))
  | (with_reducible show wpList _ _ _ (Oper.mk (some 32) (Op.load 64 _) _ _ _ _ :: _) _ _; go_must (refine wpList_load_part rfl 64 _ rfl gb 0 1624 rfl _ _ _ HKZ6.out Tryz.underlying64 rfl infoT_ThA (by simp [HLZL.out]) _ (cl_allN HLZL.out) ?_)))
 refine (alike_any w6 x z HX.out HZ.out (HAX.out.below HB6.out) (HAZ.out.below HB6.out) HLC.out (fun h9 => Sta.sm_of HX.out.st HLI.out (by have := HP1.out; rw [h9] at this; exact this))).mono ?_
 rintro e w7 ⟨⟨r, rfl, hr⟩, hb7⟩
 have HSM := Lib.hid hr
 have HB7 := Lib.hid (HB6.out.trans (hb7.mono HB6.out.size))
 have RA7 := Lib.hid ((Bs.rd HBA.out).below hb7)
 have RB7 := Lib.hid ((Bs.rd HBB.out).below hb7)
 clear hb7 hr f1 f2
 cases r with
 | true =>
  have HEQ := Lib.hid (Thg.same_form HX.out HZ.out x.kn (HSM.out.1 (by simp)))
  go_wp2_with fail
  refine (sameBytes_any w7 A B n c m d _ _ HN1.out.symm HN2.out.symm RA7.out RB7.out (by have := HN47.out; unfold reach47; omega)).mono ?_
  rintro e w8 ⟨rfl, hb8⟩
  have HB8 := Lib.hid (HB7.out.trans (hb8.mono HB7.out.size))
  rw [show ((x.formK x.kn) == (z.formK x.kn)) = true by rw [HEQ.out]; exact beq_self_eq_true _]
  clear hb8
  go_wp2
  go_ret
  exact ⟨rfl, HB8.out⟩
 | false =>
  have HNS := Lib.hid (show ¬ x.sameK z x.kn from fun h => by have := HSM.out.2 h; cases this)
  obtain ⟨g1, cc, hg1, hc1, _, _⟩ := own_slice HBA.out (by rw [← HN1.out] ; have := x.form_pos x.kn; have := HN1.out; omega)
  obtain ⟨g2, dd, hg2, hc2, _, _⟩ := own_slice HBB.out (by have := z.form_pos x.kn; exact this)
  injection hg1 with a1 a2 a3
  injection hg2 with b1 b2 b3
  subst a1 a3 b1 b3
  clear a2 b2
  have hn0 := HN1.out
  have hm0 := HN2.out
  rcases Nat.lt_or_ge m n with hlt | hge
  ·have r1 : (m : Int) < (n : Int) := by omega
   have r2 : ¬ (n : Int) ≤ (m : Int) := by omega
   have HAP := Lib.hid (Thg.apart HX.out HZ.out x.kn HP1.out HP2.out HNS.out m (by omega))
   have q2 : (0 : Int) ≤ (m : Int) := by omega
   have q3 : (m : Int) ≤ (c : Int) := by omega
   have q4 : (m : Int) ≤ (d : Int) := by omega
   have q5 : m ≤ c := by omega
   have q6 : m ≤ d := by omega
   have HRA := Lib.hid (show Rd w7.drew (some ⟨g1, 0, none⟩) (bv ((x.formK x.kn).take m)) from take_bv _ _ RA7.out)
   have HRB := Lib.hid (show Rd w7.drew (some ⟨g2, 0, none⟩) (bv ((z.formK x.kn).take m)) from take_bv _ _ RB7.out)
   have HT1 := Lib.hid (show ((x.formK x.kn).take m).length = m by rw [List.length_take]; omega)
   have HT2 := Lib.hid (show ((z.formK x.kn).take m).length = m by rw [List.length_take]; omega)
   have HK47 := Lib.hid (show m ≤ 100000000000 by have := HN47.out; have := HM47.out; omega)
   have HBF := Lib.hid (show ((x.formK x.kn).take m == (z.formK x.kn).take m) = false from beq_eq_false_iff_ne.2 HAP.out)
   clear hc1 hc2 hn0 hm0
   go_wp2_with fail
   refine wp_region_free [(42, []), (43, []), (44, [(0, 42), (1, 43)]), (45, []), (46, []), (47, [(3, 45), (4, 46)]), (48, [(2, 44), (5, 47)])]
    [Is (.slice (some ⟨g1, 0, none⟩) n c), Is (.int .i64 (m : Int)), Is (.slice (some ⟨g1, 0, none⟩) m c), Is (.slice (some ⟨g2, 0, none⟩) m d), Is (.int .i64 (m : Int)), Is (.slice (some ⟨g2, 0, none⟩) m d), Is (.bool false)]
    (by kernel_rfl) (by kernel_rfl) (by rfl) ?st ?steps ?fin
   case st => exact ⟨Is.steady _, Is.steady _, Is.steady _, Is.steady _, Is.steady _, Is.steady _, Is.steady _, trivial⟩
   case steps =>
    refine fcA (fun w4 hw4 => ?_) ?_
    ·refine foA rfl rfl ?_; (try simp only [Act.put, zA, zB, zC]); (go_wp2_with fail); exact qsA rfl rfl
    refine fcA (fun w4 hw4 => ?_) ?_
    ·refine foA rfl rfl ?_; (try simp only [Act.put, zA, zB, zC]); (go_wp2_with fail); exact qsA rfl rfl
    refine fcA (fun w4 hw4 => fiA rfl (fiA rfl ?_)) ?_
    ·refine foA rfl rfl ?_; (try simp only [Act.put, zA, zB, zC]); (go_wp2_with fail); exact qsA rfl rfl
    refine fcA (fun w4 hw4 => ?_) ?_
    ·refine foA rfl rfl ?_; (try simp only [Act.put, zA, zB, zC]); (go_wp2_with fail); exact qsA rfl rfl
    refine fcA (fun w4 hw4 => ?_) ?_
    ·refine foA rfl rfl ?_; (try simp only [Act.put, zA, zB, zC]); (go_wp2_with fail); exact qsA rfl rfl
    refine fcA (fun w4 hw4 => fiA rfl (fiA rfl ?_)) ?_
    ·refine foA rfl rfl ?_; (try simp only [Act.put, zA, zB, zC]); (go_wp2_with fail); exact qsA rfl rfl
    refine fcA (fun w4 hw4 => fiA rfl (fiA rfl ?_)) ?_
    ·refine FreeStep.call rfl rfl rfl (by rfl) rfl rfl (by (try simp only [Act.put, zA, zB, zC]); go_simp; (try with_reducible rfl)) (sameBytes_any w4 (some ⟨g1, 0, none⟩) (some ⟨g2, 0, none⟩) m c m d _ _ HT1.out HT2.out (HRA.out.below hw4) (HRB.out.below hw4) (by have := HK47.out; unfold reach47; omega)) ?_
     rintro e w5 ⟨rfl, hb5⟩; exact ⟨_, rfl, hb5, by rw [HBF.out]; rfl⟩
    exact FreeSteps.nil
   case fin =>
    intro w4 hw4
    iterate 7 refine FreeEnd.is rfl ?_
    refine FreeEnd.nil ?_
    (try simp only [Act.put, zA, zB, zC])
    simp only [List.length_cons, List.length_nil, Nat.reduceAdd, List.drop_succ_cons, List.drop_zero]
    have HB8 := Lib.hid (HB7.out.trans (((Below.refl _ _).drew.trans hw4).mono HB7.out.size))
    clear hw4
    go_wp2
    go_ret
    exact ⟨rfl, HB8.out⟩
  ·have r1 : ¬ (m : Int) < (n : Int) := by omega
   have r2 : (n : Int) ≤ (m : Int) := by omega
   have HAP := Lib.hid (Thg.apart HX.out HZ.out x.kn HP1.out HP2.out HNS.out n (by omega))
   have q2 : (0 : Int) ≤ (n : Int) := by omega
   have q3 : (n : Int) ≤ (c : Int) := by omega
   have q4 : (n : Int) ≤ (d : Int) := by omega
   have q5 : n ≤ c := by omega
   have q6 : n ≤ d := by omega
   have HRA := Lib.hid (show Rd w7.drew (some ⟨g1, 0, none⟩) (bv ((x.formK x.kn).take n)) from take_bv _ _ RA7.out)
   have HRB := Lib.hid (show Rd w7.drew (some ⟨g2, 0, none⟩) (bv ((z.formK x.kn).take n)) from take_bv _ _ RB7.out)
   have HT1 := Lib.hid (show ((x.formK x.kn).take n).length = n by rw [List.length_take]; omega)
   have HT2 := Lib.hid (show ((z.formK x.kn).take n).length = n by rw [List.length_take]; omega)
   have HK47 := Lib.hid (show n ≤ 100000000000 by have := HN47.out; have := HM47.out; omega)
   have HBF := Lib.hid (show ((x.formK x.kn).take n == (z.formK x.kn).take n) = false from beq_eq_false_iff_ne.2 HAP.out)
   clear hc1 hc2 hn0 hm0
   go_wp2_with fail
   refine wp_region_free [(42, []), (43, []), (44, [(0, 42), (1, 43)]), (45, []), (46, []), (47, [(3, 45), (4, 46)]), (48, [(2, 44), (5, 47)])]
    [Is (.slice (some ⟨g1, 0, none⟩) n c), Is (.int .i64 (n : Int)), Is (.slice (some ⟨g1, 0, none⟩) n c), Is (.slice (some ⟨g2, 0, none⟩) m d), Is (.int .i64 (n : Int)), Is (.slice (some ⟨g2, 0, none⟩) n d), Is (.bool false)]
    (by kernel_rfl) (by kernel_rfl) (by rfl) ?st ?steps ?fin
   case st => exact ⟨Is.steady _, Is.steady _, Is.steady _, Is.steady _, Is.steady _, Is.steady _, Is.steady _, trivial⟩
   case steps =>
    refine fcA (fun w4 hw4 => ?_) ?_
    ·refine foA rfl rfl ?_; (try simp only [Act.put, zA, zB, zC]); (go_wp2_with fail); exact qsA rfl rfl
    refine fcA (fun w4 hw4 => ?_) ?_
    ·refine foA rfl rfl ?_; (try simp only [Act.put, zA, zB, zC]); (go_wp2_with fail); exact qsA rfl rfl
    refine fcA (fun w4 hw4 => fiA rfl (fiA rfl ?_)) ?_
    ·refine foA rfl rfl ?_; (try simp only [Act.put, zA, zB, zC]); (go_wp2_with fail); exact qsA rfl rfl
    refine fcA (fun w4 hw4 => ?_) ?_
    ·refine foA rfl rfl ?_; (try simp only [Act.put, zA, zB, zC]); (go_wp2_with fail); exact qsA rfl rfl
    refine fcA (fun w4 hw4 => ?_) ?_
    ·refine foA rfl rfl ?_; (try simp only [Act.put, zA, zB, zC]); (go_wp2_with fail); exact qsA rfl rfl
    refine fcA (fun w4 hw4 => fiA rfl (fiA rfl ?_)) ?_
    ·refine foA rfl rfl ?_; (try simp only [Act.put, zA, zB, zC]); (go_wp2_with fail); exact qsA rfl rfl
    refine fcA (fun w4 hw4 => fiA rfl (fiA rfl ?_)) ?_
    ·refine FreeStep.call rfl rfl rfl (by rfl) rfl rfl (by (try simp only [Act.put, zA, zB, zC]); go_simp; (try with_reducible rfl)) (sameBytes_any w4 (some ⟨g1, 0, none⟩) (some ⟨g2, 0, none⟩) n c n d _ _ HT1.out HT2.out (HRA.out.below hw4) (HRB.out.below hw4) (by have := HK47.out; unfold reach47; omega)) ?_
     rintro e w5 ⟨rfl, hb5⟩; exact ⟨_, rfl, hb5, by rw [HBF.out]; rfl⟩
    exact FreeSteps.nil
   case fin =>
    intro w4 hw4
    iterate 7 refine FreeEnd.is rfl ?_
    refine FreeEnd.nil ?_
    (try simp only [Act.put, zA, zB, zC])
    simp only [List.length_cons, List.length_nil, Nat.reduceAdd, List.drop_succ_cons, List.drop_zero]
    have HB8 := Lib.hid (HB7.out.trans (((Below.refl _ _).drew.trans hw4).mono HB7.out.size))
    clear hw4
    go_wp2
    go_ret
    exact ⟨rfl, HB8.out⟩
end Go.Proofs.YtlhnhjglcbggmaaGreatRR

/-
  The reference's certificate: its form. Conditions: what is laid down is plain; the marks lie in the world.
-/
import Derived.Test.YtjdegphpalhapaaDoorKCr6
namespace Go.Proofs.YtjdegphpalhapaaDoor
set_option linter.unusedSimpArgs false
set_option linter.unusedVariables false
open Go.RowKit
set_option maxRecDepth 100000

def crtHd (x : Crt) : List UInt8 := varB x.height.toNat ++ varB x.round.toNat ++ x.id ++ varB x.n
theorem encCrt_hd (x : Crt) : encCrt x = crtHd x ++ x.ms.flatMap encMk := rfl
theorem crtHd_len {x : Crt} (hx : x.ok) (hp : CrtB x) : (crtHd x).length ≤ 2400 := by
  have := encCrt_len hx hp
  rw [encCrt_hd, List.length_append] at this
  omega
theorem Mk.ex_sl (m : Mk) (h : m.ok) : m.cl.toArray.extract 2 (2 + 16) = (bv m.sl).toArray := by
  refine extract_cl _ _ _ _ ?_
  have e : m.cl.drop 2 = bv m.sl ++ [] := by simp [Mk.cl]
  rw [e, show 2 + 16 - 2 = (bv m.sl).length from by rw [bv_length, h.sl]]
  exact List.take_left

set_option maxHeartbeats 8000000 in
theorem rCert_any (w : World) (x : Crt) (hx : x.ok) (hp : CrtB x) (hr : x.at w) :
    Calls Tryd.prog 31 #[.agg x.cl.toArray] w fun e w' => ∃ v, e = .returned v ∧ Bs w' w.heap.size v (encCrt x) ∧ Below w.heap.size w w' := by
  have HX := Lib.hid hx
  have hlen := Lib.hid (x.cl_len hx)
  have HR := Lib.hid (show Rd w x.A (x.ms.flatMap Mk.cl) from hr)
  have HLA : (crtHd x).length ≤ reach47 := by have := crtHd_len hx hp; unfold reach47; omega
  have HLX := Lib.hid (crtHd_len hx hp)
  have HMS := Lib.hid (mks_len hx.ms hp.ms)
  have HPM := Lib.hid hp.ms
  have HN64 := Lib.hid hp.n
  have n_height : 0 ≤ x.height ∧ x.height < two64 := ⟨hx.height.1, by have := hx.height.2; unfold two64; omega⟩
  have n_round : 0 ≤ x.round ∧ x.round < two64 := ⟨hp.r1, by have := hx.round.2; unfold two64; omega⟩
  have m_round : IntKind.u64.wrap x.round = x.round := by rw [IntKind.wrap_u64]; exact Int.emod_eq_of_lt hp.r1 (by have := hx.round.2; omega)
  have n_n : 0 ≤ (x.n : Int) ∧ (x.n : Int) < two64 := ⟨by omega, by have := hp.n; unfold two64; omega⟩
  have m_n : IntKind.u64.wrap (x.n : Int) = (x.n : Int) := by rw [IntKind.wrap_u64]; exact Int.emod_eq_of_lt (by omega) (by have := hp.n; omega)
  clear hx hp hr
  go_enter Tryd.func31, Tryd.ntmps31
  go_wp2_with (with_reducible show wpList _ _ _ (Oper.mk _ (Op.box _ _) _ _ _ _ :: _) _ _; refine wpList_box_bk rfl _ _ rfl _ rfl ?_)
  intro g w1 hb0 hbl hg hs
  clear hg hs
  have hb : Bk w1.drew g x.cl.toArray _ := hb0.drew
  go_wp2_with fail
  refine wp_region_free [(6, []), (7, [(0, 6)]), (8, [(1, 7)]), (9, []), (10, [(3, 9)]), (11, [(4, 10)]), (12, [(5, 11)]), (13, []), (14, [(7, 13)]), (15, [(8, 14)]), (16, []), (17, [(10, 16)]), (18, [(11, 17)]), (19, [(12, 18)]), (20, [(13, 19)])]
    [Is ?v0, Is ?v1, PartK (varB x.height.toNat), Is ?v3, Is ?v4, Is ?v5, PartK (varB x.round.toNat), Is ?v7, Is ?v8, PartK (x.id), Is ?v10, Is ?v11, Is (.int .i64 (x.n : Int)), Is ?v13, PartK (varB x.n)]
    (by kernel_rfl) (by kernel_rfl) (by rfl) ?st ?steps ?fin
  case st => exact ⟨Is.steady _, Is.steady _, PartK.steady _, Is.steady _, Is.steady _, Is.steady _, PartK.steady _, Is.steady _, Is.steady _, PartK.steady _, Is.steady _, Is.steady _, Is.steady _, Is.steady _, PartK.steady _, trivial⟩
  case steps =>
    refine FreeSteps.cons (fun w2 hw2 => ?_) ?_
    · (refine FreeStep.det rfl rfl rfl (by rfl) rfl rfl ?_; (try simp only [Act.put, List.setIfInBounds_toArray, List.set_cons_zero, List.set_cons_succ]); go_simp; (try with_reducible rfl))
    refine FreeSteps.cons (fun w2 hw2 => FreeStep.is rfl ?_) ?_
    · have c : w2.cell? ⟨g, 0, none⟩ = some (.int .u64 x.height) := ((hb.below hw2 hb.lt).cell 0)
      (refine FreeStep.det rfl rfl rfl (by rfl) rfl rfl ?_; (try simp only [Act.put, List.setIfInBounds_toArray, List.set_cons_zero, List.set_cons_succ]); go_simp; (try with_reducible rfl))
    refine FreeSteps.cons (fun w2 hw2 => FreeStep.is rfl ?_) ?_
    · refine FreeStep.call rfl rfl rfl (by rfl) rfl rfl (by (try simp only [Act.put, List.setIfInBounds_toArray, List.set_cons_zero, List.set_cons_succ]); go_simp; (try with_reducible rfl)) (rNum_any w2 _ n_height.1 n_height.2) ?_
      rintro e w3 ⟨v, rfl, hv, hb3⟩; exact ⟨v, rfl, hb3, hv.part⟩
    refine FreeSteps.cons (fun w2 hw2 => ?_) ?_
    · (refine FreeStep.det rfl rfl rfl (by rfl) rfl rfl ?_; (try simp only [Act.put, List.setIfInBounds_toArray, List.set_cons_zero, List.set_cons_succ]); go_simp; (try with_reducible rfl))
    refine FreeSteps.cons (fun w2 hw2 => FreeStep.is rfl ?_) ?_
    · have c : w2.cell? ⟨g, 1, none⟩ = some (.int .i64 x.round) := ((hb.below hw2 hb.lt).cell 1)
      (refine FreeStep.det rfl rfl rfl (by rfl) rfl rfl ?_; (try simp only [Act.put, List.setIfInBounds_toArray, List.set_cons_zero, List.set_cons_succ]); go_simp; (try with_reducible rfl))
    refine FreeSteps.cons (fun w2 hw2 => FreeStep.is rfl ?_) ?_
    · (refine FreeStep.det rfl rfl rfl (by rfl) rfl rfl ?_; (try simp only [Act.put, List.setIfInBounds_toArray, List.set_cons_zero, List.set_cons_succ]); go_simp; (try with_reducible rfl))
    refine FreeSteps.cons (fun w2 hw2 => FreeStep.is rfl ?_) ?_
    · refine FreeStep.call rfl rfl rfl (by rfl) rfl rfl (by (try simp only [Act.put, List.setIfInBounds_toArray, List.set_cons_zero, List.set_cons_succ]); go_simp; (try with_reducible rfl)) (rNum_any w2 _ n_round.1 n_round.2) ?_
      rintro e w3 ⟨v, rfl, hv, hb3⟩; exact ⟨v, rfl, hb3, hv.part⟩
    refine FreeSteps.cons (fun w2 hw2 => ?_) ?_
    · (refine FreeStep.det rfl rfl rfl (by rfl) rfl rfl ?_; (try simp only [Act.put, List.setIfInBounds_toArray, List.set_cons_zero, List.set_cons_succ]); go_simp; (try with_reducible rfl))
    refine FreeSteps.cons (fun w2 hw2 => FreeStep.is rfl ?_) ?_
    · refine FreeStep.load_part 29 _ rfl rfl rfl rfl (by rfl) rfl rfl g 2 32 rfl _ _ _ (hb.below hw2 hb.lt) Tryd.underlying29 rfl info_hash (by have := hlen.out; simp [this]) _ (x.cl_id HX.out.id) ?_
      with_reducible rfl
    refine FreeSteps.cons (fun w2 hw2 => FreeStep.is rfl ?_) ?_
    · refine FreeStep.call rfl rfl rfl (by rfl) rfl rfl (by (try simp only [Act.put, List.setIfInBounds_toArray, List.set_cons_zero, List.set_cons_succ]); go_simp; (try with_reducible rfl)) (rHash_any w2 x.id HX.out.id) ?_
      rintro e w3 ⟨v, rfl, hv, hb3⟩; exact ⟨v, rfl, hb3, hv.part⟩
    refine FreeSteps.cons (fun w2 hw2 => ?_) ?_
    · (refine FreeStep.det rfl rfl rfl (by rfl) rfl rfl ?_; (try simp only [Act.put, List.setIfInBounds_toArray, List.set_cons_zero, List.set_cons_succ]); go_simp; (try with_reducible rfl))
    refine FreeSteps.cons (fun w2 hw2 => FreeStep.is rfl ?_) ?_
    · have c : w2.cell? ⟨g, 34, none⟩ = some (.slice x.A x.n x.c) := ((hb.below hw2 hb.lt).cell 34).trans (x.cl_34 HX.out.id)
      (refine FreeStep.det rfl rfl rfl (by rfl) rfl rfl ?_; (try simp only [Act.put, List.setIfInBounds_toArray, List.set_cons_zero, List.set_cons_succ]); go_simp; (try with_reducible rfl))
    refine FreeSteps.cons (fun w2 hw2 => FreeStep.is rfl ?_) ?_
    · refine FreeStep.op rfl rfl ?_
      (try simp only [Act.put, List.setIfInBounds_toArray, List.set_cons_zero, List.set_cons_succ])
      go_wp2_with fail
      exact QStep.mk rfl (Below.refl _ _) rfl
    refine FreeSteps.cons (fun w2 hw2 => FreeStep.is rfl ?_) ?_
    · (refine FreeStep.det rfl rfl rfl (by rfl) rfl rfl ?_; (try simp only [Act.put, List.setIfInBounds_toArray, List.set_cons_zero, List.set_cons_succ]); go_simp; (try with_reducible rfl))
    refine FreeSteps.cons (fun w2 hw2 => FreeStep.is rfl ?_) ?_
    · refine FreeStep.call rfl rfl rfl (by rfl) rfl rfl (by (try simp only [Act.put, List.setIfInBounds_toArray, List.set_cons_zero, List.set_cons_succ]); go_simp; (try with_reducible rfl)) (rNum_any w2 (x.n : Int) n_n.1 n_n.2) ?_
      rintro e w3 ⟨v, rfl, hv, hb3⟩; exact ⟨v, rfl, hb3, hv.part⟩
    exact FreeSteps.nil
  case fin =>
    intro w2 hw2
    refine FreeEnd.is rfl ?_
    refine FreeEnd.is rfl ?_
    refine FreeEnd.cons rfl fun v hv => ?_
    obtain ⟨A8, c8, rfl, r8⟩ := hv
    refine FreeEnd.is rfl ?_
    refine FreeEnd.is rfl ?_
    refine FreeEnd.is rfl ?_
    refine FreeEnd.cons rfl fun v hv => ?_
    obtain ⟨A12, c12, rfl, r12⟩ := hv
    refine FreeEnd.is rfl ?_
    refine FreeEnd.is rfl ?_
    refine FreeEnd.cons rfl fun v hv => ?_
    obtain ⟨A15, c15, rfl, r15⟩ := hv
    refine FreeEnd.is rfl ?_
    refine FreeEnd.is rfl ?_
    refine FreeEnd.is rfl ?_
    refine FreeEnd.is rfl ?_
    refine FreeEnd.cons rfl fun v hv => ?_
    obtain ⟨A20, c20, rfl, r20⟩ := hv
    refine FreeEnd.nil ?_
    (try simp only [Act.put, List.setIfInBounds_toArray, List.set_cons_zero, List.set_cons_succ])
    simp only [List.length_cons, List.length_nil, Nat.reduceAdd, List.drop_succ_cons, List.drop_zero]
    have hj : joined [(Value.slice A8 (varB x.height.toNat).length c8, varB x.height.toNat), (Value.slice A12 (varB x.round.toNat).length c12, varB x.round.toNat), (Value.slice A15 (x.id).length c15, x.id), (Value.slice A20 (varB x.n).length c20, varB x.n)] = crtHd x := by
      simp only [joined, crtHd, List.flatMap_cons, List.flatMap_nil, List.append_nil, List.append_assoc]
    have hpp : Parts (w2.alloc (.cells #[Value.slice A8 (varB x.height.toNat).length c8, Value.slice A12 (varB x.round.toNat).length c12, Value.slice A15 (x.id).length c15, Value.slice A20 (varB x.n).length c20] 57)) [(Value.slice A8 (varB x.height.toNat).length c8, varB x.height.toNat), (Value.slice A12 (varB x.round.toNat).length c12, varB x.round.toNat), (Value.slice A15 (x.id).length c15, x.id), (Value.slice A20 (varB x.n).length c20, varB x.n)] := by
      intro p hp
      simp only [List.mem_cons, List.not_mem_nil, or_false] at hp
      rcases hp with rfl | rfl | rfl | rfl
      · exact Part.below ⟨A8, c8, rfl, r8⟩ ((Below.refl _ _).alloc (Nat.le_refl _) _)
      · exact Part.below ⟨A12, c12, rfl, r12⟩ ((Below.refl _ _).alloc (Nat.le_refl _) _)
      · exact Part.below ⟨A15, c15, rfl, r15⟩ ((Below.refl _ _).alloc (Nat.le_refl _) _)
      · exact Part.below ⟨A20, c20, rfl, r20⟩ ((Below.refl _ _).alloc (Nat.le_refl _) _)
    have hrr : Rd (w2.alloc (.cells #[Value.slice A8 (varB x.height.toNat).length c8, Value.slice A12 (varB x.round.toNat).length c12, Value.slice A15 (x.id).length c15, Value.slice A20 (varB x.n).length c20] 57)) (some ⟨w2.heap.size, 0, none⟩) ([(Value.slice A8 (varB x.height.toNat).length c8, varB x.height.toNat), (Value.slice A12 (varB x.round.toNat).length c12, varB x.round.toNat), (Value.slice A15 (x.id).length c15, x.id), (Value.slice A20 (varB x.n).length c20, varB x.n)].map (·.1)) := Rd.of_bk (Bk.new _ _ _) 0 _ (fun j u hu => by simpa using hu)
    go_wp2_with (go_at_call 54; go_must (refine (join_any _ _ 4 4 _ hrr rfl hpp (by rw [hj]; exact HLA) (by omega)).mono ?_); rintro e w3 ⟨v, rfl, hv, hb3⟩; go_wp2_with fail)
    rw [hj] at hv
    have hs3 : w.heap.size ≤ w2.heap.size := Nat.le_trans hbl.size hw2.size
    have HB3 : Hid (Below w.heap.size w w3) := Lib.hid (((hbl.drew.trans (hw2.mono hbl.size)).alloc hs3 _).trans (hb3.mono (by simp; omega)))
    have HK3 : Hid (Bk w3 g x.cl.toArray 34) := Lib.hid (bk_eqT (cs' := x.cl.toArray) (((hb.below hw2 hb.lt).below ((Below.refl _ _).alloc (Nat.le_refl _) _) (hb.below hw2 hb.lt).lt).below hb3 (((hb.below hw2 hb.lt).below ((Below.refl _ _).alloc (Nat.le_refl _) _) (hb.below hw2 hb.lt).lt)).lt) rfl)
    have HV3 : Hid (Bs w3 w.heap.size v (crtHd x)) := Lib.hid (hv.mono (by simp; omega))
    have HR3 := Lib.hid (HR.out.below HB3.out)
    clear hv hb3 hj hpp hrr hw2 hb hb0 hbl HR
    obtain ⟨n, hnn⟩ : ∃ n, x.n = n := ⟨_, rfl⟩
    obtain ⟨cp, hcp⟩ : ∃ cp, x.c = cp := ⟨_, rfl⟩
    obtain ⟨A, hAA⟩ : ∃ A, x.A = A := ⟨_, rfl⟩
    obtain ⟨ms, hms⟩ : ∃ ms, x.ms = ms := ⟨_, rfl⟩
    have HNM := Lib.hid (show n = ms.length by rw [← hnn, ← hms]; exact HX.out.n)
    have HMO := Lib.hid (show ∀ m ∈ ms, m.ok by rw [← hms]; exact HX.out.ms)
    have HPO := Lib.hid (show ∀ m ∈ ms, MkB m by rw [← hms]; exact HPM.out)
    have HMT := Lib.hid (show ∀ k, ((ms.take k).flatMap encMk).length ≤ 36 * k by rw [← hms]; exact HMS.out)
    have HC34 := Lib.hid (show x.cl.toArray[34]? = some (.slice A n cp) by rw [x.cl_34 HX.out.id, hnn, hcp, hAA])
    rw [hAA, hms] at HR3
    have hn64 : n ≤ 64 := by have := HN64.out; omega
    have HEN := Lib.hid (show encCrt x = crtHd x ++ ms.flatMap encMk by rw [encCrt_hd, hms])
    clear hnn hcp hAA hms HMS HPM HN64
    go_wp2
    go_loopw [3, 4] (fun b i wr => ∃ k : Nat, k ≤ n ∧ i = .int .i64 k ∧ Bs wr w.heap.size b (crtHd x ++ (ms.take k).flatMap encMk) ∧ Bk wr g x.cl.toArray 34 ∧ Rd wr A (ms.flatMap Mk.cl) ∧ Below w.heap.size w wr) (fun _ i _ => n - (intOf i).toNat)
    case atStart => exact ⟨0, by omega, rfl, by simpa using HV3.out, HK3.out, HR3.out, HB3.out⟩
    case round =>
      clear HV3 HK3 HR3 HB3
      obtain ⟨k, hk, rfl, hv4, hk4, hr4, hb4⟩ := hrel
      have HV4 := Lib.hid hv4
      have HK4 := Lib.hid hk4
      have HR4 := Lib.hid hr4
      have HB4 := Lib.hid hb4
      have c2 : wr.cell? ⟨g, 34, none⟩ = some (.slice A n cp) := (hk4.cell 34).trans HC34.out
      clear hv4 hk4 hr4 hb4
      by_cases hlt : k < n
      · have hkl : k < ms.length := by rw [← HNM.out]; exact hlt
        have HTK := Lib.hid (take_mks ms k hkl)
        obtain ⟨m, hmk⟩ : ∃ m, ms[k] = m := ⟨_, rfl⟩
        rw [hmk] at HTK
        have HMK := Lib.hid (HMO.out m (by rw [← hmk]; exact List.getElem_mem hkl))
        have HMB := Lib.hid (HPO.out m (by rw [← hmk]; exact List.getElem_mem hkl))
        obtain ⟨ad, hA, hcell⟩ : ∃ ad, A = some ad ∧ ∀ i (hi : i < ms.length) j u, (ms[i]).cl[j]? = some u → wr.cell? (ad.add (18 * i + j)) = some u := by
          have h0 := mk_at ms HMO.out k hkl 0 (.int .i64 (ms[k]).idx) rfl
          obtain ⟨ad, ha, _⟩ := HR4.out _ _ h0
          refine ⟨ad, ha, fun i hi j u hu => ?_⟩
          obtain ⟨ad', ha', hc⟩ := HR4.out _ _ (mk_at ms HMO.out i hi j u hu)
          rw [ha] at ha'; injection ha' with ha'; rw [ha']; exact hc
        subst hA
        have HC := Lib.hid (show ∀ j u, m.cl[j]? = some u → wr.cell? (ad.add (18 * k + j)) = some u by intro j u hu; exact hcell k hkl j u (by rw [hmk]; exact hu))
        have HCL := Lib.hid hcell
        clear hcell hmk
        have hi1 : (k : Int) < n := by omega
        go_wp2_with (first
          | (with_reducible show wpList _ _ _ (Oper.mk (some 34) (Op.load 106 _) _ _ _ _ :: _) _ _; go_must (refine wpList_load_at rfl 106 _ rfl (ad.add (k * 18)) 18 rfl m.cl (fun j u hu => by rw [add_add_k]; exact HC.out j u hu) _ Tryd.underlying106 rfl info_Mk (m.cl_len HMK.out) ?_))
          | (with_reducible show wpList _ _ _ (Oper.mk _ (Op.alloc _) _ _ _ _ :: _) _ _; refine wpList_alloc_i rfl 106 rfl (.agg zeroMk.toArray) zero_Mk ?_))
        intro r w6 h6 hl6 hg6 hs6
        have H6 := Lib.hid h6
        have HL6 := Lib.hid hl6
        have HG6 := Lib.hid hg6
        have HSZ := Lib.hid (show m.cl.toArray.size = 18 by rw [List.size_toArray, m.cl_len HMK.out])
        clear h6 hl6 hg6 hs6
        go_wp2_with (with_reducible show wpList _ _ _ (Oper.mk _ (Op.store 106 _ _) _ _ _ _ :: _) _ _; go_must (refine wpList_store_bk rfl 106 _ _ rfl r rfl (.agg m.cl.toArray) rfl _ _ H6.out (by rw [agg_sz HSZ.out]; exact info_Mk) (by rw [agg_sz HSZ.out]; exact zeroMk_sz.symm) (mk_one m) ?_))
        intro w7 h7 hg7 hs7
        have HL7 := Lib.hid (below_grown2 HL6.out hg7 HG6.out HL6.out.size)
        have H7 := Lib.hid (show Bk w7 r m.cl.toArray 106 from h7)
        clear h7 hg7 hs7 H6 HL6
        have hk7 : Bk w7.drew r m.cl.toArray _ := H7.out.drew
        have hml := Lib.hid (m.cl_len HMK.out)
        have n_idx : 0 ≤ m.idx ∧ m.idx < two64 := ⟨HMB.out.i1, by have := HMB.out.i2; unfold two64; omega⟩
        have m_idx : IntKind.u64.wrap m.idx = m.idx := by rw [IntKind.wrap_u64]; exact Int.emod_eq_of_lt HMB.out.i1 (by have := HMB.out.i2; omega)
        have n_time : 0 ≤ m.time ∧ m.time < two64 := ⟨HMB.out.t1, by have := HMB.out.t2; unfold two64; omega⟩
        obtain ⟨D, hD⟩ : ∃ D, crtHd x ++ (ms.take k).flatMap encMk = D := ⟨_, rfl⟩
        rw [hD] at HV4
        obtain ⟨Ab, cb, rfl⟩ := HV4.out.form
        have HLB : (D ++ encMk m).length ≤ reach47 := by
          rw [← hD, List.append_assoc, ← HTK.out, List.length_append]
          have := HMT.out (k + 1); have := HLX.out; unfold reach47; omega
        have HDD := Lib.hid hD
        have HRB := Lib.hid (HV4.out.rd.below HL7.out)
        clear hD c2
        go_wp2_with fail
        refine wp_region_free [(35, []), (36, []), (37, [(1, 36)]), (38, [(2, 37)]), (39, [(3, 38)]), (40, []), (41, [(5, 40)]), (42, [(6, 41)]), (43, []), (44, [(8, 43)]), (45, [(9, 44)])]
          [Is ?u0, Is ?u1, Is ?u2, Is ?u3, PartK (varB m.idx.toNat), Is ?u5, Is ?u6, PartK (varB m.time.toNat), Is ?u8, Is ?u9, PartK (optB true m.sl)]
          (by kernel_rfl) (by kernel_rfl) (by rfl) ?st ?steps ?fin
        case st => exact ⟨Is.steady _, Is.steady _, Is.steady _, Is.steady _, PartK.steady _, Is.steady _, Is.steady _, PartK.steady _, Is.steady _, Is.steady _, PartK.steady _, trivial⟩
        case steps =>
          refine FreeSteps.cons (fun w2 hw2 => ?_) ?_
          · (refine FreeStep.det rfl rfl rfl (by rfl) rfl rfl ?_; (try simp only [Act.put, List.setIfInBounds_toArray, List.set_cons_zero, List.set_cons_succ]); go_simp; (try with_reducible rfl))
          refine FreeSteps.cons (fun w2 hw2 => ?_) ?_
          · (refine FreeStep.det rfl rfl rfl (by rfl) rfl rfl ?_; (try simp only [Act.put, List.setIfInBounds_toArray, List.set_cons_zero, List.set_cons_succ]); go_simp; (try with_reducible rfl))
          refine FreeSteps.cons (fun w2 hw2 => FreeStep.is rfl ?_) ?_
          · have c : w2.cell? ⟨r, 0, none⟩ = some (.int .i64 m.idx) := ((hk7.below hw2 hk7.lt).cell 0)
            (refine FreeStep.det rfl rfl rfl (by rfl) rfl rfl ?_; (try simp only [Act.put, List.setIfInBounds_toArray, List.set_cons_zero, List.set_cons_succ]); go_simp; (try with_reducible rfl))
          refine FreeSteps.cons (fun w2 hw2 => FreeStep.is rfl ?_) ?_
          · (refine FreeStep.det rfl rfl rfl (by rfl) rfl rfl ?_; (try simp only [Act.put, List.setIfInBounds_toArray, List.set_cons_zero, List.set_cons_succ]); go_simp; (try with_reducible rfl))
          refine FreeSteps.cons (fun w2 hw2 => FreeStep.is rfl ?_) ?_
          · refine FreeStep.call rfl rfl rfl (by rfl) rfl rfl (by (try simp only [Act.put, List.setIfInBounds_toArray, List.set_cons_zero, List.set_cons_succ]); go_simp; (try with_reducible rfl)) (rNum_any w2 _ n_idx.1 n_idx.2) ?_
            rintro e w3 ⟨v, rfl, hv, hb3⟩; exact ⟨v, rfl, hb3, hv.part⟩
          refine FreeSteps.cons (fun w2 hw2 => ?_) ?_
          · (refine FreeStep.det rfl rfl rfl (by rfl) rfl rfl ?_; (try simp only [Act.put, List.setIfInBounds_toArray, List.set_cons_zero, List.set_cons_succ]); go_simp; (try with_reducible rfl))
          refine FreeSteps.cons (fun w2 hw2 => FreeStep.is rfl ?_) ?_
          · have c : w2.cell? ⟨r, 1, none⟩ = some (.int .u64 m.time) := ((hk7.below hw2 hk7.lt).cell 1)
            (refine FreeStep.det rfl rfl rfl (by rfl) rfl rfl ?_; (try simp only [Act.put, List.setIfInBounds_toArray, List.set_cons_zero, List.set_cons_succ]); go_simp; (try with_reducible rfl))
          refine FreeSteps.cons (fun w2 hw2 => FreeStep.is rfl ?_) ?_
          · refine FreeStep.call rfl rfl rfl (by rfl) rfl rfl (by (try simp only [Act.put, List.setIfInBounds_toArray, List.set_cons_zero, List.set_cons_succ]); go_simp; (try with_reducible rfl)) (rNum_any w2 _ n_time.1 n_time.2) ?_
            rintro e w3 ⟨v, rfl, hv, hb3⟩; exact ⟨v, rfl, hb3, hv.part⟩
          refine FreeSteps.cons (fun w2 hw2 => ?_) ?_
          · (refine FreeStep.det rfl rfl rfl (by rfl) rfl rfl ?_; (try simp only [Act.put, List.setIfInBounds_toArray, List.set_cons_zero, List.set_cons_succ]); go_simp; (try with_reducible rfl))
          refine FreeSteps.cons (fun w2 hw2 => FreeStep.is rfl ?_) ?_
          · refine FreeStep.load_part 25 _ rfl rfl rfl rfl (by rfl) rfl rfl r 2 16 rfl _ _ _ (hk7.below hw2 hk7.lt) Tryd.underlying25 rfl info_seal (by have := hml.out; simp [this]) _ (m.ex_sl HMK.out) ?_
            with_reducible rfl
          refine FreeSteps.cons (fun w2 hw2 => FreeStep.is rfl ?_) ?_
          · refine FreeStep.call rfl rfl rfl (by rfl) rfl rfl (by (try simp only [Act.put, List.setIfInBounds_toArray, List.set_cons_zero, List.set_cons_succ]); go_simp; (try with_reducible rfl)) (rSealed_any w2 m.sl HMK.out.sl true) ?_
            rintro e w3 ⟨v, rfl, hv, hb3⟩; exact ⟨v, rfl, hb3, hv.part⟩
          exact FreeSteps.nil
        case fin =>
          intro w2 hw2
          refine FreeEnd.is rfl ?_
          refine FreeEnd.is rfl ?_
          refine FreeEnd.is rfl ?_
          refine FreeEnd.is rfl ?_
          refine FreeEnd.cons rfl fun v hv => ?_
          obtain ⟨A39, c39, rfl, r39⟩ := hv
          refine FreeEnd.is rfl ?_
          refine FreeEnd.is rfl ?_
          refine FreeEnd.cons rfl fun v hv => ?_
          obtain ⟨A42, c42, rfl, r42⟩ := hv
          refine FreeEnd.is rfl ?_
          refine FreeEnd.is rfl ?_
          refine FreeEnd.cons rfl fun v hv => ?_
          obtain ⟨A45, c45, rfl, r45⟩ := hv
          refine FreeEnd.nil ?_
          (try simp only [Act.put, List.setIfInBounds_toArray, List.set_cons_zero, List.set_cons_succ])
          simp only [List.length_cons, List.length_nil, Nat.reduceAdd, List.drop_succ_cons, List.drop_zero]
          have rb := (HRB.out.below ((Below.refl _ _).drew)).below hw2
          have hj : joined [(Value.slice Ab D.length cb, D), (Value.slice A39 (varB m.idx.toNat).length c39, varB m.idx.toNat), (Value.slice A42 (varB m.time.toNat).length c42, varB m.time.toNat), (Value.slice A45 (optB true m.sl).length c45, optB true m.sl)] = D ++ encMk m := by
            simp only [joined, encMk, optB, if_true, List.flatMap_cons, List.flatMap_nil, List.append_nil, List.append_assoc]
          have hpp : Parts (w2.alloc (.cells #[Value.slice Ab D.length cb, Value.slice A39 (varB m.idx.toNat).length c39, Value.slice A42 (varB m.time.toNat).length c42, Value.slice A45 (optB true m.sl).length c45] 57)) [(Value.slice Ab D.length cb, D), (Value.slice A39 (varB m.idx.toNat).length c39, varB m.idx.toNat), (Value.slice A42 (varB m.time.toNat).length c42, varB m.time.toNat), (Value.slice A45 (optB true m.sl).length c45, optB true m.sl)] := by
            intro p hp
            simp only [List.mem_cons, List.not_mem_nil, or_false] at hp
            rcases hp with rfl | rfl | rfl | rfl
            · exact Part.below ⟨Ab, cb, rfl, rb⟩ ((Below.refl _ _).alloc (Nat.le_refl _) _)
            · exact Part.below ⟨A39, c39, rfl, r39⟩ ((Below.refl _ _).alloc (Nat.le_refl _) _)
            · exact Part.below ⟨A42, c42, rfl, r42⟩ ((Below.refl _ _).alloc (Nat.le_refl _) _)
            · exact Part.below ⟨A45, c45, rfl, r45⟩ ((Below.refl _ _).alloc (Nat.le_refl _) _)
          have hrr : Rd (w2.alloc (.cells #[Value.slice Ab D.length cb, Value.slice A39 (varB m.idx.toNat).length c39, Value.slice A42 (varB m.time.toNat).length c42, Value.slice A45 (optB true m.sl).length c45] 57)) (some ⟨w2.heap.size, 0, none⟩) ([(Value.slice Ab D.length cb, D), (Value.slice A39 (varB m.idx.toNat).length c39, varB m.idx.toNat), (Value.slice A42 (varB m.time.toNat).length c42, varB m.time.toNat), (Value.slice A45 (optB true m.sl).length c45, optB true m.sl)].map (·.1)) := Rd.of_bk (Bk.new _ _ _) 0 _ (fun j u hu => by simpa using hu)
          go_wp2_with (go_at_call 54; go_must (refine (join_any _ _ 4 4 _ hrr rfl hpp (by rw [hj]; exact HLB) (by omega)).mono ?_); rintro e w3 ⟨v, rfl, hv, hb3⟩; go_wp2_with fail)
          rw [hj] at hv
          have hs7 : w7.heap.size ≤ w2.heap.size := hw2.size
          have hs8 : w.heap.size ≤ w2.heap.size := Nat.le_trans HB4.out.size (Nat.le_trans HL7.out.size hs7)
          have HB8 := Lib.hid (show Below w7.heap.size w7 w3 from (((Below.refl _ _).drew.trans hw2).alloc hs7 _).trans (hb3.mono (by simp; omega)))
          have HB9 := Lib.hid (HL7.out.trans (HB8.out.mono HL7.out.size))
          have HV8 := Lib.hid (show Bs w3 w.heap.size v (D ++ encMk m) from hv.mono (by simp; omega))
          clear hv hb3 hj hpp hrr hw2 rb
          go_wp2
          go_round
          case rel => exact ⟨k + 1, by omega, by go_num, by rw [HTK.out, ← List.append_assoc, HDD.out]; exact HV8.out, HK4.out.below HB9.out HK4.out.lt, HR4.out.below HB9.out, HB4.out.trans (HB9.out.mono HB4.out.size)⟩
          case measure => simp [intOf]; omega
      · have hk7 : k = n := by omega
        have HK7 := Lib.hid hk7
        have HFN := Lib.hid (show crtHd x ++ (ms.take k).flatMap encMk = encCrt x by rw [HEN.out, HK7.out, List.take_of_length_le (by rw [HNM.out]; exact Nat.le_refl _)])
        rw [HFN.out] at HV4
        clear hk7
        go_wp2
        go_ret
        exact ⟨_, rfl, HV4.out, HB4.out⟩
end Go.Proofs.YtjdegphpalhapaaDoor

/-
  Are the law's councils and certificates alike; are the marks there. Conditions: each number fits its kind; the lists lie in the world.
  A block built round a certificate; a field taken out of a struct. Conditions: none.
-/
import Derived.Test.YtnfffipkgaobhaaM31
namespace Go.Proofs.Ytnfffipkgaobhaa
set_option linter.unusedSimpArgs false
set_option linter.unusedVariables false
open Go.RowKit
set_option maxRecDepth 100000

set_option maxHeartbeats 4000000 in
theorem sameCert12_any (w : World) (x : Crt) (A' : Option Addr) (c' : Nat) (hx : x.ok) (h1 : Rd w A' (x.ms.flatMap Mk.cl)) (h2 : x.at w) (hbig : x.n ≤ 5000000000000) :
    Calls Try.prog 10 #[.agg ({ x with A := A', c := c' } : Crt).cl.toArray, .agg x.cl.toArray] w fun e w' => e = .returned (.bool true) ∧ Below w.heap.size w w' := by
  have HX := Lib.hid hx
  have HY := Lib.hid (show ({ x with A := A', c := c' } : Crt).ok from ⟨hx.height, hx.round, hx.id, hx.n, hx.ms⟩)
  have HL := Lib.hid (x.cl_len hx)
  have HLY := Lib.hid (({ x with A := A', c := c' } : Crt).cl_len HY.out)
  have HR1 := Lib.hid h1
  have HR2 := Lib.hid (show Rd w x.A (x.ms.flatMap Mk.cl) from h2)
  have HMN := Lib.hid (show ∀ m ∈ x.ms, m.cl.length = 18 from fun m hm => m.cl_len (hx.ms m hm))
  clear hx h1 h2
  go_enter Try.func10, Try.ntmps10
  go_wp2_with (with_reducible show wpList _ _ _ (Oper.mk _ (Op.box _ _) _ _ _ _ :: _) _ _; refine wpList_box_i rfl _ _ rfl _ rfl ?_)
  intro ga w1 hk1 hb1 hg1 hs1
  go_wp2_with (with_reducible show wpList _ _ _ (Oper.mk _ (Op.box _ _) _ _ _ _ :: _) _ _; refine wpList_box_i rfl _ _ rfl _ rfl ?_)
  intro gb w2 hk2 hb2 hg2 hs2
  have HKA := Lib.hid ((bk_eqT (cs' := ({ x with A := A', c := c' } : Crt).cl.toArray) hk1 rfl).below hb2 hk1.lt)
  have HKB := Lib.hid (bk_eqT (cs' := x.cl.toArray) hk2 rfl)
  have HB2 := Lib.hid (hb1.trans (hb2.mono hb1.size))
  have a0 : w2.cell? ⟨ga, 0, none⟩ = some (.int .u64 x.height) := HKA.out.cell 0
  have a1 : w2.cell? ⟨ga, 1, none⟩ = some (.int .i64 x.round) := HKA.out.cell 1
  have a2 : w2.cell? ⟨ga, 34, none⟩ = some (.slice A' x.n c') := (HKA.out.cell 34).trans (({ x with A := A', c := c' } : Crt).cl_34 HY.out.id)
  have b0 : w2.cell? ⟨gb, 0, none⟩ = some (.int .u64 x.height) := HKB.out.cell 0
  have b1 : w2.cell? ⟨gb, 1, none⟩ = some (.int .i64 x.round) := HKB.out.cell 1
  have b2 : w2.cell? ⟨gb, 34, none⟩ = some (.slice x.A x.n x.c) := (HKB.out.cell 34).trans (x.cl_34 HX.out.id)
  clear hk1 hb1 hg1 hs1 hk2 hb2 hg2 hs2
  go_wp2_with (first
    | (with_reducible show wpList _ _ _ (Oper.mk (some 20) (Op.load 27 _) _ _ _ _ :: _) _ _; go_must (refine wpList_load_part rfl 27 _ rfl ga 2 32 rfl _ _ _ HKA.out Try.underlying27 rfl info_hash (by simp [HLY.out]) _ (({ x with A := A', c := c' } : Crt).cl_id HY.out.id) ?_))
    | (with_reducible show wpList _ _ _ (Oper.mk (some 22) (Op.load 27 _) _ _ _ _ :: _) _ _; go_must (refine wpList_load_part rfl 27 _ rfl gb 2 32 rfl _ _ _ HKB.out Try.underlying27 rfl info_hash (by simp [HL.out]) _ (x.cl_id HX.out.id) ?_))
    | (with_reducible show wpList _ _ _ (Oper.mk (some 23) (Op.binOp BinOp.neq _ _ _ _) _ _ _ _ :: _) _ _; go_must (refine wpList_neq_flat rfl 27 _ _ _ rfl (bv x.id) (bv x.id) rfl rfl 2 _ flat_hash (by omega) agg_hash guard_hash (fits_hash HX.out.id) (fits_hash HX.out.id) true (by simp) ?_)))
  obtain ⟨n, hnn⟩ : ∃ n, x.n = n := ⟨_, rfl⟩
  obtain ⟨cp, hcp⟩ : ∃ cp, x.c = cp := ⟨_, rfl⟩
  obtain ⟨B', hBB⟩ : ∃ A, x.A = A := ⟨_, rfl⟩
  obtain ⟨ms, hms⟩ : ∃ ms, x.ms = ms := ⟨_, rfl⟩
  have HNM := Lib.hid (show n = ms.length by rw [← hnn, ← hms]; exact HX.out.n)
  have HMO := Lib.hid (show ∀ m ∈ ms, m.ok by rw [← hms]; exact HX.out.ms)
  have HA34 := Lib.hid (show ({ x with A := A', c := c' } : Crt).cl.toArray[34]? = some (.slice A' n c') by rw [({ x with A := A', c := c' } : Crt).cl_34 HY.out.id]; show some (Value.slice A' x.n c') = _; rw [hnn])
  have HB34 := Lib.hid (show x.cl.toArray[34]? = some (.slice B' n cp) by rw [x.cl_34 HX.out.id, hnn, hcp, hBB])
  rw [hms] at HR1 HMN
  rw [hBB, hms] at HR2
  rw [hnn] at hbig
  clear a0 a1 a2 b0 b1 b2 hnn hcp hBB hms
  go_loopw [5] (fun i wr => ∃ k : Nat, k ≤ n ∧ i = .int .i64 (k : Int) ∧ Bk wr ga ({ x with A := A', c := c' } : Crt).cl.toArray 30 ∧ Bk wr gb x.cl.toArray 30 ∧ Below w.heap.size w wr) (fun i _ => n - (intOf i).toNat)
  case atStart => exact ⟨0, by omega, rfl, HKA.out, HKB.out, HB2.out⟩
  case round =>
    clear HKA HKB HB2
    obtain ⟨k, hk, rfl, h4, h5, h6⟩ := hrel
    have HKA := Lib.hid h4
    have HKB := Lib.hid h5
    have HW := Lib.hid h6
    have ca : wr.cell? ⟨ga, 34, none⟩ = some (.slice A' n c') := (h4.cell 34).trans HA34.out
    clear h4 h5 h6
    by_cases hlt : k < n
    · have hkl : k < ms.length := by rw [← HNM.out]; exact hlt
      obtain ⟨aa, hA, hcA⟩ := rd_elem (by omega) HMN.out (HR1.out.below HW.out) hkl
      obtain ⟨ab, hB, hcB⟩ := rd_elem (by omega) HMN.out (HR2.out.below HW.out) hkl
      obtain ⟨m, hmk⟩ : ∃ m, ms[k] = m := ⟨_, rfl⟩
      have HMK := Lib.hid (HMO.out m (by rw [← hmk]; exact List.getElem_mem hkl))
      rw [hmk] at hcA hcB
      have HCA := Lib.hid hcA
      have HCB := Lib.hid hcB
      subst hA hB
      have HKAD := Lib.hid (show Bk wr.drew ga ({ x with A := some aa, c := c' } : Crt).cl.toArray 30 from HKA.out.drew)
      have HKBD := Lib.hid (show Bk wr.drew gb x.cl.toArray 30 from HKB.out.drew)
      clear hcA hcB hmk
      have hi : (k : Int) < n := by omega
      have p1 : IntKind.i64.wrap ((k : Int) + 1) = (k : Int) + 1 := by rw [IntKind.wrap_i64]; omega
      go_wp2_with fail
      refine wp_region_free [(41, []), (42, [(0, 41)]), (43, []), (44, [(1, 42), (2, 43)]), (45, [(3, 44)]), (46, []), (47, [(5, 46)]), (48, []), (49, [(6, 47), (7, 48)]), (50, [(8, 49)])]
        [Is (.pointer (some ⟨ga, 34, none⟩)), Is (.slice (some aa) n c'), Is (.int .i64 (k : Int)), Is (.pointer (some (aa.add (k * 18)))), Is (.agg m.cl.toArray), Is (.pointer (some ⟨gb, 34, none⟩)), Is (.slice (some ab) n cp), Is (.int .i64 (k : Int)), Is (.pointer (some (ab.add (k * 18)))), Is (.agg m.cl.toArray)]
        (by kernel_rfl) (by kernel_rfl) (by rfl) ?st ?steps ?fin
      case st => exact ⟨Is.steady _, Is.steady _, Is.steady _, Is.steady _, Is.steady _, Is.steady _, Is.steady _, Is.steady _, Is.steady _, Is.steady _, trivial⟩
      case steps =>
        refine FreeSteps.cons (fun w4 hw4 => ?_) ?_
        · refine FreeStep.op rfl rfl ?_
          (try simp only [Act.put, List.setIfInBounds_toArray, List.set_cons_zero, List.set_cons_succ])
          go_wp2_with fail
          exact QStep.mk rfl (Below.refl _ _) rfl
        refine FreeSteps.cons (fun w4 hw4 => FreeStep.is rfl ?_) ?_
        · have c : w4.cell? ⟨ga, 34, none⟩ = some (.slice (some aa) n c') := ((HKAD.out.below hw4 HKAD.out.lt).cell 34).trans HA34.out
          refine FreeStep.op rfl rfl ?_
          (try simp only [Act.put, List.setIfInBounds_toArray, List.set_cons_zero, List.set_cons_succ])
          go_wp2_with fail
          exact QStep.mk rfl (Below.refl _ _) rfl
        refine FreeSteps.cons (fun w4 hw4 => ?_) ?_
        · refine FreeStep.op rfl rfl ?_
          (try simp only [Act.put, List.setIfInBounds_toArray, List.set_cons_zero, List.set_cons_succ])
          go_wp2_with fail
          exact QStep.mk rfl (Below.refl _ _) rfl
        refine FreeSteps.cons (fun w4 hw4 => FreeStep.is rfl (FreeStep.is rfl ?_)) ?_
        · refine FreeStep.op rfl rfl ?_
          (try simp only [Act.put, List.setIfInBounds_toArray, List.set_cons_zero, List.set_cons_succ])
          go_wp2_with fail
          exact QStep.mk rfl (Below.refl _ _) rfl
        refine FreeSteps.cons (fun w4 hw4 => FreeStep.is rfl ?_) ?_
        · refine FreeStep.load_at 50 _ rfl rfl rfl rfl (by rfl) rfl rfl (aa.add (k * 18)) 18 rfl m.cl (fun j u hu => cell_keepB (w0 := wr) (HCA.out j u hu) hw4) _ Try.underlying50 rfl info_Mk (m.cl_len HMK.out) rfl
        refine FreeSteps.cons (fun w4 hw4 => ?_) ?_
        · refine FreeStep.op rfl rfl ?_
          (try simp only [Act.put, List.setIfInBounds_toArray, List.set_cons_zero, List.set_cons_succ])
          go_wp2_with fail
          exact QStep.mk rfl (Below.refl _ _) rfl
        refine FreeSteps.cons (fun w4 hw4 => FreeStep.is rfl ?_) ?_
        · have c : w4.cell? ⟨gb, 34, none⟩ = some (.slice (some ab) n cp) := ((HKBD.out.below hw4 HKBD.out.lt).cell 34).trans HB34.out
          refine FreeStep.op rfl rfl ?_
          (try simp only [Act.put, List.setIfInBounds_toArray, List.set_cons_zero, List.set_cons_succ])
          go_wp2_with fail
          exact QStep.mk rfl (Below.refl _ _) rfl
        refine FreeSteps.cons (fun w4 hw4 => ?_) ?_
        · refine FreeStep.op rfl rfl ?_
          (try simp only [Act.put, List.setIfInBounds_toArray, List.set_cons_zero, List.set_cons_succ])
          go_wp2_with fail
          exact QStep.mk rfl (Below.refl _ _) rfl
        refine FreeSteps.cons (fun w4 hw4 => FreeStep.is rfl (FreeStep.is rfl ?_)) ?_
        · refine FreeStep.op rfl rfl ?_
          (try simp only [Act.put, List.setIfInBounds_toArray, List.set_cons_zero, List.set_cons_succ])
          go_wp2_with fail
          exact QStep.mk rfl (Below.refl _ _) rfl
        refine FreeSteps.cons (fun w4 hw4 => FreeStep.is rfl ?_) ?_
        · refine FreeStep.load_at 50 _ rfl rfl rfl rfl (by rfl) rfl rfl (ab.add (k * 18)) 18 rfl m.cl (fun j u hu => cell_keepB (w0 := wr) (HCB.out j u hu) hw4) _ Try.underlying50 rfl info_Mk (m.cl_len HMK.out) rfl
        exact FreeSteps.nil
      case fin =>
        intro w4 hw4
        refine FreeEnd.is rfl ?_
        refine FreeEnd.is rfl ?_
        refine FreeEnd.is rfl ?_
        refine FreeEnd.is rfl ?_
        refine FreeEnd.is rfl ?_
        refine FreeEnd.is rfl ?_
        refine FreeEnd.is rfl ?_
        refine FreeEnd.is rfl ?_
        refine FreeEnd.is rfl ?_
        refine FreeEnd.is rfl ?_
        refine FreeEnd.nil ?_
        (try simp only [Act.put, List.setIfInBounds_toArray, List.set_cons_zero, List.set_cons_succ])
        simp only [List.length_cons, List.length_nil, Nat.reduceAdd, List.drop_succ_cons, List.drop_zero]
        have HW4 := Lib.hid (show Below wr.heap.size wr w4 from (Below.refl _ _).drew.trans hw4)
        clear hw4
        go_wp2_with (with_reducible show wpList _ _ _ (Oper.mk _ (Op.binOp BinOp.neq _ _ _ _) _ _ _ _ :: _) _ _; go_must (refine wpList_neq_flat rfl 50 _ _ _ rfl m.cl m.cl rfl rfl 3 _ flat_Mk (by omega) agg_Mk guard_Mk (fits_Mk HMK.out) (fits_Mk HMK.out) true (by simp) ?_))
        go_round
        case rel => exact ⟨k + 1, by omega, by go_num, HKA.out.below HW4.out HKA.out.lt, HKB.out.below HW4.out HKB.out.lt, HW.out.trans (HW4.out.mono HW.out.size)⟩
        case measure => simp [intOf]; omega
    · have hkn : k = n := by omega
      have hi : ¬ (k : Int) < n := by omega
      go_wp2
      go_ret
      exact ⟨rfl, HW.out⟩

theorem flat_Mem : flat Try.prog 3 53 = some [.int .u64, .int .u64, .int .i64] := by kernel_rfl
theorem agg_Mem : isAggT Try.prog 53 = true := by kernel_rfl
theorem guard_Mem : Try.prog.eqGuardType Try.prog.depth 53 = false := by kernel_rfl
theorem fits_Mem (m : Mem) : Fits [.int .u64, .int .u64, .int .i64] m.cl := ⟨rfl, rfl, rfl, trivial⟩
theorem fits_markMem : Fits [.int .u64, .int .u64, .int .i64] markMem := ⟨rfl, rfl, rfl, trivial⟩

set_option maxHeartbeats 4000000 in
theorem sameCouncil_any (w : World) (A A' : Option Addr) (n c c' : Nat) (ms : List Mem) (hn : n = ms.length) (h1 : Rd w A' (ms.flatMap Mem.cl)) (h2 : Rd w A (ms.flatMap Mem.cl)) (hl : n ≤ 10000000000000) :
    Calls Try.prog 9 #[.agg #[.slice A' n c'], .agg #[.slice A n c]] w fun e w' => e = .returned (.bool true) ∧ Below w.heap.size w w' := by
  have HN := Lib.hid hn
  have HR1 := Lib.hid h1
  have HR2 := Lib.hid h2
  clear hn h1 h2
  go_enter Try.func9, Try.ntmps9
  go_wp2_with (with_reducible show wpList _ _ _ (Oper.mk _ (Op.box _ _) _ _ _ _ :: _) _ _; refine wpList_box_i rfl _ _ rfl _ rfl ?_)
  intro ga w1 hk1 hb1 hg1 hs1
  go_wp2_with (with_reducible show wpList _ _ _ (Oper.mk _ (Op.box _ _) _ _ _ _ :: _) _ _; refine wpList_box_i rfl _ _ rfl _ rfl ?_)
  intro gb w2 hk2 hb2 hg2 hs2
  have HKA := Lib.hid ((bk_eqT (cs' := #[.slice A' n c']) hk1 rfl).below hb2 hk1.lt)
  have HKB := Lib.hid (bk_eqT (cs' := #[.slice A n c]) hk2 rfl)
  have HB2 := Lib.hid (hb1.trans (hb2.mono hb1.size))
  have a0 : w2.cell? ⟨ga, 0, none⟩ = some (.slice A' n c') := HKA.out.cell 0
  have b0 : w2.cell? ⟨gb, 0, none⟩ = some (.slice A n c) := HKB.out.cell 0
  clear hk1 hb1 hg1 hs1 hk2 hb2 hg2 hs2
  go_wp2
  clear a0 b0
  go_loopw [5] (fun i wr => ∃ k : Nat, k ≤ n ∧ i = .int .i64 (k : Int) ∧ Bk wr ga #[.slice A' n c'] 24 ∧ Bk wr gb #[.slice A n c] 24 ∧ Below w.heap.size w wr) (fun i _ => n - (intOf i).toNat)
  case atStart => exact ⟨0, by omega, rfl, HKA.out, HKB.out, HB2.out⟩
  case round =>
    clear HKA HKB HB2
    obtain ⟨k, hk, rfl, h4, h5, h6⟩ := hrel
    have HKA := Lib.hid h4
    have HKB := Lib.hid h5
    have HW := Lib.hid h6
    have ca : wr.cell? ⟨ga, 0, none⟩ = some (.slice A' n c') := h4.cell 0
    clear h4 h5 h6
    by_cases hlt : k < n
    · have hkl : k < ms.length := by rw [← HN.out]; exact hlt
      obtain ⟨aa, hA, hcA⟩ := rd_elem (by omega) memln (HR1.out.below HW.out) hkl
      obtain ⟨ab, hB, hcB⟩ := rd_elem (by omega) memln (HR2.out.below HW.out) hkl
      obtain ⟨m, hmk⟩ : ∃ m, ms[k] = m := ⟨_, rfl⟩
      rw [hmk] at hcA hcB
      have HCA := Lib.hid hcA
      have HCB := Lib.hid hcB
      subst hA hB
      clear hcA hcB hmk
      have hi : (k : Int) < n := by omega
      have p1 : IntKind.i64.wrap ((k : Int) + 1) = (k : Int) + 1 := by rw [IntKind.wrap_i64]; omega
      go_wp2_with fail
      refine wp_region_free [(20, []), (21, [(0, 20)]), (22, []), (23, [(1, 21), (2, 22)]), (24, [(3, 23)]), (25, []), (26, [(5, 25)]), (27, []), (28, [(6, 26), (7, 27)]), (29, [(8, 28)])]
        [Is (.pointer (some ⟨ga, 0, none⟩)), Is (.slice (some aa) n c'), Is (.int .i64 (k : Int)), Is (.pointer (some (aa.add (k * 3)))), Is (.agg m.cl.toArray), Is (.pointer (some ⟨gb, 0, none⟩)), Is (.slice (some ab) n c), Is (.int .i64 (k : Int)), Is (.pointer (some (ab.add (k * 3)))), Is (.agg m.cl.toArray)]
        (by kernel_rfl) (by kernel_rfl) (by rfl) ?st ?steps ?fin
      case st => exact ⟨Is.steady _, Is.steady _, Is.steady _, Is.steady _, Is.steady _, Is.steady _, Is.steady _, Is.steady _, Is.steady _, Is.steady _, trivial⟩
      case steps =>
        refine FreeSteps.cons (fun w4 hw4 => ?_) ?_
        · refine FreeStep.op rfl rfl ?_
          (try simp only [Act.put, List.setIfInBounds_toArray, List.set_cons_zero, List.set_cons_succ])
          go_wp2_with fail
          exact QStep.mk rfl (Below.refl _ _) rfl
        refine FreeSteps.cons (fun w4 hw4 => FreeStep.is rfl ?_) ?_
        · have c1 : w4.cell? ⟨ga, 0, none⟩ = some (.slice (some aa) n c') := (HKA.out.drew.below hw4 HKA.out.lt).cell 0
          refine FreeStep.op rfl rfl ?_
          (try simp only [Act.put, List.setIfInBounds_toArray, List.set_cons_zero, List.set_cons_succ])
          go_wp2_with fail
          exact QStep.mk rfl (Below.refl _ _) rfl
        refine FreeSteps.cons (fun w4 hw4 => ?_) ?_
        · refine FreeStep.op rfl rfl ?_
          (try simp only [Act.put, List.setIfInBounds_toArray, List.set_cons_zero, List.set_cons_succ])
          go_wp2_with fail
          exact QStep.mk rfl (Below.refl _ _) rfl
        refine FreeSteps.cons (fun w4 hw4 => FreeStep.is rfl (FreeStep.is rfl ?_)) ?_
        · refine FreeStep.op rfl rfl ?_
          (try simp only [Act.put, List.setIfInBounds_toArray, List.set_cons_zero, List.set_cons_succ])
          go_wp2_with fail
          exact QStep.mk rfl (Below.refl _ _) rfl
        refine FreeSteps.cons (fun w4 hw4 => FreeStep.is rfl ?_) ?_
        · exact FreeStep.load_at 53 _ rfl rfl rfl rfl (by rfl) rfl rfl (aa.add (k * 3)) 3 rfl m.cl (fun j u hu => cell_keepB (w0 := wr) (HCA.out j u hu) hw4) _ Try.underlying53 rfl info_Mem m.cl_len rfl
        refine FreeSteps.cons (fun w4 hw4 => ?_) ?_
        · refine FreeStep.op rfl rfl ?_
          (try simp only [Act.put, List.setIfInBounds_toArray, List.set_cons_zero, List.set_cons_succ])
          go_wp2_with fail
          exact QStep.mk rfl (Below.refl _ _) rfl
        refine FreeSteps.cons (fun w4 hw4 => FreeStep.is rfl ?_) ?_
        · have c1 : w4.cell? ⟨gb, 0, none⟩ = some (.slice (some ab) n c) := (HKB.out.drew.below hw4 HKB.out.lt).cell 0
          refine FreeStep.op rfl rfl ?_
          (try simp only [Act.put, List.setIfInBounds_toArray, List.set_cons_zero, List.set_cons_succ])
          go_wp2_with fail
          exact QStep.mk rfl (Below.refl _ _) rfl
        refine FreeSteps.cons (fun w4 hw4 => ?_) ?_
        · refine FreeStep.op rfl rfl ?_
          (try simp only [Act.put, List.setIfInBounds_toArray, List.set_cons_zero, List.set_cons_succ])
          go_wp2_with fail
          exact QStep.mk rfl (Below.refl _ _) rfl
        refine FreeSteps.cons (fun w4 hw4 => FreeStep.is rfl (FreeStep.is rfl ?_)) ?_
        · refine FreeStep.op rfl rfl ?_
          (try simp only [Act.put, List.setIfInBounds_toArray, List.set_cons_zero, List.set_cons_succ])
          go_wp2_with fail
          exact QStep.mk rfl (Below.refl _ _) rfl
        refine FreeSteps.cons (fun w4 hw4 => FreeStep.is rfl ?_) ?_
        · exact FreeStep.load_at 53 _ rfl rfl rfl rfl (by rfl) rfl rfl (ab.add (k * 3)) 3 rfl m.cl (fun j u hu => cell_keepB (w0 := wr) (HCB.out j u hu) hw4) _ Try.underlying53 rfl info_Mem m.cl_len rfl
        exact FreeSteps.nil
      case fin =>
        intro w4 hw4
        refine FreeEnd.is rfl ?_
        refine FreeEnd.is rfl ?_
        refine FreeEnd.is rfl ?_
        refine FreeEnd.is rfl ?_
        refine FreeEnd.is rfl ?_
        refine FreeEnd.is rfl ?_
        refine FreeEnd.is rfl ?_
        refine FreeEnd.is rfl ?_
        refine FreeEnd.is rfl ?_
        refine FreeEnd.is rfl ?_
        refine FreeEnd.nil ?_
        (try simp only [Act.put, List.setIfInBounds_toArray, List.set_cons_zero, List.set_cons_succ])
        simp only [List.length_cons, List.length_nil, Nat.reduceAdd, List.drop_succ_cons, List.drop_zero]
        have HW4 := Lib.hid (show Below wr.heap.size wr w4 from (Below.refl _ _).drew.trans hw4)
        clear hw4
        go_wp2_with (with_reducible show wpList _ _ _ (Oper.mk _ (Op.binOp BinOp.neq _ _ _ _) _ _ _ _ :: _) _ _; go_must (refine wpList_neq_flat rfl 53 _ _ _ rfl m.cl m.cl rfl rfl 3 _ flat_Mem (by omega) agg_Mem guard_Mem (fits_Mem m) (fits_Mem m) true (by simp) ?_))
        go_round
        case rel => exact ⟨k + 1, by omega, by go_num, HKA.out.below HW4.out HKA.out.lt, HKB.out.below HW4.out HKB.out.lt, HW.out.trans (HW4.out.mono HW.out.size)⟩
        case measure => simp [intOf]; omega
    · have hkn : k = n := by omega
      have hi : ¬ (k : Int) < n := by omega
      go_wp2
      go_ret
      exact ⟨rfl, HW.out⟩

set_option maxHeartbeats 2000000 in
theorem markedCouncil_any (w : World) (g0 n c' : Nat) (ms : List Mem) (hn : n = ms.length) (hr : Rd w (some ⟨g0, 0, none⟩) (ms.flatMap Mem.cl ++ markMem)) (hc : n + 1 ≤ c') (hl : n ≤ 10000000000000) :
    Calls Try.prog 11 #[.agg #[.slice (some ⟨g0, 0, none⟩) n c']] w fun e w' => e = .returned (.bool true) ∧ Below w.heap.size w w' := by
  have HM := Lib.hid (show ∀ j u, markMem[j]? = some u → w.cell? ⟨g0, n * 3 + j, none⟩ = some u from fun j u hu => by
    obtain ⟨ad, h1, h2⟩ := hr (n * 3 + j) u (by
      have hl : (ms.flatMap Mem.cl).length = n * 3 := by rw [fl_len ms memln, hn]
      rw [List.getElem?_append_right (by omega), hl, show n * 3 + j - n * 3 = j by omega]; exact hu)
    injection h1 with h1
    rw [← h1, addr_add, Nat.zero_add] at h2
    exact h2)
  clear hr hn
  go_enter Try.func11, Try.ntmps11
  go_wp2_with (with_reducible show wpList _ _ _ (Oper.mk _ (Op.box _ _) _ _ _ _ :: _) _ _; refine wpList_box_i rfl _ _ rfl _ rfl ?_)
  intro g w1 hk1 hb1 hg1 hs1
  have c0 : w1.cell? ⟨g, 0, none⟩ = some (.slice (some ⟨g0, 0, none⟩) n c') := hk1.cell 0
  have HM1 := Lib.hid (show ∀ j u, markMem[j]? = some u → w1.cell? ((⟨g0, n * 3, none⟩ : Addr).add j) = some u from fun j u hu => by rw [addr_add]; exact cell_keep (HM.out j u hu) hb1)
  have HB1 := Lib.hid hb1
  clear hk1 hb1 hg1 hs1
  have q1 : (n : Int) < (c' : Int) := by omega
  have q2 : n < c' := by omega
  have p1 : IntKind.i64.wrap ((n : Int) + 1) = (n : Int) + 1 := by rw [IntKind.wrap_i64]; omega
  have p3 : (0 : Int) ≤ (n : Int) + 1 := by omega
  have p4 : ((n : Int) + 1).toNat = n + 1 := by omega
  have p6 : (n : Int) + 1 ≤ c' := by omega
  have p7 : n + 1 ≤ c' := hc
  have p8 : (n : Int) < (n : Int) + 1 := by omega
  go_wp2_with (first
    | (with_reducible show wpList _ _ _ (Oper.mk (some 20) (Op.load _ _) _ _ _ _ :: _) _ _; go_must (refine wpList_load_at rfl 53 _ rfl ⟨g0, n * 3, none⟩ 3 rfl markMem HM1.out _ Try.underlying53 rfl info_Mem rfl ?_))
    | (with_reducible show wpList _ _ _ (Oper.mk _ (Op.build _ _) _ _ _ _ :: _) _ _; go_must (refine wpList_buildv rfl 53 [(0, .const (.int .u64 71)), (1, .const (.int .u64 72))] rfl [(0, .int .u64 71), (1, .int .u64 72)] rfl markMem.toArray built_markMem ?_))
    | (with_reducible show wpList _ _ _ (Oper.mk _ (Op.binOp BinOp.eql 53 _ _ _) _ _ _ _ :: _) _ _; go_must (refine wpList_eql_flat rfl 53 _ _ _ rfl markMem markMem rfl rfl 3 _ flat_Mem (by omega) agg_Mem guard_Mem fits_markMem fits_markMem true (by simp) ?_)))
  go_ret
  exact ⟨by simp, HB1.out⟩
end Go.Proofs.Ytnfffipkgaobhaa
namespace Go.Proofs.Ytnfffipkgaobhaa
set_option linter.unusedSimpArgs false
set_option linter.unusedVariables false
open Go.RowKit
set_option maxRecDepth 100000

def zeroHdrC : List Value := [.string ByteArray.empty, .int .u64 0, .int .u64 0] ++ bv (zer 224) ++ [.int .u64 0]
theorem built_blkC : ∀ (C : List Value), C.length = 35 → Try.prog.built 38 [(3, .agg C.toArray)] = some (zeroHdrC ++ ([Value.slice none 0 0, Value.slice none 0 0] ++ C)).toArray
  | c0 :: c1 :: c2 :: c3 :: c4 :: c5 :: c6 :: c7 :: c8 :: c9 :: c10 :: c11 :: c12 :: c13 :: c14 :: c15 :: c16 :: c17 :: c18 :: c19 :: c20 :: c21 :: c22 :: c23 :: c24 :: c25 :: c26 :: c27 :: c28 :: c29 :: c30 :: c31 :: c32 :: c33 :: c34 :: [], _ => by kernel_rfl
section
variable {P : Program}
theorem wpList_field {ops : Array Oper} {rest : List Oper} {o : Oper} {a : Act} {w : World} {Q : Exit → Act → World → Prop} (hw : Region.wanted o (yielded ops a.tmps) = true) (t : TypeId) (x : Operand) (i : Nat) (ho : o.op = .field t x i) (cs : Array Value) (hx : a.eval x = .agg cs)
    (fs : Array Field) (ht : P.underlying t = some (.struct fs)) (ft : TypeId) (off n : Nat) (d : TypeDesc) (hf : (fs[i]?).map (fun f => (f.type, f.offset)) = some (ft, off)) (hu : P.underlying ft = some d) (hi : (P.info? ft).map (·.size) = some n) (ha : isAggT P ft = true) (v : List Value) (hl : n = 1 → off < cs.size) (hv : (cs.toList.drop off).take n = v)
    (h : wpList P ops Q rest (a.put o.dst (.agg v.toArray)) w) : wpList P ops Q (o :: rest) a w := by
  refine wpList_want hw fun K hK => ?_
  obtain ⟨f, hf1, hf2⟩ := Option.map_eq_some_iff.1 hf
  injection hf2 with e1 e2
  unfold Oper.wp execOp
  simp only [ho, hx, Instr.field, Sem.run_bind, run_underlying ht, Result.andThen_ok, hf1, asAgg, Sem.run_pure, e1, e2, run_part hu hi (fun hb => by rw [ha] at hb; cases hb) cs off hl w, ha, packV, if_true, hv]
  exact hK _ _ h
end
end Go.Proofs.Ytnfffipkgaobhaa

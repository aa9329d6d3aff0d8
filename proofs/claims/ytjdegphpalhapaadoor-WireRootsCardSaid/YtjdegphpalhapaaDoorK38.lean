/-
  The law's blocks: are they alike? Conditions: each number fits its kind; the lists lie in the world.
  The walk of WireRoots: true, and nothing that was there is changed. Conditions: each number fits its kind; the lists lie in the world; the tables read as they were laid.
-/
import Derived.Test.YtjdegphpalhapaaDoorK37
namespace Go.Proofs.YtjdegphpalhapaaDoor
set_option linter.unusedSimpArgs false
set_option linter.unusedVariables false
open Go.RowKit
set_option maxRecDepth 100000

theorem flat_Tx : flat Tryd.prog 3 27 = some ([.int .i64, .int .u64, .int .u64, .int .u64, .int .u64, .int .u64] ++ List.replicate 16 (.int .u8)) := by kernel_rfl
theorem agg_Tx : isAggT Tryd.prog 27 = true := by kernel_rfl
theorem guard_Tx : Tryd.prog.eqGuardType Tryd.prog.depth 27 = false := by kernel_rfl
theorem fits_Tx {m : Tx} (h : m.ok) : Fits ([.int .i64, .int .u64, .int .u64, .int .u64, .int .u64, .int .u64] ++ List.replicate 16 (.int .u8)) m.cl := Fits.app ⟨rfl, rfl, rfl, rfl, rfl, rfl, trivial⟩ (by rw [← h.sl]; exact Fits.bytes m.sl)
def voteKs : List CK := [.int .i64, .int .u64, .int .i64] ++ List.replicate 32 (.int .u8) ++ [.int .u64, .int .u64] ++ List.replicate 16 (.int .u8)
theorem flat_Ev : flat Tryd.prog 4 75 = some (voteKs ++ voteKs) := by kernel_rfl
theorem agg_Ev : isAggT Tryd.prog 75 = true := by kernel_rfl
theorem guard_Ev : Tryd.prog.eqGuardType Tryd.prog.depth 75 = false := by kernel_rfl
theorem fits_VoteK {m : Vote} (h : m.ok) : Fits voteKs m.cl := Fits.app (Fits.app (Fits.app ⟨rfl, rfl, rfl, trivial⟩ (by rw [← h.id]; exact Fits.bytes m.id)) ⟨rfl, rfl, trivial⟩) (by rw [← h.sl]; exact Fits.bytes m.sl)
theorem fits_Ev {m : Ev} (h : m.ok) : Fits (voteKs ++ voteKs) m.cl := Fits.app (fits_VoteK h.a) (fits_VoteK h.b)
def hdrKs : List CK := [.str, .int .u64, .int .u64] ++ List.replicate 224 (.int .u8) ++ [.int .u64]
theorem flat_Hdr : flat Tryd.prog 3 31 = some hdrKs := by kernel_rfl
theorem agg_Hdr : isAggT Tryd.prog 31 = true := by kernel_rfl
theorem guard_Hdr : Tryd.prog.eqGuardType Tryd.prog.depth 31 = false := by kernel_rfl
theorem fits_Hdr {m : Hdr} (h : m.ok) : Fits hdrKs m.cl := Fits.app (Fits.app ⟨trivial, rfl, rfl, trivial⟩ (by rw [← h.hh]; exact Fits.bytes m.hh)) ⟨rfl, trivial⟩
theorem info_HdrB : (Tryd.prog.info? 31).map (·.size) = some 228 := by kernel_rfl

set_option maxHeartbeats 8000000 in
theorem sameBlock_any (w : World) (x : Blk) (tB : Option Addr) (td : Nat) (eB : Option Addr) (ed : Nat) (cB : Option Addr) (cd : Nat) (hx : x.ok) (h1 : Rd w tB (x.ts.flatMap Tx.cl)) (h2 : Rd w eB (x.es.flatMap Ev.cl)) (h3 : Rd w cB (x.ct.ms.flatMap Mk.cl)) (hat : x.at w) :
    Calls Tryd.prog 17 #[.agg (x.alike tB td eB ed cB cd).cl.toArray, .agg x.cl.toArray] w fun e w' => e = .returned (.bool true) ∧ Below w.heap.size w w' := by
  obtain ⟨H, hH⟩ : ∃ H, x.hd.cl = H := ⟨_, rfl⟩
  obtain ⟨C, hC⟩ : ∃ C, x.ct.cl = C := ⟨_, rfl⟩
  obtain ⟨D, hD⟩ : ∃ D, ({ x.ct with A := cB, c := cd } : Crt).cl = D := ⟨_, rfl⟩
  have LH := Lib.hid (show H.length = 228 by rw [← hH]; exact x.hd.cl_len hx.hd)
  have LC := Lib.hid (show C.length = 35 by rw [← hC]; exact x.ct.cl_len hx.ct)
  have LD := Lib.hid (show D.length = 35 by rw [← hD]; exact ({ x.ct with A := cB, c := cd } : Crt).cl_len ⟨hx.ct.height, hx.ct.round, hx.ct.id, hx.ct.n, hx.ct.ms⟩)
  have HFH := Lib.hid (show Fits hdrKs H by rw [← hH]; exact fits_Hdr hx.hd)
  obtain ⟨n, hn⟩ : ∃ n, x.tn = n := ⟨_, rfl⟩
  obtain ⟨m, hm⟩ : ∃ m, x.en = m := ⟨_, rfl⟩
  obtain ⟨tA, htA⟩ : ∃ A, x.tA = A := ⟨_, rfl⟩
  obtain ⟨eA, heA⟩ : ∃ A, x.eA = A := ⟨_, rfl⟩
  obtain ⟨tc, htc⟩ : ∃ c, x.tc = c := ⟨_, rfl⟩
  obtain ⟨ec, hec⟩ : ∃ c, x.ec = c := ⟨_, rfl⟩
  obtain ⟨ts, hts⟩ : ∃ L, x.ts = L := ⟨_, rfl⟩
  obtain ⟨es, hes⟩ : ∃ L, x.es = L := ⟨_, rfl⟩
  have HNT := Lib.hid (show n = ts.length by rw [← hn, ← hts]; exact hx.tn)
  have HNE := Lib.hid (show m = es.length by rw [← hm, ← hes]; exact hx.en)
  have HTO := Lib.hid (show ∀ t ∈ ts, t.ok by rw [← hts]; exact hx.ts)
  have HEO := Lib.hid (show ∀ t ∈ es, t.ok by rw [← hes]; exact hx.es)
  have HTN := Lib.hid (show ∀ t ∈ ts, t.cl.length = 22 from fun t h => t.cl_len (HTO.out t h))
  have HEN := Lib.hid (show ∀ t ∈ es, t.cl.length = 106 from fun t h => t.cl_len (HEO.out t h))
  have HT1 := Lib.hid (show Rd w tB (ts.flatMap Tx.cl) by rw [← hts]; exact h1)
  have HT2 := Lib.hid (show Rd w tA (ts.flatMap Tx.cl) by rw [← hts, ← htA]; exact hat.t)
  have HE1 := Lib.hid (show Rd w eB (es.flatMap Ev.cl) by rw [← hes]; exact h2)
  have HE2 := Lib.hid (show Rd w eA (es.flatMap Ev.cl) by rw [← hes, ← heA]; exact hat.e)
  have HTBD := Lib.hid (show n * 64 ≤ 140737488351232 by rw [← hn]; exact hx.tb)
  have HEBD := Lib.hid (show m * 176 ≤ 140737488351232 by rw [← hm]; exact hx.eb)
  have HCL := Lib.hid (show x.cl = H ++ ([Value.slice tA n tc, Value.slice eA m ec] ++ C) by unfold Blk.cl; rw [hH, hC, hn, hm, htA, heA, htc, hec])
  have HCM := Lib.hid (show (x.alike tB td eB ed cB cd).cl = H ++ ([Value.slice tB n td, Value.slice eB m ed] ++ D) by unfold Blk.alike Blk.cl; simp only [hH, hn, hm, hD])
  have HCALL := Lib.hid (show ∀ w', Below w.heap.size w w' → Calls Tryd.prog 40 #[.agg D.toArray, .agg C.toArray] w' fun e w'' => e = .returned (.bool true) ∧ Below w'.heap.size w' w'' from fun w' hb => by rw [← hC, ← hD]; exact sameCert_any w' x.ct cB cd hx.ct (h3.below hb) (Rd.below (xs := x.ct.ms.flatMap Mk.cl) hat.c hb) (by have := hx.cb; omega))
  rw [HCL.out, HCM.out]
  clear hx hat h1 h2 h3 hH hC hD hn hm htA heA htc hec hts hes
  obtain ⟨XC, hXC⟩ : ∃ XC, H ++ ([Value.slice tA n tc, Value.slice eA m ec] ++ C) = XC := ⟨_, rfl⟩
  obtain ⟨YC, hYC⟩ : ∃ YC, H ++ ([Value.slice tB n td, Value.slice eB m ed] ++ D) = YC := ⟨_, rfl⟩
  have HXL := Lib.hid (show XC.length = 265 by rw [← hXC]; exact bl_len LH.out LC.out)
  have HYL := Lib.hid (show YC.length = 265 by rw [← hYC]; exact bl_len LH.out LD.out)
  have HX1 := Lib.hid (show XC.toArray[228]? = some (.slice tA n tc) by rw [← hXC]; exact bl_at1 LH.out)
  have HX2 := Lib.hid (show XC.toArray[229]? = some (.slice eA m ec) by rw [← hXC]; exact bl_at2 LH.out)
  have HY1 := Lib.hid (show YC.toArray[228]? = some (.slice tB n td) by rw [← hYC]; exact bl_at1 LH.out)
  have HY2 := Lib.hid (show YC.toArray[229]? = some (.slice eB m ed) by rw [← hYC]; exact bl_at2 LH.out)
  have HXH := Lib.hid (show XC.toArray.extract 0 (0 + 228) = H.toArray by rw [← hXC]; exact bl_hd LH.out)
  have HYH := Lib.hid (show YC.toArray.extract 0 (0 + 228) = H.toArray by rw [← hYC]; exact bl_hd LH.out)
  have HXC := Lib.hid (show XC.toArray.extract 230 (230 + 35) = C.toArray by rw [← hXC]; exact bl_ex LH.out LC.out)
  have HYC := Lib.hid (show YC.toArray.extract 230 (230 + 35) = D.toArray by rw [← hYC]; exact bl_ex LH.out LD.out)
  rw [hXC, hYC]
  clear hXC hYC HCL HCM
  go_enter Tryd.func17, Tryd.ntmps17
  go_wp2_with (with_reducible show wpList _ _ _ (Oper.mk _ (Op.box _ _) _ _ _ _ :: _) _ _; refine wpList_box_i rfl _ _ rfl _ rfl ?_)
  intro ga w1 hk1 hb1 hg1 hs1
  go_wp2_with (with_reducible show wpList _ _ _ (Oper.mk _ (Op.box _ _) _ _ _ _ :: _) _ _; refine wpList_box_i rfl _ _ rfl _ rfl ?_)
  intro gb w2 hk2 hb2 hg2 hs2
  have HKA := Lib.hid ((bk_eqT (cs' := YC.toArray) hk1 rfl).below hb2 hk1.lt)
  have HKB := Lib.hid (bk_eqT (cs' := XC.toArray) hk2 rfl)
  have HB2 := Lib.hid (hb1.trans (hb2.mono hb1.size))
  have a1 : w2.cell? ⟨ga, 228, none⟩ = some (.slice tB n td) := (HKA.out.cell 228).trans HY1.out
  have a2 : w2.cell? ⟨ga, 229, none⟩ = some (.slice eB m ed) := (HKA.out.cell 229).trans HY2.out
  have b1 : w2.cell? ⟨gb, 228, none⟩ = some (.slice tA n tc) := (HKB.out.cell 228).trans HX1.out
  have b2 : w2.cell? ⟨gb, 229, none⟩ = some (.slice eA m ec) := (HKB.out.cell 229).trans HX2.out
  clear hk1 hb1 hg1 hs1 hk2 hb2 hg2 hs2
  go_wp2_with (first
    | (with_reducible show wpList _ _ _ (Oper.mk (some 8) (Op.load 31 _) _ _ _ _ :: _) _ _; go_must (refine wpList_load_part rfl 31 _ rfl ga 0 228 rfl _ _ _ HKA.out Tryd.underlying31 rfl info_HdrB (by simp [HYL.out]) _ HYH.out ?_))
    | (with_reducible show wpList _ _ _ (Oper.mk (some 10) (Op.load 31 _) _ _ _ _ :: _) _ _; go_must (refine wpList_load_part rfl 31 _ rfl gb 0 228 rfl _ _ _ HKB.out Tryd.underlying31 rfl info_HdrB (by simp [HXL.out]) _ HXH.out ?_))
    | (with_reducible show wpList _ _ _ (Oper.mk (some 11) (Op.binOp BinOp.neq _ _ _ _) _ _ _ _ :: _) _ _; go_must (refine wpList_neq_flat rfl 31 _ _ _ rfl H H rfl rfl 3 _ flat_Hdr (by omega) agg_Hdr guard_Hdr HFH.out HFH.out true (by simp) ?_)))
  clear a1 a2 b1 b2
  go_loopw [5] (fun i wr => ∃ k : Nat, k ≤ n ∧ i = .int .i64 (k : Int) ∧ Bk wr ga YC.toArray 49 ∧ Bk wr gb XC.toArray 49 ∧ Below w.heap.size w wr) (fun i _ => n - (intOf i).toNat)
  case atStart => exact ⟨0, by omega, rfl, HKA.out, HKB.out, HB2.out⟩
  case round =>
    clear HKA HKB HB2
    obtain ⟨k, hk, rfl, h4, h5, h6⟩ := hrel
    have HKA := Lib.hid h4
    have HKB := Lib.hid h5
    have HB2 := Lib.hid h6
    have ca : wr.cell? ⟨ga, 228, none⟩ = some (.slice tB n td) := (h4.cell 228).trans HY1.out
    clear h4 h5 h6
    by_cases hlt : k < n
    · have hkl : k < ts.length := by rw [← HNT.out]; exact hlt
      obtain ⟨aa, hA, hcA⟩ := rd_elem (by omega) HTN.out (HT1.out.below HB2.out) hkl
      obtain ⟨ab, hB, hcB⟩ := rd_elem (by omega) HTN.out (HT2.out.below HB2.out) hkl
      obtain ⟨tx, hmk⟩ : ∃ tx, ts[k] = tx := ⟨_, rfl⟩
      have HMK := Lib.hid (HTO.out tx (by rw [← hmk]; exact List.getElem_mem hkl))
      rw [hmk] at hcA hcB
      have HCA := Lib.hid hcA
      have HCB := Lib.hid hcB
      subst hA hB
      have HKAD := Lib.hid (show Bk wr.drew ga YC.toArray 49 from HKA.out.drew)
      have HKBD := Lib.hid (show Bk wr.drew gb XC.toArray 49 from HKB.out.drew)
      clear hcA hcB hmk
      have hi : (k : Int) < n := by omega
      have p1 : IntKind.i64.wrap ((k : Int) + 1) = (k : Int) + 1 := by have := HTBD.out; rw [IntKind.wrap_i64]; omega
      go_wp2_with fail
      refine wp_region_free [(37, []), (38, [(0, 37)]), (39, []), (40, [(1, 38), (2, 39)]), (41, [(3, 40)]), (42, []), (43, [(5, 42)]), (44, []), (45, [(6, 43), (7, 44)]), (46, [(8, 45)])]
        [Is (.pointer (some ⟨ga, 228, none⟩)), Is (.slice (some aa) n td), Is (.int .i64 (k : Int)), Is (.pointer (some (aa.add (k * 22)))), Is (.agg tx.cl.toArray), Is (.pointer (some ⟨gb, 228, none⟩)), Is (.slice (some ab) n tc), Is (.int .i64 (k : Int)), Is (.pointer (some (ab.add (k * 22)))), Is (.agg tx.cl.toArray)]
        (by kernel_rfl) (by kernel_rfl) (by rfl) ?st1 ?steps1 ?fin1
      case st1 => exact ⟨Is.steady _, Is.steady _, Is.steady _, Is.steady _, Is.steady _, Is.steady _, Is.steady _, Is.steady _, Is.steady _, Is.steady _, trivial⟩
      case steps1 =>
        refine FreeSteps.cons (fun w4 hw4 => ?_) ?_
        · refine FreeStep.op rfl rfl ?_
          (try simp only [Act.put, List.setIfInBounds_toArray, List.set_cons_zero, List.set_cons_succ])
          go_wp2_with fail
          exact QStep.mk rfl (Below.refl _ _) rfl
        refine FreeSteps.cons (fun w4 hw4 => FreeStep.is rfl ?_) ?_
        · have c : w4.cell? ⟨ga, 228, none⟩ = some (.slice (some aa) n td) := ((HKAD.out.below hw4 HKAD.out.lt).cell 228).trans HY1.out
          refine FreeStep.op rfl rfl ?_
          (try simp only [Act.put, List.setIfInBounds_toArray, List.set_cons_zero, List.set_cons_succ])
          go_wp2_with fail
          exact QStep.mk rfl (Below.refl _ _) rfl
        refine FreeSteps.cons (fun w4 hw4 => ?_) ?_
        · refine FreeStep.op rfl rfl ?_
          (try simp only [Act.put, List.setIfInBounds_toArray, List.set_cons_zero, List.set_cons_succ])
          go_wp2_with fail
          exact QStep.mk rfl (Below.refl _ _) rfl
        refine FreeSteps.cons (fun w4 hw4 => FreeStep.is rfl (FreeStep.is rfl ?_)) ?_
        · refine FreeStep.op rfl rfl ?_
          (try simp only [Act.put, List.setIfInBounds_toArray, List.set_cons_zero, List.set_cons_succ])
          go_wp2_with fail
          exact QStep.mk rfl (Below.refl _ _) rfl
        refine FreeSteps.cons (fun w4 hw4 => FreeStep.is rfl ?_) ?_
        · refine FreeStep.load_at 27 _ rfl rfl rfl rfl (by rfl) rfl rfl (aa.add (k * 22)) 22 rfl tx.cl (fun j u hu => cell_keepB (w0 := wr) (HCA.out j u hu) hw4) _ Tryd.underlying27 rfl info_Tx (tx.cl_len HMK.out) rfl
        refine FreeSteps.cons (fun w4 hw4 => ?_) ?_
        · refine FreeStep.op rfl rfl ?_
          (try simp only [Act.put, List.setIfInBounds_toArray, List.set_cons_zero, List.set_cons_succ])
          go_wp2_with fail
          exact QStep.mk rfl (Below.refl _ _) rfl
        refine FreeSteps.cons (fun w4 hw4 => FreeStep.is rfl ?_) ?_
        · have c : w4.cell? ⟨gb, 228, none⟩ = some (.slice (some ab) n tc) := ((HKBD.out.below hw4 HKBD.out.lt).cell 228).trans HX1.out
          refine FreeStep.op rfl rfl ?_
          (try simp only [Act.put, List.setIfInBounds_toArray, List.set_cons_zero, List.set_cons_succ])
          go_wp2_with fail
          exact QStep.mk rfl (Below.refl _ _) rfl
        refine FreeSteps.cons (fun w4 hw4 => ?_) ?_
        · refine FreeStep.op rfl rfl ?_
          (try simp only [Act.put, List.setIfInBounds_toArray, List.set_cons_zero, List.set_cons_succ])
          go_wp2_with fail
          exact QStep.mk rfl (Below.refl _ _) rfl
        refine FreeSteps.cons (fun w4 hw4 => FreeStep.is rfl (FreeStep.is rfl ?_)) ?_
        · refine FreeStep.op rfl rfl ?_
          (try simp only [Act.put, List.setIfInBounds_toArray, List.set_cons_zero, List.set_cons_succ])
          go_wp2_with fail
          exact QStep.mk rfl (Below.refl _ _) rfl
        refine FreeSteps.cons (fun w4 hw4 => FreeStep.is rfl ?_) ?_
        · refine FreeStep.load_at 27 _ rfl rfl rfl rfl (by rfl) rfl rfl (ab.add (k * 22)) 22 rfl tx.cl (fun j u hu => cell_keepB (w0 := wr) (HCB.out j u hu) hw4) _ Tryd.underlying27 rfl info_Tx (tx.cl_len HMK.out) rfl
        exact FreeSteps.nil
      case fin1 =>
        intro w4 hw4
        refine FreeEnd.is rfl ?_
        refine FreeEnd.is rfl ?_
        refine FreeEnd.is rfl ?_
        refine FreeEnd.is rfl ?_
        refine FreeEnd.is rfl ?_
        refine FreeEnd.is rfl ?_
        refine FreeEnd.is rfl ?_
        refine FreeEnd.is rfl ?_
        refine FreeEnd.is rfl ?_
        refine FreeEnd.is rfl ?_
        refine FreeEnd.nil ?_
        (try simp only [Act.put, List.setIfInBounds_toArray, List.set_cons_zero, List.set_cons_succ])
        simp only [List.length_cons, List.length_nil, Nat.reduceAdd, List.drop_succ_cons, List.drop_zero]
        have HW4 := Lib.hid (show Below wr.heap.size wr w4 from (Below.refl _ _).drew.trans hw4)
        clear hw4
        go_wp2_with (with_reducible show wpList _ _ _ (Oper.mk _ (Op.binOp BinOp.neq _ _ _ _) _ _ _ _ :: _) _ _; go_must (refine wpList_neq_flat rfl 27 _ _ _ rfl tx.cl tx.cl rfl rfl 3 _ flat_Tx (by omega) agg_Tx guard_Tx (fits_Tx HMK.out) (fits_Tx HMK.out) true (by simp) ?_))
        go_round
        case rel => exact ⟨k + 1, by omega, by go_num, HKA.out.below HW4.out HKA.out.lt, HKB.out.below HW4.out HKB.out.lt, HB2.out.trans (HW4.out.mono HB2.out.size)⟩
        case measure => simp [intOf]; omega
    · have hkn : k = n := by omega
      have hi : ¬ (k : Int) < n := by omega
      go_wp2_with fail
      clear hlt hkn ca
      go_loopw [6] (fun i wr => ∃ k : Nat, k ≤ m ∧ i = .int .i64 (k : Int) ∧ Bk wr ga YC.toArray 49 ∧ Bk wr gb XC.toArray 49 ∧ Below w.heap.size w wr) (fun i _ => m - (intOf i).toNat)
      case atStart => exact ⟨0, by omega, rfl, HKA.out, HKB.out, HB2.out⟩
      case round =>
        clear HKA HKB HB2
        obtain ⟨k, hk, rfl, h4, h5, h6⟩ := hrel
        have HKA := Lib.hid h4
        have HKB := Lib.hid h5
        have HB2 := Lib.hid h6
        have ca : wr.cell? ⟨ga, 229, none⟩ = some (.slice eB m ed) := (h4.cell 229).trans HY2.out
        clear h4 h5 h6
        by_cases hlt : k < m
        · have hkl : k < es.length := by rw [← HNE.out]; exact hlt
          obtain ⟨aa, hA, hcA⟩ := rd_elem (by omega) HEN.out (HE1.out.below HB2.out) hkl
          obtain ⟨ab, hB, hcB⟩ := rd_elem (by omega) HEN.out (HE2.out.below HB2.out) hkl
          obtain ⟨ev, hmk⟩ : ∃ ev, es[k] = ev := ⟨_, rfl⟩
          have HMK := Lib.hid (HEO.out ev (by rw [← hmk]; exact List.getElem_mem hkl))
          rw [hmk] at hcA hcB
          have HCA := Lib.hid hcA
          have HCB := Lib.hid hcB
          subst hA hB
          have HKAD := Lib.hid (show Bk wr.drew ga YC.toArray 49 from HKA.out.drew)
          have HKBD := Lib.hid (show Bk wr.drew gb XC.toArray 49 from HKB.out.drew)
          clear hcA hcB hmk
          have hi : (k : Int) < m := by omega
          have p1 : IntKind.i64.wrap ((k : Int) + 1) = (k : Int) + 1 := by have := HEBD.out; rw [IntKind.wrap_i64]; omega
          go_wp2_with fail
          refine wp_region_free [(55, []), (56, [(0, 55)]), (57, []), (58, [(1, 56), (2, 57)]), (59, [(3, 58)]), (60, []), (61, [(5, 60)]), (62, []), (63, [(6, 61), (7, 62)]), (64, [(8, 63)])]
            [Is (.pointer (some ⟨ga, 229, none⟩)), Is (.slice (some aa) m ed), Is (.int .i64 (k : Int)), Is (.pointer (some (aa.add (k * 106)))), Is (.agg ev.cl.toArray), Is (.pointer (some ⟨gb, 229, none⟩)), Is (.slice (some ab) m ec), Is (.int .i64 (k : Int)), Is (.pointer (some (ab.add (k * 106)))), Is (.agg ev.cl.toArray)]
            (by kernel_rfl) (by kernel_rfl) (by rfl) ?st2 ?steps2 ?fin2
          case st2 => exact ⟨Is.steady _, Is.steady _, Is.steady _, Is.steady _, Is.steady _, Is.steady _, Is.steady _, Is.steady _, Is.steady _, Is.steady _, trivial⟩
          case steps2 =>
            refine FreeSteps.cons (fun w4 hw4 => ?_) ?_
            · refine FreeStep.op rfl rfl ?_
              (try simp only [Act.put, List.setIfInBounds_toArray, List.set_cons_zero, List.set_cons_succ])
              go_wp2_with fail
              exact QStep.mk rfl (Below.refl _ _) rfl
            refine FreeSteps.cons (fun w4 hw4 => FreeStep.is rfl ?_) ?_
            · have c : w4.cell? ⟨ga, 229, none⟩ = some (.slice (some aa) m ed) := ((HKAD.out.below hw4 HKAD.out.lt).cell 229).trans HY2.out
              refine FreeStep.op rfl rfl ?_
              (try simp only [Act.put, List.setIfInBounds_toArray, List.set_cons_zero, List.set_cons_succ])
              go_wp2_with fail
              exact QStep.mk rfl (Below.refl _ _) rfl
            refine FreeSteps.cons (fun w4 hw4 => ?_) ?_
            · refine FreeStep.op rfl rfl ?_
              (try simp only [Act.put, List.setIfInBounds_toArray, List.set_cons_zero, List.set_cons_succ])
              go_wp2_with fail
              exact QStep.mk rfl (Below.refl _ _) rfl
            refine FreeSteps.cons (fun w4 hw4 => FreeStep.is rfl (FreeStep.is rfl ?_)) ?_
            · refine FreeStep.op rfl rfl ?_
              (try simp only [Act.put, List.setIfInBounds_toArray, List.set_cons_zero, List.set_cons_succ])
              go_wp2_with fail
              exact QStep.mk rfl (Below.refl _ _) rfl
            refine FreeSteps.cons (fun w4 hw4 => FreeStep.is rfl ?_) ?_
            · refine FreeStep.load_at 75 _ rfl rfl rfl rfl (by rfl) rfl rfl (aa.add (k * 106)) 106 rfl ev.cl (fun j u hu => cell_keepB (w0 := wr) (HCA.out j u hu) hw4) _ Tryd.underlying75 rfl info_Ev (ev.cl_len HMK.out) rfl
            refine FreeSteps.cons (fun w4 hw4 => ?_) ?_
            · refine FreeStep.op rfl rfl ?_
              (try simp only [Act.put, List.setIfInBounds_toArray, List.set_cons_zero, List.set_cons_succ])
              go_wp2_with fail
              exact QStep.mk rfl (Below.refl _ _) rfl
            refine FreeSteps.cons (fun w4 hw4 => FreeStep.is rfl ?_) ?_
            · have c : w4.cell? ⟨gb, 229, none⟩ = some (.slice (some ab) m ec) := ((HKBD.out.below hw4 HKBD.out.lt).cell 229).trans HX2.out
              refine FreeStep.op rfl rfl ?_
              (try simp only [Act.put, List.setIfInBounds_toArray, List.set_cons_zero, List.set_cons_succ])
              go_wp2_with fail
              exact QStep.mk rfl (Below.refl _ _) rfl
            refine FreeSteps.cons (fun w4 hw4 => ?_) ?_
            · refine FreeStep.op rfl rfl ?_
              (try simp only [Act.put, List.setIfInBounds_toArray, List.set_cons_zero, List.set_cons_succ])
              go_wp2_with fail
              exact QStep.mk rfl (Below.refl _ _) rfl
            refine FreeSteps.cons (fun w4 hw4 => FreeStep.is rfl (FreeStep.is rfl ?_)) ?_
            · refine FreeStep.op rfl rfl ?_
              (try simp only [Act.put, List.setIfInBounds_toArray, List.set_cons_zero, List.set_cons_succ])
              go_wp2_with fail
              exact QStep.mk rfl (Below.refl _ _) rfl
            refine FreeSteps.cons (fun w4 hw4 => FreeStep.is rfl ?_) ?_
            · refine FreeStep.load_at 75 _ rfl rfl rfl rfl (by rfl) rfl rfl (ab.add (k * 106)) 106 rfl ev.cl (fun j u hu => cell_keepB (w0 := wr) (HCB.out j u hu) hw4) _ Tryd.underlying75 rfl info_Ev (ev.cl_len HMK.out) rfl
            exact FreeSteps.nil
          case fin2 =>
            intro w4 hw4
            refine FreeEnd.is rfl ?_
            refine FreeEnd.is rfl ?_
            refine FreeEnd.is rfl ?_
            refine FreeEnd.is rfl ?_
            refine FreeEnd.is rfl ?_
            refine FreeEnd.is rfl ?_
            refine FreeEnd.is rfl ?_
            refine FreeEnd.is rfl ?_
            refine FreeEnd.is rfl ?_
            refine FreeEnd.is rfl ?_
            refine FreeEnd.nil ?_
            (try simp only [Act.put, List.setIfInBounds_toArray, List.set_cons_zero, List.set_cons_succ])
            simp only [List.length_cons, List.length_nil, Nat.reduceAdd, List.drop_succ_cons, List.drop_zero]
            have HW4 := Lib.hid (show Below wr.heap.size wr w4 from (Below.refl _ _).drew.trans hw4)
            clear hw4
            go_wp2_with (with_reducible show wpList _ _ _ (Oper.mk _ (Op.binOp BinOp.neq _ _ _ _) _ _ _ _ :: _) _ _; go_must (refine wpList_neq_flat rfl 75 _ _ _ rfl ev.cl ev.cl rfl rfl 4 _ flat_Ev (by omega) agg_Ev guard_Ev (fits_Ev HMK.out) (fits_Ev HMK.out) true (by simp) ?_))
            go_round
            case rel => exact ⟨k + 1, by omega, by go_num, HKA.out.below HW4.out HKA.out.lt, HKB.out.below HW4.out HKB.out.lt, HB2.out.trans (HW4.out.mono HB2.out.size)⟩
            case measure => simp [intOf]; omega
        · have hkn : k = m := by omega
          have hi : ¬ (k : Int) < m := by omega
          go_wp2_with (first
            | (with_reducible show wpList _ _ _ (Oper.mk (some 67) (Op.load 34 _) _ _ _ _ :: _) _ _; go_must (refine wpList_load_part rfl 34 _ rfl ga 230 35 rfl _ _ _ HKA.out Tryd.underlying34 rfl info_Crt (by simp [HYL.out]) _ HYC.out ?_))
            | (with_reducible show wpList _ _ _ (Oper.mk (some 69) (Op.load 34 _) _ _ _ _ :: _) _ _; go_must (refine wpList_load_part rfl 34 _ rfl gb 230 35 rfl _ _ _ HKB.out Tryd.underlying34 rfl info_Crt (by simp [HXL.out]) _ HXC.out ?_))
            | (go_at_call 40; go_must (refine (HCALL.out _ HB2.out).mono ?_); rintro e w9 ⟨rfl, hb9⟩; have HB9 := Lib.hid (HB2.out.trans (hb9.mono HB2.out.size)); clear hb9))
          go_ret
          exact ⟨rfl, HB9.out⟩
end Go.Proofs.YtjdegphpalhapaaDoor
namespace Go.Proofs.YtjdegphpalhapaaDoor
set_option linter.unusedSimpArgs false
set_option linter.unusedVariables false
open Go.RowKit
set_option maxRecDepth 100000

theorem rootOf_len (l : List (List UInt8)) : (rootOf l).length = 32 := sha_len _
theorem rd_pre {w : World} {A : Option Addr} {xs ys : List Value} (h : Rd w A (xs ++ ys)) : Rd w A xs := fun j u hu => h j u (by rw [List.getElem?_append_left (List.getElem?_eq_some_iff.1 hu).1]; exact hu)
theorem Blk.cl_len (x : Blk) (hx : x.ok) : x.cl.length = 265 := bl_len (x.hd.cl_len hx.hd) (x.ct.cl_len hx.ct)
theorem Blk.cl_228 (x : Blk) (hx : x.ok) : x.cl.toArray[228]? = some (.slice x.tA x.tn x.tc) := bl_at1 (x.hd.cl_len hx.hd)
theorem Blk.cl_229 (x : Blk) (hx : x.ok) : x.cl.toArray[229]? = some (.slice x.eA x.en x.ec) := bl_at2 (x.hd.cl_len hx.hd)
theorem Blk.alike_ok {x : Blk} (hx : x.ok) (tB : Option Addr) (td : Nat) (eB : Option Addr) (ed : Nat) (cB : Option Addr) (cd : Nat) : (x.alike tB td eB ed cB cd).ok := ⟨hx.hd, hx.tn, hx.ts, hx.tb, hx.en, hx.es, hx.eb, ⟨hx.ct.height, hx.ct.round, hx.ct.id, hx.ct.n, hx.ct.ms⟩, hx.cb⟩

set_option maxHeartbeats 8000000 in
theorem walk_roots (w : World) (x : Blk) (hx : x.ok) (hat : x.at w) (ht : Tabs w) (hr : RTab w) :
    Calls Tryd.prog 4 #[.agg x.cl.toArray] w fun e w' => e = .returned (.bool true) ∧ Below w.heap.size w w' := by
  have HX := Lib.hid hx
  have HAT := Lib.hid hat
  have HT := Lib.hid ht
  have HR := Lib.hid hr
  obtain ⟨XC, hXC⟩ : ∃ XC, x.cl = XC := ⟨_, rfl⟩
  obtain ⟨n, hn⟩ : ∃ n, x.tn = n := ⟨_, rfl⟩
  obtain ⟨m, hm⟩ : ∃ m, x.en = m := ⟨_, rfl⟩
  obtain ⟨tA, htA⟩ : ∃ A, x.tA = A := ⟨_, rfl⟩
  obtain ⟨eA, heA⟩ : ∃ A, x.eA = A := ⟨_, rfl⟩
  obtain ⟨tc, htc⟩ : ∃ c, x.tc = c := ⟨_, rfl⟩
  obtain ⟨ec, hec⟩ : ∃ c, x.ec = c := ⟨_, rfl⟩
  have LX := Lib.hid (show XC.length = 265 by rw [← hXC]; exact x.cl_len hx)
  have X1 := Lib.hid (show XC.toArray[228]? = some (.slice tA n tc) by rw [← hXC, x.cl_228 hx, htA, hn, htc])
  have X2 := Lib.hid (show XC.toArray[229]? = some (.slice eA m ec) by rw [← hXC, x.cl_229 hx, heA, hm, hec])
  have HTN := Lib.hid (show x.ts.length = n by rw [← hn]; exact hx.tn.symm)
  have HEN := Lib.hid (show x.es.length = m by rw [← hm]; exact hx.en.symm)
  have RT := Lib.hid (show Rd w tA (x.ts.flatMap Tx.cl) by rw [← htA]; exact hat.t)
  have RE := Lib.hid (show Rd w eA (x.es.flatMap Ev.cl) by rw [← heA]; exact hat.e)
  have HLENT := Lib.hid (show ∀ w', Below w.heap.size w w' → Calls Tryd.prog 12 #[.agg XC.toArray] w' fun e w'' => ∃ tA tc eA ec cA cc YC, e = .returned (.agg YC.toArray) ∧ (x.alike tA tc eA ec cA cc).lent w'' ∧ Below w'.heap.size w' w'' ∧ (x.alike tA tc eA ec cA cc).cl = YC from fun w' hb => by
    rw [← hXC]
    refine (lentBlock_any w' x hx (hat.below hb)).mono ?_
    rintro e w'' ⟨a1, a2, a3, a4, a5, a6, h1, h2, h3⟩
    exact ⟨a1, a2, a3, a4, a5, a6, _, h1, h2, h3, rfl⟩)
  have HSAME := Lib.hid (show ∀ w' a1 a2 a3 a4 a5 a6 YC, (x.alike a1 a2 a3 a4 a5 a6).cl = YC → Below w.heap.size w w' → (x.alike a1 a2 a3 a4 a5 a6).lent w' → Calls Tryd.prog 17 #[.agg YC.toArray, .agg XC.toArray] w' fun e w'' => e = .returned (.bool true) ∧ Below w'.heap.size w' w'' from fun w' a1 a2 a3 a4 a5 a6 YC hy hb hl => by
    rw [← hXC, ← hy]
    exact sameBlock_any w' x a1 a2 a3 a4 a5 a6 hx (rd_pre hl.tr) (rd_pre hl.er) (rd_pre hl.ct.rd) (hat.below hb))
  have HKEPT := Lib.hid (show ∀ w' a1 a2 a3 a4 a5 a6 YC, (x.alike a1 a2 a3 a4 a5 a6).cl = YC → (x.alike a1 a2 a3 a4 a5 a6).lent w' → Calls Tryd.prog 18 #[.agg YC.toArray] w' fun e w'' => e = .returned (.bool true) ∧ Below w'.heap.size w' w'' from fun w' a1 a2 a3 a4 a5 a6 YC hy hl => by
    rw [← hy]
    exact keptBlock_any w' _ (Blk.alike_ok hx _ _ _ _ _ _) hl)
  have HALN := Lib.hid (show ∀ a1 a2 a3 a4 a5 a6 YC, (x.alike a1 a2 a3 a4 a5 a6).cl = YC → YC.length = 265 ∧ YC.toArray[228]? = some (.slice a1 n a2) ∧ YC.toArray[229]? = some (.slice a3 m a4) ∧ ∀ u ∈ (Value.agg YC.toArray).cells.toList, u.oneCell' = true from fun a1 a2 a3 a4 a5 a6 YC hy => by
    have ho := Blk.alike_ok hx a1 a2 a3 a4 a5 a6
    refine ⟨by rw [← hy]; exact Blk.cl_len _ ho, ?_, ?_, by rw [← hy]; exact blk_one _⟩
    · rw [← hy, Blk.cl_228 _ ho, ← hn]; rfl
    · rw [← hy, Blk.cl_229 _ ho, ← hm]; rfl)
  rw [hXC]
  clear hx hat ht hr hXC hn hm htA heA htc hec
  obtain ⟨ts, hts⟩ : ∃ l, x.ts = l := ⟨_, rfl⟩
  obtain ⟨es, hes⟩ : ∃ l, x.es = l := ⟨_, rfl⟩
  have HTO := Lib.hid (show ∀ t ∈ ts, t.ok by rw [← hts]; exact HX.out.ts)
  have HEO := Lib.hid (show ∀ t ∈ es, t.ok by rw [← hes]; exact HX.out.es)
  have HLT := Lib.hid (show ∀ w' a1 a2 a3 a4 a5 a6, (x.alike a1 a2 a3 a4 a5 a6).lent w' → Rd w' a1 (ts.flatMap Tx.cl) from fun w' a1 a2 a3 a4 a5 a6 hl => by rw [← hts]; exact rd_pre hl.tr)
  have HLE := Lib.hid (show ∀ w' a1 a2 a3 a4 a5 a6, (x.alike a1 a2 a3 a4 a5 a6).lent w' → Rd w' a3 (es.flatMap Ev.cl) from fun w' a1 a2 a3 a4 a5 a6 hl => by rw [← hes]; exact rd_pre hl.er)
  rw [hts] at HTN RT
  rw [hes] at HEN RE
  clear hts hes
  obtain ⟨E0, hE0⟩ : ∃ E, rootsErr 1000 n (ts.map plainTx) = E := ⟨_, rfl⟩
  obtain ⟨A0, hA0⟩ : ∃ A, hashOr E0 (rootOf (ts.map formTx)) = A := ⟨_, rfl⟩
  have AL0 := Lib.hid (show A0.length = 32 by rw [← hA0]; exact hashOr_len (rootOf_len _))
  have HE0 := Lib.hid hE0
  have HA0 := Lib.hid hA0
  clear hE0 hA0
  obtain ⟨E1, hE1⟩ : ∃ E, rootsErr 16 m (es.map plainEv) = E := ⟨_, rfl⟩
  obtain ⟨A1, hA1⟩ : ∃ A, hashOr E1 (rootOf (es.map formEv)) = A := ⟨_, rfl⟩
  have AL1 := Lib.hid (show A1.length = 32 by rw [← hA1]; exact hashOr_len (rootOf_len _))
  have HE1 := Lib.hid hE1
  have HA1 := Lib.hid hA1
  clear hE1 hA1
  go_enter Tryd.func4, Tryd.ntmps4
  go_wp2_with (with_reducible show wpList _ _ _ (Oper.mk _ (Op.box _ _) _ _ _ _ :: _) _ _; refine wpList_box_i rfl _ _ rfl _ rfl ?_)
  intro b v0 hk0 hl0 hg0 hs0
  have HL := Lib.hid hl0
  have HK := Lib.hid (bk_eqT (cs' := XC.toArray) hk0 rfl)
  clear hk0 hl0 hg0 hs0
  go_wp2_with (with_reducible show wpList _ _ _ (Oper.mk (some 12) (Op.load _ _) _ _ _ _ :: _) _ _; go_must (refine wpList_load_part rfl 49 _ rfl b 0 265 rfl _ _ _ HK.out Tryd.underlying49 rfl info_Blk (by simp [LX.out]) _ (cl_allN LX.out) ?_); go_wp2_with fail)
  refine (HLENT.out v0 HL.out).mono ?_
  rintro e s0 ⟨tB, td, eB, ed, cB, cd, YC, rfl, hlent, hl, hyc⟩
  obtain ⟨hy1, hy2, hy3, hy4⟩ := HALN.out _ _ _ _ _ _ _ hyc
  have HYC := Lib.hid hyc
  have LY := Lib.hid hy1
  have Y1 := Lib.hid hy2
  have Y2 := Lib.hid hy3
  have YO := Lib.hid hy4
  have HQ := Lib.hid hlent
  have HB := Lib.hid hl
  clear hyc hy1 hy2 hy3 hy4 hlent hl
  go_wp2_with (with_reducible show wpList _ _ _ (Oper.mk _ (Op.alloc _) _ _ _ _ :: _) _ _; go_must (refine wpList_alloc_i rfl 49 rfl (.agg zeroBlkC.toArray) zero_BlkC ?_))
  intro r t0 h5 hl5 hg5 hs5
  have HZ5 := Lib.hid h5
  have HL5 := Lib.hid hl5
  have HG5 := Lib.hid hg5
  clear h5 hl5 hs5 hg5
  go_wp2_with (with_reducible show wpList _ _ _ (Oper.mk _ (Op.store 49 _ _) _ _ _ _ :: _) _ _; go_must (refine wpList_store_bk rfl 49 _ _ rfl r rfl (.agg YC.toArray) rfl _ _ HZ5.out (by rw [show (Value.agg YC.toArray).cells.size = 265 by simp [Value.cells, LY.out]]; exact info_Blk) (by simp [Value.cells, LY.out, zeroBlkC_len]) YO.out ?_))
  intro u h6 hg6 hs6
  have HS1 := Lib.hid (below_grown2 HL5.out hg6 HG5.out HL5.out.size)
  have HS := Lib.hid (HB.out.trans (HS1.out.mono HB.out.size))
  have HR0 := Lib.hid (show Bk u r YC.toArray 49 from h6)
  have HL := Lib.hid (HL.out.trans (HS.out.mono HL.out.size))
  have HK := Lib.hid (HK.out.below HS.out HK.out.lt)
  have HQ := Lib.hid (HQ.out.below HS1.out)
  clear h6 hg6 hs6 HZ5 HL5 HG5 HS HS1 HB
  have c0 : u.cell? ⟨r, 228, none⟩ = some (.slice tB n td) := (HR0.out.cell 228).trans Y1.out
  go_wp2_with fail
  refine (TxsRoot_any u tB n td ts HTN.out HTO.out (HLT.out _ _ _ _ _ _ _ HQ.out) (HT.out.below HL.out)).mono ?_
  rintro e s1 ⟨hl, rfl⟩
  rw [HE0.out, HA0.out]
  have HB := Lib.hid hl
  clear hl c0
  go_wp2_with (with_reducible show wpList _ _ _ (Oper.mk _ (Op.alloc _) _ _ _ _ :: _) _ _; go_must (refine wpList_alloc_i rfl 29 rfl (.agg (bv (zer 32)).toArray) zero_hash ?_))
  intro r0 t1 h5 hl5 hg5 hs5
  have HZ5 := Lib.hid h5
  have HL5 := Lib.hid hl5
  have HG5 := Lib.hid hg5
  clear h5 hl5 hs5 hg5
  go_wp2_with (with_reducible show wpList _ _ _ (Oper.mk _ (Op.store 29 _ _) _ _ _ _ :: _) _ _; go_must (refine wpList_store_bk rfl 29 _ _ rfl r0 rfl (.agg (bv A0).toArray) rfl _ _ HZ5.out (by rw [agg_sz (bv_sz (n := 32) AL0.out)]; exact info_h32) (by rw [agg_sz (bv_sz (n := 32) AL0.out)]; simp [bv, zer]) (by simpa [Value.cells] using bv_one A0) ?_))
  intro u0 h6 hg6 hs6
  have HS := Lib.hid (HB.out.trans ((below_grown2 HL5.out hg6 HG5.out HL5.out.size).mono HB.out.size))
  have H0 := Lib.hid (show Bk u0 r0 (bv A0).toArray 29 from h6)
  have HL := Lib.hid (HL.out.trans (HS.out.mono HL.out.size))
  have HK := Lib.hid (HK.out.below HS.out HK.out.lt)
  have HR0 := Lib.hid (HR0.out.below HS.out HR0.out.lt)
  have HQ := Lib.hid (HQ.out.below HS.out)
  clear h6 hg6 hs6 HZ5 HL5 HG5 HS HB
  have c1 : u0.cell? ⟨r, 229, none⟩ = some (.slice eB m ed) := (HR0.out.cell 229).trans Y2.out
  go_wp2_with fail
  refine (EvidenceRoot_any u0 eB m ed es HEN.out HEO.out (HLE.out _ _ _ _ _ _ _ HQ.out) (HT.out.below HL.out)).mono ?_
  rintro e s2 ⟨hl, rfl⟩
  rw [HE1.out, HA1.out]
  have HB := Lib.hid hl
  clear hl c1
  go_wp2_with (with_reducible show wpList _ _ _ (Oper.mk _ (Op.alloc _) _ _ _ _ :: _) _ _; go_must (refine wpList_alloc_i rfl 29 rfl (.agg (bv (zer 32)).toArray) zero_hash ?_))
  intro r1 t2 h5 hl5 hg5 hs5
  have HZ5 := Lib.hid h5
  have HL5 := Lib.hid hl5
  have HG5 := Lib.hid hg5
  clear h5 hl5 hs5 hg5
  go_wp2_with (with_reducible show wpList _ _ _ (Oper.mk _ (Op.store 29 _ _) _ _ _ _ :: _) _ _; go_must (refine wpList_store_bk rfl 29 _ _ rfl r1 rfl (.agg (bv A1).toArray) rfl _ _ HZ5.out (by rw [agg_sz (bv_sz (n := 32) AL1.out)]; exact info_h32) (by rw [agg_sz (bv_sz (n := 32) AL1.out)]; simp [bv, zer]) (by simpa [Value.cells] using bv_one A1) ?_))
  intro u1 h6 hg6 hs6
  have HS := Lib.hid (HB.out.trans ((below_grown2 HL5.out hg6 HG5.out HL5.out.size).mono HB.out.size))
  have H1 := Lib.hid (show Bk u1 r1 (bv A1).toArray 29 from h6)
  have HL := Lib.hid (HL.out.trans (HS.out.mono HL.out.size))
  have HK := Lib.hid (HK.out.below HS.out HK.out.lt)
  have HR0 := Lib.hid (HR0.out.below HS.out HR0.out.lt)
  have H0 := Lib.hid (H0.out.below HS.out H0.out.lt)
  have HQ := Lib.hid (HQ.out.below HS.out)
  clear h6 hg6 hs6 HZ5 HL5 HG5 HS HB
  have c2 : u1.cell? ⟨b, 228, none⟩ = some (.slice tA n tc) := (HK.out.cell 228).trans X1.out
  go_wp2_with fail
  refine (rTxsRoot_any u1 tA n tc ts HTN.out HTO.out (RT.out.below HL.out) (HR.out.below HL.out HR.out.lt HL.out.size)).mono ?_
  rintro e s3 ⟨hl, rfl⟩
  rw [HE0.out, HA0.out]
  have HB := Lib.hid hl
  clear hl c2
  go_wp2_with (with_reducible show wpList _ _ _ (Oper.mk _ (Op.alloc _) _ _ _ _ :: _) _ _; go_must (refine wpList_alloc_i rfl 29 rfl (.agg (bv (zer 32)).toArray) zero_hash ?_))
  intro r2 t3 h5 hl5 hg5 hs5
  have HZ5 := Lib.hid h5
  have HL5 := Lib.hid hl5
  have HG5 := Lib.hid hg5
  clear h5 hl5 hs5 hg5
  go_wp2_with (with_reducible show wpList _ _ _ (Oper.mk _ (Op.store 29 _ _) _ _ _ _ :: _) _ _; go_must (refine wpList_store_bk rfl 29 _ _ rfl r2 rfl (.agg (bv A0).toArray) rfl _ _ HZ5.out (by rw [agg_sz (bv_sz (n := 32) AL0.out)]; exact info_h32) (by rw [agg_sz (bv_sz (n := 32) AL0.out)]; simp [bv, zer]) (by simpa [Value.cells] using bv_one A0) ?_))
  intro u2 h6 hg6 hs6
  have HS := Lib.hid (HB.out.trans ((below_grown2 HL5.out hg6 HG5.out HL5.out.size).mono HB.out.size))
  have H2 := Lib.hid (show Bk u2 r2 (bv A0).toArray 29 from h6)
  have HL := Lib.hid (HL.out.trans (HS.out.mono HL.out.size))
  have HK := Lib.hid (HK.out.below HS.out HK.out.lt)
  have HR0 := Lib.hid (HR0.out.below HS.out HR0.out.lt)
  have H0 := Lib.hid (H0.out.below HS.out H0.out.lt)
  have H1 := Lib.hid (H1.out.below HS.out H1.out.lt)
  have HQ := Lib.hid (HQ.out.below HS.out)
  clear h6 hg6 hs6 HZ5 HL5 HG5 HS HB
  have c3 : u2.cell? ⟨b, 229, none⟩ = some (.slice eA m ec) := (HK.out.cell 229).trans X2.out
  go_wp2_with fail
  refine (rEvidenceRoot_any u2 eA m ec es HEN.out HEO.out (RE.out.below HL.out) (HR.out.below HL.out HR.out.lt HL.out.size)).mono ?_
  rintro e s4 ⟨hl, rfl⟩
  rw [HE1.out, HA1.out]
  have HB := Lib.hid hl
  clear hl c3
  go_wp2_with (with_reducible show wpList _ _ _ (Oper.mk _ (Op.alloc _) _ _ _ _ :: _) _ _; go_must (refine wpList_alloc_i rfl 29 rfl (.agg (bv (zer 32)).toArray) zero_hash ?_))
  intro r3 t4 h5 hl5 hg5 hs5
  have HZ5 := Lib.hid h5
  have HL5 := Lib.hid hl5
  have HG5 := Lib.hid hg5
  clear h5 hl5 hs5 hg5
  go_wp2_with (with_reducible show wpList _ _ _ (Oper.mk _ (Op.store 29 _ _) _ _ _ _ :: _) _ _; go_must (refine wpList_store_bk rfl 29 _ _ rfl r3 rfl (.agg (bv A1).toArray) rfl _ _ HZ5.out (by rw [agg_sz (bv_sz (n := 32) AL1.out)]; exact info_h32) (by rw [agg_sz (bv_sz (n := 32) AL1.out)]; simp [bv, zer]) (by simpa [Value.cells] using bv_one A1) ?_))
  intro u3 h6 hg6 hs6
  have HS := Lib.hid (HB.out.trans ((below_grown2 HL5.out hg6 HG5.out HL5.out.size).mono HB.out.size))
  have H3 := Lib.hid (show Bk u3 r3 (bv A1).toArray 29 from h6)
  have HL := Lib.hid (HL.out.trans (HS.out.mono HL.out.size))
  have HK := Lib.hid (HK.out.below HS.out HK.out.lt)
  have HR0 := Lib.hid (HR0.out.below HS.out HR0.out.lt)
  have H0 := Lib.hid (H0.out.below HS.out H0.out.lt)
  have H1 := Lib.hid (H1.out.below HS.out H1.out.lt)
  have H2 := Lib.hid (H2.out.below HS.out H2.out.lt)
  have HQ := Lib.hid (HQ.out.below HS.out)
  clear h6 hg6 hs6 HZ5 HL5 HG5 HS HB
  go_wp2_with (first
    | (with_reducible show wpList _ _ _ (Oper.mk (some 38) (Op.load 29 _) _ _ _ _ :: _) _ _; go_must (refine wpList_load_part rfl 29 _ rfl r0 0 32 rfl _ _ _ H0.out Tryd.underlying29 rfl info_h32 (by rw [bv_sz (n := 32) AL0.out]; omega) (bv A0).toArray (arr_all (bv_sz AL0.out)) ?_))
    | (with_reducible show wpList _ _ _ (Oper.mk (some 39) (Op.load 29 _) _ _ _ _ :: _) _ _; go_must (refine wpList_load_part rfl 29 _ rfl r2 0 32 rfl _ _ _ H2.out Tryd.underlying29 rfl info_h32 (by rw [bv_sz (n := 32) AL0.out]; omega) (bv A0).toArray (arr_all (bv_sz AL0.out)) ?_))
    | (with_reducible show wpList _ _ _ (Oper.mk (some 42) (Op.load 29 _) _ _ _ _ :: _) _ _; go_must (refine wpList_load_part rfl 29 _ rfl r1 0 32 rfl _ _ _ H1.out Tryd.underlying29 rfl info_h32 (by rw [bv_sz (n := 32) AL1.out]; omega) (bv A1).toArray (arr_all (bv_sz AL1.out)) ?_))
    | (with_reducible show wpList _ _ _ (Oper.mk (some 43) (Op.load 29 _) _ _ _ _ :: _) _ _; go_must (refine wpList_load_part rfl 29 _ rfl r3 0 32 rfl _ _ _ H3.out Tryd.underlying29 rfl info_h32 (by rw [bv_sz (n := 32) AL1.out]; omega) (bv A1).toArray (arr_all (bv_sz AL1.out)) ?_))
    | (with_reducible show wpList _ _ _ (Oper.mk (some 40) (Op.binOp BinOp.eql 29 _ _ _) _ _ _ _ :: _) _ _; go_must (refine wpList_eql_flat rfl 29 _ _ _ rfl (bv A0) (bv A0) rfl rfl 2 _ flat_hash (by omega) agg_hash guard_hash (fits_hash AL0.out) (fits_hash AL0.out) true (by simp) ?_))
    | (with_reducible show wpList _ _ _ (Oper.mk (some 44) (Op.binOp BinOp.eql 29 _ _ _) _ _ _ _ :: _) _ _; go_must (refine wpList_eql_flat rfl 29 _ _ _ rfl (bv A1) (bv A1) rfl rfl 2 _ flat_hash (by omega) agg_hash guard_hash (fits_hash AL1.out) (fits_hash AL1.out) true (by simp) ?_))
    | (with_reducible show wpList _ _ _ (Oper.mk (some 59) (Op.load 49 _) _ _ _ _ :: _) _ _; go_must (refine wpList_load_part rfl 49 _ rfl r 0 265 rfl _ _ _ HR0.out Tryd.underlying49 rfl info_Blk (by simp [LY.out]) _ (cl_allN LY.out) ?_))
    | (with_reducible show wpList _ _ _ (Oper.mk (some 60) (Op.load 49 _) _ _ _ _ :: _) _ _; go_must (refine wpList_load_part rfl 49 _ rfl b 0 265 rfl _ _ _ HK.out Tryd.underlying49 rfl info_Blk (by simp [LX.out]) _ (cl_allN LX.out) ?_))
    | (with_reducible show wpList _ _ _ (Oper.mk (some 64) (Op.load 49 _) _ _ _ _ :: _) _ _; go_must (refine wpList_load_part rfl 49 _ rfl r 0 265 rfl _ _ _ HR0.out Tryd.underlying49 rfl info_Blk (by simp [LY.out]) _ (cl_allN LY.out) ?_))
    | (go_at_call 11; go_must (refine (lawNum_any _ _).mono ?_); rintro e wx ⟨rfl, rfl⟩)
    | (go_at_call 17; go_must (refine (HSAME.out _ _ _ _ _ _ _ _ HYC.out HL.out HQ.out).mono ?_); rintro e wz ⟨rfl, hz⟩; have HL := Lib.hid (HL.out.trans (hz.mono HL.out.size)); have HR0 := Lib.hid (HR0.out.below hz HR0.out.lt); have HQ := Lib.hid (HQ.out.below hz); clear hz)
    | (go_at_call 18; go_must (refine (HKEPT.out _ _ _ _ _ _ _ _ HYC.out HQ.out).mono ?_); rintro e wy ⟨rfl, hz⟩; have HLF := Lib.hid (HL.out.trans (hz.mono HL.out.size)); clear hz))
  go_ret
  exact ⟨by simp, HLF.out⟩
end Go.Proofs.YtjdegphpalhapaaDoor

/-
  The reference's BlockId. Conditions: each number fits its kind; the table reads as it was laid.
-/
import Derived.Test.YtjdegphpalhapaaDoorKCr4
namespace Go.Proofs.YtjdegphpalhapaaDoor
set_option linter.unusedSimpArgs false
set_option linter.unusedVariables false
open Go.RowKit
set_option maxRecDepth 100000
set_option maxHeartbeats 4000000 in
theorem rBlockId_any (w : World) (x : Hdr) (hx : x.ok) (ht : RTab w) :
    Calls Tryd.prog 9 #[.agg x.cl.toArray] w (HashRes w (plainHdr x) (idHdr x)) := by
  have HX := Lib.hid hx
  have HT := Lib.hid ht
  have HL := Lib.hid (x.cl_len hx)
  clear hx ht
  go_enter Tryd.func9, Tryd.ntmps9
  go_wp2_with (with_reducible show wpList _ _ _ (Oper.mk _ (Op.box _ _) _ _ _ _ :: _) _ _; refine wpList_box_i rfl _ _ rfl _ rfl ?_)
  intro bx w1 hk1 hl1 hg1 hs1
  go_wp2_with (with_reducible show wpList _ _ _ (Oper.mk _ (Op.alloc _) _ _ _ _ :: _) _ _; refine wpList_alloc_i rfl 29 rfl (.agg (bv (zer 32)).toArray) zero_hash ?_)
  intro r w2 h2 hl2 hg2 hs2
  have HK2 := Lib.hid (hk1.below hl2 hk1.lt)
  have H2 := Lib.hid h2
  have HL2 := Lib.hid (hl1.trans (hl2.mono hl1.size))
  have HR := Lib.hid (show w.heap.size ≤ r by have := hl1.size; omega)
  clear hk1 hl1 h2 hl2 hg1 hs1 hg2
  go_wp2_with (with_reducible show wpList _ _ _ (Oper.mk (some 6) (Op.load _ _) _ _ _ _ :: _) _ _; go_must (refine wpList_load_part rfl 31 _ rfl bx 0 228 rfl _ _ _ HK2.out Tryd.underlying31 rfl info_Hdr (by simp [Value.cells, HL.out]) _ (cl_all228 HL.out) ?_); go_wp2_with fail)
  refine (rPlainHdr_any w2 x HX.out).mono ?_
  rintro en w3 ⟨rfl, hl3⟩
  have HL3 := Lib.hid (HL2.out.trans (hl3.mono HL2.out.size))
  have H3 := Lib.hid (H2.out.below hl3 H2.out.lt)
  have HK3 := Lib.hid (HK2.out.below hl3 HK2.out.lt)
  clear hl3 HK2 H2
  obtain ⟨E, hE⟩ : ∃ E, plainHdr x = E := ⟨_, rfl⟩
  have HE := Lib.hid hE
  rw [hE]
  clear hE
  by_cases he : E = 0
  · have f1 : (E != 0) = false := by simp [he]
    have f2 : (E == 0) = true := by simp [he]
    have HE0 := Lib.hid he
    have hB := hdrB HX.out (HE.out.trans he)
    have HTB := Lib.hid hB
    have HFL := Lib.hid (encHdr_len HX.out hB)
    clear he hB
    go_wp2_with (with_reducible show wpList _ _ _ (Oper.mk (some 13) (Op.load _ _) _ _ _ _ :: _) _ _; go_must (refine wpList_load_part rfl 31 _ rfl bx 0 228 rfl _ _ _ (HK3.out.below ((Below.refl _ _).alloc (Nat.le_refl _) _) HK3.out.lt) Tryd.underlying31 rfl info_Hdr (by simp [Value.cells, HL.out]) _ (cl_all228 HL.out) ?_); go_wp2_with fail)
    have HBA := Lib.hid (show Below w3.heap.size w3 (w3.alloc (.cells #[.int .u8 17] 5)) from (Below.refl _ _).alloc (Nat.le_refl _) _)
    have HKA := Lib.hid (show Bk (w3.alloc (.cells #[.int .u8 17] 5)) w3.heap.size #[.int .u8 17] 5 from Bk.new w3 _ _)
    obtain ⟨wa, hwa⟩ : ∃ wa, w3.alloc (.cells #[.int .u8 17] 5) = wa := ⟨_, rfl⟩
    obtain ⟨g0, hg0⟩ : ∃ g0, w3.heap.size = g0 := ⟨_, rfl⟩
    rw [hwa] at HBA HKA ⊢
    rw [hg0] at HBA HKA ⊢
    refine (rHdr_any wa x HX.out HTB.out).mono ?_
    rintro en w5 ⟨v, rfl, hv, hl5⟩
    obtain ⟨A, c, rfl⟩ := hv.form
    have HV := Lib.hid hv
    have HK5 := Lib.hid (HKA.out.below hl5 HKA.out.lt)
    have HL5 := Lib.hid (HL3.out.trans (((by rw [hg0]; exact HBA.out : Below w3.heap.size w3 wa).trans (hl5.mono HBA.out.size)).mono HL3.out.size))
    have H5 := Lib.hid (((H3.out.below (by rw [hg0]; exact HBA.out) H3.out.lt)).below hl5 (by have := H3.out.lt; have := HBA.out.size; omega))
    have c16 : w5.cell? ⟨g0, 0, none⟩ = some (.int .u8 (17 : UInt8).toNat) := HK5.out.cell 0
    have HNE := Lib.hid (show 1 ≤ (encHdr x).length by have := HX.out.hh; unfold encHdr; simp only [List.length_append]; omega)
    clear hv hl5 hwa hg0
    go_wp2_with (at_builtin; go_must (refine wpList_app_one rfl _ _ rfl g0 17 rfl c16 A _ c (encHdr x) rfl rfl HV.out.rd HNE.out (by have := HFL.out; unfold reach47; omega) ?_); intro v6 w6 own6 hl6)
    have HL6 := Lib.hid (HL5.out.trans (hl6.mono HL5.out.size))
    have H6 := Lib.hid (H5.out.below hl6 H5.out.lt)
    clear hl6
    refine (rSum_bs w6 _ v6 (17 :: encHdr x) own6 (by simp) (by have := HFL.out; unfold room46; simp only [List.length_cons]; omega) (HT.out.below HL6.out HT.out.lt HL6.out.size)).mono ?_
    rintro en w7 ⟨rfl, hl7⟩
    have HL7 := Lib.hid (HL6.out.trans (hl7.mono HL6.out.size))
    have H7x := Lib.hid (H6.out.below hl7 H6.out.lt)
    clear hl7
    obtain ⟨D, hD⟩ : ∃ D, sha (17 :: encHdr x) = D := ⟨_, rfl⟩
    have HHL := Lib.hid (show D.length = 32 by rw [← hD]; exact sha_len _)
    have HD := Lib.hid hD
    rw [hD]
    have HQ := Lib.hid (show idHdr x = nzH D by unfold idHdr; rw [hD])
    clear hD
    go_wp2_with (with_reducible show wpList _ _ _ (Oper.mk _ (Op.alloc _) _ _ _ _ :: _) _ _; refine wpList_alloc_i rfl 29 rfl (.agg (bv (zer 32)).toArray) zero_hash ?_)
    intro h w5 h5 hl5 hg5 hs5
    have H5 := Lib.hid h5
    have HL5 := Lib.hid hl5
    have HG5 := Lib.hid hg5
    clear h5 hl5 hs5 hg5
    go_wp2_with (with_reducible show wpList _ _ _ (Oper.mk _ (Op.store 29 _ _) _ _ _ _ :: _) _ _; go_must (refine wpList_store_bk rfl 29 _ _ rfl h rfl (.agg (bv D).toArray) rfl _ _ H5.out (by rw [agg_sz (bv_sz (n := 32) HHL.out)]; exact info_h32) (by rw [agg_sz (bv_sz (n := 32) HHL.out)]; simp [bv, zer]) (by simpa [Value.cells] using bv_one D) ?_))
    intro w6 h6 hg6 hs6
    have HB6 := Lib.hid (below_grown2 HL5.out hg6 HG5.out HL5.out.size)
    have H6 := Lib.hid (show Bk w6 h (bv D).toArray 29 from h6)
    have HR6 := Lib.hid (H7x.out.below HB6.out H7x.out.lt)
    have HL6 := Lib.hid (HL7.out.trans (HB6.out.mono HL7.out.size))
    have HH6 := Lib.hid (show w.heap.size ≤ h by have := HL7.out.size; have := HG5.out; omega)
    clear h6 hg6 hs6
    by_cases hz : D = zer 32
    · have HZ := Lib.hid hz
      have q1 : (true : Bool) = true ↔ bv D = bv (zer 32) := by rw [HZ.out]; simp
      clear hz
      go_wp2_with (first
        | (with_reducible show wpList _ _ _ (Oper.mk (some 17) (Op.load 29 _) _ _ _ _ :: _) _ _; go_must (refine wpList_load_part rfl 29 _ rfl h 0 32 rfl _ _ _ H6.out Tryd.underlying29 rfl info_h32 (by rw [bv_sz (n := 32) HHL.out]; omega) (bv D).toArray (arr_all (bv_sz HHL.out)) ?_))
        | (with_reducible show wpList _ _ _ (Oper.mk _ (Op.build _ _) _ _ _ _ :: _) _ _; go_must (refine wpList_buildv rfl 29 [] rfl [] rfl _ built_hash ?_))
        | (with_reducible show wpList _ _ _ (Oper.mk _ (Op.binOp BinOp.eql 29 _ _ _) _ _ _ _ :: _) _ _; go_must (refine wpList_eql_flat rfl 29 _ _ _ rfl (bv D) (bv (zer 32)) rfl rfl 2 _ flat_hash (by omega) agg_hash guard_hash (fits_hash HHL.out) (fits_hash rfl) true q1 ?_))
        | (with_reducible show wpList _ _ _ (Oper.mk _ (Op.store 5 _ _) _ _ _ _ :: _) _ _; go_must (refine wpList_store_w rfl 5 _ _ rfl h 31 rfl .u8 1 rfl _ _ H6.out (by kernel_rfl) (by rw [bv_sz (n := 32) HHL.out]; omega) ?_)))
      intro w11 h7 hg7 hs7
      have HB7 := Lib.hid (below_grown2 HL6.out hg7 HH6.out HL6.out.size)
      have H7 := Lib.hid (show Bk w11 h (bv (zer 31 ++ [1])).toArray 29 from by rw [HZ.out, splice31] at h7; exact h7)
      have HR7 := Lib.hid (HR6.out.grown hg7 (by have := H7x.out.lt; have := HG5.out; intro e; injection e with e; omega))
      have HHM := Lib.hid (show (zer 31 ++ [(1 : UInt8)]).length = 32 from rfl)
      have HN := Lib.hid (show nzH D = zer 31 ++ [1] by unfold nzH; rw [if_pos HZ.out])
      clear h7 hg7 hs7
      go_wp2_with (first
        | (with_reducible show wpList _ _ _ (Oper.mk (some 21) (Op.load 29 _) _ _ _ _ :: _) _ _; go_must (refine wpList_load_part rfl 29 _ rfl h 0 32 rfl _ _ _ H7.out Tryd.underlying29 rfl info_h32 (by rw [bv_sz (n := 32) HHM.out]; omega) (bv (zer 31 ++ [(1 : UInt8)])).toArray (arr_all (bv_sz HHM.out)) ?_))
        | (with_reducible show wpList _ _ _ (Oper.mk _ (Op.store 29 _ _) _ _ _ _ :: _) _ _; go_must (refine wpList_store_bk rfl 29 _ _ rfl r rfl (.agg (bv (zer 31 ++ [(1 : UInt8)])).toArray) rfl _ _ HR7.out (by rw [agg_sz (bv_sz (n := 32) HHM.out)]; exact info_h32) (by rw [agg_sz (bv_sz (n := 32) HHM.out)]; simp [bv, zer]) (by simpa [Value.cells] using bv_one (zer 31 ++ [(1 : UInt8)])) ?_)))
      intro w9 h9 hg9 hs9
      have HB := Lib.hid (below_grown2 HB7.out hg9 HR.out HB7.out.size)
      have H9 := Lib.hid (show Bk w9 r (bv (zer 31 ++ [(1 : UInt8)])).toArray 29 from h9)
      clear h9 hg9 hs9
      go_wp2
      exact bodyPost_ct (x := .int .i64 0) rfl rfl rfl H9.out Tryd.underlying29 rfl info_h32 (bv_sz HHM.out).symm rfl ⟨HB.out, by rw [HE.out, HE0.out, HQ.out, HN.out]; unfold hashOr; rw [if_pos rfl]⟩
    · have HZ := Lib.hid hz
      have q1 : (false : Bool) = true ↔ bv D = bv (zer 32) := by constructor; intro e; cases e; intro e; exact absurd (bv_inj e) HZ.out
      have HN := Lib.hid (show nzH D = D by unfold nzH; rw [if_neg HZ.out])
      clear hz
      go_wp2_with (first
        | (with_reducible show wpList _ _ _ (Oper.mk _ (Op.load 29 _) _ _ _ _ :: _) _ _; go_must (refine wpList_load_part rfl 29 _ rfl h 0 32 rfl _ _ _ H6.out Tryd.underlying29 rfl info_h32 (by rw [bv_sz (n := 32) HHL.out]; omega) (bv D).toArray (arr_all (bv_sz HHL.out)) ?_))
        | (with_reducible show wpList _ _ _ (Oper.mk _ (Op.build _ _) _ _ _ _ :: _) _ _; go_must (refine wpList_buildv rfl 29 [] rfl [] rfl _ built_hash ?_))
        | (with_reducible show wpList _ _ _ (Oper.mk _ (Op.binOp BinOp.eql 29 _ _ _) _ _ _ _ :: _) _ _; go_must (refine wpList_eql_flat rfl 29 _ _ _ rfl (bv D) (bv (zer 32)) rfl rfl 2 _ flat_hash (by omega) agg_hash guard_hash (fits_hash HHL.out) (fits_hash rfl) false q1 ?_))
        | (with_reducible show wpList _ _ _ (Oper.mk _ (Op.store 29 _ _) _ _ _ _ :: _) _ _; go_must (refine wpList_store_bk rfl 29 _ _ rfl r rfl (.agg (bv D).toArray) rfl _ _ HR6.out (by rw [agg_sz (bv_sz (n := 32) HHL.out)]; exact info_h32) (by rw [agg_sz (bv_sz (n := 32) HHL.out)]; simp [bv, zer]) (by simpa [Value.cells] using bv_one D) ?_)))
      intro w9 h9 hg9 hs9
      have HB := Lib.hid (below_grown2 HL6.out hg9 HR.out HL6.out.size)
      have H9 := Lib.hid (show Bk w9 r (bv D).toArray 29 from h9)
      clear h9 hg9 hs9
      go_wp2
      exact bodyPost_ct (x := .int .i64 0) rfl rfl rfl H9.out Tryd.underlying29 rfl info_h32 (bv_sz HHL.out).symm rfl ⟨HB.out, by rw [HE.out, HE0.out, HQ.out, HN.out]; unfold hashOr; rw [if_pos rfl]⟩
  · have f1 : (E != 0) = true := by simp [he]
    have f2 : (E == 0) = false := by simp [he]
    have HE0 := Lib.hid he
    clear he
    go_wp2_with (first
      | (with_reducible show wpList _ _ _ (Oper.mk _ (Op.build _ _) _ _ _ _ :: _) _ _; go_must (refine wpList_buildv rfl 29 [] rfl [] rfl _ built_hash ?_))
      | (with_reducible show wpList _ _ _ (Oper.mk _ (Op.store 29 _ _) _ _ _ _ :: _) _ _; go_must (refine wpList_store_bk rfl 29 _ _ rfl r rfl (.agg (bv (zer 32)).toArray) rfl _ _ H3.out (by rw [agg_sz (bv_sz (n := 32) rfl)]; exact info_h32) rfl (by simpa [Value.cells] using bv_one (zer 32)) ?_)))
    intro w5 h5 hg5 hs5
    have HB := Lib.hid (below_grown2 HL3.out hg5 HR.out HL3.out.size)
    have H5 := Lib.hid (show Bk w5 r (bv (zer 32)).toArray 29 from h5)
    clear h5 hg5 hs5
    go_wp2
    exact bodyPost_ct (x := .int .i64 E) rfl rfl rfl H5.out Tryd.underlying29 rfl info_h32 (bv_sz (n := 32) rfl).symm rfl ⟨HB.out, by rw [HE.out]; unfold hashOr; rw [if_neg HE0.out]⟩
end Go.Proofs.YtjdegphpalhapaaDoor

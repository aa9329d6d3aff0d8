/-
  The walk of ChainMedians: true, and nothing that was there is changed. Conditions: each number fits its kind; the lists lie in the world.
  A council and a certificate among the arguments opened, their lists too, each of a size that the row's reach bears. No condition.
-/
import Derived.Test.YtnfffipkgaobhaaM32
import Derived.Test.YtnfffipkgaobhaaM27
namespace Go.Proofs.Ytnfffipkgaobhaa
set_option linter.unusedSimpArgs false
set_option linter.unusedVariables false
open Go.RowKit
set_option maxRecDepth 100000

set_option maxHeartbeats 400000 in
theorem lawNum12_any (w : World) (n : Int) :
    Calls Try.prog 8 #[.int .i64 n] w fun e w' => e = .returned (.int .i64 n) ∧ w = w' := by
  go_enter Try.func8, Try.ntmps8
  go_wp2
  go_ret
  exact ⟨rfl, rfl⟩
theorem fits_markMk : Fits ([.int .i64, .int .u64] ++ List.replicate 16 (.int .u8)) markMk := Fits.app ⟨rfl, rfl, trivial⟩ (Fits.bytes (zer 16))
theorem fields_BlkC : ∃ fs, Try.prog.underlying 38 = some (.struct fs) ∧ (fs[3]?).map (fun f => (f.type, f.offset)) = some (30, 230) := ⟨_, rfl, by kernel_rfl⟩
theorem agg_Crt : isAggT Try.prog 30 = true := by kernel_rfl
def blkOf (x : Crt) : Blk := ⟨⟨ByteArray.empty, 0, 0, zer 224, 0⟩, none, 0, 0, [], none, 0, 0, [], x⟩
theorem blkOf_ok {x : Crt} (hx : x.ok) (hb : x.n * 32 ≤ 140737488351232) : (blkOf x).ok := ⟨⟨show ByteArray.empty.size ≤ 9223372036854775807 from by decide, show U64 0 from by unfold U64; decide, show U64 0 from by unfold U64; decide, rfl, show U64 0 from by unfold U64; decide⟩, rfl, fun t ht => (by cases ht), show 0 * 64 ≤ 140737488351232 from by decide, rfl, fun t ht => (by cases ht), show 0 * 176 ≤ 140737488351232 from by decide, hx, hb⟩
theorem blkOf_cl (x : Crt) : (blkOf x).cl = zeroHdrC ++ ([Value.slice none 0 0, Value.slice none 0 0] ++ x.cl) := rfl

set_option maxHeartbeats 16000000 in
theorem walk_medians (w : World) (A : Option Addr) (n c : Nat) (l : List Mem) (hn : n = l.length) (hm : ∀ m ∈ l, m.ok) (hr : Rd w A (l.flatMap Mem.cl)) (hbig : n * 24 ≤ 140737488351232) (x : Crt) (hx : x.ok) (hat : x.at w) (hxb : x.n * 32 ≤ 140737488351232) :
    Calls Try.prog 3 #[.agg #[.slice A n c], .agg x.cl.toArray] w fun e w' => e = .returned (.bool true) ∧ Below w.heap.size w w' := by
  have HN := Lib.hid hn
  have hl : n ≤ 10000000000000 := by omega
  have hxl : x.n ≤ 10000000000000 := by omega
  have HOC := Lib.hid (show ∀ w', Below w.heap.size w w' → Calls Try.prog 4 #[.agg #[.slice A n c]] w' fun e w'' => ∃ g c', e = .returned (.agg #[.slice (some ⟨g, 0, none⟩) n c']) ∧ n + 1 ≤ c' ∧ Rd w'' (some ⟨g, 0, none⟩) (l.flatMap Mem.cl ++ markMem) ∧ Below w'.heap.size w' w'' from fun w' hb => ownCouncil_any w' A n c l hn (hr.below hb) hbig)
  obtain ⟨XC, hXC⟩ : ∃ XC, x.cl = XC := ⟨_, rfl⟩
  have LX := Lib.hid (show XC.length = 35 by rw [← hXC]; exact x.cl_len hx)
  have HOB := Lib.hid (show ∀ w', Below w.heap.size w w' → Calls Try.prog 5 #[.agg (zeroHdrC ++ ([Value.slice none 0 0, Value.slice none 0 0] ++ XC)).toArray] w' fun e w'' => ∃ tA tc eA ec gm cm YC, ({ x with A := some ⟨gm, 0, none⟩, c := cm } : Crt).cl = YC ∧ YC.length = 35 ∧ (∀ u ∈ (Value.agg YC.toArray).cells.toList, u.oneCell' = true) ∧ e = .returned (.agg (zeroHdrC ++ ([Value.slice tA 0 tc, Value.slice eA 0 ec] ++ YC)).toArray) ∧ x.n + 1 ≤ cm ∧ Rd w'' (some ⟨gm, 0, none⟩) (x.ms.flatMap Mk.cl ++ markMk) ∧ Below w'.heap.size w' w'' from fun w' hb => by
    rw [← hXC, ← blkOf_cl]
    refine (ownBlock_any w' (blkOf x) (blkOf_ok hx hxb) ⟨Rd.nil _ _, Rd.nil _ _, show Rd w' x.A (x.ms.flatMap Mk.cl) from hat.below hb⟩).mono ?_
    rintro e w'' ⟨tA, tc, eA, ec, cA, cc, he, ho, hbl⟩
    obtain ⟨gm, hgm⟩ := ho.cA
    have hgm' : cA = some ⟨gm, 0, none⟩ := hgm
    subst hgm'
    exact ⟨tA, tc, eA, ec, gm, cc, _, rfl, Crt.cl_len { x with A := some ⟨gm, 0, none⟩, c := cc } ⟨hx.height, hx.round, hx.id, hx.n, hx.ms⟩, crt_one _, he, ho.cc, ho.cr, hbl⟩)
  obtain ⟨P1, hP1⟩ : ∃ P, (medRes l x).1 = P := ⟨_, rfl⟩
  obtain ⟨P2, hP2⟩ : ∃ P, (medRes l x).2 = P := ⟨_, rfl⟩
  have HMD := Lib.hid (show ∀ w' gd cd gm cm YC, ({ x with A := some ⟨gm, 0, none⟩, c := cm } : Crt).cl = YC → Rd w' (some ⟨gd, 0, none⟩) (l.flatMap Mem.cl ++ markMem) → Rd w' (some ⟨gm, 0, none⟩) (x.ms.flatMap Mk.cl ++ markMk) → Calls Try.prog 6 #[.agg #[.slice (some ⟨gd, 0, none⟩) n cd], .agg YC.toArray] w' fun e w'' => e = .returned (.tuple #[.int .u64 P1, .int .i64 P2]) ∧ Below w'.heap.size w' w'' from fun w' gd cd gm cm YC hy h1 h2 => by
    rw [← hy, ← hP1, ← hP2]
    exact Median_any w' (some ⟨gd, 0, none⟩) n cd l hn hm (rd_first h1) hl { x with A := some ⟨gm, 0, none⟩, c := cm } ⟨hx.height, hx.round, hx.id, hx.n, hx.ms⟩ (show Rd w' (some ⟨gm, 0, none⟩) (x.ms.flatMap Mk.cl) from rd_first h2) hxl)
  have HRM0 := Lib.hid (show ∀ w', Below w.heap.size w w' → Calls Try.prog 7 #[.agg #[.slice A n c], .agg XC.toArray] w' fun e w'' => e = .returned (.tuple #[.int .u64 P1, .int .i64 P2]) ∧ Below w'.heap.size w' w'' from fun w' hb => by
    rw [← hXC, ← hP1, ← hP2]
    exact rMedian_any w' A n c l hn hm (hr.below hb) hl x hx (show Rd w' x.A (x.ms.flatMap Mk.cl) from hat.below hb) hxl)
  have HSC0 := Lib.hid (show ∀ gd cd w', Below w.heap.size w w' → Rd w' (some ⟨gd, 0, none⟩) (l.flatMap Mem.cl ++ markMem) → Calls Try.prog 9 #[.agg #[.slice (some ⟨gd, 0, none⟩) n cd], .agg #[.slice A n c]] w' fun e w'' => e = .returned (.bool true) ∧ Below w'.heap.size w' w'' from fun gd cd w' hb h1 => sameCouncil_any w' A (some ⟨gd, 0, none⟩) n c cd l hn (rd_first h1) (hr.below hb) hl)
  have HST0 := Lib.hid (show ∀ gm cm YC, ({ x with A := some ⟨gm, 0, none⟩, c := cm } : Crt).cl = YC → ∀ w', Below w.heap.size w w' → Rd w' (some ⟨gm, 0, none⟩) (x.ms.flatMap Mk.cl ++ markMk) → Calls Try.prog 10 #[.agg YC.toArray, .agg XC.toArray] w' fun e w'' => e = .returned (.bool true) ∧ Below w'.heap.size w' w'' from fun gm cm YC hy w' hb h1 => by
    rw [← hy, ← hXC]
    exact sameCert12_any w' x (some ⟨gm, 0, none⟩) cm hx (rd_first h1) (show Rd w' x.A (x.ms.flatMap Mk.cl) from hat.below hb) (by omega))
  have HY34 := Lib.hid (show ∀ gm cm YC, ({ x with A := some ⟨gm, 0, none⟩, c := cm } : Crt).cl = YC → YC.toArray[34]? = some (.slice (some ⟨gm, 0, none⟩) x.n cm) from fun gm cm YC hy => by rw [← hy]; exact Crt.cl_34 { x with A := some ⟨gm, 0, none⟩, c := cm } hx.id)
  have X34 := Lib.hid (show XC.toArray[34]? = some (.slice x.A x.n x.c) by rw [← hXC]; exact x.cl_34 hx.id)
  have HML := Lib.hid (show (x.ms.flatMap Mk.cl).length = x.n * 18 by rw [fl_len x.ms (fun m h => m.cl_len (hx.ms m h)), ← hx.n])
  rw [hXC]
  obtain ⟨m, hm'⟩ : ∃ m, x.n = m := ⟨_, rfl⟩
  obtain ⟨xA, hxA⟩ : ∃ A, x.A = A := ⟨_, rfl⟩
  obtain ⟨xc, hxc⟩ : ∃ c, x.c = c := ⟨_, rfl⟩
  rw [hm', hxA, hxc] at X34
  rw [hm'] at HY34 HML HOB hxl HST0 HMD
  clear hn hm hr hbig hx hat hxb hXC hP1 hP2 hm' hxA hxc
  go_enter Try.func3, Try.ntmps3
  go_wp2_with (with_reducible show wpList _ _ _ (Oper.mk _ (Op.box _ _) _ _ _ _ :: _) _ _; refine wpList_box_i rfl _ _ rfl _ rfl ?_)
  intro g w1 hk1 hb1 hg1 hs1
  go_wp2_with (with_reducible show wpList _ _ _ (Oper.mk _ (Op.box _ _) _ _ _ _ :: _) _ _; refine wpList_box_i rfl _ _ rfl _ rfl ?_)
  intro g2 w2 hk2 hb2 hg2 hs2
  have HG := Lib.hid ((bk_eqT (cs' := #[.slice A n c]) hk1 rfl).below hb2 hk1.lt)
  have HX2 := Lib.hid (bk_eqT (cs' := XC.toArray) hk2 rfl)
  have HW := Lib.hid (hb1.trans (hb2.mono hb1.size))
  clear hk1 hb1 hg1 hs1 hk2 hb2 hg2 hs2
  -- the council's copy
  go_wp2_with (with_reducible show wpList _ _ _ (Oper.mk (some 11) (Op.load _ _) _ _ _ _ :: _) _ _; go_must (refine wpList_load_part rfl 24 _ rfl g 0 1 rfl _ _ _ HG.out Try.underlying24 rfl info_Cou (by simp) _ (arr_all (n := 1) rfl) ?_); go_wp2_with fail)
  refine (HOC.out w2 HW.out).mono ?_
  rintro e w3 ⟨gd, cd, rfl, hcd, hrd, h3⟩
  have HCD := Lib.hid hcd
  have HRD := Lib.hid hrd
  have HS := Lib.hid h3
  clear hcd hrd h3
  go_wp2_with (with_reducible show wpList _ _ _ (Oper.mk (some 5) (Op.alloc _) _ _ _ _ :: _) _ _; refine wpList_alloc_i rfl 24 rfl (.agg #[.slice none 0 0]) zero_Cou ?_)
  intro h w4 hk4 hb4 hg4 hs4
  have HSA := Lib.hid (HS.out.trans (hb4.mono HS.out.size))
  have HD0 := Lib.hid (bk_eqT (cs' := #[.slice none 0 0]) hk4 rfl)
  have HHG := Lib.hid (show w2.heap.size ≤ h by have := HS.out.size; omega)
  have HGE := Lib.hid (show w3.heap.size ≤ h from hg4)
  have HRD4 := Lib.hid (HRD.out.below hb4)
  have HRL := Lib.hid (show ∀ ad, (some ⟨gd, 0, none⟩ : Option Addr) = some ad → some h ≠ some ad.block from fun ad ha e => by
    injection ha with ha
    subst ha
    injection e with e
    have e9 : h = gd := e
    obtain ⟨ad, h1, h2⟩ := HRD.out ((l.flatMap Mem.cl).length) (.int .u64 71) (by rw [List.getElem?_append_right (Nat.le_refl _), Nat.sub_self]; rfl)
    injection h1 with h1
    have hlt : gd < w3.heap.size := by
      rcases Nat.lt_or_ge gd w3.heap.size with hl | hl
      · exact hl
      · rw [← h1, addr_add] at h2
        have : w3.cell? ⟨gd, 0 + (l.flatMap Mem.cl).length, none⟩ = none := by simp [World.cell?, Array.getElem?_eq_none hl]
        rw [this] at h2; cases h2
    have := HGE.out
    omega)
  clear hk4 hb4 hg4 hs4
  go_wp2_with ((with_reducible show wpList _ _ _ (Oper.mk _ (Op.store 24 _ _) _ _ _ _ :: _) _ _); go_must (refine wpList_store_bk rfl 24 _ _ rfl h rfl (.agg #[.slice (some ⟨gd, 0, none⟩) n cd]) rfl _ _ HD0.out (by exact info_Cou) rfl (by intro u hu; simp [Value.cells] at hu; subst hu; simp [Value.oneCell']) ?_))
  intro w5 h5 hg5 hs5
  have HS5 := Lib.hid (below_grown2 HSA.out hg5 HHG.out HSA.out.size)
  have HD := Lib.hid (show Bk w5 h #[.slice (some ⟨gd, 0, none⟩) n cd] 24 from h5)
  have HRD := Lib.hid (rd_grown HRD4.out hg5 HRL.out)
  have HG := Lib.hid (HG.out.below HS5.out HG.out.lt)
  have HX2 := Lib.hid (HX2.out.below HS5.out HX2.out.lt)
  have HW := Lib.hid (HW.out.trans (HS5.out.mono HW.out.size))
  clear h5 hg5 hs5 HRD4 HRL HD0 HSA HS HS5 HGE HHG
  -- the certificate's copy
  go_wp2_with (first
    | (with_reducible show wpList _ _ _ (Oper.mk (some 13) (Op.load _ _) _ _ _ _ :: _) _ _; go_must (refine wpList_load_part rfl 30 _ rfl g2 0 35 rfl _ _ _ HX2.out Try.underlying30 rfl info_Crt (by simp [LX.out]) _ (cl_allN LX.out) ?_))
    | (with_reducible show wpList _ _ _ (Oper.mk (some 14) (Op.build _ _) _ _ _ _ :: _) _ _; go_must (refine wpList_buildv rfl 38 [(3, .tmp 13)] rfl [(3, .agg XC.toArray)] rfl _ (built_blkC XC LX.out) ?_); go_wp2_with fail))
  refine (HOB.out w5 HW.out).mono ?_
  rintro e w6 ⟨tA, tc, eA, ec, gm, cm, YC, hyc, hyl, hyo, rfl, hcm, hrm, h6⟩
  have LY := Lib.hid hyl
  have HYO := Lib.hid hyo
  have HCM := Lib.hid hcm
  have HRM := Lib.hid hrm
  have HS := Lib.hid h6
  have Y34 := Lib.hid (HY34.out gm cm YC hyc)
  have HST := Lib.hid (HST0.out gm cm YC hyc)
  have HSC := Lib.hid (HSC0.out gd cd)
  have HMED := Lib.hid (show ∀ w', Rd w' (some ⟨gd, 0, none⟩) (l.flatMap Mem.cl ++ markMem) → Rd w' (some ⟨gm, 0, none⟩) (x.ms.flatMap Mk.cl ++ markMk) → Calls Try.prog 6 #[.agg #[.slice (some ⟨gd, 0, none⟩) n cd], .agg YC.toArray] w' fun e w'' => e = .returned (.tuple #[.int .u64 P1, .int .i64 P2]) ∧ Below w'.heap.size w' w'' from fun w' h1 h2 => HMD.out w' gd cd gm cm YC hyc h1 h2)
  have HEX := Lib.hid (show ((zeroHdrC ++ ([Value.slice tA 0 tc, Value.slice eA 0 ec] ++ YC)).toArray.toList.drop 230).take 35 = YC by
    show ((zeroHdrC ++ ([Value.slice tA 0 tc, Value.slice eA 0 ec] ++ YC)).drop 230).take 35 = YC
    rw [show zeroHdrC ++ ([Value.slice tA 0 tc, Value.slice eA 0 ec] ++ YC) = (zeroHdrC ++ [Value.slice tA 0 tc, Value.slice eA 0 ec]) ++ YC by simp, List.drop_left' (by simp [zeroHdrC, bv, zer])]
    exact List.take_of_length_le (by rw [hyl]; exact Nat.le_refl _))
  have HGM := Lib.hid (show gm < w6.heap.size from by
    obtain ⟨ad, h1, h2⟩ := hrm ((x.ms.flatMap Mk.cl).length) (.int .i64 (-71)) (by rw [List.getElem?_append_right (Nat.le_refl _), Nat.sub_self]; rfl)
    injection h1 with h1
    rcases Nat.lt_or_ge gm w6.heap.size with hl | hl
    · exact hl
    · rw [← h1, addr_add] at h2
      have : w6.cell? ⟨gm, 0 + (x.ms.flatMap Mk.cl).length, none⟩ = none := by simp [World.cell?, Array.getElem?_eq_none hl]
      rw [this] at h2; cases h2)
  obtain ⟨fs, hfs, hf3⟩ := fields_BlkC
  have HFS := Lib.hid hfs
  have HF3 := Lib.hid hf3
  clear hyc hyl hyo hcm hrm h6 hfs hf3 HOB HOC HMD HST0 HSC0 HY34
  go_wp2_with (first
    | (with_reducible show wpList _ _ _ (Oper.mk (some 16) (Op.field _ _ _) _ _ _ _ :: _) _ _; go_must (refine wpList_field rfl 38 _ 3 rfl _ rfl fs HFS.out 30 230 35 _ HF3.out Try.underlying30 info_Crt agg_Crt YC (by omega) HEX.out ?_))
    | (with_reducible show wpList _ _ _ (Oper.mk (some 6) (Op.alloc _) _ _ _ _ :: _) _ _; refine wpList_alloc_i rfl 30 rfl (.agg zeroCrtC.toArray) zero_CrtC ?_))
  intro h2 w7 hk7 hb7 hg7 hs7
  have HSA := Lib.hid (HS.out.trans (hb7.mono HS.out.size))
  have HY0 := Lib.hid (bk_eqT (cs' := zeroCrtC.toArray) hk7 rfl)
  have HHG := Lib.hid (show w5.heap.size ≤ h2 by have := HS.out.size; omega)
  have HGE := Lib.hid (show w6.heap.size ≤ h2 from hg7)
  have HRM7 := Lib.hid (HRM.out.below hb7)
  clear hk7 hb7 hg7 hs7
  go_wp2_with (with_reducible show wpList _ _ _ (Oper.mk _ (Op.store 30 _ _) _ _ _ _ :: _) _ _; go_must (refine wpList_store_bk rfl 30 _ _ rfl h2 rfl (.agg YC.toArray) rfl _ _ HY0.out (by rw [show (Value.agg YC.toArray).cells.size = 35 by simp [Value.cells, LY.out]]; exact info_Crt) (by simp [Value.cells, LY.out, zeroCrtC_len]) HYO.out ?_))
  intro w8 h8 hg8 hs8
  have HS8 := Lib.hid (below_grown2 HSA.out hg8 HHG.out HSA.out.size)
  have HY := Lib.hid (show Bk w8 h2 YC.toArray 30 from h8)
  have HRM := Lib.hid (rd_grown HRM7.out hg8 (by intro ad ha e; injection ha with ha; subst ha; injection e with e; have e9 : h2 = gm := e; have h3 := HGM.out; have h4 := HGE.out; omega))
  have HRD := Lib.hid (HRD.out.below HS8.out)
  have HD := Lib.hid (HD.out.below HS8.out HD.out.lt)
  have HG := Lib.hid (HG.out.below HS8.out HG.out.lt)
  have HX2 := Lib.hid (HX2.out.below HS8.out HX2.out.lt)
  have HW := Lib.hid (HW.out.trans (HS8.out.mono HW.out.size))
  clear h8 hg8 hs8 HRM7 HY0 HSA HS HS8 HGE HHG HGM HEX HFS HF3
  -- both Medians
  go_wp2_with (first
    | (with_reducible show wpList _ _ _ (Oper.mk (some 18) (Op.load _ _) _ _ _ _ :: _) _ _; go_must (refine wpList_load_part rfl 24 _ rfl h 0 1 rfl _ _ _ HD.out Try.underlying24 rfl info_Cou (by simp) _ (arr_all (n := 1) rfl) ?_))
    | (with_reducible show wpList _ _ _ (Oper.mk (some 19) (Op.load _ _) _ _ _ _ :: _) _ _; go_must (refine wpList_load_part rfl 30 _ rfl h2 0 35 rfl _ _ _ HY.out Try.underlying30 rfl info_Crt (by simp [LY.out]) _ (cl_allN LY.out) ?_); go_wp2_with fail))
  refine (HMED.out w8 HRD.out HRM.out).mono ?_
  rintro e w9 ⟨rfl, h9⟩
  have HS := Lib.hid h9
  have HY := Lib.hid (HY.out.below h9 HY.out.lt)
  have HRM := Lib.hid (HRM.out.below h9)
  have HRD := Lib.hid (HRD.out.below h9)
  have HD := Lib.hid (HD.out.below h9 HD.out.lt)
  have HG := Lib.hid (HG.out.below h9 HG.out.lt)
  have HX2 := Lib.hid (HX2.out.below h9 HX2.out.lt)
  have HW := Lib.hid (HW.out.trans (h9.mono HW.out.size))
  clear h9 HS HMED
  go_wp2_with (first
    | (with_reducible show wpList _ _ _ (Oper.mk (some 24) (Op.load _ _) _ _ _ _ :: _) _ _; go_must (refine wpList_load_part rfl 24 _ rfl g 0 1 rfl _ _ _ HG.out Try.underlying24 rfl info_Cou (by simp) _ (arr_all (n := 1) rfl) ?_))
    | (with_reducible show wpList _ _ _ (Oper.mk (some 25) (Op.load _ _) _ _ _ _ :: _) _ _; go_must (refine wpList_load_part rfl 30 _ rfl g2 0 35 rfl _ _ _ HX2.out Try.underlying30 rfl info_Crt (by simp [LX.out]) _ (cl_allN LX.out) ?_); go_wp2_with fail))
  refine (HRM0.out w9 HW.out).mono ?_
  rintro e wz ⟨rfl, h9⟩
  have HY := Lib.hid (HY.out.below h9 HY.out.lt)
  have HRM := Lib.hid (HRM.out.below h9)
  have HRD := Lib.hid (HRD.out.below h9)
  have HD := Lib.hid (HD.out.below h9 HD.out.lt)
  have HG := Lib.hid (HG.out.below h9 HG.out.lt)
  have HX2 := Lib.hid (HX2.out.below h9 HX2.out.lt)
  have HW := Lib.hid (HW.out.trans (h9.mono HW.out.size))
  clear h9 HRM0
  have HMM := Lib.hid (show ∀ j u, markMk[j]? = some u → wz.cell? ⟨gm, m * 18 + j, none⟩ = some u from fun j u hu => by
    obtain ⟨ad, h1, h2⟩ := HRM.out (m * 18 + j) u (by
      rw [List.getElem?_append_right (by rw [HML.out]; omega), HML.out, show m * 18 + j - m * 18 = j by omega]; exact hu)
    injection h1 with h1
    rw [← h1, addr_add, Nat.zero_add] at h2
    exact h2)
  have p1 : IntKind.i64.wrap ((m : Int) + 1) = (m : Int) + 1 := by rw [IntKind.wrap_i64]; omega
  have p3 : (0 : Int) ≤ (m : Int) + 1 := by omega
  have p4 : ((m : Int) + 1).toNat = m + 1 := by omega
  have p6 : (m : Int) + 1 ≤ cm := by have := HCM.out; omega
  have p7 : m + 1 ≤ cm := HCM.out
  have p8 : (m : Int) < (m : Int) + 1 := by omega
  go_wp2_with fail
  refine wp_region_freeG [(29, []), (30, []), (31, [(0, 29), (1, 30)]), (32, [(2, 31)]), (33, [(3, 32)]), (34, [(4, 33), (3, 32)]), (35, [(3, 32)]), (36, [(6, 35), (3, 32)]), (37, [(5, 34), (7, 36), (3, 32)]), (38, [(3, 32), (8, 37)]), (39, [(9, 38)]), (40, [(10, 39)]), (41, [(10, 39)]), (42, [(11, 40), (12, 41), (10, 39)]), (43, [(10, 39), (13, 42)]), (44, [(14, 43)]), (45, [(15, 44)]), (46, [(15, 44)]), (47, [(16, 45), (17, 46), (15, 44)]), (48, [(15, 44), (18, 47)]), (49, [(19, 48)]), (50, [(20, 49)]), (51, [(21, 50), (20, 49)]), (52, [(20, 49), (22, 51)]), (53, [(23, 52)]), (54, [(24, 53)]), (55, [(25, 54), (24, 53)]), (56, [(24, 53)]), (57, [(27, 56), (24, 53)]), (58, [(28, 57), (24, 53)]), (59, [(29, 58), (24, 53)]), (60, [(26, 55), (30, 59), (24, 53)]), (61, [(24, 53)]), (62, [(32, 61), (24, 53)]), (63, [(33, 62), (24, 53)]), (64, [(31, 60), (34, 63), (24, 53)]), (65, [(35, 64), (24, 53)]), (66, [(24, 53)]), (67, [(36, 65), (37, 66), (24, 53)]), (68, [(24, 53), (38, 67)])]
    [Is (.int .u64 P1), Is (.int .u64 P1), Is (.bool true), Is (.bool true), Is (.int .i64 P2), Is (.int .i64 P2), Is (.int .i64 P2), Is (.int .i64 P2), Is (.bool true), Is (.bool true), Is (.bool true), Is (.agg #[.slice (some ⟨gd, 0, none⟩) n cd]), Is (.agg #[.slice A n c]), Is (.bool true), Is (.bool true), Is (.bool true), Is (.agg YC.toArray), Is (.agg XC.toArray), Is (.bool true), Is (.bool true), Is (.bool true), Is (.agg #[.slice (some ⟨gd, 0, none⟩) n cd]), Is (.bool true), Is (.bool true), Is (.bool true), Is (.pointer (some ⟨h2, 34, none⟩)), Is (.slice (some ⟨gm, 0, none⟩) m cm), Is (.pointer (some ⟨g2, 34, none⟩)), Is (.slice xA m xc), Is (.int .i64 (m : Int)), Is (.int .i64 ((m : Int) + 1)), Is (.slice (some ⟨gm, 0, none⟩) (m + 1) cm), Is (.pointer (some ⟨g2, 34, none⟩)), Is (.slice xA m xc), Is (.int .i64 (m : Int)), Is (.pointer (some ⟨gm, m * 18, none⟩)), Is (.agg markMk.toArray), Is (.agg markMk.toArray), Is (.bool true), Is (.bool true)]
    (by kernel_rfl) (by kernel_rfl) (by rfl) ?st ?steps ?fin
  case st => exact ⟨Is.steady _, Is.steady _, Is.steady _, Is.steady _, Is.steady _, Is.steady _, Is.steady _, Is.steady _, Is.steady _, Is.steady _, Is.steady _, Is.steady _, Is.steady _, Is.steady _, Is.steady _, Is.steady _, Is.steady _, Is.steady _, Is.steady _, Is.steady _, Is.steady _, Is.steady _, Is.steady _, Is.steady _, Is.steady _, Is.steady _, Is.steady _, Is.steady _, Is.steady _, Is.steady _, Is.steady _, Is.steady _, Is.steady _, Is.steady _, Is.steady _, Is.steady _, Is.steady _, Is.steady _, Is.steady _, Is.steady _, trivial⟩
  case steps =>
    refine FreeSteps.cons (fun w4 hw4 => ?_) ?_
    · refine FreeStep.op rfl rfl ?_
      (try simp only [Act.put, List.setIfInBounds_toArray, List.set_cons_zero, List.set_cons_succ])
      go_wp2_with fail
      exact QStep.mk rfl (Below.refl _ _) rfl
    refine FreeSteps.cons (fun w4 hw4 => ?_) ?_
    · refine FreeStep.op rfl rfl ?_
      (try simp only [Act.put, List.setIfInBounds_toArray, List.set_cons_zero, List.set_cons_succ])
      go_wp2_with fail
      exact QStep.mk rfl (Below.refl _ _) rfl
    refine FreeSteps.cons (fun w4 hw4 => FreeStep.is rfl (FreeStep.is rfl ?_)) ?_
    · refine FreeStep.op rfl rfl ?_
      (try simp only [Act.put, List.setIfInBounds_toArray, List.set_cons_zero, List.set_cons_succ])
      go_wp2_with fail
      exact QStep.mk rfl (Below.refl _ _) rfl
    refine FreeSteps.cons (fun w4 hw4 => FreeStep.is rfl ?_) ?_
    · refine FreeStep.op rfl rfl ?_
      (try simp only [Act.put, List.setIfInBounds_toArray, List.set_cons_zero, List.set_cons_succ])
      go_wp2_with fail
      exact QStep.mk rfl (Below.refl _ _) rfl
    refine FreeSteps.cons (fun w4 hw4 => FreeStep.is rfl ?_) ?_
    · refine FreeStep.op rfl rfl ?_
      (try simp only [Act.put, List.setIfInBounds_toArray, List.set_cons_zero, List.set_cons_succ])
      go_wp2_with fail
      exact QStep.mk rfl (Below.refl _ _) rfl
    refine FreeSteps.cons (fun w4 hw4 => FreeStep.is rfl (FreeStep.is rfl ?_)) ?_
    · refine FreeStep.op rfl rfl ?_
      (try simp only [Act.put, List.setIfInBounds_toArray, List.set_cons_zero, List.set_cons_succ])
      go_wp2_with fail
      refine (lawNum12_any _ _).mono ?_
      rintro e w5 ⟨rfl, rfl⟩
      go_wp2_with fail
      exact QStep.mk rfl (Below.refl _ _) rfl
    refine FreeSteps.cons (fun w4 hw4 => FreeStep.is rfl ?_) ?_
    · refine FreeStep.op rfl rfl ?_
      (try simp only [Act.put, List.setIfInBounds_toArray, List.set_cons_zero, List.set_cons_succ])
      go_wp2_with fail
      exact QStep.mk rfl (Below.refl _ _) rfl
    refine FreeSteps.cons (fun w4 hw4 => FreeStep.is rfl (FreeStep.is rfl ?_)) ?_
    · refine FreeStep.op rfl rfl ?_
      (try simp only [Act.put, List.setIfInBounds_toArray, List.set_cons_zero, List.set_cons_succ])
      go_wp2_with fail
      refine (lawNum12_any _ _).mono ?_
      rintro e w5 ⟨rfl, rfl⟩
      go_wp2_with fail
      exact QStep.mk rfl (Below.refl _ _) rfl
    refine FreeSteps.cons (fun w4 hw4 => FreeStep.is rfl (FreeStep.is rfl (FreeStep.is rfl ?_))) ?_
    · refine FreeStep.op rfl rfl ?_
      (try simp only [Act.put, List.setIfInBounds_toArray, List.set_cons_zero, List.set_cons_succ])
      go_wp2_with fail
      exact QStep.mk rfl (Below.refl _ _) rfl
    refine FreeSteps.cons (fun w4 hw4 => FreeStep.is rfl (FreeStep.is rfl ?_)) ?_
    · refine FreeStep.op rfl rfl ?_
      (try simp only [Act.put, List.setIfInBounds_toArray, List.set_cons_zero, List.set_cons_succ])
      go_wp2_with fail
      exact QStep.mk rfl (Below.refl _ _) rfl
    refine FreeSteps.cons (fun w4 hw4 => FreeStep.is rfl ?_) ?_
    · refine FreeStep.op rfl rfl ?_
      (try simp only [Act.put, List.setIfInBounds_toArray, List.set_cons_zero, List.set_cons_succ])
      go_wp2_with fail
      exact QStep.mk rfl (Below.refl _ _) rfl
    refine FreeSteps.cons (fun w4 hw4 => FreeStep.is rfl ?_) ?_
    · have hb4 : Below wz.heap.size wz w4 := Below.trans (Below.refl _ _).drew hw4
      refine FreeStep.op rfl rfl ?_
      (try simp only [Act.put, List.setIfInBounds_toArray, List.set_cons_zero, List.set_cons_succ])
      refine wpList_load_part rfl 24 _ rfl h 0 1 rfl _ _ _ (HD.out.below hb4 HD.out.lt) Try.underlying24 rfl info_Cou (by simp) _ (arr_all (n := 1) rfl) ?_
      exact QStep.mk rfl (Below.refl _ _) rfl
    refine FreeSteps.cons (fun w4 hw4 => FreeStep.is rfl ?_) ?_
    · have hb4 : Below wz.heap.size wz w4 := Below.trans (Below.refl _ _).drew hw4
      refine FreeStep.op rfl rfl ?_
      (try simp only [Act.put, List.setIfInBounds_toArray, List.set_cons_zero, List.set_cons_succ])
      refine wpList_load_part rfl 24 _ rfl g 0 1 rfl _ _ _ (HG.out.below hb4 HG.out.lt) Try.underlying24 rfl info_Cou (by simp) _ (arr_all (n := 1) rfl) ?_
      exact QStep.mk rfl (Below.refl _ _) rfl
    refine FreeSteps.cons (fun w4 hw4 => FreeStep.is rfl (FreeStep.is rfl (FreeStep.is rfl ?_))) ?_
    · have hb4 : Below wz.heap.size wz w4 := Below.trans (Below.refl _ _).drew hw4
      refine FreeStep.op rfl rfl ?_
      (try simp only [Act.put, List.setIfInBounds_toArray, List.set_cons_zero, List.set_cons_succ])
      go_wp2_with fail
      refine (HSC.out w4 (HW.out.trans (hb4.mono HW.out.size)) (HRD.out.below hb4)).mono ?_
      rintro e w5 ⟨rfl, hb5⟩
      go_wp2_with fail
      exact QStep.mk rfl hb5 rfl
    refine FreeSteps.cons (fun w4 hw4 => FreeStep.is rfl (FreeStep.is rfl ?_)) ?_
    · refine FreeStep.op rfl rfl ?_
      (try simp only [Act.put, List.setIfInBounds_toArray, List.set_cons_zero, List.set_cons_succ])
      go_wp2_with fail
      exact QStep.mk rfl (Below.refl _ _) rfl
    refine FreeSteps.cons (fun w4 hw4 => FreeStep.is rfl ?_) ?_
    · refine FreeStep.op rfl rfl ?_
      (try simp only [Act.put, List.setIfInBounds_toArray, List.set_cons_zero, List.set_cons_succ])
      go_wp2_with fail
      exact QStep.mk rfl (Below.refl _ _) rfl
    refine FreeSteps.cons (fun w4 hw4 => FreeStep.is rfl ?_) ?_
    · have hb4 : Below wz.heap.size wz w4 := Below.trans (Below.refl _ _).drew hw4
      refine FreeStep.op rfl rfl ?_
      (try simp only [Act.put, List.setIfInBounds_toArray, List.set_cons_zero, List.set_cons_succ])
      refine wpList_load_part rfl 30 _ rfl h2 0 35 rfl _ _ _ (HY.out.below hb4 HY.out.lt) Try.underlying30 rfl info_Crt (by simp [LY.out]) _ (cl_allN LY.out) ?_
      exact QStep.mk rfl (Below.refl _ _) rfl
    refine FreeSteps.cons (fun w4 hw4 => FreeStep.is rfl ?_) ?_
    · have hb4 : Below wz.heap.size wz w4 := Below.trans (Below.refl _ _).drew hw4
      refine FreeStep.op rfl rfl ?_
      (try simp only [Act.put, List.setIfInBounds_toArray, List.set_cons_zero, List.set_cons_succ])
      refine wpList_load_part rfl 30 _ rfl g2 0 35 rfl _ _ _ (HX2.out.below hb4 HX2.out.lt) Try.underlying30 rfl info_Crt (by simp [LX.out]) _ (cl_allN LX.out) ?_
      exact QStep.mk rfl (Below.refl _ _) rfl
    refine FreeSteps.cons (fun w4 hw4 => FreeStep.is rfl (FreeStep.is rfl (FreeStep.is rfl ?_))) ?_
    · have hb4 : Below wz.heap.size wz w4 := Below.trans (Below.refl _ _).drew hw4
      refine FreeStep.op rfl rfl ?_
      (try simp only [Act.put, List.setIfInBounds_toArray, List.set_cons_zero, List.set_cons_succ])
      go_wp2_with fail
      refine (HST.out w4 (HW.out.trans (hb4.mono HW.out.size)) (HRM.out.below hb4)).mono ?_
      rintro e w5 ⟨rfl, hb5⟩
      go_wp2_with fail
      exact QStep.mk rfl hb5 rfl
    refine FreeSteps.cons (fun w4 hw4 => FreeStep.is rfl (FreeStep.is rfl ?_)) ?_
    · refine FreeStep.op rfl rfl ?_
      (try simp only [Act.put, List.setIfInBounds_toArray, List.set_cons_zero, List.set_cons_succ])
      go_wp2_with fail
      exact QStep.mk rfl (Below.refl _ _) rfl
    refine FreeSteps.cons (fun w4 hw4 => FreeStep.is rfl ?_) ?_
    · refine FreeStep.op rfl rfl ?_
      (try simp only [Act.put, List.setIfInBounds_toArray, List.set_cons_zero, List.set_cons_succ])
      go_wp2_with fail
      exact QStep.mk rfl (Below.refl _ _) rfl
    refine FreeSteps.cons (fun w4 hw4 => FreeStep.is rfl ?_) ?_
    · have hb4 : Below wz.heap.size wz w4 := Below.trans (Below.refl _ _).drew hw4
      refine FreeStep.op rfl rfl ?_
      (try simp only [Act.put, List.setIfInBounds_toArray, List.set_cons_zero, List.set_cons_succ])
      refine wpList_load_part rfl 24 _ rfl h 0 1 rfl _ _ _ (HD.out.below hb4 HD.out.lt) Try.underlying24 rfl info_Cou (by simp) _ (arr_all (n := 1) rfl) ?_
      exact QStep.mk rfl (Below.refl _ _) rfl
    refine FreeSteps.cons (fun w4 hw4 => FreeStep.is rfl (FreeStep.is rfl ?_)) ?_
    · have hb4 : Below wz.heap.size wz w4 := Below.trans (Below.refl _ _).drew hw4
      refine FreeStep.op rfl rfl ?_
      (try simp only [Act.put, List.setIfInBounds_toArray, List.set_cons_zero, List.set_cons_succ])
      go_wp2_with fail
      refine (markedCouncil_any w4 gd n cd l HN.out (HRD.out.below hb4) HCD.out hl).mono ?_
      rintro e w5 ⟨rfl, hb5⟩
      go_wp2_with fail
      exact QStep.mk rfl hb5 rfl
    refine FreeSteps.cons (fun w4 hw4 => FreeStep.is rfl (FreeStep.is rfl ?_)) ?_
    · refine FreeStep.op rfl rfl ?_
      (try simp only [Act.put, List.setIfInBounds_toArray, List.set_cons_zero, List.set_cons_succ])
      go_wp2_with fail
      exact QStep.mk rfl (Below.refl _ _) rfl
    refine FreeSteps.cons (fun w4 hw4 => FreeStep.is rfl ?_) ?_
    · refine FreeStep.op rfl rfl ?_
      (try simp only [Act.put, List.setIfInBounds_toArray, List.set_cons_zero, List.set_cons_succ])
      go_wp2_with fail
      exact QStep.mk rfl (Below.refl _ _) rfl
    refine FreeSteps.cons (fun w4 hw4 => FreeStep.is rfl ?_) ?_
    · refine FreeStep.op rfl rfl ?_
      (try simp only [Act.put, List.setIfInBounds_toArray, List.set_cons_zero, List.set_cons_succ])
      go_wp2_with fail
      exact QStep.mk rfl (Below.refl _ _) rfl
    refine FreeSteps.cons (fun w4 hw4 => FreeStep.is rfl (FreeStep.is rfl ?_)) ?_
    · have hb4 : Below wz.heap.size wz w4 := Below.trans (Below.refl _ _).drew hw4
      have c1 : w4.cell? ⟨h2, 34, none⟩ = some (.slice (some ⟨gm, 0, none⟩) m cm) := ((HY.out.below hb4 HY.out.lt).cell 34).trans Y34.out
      refine FreeStep.op rfl rfl ?_
      (try simp only [Act.put, List.setIfInBounds_toArray, List.set_cons_zero, List.set_cons_succ])
      go_wp2_with fail
      exact QStep.mk rfl (Below.refl _ _) rfl
    refine FreeSteps.cons (fun w4 hw4 => FreeStep.is rfl ?_) ?_
    · refine FreeStep.op rfl rfl ?_
      (try simp only [Act.put, List.setIfInBounds_toArray, List.set_cons_zero, List.set_cons_succ])
      go_wp2_with fail
      exact QStep.mk rfl (Below.refl _ _) rfl
    refine FreeSteps.cons (fun w4 hw4 => FreeStep.is rfl (FreeStep.is rfl ?_)) ?_
    · have hb4 : Below wz.heap.size wz w4 := Below.trans (Below.refl _ _).drew hw4
      have c1 : w4.cell? ⟨g2, 34, none⟩ = some (.slice xA m xc) := ((HX2.out.below hb4 HX2.out.lt).cell 34).trans X34.out
      refine FreeStep.op rfl rfl ?_
      (try simp only [Act.put, List.setIfInBounds_toArray, List.set_cons_zero, List.set_cons_succ])
      go_wp2_with fail
      exact QStep.mk rfl (Below.refl _ _) rfl
    refine FreeSteps.cons (fun w4 hw4 => FreeStep.is rfl (FreeStep.is rfl ?_)) ?_
    · refine FreeStep.op rfl rfl ?_
      (try simp only [Act.put, List.setIfInBounds_toArray, List.set_cons_zero, List.set_cons_succ])
      go_wp2_with fail
      exact QStep.mk rfl (Below.refl _ _) rfl
    refine FreeSteps.cons (fun w4 hw4 => FreeStep.is rfl (FreeStep.is rfl ?_)) ?_
    · refine FreeStep.op rfl rfl ?_
      (try simp only [Act.put, List.setIfInBounds_toArray, List.set_cons_zero, List.set_cons_succ])
      go_wp2_with fail
      exact QStep.mk rfl (Below.refl _ _) rfl
    refine FreeSteps.cons (fun w4 hw4 => FreeStep.is rfl (FreeStep.is rfl (FreeStep.is rfl ?_))) ?_
    · refine FreeStep.op rfl rfl ?_
      (try simp only [Act.put, List.setIfInBounds_toArray, List.set_cons_zero, List.set_cons_succ])
      go_wp2_with fail
      exact QStep.mk rfl (Below.refl _ _) rfl
    refine FreeSteps.cons (fun w4 hw4 => FreeStep.is rfl ?_) ?_
    · refine FreeStep.op rfl rfl ?_
      (try simp only [Act.put, List.setIfInBounds_toArray, List.set_cons_zero, List.set_cons_succ])
      go_wp2_with fail
      exact QStep.mk rfl (Below.refl _ _) rfl
    refine FreeSteps.cons (fun w4 hw4 => FreeStep.is rfl (FreeStep.is rfl ?_)) ?_
    · have hb4 : Below wz.heap.size wz w4 := Below.trans (Below.refl _ _).drew hw4
      have c1 : w4.cell? ⟨g2, 34, none⟩ = some (.slice xA m xc) := ((HX2.out.below hb4 HX2.out.lt).cell 34).trans X34.out
      refine FreeStep.op rfl rfl ?_
      (try simp only [Act.put, List.setIfInBounds_toArray, List.set_cons_zero, List.set_cons_succ])
      go_wp2_with fail
      exact QStep.mk rfl (Below.refl _ _) rfl
    refine FreeSteps.cons (fun w4 hw4 => FreeStep.is rfl (FreeStep.is rfl ?_)) ?_
    · refine FreeStep.op rfl rfl ?_
      (try simp only [Act.put, List.setIfInBounds_toArray, List.set_cons_zero, List.set_cons_succ])
      go_wp2_with fail
      exact QStep.mk rfl (Below.refl _ _) rfl
    refine FreeSteps.cons (fun w4 hw4 => FreeStep.is rfl (FreeStep.is rfl (FreeStep.is rfl ?_))) ?_
    · refine FreeStep.op rfl rfl ?_
      (try simp only [Act.put, List.setIfInBounds_toArray, List.set_cons_zero, List.set_cons_succ])
      go_wp2_with fail
      exact QStep.mk rfl (Below.refl _ _) rfl
    refine FreeSteps.cons (fun w4 hw4 => FreeStep.is rfl (FreeStep.is rfl ?_)) ?_
    · have hb4 : Below wz.heap.size wz w4 := Below.trans (Below.refl _ _).drew hw4
      refine FreeStep.op rfl rfl ?_
      (try simp only [Act.put, List.setIfInBounds_toArray, List.set_cons_zero, List.set_cons_succ])
      refine wpList_load_at rfl 50 _ rfl ⟨gm, m * 18, none⟩ 18 rfl markMk (fun j u hu => by rw [addr_add]; exact cell_keep (HMM.out j u hu) hb4) _ Try.underlying50 rfl info_Mk markMk_len ?_
      exact QStep.mk rfl (Below.refl _ _) rfl
    refine FreeSteps.cons (fun w4 hw4 => FreeStep.is rfl ?_) ?_
    · refine FreeStep.op rfl rfl ?_
      (try simp only [Act.put, List.setIfInBounds_toArray, List.set_cons_zero, List.set_cons_succ])
      refine wpList_buildv rfl 50 [(0, .const (.int .i64 (-71)))] rfl [(0, .int .i64 (-71))] rfl markMk.toArray built_markMk ?_
      exact QStep.mk rfl (Below.refl _ _) rfl
    refine FreeSteps.cons (fun w4 hw4 => FreeStep.is rfl (FreeStep.is rfl (FreeStep.is rfl ?_))) ?_
    · refine FreeStep.op rfl rfl ?_
      (try simp only [Act.put, List.setIfInBounds_toArray, List.set_cons_zero, List.set_cons_succ])
      refine wpList_eql_flat rfl 50 _ _ _ rfl markMk markMk rfl rfl 3 _ flat_Mk (by omega) agg_Mk guard_Mk fits_markMk fits_markMk true (by simp) ?_
      exact QStep.mk rfl (Below.refl _ _) rfl
    refine FreeSteps.cons (fun w4 hw4 => FreeStep.is rfl (FreeStep.is rfl ?_)) ?_
    · refine FreeStep.op rfl rfl ?_
      (try simp only [Act.put, List.setIfInBounds_toArray, List.set_cons_zero, List.set_cons_succ])
      go_wp2_with fail
      exact QStep.mk rfl (Below.refl _ _) rfl
    exact FreeSteps.nil
  case fin =>
    intro w4 hw4
    refine FreeEnd.is rfl ?_
    refine FreeEnd.is rfl ?_
    refine FreeEnd.is rfl ?_
    refine FreeEnd.is rfl ?_
    refine FreeEnd.is rfl ?_
    refine FreeEnd.is rfl ?_
    refine FreeEnd.is rfl ?_
    refine FreeEnd.is rfl ?_
    refine FreeEnd.is rfl ?_
    refine FreeEnd.is rfl ?_
    refine FreeEnd.is rfl ?_
    refine FreeEnd.is rfl ?_
    refine FreeEnd.is rfl ?_
    refine FreeEnd.is rfl ?_
    refine FreeEnd.is rfl ?_
    refine FreeEnd.is rfl ?_
    refine FreeEnd.is rfl ?_
    refine FreeEnd.is rfl ?_
    refine FreeEnd.is rfl ?_
    refine FreeEnd.is rfl ?_
    refine FreeEnd.is rfl ?_
    refine FreeEnd.is rfl ?_
    refine FreeEnd.is rfl ?_
    refine FreeEnd.is rfl ?_
    refine FreeEnd.is rfl ?_
    refine FreeEnd.is rfl ?_
    refine FreeEnd.is rfl ?_
    refine FreeEnd.is rfl ?_
    refine FreeEnd.is rfl ?_
    refine FreeEnd.is rfl ?_
    refine FreeEnd.is rfl ?_
    refine FreeEnd.is rfl ?_
    refine FreeEnd.is rfl ?_
    refine FreeEnd.is rfl ?_
    refine FreeEnd.is rfl ?_
    refine FreeEnd.is rfl ?_
    refine FreeEnd.is rfl ?_
    refine FreeEnd.is rfl ?_
    refine FreeEnd.is rfl ?_
    refine FreeEnd.is rfl ?_
    refine FreeEnd.nil ?_
    (try simp only [Act.put, List.setIfInBounds_toArray, List.set_cons_zero, List.set_cons_succ])
    simp only [List.length_cons, List.length_nil, Nat.reduceAdd, List.drop_succ_cons, List.drop_zero]
    have HWZ := Lib.hid (HW.out.trans ((Below.trans (Below.refl _ _).drew hw4 : Below wz.heap.size wz w4).mono HW.out.size))
    clear hw4
    go_wp2
    go_ret
    exact ⟨rfl, HWZ.out⟩
end Go.Proofs.Ytnfffipkgaobhaa
namespace Go.Proofs.Ytnfffipkgaobhaa
set_option linter.unusedSimpArgs false
set_option linter.unusedVariables false
open Go.ChangeShapes Go.WideShapes Go.ChangeAt Go.RowKit
set_option maxRecDepth 100000

section
variable {H : Type} {enc : TypeId × Value → H} {W : World} {sp : Nat → Bool} {held : Bool}
theorem cells_i64t : Try.prog.cellsOf 2 = 1 := by kernel_rfl
theorem cells_addrM : Try.prog.cellsOf 32 = 1 := by kernel_rfl
theorem cells_MemS : Try.prog.cellsOf 53 = 3 := by kernel_rfl
theorem cells_sMem : Try.prog.cellsOf 22 = 1 := by kernel_rfl
theorem bytes_MemS : Try.prog.bytesOf 53 = 24 := by kernel_rfl
theorem bytes_MkM : Try.prog.bytesOf 50 = 32 := by kernel_rfl
theorem fields_MemS : ∃ fs, Try.prog.underlying 53 = some (.struct fs) ∧ fs.size = 3 ∧ (fs[0]?).map (fun f => (f.type, f.offset)) = some (32, 0) ∧ (fs[1]?).map (fun f => (f.type, f.offset)) = some (25, 1) ∧ (fs[2]?).map (fun f => (f.type, f.offset)) = some (2, 2) := ⟨_, rfl, by kernel_rfl, by kernel_rfl, by kernel_rfl, by kernel_rfl⟩
theorem fields_CouS : ∃ fs, Try.prog.underlying 24 = some (.struct fs) ∧ fs.size = 1 ∧ (fs[0]?).map (fun f => (f.type, f.offset)) = some (22, 0) := ⟨_, rfl, by kernel_rfl, by kernel_rfl⟩
theorem trod_MemS {fuel : Nat} {cs : List Value} {x : DataW H × List MemPlace} (h : DataW.trod enc Try.prog W 0 sp held fuel 53 cs = some x) : ∃ m : Mem, m.ok ∧ cs = m.cl := by
  obtain ⟨fs, hu, hs, f0, f1, f2⟩ := fields_MemS
  obtain ⟨_, _, _, _, hlen, _, _⟩ := DataW.trod_struct hu h
  rw [cells_MemS] at hlen
  obtain ⟨_, y0, h0⟩ := trod_field hu h 0 (by omega) f0
  obtain ⟨_, y1, h1⟩ := trod_field hu h 1 (by omega) f1
  obtain ⟨_, y2, h2⟩ := trod_field hu h 2 (by omega) f2
  obtain ⟨n0, e0, w0⟩ := trod_u64 Try.underlying32 cells_addrM h0
  obtain ⟨n1, e1, w1⟩ := trod_u64 Try.underlying25 cells_64 h1
  obtain ⟨n2, e2, w2⟩ := trod_i64 Try.underlying2 cells_i64t h2
  refine ⟨⟨n0, n1, n2⟩, ⟨w0, w1, w2⟩, ?_⟩
  match cs, hlen, e0, e1, e2 with
  | [a, b, c], _, e0, e1, e2 =>
    simp at e0 e1 e2
    simp [Mem.cl, e0, e1, e2]
theorem open_cou {base : Nat} {v : Value} {d : DataW H} {p : List MemPlace} (hv : Value.okWide Try.prog W .any base 24 v) (ht : DataW.Trod enc Try.prog W 0 sp held 24 v d p) (hw : Light 24 d) :
    ∃ A n c, ∃ ms : List Mem, v = .agg #[.slice A n c] ∧ n = ms.length ∧ (∀ m ∈ ms, m.ok) ∧ Rd W A (ms.flatMap Mem.cl) ∧ n * 24 ≤ 140737488351232 := by
  simp only [Value.okWide, Try.underlying24] at hv
  obtain ⟨cs, rfl, hsz, _⟩ := hv
  have e2 : Try.prog.cellsOf 24 = 1 := by kernel_rfl
  rw [e2] at hsz
  obtain ⟨fuel, hf⟩ := ht
  obtain ⟨fs, hu, hs, f0⟩ := fields_CouS
  obtain ⟨_, y, hy, wy⟩ := trod_part hu hf hw 0 (by omega) f0
  rw [cells_sMem] at hy
  obtain ⟨v0, rfl⟩ : ∃ v0, cs = #[v0] := by
    rcases cs with ⟨l⟩
    match l, hsz with
    | [a], _ => exact ⟨a, rfl⟩
  have e5 : ((Value.agg #[v0]).cells.toList.drop 0).take 1 = [v0] := rfl
  rw [e5] at hy
  obtain ⟨A, n, c, ms, rfl, hn, ho, hr, hb⟩ := trod_list (cl := Mem.cl) (ok := Mem.ok) Try.underlying22 cells_MemS bytes_MemS (fun m h => m.cl_len) (by omega) (fun h => trod_MemS h) hy wy
  exact ⟨A, n, c, ms, rfl, hn, ho, hr, hb⟩
theorem open_crtL {base : Nat} {v : Value} {d : DataW H} {p : List MemPlace} (hv : Value.okWide Try.prog W .any base 30 v) (ht : DataW.Trod enc Try.prog W 0 sp held 30 v d p) (hw : Light 30 d) :
    ∃ x : Crt, x.ok ∧ x.at W ∧ v = .agg x.cl.toArray ∧ x.n * 32 ≤ 140737488351232 := by
  obtain ⟨x, hx, hat, rfl⟩ := open_crt hv ht
  refine ⟨x, hx, hat, rfl, ?_⟩
  obtain ⟨fuel, hf⟩ := ht
  obtain ⟨fs, hu, hs, f3⟩ := fields_Crt
  obtain ⟨_, y, hy, wy⟩ := trod_part hu hf hw 3 (by omega) f3
  rw [cells_sl] at hy
  have e5 : ((Value.agg x.cl.toArray).cells.toList.drop 34).take 1 = [.slice x.A x.n x.c] := by
    show (x.cl.drop 34).take 1 = _
    have : (bv x.id).length = 32 := by rw [bv_length, hx.id]
    rw [show x.cl = ([Value.int .u64 x.height, Value.int .i64 x.round] ++ bv x.id) ++ [.slice x.A x.n x.c] from rfl, List.drop_left' (by simp [this])]
    rfl
  rw [e5] at hy
  obtain ⟨A, n, c, ms, he, hn, ho, hr, hb⟩ := trod_list (cl := Mk.cl) (ok := Mk.ok) Try.underlying28 cells_Mk bytes_MkM (fun m h => m.cl_len h) (by omega) (fun h => open_mk h) hy wy
  injection he with _ e2 _
  rw [e2]; exact hb
end
end Go.Proofs.Ytnfffipkgaobhaa

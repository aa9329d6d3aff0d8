/-
  The reference's header: its form. Conditions: each number fits its kind; the chain's name is short.
  The reference's BlockId. Conditions: each number fits its kind; the table reads as it was laid.
  The reference's PlainCert: the same error. Conditions: each number fits its kind; the marks lie in the world.
-/
import Derived.Test.YtnfffipkgaobhaaM15
namespace Go.Proofs.Ytnfffipkgaobhaa
set_option linter.unusedSimpArgs false
set_option linter.unusedVariables false
open Go.RowKit
set_option maxRecDepth 100000

def hdrA (x : Hdr) : List UInt8 := textB x.chain ++ varB x.height.toNat ++ varB x.time.toNat ++ hpart x.hh 0 ++ hpart x.hh 1 ++ hpart x.hh 2 ++ hpart x.hh 3
def hdrB' (x : Hdr) : List UInt8 := hdrA x ++ hpart x.hh 4 ++ hpart x.hh 5 ++ hpart x.hh 6 ++ varB x.prop.toNat
theorem hh_bytes (l : List UInt8) (h : l.length = 224) : l = hpart l 0 ++ (hpart l 1 ++ (hpart l 2 ++ (hpart l 3 ++ (hpart l 4 ++ (hpart l 5 ++ hpart l 6))))) := by
  have e7 : l.take (32 * 7) = l := List.take_of_length_le (by omega)
  rw [← e7]
  have hp : ∀ k, k < 7 → hpart (l.take (32 * 7)) k = hpart l k := fun k _ => by rw [e7]
  rw [hp 0 (by omega), hp 1 (by omega), hp 2 (by omega), hp 3 (by omega), hp 4 (by omega), hp 5 (by omega), hp 6 (by omega)]
  rw [← hpart_take l 6, ← hpart_take l 5, ← hpart_take l 4, ← hpart_take l 3, ← hpart_take l 2, ← hpart_take l 1, ← hpart_take l 0]
  simp
theorem hdrB'_len {x : Hdr} (hx : x.ok) (hp : HdrB x) : (hdrB' x).length ≤ 300 := by
  obtain ⟨c1, c2, h1, h2, t1, t2, p1, p2⟩ := hp
  have l0 := varB_ten (n := x.chain.size) (by unfold two64; omega)
  have l1 := varB_int (n := x.height) (by omega) (by unfold two64; omega)
  have l2 := varB_int (n := x.time) (by omega) (by unfold two64; omega)
  have l3 := varB_int (n := x.prop) (by omega) (by unfold two64; omega)
  have lc : x.chain.data.toList.length = x.chain.size := by rw [Array.length_toList]; rfl
  have hh := fun k (hk : k < 7) => hpart_len hx.hh hk
  have := hh 0 (by omega); have := hh 1 (by omega); have := hh 2 (by omega); have := hh 3 (by omega); have := hh 4 (by omega); have := hh 5 (by omega); have := hh 6 (by omega)
  simp only [hdrB', hdrA, textB, List.length_append]
  omega
theorem hdrA_len {x : Hdr} (hx : x.ok) (hp : HdrB x) : (hdrA x).length ≤ 300 := by
  have := hdrB'_len hx hp
  simp only [hdrB', List.length_append] at this
  omega
theorem hdrB_enc (x : Hdr) (hx : x.ok) : hdrB' x = encHdr x := by
  have e := hh_bytes x.hh hx.hh
  unfold hdrB' hdrA encHdr textB
  conv => rhs; rw [e]
  simp only [List.append_assoc]
end Go.Proofs.Ytnfffipkgaobhaa
namespace Go.Proofs.Ytnfffipkgaobhaa
set_option linter.unusedSimpArgs false
set_option linter.unusedVariables false
open Go.RowKit
set_option maxRecDepth 100000
end Go.Proofs.Ytnfffipkgaobhaa
namespace Go.Proofs.Ytnfffipkgaobhaa
set_option linter.unusedSimpArgs false
set_option linter.unusedVariables false
open Go.RowKit
set_option maxRecDepth 100000

theorem mkErr_val (m : Mk) : mkErr m = if m.idx < 0 ∨ 64 ≤ m.idx ∨ moment m.time ≠ 0 then 41 else 0 := by
  have e3 : moment m.time = 0 ∨ moment m.time = 41 := by unfold moment field; split <;> simp
  unfold mkErr
  generalize moment m.time = c at e3 ⊢
  by_cases h1 : m.idx < 0 <;> by_cases h2 : 64 ≤ m.idx <;> rcases e3 with rfl | rfl <;> simp [firstErr, field, h1, h2]
theorem headC_val (x : Crt) : headC x = if height x.height ≠ 0 ∨ round x.round ≠ 0 ∨ x.id = zeros 32 then 41 else 0 := by
  have e2 : height x.height = 0 ∨ height x.height = 41 := by unfold height field; split <;> simp
  have e3 : round x.round = 0 ∨ round x.round = 41 := by unfold round field; split <;> simp
  unfold headC
  generalize height x.height = a at e2 ⊢
  generalize round x.round = c at e3 ⊢
  rcases e2 with rfl | rfl <;> rcases e3 with rfl | rfl <;> by_cases h4 : x.id = zeros 32 <;> simp [firstErr, field, h4]

set_option maxHeartbeats 4000000 in
theorem rPlainCrt_any (w : World) (x : Crt) (hx : x.ok) (hr : x.at w) :
    Calls Try.prog 22 #[.agg x.cl.toArray] w fun e w' => e = .returned (.int .i64 (plainCrt x)) ∧ Below w.heap.size w w' := by
  have HX := Lib.hid hx
  have HLN := Lib.hid (x.cl_len hx)
  have HR := Lib.hid (show Rd w x.A (x.ms.flatMap Mk.cl) from hr)
  obtain ⟨Z, hZ⟩ : ∃ Z, zeroC x = Z := ⟨_, rfl⟩
  obtain ⟨E, hE⟩ : ∃ E, headC x = E := ⟨_, rfl⟩
  obtain ⟨R, hRR⟩ : ∃ R, plainCrt x = R := ⟨_, rfl⟩
  have hRe : R = if Z = true then 0 else if E ≠ 0 then E else if 64 < (x.n : Int) then 4 else plainMks none x.ms := by rw [← hRR, plainCrt, hZ, hE]
  rw [hRR]
  have HRE := Lib.hid hRe
  have HZ := Lib.hid hZ
  have HE := Lib.hid (hE.symm.trans (headC_val x))
  clear hRR hRe hZ hE hx hr
  go_enter Try.func22, Try.ntmps22
  go_wp2_with (first
    | (with_reducible show wpList _ _ _ (Oper.mk _ (Op.box _ _) _ _ _ _ :: _) _ _; refine wpList_box_bk rfl _ _ rfl _ rfl ?_; intro g w1 hb hbl hg hs; have HK1 := Lib.hid (bk_eqT (cs' := x.cl.toArray) hb rfl); have HB1 := Lib.hid hbl; clear hb hbl hg hs)
    | (with_reducible show wpList _ _ _ (Oper.mk (some 5) (Op.load _ _) _ _ _ _ :: _) _ _; refine wpList_load_part rfl 30 _ rfl g 0 35 rfl _ _ _ HK1.out Try.underlying30 rfl info_Crt (by simp [HLN.out]) _ (cl_all35 HLN.out) ?_))
  refine (rNoCert_any w1 x HX.out).mono ?_
  rintro e w2 ⟨rfl, e2⟩
  rw [HZ.out]
  have HB2 := Lib.hid (HB1.out.trans (e2.mono HB1.out.size))
  have HK2 := Lib.hid (HK1.out.below e2 HK1.out.lt)
  have HR2 := Lib.hid (HR.out.below HB2.out)
  clear e2 HB1 HK1 HR
  cases Z
  case true =>
    go_wp2
    go_ret
    exact ⟨ret_i64 (by rw [HRE.out]; rfl), HB2.out⟩
  case false =>
    have c0 : w2.cell? ⟨g, 0, none⟩ = some (.int .u64 x.height) := HK2.out.cell 0
    have c1 : w2.cell? ⟨g, 1, none⟩ = some (.int .i64 x.round) := HK2.out.cell 1
    obtain ⟨q1, h1⟩ : ∃ q, (height x.height == 0) = q := ⟨_, rfl⟩
    obtain ⟨q2, h2⟩ : ∃ q, (round x.round == 0) = q := ⟨_, rfl⟩
    obtain ⟨q3, h3⟩ : ∃ q, (x.id == zeros 32) = q := ⟨_, rfl⟩
    by_cases hok : q1 = true ∧ q2 = true ∧ q3 = false
    · obtain ⟨rfl, rfl, rfl⟩ := hok
      have HE0 := Lib.hid (show E = 0 by
        rw [HE.out, if_neg]
        simp at h1 h2 h3
        simp [h1, h2, h3])
      clear HE
      have c2 : w2.cell? ⟨g, 34, none⟩ = some (.slice x.A x.n x.c) := (HK2.out.cell 34).trans (x.cl_34 HX.out.id)
      by_cases hn : 64 < (x.n : Int)
      · have HN := Lib.hid hn
        go_wp2_with (first | (go_at_call 37; refine (rHeight_any _ _).mono ?_; rintro e wx ⟨rfl, rfl⟩) | (go_at_call 38; refine (rRound_any _ _).mono ?_; rintro e wx ⟨rfl, rfl⟩) | (with_reducible show wpList _ _ _ (Oper.mk _ (Op.load 27 _) _ _ _ _ :: _) _ _; go_must (refine wpList_load_part rfl 27 _ rfl g 2 32 rfl _ _ _ HK2.out Try.underlying27 rfl info_hash (by simp [HLN.out]) _ (x.cl_id HX.out.id) ?_)) | (with_reducible show wpList _ _ _ (Oper.mk _ (Op.build _ _) _ _ _ _ :: _) _ _; go_must (refine wpList_buildv rfl 27 [] rfl [] rfl _ built_hash ?_)) | (with_reducible show wpList _ _ _ (Oper.mk _ (Op.binOp BinOp.eql 27 _ _ _) _ _ _ _ :: _) _ _; go_must (refine wpList_eql_flat rfl 27 _ _ _ rfl (bv x.id) (bv (zeros 32)) rfl rfl 2 _ flat_hash (by omega) agg_hash guard_hash (fits_hash HX.out.id) (fits_hash rfl) _ (bv_iff rfl) ?_)))
        go_ret
        exact ⟨ret_i64 (by rw [HRE.out, if_neg (by decide), if_neg (by rw [HE0.out]; decide), if_pos HN.out]), HB2.out⟩
      · have HR3 := HR2
        have HRP := Lib.hid (show R = plainMks none x.ms by rw [HRE.out, if_neg (by decide), if_neg (by rw [HE0.out]; decide), if_neg hn])
        obtain ⟨n, hnn⟩ : ∃ n, x.n = n := ⟨_, rfl⟩
        obtain ⟨cp, hcp⟩ : ∃ cp, x.c = cp := ⟨_, rfl⟩
        obtain ⟨A, hAA⟩ : ∃ A, x.A = A := ⟨_, rfl⟩
        obtain ⟨ms, hms⟩ : ∃ ms, x.ms = ms := ⟨_, rfl⟩
        have HNM := Lib.hid (show n = ms.length by rw [← hnn, ← hms]; exact HX.out.n)
        have HMO := Lib.hid (show ∀ m ∈ ms, m.ok by rw [← hms]; exact HX.out.ms)
        rw [hnn, hcp, hAA] at c2
        rw [hAA, hms] at HR3
        rw [hms] at HRP
        have hn64 : n ≤ 64 := by omega
        have HC34 := Lib.hid (show x.cl.toArray[34]? = some (.slice A n cp) by rw [x.cl_34 HX.out.id, hnn, hcp, hAA])
        have hn' : ¬ 64 < (n : Int) := by omega
        clear hn hnn hcp hAA hms
        clear HR2
        go_wp2_with (first | (go_at_call 37; refine (rHeight_any _ _).mono ?_; rintro e wx ⟨rfl, rfl⟩) | (go_at_call 38; refine (rRound_any _ _).mono ?_; rintro e wx ⟨rfl, rfl⟩) | (with_reducible show wpList _ _ _ (Oper.mk _ (Op.load 27 _) _ _ _ _ :: _) _ _; go_must (refine wpList_load_part rfl 27 _ rfl g 2 32 rfl _ _ _ HK2.out Try.underlying27 rfl info_hash (by simp [HLN.out]) _ (x.cl_id HX.out.id) ?_)) | (with_reducible show wpList _ _ _ (Oper.mk _ (Op.build _ _) _ _ _ _ :: _) _ _; go_must (refine wpList_buildv rfl 27 [] rfl [] rfl _ built_hash ?_)) | (with_reducible show wpList _ _ _ (Oper.mk _ (Op.binOp BinOp.eql 27 _ _ _) _ _ _ _ :: _) _ _; go_must (refine wpList_eql_flat rfl 27 _ _ _ rfl (bv x.id) (bv (zeros 32)) rfl rfl 2 _ flat_hash (by omega) agg_hash guard_hash (fits_hash HX.out.id) (fits_hash rfl) _ (bv_iff rfl) ?_)))
        go_loopw [3] (fun i wr => ∃ k : Nat, k ≤ n ∧ i = .int .i64 k ∧ plainMks (prevK ms k) (ms.drop k) = R ∧ Bk wr g x.cl.toArray 30 ∧ Rd wr A (ms.flatMap Mk.cl) ∧ Below w.heap.size w wr) (fun i _ => n - (intOf i).toNat)
        case atStart => exact ⟨0, by omega, rfl, HRP.out.symm, HK2.out, HR3.out, HB2.out⟩
        case round =>
          clear HK2 HR3 HB2 HRP c2
          obtain ⟨k, hk, rfl, hp4, hk4, hr4, hb4⟩ := hrel
          have HP4 := Lib.hid hp4
          have HK4 := Lib.hid hk4
          have HR4 := Lib.hid hr4
          have HB4 := Lib.hid hb4
          have c2 : wr.cell? ⟨g, 34, none⟩ = some (.slice A n cp) := (hk4.cell 34).trans HC34.out
          clear hp4 hk4 hr4 hb4
          by_cases hlt : k < n
          · have hkl : k < ms.length := by rw [← HNM.out]; exact hlt
            have hd := plainMks_drop hkl (prevK ms k)
            obtain ⟨m, hmk⟩ : ∃ m, ms[k] = m := ⟨_, rfl⟩
            rw [HP4.out, hmk] at hd
            have HD := Lib.hid hd
            have HMK := Lib.hid (HMO.out m (by rw [← hmk]; exact List.getElem_mem hkl))
            obtain ⟨ad, hA, hcell⟩ : ∃ ad, A = some ad ∧ ∀ i (hi : i < ms.length) j u, (ms[i]).cl[j]? = some u → wr.cell? (ad.add (18 * i + j)) = some u := by
              have h0 := mk_at ms HMO.out k hkl 0 (.int .i64 (ms[k]).idx) rfl
              obtain ⟨ad, ha, _⟩ := HR4.out _ _ h0
              refine ⟨ad, ha, fun i hi j u hu => ?_⟩
              obtain ⟨ad', ha', hc⟩ := HR4.out _ _ (mk_at ms HMO.out i hi j u hu)
              rw [ha] at ha'; injection ha' with ha'; rw [ha']; exact hc
            subst hA
            have HC := Lib.hid (show ∀ j u, m.cl[j]? = some u → wr.cell? (ad.add (18 * k + j)) = some u by intro j u hu; exact hcell k hkl j u (by rw [hmk]; exact hu))
            have HCL := Lib.hid hcell
            clear hd hcell hmk
            have hi1 : (k : Int) < n := by omega
            go_wp2_with (first
              | (with_reducible show wpList _ _ _ (Oper.mk (some 38) (Op.load 50 _) _ _ _ _ :: _) _ _; go_must (refine wpList_load_at rfl 50 _ rfl (ad.add (k * 18)) 18 rfl m.cl (fun j u hu => by rw [add_add_k]; exact HC.out j u hu) _ Try.underlying50 rfl info_Mk (m.cl_len HMK.out) ?_))
              | (with_reducible show wpList _ _ _ (Oper.mk _ (Op.alloc _) _ _ _ _ :: _) _ _; refine wpList_alloc_i rfl 50 rfl (.agg zeroMk.toArray) zero_Mk ?_))
            intro r w6 h6 hl6 hg6 hs6
            have H6 := Lib.hid h6
            have HL6 := Lib.hid hl6
            have HG6 := Lib.hid hg6
            have HSZ := Lib.hid (show m.cl.toArray.size = 18 by rw [List.size_toArray, m.cl_len HMK.out])
            clear h6 hl6 hg6 hs6
            go_wp2_with (with_reducible show wpList _ _ _ (Oper.mk _ (Op.store 50 _ _) _ _ _ _ :: _) _ _; go_must (refine wpList_store_bk rfl 50 _ _ rfl r rfl (.agg m.cl.toArray) rfl _ _ H6.out (by rw [agg_sz HSZ.out]; exact info_Mk) (by rw [agg_sz HSZ.out]; exact zeroMk_sz.symm) (mk_one m) ?_))
            intro w7 h7 hg7 hs7
            have HL7 := Lib.hid (below_grown2 HL6.out hg7 HG6.out HL6.out.size)
            have H7 := Lib.hid (show Bk w7 r m.cl.toArray 50 from h7)
            clear h7 hg7 hs7 H6 HL6
            have HBW := Lib.hid (HB4.out.trans (HL7.out.mono HB4.out.size))
            have HK8 := Lib.hid (HK4.out.below HL7.out HK4.out.lt)
            have HR8 := Lib.hid (HR4.out.below HL7.out)
            have HDR := Lib.hid (show Below w7.heap.size w7 w7.drew from (Below.refl _ _).drew)
            have c0 : w7.cell? ⟨r, 0, none⟩ = some (.int .i64 m.idx) := H7.out.cell 0
            have c1 : w7.cell? ⟨r, 1, none⟩ = some (.int .u64 m.time) := H7.out.cell 1
            obtain ⟨q4, h4⟩ : ∃ q, decide (m.idx < 0) = q := ⟨_, rfl⟩
            obtain ⟨q5, h5⟩ : ∃ q, decide (64 ≤ m.idx) = q := ⟨_, rfl⟩
            obtain ⟨q6, h6⟩ : ∃ q, (moment m.time == 0) = q := ⟨_, rfl⟩
            clear c2
            by_cases hok : q4 = false ∧ q5 = false ∧ q6 = true
            · obtain ⟨rfl, rfl, rfl⟩ := hok
              have HF := Lib.hid (show mkErr m = 0 by
                rw [mkErr_val, if_neg]
                simp at h4 h5 h6
                simp [h6]; omega)
              have HD0 := Lib.hid (show R = if (match prevK ms k with | some q => decide (m.idx ≤ q) | none => false) = true then 42 else plainMks (prevK ms (k + 1)) (ms.drop (k + 1)) by rw [HD.out, if_neg (by simp [HF.out])]; rfl)
              go_wp2_with (go_at_call 39; refine (rTime_any _ _).mono ?_; rintro e wx ⟨rfl, rfl⟩)
              clear h4 h5 h6 c0 c1
              by_cases hk0 : k = 0
              · have HD1 := Lib.hid (show R = plainMks (prevK ms (k + 1)) (ms.drop (k + 1)) by rw [HD0.out, hk0]; rfl)
                have hk1 : decide ((0 : Int) < (k : Int)) = false := decide_eq_false (by omega)
                have hk2 : decide (0 < k) = false := decide_eq_false (by omega)
                clear hk0
                go_wp2_with fail
                refine wp_region_still_tail 13 (by kernel_rfl) (by kernel_rfl) ?_
                simp only [List.take_succ_cons, List.take_zero, List.drop_succ_cons, List.drop_zero]
                refine still_quiet _ _ ?_
                repeat (first | go_big_quiet_skip | (go_big_quiet_want; go_big_quiet_op; go_big_quiet_on))
                refine wpQuiet_nil ?_
                change wpList _ _ _ _ _ w7.drew
                go_wp2
                go_round
                case rel => first
                  | exact ⟨k + 1, by omega, by go_num, HD1.out.symm, HK8.out, HR8.out, HBW.out⟩
                  | exact ⟨k + 1, by omega, by go_num, HD1.out.symm, HK8.out.below HDR.out HK8.out.lt, HR8.out.below HDR.out, HBW.out.drew⟩
                case measure => simp [intOf]; omega
              · have hk1 : decide ((0 : Int) < (k : Int)) = true := decide_eq_true (by omega)
                have hk2 : decide (0 < k) = true := decide_eq_true (by omega)
                have hkp : k - 1 < ms.length := by omega
                obtain ⟨pm, hpm⟩ : ∃ pm, ms[k - 1] = pm := ⟨_, rfl⟩
                have hpv : prevK ms k = some pm.idx := by unfold prevK; rw [if_neg hk0, List.getElem?_eq_getElem hkp, hpm]; rfl
                have c0 : w7.cell? ⟨r, 0, none⟩ = some (.int .i64 m.idx) := H7.out.cell 0
                have c2 : w7.cell? ⟨g, 34, none⟩ = some (.slice (some ad) n cp) := (HK8.out.cell 34).trans HC34.out
                have c3 : w7.cell? (ad.add ((k - 1) * 18)) = some (.int .i64 pm.idx) := by
                  obtain ⟨ad', ha', h1⟩ := HR8.out _ _ (mk_at ms HMO.out (k - 1) hkp 0 (.int .i64 (ms[k - 1]).idx) rfl)
                  injection ha' with ha'
                  rw [hpm, Nat.add_zero, Nat.mul_comm, ← ha'] at h1
                  exact h1
                have p1 : IntKind.i64.wrap ((k : Int) - 1) = (k : Int) - 1 := by rw [IntKind.wrap_i64]; omega
                have p2 : ((k : Int) - 1).toNat = k - 1 := by omega
                have p3 : (0 : Int) ≤ (k : Int) - 1 := by omega
                have p4 : (k : Int) - 1 < n := by omega
                have p5 : k - 1 < n := by omega
                obtain ⟨b, hb⟩ : ∃ b, decide (m.idx ≤ pm.idx) = b := ⟨_, rfl⟩
                have HD1 := Lib.hid (show R = if b = true then 42 else plainMks (prevK ms (k + 1)) (ms.drop (k + 1)) by rw [HD0.out, hpv]; simp only [hb])
                have HBB := Lib.hid hb
                clear hpv hpm hk0
                cases b
                · go_wp2_with fail
                  refine wp_region_still_tail 13 (by kernel_rfl) (by kernel_rfl) ?_
                  simp only [List.take_succ_cons, List.take_zero, List.drop_succ_cons, List.drop_zero]
                  refine still_quiet _ _ ?_
                  repeat (first | go_big_quiet_skip | (go_big_quiet_want; go_big_quiet_op; go_big_quiet_on))
                  refine wpQuiet_nil ?_
                  change wpList _ _ _ _ _ w7.drew
                  go_wp2
                  go_round
                  case rel => first
                    | exact ⟨k + 1, by omega, by go_num, HD1.out.symm, HK8.out, HR8.out, HBW.out⟩
                    | exact ⟨k + 1, by omega, by go_num, HD1.out.symm, HK8.out.below HDR.out HK8.out.lt, HR8.out.below HDR.out, HBW.out.drew⟩
                  case measure => simp [intOf]; omega
                · go_wp2_with fail
                  refine wp_region_still_tail 13 (by kernel_rfl) (by kernel_rfl) ?_
                  simp only [List.take_succ_cons, List.take_zero, List.drop_succ_cons, List.drop_zero]
                  refine still_quiet _ _ ?_
                  repeat (first | go_big_quiet_skip | (go_big_quiet_want; go_big_quiet_op; go_big_quiet_on))
                  refine wpQuiet_nil ?_
                  change wpList _ _ _ _ _ w7.drew
                  go_wp2
                  go_ret
                  first
                    | exact ⟨ret_i64 HD1.out.symm, HBW.out⟩
                    | exact ⟨ret_i64 HD1.out.symm, HBW.out.drew⟩
            · have HF := Lib.hid (show R = 41 by
                have e : mkErr m = 41 := by
                  rw [mkErr_val, if_pos]
                  rcases q4 with _ | _
                  · rcases q5 with _ | _
                    · rcases q6 with _ | _
                      · simp at h6; exact .inr (.inr h6)
                      · exact absurd ⟨rfl, rfl, rfl⟩ hok
                    · simp at h5; exact .inr (.inl h5)
                  · simp at h4; exact .inl h4
                rw [HD.out, e, if_pos (by decide)])
              cases q4 <;> cases q5 <;> cases q6
              all_goals first
                | exact absurd ⟨rfl, rfl, rfl⟩ hok
                | (go_wp2_with (go_at_call 39; refine (rTime_any _ _).mono ?_; rintro e wx ⟨rfl, rfl⟩)
                   go_ret
                   exact ⟨ret_i64 HF.out.symm, HBW.out⟩)
          · have hk7 : k = n := by omega
            have HK7 := Lib.hid hk7
            have HRZ := Lib.hid (show R = 0 by rw [← HP4.out, List.drop_of_length_le (by rw [HK7.out, HNM.out]; exact Nat.le_refl _)]; cases prevK ms k <;> rfl)
            clear hk7
            go_wp2
            go_ret
            exact ⟨ret_i64 HRZ.out.symm, HB4.out⟩
    · have HE0 := Lib.hid (show E = 41 by
        rw [HE.out, if_pos]
        rcases q1 with _ | _
        · simp at h1; exact .inl h1
        · rcases q2 with _ | _
          · simp at h2; exact .inr (.inl h2)
          · rcases q3 with _ | _
            · exact absurd ⟨rfl, rfl, rfl⟩ hok
            · simp at h3; exact .inr (.inr h3))
      have HRF := Lib.hid (show R = 41 by rw [HRE.out, if_neg (by decide), if_pos (by rw [HE0.out]; decide), HE0.out])
      cases q1 <;> cases q2 <;> cases q3
      all_goals first
        | exact absurd ⟨rfl, rfl, rfl⟩ hok
        | (go_wp2_with (first | (go_at_call 37; refine (rHeight_any _ _).mono ?_; rintro e wx ⟨rfl, rfl⟩) | (go_at_call 38; refine (rRound_any _ _).mono ?_; rintro e wx ⟨rfl, rfl⟩) | (with_reducible show wpList _ _ _ (Oper.mk _ (Op.load 27 _) _ _ _ _ :: _) _ _; go_must (refine wpList_load_part rfl 27 _ rfl g 2 32 rfl _ _ _ HK2.out Try.underlying27 rfl info_hash (by simp [HLN.out]) _ (x.cl_id HX.out.id) ?_)) | (with_reducible show wpList _ _ _ (Oper.mk _ (Op.build _ _) _ _ _ _ :: _) _ _; go_must (refine wpList_buildv rfl 27 [] rfl [] rfl _ built_hash ?_)) | (with_reducible show wpList _ _ _ (Oper.mk _ (Op.binOp BinOp.eql 27 _ _ _) _ _ _ _ :: _) _ _; go_must (refine wpList_eql_flat rfl 27 _ _ _ rfl (bv x.id) (bv (zeros 32)) rfl rfl 2 _ flat_hash (by omega) agg_hash guard_hash (fits_hash HX.out.id) (fits_hash rfl) _ (bv_iff rfl) ?_)))
           go_ret
           exact ⟨ret_i64 HRF.out.symm, HB2.out⟩)
end Go.Proofs.Ytnfffipkgaobhaa

/-
  The program's roots of lists of evidence. Conditions: the list lies in memory; each number fits its kind; the tables read as they were laid.
  The reference's roots of lists of transfers and of evidence. Conditions: the list lies in memory; each number fits its kind; the table reads as it was laid.
-/
import Derived.Test.YtjdegphpalhapaaDoorK34
namespace Go.Proofs.YtjdegphpalhapaaDoor
set_option linter.unusedSimpArgs false
set_option linter.unusedVariables false
open Go.RowKit
set_option maxRecDepth 100000

theorem ev_one (x : Ev) : ∀ u ∈ (Value.agg x.cl.toArray).cells.toList, u.oneCell' = true := by
  intro u hu
  simp only [Value.cells, Ev.cl, List.mem_append] at hu
  rcases hu with hu | hu
  · exact vote_one x.a u (by simpa [Value.cells] using hu)
  · exact vote_one x.b u (by simpa [Value.cells] using hu)
def zeroEvC : List Value := zeroVote ++ zeroVote
theorem zero_EvC : (Tryd.prog.info? 75).bind (·.zero) = some (.agg zeroEvC.toArray) := by kernel_rfl
theorem zeroEvC_len : zeroEvC.length = 106 := rfl

set_option maxHeartbeats 4000000 in
theorem rootedEv_any (w : World) (A : Option Addr) (n c : Nat) (xs : List Ev) (hn : xs.length = n) (hx : ∀ x ∈ xs, x.ok) (hr : Rd w A (xs.flatMap Ev.cl)) (ht : Tabs w) :
    Calls Tryd.prog 35 #[.slice A n c, .int .i64 16, .func (.func 36) #[] #[]] w (HashRes w (rootsErr 16 n (xs.map plainEv)) (rootOf (xs.map formEv))) := by
  have HN := Lib.hid hn
  have HX := Lib.hid hx
  have HR := Lib.hid hr
  have HT := Lib.hid ht
  have HLN := Lib.hid (show ∀ x ∈ xs, x.cl.length = 106 from fun x h => x.cl_len (hx x h))
  clear hn hx hr ht
  go_enter Tryd.func35, Tryd.ntmps35
  go_wp2_with (with_reducible show wpList _ _ _ (Oper.mk _ (Op.alloc _) _ _ _ _ :: _) _ _; refine wpList_alloc_i rfl 29 rfl (.agg (bv (zer 32)).toArray) zero_hash ?_)
  intro r w1 h1 hl1 hg1 hs1
  have H1 := Lib.hid (show Bk w1 r (bv (zer 32)).toArray 29 from h1)
  have HL1 := Lib.hid hl1
  have HGR := Lib.hid hg1
  clear h1 hl1 hg1 hs1
  by_cases hbig : 16 < n
  · have HBG := Lib.hid hbig
    have hb : (16 : Int) < (n : Int) := by omega
    clear hbig
    go_wp2_with (first
      | (with_reducible show wpList _ _ _ (Oper.mk _ (Op.build _ _) _ _ _ _ :: _) _ _; go_must (refine wpList_buildv rfl 29 [] rfl [] rfl _ built_hash ?_))
      | (with_reducible show wpList _ _ _ (Oper.mk _ (Op.store 29 _ _) _ _ _ _ :: _) _ _; go_must (refine wpList_store_bk rfl 29 _ _ rfl r rfl (.agg (bv (zer 32)).toArray) rfl _ _ H1.out (by rw [agg_sz (bv_sz (n := 32) rfl)]; exact info_h32) rfl (by simpa [Value.cells] using bv_one (zer 32)) ?_)))
    intro w5 h5 hg5 hs5
    have HB := Lib.hid (below_grown2 HL1.out hg5 HGR.out HL1.out.size)
    have H5 := Lib.hid (show Bk w5 r (bv (zer 32)).toArray 29 from h5)
    clear h5 hg5 hs5
    go_wp2
    exact bodyPost_ct (x := .int .i64 4) rfl rfl rfl H5.out Tryd.underlying29 rfl info_h32 (bv_sz (n := 32) rfl).symm rfl ⟨HB.out, by unfold rootsErr; rw [if_pos HBG.out]; rfl⟩
  have hb : ¬ (16 : Int) < (n : Int) := by omega
  have HBG := Lib.hid hbig
  have hn16 : n ≤ 16 := by omega
  clear hbig
  go_wp2
  go_loopw [8, 20] (fun v i wr => ∃ (k : Nat) (ps : List Piece), k ≤ n ∧ ps.length = k ∧ i = .int .i64 (k : Int) ∧ Items wr w.heap.size v ps ∧ ps.map Piece.b = (xs.take k).map formEv ∧ (∀ e ∈ (xs.take k).map plainEv, e = 0) ∧ (∀ p ∈ ps, p.b.length ≤ 1000) ∧ Bk wr r (bv (zer 32)).toArray 29 ∧ Below w.heap.size w wr) (fun _ i _ => n - (intOf i).toNat)
  case atStart => exact ⟨0, [], by omega, rfl, rfl, Items.nil _ _, rfl, fun e he => (by simp at he), fun p hp => (by cases hp), H1.out, HL1.out⟩
  case round =>
    clear H1 HL1
    obtain ⟨k, ps, hk, hps, rfl, h4, h5, h6, h7, h8, h9⟩ := hrel
    obtain ⟨Av, cv, rfl, hcv⟩ := h4.form
    have HIT := Lib.hid h4
    have HFM := Lib.hid h5
    have HPL := Lib.hid h6
    have HSM := Lib.hid h7
    have HRB := Lib.hid h8
    have HW := Lib.hid h9
    have HPS := Lib.hid hps
    have HCV := Lib.hid hcv
    rw [hps] at HIT ⊢
    clear h4 h5 h6 h7 h8 h9 hps hcv
    by_cases hlt : k < n
    · have hkl : k < xs.length := by rw [HN.out]; exact hlt
      obtain ⟨ad, hA, hcell⟩ := rd_elem (by omega) HLN.out (HR.out.below HW.out) hkl
      obtain ⟨x, hxk⟩ : ∃ x, xs[k] = x := ⟨_, rfl⟩
      have HXO := Lib.hid (show x.ok from hxk ▸ HX.out _ (List.getElem_mem hkl))
      have HTK := Lib.hid (show xs.take (k + 1) = xs.take k ++ [x] by rw [List.take_succ_eq_append_getElem hkl, hxk])
      have HEK := Lib.hid (show (xs.map plainEv)[k]? = some (plainEv x) by rw [List.getElem?_map, List.getElem?_eq_getElem hkl, hxk]; rfl)
      rw [hxk] at hcell
      have HC := Lib.hid hcell
      have HXL := Lib.hid (x.cl_len HXO.out)
      subst hA
      clear hcell hxk
      have hi : (k : Int) < n := by omega
      go_wp2_with (first
        | (with_reducible show wpList _ _ _ (Oper.mk (some 23) (Op.load _ _) _ _ _ _ :: _) _ _; go_must (refine wpList_load_at rfl 75 _ rfl (ad.add (k * 106)) 106 rfl x.cl HC.out _ Tryd.underlying75 rfl info_Ev HXL.out ?_))
        | (with_reducible show wpList _ _ _ (Oper.mk _ (Op.alloc _) _ _ _ _ :: _) _ _; refine wpList_alloc_i rfl 75 rfl (.agg zeroEvC.toArray) zero_EvC ?_))
      intro q w4 k4 l4 g4 s4
      have K4 := Lib.hid k4
      have L4 := Lib.hid l4
      have G4 := Lib.hid g4
      have ZL := Lib.hid zeroEvC_len
      clear k4 l4 g4 s4
      go_wp2_with (with_reducible show wpList _ _ _ (Oper.mk _ (Op.store 75 _ _) _ _ _ _ :: _) _ _; go_must (refine wpList_store_bk rfl 75 _ _ rfl q rfl (.agg x.cl.toArray) rfl _ _ K4.out (by rw [agg_sz (show x.cl.toArray.size = 106 by rw [List.size_toArray, HXL.out])]; exact info_Ev) (by rw [agg_sz (show x.cl.toArray.size = 106 by rw [List.size_toArray, HXL.out]), List.size_toArray, ZL.out]) (ev_one x) ?_))
      intro w5 h5 hg5 hs5
      have L5 := Lib.hid (below_grown2 L4.out hg5 G4.out L4.out.size)
      have K5 := Lib.hid (show Bk w5 q x.cl.toArray 75 from h5)
      clear h5 hg5 hs5 K4 L4 G4
      go_wp2_with (with_reducible show wpList _ _ _ (Oper.mk (some 26) (Op.load _ _) _ _ _ _ :: _) _ _; go_must (refine wpList_load_part rfl 75 _ rfl q 0 106 rfl _ _ _ K5.out Tryd.underlying75 rfl info_Ev (by simp [HXL.out]) _ (cl_allN HXL.out) ?_); go_wp2_with fail)
      refine (EncodeEvidence_any w5 x HXO.out).mono ?_
      rintro e w6 ⟨hl6, hres⟩
      have L6 := Lib.hid (L5.out.trans (hl6.mono L5.out.size))
      have HIT6 := Lib.hid (HIT.out.below L6.out)
      have HRB6 := Lib.hid (HRB.out.below L6.out HRB.out.lt)
      have HW6 := Lib.hid (HW.out.trans (L6.out.mono HW.out.size))
      have HB6 := Lib.hid (show w.heap.size ≤ w5.heap.size from Nat.le_trans HW.out.size L5.out.size)
      clear hl6 HIT HRB
      rcases hres with ⟨hz, rfl⟩ | ⟨hz, v, rfl, hv⟩
      · obtain ⟨E, hE⟩ : ∃ E, plainEv x = E := ⟨_, rfl⟩
        rw [hE] at hz HEK ⊢
        have HZ := Lib.hid hz
        have f1 : (E != 0) = true := by simp [hz]
        have HER := Lib.hid (show rootsErr 16 n (xs.map plainEv) = E by unfold rootsErr; rw [if_neg HBG.out]; exact firstErr_take_zero (by rw [← List.map_take]; exact HPL.out) HEK.out HZ.out)
        clear hz hE
        go_wp2_with (first
          | (with_reducible show wpList _ _ _ (Oper.mk _ (Op.build _ _) _ _ _ _ :: _) _ _; go_must (refine wpList_buildv rfl 29 [] rfl [] rfl _ built_hash ?_))
          | (with_reducible show wpList _ _ _ (Oper.mk _ (Op.store 29 _ _) _ _ _ _ :: _) _ _; go_must (refine wpList_store_bk rfl 29 _ _ rfl r rfl (.agg (bv (zer 32)).toArray) rfl _ _ HRB6.out (by rw [agg_sz (bv_sz (n := 32) rfl)]; exact info_h32) rfl (by simpa [Value.cells] using bv_one (zer 32)) ?_)))
        intro w8 h8 hg8 hs8
        have HB := Lib.hid (below_grown2 HW6.out hg8 HGR.out HW6.out.size)
        have H8 := Lib.hid (show Bk w8 r (bv (zer 32)).toArray 29 from h8)
        clear h8 hg8 hs8
        go_wp2
        exact bodyPost_ct (x := .int .i64 E) rfl rfl rfl H8.out Tryd.underlying29 rfl info_h32 (bv_sz (n := 32) rfl).symm rfl ⟨HB.out, by rw [HER.out]; unfold hashOr; rw [if_neg HZ.out]⟩
      · have HZ := Lib.hid hz
        have HFL := Lib.hid (formEv_len HXO.out (evB HXO.out hz).1 (evB HXO.out hz).2)
        obtain ⟨Ab, cb, rfl⟩ := hv.form
        have HV := Lib.hid (hv.mono HB6.out)
        obtain ⟨m, hm⟩ : ∃ m, (formEv x).length = m := ⟨_, rfl⟩
        have HM := Lib.hid hm
        rw [hm]
        clear hz hv hm
        have HA7 := Lib.hid (show Below w6.heap.size w6 (w6.alloc (.cells #[.slice Ab m cb] 57)) from (Below.refl _ _).alloc (Nat.le_refl _) _)
        have HR7 := Lib.hid (show Rd (w6.alloc (.cells #[.slice Ab m cb] 57)) (some ⟨w6.heap.size, 0, none⟩) [(⟨Ab, cb, formEv x⟩ : Piece).val] from Rd.of_bk (Bk.new w6 _ _) 0 _ (fun j u hu => by rw [← HM.out]; simpa [Piece.val] using hu))
        have HV7 := Lib.hid (show Bs (w6.alloc (.cells #[.slice Ab m cb] 57)) w.heap.size (⟨Ab, cb, formEv x⟩ : Piece).val (formEv x) from HV.out.below HA7.out)
        have HI7 := Lib.hid (HIT6.out.below HA7.out)
        have HRB7 := Lib.hid (HRB6.out.below HA7.out HRB6.out.lt)
        have HW7 := Lib.hid (HW6.out.trans (HA7.out.mono HW6.out.size))
        clear HIT6 HRB6 HV HW6
        go_wp2_with (with_reducible show wpList _ _ _ (Oper.mk (some 37) (Op.call _) _ _ _ _ :: _) _ _; go_must (refine wpList_item rfl _ _ rfl w.heap.size (.slice Av k cv) ps rfl HI7.out ⟨Ab, cb, formEv x⟩ HV7.out _ 1 rfl HR7.out (by rw [HPS.out]; omega) HW7.out.size ?_); intro v8 w8 it8 hg8)
        have HI8 := Lib.hid it8
        have HRB8 := Lib.hid (bk_keep HRB7.out hg8 HI7.out.own (by decide))
        have HW8 := Lib.hid (below_own HW7.out HI7.out.own (Nat.le_refl _) hg8 HW7.out.size)
        clear it8 hg8
        go_wp2
        refine ⟨⟨k + 1, ps ++ [⟨Ab, cb, formEv x⟩], by omega, by simp [HPS.out], by go_num, HI8.out, by rw [HTK.out, List.map_append, List.map_append, HFM.out]; rfl, fun e he => ?_, fun p hp => ?_, HRB8.out, HW8.out⟩, by simp [intOf]; omega⟩
        · rw [HTK.out, List.map_append] at he
          rcases List.mem_append.1 he with he | he
          · exact HPL.out e he
          · rw [List.mem_singleton.1 he]; exact HZ.out
        · rcases List.mem_append.1 hp with hp | hp
          · exact HSM.out p hp
          · rw [List.mem_singleton.1 hp]; have := HFL.out; simp only; omega
    · have hkn : k = n := by omega
      subst hkn
      have hi : ¬ (k : Int) < (k : Int) := by omega
      have HTA := Lib.hid (show xs.take k = xs from List.take_of_length_le (by rw [HN.out]; exact Nat.le_refl _))
      have HER := Lib.hid (show rootsErr 16 k (xs.map plainEv) = 0 by
        unfold rootsErr; rw [if_neg HBG.out]; exact firstErr_all_zero (fun e he => HPL.out e (by rw [HTA.out]; exact he)))
      have HRT := Lib.hid (show rootOf (ps.map Piece.b) = rootOf (xs.map formEv) by rw [HFM.out, HTA.out])
      have HZ := Lib.hid (show (bv (rootOf (xs.map formEv))).toArray.size = 32 by rw [List.size_toArray, bv_length]; exact rootH_len _ _)
      clear hlt
      go_wp2_with (first
        | (go_at_call 62; go_must (refine (Root_any wr Av k cv ps HPS.out HIT.out.rd HIT.out.ok HSM.out (by omega) (HT.out.below HW.out)).mono ?_); rw [HRT.out]; rintro e w6 ⟨hl6, rfl⟩; have HR6 := Lib.hid (HRB.out.below hl6 HRB.out.lt); have HW6 := Lib.hid (HW.out.trans (hl6.mono HW.out.size)); have HHO := Lib.hid (show hashOr 0 (rootOf (xs.map formEv)) = rootOf (xs.map formEv) by unfold hashOr; rw [if_pos rfl]); rw [HHO.out]; clear hl6)
        | (with_reducible show wpList _ _ _ (Oper.mk _ (Op.store 29 _ _) _ _ _ _ :: _) _ _; go_must (refine wpList_store_bk rfl 29 _ _ rfl r rfl (.agg (bv (rootOf (xs.map formEv))).toArray) rfl _ _ HR6.out (by rw [agg_sz HZ.out]; exact info_h32) (by rw [agg_sz HZ.out]; simp [bv, zer]) (by simpa [Value.cells] using bv_one (rootOf (xs.map formEv))) ?_)))
      intro w8 h8 hg8 hs8
      have HB := Lib.hid (below_grown2 HW6.out hg8 HGR.out HW6.out.size)
      have H8 := Lib.hid (show Bk w8 r (bv (rootOf (xs.map formEv))).toArray 29 from h8)
      clear h8 hg8 hs8
      go_wp2
      exact bodyPost_ct (x := .int .i64 0) rfl rfl rfl H8.out Tryd.underlying29 rfl info_h32 HZ.out.symm rfl ⟨HB.out, by rw [HER.out]; unfold hashOr; rw [if_pos rfl]⟩

set_option maxHeartbeats 1000000 in
theorem EvidenceRoot_any (w : World) (A : Option Addr) (n c : Nat) (xs : List Ev) (hn : xs.length = n) (hx : ∀ x ∈ xs, x.ok) (hr : Rd w A (xs.flatMap Ev.cl)) (ht : Tabs w) :
    Calls Tryd.prog 14 #[.slice A n c] w (HashRes w (rootsErr 16 n (xs.map plainEv)) (rootOf (xs.map formEv))) := by
  obtain ⟨E, hE⟩ : ∃ E, rootsErr 16 n (xs.map plainEv) = E := ⟨_, rfl⟩
  have HRT := Lib.hid (fun w1 (hb : Below w.heap.size w w1) => rootedEv_any w1 A n c xs hn hx (hr.below hb) (ht.below hb))
  obtain ⟨H, hH⟩ : ∃ H, hashOr E (rootOf (xs.map formEv)) = H := ⟨_, rfl⟩
  have HLN := Lib.hid (show H.length = 32 by rw [← hH]; exact hashOr_len (rootH_len _ _))
  have HE := Lib.hid hE
  have HH := Lib.hid hH
  clear hn hx hr ht hE hH
  go_enter Tryd.func14, Tryd.ntmps14
  go_wp2_with (with_reducible show wpList _ _ _ (Oper.mk _ (Op.alloc _) _ _ _ _ :: _) _ _; refine wpList_alloc_i rfl 29 rfl (.agg (bv (zer 32)).toArray) zero_hash ?_)
  intro r w1 h1 hl1 hg1 hs1
  have H1 := Lib.hid (show Bk w1 r (bv (zer 32)).toArray 29 from h1)
  have HL1 := Lib.hid hl1
  have HZ := Lib.hid (show (bv H).toArray.size = 32 by rw [List.size_toArray, bv_length, HLN.out])
  clear h1 hl1 hs1
  go_wp2_with (first
    | (go_at_call 35; go_must (refine (HRT.out w1 HL1.out).mono ?_); rintro e w2 ⟨hl2, rfl⟩; rw [HE.out, HH.out]; have H2 := Lib.hid (H1.out.below hl2 H1.out.lt); have HL2 := Lib.hid (HL1.out.trans (hl2.mono HL1.out.size)); clear hl2)
    | (with_reducible show wpList _ _ _ (Oper.mk _ (Op.store 29 _ _) _ _ _ _ :: _) _ _; go_must (refine wpList_store_bk rfl 29 _ _ rfl r rfl (.agg (bv H).toArray) rfl _ _ H2.out (by rw [agg_sz HZ.out]; exact info_h32) (by rw [agg_sz HZ.out]; simp [bv, zer]) (by simpa [Value.cells] using bv_one H) ?_)))
  intro w8 h8 hg8 hs8
  have HB := Lib.hid (below_grown2 HL2.out hg8 hg1 HL2.out.size)
  have H8 := Lib.hid (show Bk w8 r (bv H).toArray 29 from h8)
  clear h8 hg8 hs8
  go_wp2
  exact bodyPost_ct (x := .int .i64 E) rfl rfl rfl H8.out Tryd.underlying29 rfl info_h32 HZ.out.symm rfl ⟨HB.out, by rw [HE.out, HH.out]⟩
end Go.Proofs.YtjdegphpalhapaaDoor
namespace Go.Proofs.YtjdegphpalhapaaDoor
set_option linter.unusedSimpArgs false
set_option linter.unusedVariables false
open Go.RowKit
set_option maxRecDepth 100000

theorem cell_keep {w w' : World} {p : Addr} {u : Value} (h : w.cell? p = some u) (hb : Below w.heap.size w w') : w'.cell? p = some u := by
  have hl : p.block < w.heap.size := by
    rcases Nat.lt_or_ge p.block w.heap.size with hl | hl
    · exact hl
    · have hn : w.cell? p = none := by simp [World.cell?, Array.getElem?_eq_none hl]
      rw [hn] at h; cases h
  exact (hb.cell hl).trans h
set_option maxHeartbeats 4000000 in
theorem rTxsRoot_any (w : World) (A : Option Addr) (n c : Nat) (xs : List Tx) (hn : xs.length = n) (hx : ∀ x ∈ xs, x.ok) (hr : Rd w A (xs.flatMap Tx.cl)) (ht : RTab w) :
    Calls Tryd.prog 15 #[.slice A n c] w (HashRes w (rootsErr 1000 n (xs.map plainTx)) (rootOf (xs.map formTx))) := by
  have HN := Lib.hid hn
  have HX := Lib.hid hx
  have HR := Lib.hid hr
  have HT := Lib.hid ht
  have HLN := Lib.hid (show ∀ x ∈ xs, x.cl.length = 22 from fun x h => x.cl_len (hx x h))
  clear hn hx hr ht
  go_enter Tryd.func15, Tryd.ntmps15
  go_wp2_with (with_reducible show wpList _ _ _ (Oper.mk _ (Op.alloc _) _ _ _ _ :: _) _ _; refine wpList_alloc_i rfl 29 rfl (.agg (bv (zer 32)).toArray) zero_hash ?_)
  intro r w1 h1 hl1 hg1 hs1
  have H1 := Lib.hid (show Bk w1 r (bv (zer 32)).toArray 29 from h1)
  have HL1 := Lib.hid hl1
  have HGR := Lib.hid hg1
  clear h1 hl1 hg1 hs1
  by_cases hbig : 1000 < n
  · have HBG := Lib.hid hbig
    have hb : (1000 : Int) < (n : Int) := by omega
    clear hbig
    go_wp2_with (first
      | (with_reducible show wpList _ _ _ (Oper.mk _ (Op.build _ _) _ _ _ _ :: _) _ _; go_must (refine wpList_buildv rfl 29 [] rfl [] rfl _ built_hash ?_))
      | (with_reducible show wpList _ _ _ (Oper.mk _ (Op.store 29 _ _) _ _ _ _ :: _) _ _; go_must (refine wpList_store_bk rfl 29 _ _ rfl r rfl (.agg (bv (zer 32)).toArray) rfl _ _ H1.out (by rw [agg_sz (bv_sz (n := 32) rfl)]; exact info_h32) rfl (by simpa [Value.cells] using bv_one (zer 32)) ?_)))
    intro w5 h5 hg5 hs5
    have HB := Lib.hid (below_grown2 HL1.out hg5 HGR.out HL1.out.size)
    have H5 := Lib.hid (show Bk w5 r (bv (zer 32)).toArray 29 from h5)
    clear h5 hg5 hs5
    go_wp2
    exact bodyPost_ct (x := .int .i64 4) rfl rfl rfl H5.out Tryd.underlying29 rfl info_h32 (bv_sz (n := 32) rfl).symm rfl ⟨HB.out, by unfold rootsErr; rw [if_pos HBG.out]; rfl⟩
  have hb : ¬ (1000 : Int) < (n : Int) := by omega
  have HBG := Lib.hid hbig
  have hnlim : n ≤ 1000 := by omega
  clear hbig
  go_wp2
  go_loopw [4, 5] (fun v i wr => ∃ (k : Nat) (ps : List Piece), k ≤ n ∧ ps.length = k ∧ i = .int .i64 (k : Int) ∧ Items wr w.heap.size v ps ∧ ps.map Piece.b = (xs.take k).map formTx ∧ (∀ e ∈ (xs.take k).map plainTx, e = 0) ∧ (∀ p ∈ ps, p.b.length ≤ 1000) ∧ Bk wr r (bv (zer 32)).toArray 29 ∧ Below w.heap.size w wr) (fun _ i _ => n - (intOf i).toNat)
  case atStart => exact ⟨0, [], by omega, rfl, rfl, Items.nil _ _, rfl, fun e he => (by simp at he), fun p hp => (by cases hp), H1.out, HL1.out⟩
  case round =>
    clear H1 HL1
    obtain ⟨k, ps, hk, hps, rfl, h4, h5, h6, h7, h8, h9⟩ := hrel
    obtain ⟨Av, cv, rfl, hcv⟩ := h4.form
    have HIT := Lib.hid h4
    have HFM := Lib.hid h5
    have HPL := Lib.hid h6
    have HSM := Lib.hid h7
    have HRB := Lib.hid h8
    have HW := Lib.hid h9
    have HPS := Lib.hid hps
    have HCV := Lib.hid hcv
    rw [hps] at HIT ⊢
    clear h4 h5 h6 h7 h8 h9 hps hcv
    by_cases hlt : k < n
    · have hkl : k < xs.length := by rw [HN.out]; exact hlt
      obtain ⟨ad, hA, hcell⟩ := rd_elem (by omega) HLN.out (HR.out.below HW.out) hkl
      obtain ⟨x, hxk⟩ : ∃ x, xs[k] = x := ⟨_, rfl⟩
      have HXO := Lib.hid (show x.ok from hxk ▸ HX.out _ (List.getElem_mem hkl))
      have HTK := Lib.hid (show xs.take (k + 1) = xs.take k ++ [x] by rw [List.take_succ_eq_append_getElem hkl, hxk])
      have HEK := Lib.hid (show (xs.map plainTx)[k]? = some (plainTx x) by rw [List.getElem?_map, List.getElem?_eq_getElem hkl, hxk]; rfl)
      rw [hxk] at hcell
      have HC := Lib.hid hcell
      have HXL := Lib.hid (x.cl_len HXO.out)
      obtain ⟨E, hE⟩ : ∃ E, plainTx x = E := ⟨_, rfl⟩
      have HE := Lib.hid hE
      rw [hE] at HEK
      subst hA
      clear hcell hxk hE
      have hi : (k : Int) < n := by omega
      go_wp2_with (with_reducible show wpList _ _ _ (Oper.mk (some 22) (Op.load _ _) _ _ _ _ :: _) _ _; go_must (refine wpList_load_at rfl 27 _ rfl (ad.add (k * 22)) 22 rfl x.cl HC.out _ Tryd.underlying27 rfl info_Tx HXL.out ?_); go_wp2_with fail)
      refine (rPlainTx_any _ x).mono ?_
      rintro e w4 ⟨rfl, hl4⟩
      rw [plainTxR_eq]; rw [HE.out]
      have L4 := Lib.hid hl4
      have HIT4 := Lib.hid (HIT.out.below hl4)
      have HRB4 := Lib.hid (HRB.out.below hl4 HRB.out.lt)
      have HW4 := Lib.hid (HW.out.trans (hl4.mono HW.out.size))
      have HC4 := Lib.hid (show ∀ j u, x.cl[j]? = some u → w4.cell? ((ad.add (k * 22)).add j) = some u from fun j u hu => cell_keep (HC.out j u hu) hl4)
      clear hl4 HIT HRB HW HC
      by_cases he : E = 0
      case neg =>
        have HZ := Lib.hid he
        have f1 : (E != 0) = true := by simp [he]
        have HER := Lib.hid (show rootsErr 1000 n (xs.map plainTx) = E by unfold rootsErr; rw [if_neg HBG.out]; exact firstErr_take_zero (by rw [← List.map_take]; exact HPL.out) HEK.out HZ.out)
        clear he
        go_wp2_with (first
          | (with_reducible show wpList _ _ _ (Oper.mk _ (Op.build _ _) _ _ _ _ :: _) _ _; go_must (refine wpList_buildv rfl 29 [] rfl [] rfl _ built_hash ?_))
          | (with_reducible show wpList _ _ _ (Oper.mk _ (Op.store 29 _ _) _ _ _ _ :: _) _ _; go_must (refine wpList_store_bk rfl 29 _ _ rfl r rfl (.agg (bv (zer 32)).toArray) rfl _ _ HRB4.out (by rw [agg_sz (bv_sz (n := 32) rfl)]; exact info_h32) rfl (by simpa [Value.cells] using bv_one (zer 32)) ?_)))
        intro w8 h8 hg8 hs8
        have HB := Lib.hid (below_grown2 HW4.out hg8 HGR.out HW4.out.size)
        have H8 := Lib.hid (show Bk w8 r (bv (zer 32)).toArray 29 from h8)
        clear h8 hg8 hs8
        go_wp2
        exact bodyPost_ct (x := .int .i64 E) rfl rfl rfl H8.out Tryd.underlying29 rfl info_h32 (bv_sz (n := 32) rfl).symm rfl ⟨HB.out, by rw [HER.out]; unfold hashOr; rw [if_neg HZ.out]⟩
      case pos =>
        have hz : plainTx x = 0 := HE.out.trans he
        have HZ := Lib.hid hz
        have HTB := Lib.hid (txB hz)
        have HFL := Lib.hid (formTx_len HXO.out hz)
        have f1 : (E != 0) = false := by simp [he]
        clear hz he
        go_wp2_with (with_reducible show wpList _ _ _ (Oper.mk (some 32) (Op.load _ _) _ _ _ _ :: _) _ _; go_must (refine wpList_load_at rfl 27 _ rfl (ad.add (k * 22)) 22 rfl x.cl HC4.out _ Tryd.underlying27 rfl info_Tx HXL.out ?_); go_wp2_with fail)
        refine (rTx_any _ x true HXO.out (by have := HTB.out.k1; omega) (by have := HTB.out.k2; omega) (by rw [refTx_form]; have := HFL.out; unfold reach47; omega)).mono ?_
        rintro e w6 ⟨v, rfl, hv, hl6⟩
        rw [refTx_form] at hv; obtain ⟨Ab, cb, rfl⟩ := hv.form
        have HV := Lib.hid (hv.mono HW4.out.size)
        have HIT6 := Lib.hid (HIT4.out.below hl6)
        have HRB6 := Lib.hid (HRB4.out.below hl6 HRB4.out.lt)
        have HW6 := Lib.hid (HW4.out.trans (hl6.mono HW4.out.size))
        obtain ⟨m, hm⟩ : ∃ m, (formTx x).length = m := ⟨_, rfl⟩
        have HM := Lib.hid hm
        rw [hm]
        clear hv hm hl6 HIT4 HRB4 HW4 HC4
        have HA7 := Lib.hid (show Below w6.heap.size w6 (w6.alloc (.cells #[.slice Ab m cb] 57)) from (Below.refl _ _).alloc (Nat.le_refl _) _)
        have HR7 := Lib.hid (show Rd (w6.alloc (.cells #[.slice Ab m cb] 57)) (some ⟨w6.heap.size, 0, none⟩) [(⟨Ab, cb, formTx x⟩ : Piece).val] from Rd.of_bk (Bk.new w6 _ _) 0 _ (fun j u hu => by rw [← HM.out]; simpa [Piece.val] using hu))
        have HV7 := Lib.hid (show Bs (w6.alloc (.cells #[.slice Ab m cb] 57)) w.heap.size (⟨Ab, cb, formTx x⟩ : Piece).val (formTx x) from HV.out.below HA7.out)
        have HI7 := Lib.hid (HIT6.out.below HA7.out)
        have HRB7 := Lib.hid (HRB6.out.below HA7.out HRB6.out.lt)
        have HW7 := Lib.hid (HW6.out.trans (HA7.out.mono HW6.out.size))
        clear HIT6 HRB6 HV HW6
        go_wp2_with (with_reducible show wpList _ _ _ (Oper.mk (some 35) (Op.call _) _ _ _ _ :: _) _ _; go_must (refine wpList_item rfl _ _ rfl w.heap.size (.slice Av k cv) ps rfl HI7.out ⟨Ab, cb, formTx x⟩ HV7.out _ 1 rfl HR7.out (by rw [HPS.out]; omega) HW7.out.size ?_); intro v8 w8 it8 hg8)
        have HI8 := Lib.hid it8
        have HRB8 := Lib.hid (bk_keep HRB7.out hg8 HI7.out.own (by decide))
        have HW8 := Lib.hid (below_own HW7.out HI7.out.own (Nat.le_refl _) hg8 HW7.out.size)
        clear it8 hg8
        go_wp2
        refine ⟨⟨k + 1, ps ++ [⟨Ab, cb, formTx x⟩], by omega, by simp [HPS.out], by go_num, HI8.out, by rw [HTK.out, List.map_append, List.map_append, HFM.out]; rfl, fun e he => ?_, fun p hp => ?_, HRB8.out, HW8.out⟩, by simp [intOf]; omega⟩
        · rw [HTK.out, List.map_append] at he
          rcases List.mem_append.1 he with he | he
          · exact HPL.out e he
          · rw [List.mem_singleton.1 he]; exact HZ.out
        · rcases List.mem_append.1 hp with hp | hp
          · exact HSM.out p hp
          · rw [List.mem_singleton.1 hp]; have := HFL.out; simp only; omega
    · have hkn : k = n := by omega
      subst hkn
      have hi : ¬ (k : Int) < (k : Int) := by omega
      have HTA := Lib.hid (show xs.take k = xs from List.take_of_length_le (by rw [HN.out]; exact Nat.le_refl _))
      have HER := Lib.hid (show rootsErr 1000 k (xs.map plainTx) = 0 by
        unfold rootsErr; rw [if_neg HBG.out]; exact firstErr_all_zero (fun e he => HPL.out e (by rw [HTA.out]; exact he)))
      have HRT := Lib.hid (show rootOf (ps.map Piece.b) = rootOf (xs.map formTx) by rw [HFM.out, HTA.out])
      obtain ⟨H, hH⟩ : ∃ H, rootOf (xs.map formTx) = H := ⟨_, rfl⟩
      have HHH := Lib.hid hH
      have HZ := Lib.hid (show (bv H).toArray.size = 32 by rw [List.size_toArray, bv_length, ← hH]; exact rootH_len _ _)
      clear hlt hH
      go_wp2_with (first
        | (go_at_call 37; go_must (refine (rRoot_any wr Av k cv ps HPS.out (by rw [← HPS.out]; exact HCV.out) HIT.out.rd HIT.out.ok HSM.out (by omega) (HT.out.below HW.out HT.out.lt HW.out.size)).mono ?_); rw [HRT.out, HHH.out]; rintro e w6 ⟨hl6, rfl⟩; have HR6 := Lib.hid (HRB.out.below hl6 HRB.out.lt); have HW6 := Lib.hid (HW.out.trans (hl6.mono HW.out.size)); have HHO := Lib.hid (show hashOr 0 H = H by unfold hashOr; rw [if_pos rfl]); rw [HHO.out]; clear hl6)
        | (with_reducible show wpList _ _ _ (Oper.mk _ (Op.alloc _) _ _ _ _ :: _) _ _; refine wpList_alloc_i rfl 29 rfl (.agg (bv (zer 32)).toArray) zero_hash ?_))
      intro q w7 h7 hl7 hg7 hs7
      have H7 := Lib.hid h7
      have HL7 := Lib.hid hl7
      have HG7 := Lib.hid hg7
      clear h7 hl7 hg7 hs7
      go_wp2_with (with_reducible show wpList _ _ _ (Oper.mk _ (Op.store 29 _ _) _ _ _ _ :: _) _ _; go_must (refine wpList_store_bk rfl 29 _ _ rfl q rfl (.agg (bv H).toArray) rfl _ _ H7.out (by rw [agg_sz HZ.out]; exact info_h32) (by rw [agg_sz HZ.out]; simp [bv, zer]) (by simpa [Value.cells] using bv_one H) ?_))
      intro w8 h8 hg8 hs8
      have HS8 := Lib.hid (below_grown2 HL7.out hg8 HG7.out HL7.out.size)
      have H8 := Lib.hid (show Bk w8 q (bv H).toArray 29 from h8)
      have HR8 := Lib.hid (HR6.out.below HS8.out HR6.out.lt)
      have HL8 := Lib.hid (HW6.out.trans (HS8.out.mono HW6.out.size))
      clear h8 hg8 hs8 H7 HL7 HG7 HS8
      go_wp2_with (first
        | (with_reducible show wpList _ _ _ (Oper.mk (some 41) (Op.load 29 _) _ _ _ _ :: _) _ _; go_must (refine wpList_load_part rfl 29 _ rfl q 0 32 rfl _ _ _ H8.out Tryd.underlying29 rfl info_h32 (by rw [HZ.out]; omega) (bv H).toArray (arr_all HZ.out) ?_))
        | (with_reducible show wpList _ _ _ (Oper.mk _ (Op.store 29 _ _) _ _ _ _ :: _) _ _; go_must (refine wpList_store_bk rfl 29 _ _ rfl r rfl (.agg (bv H).toArray) rfl _ _ HR8.out (by rw [agg_sz HZ.out]; exact info_h32) (by rw [agg_sz HZ.out]; simp [bv, zer]) (by simpa [Value.cells] using bv_one H) ?_)))
      intro w10 h10 hg10 hs10
      have HB := Lib.hid (below_grown2 HL8.out hg10 HGR.out HL8.out.size)
      have H10 := Lib.hid (show Bk w10 r (bv H).toArray 29 from h10)
      clear h10 hg10 hs10
      go_wp2
      exact bodyPost_ct (x := .int .i64 0) rfl rfl rfl H10.out Tryd.underlying29 rfl info_h32 HZ.out.symm rfl ⟨HB.out, by rw [HER.out, HHH.out]; unfold hashOr; rw [if_pos rfl]⟩

set_option maxHeartbeats 4000000 in
theorem rEvidenceRoot_any (w : World) (A : Option Addr) (n c : Nat) (xs : List Ev) (hn : xs.length = n) (hx : ∀ x ∈ xs, x.ok) (hr : Rd w A (xs.flatMap Ev.cl)) (ht : RTab w) :
    Calls Tryd.prog 16 #[.slice A n c] w (HashRes w (rootsErr 16 n (xs.map plainEv)) (rootOf (xs.map formEv))) := by
  have HN := Lib.hid hn
  have HX := Lib.hid hx
  have HR := Lib.hid hr
  have HT := Lib.hid ht
  have HLN := Lib.hid (show ∀ x ∈ xs, x.cl.length = 106 from fun x h => x.cl_len (hx x h))
  clear hn hx hr ht
  go_enter Tryd.func16, Tryd.ntmps16
  go_wp2_with (with_reducible show wpList _ _ _ (Oper.mk _ (Op.alloc _) _ _ _ _ :: _) _ _; refine wpList_alloc_i rfl 29 rfl (.agg (bv (zer 32)).toArray) zero_hash ?_)
  intro r w1 h1 hl1 hg1 hs1
  have H1 := Lib.hid (show Bk w1 r (bv (zer 32)).toArray 29 from h1)
  have HL1 := Lib.hid hl1
  have HGR := Lib.hid hg1
  clear h1 hl1 hg1 hs1
  by_cases hbig : 16 < n
  · have HBG := Lib.hid hbig
    have hb : (16 : Int) < (n : Int) := by omega
    clear hbig
    go_wp2_with (first
      | (with_reducible show wpList _ _ _ (Oper.mk _ (Op.build _ _) _ _ _ _ :: _) _ _; go_must (refine wpList_buildv rfl 29 [] rfl [] rfl _ built_hash ?_))
      | (with_reducible show wpList _ _ _ (Oper.mk _ (Op.store 29 _ _) _ _ _ _ :: _) _ _; go_must (refine wpList_store_bk rfl 29 _ _ rfl r rfl (.agg (bv (zer 32)).toArray) rfl _ _ H1.out (by rw [agg_sz (bv_sz (n := 32) rfl)]; exact info_h32) rfl (by simpa [Value.cells] using bv_one (zer 32)) ?_)))
    intro w5 h5 hg5 hs5
    have HB := Lib.hid (below_grown2 HL1.out hg5 HGR.out HL1.out.size)
    have H5 := Lib.hid (show Bk w5 r (bv (zer 32)).toArray 29 from h5)
    clear h5 hg5 hs5
    go_wp2
    exact bodyPost_ct (x := .int .i64 4) rfl rfl rfl H5.out Tryd.underlying29 rfl info_h32 (bv_sz (n := 32) rfl).symm rfl ⟨HB.out, by unfold rootsErr; rw [if_pos HBG.out]; rfl⟩
  have hb : ¬ (16 : Int) < (n : Int) := by omega
  have HBG := Lib.hid hbig
  have hnlim : n ≤ 16 := by omega
  clear hbig
  go_wp2
  go_loopw [4, 5] (fun v i wr => ∃ (k : Nat) (ps : List Piece), k ≤ n ∧ ps.length = k ∧ i = .int .i64 (k : Int) ∧ Items wr w.heap.size v ps ∧ ps.map Piece.b = (xs.take k).map formEv ∧ (∀ e ∈ (xs.take k).map plainEv, e = 0) ∧ (∀ p ∈ ps, p.b.length ≤ 1000) ∧ Bk wr r (bv (zer 32)).toArray 29 ∧ Below w.heap.size w wr) (fun _ i _ => n - (intOf i).toNat)
  case atStart => exact ⟨0, [], by omega, rfl, rfl, Items.nil _ _, rfl, fun e he => (by simp at he), fun p hp => (by cases hp), H1.out, HL1.out⟩
  case round =>
    clear H1 HL1
    obtain ⟨k, ps, hk, hps, rfl, h4, h5, h6, h7, h8, h9⟩ := hrel
    obtain ⟨Av, cv, rfl, hcv⟩ := h4.form
    have HIT := Lib.hid h4
    have HFM := Lib.hid h5
    have HPL := Lib.hid h6
    have HSM := Lib.hid h7
    have HRB := Lib.hid h8
    have HW := Lib.hid h9
    have HPS := Lib.hid hps
    have HCV := Lib.hid hcv
    rw [hps] at HIT ⊢
    clear h4 h5 h6 h7 h8 h9 hps hcv
    by_cases hlt : k < n
    · have hkl : k < xs.length := by rw [HN.out]; exact hlt
      obtain ⟨ad, hA, hcell⟩ := rd_elem (by omega) HLN.out (HR.out.below HW.out) hkl
      obtain ⟨x, hxk⟩ : ∃ x, xs[k] = x := ⟨_, rfl⟩
      have HXO := Lib.hid (show x.ok from hxk ▸ HX.out _ (List.getElem_mem hkl))
      have HTK := Lib.hid (show xs.take (k + 1) = xs.take k ++ [x] by rw [List.take_succ_eq_append_getElem hkl, hxk])
      have HEK := Lib.hid (show (xs.map plainEv)[k]? = some (plainEv x) by rw [List.getElem?_map, List.getElem?_eq_getElem hkl, hxk]; rfl)
      rw [hxk] at hcell
      have HC := Lib.hid hcell
      have HXL := Lib.hid (x.cl_len HXO.out)
      obtain ⟨E, hE⟩ : ∃ E, plainEv x = E := ⟨_, rfl⟩
      have HE := Lib.hid hE
      rw [hE] at HEK
      subst hA
      clear hcell hxk hE
      have hi : (k : Int) < n := by omega
      go_wp2_with (with_reducible show wpList _ _ _ (Oper.mk (some 22) (Op.load _ _) _ _ _ _ :: _) _ _; go_must (refine wpList_load_at rfl 75 _ rfl (ad.add (k * 106)) 106 rfl x.cl HC.out _ Tryd.underlying75 rfl info_Ev HXL.out ?_); go_wp2_with fail)
      refine (rPlainEv_any _ x HXO.out).mono ?_
      rintro e w4 ⟨rfl, hl4⟩
      rw [HE.out]
      have L4 := Lib.hid hl4
      have HIT4 := Lib.hid (HIT.out.below hl4)
      have HRB4 := Lib.hid (HRB.out.below hl4 HRB.out.lt)
      have HW4 := Lib.hid (HW.out.trans (hl4.mono HW.out.size))
      have HC4 := Lib.hid (show ∀ j u, x.cl[j]? = some u → w4.cell? ((ad.add (k * 106)).add j) = some u from fun j u hu => cell_keep (HC.out j u hu) hl4)
      clear hl4 HIT HRB HW HC
      by_cases he : E = 0
      case neg =>
        have HZ := Lib.hid he
        have f1 : (E != 0) = true := by simp [he]
        have HER := Lib.hid (show rootsErr 16 n (xs.map plainEv) = E by unfold rootsErr; rw [if_neg HBG.out]; exact firstErr_take_zero (by rw [← List.map_take]; exact HPL.out) HEK.out HZ.out)
        clear he
        go_wp2_with (first
          | (with_reducible show wpList _ _ _ (Oper.mk _ (Op.build _ _) _ _ _ _ :: _) _ _; go_must (refine wpList_buildv rfl 29 [] rfl [] rfl _ built_hash ?_))
          | (with_reducible show wpList _ _ _ (Oper.mk _ (Op.store 29 _ _) _ _ _ _ :: _) _ _; go_must (refine wpList_store_bk rfl 29 _ _ rfl r rfl (.agg (bv (zer 32)).toArray) rfl _ _ HRB4.out (by rw [agg_sz (bv_sz (n := 32) rfl)]; exact info_h32) rfl (by simpa [Value.cells] using bv_one (zer 32)) ?_)))
        intro w8 h8 hg8 hs8
        have HB := Lib.hid (below_grown2 HW4.out hg8 HGR.out HW4.out.size)
        have H8 := Lib.hid (show Bk w8 r (bv (zer 32)).toArray 29 from h8)
        clear h8 hg8 hs8
        go_wp2
        exact bodyPost_ct (x := .int .i64 E) rfl rfl rfl H8.out Tryd.underlying29 rfl info_h32 (bv_sz (n := 32) rfl).symm rfl ⟨HB.out, by rw [HER.out]; unfold hashOr; rw [if_neg HZ.out]⟩
      case pos =>
        have hz : plainEv x = 0 := HE.out.trans he
        have HZ := Lib.hid hz
        have HTB := Lib.hid (evB HXO.out hz)
        have HFL := Lib.hid (formEv_len HXO.out (evB HXO.out hz).1 (evB HXO.out hz).2)
        have f1 : (E != 0) = false := by simp [he]
        clear hz he
        go_wp2_with (with_reducible show wpList _ _ _ (Oper.mk (some 32) (Op.load _ _) _ _ _ _ :: _) _ _; go_must (refine wpList_load_at rfl 75 _ rfl (ad.add (k * 106)) 106 rfl x.cl HC4.out _ Tryd.underlying75 rfl info_Ev HXL.out ?_); go_wp2_with fail)
        refine (rEvidence_any _ x HXO.out HTB.out.1 HTB.out.2).mono ?_
        rintro e w6 ⟨v, rfl, hv, hl6⟩
        obtain ⟨Ab, cb, rfl⟩ := hv.form
        have HV := Lib.hid (hv.mono HW4.out.size)
        have HIT6 := Lib.hid (HIT4.out.below hl6)
        have HRB6 := Lib.hid (HRB4.out.below hl6 HRB4.out.lt)
        have HW6 := Lib.hid (HW4.out.trans (hl6.mono HW4.out.size))
        obtain ⟨m, hm⟩ : ∃ m, (formEv x).length = m := ⟨_, rfl⟩
        have HM := Lib.hid hm
        rw [hm]
        clear hv hm hl6 HIT4 HRB4 HW4 HC4
        have HA7 := Lib.hid (show Below w6.heap.size w6 (w6.alloc (.cells #[.slice Ab m cb] 57)) from (Below.refl _ _).alloc (Nat.le_refl _) _)
        have HR7 := Lib.hid (show Rd (w6.alloc (.cells #[.slice Ab m cb] 57)) (some ⟨w6.heap.size, 0, none⟩) [(⟨Ab, cb, formEv x⟩ : Piece).val] from Rd.of_bk (Bk.new w6 _ _) 0 _ (fun j u hu => by rw [← HM.out]; simpa [Piece.val] using hu))
        have HV7 := Lib.hid (show Bs (w6.alloc (.cells #[.slice Ab m cb] 57)) w.heap.size (⟨Ab, cb, formEv x⟩ : Piece).val (formEv x) from HV.out.below HA7.out)
        have HI7 := Lib.hid (HIT6.out.below HA7.out)
        have HRB7 := Lib.hid (HRB6.out.below HA7.out HRB6.out.lt)
        have HW7 := Lib.hid (HW6.out.trans (HA7.out.mono HW6.out.size))
        clear HIT6 HRB6 HV HW6
        go_wp2_with (with_reducible show wpList _ _ _ (Oper.mk (some 35) (Op.call _) _ _ _ _ :: _) _ _; go_must (refine wpList_item rfl _ _ rfl w.heap.size (.slice Av k cv) ps rfl HI7.out ⟨Ab, cb, formEv x⟩ HV7.out _ 1 rfl HR7.out (by rw [HPS.out]; omega) HW7.out.size ?_); intro v8 w8 it8 hg8)
        have HI8 := Lib.hid it8
        have HRB8 := Lib.hid (bk_keep HRB7.out hg8 HI7.out.own (by decide))
        have HW8 := Lib.hid (below_own HW7.out HI7.out.own (Nat.le_refl _) hg8 HW7.out.size)
        clear it8 hg8
        go_wp2
        refine ⟨⟨k + 1, ps ++ [⟨Ab, cb, formEv x⟩], by omega, by simp [HPS.out], by go_num, HI8.out, by rw [HTK.out, List.map_append, List.map_append, HFM.out]; rfl, fun e he => ?_, fun p hp => ?_, HRB8.out, HW8.out⟩, by simp [intOf]; omega⟩
        · rw [HTK.out, List.map_append] at he
          rcases List.mem_append.1 he with he | he
          · exact HPL.out e he
          · rw [List.mem_singleton.1 he]; exact HZ.out
        · rcases List.mem_append.1 hp with hp | hp
          · exact HSM.out p hp
          · rw [List.mem_singleton.1 hp]; have := HFL.out; simp only; omega
    · have hkn : k = n := by omega
      subst hkn
      have hi : ¬ (k : Int) < (k : Int) := by omega
      have HTA := Lib.hid (show xs.take k = xs from List.take_of_length_le (by rw [HN.out]; exact Nat.le_refl _))
      have HER := Lib.hid (show rootsErr 16 k (xs.map plainEv) = 0 by
        unfold rootsErr; rw [if_neg HBG.out]; exact firstErr_all_zero (fun e he => HPL.out e (by rw [HTA.out]; exact he)))
      have HRT := Lib.hid (show rootOf (ps.map Piece.b) = rootOf (xs.map formEv) by rw [HFM.out, HTA.out])
      obtain ⟨H, hH⟩ : ∃ H, rootOf (xs.map formEv) = H := ⟨_, rfl⟩
      have HHH := Lib.hid hH
      have HZ := Lib.hid (show (bv H).toArray.size = 32 by rw [List.size_toArray, bv_length, ← hH]; exact rootH_len _ _)
      clear hlt hH
      go_wp2_with (first
        | (go_at_call 37; go_must (refine (rRoot_any wr Av k cv ps HPS.out (by rw [← HPS.out]; exact HCV.out) HIT.out.rd HIT.out.ok HSM.out (by omega) (HT.out.below HW.out HT.out.lt HW.out.size)).mono ?_); rw [HRT.out, HHH.out]; rintro e w6 ⟨hl6, rfl⟩; have HR6 := Lib.hid (HRB.out.below hl6 HRB.out.lt); have HW6 := Lib.hid (HW.out.trans (hl6.mono HW.out.size)); have HHO := Lib.hid (show hashOr 0 H = H by unfold hashOr; rw [if_pos rfl]); rw [HHO.out]; clear hl6)
        | (with_reducible show wpList _ _ _ (Oper.mk _ (Op.alloc _) _ _ _ _ :: _) _ _; refine wpList_alloc_i rfl 29 rfl (.agg (bv (zer 32)).toArray) zero_hash ?_))
      intro q w7 h7 hl7 hg7 hs7
      have H7 := Lib.hid h7
      have HL7 := Lib.hid hl7
      have HG7 := Lib.hid hg7
      clear h7 hl7 hg7 hs7
      go_wp2_with (with_reducible show wpList _ _ _ (Oper.mk _ (Op.store 29 _ _) _ _ _ _ :: _) _ _; go_must (refine wpList_store_bk rfl 29 _ _ rfl q rfl (.agg (bv H).toArray) rfl _ _ H7.out (by rw [agg_sz HZ.out]; exact info_h32) (by rw [agg_sz HZ.out]; simp [bv, zer]) (by simpa [Value.cells] using bv_one H) ?_))
      intro w8 h8 hg8 hs8
      have HS8 := Lib.hid (below_grown2 HL7.out hg8 HG7.out HL7.out.size)
      have H8 := Lib.hid (show Bk w8 q (bv H).toArray 29 from h8)
      have HR8 := Lib.hid (HR6.out.below HS8.out HR6.out.lt)
      have HL8 := Lib.hid (HW6.out.trans (HS8.out.mono HW6.out.size))
      clear h8 hg8 hs8 H7 HL7 HG7 HS8
      go_wp2_with (first
        | (with_reducible show wpList _ _ _ (Oper.mk (some 41) (Op.load 29 _) _ _ _ _ :: _) _ _; go_must (refine wpList_load_part rfl 29 _ rfl q 0 32 rfl _ _ _ H8.out Tryd.underlying29 rfl info_h32 (by rw [HZ.out]; omega) (bv H).toArray (arr_all HZ.out) ?_))
        | (with_reducible show wpList _ _ _ (Oper.mk _ (Op.store 29 _ _) _ _ _ _ :: _) _ _; go_must (refine wpList_store_bk rfl 29 _ _ rfl r rfl (.agg (bv H).toArray) rfl _ _ HR8.out (by rw [agg_sz HZ.out]; exact info_h32) (by rw [agg_sz HZ.out]; simp [bv, zer]) (by simpa [Value.cells] using bv_one H) ?_)))
      intro w10 h10 hg10 hs10
      have HB := Lib.hid (below_grown2 HL8.out hg10 HGR.out HL8.out.size)
      have H10 := Lib.hid (show Bk w10 r (bv H).toArray 29 from h10)
      clear h10 hg10 hs10
      go_wp2
      exact bodyPost_ct (x := .int .i64 0) rfl rfl rfl H10.out Tryd.underlying29 rfl info_h32 HZ.out.symm rfl ⟨HB.out, by rw [HER.out, HHH.out]; unfold hashOr; rw [if_pos rfl]⟩
end Go.Proofs.YtjdegphpalhapaaDoor

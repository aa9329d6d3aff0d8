/-
  The reference: ReadVoteBytes. Condition: the bytes are within reach.
-/
import Derived.Test.YtocgcalaiejbiaaRr7
namespace Go.Proofs.Ytocgcalaiejbiaa
set_option linter.unusedSimpArgs false
set_option linter.unusedVariables false
open Go.RowKit
set_option maxRecDepth 100000

set_option maxHeartbeats 8000000 in
theorem rReadVoteBytes_any (w : World) (A : Option Addr) (n c : Nat) (l : List UInt8) (hr : Rd w A (bv l)) (hn : n = l.length) (hl : l.length ≤ reach47) :
    Calls Try.prog 19 #[.slice A n c] w (HeardResVote (heardVote l) w) := by
  have HOP := Lib.hid (fun (wx : World) (hx : Rd wx A (bv l)) => opened_any wx A n c l 86 hx hn hl)
  have HR := Lib.hid hr
  clear hr hn hl
  obtain ⟨P2, hP2⟩ : ∃ K, readText 16 l (readByte l 0 0).at' (readByte l 0 0).err = K := ⟨_, rfl⟩
  obtain ⟨K3, hK3⟩ : ∃ K, rdVote l P2.at' P2.err = K := ⟨_, rfl⟩
  obtain ⟨O, hO⟩ : ∃ K, opn l 86 = K := ⟨_, rfl⟩
  obtain ⟨E, hE⟩ : ∃ E, endErr l K3.at' K3.err = E := ⟨_, rfl⟩
  obtain ⟨F, hF⟩ : ∃ F, plainVote K3.val = F := ⟨_, rfl⟩
  have HK0 := Lib.hid (show heardVote l = if O.1 ≠ 0 then (O.1, [], zeroVote) else if E ≠ 0 then (E, [], zeroVote) else if O.2 = [] then (41, [], zeroVote) else if F ≠ 0 then (F, [], zeroVote) else (0, O.2, K3.val) from by
    rw [heardVote_eq]
    simp only [hO, hP2, hK3, hE, hF])
  have hok : K3.val.ok := by rw [← hK3]; exact rdVote_ok _ _ _
  have HO := Lib.hid hO
  have HP2 := Lib.hid hP2
  have HK3 := Lib.hid hK3
  have HE := Lib.hid hE
  have HF := Lib.hid hF
  have HOK := Lib.hid hok
  have HZL := Lib.hid (show zeroVote.cl.length = 53 from by rfl)
  have HKL := Lib.hid (vote_len K3.val hok.id hok.sl)
  clear hP2 hK3 hO hE hF hok
  go_enter Try.func19, Try.ntmps19
  go_wp2_with (with_reducible show wpList _ _ _ (Oper.mk (some 3) (Op.alloc _) _ _ _ _ :: _) _ _; refine wpList_alloc_bk rfl _ rfl (.agg zeroVote.cl.toArray) (by kernel_rfl) ?_)
  intro b1 w1 hk1 hb1 hg1 hs1
  have HG := Lib.hid hg1
  have HS1 := Lib.hid hs1
  have HB := Lib.hid hb1
  have Z1 := Lib.hid (bk_eq (cs' := zeroVote.cl.toArray) hk1 rfl)
  clear hk1 hb1 hg1 hs1
  go_wp2_with fail
  refine (HOP.out w1 ((HR.out).of_cells (fun ad j _ hn => HB.out.cell (cell_block hn)))).mono ?_
  rintro en w2 ⟨g, A', c', rfl, hb2, hg2, ha2, hre⟩
  rw [HO.out] at hre ⊢
  rw [HP2.out] at hre
  have B2 := Lib.hid (HB.out.trans (hb2.mono HB.out.size))
  have Z2 := Lib.hid (Z1.out.below hb2 Z1.out.lt)
  have HS := Lib.hid (RhS.mk (w0 := w) (g := g) (A := A') (b1 := b1) (by have := HG.out; omega) (by have := HG.out; have := HS1.out; omega) (fun a ha => by have := ha2 a ha; have := HG.out; have := HS1.out; omega))
  have HRE := Lib.hid hre
  clear hb2 hg2 ha2 hre HOP Z1
  by_cases ho : O.1 = 0
  · have D2 := Lib.hid (Rhd.mk (T := 31) (HRE.out ho) B2.out Z2.out)
    have HK1 := Lib.hid (HK0.out.trans (if_neg (fun h => h ho)))
    have o1 : (O.1 != 0) = false := by simp [ho]
    have o2 : (O.1 == 0) = true := by simp [ho]
    clear ho HRE HK0
    go_wp2_with fail
    refine (rrVote_no w2 g A' c' l _ _ D2.out.re).mono ?_
    rintro en w3 ⟨rfl, ch, re⟩
    rw [HK3.out] at re ⊢
    have D3 := Lib.hid (D2.out.call HS.out ch re)
    clear ch re D2
    go_wp2_with (first
      | (with_reducible show wpList _ _ _ (Oper.mk (some 8) (Op.alloc _) _ _ _ _ :: _) _ _; refine wpList_alloc_bk rfl _ rfl (.agg zeroVote.cl.toArray) (by kernel_rfl) ?_; intro b3 w8 hk8 hb8 hg8 hs8; have D8 := Lib.hid (D3.out.below hb8); have B3 := Lib.hid (show w.heap.size ≤ b3 ∧ b1 < b3 ∧ g < b3 ∧ (∀ a, A' = some a → a.block < b3) from ⟨by have := D3.out.bel.size; omega, by have := D3.out.z1.lt; omega, by have := D3.out.re.bk.lt; omega, fun a ha => by have := D3.out.re.lt a ha; omega⟩); have X8 := Lib.hid (bk_eq (cs' := zeroVote.cl.toArray) hk8 rfl); clear hk8 hb8 hg8 hs8 D3)
      | (with_reducible show wpList _ _ _ (Oper.mk _ (Op.store 31 _ _) _ _ _ _ :: _) _ _; go_must (refine wpList_st rfl 31 _ _ rfl b3 0 rfl (.agg K3.val.cl.toArray) rfl K3.val.cl rfl 53 info_vote53 HKL.out _ _ X8.out (by have := HZL.out; simp [this]) (vote_one _) ?_; intro w9 hk9 hg9 hs9; have D9 := Lib.hid (D8.out.own hg9 B3.out.2.2.1 B3.out.2.2.2 B3.out.2.1 B3.out.1); have X9 := Lib.hid (bk_eq hk9 (splice_same HKL.out HZL.out)); clear hk9 hg9 hs9 D8 X8)))
    refine (rrEnd_any w9 g A' c' l _ _ D9.out.re).mono ?_
    rintro en w10 ⟨rfl, ch, re⟩
    rw [HE.out]
    have D10 := Lib.hid (D9.out.call HS.out ch re)
    have X10 := Lib.hid (X9.out.ch ch (by have := B3.out.2.2.1; simp; omega))
    clear ch re D9 X9
    by_cases hz : E = 0
    · have e1 : (E != 0) = false := by simp [hz]
      have e2 : (E == 0) = true := by simp [hz]
      have HK2 := Lib.hid (HK1.out.trans (if_neg (fun h => h hz)))
      clear hz HK1
      by_cases hc : O.2 = []
      · have HK := Lib.hid (HK2.out.trans (if_pos hc))
        rw [hc]
        clear hc HK2
        go_wp2_with (with_reducible show wpList _ _ _ (Oper.mk _ (Op.store 31 _ _) _ _ _ _ :: _) _ _; go_must (refine wpList_st rfl 31 _ _ rfl b1 0 rfl (.agg zeroVote.cl.toArray) rfl zeroVote.cl rfl 53 info_vote53 HZL.out _ _ D10.out.z1 (by have := HZL.out; simp [this]) (vote_one _) ?_; intro wz hkz hgz hsz))
        have hkz := bk_eq hkz (splice_same HZL.out HZL.out)
        rw [HK.out]
        exact bodyPost_tct Try.results19 rfl rfl rfl hkz Try.underlying31 rfl info_vote53 (by simp [HZL.out]) rfl ⟨rfl, D10.out.bel.grown hgz D10.out.bel.size (fun k hk => by cases hk; have := HG.out; omega)⟩
      · have HK3' := Lib.hid (HK2.out.trans (if_neg hc))
        obtain ⟨bs, hbs⟩ : ∃ bs, O.2 = bs := ⟨_, rfl⟩
        rw [hbs] at hc ⊢
        have HBS := Lib.hid hbs
        have c1 : bs.isEmpty = false := by cases bs with | nil => exact absurd rfl hc | cons b r => rfl
        have c2 : (bs == []) = false := by cases bs with | nil => exact absurd rfl hc | cons b r => rfl
        clear hbs HK2
        go_wp2_with (with_reducible show wpList _ _ _ (Oper.mk _ (Op.load _ _) _ _ _ _ :: _) _ _; refine wpList_load_part rfl 31 _ rfl b3 0 53 rfl _ _ _ X10.out Try.underlying31 rfl info_vote53 (by simp [HKL.out]) _ (cl_all HKL.out) ?_)
        refine (rPlainVote_any w10 K3.val HOK.out).mono ?_
        rintro en w11 ⟨rfl, hb11⟩
        rw [plainVoteR_eq, HF.out]
        have D11 := Lib.hid (D10.out.below hb11)
        have X11 := Lib.hid (X10.out.below hb11 X10.out.lt)
        clear hb11 D10 X10
        by_cases hf : F = 0
        · have f1 : (F != 0) = false := by simp [hf]
          have f2 : (F == 0) = true := by simp [hf]
          have HK := Lib.hid (HK3'.out.trans (if_neg (fun h => h hf)))
          clear hf
          go_wp2_with fail
          refine wp_region_freeR (RBk b1 53 K3.val.cl.toArray 31) (RBk.pre b1 53 K3.val.cl.toArray 31) [(some 37, []), (some 38, []), (some 2, [(0, 37)]), (none, [(1, 38)])]
            [Is (toStr bs), Is (.agg K3.val.cl.toArray), Is (toStr bs), BkK b1 K3.val.cl.toArray 31]
            (by kernel_rfl) (by kernel_rfl) (by rfl) ?std ?stepsd ?find
          case std => exact ⟨SteadyR.is _ _, SteadyR.is _ _, SteadyR.is _ _, BkK.steady b1 53 _ _, trivial⟩
          case stepsd =>
            refine FreeStepsR.cons (fun w2 hw2 => ?_) ?_
            · (refine FreeStepR.det (RBk.pre b1 53 K3.val.cl.toArray 31) rfl rfl rfl (by rfl) rfl rfl ?_; (try simp only [Act.put, List.setIfInBounds_toArray, List.set_cons_zero, List.set_cons_succ]); go_simp; (try with_reducible rfl))
            refine FreeStepsR.cons (fun w2 hw2 => ?_) ?_
            · refine FreeStepR.load_part (RBk.pre b1 53 K3.val.cl.toArray 31) 31 _ rfl rfl rfl rfl (by rfl) rfl rfl b3 0 53 rfl _ _ _ (hw2.bk (Bk.drew X11.out) (by have := B3.out.2.1; omega)) Try.underlying31 rfl info_vote53 (by have := HKL.out; simp [this]) _ (cl_all HKL.out) ?_
              with_reducible rfl
            refine FreeStepsR.cons (fun w2 hw2 => (FreeStepR.is rfl ?_)) ?_
            · (refine FreeStepR.det (RBk.pre b1 53 K3.val.cl.toArray 31) rfl rfl rfl (by rfl) rfl rfl ?_; (try simp only [Act.put, List.setIfInBounds_toArray, List.set_cons_zero, List.set_cons_succ]); go_simp; (try with_reducible rfl))
            refine FreeStepsR.cons (fun w2 hw2 => (FreeStepR.is rfl ?_)) ?_
            · exact FreeStepR.fill 31 _ _ rfl rfl rfl rfl rfl b1 53 rfl K3.val.cl.toArray rfl 31 (hw2.sized ⟨_, D11.out.drew.z1, by have := HZL.out; simp [this]⟩) info_vote53 (by have := HKL.out; simp [this]) (vote_one _) rfl
            exact FreeStepsR.nil
          case find =>
            intro we hwe
            refine FreeEndR.is rfl ?_
            refine FreeEndR.is rfl ?_
            refine FreeEndR.is rfl ?_
            refine FreeEndR.cons rfl fun vd_3 hvd_3 => ?_
            refine FreeEndR.nil ?_
            simp only [act_put_none]
            (try simp only [Act.put, List.setIfInBounds_toArray, List.set_cons_zero, List.set_cons_succ])
            simp only [List.length_cons, List.length_nil, Nat.reduceAdd, List.drop_succ_cons, List.drop_zero]
            have BZ := Lib.hid (hwe.below D11.out.drew.bel (by have := HG.out; omega) D11.out.drew.bel.size)
            have hkz : Bk we b1 K3.val.cl.toArray 31 := hvd_3
            clear hwe hvd_3
            go_wp2
            rw [HK.out]
            exact bodyPost_tct Try.results19 rfl rfl rfl hkz Try.underlying31 rfl info_vote53 (by simp [HKL.out]) rfl ⟨by rw [HBS.out]; rfl, BZ.out⟩
        · have f1 : (F != 0) = true := by simp [hf]
          have f2 : (F == 0) = false := by simp [hf]
          have HK := Lib.hid (HK3'.out.trans (if_pos hf))
          clear hf
          go_wp2_with (with_reducible show wpList _ _ _ (Oper.mk _ (Op.store 31 _ _) _ _ _ _ :: _) _ _; go_must (refine wpList_st rfl 31 _ _ rfl b1 0 rfl (.agg zeroVote.cl.toArray) rfl zeroVote.cl rfl 53 info_vote53 HZL.out _ _ D11.out.z1 (by have := HZL.out; simp [this]) (vote_one _) ?_; intro wz hkz hgz hsz))
          have hkz := bk_eq hkz (splice_same HZL.out HZL.out)
          rw [HK.out]
          exact bodyPost_tct Try.results19 rfl rfl rfl hkz Try.underlying31 rfl info_vote53 (by simp [HZL.out]) rfl ⟨rfl, D11.out.bel.grown hgz D11.out.bel.size (fun k hk => by cases hk; have := HG.out; omega)⟩
    · have e1 : (E != 0) = true := by simp [hz]
      have e2 : (E == 0) = false := by simp [hz]
      have HK := Lib.hid (HK1.out.trans (if_pos hz))
      clear hz
      go_wp2_with (with_reducible show wpList _ _ _ (Oper.mk _ (Op.store 31 _ _) _ _ _ _ :: _) _ _; go_must (refine wpList_st rfl 31 _ _ rfl b1 0 rfl (.agg zeroVote.cl.toArray) rfl zeroVote.cl rfl 53 info_vote53 HZL.out _ _ D10.out.z1 (by have := HZL.out; simp [this]) (vote_one _) ?_; intro wz hkz hgz hsz))
      have hkz := bk_eq hkz (splice_same HZL.out HZL.out)
      rw [HK.out]
      exact bodyPost_tct Try.results19 rfl rfl rfl hkz Try.underlying31 rfl info_vote53 (by simp [HZL.out]) rfl ⟨rfl, D10.out.bel.grown hgz D10.out.bel.size (fun k hk => by cases hk; have := HG.out; omega)⟩
  · have o1 : (O.1 != 0) = true := by simp [ho]
    have o2 : (O.1 == 0) = false := by simp [ho]
    have HK := Lib.hid (HK0.out.trans (if_pos ho))
    clear ho
    go_wp2_with (with_reducible show wpList _ _ _ (Oper.mk _ (Op.store 31 _ _) _ _ _ _ :: _) _ _; go_must (refine wpList_st rfl 31 _ _ rfl b1 0 rfl (.agg zeroVote.cl.toArray) rfl zeroVote.cl rfl 53 info_vote53 HZL.out _ _ Z2.out (by have := HZL.out; simp [this]) (vote_one _) ?_; intro wz hkz hgz hsz))
    have hkz := bk_eq hkz (splice_same HZL.out HZL.out)
    rw [HK.out]
    exact bodyPost_tct Try.results19 rfl rfl rfl hkz Try.underlying31 rfl info_vote53 (by simp [HZL.out]) rfl ⟨rfl, B2.out.grown hgz B2.out.size (fun k hk => by cases hk; have := HG.out; omega)⟩

end Go.Proofs.Ytocgcalaiejbiaa

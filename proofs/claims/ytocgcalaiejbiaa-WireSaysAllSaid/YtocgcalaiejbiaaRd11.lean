/-
  getProposal without the seal. Condition: the Reader was made by NewReader (Re).
-/
import Derived.Test.YtocgcalaiejbiaaRd10
namespace Go.Proofs.Ytocgcalaiejbiaa
set_option linter.unusedSimpArgs false
set_option linter.unusedVariables false
open Go.RowKit
set_option maxRecDepth 100000

set_option maxHeartbeats 4000000 in
theorem getProposal_no (w : World) (g : Nat) (A : Option Addr) (c : Nat) (l : List UInt8) (p : Nat) (e : Int) (h : Re w g A c l p e) :
    Calls Try.prog 48 #[.pointer (some ⟨g, 0, none⟩), .bool false] w (RdRes g A c l (rdProposal l p e) (fun x => .agg x.cl.toArray) w) := by
  obtain ⟨K1, hK1⟩ : ∃ K, readVar l p e = K := ⟨_, rfl⟩
  have HK1 := Lib.hid hK1
  clear hK1
  obtain ⟨K2, hK2⟩ : ∃ K, readVar l K1.at' K1.err = K := ⟨_, rfl⟩
  have HK2 := Lib.hid hK2
  clear hK2
  obtain ⟨K3, hK3⟩ : ∃ K, readVar l K2.at' K2.err = K := ⟨_, rfl⟩
  have HK3 := Lib.hid hK3
  clear hK3
  obtain ⟨K4, hK4⟩ : ∃ K, readRaw 32 l K3.at' K3.err = K := ⟨_, rfl⟩
  have leK4 : (readRaw 32 l K3.at' K3.err).val.length ≤ 32 := readRaw_le
  rw [hK4] at leK4
  have LEK4 := Lib.hid (padded_len leK4)
  clear leK4
  have HK4 := Lib.hid hK4
  clear hK4
  obtain ⟨K5, hK5⟩ : ∃ K, readVar l K4.at' K4.err = K := ⟨_, rfl⟩
  have HK5 := Lib.hid hK5
  clear hK5
  have HF := Lib.hid (show rdProposal l p e = ⟨⟨K1.val, small K2.val, validOf K3.val, padded 32 K4.val, K5.val, zeros 16⟩, K5.at', K5.err⟩ from by
    unfold rdProposal
    simp only [HK1.out, HK2.out, HK3.out, HK4.out, HK5.out])
  have hgl : g < w.heap.size := h.bk.lt
  have HA := Lib.hid h.lt
  have HR0 := Lib.hid h
  clear h
  have bd3 := readVar_bd l K2.at' K2.err
  rw [HK3.out] at bd3
  by_cases hv : K3.val = 0
  · have hv0 : ¬ (0 : Int) < K3.val := by omega
    have HV : Hid (validOf K3.val = -1) := Lib.hid (by unfold validOf; rw [if_pos hv])
    clear hv
    go_enter Try.func48, Try.ntmps48
    go_wp2_with (with_reducible show wpList _ _ _ (Oper.mk _ (Op.alloc _) _ _ _ _ :: _) _ _; refine wpList_alloc_bk rfl _ rfl (.agg (Proposal.mk 0 0 0 (zeros 32) 0 (zeros 16)).cl.toArray) (by kernel_rfl) ?_)
    intro bx w1 hk1 hb1 hg1 hs1
    have HS := Lib.hid (Side.mk (w0 := w) (g := g) (A := A) (bx := bx) hgl HA.out (by omega))
    have B1 := Lib.hid (Bld.mk (T := 33) (HR0.out.below hb1) (Ch.of_below [g] hb1) hk1)
    clear hk1 hb1 hg1 hs1 HR0
    go_wp2_with fail
    refine (Var_rd w1 g A c l _ _ B1.out.re).mono ?_
    rintro en w2 ⟨rfl, ch, re⟩
    rw [HK1.out] at re ⊢
    have B2 := Lib.hid (B1.out.call HS.out ch re)
    clear ch re B1
    go_wp2_with (with_reducible show wpList _ _ _ (Oper.mk _ (Op.store 22 _ _) _ _ _ _ :: _) _ _; go_must (refine wpList_st rfl 22 _ _ rfl bx 0 rfl (.int .u64 K1.val) rfl [.int .u64 K1.val] rfl 1 info_u641 rfl _ _ B2.out.bk (prop_fit _ (zeros_len 32) (zeros_len 16) _ (by omega)) (one_one rfl) ?_; intro w3 hk3 hg3 hs3; have B3 := Lib.hid (B2.out.store (X' := ((Proposal.mk K1.val 0 0 (zeros 32) 0 (zeros 16))).cl.toArray) HS.out hk3 hg3 (prop_height (Proposal.mk 0 0 0 (zeros 32) 0 (zeros 16)) K1.val)); clear hk3 hg3 hs3 B2))
    refine (Var_rd w3 g A c l _ _ B3.out.re).mono ?_
    rintro en w4 ⟨rfl, ch, re⟩
    rw [HK2.out] at re ⊢
    have B4 := Lib.hid (B3.out.call HS.out ch re)
    clear ch re B3
    go_wp2_with fail
    refine (narrow_any w4 K2.val).mono ?_
    rintro en wq ⟨rfl, rfl⟩
    go_wp2_with (first
      | (with_reducible show wpList _ _ _ (Oper.mk _ (Op.store 3 _ _) _ _ _ _ :: _) _ _; (refine wpList_st rfl 3 _ _ rfl bx 1 rfl (.int .i64 (small K2.val)) rfl [.int .i64 (small K2.val)] rfl 1 info_int1 rfl _ _ B4.out.bk (prop_fit _ (zeros_len 32) (zeros_len 16) _ (by omega)) (one_one rfl) ?_; intro w5 hk5 hg5 hs5; have B5 := Lib.hid (B4.out.store (X' := ((Proposal.mk K1.val (small K2.val) 0 (zeros 32) 0 (zeros 16))).cl.toArray) HS.out hk5 hg5 (prop_round (Proposal.mk K1.val 0 0 (zeros 32) 0 (zeros 16)) (small K2.val))); clear hk5 hg5 hs5 B4))
      | (with_reducible show wpList _ _ _ (Oper.mk _ (Op.store 3 _ _) _ _ _ _ :: _) _ _; (refine wpList_st rfl 3 _ _ rfl bx 2 rfl (.int .i64 (-1)) rfl [.int .i64 (-1)] rfl 1 info_int1 rfl _ _ B5.out.bk (prop_fit _ (zeros_len 32) (zeros_len 16) _ (by omega)) (one_one rfl) ?_; intro w6 hk6 hg6 hs6; have B6 := Lib.hid (B5.out.store (X' := ((Proposal.mk K1.val (small K2.val) (-1) (zeros 32) 0 (zeros 16))).cl.toArray) HS.out hk6 hg6 (prop_valid (Proposal.mk K1.val (small K2.val) 0 (zeros 32) 0 (zeros 16)) (-1))); clear hk6 hg6 hs6 B5)))
    refine (Var_rd w6 g A c l _ _ B6.out.re).mono ?_
    rintro en w7 ⟨rfl, ch, re⟩
    rw [HK3.out] at re ⊢
    have B7 := Lib.hid (B6.out.call HS.out ch re)
    clear ch re B6
    go_wp2_with fail
    refine (Hash_rd w7 g A c l _ _ B7.out.re).mono ?_
    rintro en w8 ⟨rfl, ch, re⟩
    rw [HK4.out] at re ⊢
    have B8 := Lib.hid (B7.out.call HS.out ch re)
    clear ch re B7
    go_wp2_with (with_reducible show wpList _ _ _ (Oper.mk _ (Op.store 29 _ _) _ _ _ _ :: _) _ _; go_must (refine wpList_st rfl 29 _ _ rfl bx 3 rfl (.agg (bv (padded 32 K4.val)).toArray) rfl (bv (padded 32 K4.val)) rfl 32 info_hash32 (by rw [bv_length]; exact LEK4.out) _ _ B8.out.bk (prop_fit _ (zeros_len 32) (zeros_len 16) _ (by omega)) (bv_one _) ?_; intro w9 hk9 hg9 hs9; have B9 := Lib.hid (B8.out.store (X' := ((Proposal.mk K1.val (small K2.val) (-1) (padded 32 K4.val) 0 (zeros 16))).cl.toArray) HS.out hk9 hg9 (prop_id (Proposal.mk K1.val (small K2.val) (-1) (zeros 32) 0 (zeros 16)) (padded 32 K4.val) (zeros_len 32) LEK4.out)); clear hk9 hg9 hs9 B8))
    refine (Var_rd w9 g A c l _ _ B9.out.re).mono ?_
    rintro en w10 ⟨rfl, ch, re⟩
    rw [HK5.out] at re ⊢
    have B10 := Lib.hid (B9.out.call HS.out ch re)
    clear ch re B9
    go_wp2_with (with_reducible show wpList _ _ _ (Oper.mk _ (Op.store 23 _ _) _ _ _ _ :: _) _ _; go_must (refine wpList_st rfl 23 _ _ rfl bx 35 rfl (.int .u64 K5.val) rfl [.int .u64 K5.val] rfl 1 info_addr1 rfl _ _ B10.out.bk (prop_fit _ LEK4.out (zeros_len 16) _ (by omega)) (one_one rfl) ?_; intro w11 hk11 hg11 hs11; have B11 := Lib.hid (B10.out.store (X' := ((Proposal.mk K1.val (small K2.val) (-1) (padded 32 K4.val) K5.val (zeros 16))).cl.toArray) HS.out hk11 hg11 (prop_frm (Proposal.mk K1.val (small K2.val) (-1) (padded 32 K4.val) 0 (zeros 16)) K5.val LEK4.out)); clear hk11 hg11 hs11 B10))
    refine (signed_no w11 _).mono ?_
    rintro en w12 ⟨rfl, hb⟩
    have B12 := Lib.hid (B11.out.below hb)
    clear hb B11
    have HL := Lib.hid (prop_len (Proposal.mk K1.val (small K2.val) (-1) (padded 32 K4.val) K5.val (zeros 16)) LEK4.out (zeros_len 16))
    go_wp2_with (first
      | (with_reducible show wpList _ _ _ (Oper.mk _ (Op.store 25 _ _) _ _ _ _ :: _) _ _; go_must (refine wpList_st rfl 25 _ _ rfl bx 36 rfl (.agg (bv (zeros 16)).toArray) rfl (bv (zeros 16)) rfl 16 info_seal16 (by rw [bv_length]; exact zeros_len 16) _ _ B12.out.bk (prop_fit _ LEK4.out (zeros_len 16) _ (by omega)) (bv_one _) ?_; intro w13 hk13 hg13 hs13; have B13 := Lib.hid (B12.out.store (X' := ((Proposal.mk K1.val (small K2.val) (-1) (padded 32 K4.val) K5.val (zeros 16))).cl.toArray) HS.out hk13 hg13 (prop_seal (Proposal.mk K1.val (small K2.val) (-1) (padded 32 K4.val) K5.val (zeros 16)) (zeros 16) LEK4.out (zeros_len 16) (zeros_len 16))); clear hk13 hg13 hs13 B12))
      | (with_reducible show wpList _ _ _ (Oper.mk _ (Op.load _ _) _ _ _ _ :: _) _ _; refine wpList_load_part rfl 33 _ rfl bx 0 52 rfl _ _ _ B13.out.bk Try.underlying33 rfl info_proposal52 (by simp [HL.out]) _ (cl_all HL.out) ?_)
      | (with_reducible show wpList _ _ _ (Oper.mk _ (Op.store 33 _ _) _ _ _ _ :: _) _ _; go_must (refine wpList_st rfl 33 _ _ rfl bx 0 rfl (.agg ((Proposal.mk K1.val (small K2.val) (-1) (padded 32 K4.val) K5.val (zeros 16))).cl.toArray) rfl ((Proposal.mk K1.val (small K2.val) (-1) (padded 32 K4.val) K5.val (zeros 16))).cl rfl 52 info_proposal52 HL.out _ _ B13.out.bk (by simp [HL.out]) (proposal_one _) ?_; intro wz hkz hgz hsz; have Bz := Lib.hid (B13.out.store HS.out hkz hgz (splice_all HL.out)))))
    rw [HF.out]
    rw [HV.out]
    exact bodyPost_cell Try.results48 rfl Bz.out.bk Try.underlying33 rfl info_proposal52 (by simp [HL.out]) rfl ⟨rfl, Bz.out.ch, Bz.out.re⟩

  · have hv0 : (0 : Int) < K3.val := by omega
    have HV : Hid (validOf K3.val = (small (K3.val - 1) : Int)) := Lib.hid (by unfold validOf; rw [if_neg hv])
    have WV : IntKind.u64.wrap ((K3.val : Int) - 1) = (K3.val : Int) - 1 := by rw [IntKind.wrap_u64]; omega
    clear hv
    go_enter Try.func48, Try.ntmps48
    go_wp2_with (with_reducible show wpList _ _ _ (Oper.mk _ (Op.alloc _) _ _ _ _ :: _) _ _; refine wpList_alloc_bk rfl _ rfl (.agg (Proposal.mk 0 0 0 (zeros 32) 0 (zeros 16)).cl.toArray) (by kernel_rfl) ?_)
    intro bx w1 hk1 hb1 hg1 hs1
    have HS := Lib.hid (Side.mk (w0 := w) (g := g) (A := A) (bx := bx) hgl HA.out (by omega))
    have B1 := Lib.hid (Bld.mk (T := 33) (HR0.out.below hb1) (Ch.of_below [g] hb1) hk1)
    clear hk1 hb1 hg1 hs1 HR0
    go_wp2_with fail
    refine (Var_rd w1 g A c l _ _ B1.out.re).mono ?_
    rintro en w2 ⟨rfl, ch, re⟩
    rw [HK1.out] at re ⊢
    have B2 := Lib.hid (B1.out.call HS.out ch re)
    clear ch re B1
    go_wp2_with (with_reducible show wpList _ _ _ (Oper.mk _ (Op.store 22 _ _) _ _ _ _ :: _) _ _; go_must (refine wpList_st rfl 22 _ _ rfl bx 0 rfl (.int .u64 K1.val) rfl [.int .u64 K1.val] rfl 1 info_u641 rfl _ _ B2.out.bk (prop_fit _ (zeros_len 32) (zeros_len 16) _ (by omega)) (one_one rfl) ?_; intro w3 hk3 hg3 hs3; have B3 := Lib.hid (B2.out.store (X' := ((Proposal.mk K1.val 0 0 (zeros 32) 0 (zeros 16))).cl.toArray) HS.out hk3 hg3 (prop_height (Proposal.mk 0 0 0 (zeros 32) 0 (zeros 16)) K1.val)); clear hk3 hg3 hs3 B2))
    refine (Var_rd w3 g A c l _ _ B3.out.re).mono ?_
    rintro en w4 ⟨rfl, ch, re⟩
    rw [HK2.out] at re ⊢
    have B4 := Lib.hid (B3.out.call HS.out ch re)
    clear ch re B3
    go_wp2_with fail
    refine (narrow_any w4 K2.val).mono ?_
    rintro en wq ⟨rfl, rfl⟩
    go_wp2_with (first
      | (with_reducible show wpList _ _ _ (Oper.mk _ (Op.store 3 _ _) _ _ _ _ :: _) _ _; (refine wpList_st rfl 3 _ _ rfl bx 1 rfl (.int .i64 (small K2.val)) rfl [.int .i64 (small K2.val)] rfl 1 info_int1 rfl _ _ B4.out.bk (prop_fit _ (zeros_len 32) (zeros_len 16) _ (by omega)) (one_one rfl) ?_; intro w5 hk5 hg5 hs5; have B5 := Lib.hid (B4.out.store (X' := ((Proposal.mk K1.val (small K2.val) 0 (zeros 32) 0 (zeros 16))).cl.toArray) HS.out hk5 hg5 (prop_round (Proposal.mk K1.val 0 0 (zeros 32) 0 (zeros 16)) (small K2.val))); clear hk5 hg5 hs5 B4))
      | (with_reducible show wpList _ _ _ (Oper.mk _ (Op.store 3 _ _) _ _ _ _ :: _) _ _; (refine wpList_st rfl 3 _ _ rfl bx 2 rfl (.int .i64 (-1)) rfl [.int .i64 (-1)] rfl 1 info_int1 rfl _ _ B5.out.bk (prop_fit _ (zeros_len 32) (zeros_len 16) _ (by omega)) (one_one rfl) ?_; intro w6 hk6 hg6 hs6; have B6 := Lib.hid (B5.out.store (X' := ((Proposal.mk K1.val (small K2.val) (-1) (zeros 32) 0 (zeros 16))).cl.toArray) HS.out hk6 hg6 (prop_valid (Proposal.mk K1.val (small K2.val) 0 (zeros 32) 0 (zeros 16)) (-1))); clear hk6 hg6 hs6 B5)))
    refine (Var_rd w6 g A c l _ _ B6.out.re).mono ?_
    rintro en w7 ⟨rfl, ch, re⟩
    rw [HK3.out] at re ⊢
    have B7 := Lib.hid (B6.out.call HS.out ch re)
    clear ch re B6
    go_wp2_with fail
    refine (narrow_int w7 (K3.val - 1) _ (by omega)).mono ?_
    rintro en wq ⟨rfl, rfl⟩
    go_wp2_with (with_reducible show wpList _ _ _ (Oper.mk _ (Op.store 3 _ _) _ _ _ _ :: _) _ _; go_must (refine wpList_st rfl 3 _ _ rfl bx 2 rfl (.int .i64 (small (K3.val - 1))) rfl [.int .i64 (small (K3.val - 1))] rfl 1 info_int1 rfl _ _ B7.out.bk (prop_fit _ (zeros_len 32) (zeros_len 16) _ (by omega)) (one_one rfl) ?_; intro w8 hk8 hg8 hs8; have B8 := Lib.hid (B7.out.store (X' := ((Proposal.mk K1.val (small K2.val) (small (K3.val - 1)) (zeros 32) 0 (zeros 16))).cl.toArray) HS.out hk8 hg8 (prop_valid (Proposal.mk K1.val (small K2.val) (-1) (zeros 32) 0 (zeros 16)) (small (K3.val - 1)))); clear hk8 hg8 hs8 B7))
    refine (Hash_rd w8 g A c l _ _ B8.out.re).mono ?_
    rintro en w9 ⟨rfl, ch, re⟩
    rw [HK4.out] at re ⊢
    have B9 := Lib.hid (B8.out.call HS.out ch re)
    clear ch re B8
    go_wp2_with (with_reducible show wpList _ _ _ (Oper.mk _ (Op.store 29 _ _) _ _ _ _ :: _) _ _; go_must (refine wpList_st rfl 29 _ _ rfl bx 3 rfl (.agg (bv (padded 32 K4.val)).toArray) rfl (bv (padded 32 K4.val)) rfl 32 info_hash32 (by rw [bv_length]; exact LEK4.out) _ _ B9.out.bk (prop_fit _ (zeros_len 32) (zeros_len 16) _ (by omega)) (bv_one _) ?_; intro w10 hk10 hg10 hs10; have B10 := Lib.hid (B9.out.store (X' := ((Proposal.mk K1.val (small K2.val) (small (K3.val - 1)) (padded 32 K4.val) 0 (zeros 16))).cl.toArray) HS.out hk10 hg10 (prop_id (Proposal.mk K1.val (small K2.val) (small (K3.val - 1)) (zeros 32) 0 (zeros 16)) (padded 32 K4.val) (zeros_len 32) LEK4.out)); clear hk10 hg10 hs10 B9))
    refine (Var_rd w10 g A c l _ _ B10.out.re).mono ?_
    rintro en w11 ⟨rfl, ch, re⟩
    rw [HK5.out] at re ⊢
    have B11 := Lib.hid (B10.out.call HS.out ch re)
    clear ch re B10
    go_wp2_with (with_reducible show wpList _ _ _ (Oper.mk _ (Op.store 23 _ _) _ _ _ _ :: _) _ _; go_must (refine wpList_st rfl 23 _ _ rfl bx 35 rfl (.int .u64 K5.val) rfl [.int .u64 K5.val] rfl 1 info_addr1 rfl _ _ B11.out.bk (prop_fit _ LEK4.out (zeros_len 16) _ (by omega)) (one_one rfl) ?_; intro w12 hk12 hg12 hs12; have B12 := Lib.hid (B11.out.store (X' := ((Proposal.mk K1.val (small K2.val) (small (K3.val - 1)) (padded 32 K4.val) K5.val (zeros 16))).cl.toArray) HS.out hk12 hg12 (prop_frm (Proposal.mk K1.val (small K2.val) (small (K3.val - 1)) (padded 32 K4.val) 0 (zeros 16)) K5.val LEK4.out)); clear hk12 hg12 hs12 B11))
    refine (signed_no w12 _).mono ?_
    rintro en w13 ⟨rfl, hb⟩
    have B13 := Lib.hid (B12.out.below hb)
    clear hb B12
    have HL := Lib.hid (prop_len (Proposal.mk K1.val (small K2.val) (small (K3.val - 1)) (padded 32 K4.val) K5.val (zeros 16)) LEK4.out (zeros_len 16))
    go_wp2_with (first
      | (with_reducible show wpList _ _ _ (Oper.mk _ (Op.store 25 _ _) _ _ _ _ :: _) _ _; go_must (refine wpList_st rfl 25 _ _ rfl bx 36 rfl (.agg (bv (zeros 16)).toArray) rfl (bv (zeros 16)) rfl 16 info_seal16 (by rw [bv_length]; exact zeros_len 16) _ _ B13.out.bk (prop_fit _ LEK4.out (zeros_len 16) _ (by omega)) (bv_one _) ?_; intro w14 hk14 hg14 hs14; have B14 := Lib.hid (B13.out.store (X' := ((Proposal.mk K1.val (small K2.val) (small (K3.val - 1)) (padded 32 K4.val) K5.val (zeros 16))).cl.toArray) HS.out hk14 hg14 (prop_seal (Proposal.mk K1.val (small K2.val) (small (K3.val - 1)) (padded 32 K4.val) K5.val (zeros 16)) (zeros 16) LEK4.out (zeros_len 16) (zeros_len 16))); clear hk14 hg14 hs14 B13))
      | (with_reducible show wpList _ _ _ (Oper.mk _ (Op.load _ _) _ _ _ _ :: _) _ _; refine wpList_load_part rfl 33 _ rfl bx 0 52 rfl _ _ _ B14.out.bk Try.underlying33 rfl info_proposal52 (by simp [HL.out]) _ (cl_all HL.out) ?_)
      | (with_reducible show wpList _ _ _ (Oper.mk _ (Op.store 33 _ _) _ _ _ _ :: _) _ _; go_must (refine wpList_st rfl 33 _ _ rfl bx 0 rfl (.agg ((Proposal.mk K1.val (small K2.val) (small (K3.val - 1)) (padded 32 K4.val) K5.val (zeros 16))).cl.toArray) rfl ((Proposal.mk K1.val (small K2.val) (small (K3.val - 1)) (padded 32 K4.val) K5.val (zeros 16))).cl rfl 52 info_proposal52 HL.out _ _ B14.out.bk (by simp [HL.out]) (proposal_one _) ?_; intro wz hkz hgz hsz; have Bz := Lib.hid (B14.out.store HS.out hkz hgz (splice_all HL.out)))))
    rw [HF.out]
    rw [HV.out]
    exact bodyPost_cell Try.results48 rfl Bz.out.bk Try.underlying33 rfl info_proposal52 (by simp [HL.out]) rfl ⟨rfl, Bz.out.ch, Bz.out.re⟩


end Go.Proofs.Ytocgcalaiejbiaa

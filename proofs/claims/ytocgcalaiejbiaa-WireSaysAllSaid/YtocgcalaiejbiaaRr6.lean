/-
  The reference: readProposal without the seal. Condition: the reader was made by New (Rr).
-/
import Derived.Test.YtocgcalaiejbiaaRr4
namespace Go.Proofs.Ytocgcalaiejbiaa
set_option linter.unusedSimpArgs false
set_option linter.unusedVariables false
open Go.RowKit
set_option maxRecDepth 100000

/-- the reference's own number of a proposal's earlier round -/
def rdProposalR (l : List UInt8) (p : Nat) (e : Int) : Got Proposal :=
  let a := readVar l p e
  let b := readVar l a.at' a.err
  let c := readVar l b.at' b.err
  let d := readRaw 32 l c.at' c.err
  let f := readVar l d.at' d.err
  ⟨⟨a.val, small b.val, (small c.val : Int) - 1, padded 32 d.val, f.val, zeros 16⟩, f.at', f.err⟩
set_option maxHeartbeats 4000000 in
theorem rrProposal_no (w : World) (g : Nat) (A : Option Addr) (c : Nat) (l : List UInt8) (p : Nat) (e : Int) (h : Rr w g A c l p e) :
    Calls Try.prog 52 #[.pointer (some ⟨g, 0, none⟩), .bool false] w (RrRes g A c l (rdProposalR l p e) (fun x => .agg x.cl.toArray) w) := by
  obtain ⟨K1, hK1⟩ : ∃ K, readVar l p e = K := ⟨_, rfl⟩
  have HK1 := Lib.hid hK1
  clear hK1
  obtain ⟨K2, hK2⟩ : ∃ K, readVar l K1.at' K1.err = K := ⟨_, rfl⟩
  have HK2 := Lib.hid hK2
  clear hK2
  obtain ⟨K3, hK3⟩ : ∃ K, readVar l K2.at' K2.err = K := ⟨_, rfl⟩
  have HK3 := Lib.hid hK3
  clear hK3
  obtain ⟨K4, hK4⟩ : ∃ K, readRaw 32 l K3.at' K3.err = K := ⟨_, rfl⟩
  have leK4 : (readRaw 32 l K3.at' K3.err).val.length ≤ 32 := readRaw_le
  rw [hK4] at leK4
  have LEK4 := Lib.hid (padded_len leK4)
  clear leK4
  have HK4 := Lib.hid hK4
  clear hK4
  obtain ⟨K5, hK5⟩ : ∃ K, readVar l K4.at' K4.err = K := ⟨_, rfl⟩
  have HK5 := Lib.hid hK5
  clear hK5
  have HF := Lib.hid (show rdProposalR l p e = ⟨⟨K1.val, small K2.val, (small K3.val : Int) - 1, padded 32 K4.val, K5.val, zeros 16⟩, K5.at', K5.err⟩ from by
    unfold rdProposalR
    simp only [HK1.out, HK2.out, HK3.out, HK4.out, HK5.out])
  have hgl : g < w.heap.size := h.bk.lt
  have HA := Lib.hid h.lt
  have HR0 := Lib.hid h
  clear h
  have WV : IntKind.i64.wrap ((small K3.val : Int) - 1) = (small K3.val : Int) - 1 := by rw [IntKind.wrap_i64]; unfold small; omega
  go_enter Try.func52, Try.ntmps52
  go_wp2_with (with_reducible show wpList _ _ _ (Oper.mk (some 4) (Op.alloc _) _ _ _ _ :: _) _ _; refine wpList_alloc_bk rfl _ rfl (.agg (Proposal.mk 0 0 0 (zeros 32) 0 (zeros 16)).cl.toArray) (by kernel_rfl) ?_)
  intro br w1 hk1 hb1 hg1 hs1
  have HS := Lib.hid (RSd.mk (w0 := w) (g := g) (A := A) (br := br) hgl HA.out (by omega))
  have B1 := Lib.hid (RBd.mk (T := 33) (HR0.out.below hb1) (Ch.of_below [g] hb1) (bk_eq (cs' := ((Proposal.mk 0 0 0 (zeros 32) 0 (zeros 16))).cl.toArray) hk1 rfl))
  clear hk1 hb1 hg1 hs1 HR0
  go_wp2_with fail
  refine (rrVar_any w1 g A c l _ _ B1.out.re).mono ?_
  rintro en w2 ⟨rfl, ch, re⟩
  rw [HK1.out] at re ⊢
  have B2 := Lib.hid (B1.out.call HS.out ch re)
  clear ch re B1
  have HL1 := Lib.hid (prop_len (Proposal.mk K1.val 0 0 (zeros 32) 0 (zeros 16)) (zeros_len 32) (zeros_len 16))
  have HL0 := Lib.hid (prop_len (Proposal.mk 0 0 0 (zeros 32) 0 (zeros 16)) (zeros_len 32) (zeros_len 16))
  go_wp2_with (first
    | (with_reducible show wpList _ _ _ (Oper.mk (some 5) (Op.alloc _) _ _ _ _ :: _) _ _; refine wpList_alloc_bk rfl _ rfl (.agg (Proposal.mk 0 0 0 (zeros 32) 0 (zeros 16)).cl.toArray) (by kernel_rfl) ?_; intro bx w3 hk3 hb3 hg3 hs3; have HX := Lib.hid (show br < bx from by have := B2.out.res.lt; omega); have B3 := Lib.hid (B2.out.below hb3); have X3 := Lib.hid (bk_eq (cs' := ((Proposal.mk 0 0 0 (zeros 32) 0 (zeros 16))).cl.toArray) hk3 rfl); clear hk3 hb3 hg3 hs3 B2)
    | (with_reducible show wpList _ _ _ (Oper.mk _ (Op.store 33 _ _) _ _ _ _ :: _) _ _; go_must (refine wpList_st rfl 33 _ _ rfl bx 0 rfl (.agg ((Proposal.mk K1.val 0 0 (zeros 32) 0 (zeros 16))).cl.toArray) rfl ((Proposal.mk K1.val 0 0 (zeros 32) 0 (zeros 16))).cl rfl 52 info_proposal52 HL1.out _ _ X3.out (by have := HL0.out; simp [Value.cells, this]) (proposal_one _) ?_; intro w4 hk4 hg4 hs4; have B4 := Lib.hid (B3.out.store HS.out HX.out hg4); have X4 := Lib.hid (bk_eq hk4 (splice_same HL1.out HL0.out)); clear hk4 hg4 hs4 B3 X3)))
  refine (rrVar_any w4 g A c l _ _ B4.out.re).mono ?_
  rintro en w5 ⟨rfl, ch, re⟩
  rw [HK2.out] at re ⊢
  have B5 := Lib.hid (B4.out.call HS.out ch re)
  have X5 := Lib.hid (bx_ch X4.out HS.out HX.out ch)
  clear ch re B4 X4
  go_wp2_with fail
  refine (rSmall_any w5 K2.val).mono ?_
  rintro en wq ⟨rfl, rfl⟩
  go_wp2_with (with_reducible show wpList _ _ _ (Oper.mk _ (Op.store 3 _ _) _ _ _ _ :: _) _ _; go_must (refine wpList_st rfl 3 _ _ rfl bx 1 rfl (.int .i64 (small K2.val)) rfl [.int .i64 (small K2.val)] rfl 1 info_int1 rfl _ _ X5.out (prop_fit _ (zeros_len 32) (zeros_len 16) _ (by omega)) (one_one rfl) ?_; intro w6 hk6 hg6 hs6; have B6 := Lib.hid (B5.out.store HS.out HX.out hg6); have X6 := Lib.hid (bk_eq (cs' := ((Proposal.mk K1.val (small K2.val) 0 (zeros 32) 0 (zeros 16))).cl.toArray) hk6 (prop_round (Proposal.mk K1.val 0 0 (zeros 32) 0 (zeros 16)) (small K2.val))); clear hk6 hg6 hs6 B5 X5))
  refine (rrVar_any w6 g A c l _ _ B6.out.re).mono ?_
  rintro en w7 ⟨rfl, ch, re⟩
  rw [HK3.out] at re ⊢
  have B7 := Lib.hid (B6.out.call HS.out ch re)
  have X7 := Lib.hid (bx_ch X6.out HS.out HX.out ch)
  clear ch re B6 X6
  go_wp2_with fail
  refine (rSmall_any w7 K3.val).mono ?_
  rintro en wq ⟨rfl, rfl⟩
  go_wp2_with (with_reducible show wpList _ _ _ (Oper.mk _ (Op.store 3 _ _) _ _ _ _ :: _) _ _; go_must (refine wpList_st rfl 3 _ _ rfl bx 2 rfl (.int .i64 ((small K3.val : Int) - 1)) rfl [.int .i64 ((small K3.val : Int) - 1)] rfl 1 info_int1 rfl _ _ X7.out (prop_fit _ (zeros_len 32) (zeros_len 16) _ (by omega)) (one_one rfl) ?_; intro w8 hk8 hg8 hs8; have B8 := Lib.hid (B7.out.store HS.out HX.out hg8); have X8 := Lib.hid (bk_eq (cs' := ((Proposal.mk K1.val (small K2.val) ((small K3.val : Int) - 1) (zeros 32) 0 (zeros 16))).cl.toArray) hk8 (prop_valid (Proposal.mk K1.val (small K2.val) 0 (zeros 32) 0 (zeros 16)) ((small K3.val : Int) - 1))); clear hk8 hg8 hs8 B7 X7))
  refine (rrHash_any w8 g A c l _ _ B8.out.re).mono ?_
  rintro en w9 ⟨rfl, ch, re⟩
  rw [HK4.out] at re ⊢
  have B9 := Lib.hid (B8.out.call HS.out ch re)
  have X9 := Lib.hid (bx_ch X8.out HS.out HX.out ch)
  clear ch re B8 X8
  go_wp2_with (with_reducible show wpList _ _ _ (Oper.mk _ (Op.store 29 _ _) _ _ _ _ :: _) _ _; go_must (refine wpList_st rfl 29 _ _ rfl bx 3 rfl (.agg (bv (padded 32 K4.val)).toArray) rfl (bv (padded 32 K4.val)) rfl 32 info_hash32 (by rw [bv_length]; exact LEK4.out) _ _ X9.out (prop_fit _ (zeros_len 32) (zeros_len 16) _ (by omega)) (bv_one _) ?_; intro w10 hk10 hg10 hs10; have B10 := Lib.hid (B9.out.store HS.out HX.out hg10); have X10 := Lib.hid (bk_eq (cs' := ((Proposal.mk K1.val (small K2.val) ((small K3.val : Int) - 1) (padded 32 K4.val) 0 (zeros 16))).cl.toArray) hk10 (prop_id (Proposal.mk K1.val (small K2.val) ((small K3.val : Int) - 1) (zeros 32) 0 (zeros 16)) (padded 32 K4.val) (zeros_len 32) LEK4.out)); clear hk10 hg10 hs10 B9 X9))
  refine (rrVar_any w10 g A c l _ _ B10.out.re).mono ?_
  rintro en w11 ⟨rfl, ch, re⟩
  rw [HK5.out] at re ⊢
  have B11 := Lib.hid (B10.out.call HS.out ch re)
  have X11 := Lib.hid (bx_ch X10.out HS.out HX.out ch)
  clear ch re B10 X10
  go_wp2_with (with_reducible show wpList _ _ _ (Oper.mk _ (Op.store 23 _ _) _ _ _ _ :: _) _ _; go_must (refine wpList_st rfl 23 _ _ rfl bx 35 rfl (.int .u64 K5.val) rfl [.int .u64 K5.val] rfl 1 info_addr1 rfl _ _ X11.out (prop_fit _ LEK4.out (zeros_len 16) _ (by omega)) (one_one rfl) ?_; intro w12 hk12 hg12 hs12; have B12 := Lib.hid (B11.out.store HS.out HX.out hg12); have X12 := Lib.hid (bk_eq (cs' := ((Proposal.mk K1.val (small K2.val) ((small K3.val : Int) - 1) (padded 32 K4.val) K5.val (zeros 16))).cl.toArray) hk12 (prop_frm (Proposal.mk K1.val (small K2.val) ((small K3.val : Int) - 1) (padded 32 K4.val) 0 (zeros 16)) K5.val LEK4.out)); clear hk12 hg12 hs12 B11 X11))
  refine (rrSeal_no w12 _).mono ?_
  rintro en w13 ⟨rfl, hb⟩
  have B13 := Lib.hid (B12.out.below hb)
  have X13 := Lib.hid (X12.out.below hb X12.out.lt)
  clear hb B12 X12
  have HL := Lib.hid (prop_len (Proposal.mk K1.val (small K2.val) ((small K3.val : Int) - 1) (padded 32 K4.val) K5.val (zeros 16)) LEK4.out (zeros_len 16))
  go_wp2_with (first
    | (with_reducible show wpList _ _ _ (Oper.mk _ (Op.store 25 _ _) _ _ _ _ :: _) _ _; go_must (refine wpList_st rfl 25 _ _ rfl bx 36 rfl (.agg (bv (zeros 16)).toArray) rfl (bv (zeros 16)) rfl 16 info_seal16 (by rw [bv_length]; exact zeros_len 16) _ _ X13.out (prop_fit _ LEK4.out (zeros_len 16) _ (by omega)) (bv_one _) ?_; intro w14 hk14 hg14 hs14; have B14 := Lib.hid (B13.out.store HS.out HX.out hg14); have X14 := Lib.hid (bk_eq (cs' := ((Proposal.mk K1.val (small K2.val) ((small K3.val : Int) - 1) (padded 32 K4.val) K5.val (zeros 16))).cl.toArray) hk14 (prop_seal (Proposal.mk K1.val (small K2.val) ((small K3.val : Int) - 1) (padded 32 K4.val) K5.val (zeros 16)) (zeros 16) LEK4.out (zeros_len 16) (zeros_len 16))); clear hk14 hg14 hs14 B13 X13))
    | (with_reducible show wpList _ _ _ (Oper.mk _ (Op.load _ _) _ _ _ _ :: _) _ _; refine wpList_load_part rfl 33 _ rfl bx 0 52 rfl _ _ _ X14.out Try.underlying33 rfl info_proposal52 (by simp [HL.out]) _ (cl_all HL.out) ?_)
    | (with_reducible show wpList _ _ _ (Oper.mk _ (Op.store 33 _ _) _ _ _ _ :: _) _ _; go_must (refine wpList_st rfl 33 _ _ rfl br 0 rfl (.agg ((Proposal.mk K1.val (small K2.val) ((small K3.val : Int) - 1) (padded 32 K4.val) K5.val (zeros 16))).cl.toArray) rfl ((Proposal.mk K1.val (small K2.val) ((small K3.val : Int) - 1) (padded 32 K4.val) K5.val (zeros 16))).cl rfl 52 info_proposal52 HL.out _ _ B14.out.res (by have := HL0.out; simp [Value.cells, this]) (proposal_one _) ?_; intro wz hkz hgz hsz)))
  have hkz := bk_eq hkz (splice_same HL.out HL0.out)
  have RZ := Lib.hid (B14.out.re.own hgz (by have := HS.out.g; have := HS.out.r; omega) (fun a ha => by have := HS.out.a a ha; have := HS.out.r; omega))
  have CZ := Lib.hid (ch_own B14.out.ch hgz HS.out.r)
  rw [HF.out]
  exact bodyPost_cell Try.results52 rfl hkz Try.underlying33 rfl info_proposal52 (by simp [HL.out]) rfl ⟨rfl, CZ.out, RZ.out⟩

end Go.Proofs.Ytocgcalaiejbiaa

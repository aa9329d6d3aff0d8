/-
  The walk of WireSaid: true, and nothing that was there is changed. Condition: the bytes are within reach.
-/
import Derived.Test.YtocgcalaiejbiaaSd1
import Derived.Test.YtocgcalaiejbiaaRr8
import Derived.Test.YtocgcalaiejbiaaRr9
namespace Go.Proofs.Ytocgcalaiejbiaa
set_option linter.unusedSimpArgs false
set_option linter.unusedVariables false
open Go.RowKit
set_option maxRecDepth 100000

def voteKs : List CK := [.int .i64, .int .u64, .int .i64] ++ List.replicate 32 (.int .u8) ++ [.int .u64, .int .u64] ++ List.replicate 16 (.int .u8)
def propKs : List CK := [.int .u64, .int .i64, .int .i64] ++ List.replicate 32 (.int .u8) ++ [.int .u64] ++ List.replicate 16 (.int .u8)
theorem flat_vote : flat Try.prog 3 31 = some voteKs := by kernel_rfl
theorem flat_prop : flat Try.prog 3 33 = some propKs := by kernel_rfl
theorem agg_vote : isAggT Try.prog 31 = true := by kernel_rfl
theorem agg_prop : isAggT Try.prog 33 = true := by kernel_rfl
theorem guard_vote : Try.prog.eqGuardType Try.prog.depth 31 = false := by kernel_rfl
theorem guard_prop : Try.prog.eqGuardType Try.prog.depth 33 = false := by kernel_rfl
theorem fits_vote (x : Vote) (h : x.id.length = 32) (hs : x.sl.length = 16) : Fits voteKs x.cl := by
  refine Fits.app (Fits.app (Fits.app ⟨rfl, rfl, rfl, trivial⟩ ?_) ⟨rfl, rfl, trivial⟩) ?_
  · rw [← h]; exact Fits.bytes _
  · rw [← hs]; exact Fits.bytes _
theorem fits_prop (x : Proposal) (h : x.id.length = 32) (hs : x.sl.length = 16) : Fits propKs x.cl := by
  refine Fits.app (Fits.app (Fits.app ⟨rfl, rfl, rfl, trivial⟩ ?_) ⟨rfl, trivial⟩) ?_
  · rw [← h]; exact Fits.bytes _
  · rw [← hs]; exact Fits.bytes _

set_option maxHeartbeats 8000000 in
theorem walk_said (w : World) (A : Option Addr) (n c : Nat) (l : List UInt8) (hr : Rd w A (bv l)) (hn : n = l.length) (hl : l.length ≤ reach47) :
    Calls Try.prog 4 #[.slice A n c] w fun en w' => en = .returned (.bool true) ∧ Below w.heap.size w w' := by
  have HR := Lib.hid hr
  have HN := Lib.hid hn
  have HL := Lib.hid hl
  have V1 := Lib.hid (fun (wx : World) (A' : Option Addr) (c' : Nat) (hx : Rd wx A' (bv l)) => ReadVoteBytes_any wx A' n c' l hx hn hl)
  have V2 := Lib.hid (fun (wx : World) (A' : Option Addr) (c' : Nat) (hx : Rd wx A' (bv l)) => ReadProposalBytes_any wx A' n c' l hx hn hl)
  have V3 := Lib.hid (fun (wx : World) (A' : Option Addr) (c' : Nat) (hx : Rd wx A' (bv l)) => rReadVoteBytes_any wx A' n c' l hx hn hl)
  have V4 := Lib.hid (fun (wx : World) (A' : Option Addr) (c' : Nat) (hx : Rd wx A' (bv l)) => rReadProposalBytes_any wx A' n c' l hx hn hl)
  have hok1 := heardVote_ok l
  have hok2 := heardProposal_ok l
  clear hr hn hl
  generalize heardVote l = X at *
  generalize heardProposal l = Y at *
  have FX := Lib.hid (fits_vote X.2.2 hok1.id hok1.sl)
  have FY := Lib.hid (fits_prop Y.2.2 hok2.id hok2.sl)
  have LX := Lib.hid (vote_len X.2.2 hok1.id hok1.sl)
  have LY := Lib.hid (prop_len Y.2.2 hok2.id hok2.sl)
  have ZV := Lib.hid (show zeroVote.cl.length = 53 from by rfl)
  have ZP := Lib.hid (show zeroProposal.cl.length = 52 from by rfl)
  clear hok1 hok2
  go_enter Try.func4, Try.ntmps4
  go_wp2_with fail
  refine (lent_any w A n c l HR.out HN.out HL.out).mono ?_
  rintro en w1 ⟨A2, n2, c2, hn2, rfl, hs2, hb1⟩
  obtain rfl : n2 = n := hn2.trans HN.out.symm
  have HB1 := Lib.hid hb1
  have S1 := Lib.hid hs2
  have R1 := Lib.hid (HR.out.of_cells (fun ad j _ hn => hb1.cell (cell_block hn)) : Rd w1 A (bv l))
  clear hn2 hs2 hb1 HR
  go_wp2_with fail
  refine (V1.out w1 A2 c2 (lent_rd S1.out)).mono ?_
  rintro en w2 ⟨rfl, hb⟩
  have HB2 := Lib.hid (HB1.out.trans (hb.mono HB1.out.size))
  have S2 := Lib.hid (S1.out.below hb)
  have R2 := Lib.hid (R1.out.below hb)
  clear hb HB1 S1 R1
  go_wp2_with (first
    | (with_reducible show wpList _ _ _ (Oper.mk (some 5) (Op.alloc _) _ _ _ _ :: _) _ _; go_must (refine wpList_alloc_bk rfl _ rfl (.agg zeroVote.cl.toArray) (by kernel_rfl) ?_; intro b0 w3 hk hb hg hs; have A0 := Lib.hid hb; have G0 := Lib.hid hg; have M0 := Lib.hid (bk_eq (cs' := zeroVote.cl.toArray) hk rfl); clear hk hb hg hs))
    | (with_reducible show wpList _ _ _ (Oper.mk _ (Op.store 31 _ _) _ _ _ _ :: _) _ _; go_must (refine wpList_st rfl 31 _ _ rfl b0 0 rfl (.agg X.2.2.cl.toArray) rfl X.2.2.cl rfl 53 info_vote53 LX.out _ _ M0.out (by have := ZV.out; simp [this]) (vote_one _) ?_; intro w4 hk hg hs; have hb4 := A0.out.grown hg A0.out.size (fun k hk => by cases hk; have := G0.out; omega); have HB4 := Lib.hid (HB2.out.trans (hb4.mono HB2.out.size)); have S4 := Lib.hid (S2.out.below hb4); have R4 := Lib.hid (R2.out.below hb4); have K0_4 := Lib.hid (bk_eq hk (splice_same LX.out ZV.out)); clear hb4 hk hg hs HB2 S2 R2 M0 A0 G0)))
  go_wp2_with fail
  refine (V2.out w4 A2 c2 (lent_rd S4.out)).mono ?_
  rintro en w5 ⟨rfl, hb⟩
  have HB5 := Lib.hid (HB4.out.trans (hb.mono HB4.out.size))
  have S5 := Lib.hid (S4.out.below hb)
  have R5 := Lib.hid (R4.out.below hb)
  have K0_5 := Lib.hid (K0_4.out.below hb K0_4.out.lt)
  clear hb HB4 S4 R4 K0_4
  go_wp2_with (first
    | (with_reducible show wpList _ _ _ (Oper.mk (some 8) (Op.alloc _) _ _ _ _ :: _) _ _; go_must (refine wpList_alloc_bk rfl _ rfl (.agg zeroProposal.cl.toArray) (by kernel_rfl) ?_; intro b1 w6 hk hb hg hs; have A1 := Lib.hid hb; have G1 := Lib.hid hg; have M1 := Lib.hid (bk_eq (cs' := zeroProposal.cl.toArray) hk rfl); clear hk hb hg hs))
    | (with_reducible show wpList _ _ _ (Oper.mk _ (Op.store 33 _ _) _ _ _ _ :: _) _ _; go_must (refine wpList_st rfl 33 _ _ rfl b1 0 rfl (.agg Y.2.2.cl.toArray) rfl Y.2.2.cl rfl 52 info_proposal52 LY.out _ _ M1.out (by have := ZP.out; simp [this]) (proposal_one _) ?_; intro w7 hk hg hs; have hb4 := A1.out.grown hg A1.out.size (fun k hk => by cases hk; have := G1.out; omega); have HB7 := Lib.hid (HB5.out.trans (hb4.mono HB5.out.size)); have S7 := Lib.hid (S5.out.below hb4); have R7 := Lib.hid (R5.out.below hb4); have K0_7 := Lib.hid (K0_5.out.below hb4 K0_5.out.lt); have K1_7 := Lib.hid (bk_eq hk (splice_same LY.out ZP.out)); clear hb4 hk hg hs HB5 S5 R5 M1 A1 G1 K0_5)))
  go_wp2_with fail
  refine (V3.out w7 A c R7.out).mono ?_
  rintro en w8 ⟨rfl, hb⟩
  have HB8 := Lib.hid (HB7.out.trans (hb.mono HB7.out.size))
  have S8 := Lib.hid (S7.out.below hb)
  have R8 := Lib.hid (R7.out.below hb)
  have K0_8 := Lib.hid (K0_7.out.below hb K0_7.out.lt)
  have K1_8 := Lib.hid (K1_7.out.below hb K1_7.out.lt)
  clear hb HB7 S7 R7 K0_7 K1_7
  go_wp2_with (first
    | (with_reducible show wpList _ _ _ (Oper.mk (some 11) (Op.alloc _) _ _ _ _ :: _) _ _; go_must (refine wpList_alloc_bk rfl _ rfl (.agg zeroVote.cl.toArray) (by kernel_rfl) ?_; intro b2 w9 hk hb hg hs; have A2 := Lib.hid hb; have G2 := Lib.hid hg; have M2 := Lib.hid (bk_eq (cs' := zeroVote.cl.toArray) hk rfl); clear hk hb hg hs))
    | (with_reducible show wpList _ _ _ (Oper.mk _ (Op.store 31 _ _) _ _ _ _ :: _) _ _; go_must (refine wpList_st rfl 31 _ _ rfl b2 0 rfl (.agg X.2.2.cl.toArray) rfl X.2.2.cl rfl 53 info_vote53 LX.out _ _ M2.out (by have := ZV.out; simp [this]) (vote_one _) ?_; intro w10 hk hg hs; have hb4 := A2.out.grown hg A2.out.size (fun k hk => by cases hk; have := G2.out; omega); have HB10 := Lib.hid (HB8.out.trans (hb4.mono HB8.out.size)); have S10 := Lib.hid (S8.out.below hb4); have R10 := Lib.hid (R8.out.below hb4); have K0_10 := Lib.hid (K0_8.out.below hb4 K0_8.out.lt); have K1_10 := Lib.hid (K1_8.out.below hb4 K1_8.out.lt); have K2_10 := Lib.hid (bk_eq hk (splice_same LX.out ZV.out)); clear hb4 hk hg hs HB8 S8 R8 M2 A2 G2 K0_8 K1_8)))
  go_wp2_with fail
  refine (V4.out w10 A c R10.out).mono ?_
  rintro en w11 ⟨rfl, hb⟩
  have HB11 := Lib.hid (HB10.out.trans (hb.mono HB10.out.size))
  have S11 := Lib.hid (S10.out.below hb)
  have R11 := Lib.hid (R10.out.below hb)
  have K0_11 := Lib.hid (K0_10.out.below hb K0_10.out.lt)
  have K1_11 := Lib.hid (K1_10.out.below hb K1_10.out.lt)
  have K2_11 := Lib.hid (K2_10.out.below hb K2_10.out.lt)
  clear hb HB10 S10 R10 K0_10 K1_10 K2_10
  go_wp2_with (first
    | (with_reducible show wpList _ _ _ (Oper.mk (some 14) (Op.alloc _) _ _ _ _ :: _) _ _; go_must (refine wpList_alloc_bk rfl _ rfl (.agg zeroProposal.cl.toArray) (by kernel_rfl) ?_; intro b3 w12 hk hb hg hs; have A3 := Lib.hid hb; have G3 := Lib.hid hg; have M3 := Lib.hid (bk_eq (cs' := zeroProposal.cl.toArray) hk rfl); clear hk hb hg hs))
    | (with_reducible show wpList _ _ _ (Oper.mk _ (Op.store 33 _ _) _ _ _ _ :: _) _ _; go_must (refine wpList_st rfl 33 _ _ rfl b3 0 rfl (.agg Y.2.2.cl.toArray) rfl Y.2.2.cl rfl 52 info_proposal52 LY.out _ _ M3.out (by have := ZP.out; simp [this]) (proposal_one _) ?_; intro w13 hk hg hs; have hb4 := A3.out.grown hg A3.out.size (fun k hk => by cases hk; have := G3.out; omega); have HB13 := Lib.hid (HB11.out.trans (hb4.mono HB11.out.size)); have S13 := Lib.hid (S11.out.below hb4); have R13 := Lib.hid (R11.out.below hb4); have K0_13 := Lib.hid (K0_11.out.below hb4 K0_11.out.lt); have K1_13 := Lib.hid (K1_11.out.below hb4 K1_11.out.lt); have K2_13 := Lib.hid (K2_11.out.below hb4 K2_11.out.lt); have K3_13 := Lib.hid (bk_eq hk (splice_same LY.out ZP.out)); clear hb4 hk hg hs HB11 S11 R11 M3 A3 G3 K0_11 K1_11 K2_11))
    | (go_at_call 13; go_must (refine (lawNum_any _ _).mono ?_); rintro e wx ⟨rfl, rfl⟩)
    | (with_reducible show wpList _ _ _ (Oper.mk (some 52) (Op.load 31 _) _ _ _ _ :: _) _ _; go_must (refine wpList_load_part rfl 31 _ rfl b0 0 53 rfl _ _ _ K0_13.out Try.underlying31 rfl info_vote53 (by have := LX.out; simp [this]) _ (cl_all LX.out) ?_))
    | (with_reducible show wpList _ _ _ (Oper.mk (some 53) (Op.load 31 _) _ _ _ _ :: _) _ _; go_must (refine wpList_load_part rfl 31 _ rfl b2 0 53 rfl _ _ _ K2_13.out Try.underlying31 rfl info_vote53 (by have := LX.out; simp [this]) _ (cl_all LX.out) ?_))
    | (with_reducible show wpList _ _ _ (Oper.mk _ (Op.binOp BinOp.eql 31 _ _ _) _ _ _ _ :: _) _ _; go_must (refine wpList_eql_flat rfl 31 _ _ _ rfl X.2.2.cl X.2.2.cl rfl rfl 3 _ flat_vote (by omega) agg_vote guard_vote FX.out FX.out true (by simp) ?_))
    | (with_reducible show wpList _ _ _ (Oper.mk (some 68) (Op.load 33 _) _ _ _ _ :: _) _ _; go_must (refine wpList_load_part rfl 33 _ rfl b1 0 52 rfl _ _ _ K1_13.out Try.underlying33 rfl info_proposal52 (by have := LY.out; simp [this]) _ (cl_all LY.out) ?_))
    | (with_reducible show wpList _ _ _ (Oper.mk (some 69) (Op.load 33 _) _ _ _ _ :: _) _ _; go_must (refine wpList_load_part rfl 33 _ rfl b3 0 52 rfl _ _ _ K3_13.out Try.underlying33 rfl info_proposal52 (by have := LY.out; simp [this]) _ (cl_all LY.out) ?_))
    | (with_reducible show wpList _ _ _ (Oper.mk _ (Op.binOp BinOp.eql 33 _ _ _) _ _ _ _ :: _) _ _; go_must (refine wpList_eql_flat rfl 33 _ _ _ rfl Y.2.2.cl Y.2.2.cl rfl rfl 3 _ flat_prop (by omega) agg_prop guard_prop FY.out FY.out true (by simp) ?_))
    | (go_at_call 21; go_must (refine (kept_any w13 A A2 n2 c c2 _ l S13.out R13.out HN.out HL.out).mono ?_); rintro e wy ⟨rfl, hby⟩))
  go_ret
  exact ⟨rfl, HB13.out.trans (hby.mono HB13.out.size)⟩
end Go.Proofs.Ytocgcalaiejbiaa

/-
  The walk of WireHeard: true, and nothing that was there is changed. Condition: the bytes are within reach.
-/
import Derived.Test.YtocgcalaiejbiaaSl3
namespace Go.Proofs.Ytocgcalaiejbiaa
set_option linter.unusedSimpArgs false
set_option linter.unusedVariables false
open Go.RowKit
set_option maxRecDepth 100000

theorem flat_seal16 : flat Try.prog 2 25 = some (List.replicate 16 (.int .u8)) := by kernel_rfl
theorem agg_seal16 : isAggT Try.prog 25 = true := by kernel_rfl
theorem guard_seal16 : Try.prog.eqGuardType Try.prog.depth 25 = false := by kernel_rfl
theorem fits_seal16 : Fits (List.replicate 16 (.int .u8)) (bv (zeros 16)) := Fits.bytes (zeros 16)
theorem vote_cl_seal (x : Vote) (hi : x.id.length = 32) (hs : x.sl.length = 16) : x.cl.toArray.extract 37 (37 + 16) = (bv x.sl).toArray := by
  refine extract_cl _ _ _ _ ?_
  have e : x.cl = ([.int .i64 x.kind, .int .u64 x.height, .int .i64 x.round] ++ bv x.id ++ [.int .u64 x.time, .int .u64 x.frm]) ++ bv x.sl := by simp [Vote.cl]
  have el : ([.int .i64 x.kind, .int .u64 x.height, .int .i64 x.round] ++ bv x.id ++ [.int .u64 x.time, .int .u64 x.frm] : List Value).length = 37 := by simp [bv_length, hi]
  rw [e, ← el, List.drop_left, el, show 37 + 16 - 37 = (bv x.sl).length from by rw [bv_length, hs]]
  exact List.take_length
theorem prop_cl_seal (x : Proposal) (hi : x.id.length = 32) (hs : x.sl.length = 16) : x.cl.toArray.extract 36 (36 + 16) = (bv x.sl).toArray := by
  refine extract_cl _ _ _ _ ?_
  have e : x.cl = ([.int .u64 x.height, .int .i64 x.round, .int .i64 x.valid] ++ bv x.id ++ [.int .u64 x.frm]) ++ bv x.sl := by simp [Proposal.cl]
  have el : ([.int .u64 x.height, .int .i64 x.round, .int .i64 x.valid] ++ bv x.id ++ [.int .u64 x.frm] : List Value).length = 36 := by simp [bv_length, hi]
  rw [e, ← el, List.drop_left, el, show 36 + 16 - 36 = (bv x.sl).length from by rw [bv_length, hs]]
  exact List.take_length
theorem heard_apart {l : List UInt8} (h : (heardProposal l).1 = 0) : (heardVote l).1 ≠ 0 := by
  obtain ⟨_, _, _, h1, h2⟩ := heardProposal_bw h
  rw [heardVote_bad ⟨h1, by rw [h2]; decide⟩]
  decide
theorem list_len9 {l : List UInt8} (h : l.length ≤ reach47) : (ByteArray.mk l.toArray).size ≤ 9223372036854775807 := by
  have e : (ByteArray.mk l.toArray).size = l.length := by simp [ByteArray.size]
  rw [e]; unfold reach47 at h; omega
theorem heardVote_len (l : List UInt8) : (heardVote l).2.1.length ≤ l.length := by
  unfold heardVote
  simp only
  split
  · simp
  · split
    · simp
    · split
      · simp
      · exact readText_le rfl
theorem heardProposal_len (l : List UInt8) : (heardProposal l).2.1.length ≤ l.length := by
  unfold heardProposal
  simp only
  split
  · simp
  · split
    · simp
    · split
      · simp
      · exact readText_le rfl

set_option maxHeartbeats 8000000 in
theorem walk_heard (w : World) (A : Option Addr) (n c : Nat) (l : List UInt8) (hr : Rd w A (bv l)) (hn : n = l.length) (hl : l.length ≤ reach47) :
    Calls Try.prog 5 #[.slice A n c] w fun en w' => en = .returned (.bool true) ∧ Below w.heap.size w w' := by
  have HR := Lib.hid hr
  have HN := Lib.hid hn
  have HL := Lib.hid hl
  have V1 := Lib.hid (fun (wx : World) (hx : Rd wx A (bv l)) => ReadVoteBytes_any wx A n c l hx hn hl)
  have V2 := Lib.hid (fun (wx : World) (hx : Rd wx A (bv l)) => ReadProposalBytes_any wx A n c l hx hn hl)
  have hok1 := heardVote_ok l
  have hok2 := heardProposal_ok l
  have BW1 := Lib.hid (fun h => heardVote_bw (l := l) h)
  have BW2 := Lib.hid (fun h => heardProposal_bw (l := l) h)
  have HAP := Lib.hid (fun h => heard_apart (l := l) h)
  have C1 := Lib.hid (list_len9 (Nat.le_trans (heardVote_len l) hl))
  have C2 := Lib.hid (list_len9 (Nat.le_trans (heardProposal_len l) hl))
  clear hr hn hl
  generalize heardVote l = X at *
  generalize heardProposal l = Y at *
  have OX := Lib.hid hok1
  have OY := Lib.hid hok2
  have LX := Lib.hid (vote_len X.2.2 hok1.id hok1.sl)
  have LY := Lib.hid (prop_len Y.2.2 hok2.id hok2.sl)
  have ZV := Lib.hid (show zeroVote.cl.length = 53 from by rfl)
  have ZP := Lib.hid (show zeroProposal.cl.length = 52 from by rfl)
  have HT := Lib.hid (beq_self_eq_true l)
  clear hok1 hok2
  go_enter Try.func5, Try.ntmps5
  go_wp2_with fail
  refine (alive_any w).mono ?_
  rintro en w1 ⟨rfl, hb⟩
  have HB1 := Lib.hid hb
  have R1 := Lib.hid (HR.out.of_cells (fun ad j _ hn => hb.cell (cell_block hn)) : Rd w1 A (bv l))
  clear hb HR
  go_wp2_with fail
  refine (V1.out w1 R1.out).mono ?_
  rintro en w2 ⟨rfl, hb⟩
  have HB2 := Lib.hid (HB1.out.trans (hb.mono HB1.out.size))
  have R2 := Lib.hid (R1.out.below hb)
  clear hb HB1 R1
  by_cases hx : X.1 = 0
  · have x1 : (X.1 == 0) = true := by simp [hx]
    have x2 : (X.1 != 0) = false := by simp [hx]
    have BX := Lib.hid (BW1.out hx)
    have SX := Lib.hid (BW1.out hx).2.1
    have hy : Y.1 ≠ 0 := fun h => HAP.out h hx
    have y1 : (Y.1 == 0) = false := by simp [hy]
    have y2 : (Y.1 != 0) = true := by simp [hy]
    clear hx hy BW1 BW2 HAP
    go_wp2_with (first
      | (with_reducible show wpList _ _ _ (Oper.mk (some 4) (Op.alloc _) _ _ _ _ :: _) _ _; go_must (refine wpList_alloc_bk rfl _ rfl (.agg zeroVote.cl.toArray) (by kernel_rfl) ?_; intro b0 w3 hk hb hg hs; have A0 := Lib.hid hb; have G0 := Lib.hid hg; have M0 := Lib.hid (bk_eq (cs' := zeroVote.cl.toArray) hk rfl); clear hk hb hg hs))
      | (with_reducible show wpList _ _ _ (Oper.mk _ (Op.store 31 _ _) _ _ _ _ :: _) _ _; go_must (refine wpList_st rfl 31 _ _ rfl b0 0 rfl (.agg X.2.2.cl.toArray) rfl X.2.2.cl rfl 53 info_vote53 LX.out _ _ M0.out (by have := ZV.out; simp [this]) (vote_one _) ?_; intro w4 hk hg hs; have hb4 := A0.out.grown hg A0.out.size (fun k hk => by cases hk; have := G0.out; omega); have HB4 := Lib.hid (HB2.out.trans (hb4.mono HB2.out.size)); have R4 := Lib.hid (R2.out.below hb4); have K0_4 := Lib.hid (bk_eq hk (splice_same LX.out ZV.out)); clear hb4 hk hg hs HB2 R2 M0 A0 G0))
      | (go_at_call 13; go_must (refine (lawNum_any _ _).mono ?_); rintro e wx ⟨rfl, rfl⟩)
      | (with_reducible show wpList _ _ _ (Oper.mk (some 26) (Op.load 31 _) _ _ _ _ :: _) _ _; go_must (refine wpList_load_part rfl 31 _ rfl b0 0 53 rfl _ _ _ K0_4.out Try.underlying31 rfl info_vote53 (by simp [LX.out]) _ (cl_all LX.out) ?_)))
    refine (VoteBytes_any w4 ⟨X.2.1.toArray⟩ X.2.2 OX.out C1.out).mono ?_
    rw [BX.out.2.2.1, BX.out.1]
    rintro en w5 ⟨hb, ⟨hz, _⟩ | ⟨_, v, rfl, hv⟩⟩
    · exact absurd rfl hz
    obtain ⟨Av, cv, rfl⟩ := hv.form
    have HB5 := Lib.hid (HB4.out.trans (hb.mono HB4.out.size))
    have R5 := Lib.hid (R4.out.below hb)
    have K0_5 := Lib.hid (K0_4.out.below hb K0_4.out.lt)
    have RV := Lib.hid hv.rd
    have LN := Lib.hid (show l.length ≤ reach47 + 100 by have := HL.out; omega)
    clear hb hv HB4 R4 K0_4
    go_wp2_with (go_at_call 13; go_must (refine (lawNum_any _ _).mono ?_); rintro e wx ⟨rfl, rfl⟩)
    refine (sameBytes_any w5 Av A l.length cv n c l l rfl HN.out.symm RV.out R5.out LN.out).mono ?_
    rintro en w6 ⟨rfl, hb⟩
    rw [HT.out]
    have HB6 := Lib.hid (HB5.out.trans (hb.mono HB5.out.size))
    have R6 := Lib.hid (R5.out.below hb)
    have K0_6 := Lib.hid (K0_5.out.below hb K0_5.out.lt)
    clear hb HB5 R5 RV K0_5
    go_wp2_with (first
      | (with_reducible show wpList _ _ _ (Oper.mk _ (Op.load 25 _) _ _ _ _ :: _) _ _; go_must (refine wpList_load_part rfl 25 _ rfl b0 37 16 rfl _ _ _ K0_6.out Try.underlying25 rfl info_seal16 (by simp [LX.out]) (bv (zeros 16)).toArray (by rw [vote_cl_seal _ OX.out.id OX.out.sl, SX.out]) ?_))
      | (with_reducible show wpList _ _ _ (Oper.mk _ (Op.binOp BinOp.neq 25 _ _ _) _ _ _ _ :: _) _ _; go_must (refine wpList_neq_flat rfl 25 _ _ _ rfl (bv (zeros 16)) (bv (zeros 16)) rfl rfl 2 _ flat_seal16 (by omega) agg_seal16 guard_seal16 fits_seal16 fits_seal16 true (by simp) ?_)))
    refine (V2.out w6 R6.out).mono ?_
    rintro en w7 ⟨rfl, hb⟩
    have HB7 := Lib.hid (HB6.out.trans (hb.mono HB6.out.size))
    have R7 := Lib.hid (R6.out.below hb)
    clear hb HB6 R6 K0_6
    go_wp2_with (first
      | (with_reducible show wpList _ _ _ (Oper.mk (some 9) (Op.alloc _) _ _ _ _ :: _) _ _; go_must (refine wpList_alloc_bk rfl _ rfl (.agg zeroProposal.cl.toArray) (by kernel_rfl) ?_; intro b1 w8 hk hb hg hs; have A1 := Lib.hid hb; have G1 := Lib.hid hg; have M1 := Lib.hid (bk_eq (cs' := zeroProposal.cl.toArray) hk rfl); clear hk hb hg hs))
      | (with_reducible show wpList _ _ _ (Oper.mk _ (Op.store 33 _ _) _ _ _ _ :: _) _ _; go_must (refine wpList_st rfl 33 _ _ rfl b1 0 rfl (.agg Y.2.2.cl.toArray) rfl Y.2.2.cl rfl 52 info_proposal52 LY.out _ _ M1.out (by have := ZP.out; simp [this]) (proposal_one _) ?_; intro w9 hk hg hs; have hb4 := A1.out.grown hg A1.out.size (fun k hk => by cases hk; have := G1.out; omega); have HB9 := Lib.hid (HB7.out.trans (hb4.mono HB7.out.size)); have R9 := Lib.hid (R7.out.below hb4); have K1_9 := Lib.hid (bk_eq hk (splice_same LY.out ZP.out)); clear hb4 hk hg hs HB7 R7 M1 A1 G1))
      | (go_at_call 13; go_must (refine (lawNum_any _ _).mono ?_); rintro e wx ⟨rfl, rfl⟩))
    go_ret
    exact ⟨rfl, HB9.out⟩
  · have x1 : (X.1 == 0) = false := by simp [hx]
    have x2 : (X.1 != 0) = true := by simp [hx]
    clear hx BW1 HAP
    go_wp2_with (first
      | (with_reducible show wpList _ _ _ (Oper.mk (some 4) (Op.alloc _) _ _ _ _ :: _) _ _; go_must (refine wpList_alloc_bk rfl _ rfl (.agg zeroVote.cl.toArray) (by kernel_rfl) ?_; intro b0 w3 hk hb hg hs; have A0 := Lib.hid hb; have G0 := Lib.hid hg; have M0 := Lib.hid (bk_eq (cs' := zeroVote.cl.toArray) hk rfl); clear hk hb hg hs))
      | (with_reducible show wpList _ _ _ (Oper.mk _ (Op.store 31 _ _) _ _ _ _ :: _) _ _; go_must (refine wpList_st rfl 31 _ _ rfl b0 0 rfl (.agg X.2.2.cl.toArray) rfl X.2.2.cl rfl 53 info_vote53 LX.out _ _ M0.out (by have := ZV.out; simp [this]) (vote_one _) ?_; intro w4 hk hg hs; have hb4 := A0.out.grown hg A0.out.size (fun k hk => by cases hk; have := G0.out; omega); have HB4 := Lib.hid (HB2.out.trans (hb4.mono HB2.out.size)); have R4 := Lib.hid (R2.out.below hb4); have K0_4 := Lib.hid (bk_eq hk (splice_same LX.out ZV.out)); clear hb4 hk hg hs HB2 R2 M0 A0 G0))
      | (go_at_call 13; go_must (refine (lawNum_any _ _).mono ?_); rintro e wx ⟨rfl, rfl⟩))
    refine (V2.out w4 R4.out).mono ?_
    rintro en w5 ⟨rfl, hb⟩
    have HB5 := Lib.hid (HB4.out.trans (hb.mono HB4.out.size))
    have R5 := Lib.hid (R4.out.below hb)
    clear hb HB4 R4 K0_4
    by_cases hy : Y.1 = 0
    · have y1 : (Y.1 == 0) = true := by simp [hy]
      have y2 : (Y.1 != 0) = false := by simp [hy]
      have BY := Lib.hid (BW2.out hy)
      have SY := Lib.hid (BW2.out hy).2.1
      clear hy BW2
      go_wp2_with (first
        | (with_reducible show wpList _ _ _ (Oper.mk (some 9) (Op.alloc _) _ _ _ _ :: _) _ _; go_must (refine wpList_alloc_bk rfl _ rfl (.agg zeroProposal.cl.toArray) (by kernel_rfl) ?_; intro b1 w6 hk hb hg hs; have A1 := Lib.hid hb; have G1 := Lib.hid hg; have M1 := Lib.hid (bk_eq (cs' := zeroProposal.cl.toArray) hk rfl); clear hk hb hg hs))
        | (with_reducible show wpList _ _ _ (Oper.mk _ (Op.store 33 _ _) _ _ _ _ :: _) _ _; go_must (refine wpList_st rfl 33 _ _ rfl b1 0 rfl (.agg Y.2.2.cl.toArray) rfl Y.2.2.cl rfl 52 info_proposal52 LY.out _ _ M1.out (by have := ZP.out; simp [this]) (proposal_one _) ?_; intro w7 hk hg hs; have hb4 := A1.out.grown hg A1.out.size (fun k hk => by cases hk; have := G1.out; omega); have HB7 := Lib.hid (HB5.out.trans (hb4.mono HB5.out.size)); have R7 := Lib.hid (R5.out.below hb4); have K1_7 := Lib.hid (bk_eq hk (splice_same LY.out ZP.out)); clear hb4 hk hg hs HB5 R5 M1 A1 G1))
        | (go_at_call 13; go_must (refine (lawNum_any _ _).mono ?_); rintro e wx ⟨rfl, rfl⟩)
        | (with_reducible show wpList _ _ _ (Oper.mk (some 56) (Op.load 33 _) _ _ _ _ :: _) _ _; go_must (refine wpList_load_part rfl 33 _ rfl b1 0 52 rfl _ _ _ K1_7.out Try.underlying33 rfl info_proposal52 (by simp [LY.out]) _ (cl_all LY.out) ?_)))
      refine (ProposalBytes_any w7 ⟨Y.2.1.toArray⟩ Y.2.2 OY.out C2.out).mono ?_
      rw [BY.out.2.2.1, BY.out.1]
      rintro en w8 ⟨hb, ⟨hz, _⟩ | ⟨_, v, rfl, hv⟩⟩
      · exact absurd rfl hz
      obtain ⟨Av, cv, rfl⟩ := hv.form
      have HB8 := Lib.hid (HB7.out.trans (hb.mono HB7.out.size))
      have R8 := Lib.hid (R7.out.below hb)
      have K1_8 := Lib.hid (K1_7.out.below hb K1_7.out.lt)
      have RV := Lib.hid hv.rd
      have LN := Lib.hid (show l.length ≤ reach47 + 100 by have := HL.out; omega)
      clear hb hv HB7 R7 K1_7
      go_wp2_with (go_at_call 13; go_must (refine (lawNum_any _ _).mono ?_); rintro e wx ⟨rfl, rfl⟩)
      refine (sameBytes_any w8 Av A l.length cv n c l l rfl HN.out.symm RV.out R8.out LN.out).mono ?_
      rintro en w9 ⟨rfl, hb⟩
      rw [HT.out]
      have HB9 := Lib.hid (HB8.out.trans (hb.mono HB8.out.size))
      have R9 := Lib.hid (R8.out.below hb)
      have K1_9 := Lib.hid (K1_8.out.below hb K1_8.out.lt)
      clear hb HB8 R8 RV K1_8
      go_wp2_with (first
        | (with_reducible show wpList _ _ _ (Oper.mk _ (Op.load 25 _) _ _ _ _ :: _) _ _; go_must (refine wpList_load_part rfl 25 _ rfl b1 36 16 rfl _ _ _ K1_9.out Try.underlying25 rfl info_seal16 (by simp [LY.out]) (bv (zeros 16)).toArray (by rw [prop_cl_seal _ OY.out.id OY.out.sl, SY.out]) ?_))
        | (with_reducible show wpList _ _ _ (Oper.mk _ (Op.binOp BinOp.eql 25 _ _ _) _ _ _ _ :: _) _ _; go_must (refine wpList_eql_flat rfl 25 _ _ _ rfl (bv (zeros 16)) (bv (zeros 16)) rfl rfl 2 _ flat_seal16 (by omega) agg_seal16 guard_seal16 fits_seal16 fits_seal16 true (by simp) ?_))
        | (go_at_call 13; go_must (refine (lawNum_any _ _).mono ?_); rintro e wx ⟨rfl, rfl⟩))
      go_ret
      exact ⟨rfl, HB9.out⟩
    · have y1 : (Y.1 == 0) = false := by simp [hy]
      have y2 : (Y.1 != 0) = true := by simp [hy]
      clear hy BW2
      go_wp2_with (first
        | (with_reducible show wpList _ _ _ (Oper.mk (some 9) (Op.alloc _) _ _ _ _ :: _) _ _; go_must (refine wpList_alloc_bk rfl _ rfl (.agg zeroProposal.cl.toArray) (by kernel_rfl) ?_; intro b1 w6 hk hb hg hs; have A1 := Lib.hid hb; have G1 := Lib.hid hg; have M1 := Lib.hid (bk_eq (cs' := zeroProposal.cl.toArray) hk rfl); clear hk hb hg hs))
        | (with_reducible show wpList _ _ _ (Oper.mk _ (Op.store 33 _ _) _ _ _ _ :: _) _ _; go_must (refine wpList_st rfl 33 _ _ rfl b1 0 rfl (.agg Y.2.2.cl.toArray) rfl Y.2.2.cl rfl 52 info_proposal52 LY.out _ _ M1.out (by have := ZP.out; simp [this]) (proposal_one _) ?_; intro w7 hk hg hs; have hb4 := A1.out.grown hg A1.out.size (fun k hk => by cases hk; have := G1.out; omega); have HB7 := Lib.hid (HB5.out.trans (hb4.mono HB5.out.size)); have R7 := Lib.hid (R5.out.below hb4); have K1_7 := Lib.hid (bk_eq hk (splice_same LY.out ZP.out)); clear hb4 hk hg hs HB5 R5 M1 A1 G1))
        | (go_at_call 13; go_must (refine (lawNum_any _ _).mono ?_); rintro e wx ⟨rfl, rfl⟩))
      go_ret
      exact ⟨rfl, HB7.out⟩
end Go.Proofs.Ytocgcalaiejbiaa

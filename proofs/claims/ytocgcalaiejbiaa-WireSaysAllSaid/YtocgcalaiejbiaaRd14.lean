/-
  ReadVoteBytes, ReadProposalBytes. Condition: the bytes are within reach.
-/
import Derived.Test.YtocgcalaiejbiaaRd13
namespace Go.Proofs.Ytocgcalaiejbiaa
set_option linter.unusedSimpArgs false
set_option linter.unusedVariables false
open Go.RowKit
set_option maxRecDepth 100000

theorem zeroVote_ok : zeroVote.ok := by
  refine ⟨?_, ?_, ?_, ?_, ?_, ?_, ?_⟩ <;> first | exact ⟨by decide, by decide⟩ | rfl
theorem heardVote_ok (l : List UInt8) : (heardVote l).2.2.ok := by
  unfold heardVote
  simp only
  split
  · exact zeroVote_ok
  · split
    · exact zeroVote_ok
    · split
      · exact zeroVote_ok
      · exact rdVote_ok _ _ _
theorem zeroProposal_ok : zeroProposal.ok := by
  refine ⟨?_, ?_, ?_, ?_, ?_, ?_⟩ <;> first | exact ⟨by decide, by decide⟩ | rfl
theorem heardProposal_ok (l : List UInt8) : (heardProposal l).2.2.ok := by
  unfold heardProposal
  simp only
  split
  · exact zeroProposal_ok
  · split
    · exact zeroProposal_ok
    · split
      · exact zeroProposal_ok
      · exact rdProposal_ok _ _ _
set_option maxHeartbeats 2000000 in
theorem ReadVoteBytes_any (w : World) (A : Option Addr) (n c : Nat) (l : List UInt8) (hr : Rd w A (bv l)) (hn : n = l.length) (hl : l.length ≤ reach47) :
    Calls Try.prog 17 #[.slice A n c] w (HeardResVote (heardVote l) w) := by
  have key := fun (wx : World) (hx : Rd wx A (bv l)) => heardVote_any wx A n c l hx hn hl
  have HKEY := Lib.hid key
  have HR := Lib.hid hr
  have hok := heardVote_ok l
  clear key hr hn hl
  generalize heardVote l = K at *
  have HZL := Lib.hid (show zeroVote.cl.length = 53 from by rfl)
  have HKL := Lib.hid (vote_len K.2.2 hok.id hok.sl)
  clear hok
  go_enter Try.func17, Try.ntmps17
  go_wp2_with (with_reducible show wpList _ _ _ (Oper.mk (some 3) (Op.alloc _) _ _ _ _ :: _) _ _; refine wpList_alloc_bk rfl _ rfl (.agg zeroVote.cl.toArray) (by kernel_rfl) ?_)
  intro b1 w1 hk1 hb1 hg1 hs1
  have HG := Lib.hid hg1
  have HB := Lib.hid hb1
  have HK1 := Lib.hid hk1
  clear hk1 hb1 hg1 hs1
  go_wp2_with fail
  refine (HKEY.out w1 ((HR.out).of_cells (fun ad j _ hn => HB.out.cell (cell_block hn)))).mono ?_
  rintro en w2 ⟨rfl, hb2⟩
  have B2 := Lib.hid (HB.out.trans (hb2.mono HB.out.size))
  have K2 := Lib.hid (HK1.out.below hb2 HK1.out.lt)
  clear hb2
  go_wp2_with (with_reducible show wpList _ _ _ (Oper.mk _ (Op.store 31 _ _) _ _ _ _ :: _) _ _; go_must (refine wpList_st rfl 31 _ _ rfl b1 0 rfl (.agg K.2.2.cl.toArray) rfl K.2.2.cl rfl 53 info_vote53 HKL.out _ _ K2.out (by have := HZL.out; simp [Value.cells, this]) (vote_one _) ?_; intro wz hkz hgz hsz))
  have BZ := Lib.hid (B2.out.grown hgz (by have := B2.out.size; omega) (fun k hk => by cases hk; have := HG.out; omega))
  have hkz := bk_eq hkz (splice_same HKL.out HZL.out)
  exact bodyPost_tct Try.results17 rfl rfl rfl hkz Try.underlying31 rfl info_vote53 (by simp [HKL.out]) rfl ⟨rfl, BZ.out⟩

set_option maxHeartbeats 2000000 in
theorem ReadProposalBytes_any (w : World) (A : Option Addr) (n c : Nat) (l : List UInt8) (hr : Rd w A (bv l)) (hn : n = l.length) (hl : l.length ≤ reach47) :
    Calls Try.prog 18 #[.slice A n c] w (HeardResProposal (heardProposal l) w) := by
  have key := fun (wx : World) (hx : Rd wx A (bv l)) => heardProposal_any wx A n c l hx hn hl
  have HKEY := Lib.hid key
  have HR := Lib.hid hr
  have hok := heardProposal_ok l
  clear key hr hn hl
  generalize heardProposal l = K at *
  have HZL := Lib.hid (show zeroProposal.cl.length = 52 from by rfl)
  have HKL := Lib.hid (prop_len K.2.2 hok.id hok.sl)
  clear hok
  go_enter Try.func18, Try.ntmps18
  go_wp2_with (with_reducible show wpList _ _ _ (Oper.mk (some 3) (Op.alloc _) _ _ _ _ :: _) _ _; refine wpList_alloc_bk rfl _ rfl (.agg zeroProposal.cl.toArray) (by kernel_rfl) ?_)
  intro b1 w1 hk1 hb1 hg1 hs1
  have HG := Lib.hid hg1
  have HB := Lib.hid hb1
  have HK1 := Lib.hid hk1
  clear hk1 hb1 hg1 hs1
  go_wp2_with fail
  refine (HKEY.out w1 ((HR.out).of_cells (fun ad j _ hn => HB.out.cell (cell_block hn)))).mono ?_
  rintro en w2 ⟨rfl, hb2⟩
  have B2 := Lib.hid (HB.out.trans (hb2.mono HB.out.size))
  have K2 := Lib.hid (HK1.out.below hb2 HK1.out.lt)
  clear hb2
  go_wp2_with (with_reducible show wpList _ _ _ (Oper.mk _ (Op.store 33 _ _) _ _ _ _ :: _) _ _; go_must (refine wpList_st rfl 33 _ _ rfl b1 0 rfl (.agg K.2.2.cl.toArray) rfl K.2.2.cl rfl 52 info_proposal52 HKL.out _ _ K2.out (by have := HZL.out; simp [Value.cells, this]) (proposal_one _) ?_; intro wz hkz hgz hsz))
  have BZ := Lib.hid (B2.out.grown hgz (by have := B2.out.size; omega) (fun k hk => by cases hk; have := HG.out; omega))
  have hkz := bk_eq hkz (splice_same HKL.out HZL.out)
  exact bodyPost_tct Try.results18 rfl rfl rfl hkz Try.underlying33 rfl info_proposal52 (by simp [HKL.out]) rfl ⟨rfl, BZ.out⟩

end Go.Proofs.Ytocgcalaiejbiaa

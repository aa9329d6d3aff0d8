/-
  The law's helpers mod, unsealed and said. Condition: each number fits its kind.
-/
import Derived.Test.YtocgcalaiejbiaaHe1
import Derived.Test.YtocgcalaiejbiaaSigns
namespace Go.Proofs.Ytocgcalaiejbiaa
set_option linter.unusedSimpArgs false
set_option linter.unusedVariables false
open Go.RowKit
set_option maxRecDepth 100000

/-- the remainder at three that is never below zero -/
def modz (j : Int) : Int := if j.tmod 3 < 0 then j.tmod 3 + 3 else j.tmod 3
theorem tmod3 (j : Int) : -3 < j.tmod 3 ∧ j.tmod 3 < 3 := ⟨Int.lt_tmod_of_pos j (by omega), Int.tmod_lt_of_pos j (by omega)⟩
theorem modz_in (j : Int) : modz j = 0 ∨ modz j = 1 ∨ modz j = 2 := by
  have := tmod3 j
  unfold modz
  split <;> omega

theorem mod_any (w : World) (j : Int) (hj : I64 j) :
    Calls Try.prog 25 #[.int .i64 j, .int .i64 3] w fun e w' => e = .returned (.int .i64 (modz j)) ∧ w = w' := by
  have ht := tmod3 j
  by_cases h : j.tmod 3 < 0
  · have e : j.tmod 3 + 3 = modz j := by
      unfold modz
      rw [if_pos h]
    have E := Lib.hid e
    clear e
    go_enter Try.func25, Try.ntmps25
    go_wp2
    go_ret
    exact ⟨congrArg (fun v => Ending.returned (.int .i64 v)) E.out, rfl⟩
  · have e : j.tmod 3 = modz j := by
      unfold modz
      rw [if_neg h]
    rw [← e]
    clear e
    go_enter Try.func25, Try.ntmps25
    go_wp2
    go_ret
    exact ⟨rfl, rfl⟩

def Name.bare (x : Name) : Name := ⟨x.chain, { x.tx with sl := zeros 16 }, { x.vote with sl := zeros 16 }, { x.prop with sl := zeros 16 }⟩
theorem bare_ok {x : Name} (h : x.ok) : x.bare.ok := ⟨h.chain, ⟨h.tx.kind, h.tx.frm, h.tx.to, h.tx.amount, h.tx.fee, h.tx.nonce, rfl⟩, ⟨h.vote.kind, h.vote.height, h.vote.round, h.vote.id, h.vote.time, h.vote.frm, rfl⟩, ⟨h.prop.height, h.prop.round, h.prop.valid, h.prop.id, h.prop.frm, rfl⟩⟩
theorem zl16 : (bv (zeros 16)).length = 16 := by rw [bv_length]; rfl
def Name.b1 (x : Name) : Name := ⟨x.chain, { x.tx with sl := zeros 16 }, x.vote, x.prop⟩
def Name.b2 (x : Name) : Name := ⟨x.chain, { x.tx with sl := zeros 16 }, { x.vote with sl := zeros 16 }, x.prop⟩
theorem bare_one (x : Name) (h : x.ok) : splice x.cl.toArray 7 (bv (zeros 16)) = x.b1.cl.toArray := by
  have e : x.cl = ([.string x.chain] ++ [.int .i64 x.tx.kind, .int .u64 x.tx.frm, .int .u64 x.tx.to, .int .u64 x.tx.amount, .int .u64 x.tx.fee, .int .u64 x.tx.nonce]) ++ (bv x.tx.sl ++ (x.vote.cl ++ x.prop.cl)) := by simp [Name.cl, Tx.cl]
  rw [e, splice_of (by rfl) (by rw [bv_length, bv_length, h.tx.sl]; rfl)]
  simp [Name.cl, Tx.cl, Name.b1]
theorem bare_two (x : Name) (h : x.ok) : splice x.cl.toArray 60 (bv (zeros 16)) = (Name.cl ⟨x.chain, x.tx, { x.vote with sl := zeros 16 }, x.prop⟩).toArray := by
  have e : x.cl = ([.string x.chain] ++ x.tx.cl ++ ([.int .i64 x.vote.kind, .int .u64 x.vote.height, .int .i64 x.vote.round] ++ bv x.vote.id ++ [.int .u64 x.vote.time, .int .u64 x.vote.frm])) ++ (bv x.vote.sl ++ x.prop.cl) := by simp [Name.cl, Vote.cl]
  rw [e, splice_of (by simp [x.tx.cl_len h.tx, bv_length, h.vote.id]) (by rw [bv_length, bv_length, h.vote.sl]; rfl)]
  simp [Name.cl, Vote.cl]
theorem bare_three (x : Name) (h : x.ok) : splice x.cl.toArray 112 (bv (zeros 16)) = (Name.cl ⟨x.chain, x.tx, x.vote, { x.prop with sl := zeros 16 }⟩).toArray := by
  have e : x.cl = ([.string x.chain] ++ x.tx.cl ++ x.vote.cl ++ ([.int .u64 x.prop.height, .int .i64 x.prop.round, .int .i64 x.prop.valid] ++ bv x.prop.id ++ [.int .u64 x.prop.frm])) ++ (bv x.prop.sl ++ []) := by simp [Name.cl, Proposal.cl]
  rw [e, splice_of (by simp [x.tx.cl_len h.tx, x.vote.cl_len h.vote, bv_length, h.prop.id]) (by rw [bv_length, bv_length, h.prop.sl]; rfl)]
  simp [Name.cl, Proposal.cl]

theorem bare_two' (x : Name) (h : x.ok) (h1 : x.b1.ok) : splice x.b1.cl.toArray 60 (bv (zeros 16)) = x.b2.cl.toArray := bare_two x.b1 h1
theorem bare_three' (x : Name) (h : x.ok) (h1 : x.b2.ok) : splice x.b2.cl.toArray 112 (bv (zeros 16)) = x.bare.cl.toArray := bare_three x.b2 h1
theorem name_chain (x : Name) : x.cl.toArray[0]? = some (.string x.chain) := rfl
theorem info_name128 : (Try.prog.info? 35).map (·.size) = some 128 := by kernel_rfl
def zeroName : Name := ⟨ByteArray.empty, ⟨0, 0, 0, 0, 0, 0, zeros 16⟩, zeroVote, zeroProposal⟩
theorem zeroName_len : zeroName.cl.length = 128 := by rfl
theorem tx_one (x : Tx) : ∀ u ∈ x.cl, u.oneCell' = true := by
  intro u hu
  simp only [Tx.cl, List.mem_append, List.mem_cons, List.not_mem_nil, or_false] at hu
  rcases hu with (rfl | rfl | rfl | rfl | rfl | rfl) | hu
  · rfl
  · rfl
  · rfl
  · rfl
  · rfl
  · rfl
  · exact bv_one _ u hu
theorem name_one (x : Name) : ∀ u ∈ x.cl, u.oneCell' = true := by
  intro u hu
  simp only [Name.cl, List.mem_append, List.mem_cons, List.not_mem_nil, or_false] at hu
  rcases hu with ((rfl | hu) | hu) | hu
  · rfl
  · exact tx_one _ u hu
  · exact vote_one _ u (by simpa using hu)
  · exact proposal_one _ u (by simpa using hu)

set_option maxHeartbeats 4000000 in
theorem unsealed_any (w : World) (x : Name) (hx : x.ok) :
    Calls Try.prog 24 #[.agg x.cl.toArray] w fun e w' => e = .returned (.agg x.bare.cl.toArray) ∧ Below w.heap.size w w' := by
  have HX := Lib.hid hx
  have L0 := Lib.hid (x.cl_len hx)
  have L3 := Lib.hid (x.bare.cl_len (bare_ok hx))
  have HZ := Lib.hid zeroName_len
  have O1 := Lib.hid (show Name.ok x.b1 from ⟨hx.chain, (bare_ok hx).tx, hx.vote, hx.prop⟩)
  have O2 := Lib.hid (show Name.ok x.b2 from ⟨hx.chain, (bare_ok hx).tx, (bare_ok hx).vote, hx.prop⟩)
  have L1 := Lib.hid (Name.cl_len _ O1.out)
  have L2 := Lib.hid (Name.cl_len _ O2.out)
  clear hx
  go_enter Try.func24, Try.ntmps24
  go_wp2_with (first
    | (with_reducible show wpList _ _ _ (Oper.mk _ (Op.box _ _) _ _ _ _ :: _) _ _; go_must (refine wpList_box_bk rfl _ _ rfl _ rfl ?_; intro g w1 hk hb hg hs; have A1 := Lib.hid hb; have G1 := Lib.hid hg; have K1 := Lib.hid (bk_eq (cs' := x.cl.toArray) hk rfl); clear hk hb hg hs))
    | (with_reducible show wpList _ _ _ (Oper.mk _ (Op.alloc _) _ _ _ _ :: _) _ _; go_must (refine wpList_alloc_bk rfl _ rfl (.agg zeroName.cl.toArray) (by kernel_rfl) ?_; intro b w2 hk hb hg hs; have A2 := Lib.hid (A1.out.trans (hb.mono A1.out.size)); have G2 := Lib.hid (show b = w1.heap.size ∧ w2.heap.size = w1.heap.size + 1 by have := hg; have := hs; omega); have K2 := Lib.hid (bk_eq (cs' := zeroName.cl.toArray) hk rfl); have K12 := Lib.hid (K1.out.below hb K1.out.lt); clear hk hb hg hs))
    | (with_reducible show wpList _ _ _ (Oper.mk _ (Op.store 25 (.tmp 5) _) _ _ _ _ :: _) _ _; go_must (refine wpList_st rfl 25 _ _ rfl g 7 rfl (.agg (bv (zeros 16)).toArray) rfl (bv (zeros 16)) rfl 16 info_seal16 zl16 _ _ K12.out (by simp [L0.out]) (bv_one _) ?_; intro w3 hk hg hs; have A3 := Lib.hid (A2.out.grown hg A2.out.size (fun k hk => by cases hk; have := G1.out; omega)); have J3 := Lib.hid (K2.out.grown hg (fun h => by cases h; have := G2.out; have := K1.out.lt; omega)); have K3 := Lib.hid (bk_eq hk (bare_one x HX.out)); clear hk hg hs))
    | (with_reducible show wpList _ _ _ (Oper.mk _ (Op.store 25 (.tmp 8) _) _ _ _ _ :: _) _ _; go_must (refine wpList_st rfl 25 _ _ rfl g 60 rfl (.agg (bv (zeros 16)).toArray) rfl (bv (zeros 16)) rfl 16 info_seal16 zl16 _ _ K3.out (by simp [L1.out]) (bv_one _) ?_; intro w4 hk hg hs; have A4 := Lib.hid (A3.out.grown hg A3.out.size (fun k hk => by cases hk; have := G1.out; omega)); have J4 := Lib.hid (J3.out.grown hg (fun h => by cases h; have := G2.out; have := K1.out.lt; omega)); have K4 := Lib.hid (bk_eq hk (bare_two' x HX.out O1.out)); clear hk hg hs))
    | (with_reducible show wpList _ _ _ (Oper.mk _ (Op.store 25 (.tmp 11) _) _ _ _ _ :: _) _ _; go_must (refine wpList_st rfl 25 _ _ rfl g 112 rfl (.agg (bv (zeros 16)).toArray) rfl (bv (zeros 16)) rfl 16 info_seal16 zl16 _ _ K4.out (by simp [L2.out]) (bv_one _) ?_; intro w5 hk hg hs; have A5 := Lib.hid (A4.out.grown hg A4.out.size (fun k hk => by cases hk; have := G1.out; omega)); have J5 := Lib.hid (J4.out.grown hg (fun h => by cases h; have := G2.out; have := K1.out.lt; omega)); have K5 := Lib.hid (bk_eq (cs' := x.bare.cl.toArray) hk (bare_three' x HX.out O2.out)); clear hk hg hs))
    | (with_reducible show wpList _ _ _ (Oper.mk _ (Op.load 35 _) _ _ _ _ :: _) _ _; go_must (refine wpList_load_part rfl 35 _ rfl g 0 128 rfl _ _ _ K5.out Try.underlying35 rfl info_name128 (by simp [L3.out]) _ (cl_all L3.out) ?_))
    | (with_reducible show wpList _ _ _ (Oper.mk _ (Op.store 35 _ _) _ _ _ _ :: _) _ _; go_must (refine wpList_st rfl 35 _ _ rfl b 0 rfl (.agg x.bare.cl.toArray) rfl x.bare.cl rfl 128 info_name128 L3.out _ _ J5.out (by have := HZ.out; simp [this]) (name_one _) ?_; intro w6 hk hg hs; have A6 := Lib.hid (A5.out.grown hg A5.out.size (fun k hk => by cases hk; have := G2.out; have := G1.out; have := K1.out.lt; omega)); have J6 := Lib.hid (bk_eq hk (splice_same L3.out HZ.out)); clear hk hg hs)))
  exact bodyPost_cell Try.results24 rfl J6.out Try.underlying35 rfl info_name128 (by simp [L3.out]) rfl ⟨rfl, A6.out⟩

/-- the error and the bytes of what is signed of the kind m -/
def kErr (m : Int) (x : Name) : Int := if m = 0 then saidErr x.chain (plainTx x.tx) else if m = 1 then saidErr x.chain (plainVote x.vote) else saidErr x.chain (plainProposal x.prop)
def kBytes (m : Int) (x : Name) : List UInt8 := if m = 0 then bytesTx x.chain x.tx else if m = 1 then bytesVote x.chain x.vote else bytesProposal x.chain x.prop

theorem info_Tx' : (Try.prog.info? 27).map (·.size) = some 22 := by kernel_rfl
theorem res_mono {w w' : World} {E : Int} {L : List UInt8} {e : Ending} (B : Below w.heap.size w w') (h : (E ≠ 0 ∧ e = .returned (.tuple #[.slice none 0 0, .int .i64 E])) ∨ (E = 0 ∧ ∃ v, e = .returned (.tuple #[v, .int .i64 0]) ∧ Bs w' w.heap.size v L)) : BytesRes w E L e w' := ⟨B, h⟩
set_option maxHeartbeats 8000000 in
theorem lawSaid_any (w : World) (j : Int) (hj : I64 j) (x : Name) (hx : x.ok) :
    Calls Try.prog 23 #[.int .i64 j, .agg x.cl.toArray] w (BytesRes w (kErr (modz j) x) (kBytes (modz j) x)) := by
  have HX := Lib.hid hx
  have HJ := Lib.hid hj
  have L0 := Lib.hid (x.cl_len hx)
  clear hx hj
  rcases modz_in j with hm | hm | hm
  · have hE : kErr (modz j) x = saidErr x.chain (plainTx x.tx) := by rw [hm]; rfl
    have hL : kBytes (modz j) x = bytesTx x.chain x.tx := by rw [hm]; rfl
    rw [hE, hL]
    clear hE hL
    have HM := Lib.hid hm
    clear hm
    have T := Lib.hid (fun (wx : World) => TxBytes_any wx x.chain x.tx HX.out.tx HX.out.chain)
    generalize saidErr x.chain (plainTx x.tx) = E at *
    generalize bytesTx x.chain x.tx = L at *
    go_enter Try.func23, Try.ntmps23
    go_wp2_with (first
      | (with_reducible show wpList _ _ _ (Oper.mk _ (Op.box _ _) _ _ _ _ :: _) _ _; go_must (refine wpList_box_bk rfl _ _ rfl _ rfl ?_; intro g w1 hk hb hg hs; have A1 := Lib.hid hb; have K1 := Lib.hid (bk_eq (cs' := x.cl.toArray) hk rfl); have c1 : w1.cell? ⟨g, 0, none⟩ = some (.string x.chain) := (K1.out.cell 0).trans (name_chain x); have G1 := Lib.hid hg; clear hk hb hg hs))
      | (go_at_call 25; go_must (refine (mod_any _ _ HJ.out).mono ?_); rintro e wx ⟨rfl, rfl⟩; rw [HM.out])
      | (with_reducible show wpList _ _ _ (Oper.mk _ (Op.load 27 _) _ _ _ _ :: _) _ _; go_must (refine wpList_load_part rfl 27 _ rfl g 1 22 rfl _ _ _ K1.out Try.underlying27 rfl info_Tx' (by have := L0.out; simp [this]) _ (x.cl_tx HX.out) ?_)))
    refine (T.out w1).mono ?_
    rintro e w2 ⟨hb, ⟨hz, rfl⟩ | ⟨hz, v, rfl, hv⟩⟩
    · have B2 := Lib.hid (A1.out.trans (hb.mono A1.out.size))
      clear hb
      go_wp2_with (go_at_call 13; go_must (refine (lawNum_any _ _).mono ?_); rintro e wx ⟨rfl, rfl⟩)
      go_ret2
      exact ⟨B2.out, .inl ⟨hz, rfl⟩⟩
    · have B2 := Lib.hid (A1.out.trans (hb.mono A1.out.size))
      have V2 := Lib.hid (hv.mono A1.out.size)
      clear hb hv
      obtain ⟨Av, cv, rfl⟩ := V2.out.form
      go_wp2_with (go_at_call 13; go_must (refine (lawNum_any _ _).mono ?_); rintro e wx ⟨rfl, rfl⟩)
      go_ret2
      exact ⟨B2.out, .inr ⟨hz, _, rfl, V2.out⟩⟩
  · have hE : kErr (modz j) x = saidErr x.chain (plainVote x.vote) := by rw [hm]; rfl
    have hL : kBytes (modz j) x = bytesVote x.chain x.vote := by rw [hm]; rfl
    rw [hE, hL]
    clear hE hL
    have HM := Lib.hid hm
    clear hm
    have T := Lib.hid (fun (wx : World) => VoteBytes_any wx x.chain x.vote HX.out.vote HX.out.chain)
    generalize saidErr x.chain (plainVote x.vote) = E at *
    generalize bytesVote x.chain x.vote = L at *
    go_enter Try.func23, Try.ntmps23
    go_wp2_with (first
      | (with_reducible show wpList _ _ _ (Oper.mk _ (Op.box _ _) _ _ _ _ :: _) _ _; go_must (refine wpList_box_bk rfl _ _ rfl _ rfl ?_; intro g w1 hk hb hg hs; have A1 := Lib.hid hb; have K1 := Lib.hid (bk_eq (cs' := x.cl.toArray) hk rfl); have c1 : w1.cell? ⟨g, 0, none⟩ = some (.string x.chain) := (K1.out.cell 0).trans (name_chain x); have G1 := Lib.hid hg; clear hk hb hg hs))
      | (go_at_call 25; go_must (refine (mod_any _ _ HJ.out).mono ?_); rintro e wx ⟨rfl, rfl⟩; rw [HM.out])
      | (with_reducible show wpList _ _ _ (Oper.mk _ (Op.load 31 _) _ _ _ _ :: _) _ _; go_must (refine wpList_load_part rfl 31 _ rfl g 23 53 rfl _ _ _ K1.out Try.underlying31 rfl info_vote53 (by have := L0.out; simp [this]) _ (x.cl_vote HX.out) ?_)))
    refine (T.out w1).mono ?_
    rintro e w2 ⟨hb, ⟨hz, rfl⟩ | ⟨hz, v, rfl, hv⟩⟩
    · have B2 := Lib.hid (A1.out.trans (hb.mono A1.out.size))
      clear hb
      go_wp2_with (go_at_call 13; go_must (refine (lawNum_any _ _).mono ?_); rintro e wx ⟨rfl, rfl⟩)
      go_ret2
      exact ⟨B2.out, .inl ⟨hz, rfl⟩⟩
    · have B2 := Lib.hid (A1.out.trans (hb.mono A1.out.size))
      have V2 := Lib.hid (hv.mono A1.out.size)
      clear hb hv
      obtain ⟨Av, cv, rfl⟩ := V2.out.form
      go_wp2_with (go_at_call 13; go_must (refine (lawNum_any _ _).mono ?_); rintro e wx ⟨rfl, rfl⟩)
      go_ret2
      exact ⟨B2.out, .inr ⟨hz, _, rfl, V2.out⟩⟩
  · have hE : kErr (modz j) x = saidErr x.chain (plainProposal x.prop) := by rw [hm]; rfl
    have hL : kBytes (modz j) x = bytesProposal x.chain x.prop := by rw [hm]; rfl
    rw [hE, hL]
    clear hE hL
    have HM := Lib.hid hm
    clear hm
    have T := Lib.hid (fun (wx : World) => ProposalBytes_any wx x.chain x.prop HX.out.prop HX.out.chain)
    generalize saidErr x.chain (plainProposal x.prop) = E at *
    generalize bytesProposal x.chain x.prop = L at *
    go_enter Try.func23, Try.ntmps23
    go_wp2_with (first
      | (with_reducible show wpList _ _ _ (Oper.mk _ (Op.box _ _) _ _ _ _ :: _) _ _; go_must (refine wpList_box_bk rfl _ _ rfl _ rfl ?_; intro g w1 hk hb hg hs; have A1 := Lib.hid hb; have K1 := Lib.hid (bk_eq (cs' := x.cl.toArray) hk rfl); have c1 : w1.cell? ⟨g, 0, none⟩ = some (.string x.chain) := (K1.out.cell 0).trans (name_chain x); have G1 := Lib.hid hg; clear hk hb hg hs))
      | (go_at_call 25; go_must (refine (mod_any _ _ HJ.out).mono ?_); rintro e wx ⟨rfl, rfl⟩; rw [HM.out])
      | (with_reducible show wpList _ _ _ (Oper.mk _ (Op.load 33 _) _ _ _ _ :: _) _ _; go_must (refine wpList_load_part rfl 33 _ rfl g 76 52 rfl _ _ _ K1.out Try.underlying33 rfl info_proposal52 (by have := L0.out; simp [this]) _ (x.cl_prop HX.out) ?_)))
    refine (T.out w1).mono ?_
    rintro e w2 ⟨hb, ⟨hz, rfl⟩ | ⟨hz, v, rfl, hv⟩⟩
    · have B2 := Lib.hid (A1.out.trans (hb.mono A1.out.size))
      clear hb
      go_wp2_with (go_at_call 13; go_must (refine (lawNum_any _ _).mono ?_); rintro e wx ⟨rfl, rfl⟩)
      go_ret2
      exact ⟨B2.out, .inl ⟨hz, rfl⟩⟩
    · have B2 := Lib.hid (A1.out.trans (hb.mono A1.out.size))
      have V2 := Lib.hid (hv.mono A1.out.size)
      clear hb hv
      obtain ⟨Av, cv, rfl⟩ := V2.out.form
      go_wp2_with (go_at_call 13; go_must (refine (lawNum_any _ _).mono ?_); rintro e wx ⟨rfl, rfl⟩)
      go_ret2
      exact ⟨B2.out, .inr ⟨hz, _, rfl, V2.out⟩⟩
end Go.Proofs.Ytocgcalaiejbiaa

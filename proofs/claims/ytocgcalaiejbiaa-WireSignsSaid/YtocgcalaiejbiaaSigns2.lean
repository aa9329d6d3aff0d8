/-
  The walk of WireSigns: true, and nothing that was there is changed. Condition: each number fits its kind.
-/
import Derived.Test.YtocgcalaiejbiaaSigns
namespace Go.Proofs.Ytocgcalaiejbiaa
open Go.RowKit
set_option maxRecDepth 100000

theorem info_Proposal' : (Try.prog.info? 33).map (·.size) = some 52 := by kernel_rfl

set_option maxHeartbeats 4000000 in
theorem walk_signs (w : World) (x : Name) (hx : x.ok) :
    Calls Try.prog 3 #[.agg x.cl.toArray] w fun e w' => e = .returned (.bool true) ∧ Below w.heap.size w w' := by
  have Hlen := Lib.hid (x.cl_len hx)
  have HX := Lib.hid hx; clear hx
  have LT := Lib.hid (ansTx_len x HX.out)
  have LV := Lib.hid (ansVote_len x HX.out)
  have LP := Lib.hid (ansProposal_len x HX.out)
  go_enter Try.func3, Try.ntmps3
  go_wp2_with (with_reducible show wpList _ _ _ (Oper.mk _ (Op.box _ _) _ _ _ _ :: _) _ _; refine wpList_box_bk rfl _ _ rfl _ rfl ?_)
  intro g w1 hk1 b1 hg hs
  have Hg := Lib.hid hg; clear hg
  have Hs := Lib.hid hs; clear hs
  have s1 := b1.size
  have c1 : w1.cell? ⟨g, 0, none⟩ = some (.string x.chain) := hk1.cell 0
  go_wp2_with (with_reducible show wpList _ _ _ (Oper.mk _ (Op.load 27 _) _ _ _ _ :: _) _ _; refine wpList_load_part rfl 27 _ rfl g 1 22 rfl _ _ _ hk1 Try.underlying27 rfl info_Tx (by have := Hlen.out; simp [this]) _ (x.cl_tx HX.out) ?_)
  refine (TxBytes_any w1 x.chain x.tx HX.out.tx HX.out.chain).mono ?_
  intro e w2 hres
  obtain ⟨b2, Aa, ca, rfl, ha⟩ := res_ans hres
  clear hres
  have hk2 := hk1.below b2 hk1.lt
  have c2 : w2.cell? ⟨g, 0, none⟩ = some (.string x.chain) := hk2.cell 0
  go_wp2_with (with_reducible show wpList _ _ _ (Oper.mk _ (Op.load 31 _) _ _ _ _ :: _) _ _; refine wpList_load_part rfl 31 _ rfl g 23 53 rfl _ _ _ hk2 Try.underlying31 rfl info_Vote (by have := Hlen.out; simp [this]) _ (x.cl_vote HX.out) ?_)
  refine (VoteBytes_any w2 x.chain x.vote HX.out.vote HX.out.chain).mono ?_
  intro e w3 hres
  obtain ⟨b3, Ab, cb, rfl, hb⟩ := res_ans hres
  clear hres
  have hk3 := hk2.below b3 hk2.lt
  have c3 : w3.cell? ⟨g, 0, none⟩ = some (.string x.chain) := hk3.cell 0
  go_wp2_with (with_reducible show wpList _ _ _ (Oper.mk _ (Op.load 33 _) _ _ _ _ :: _) _ _; refine wpList_load_part rfl 33 _ rfl g 76 52 rfl _ _ _ hk3 Try.underlying33 rfl info_Proposal' (by have := Hlen.out; simp [this]) _ (x.cl_prop HX.out) ?_)
  refine (ProposalBytes_any w3 x.chain x.prop HX.out.prop HX.out.chain).mono ?_
  intro e w4 hres
  obtain ⟨b4, Ac, cc, rfl, hc⟩ := res_ans hres
  clear hres
  have hk4 := hk3.below b4 hk3.lt
  have c4 : w4.cell? ⟨g, 0, none⟩ = some (.string x.chain) := hk4.cell 0
  go_wp2_with (with_reducible show wpList _ _ _ (Oper.mk _ (Op.load 27 _) _ _ _ _ :: _) _ _; refine wpList_load_part rfl 27 _ rfl g 1 22 rfl _ _ _ hk4 Try.underlying27 rfl info_Tx (by have := Hlen.out; simp [this]) _ (x.cl_tx HX.out) ?_)
  refine (rTxBytes_any w4 x.chain x.tx HX.out.tx HX.out.chain).mono ?_
  intro e w5 hres
  obtain ⟨b5, Ap, cp, rfl, hp⟩ := res_ans hres
  clear hres
  have hk5 := hk4.below b5 hk4.lt
  have c5 : w5.cell? ⟨g, 0, none⟩ = some (.string x.chain) := hk5.cell 0
  go_wp2_with (with_reducible show wpList _ _ _ (Oper.mk _ (Op.load 31 _) _ _ _ _ :: _) _ _; refine wpList_load_part rfl 31 _ rfl g 23 53 rfl _ _ _ hk5 Try.underlying31 rfl info_Vote (by have := Hlen.out; simp [this]) _ (x.cl_vote HX.out) ?_)
  refine (rVoteBytes_any w5 x.chain x.vote HX.out.vote HX.out.chain).mono ?_
  intro e w6 hres
  obtain ⟨b6, Aq, cq, rfl, hq⟩ := res_ans hres
  clear hres
  have hk6 := hk5.below b6 hk5.lt
  have c6 : w6.cell? ⟨g, 0, none⟩ = some (.string x.chain) := hk6.cell 0
  go_wp2_with (with_reducible show wpList _ _ _ (Oper.mk _ (Op.load 33 _) _ _ _ _ :: _) _ _; refine wpList_load_part rfl 33 _ rfl g 76 52 rfl _ _ _ hk6 Try.underlying33 rfl info_Proposal' (by have := Hlen.out; simp [this]) _ (x.cl_prop HX.out) ?_)
  refine (rProposalBytes_any w6 x.chain x.prop HX.out.prop HX.out.chain).mono ?_
  intro e w7 hres
  obtain ⟨b7, Ar, cr, rfl, hr⟩ := res_ans hres
  clear hres
  have hk7 := hk6.below b7 hk6.lt
  have s2 := b2.size
  have s3 := b3.size
  have s4 := b4.size
  have s5 := b5.size
  have s6 := b6.size
  have s7 := b7.size
  have ha7 : Bs w7 w1.heap.size _ _ := (((((ha.below b3).below b4).below b5).below b6).below b7)
  have hb7 : Bs w7 w2.heap.size _ _ := ((((hb.below b4).below b5).below b6).below b7)
  have hc7 : Bs w7 w3.heap.size _ _ := (((hc.below b5).below b6).below b7)
  have hp7 : Bs w7 w4.heap.size _ _ := ((hp.below b6).below b7)
  have hq7 : Bs w7 w5.heap.size _ _ := (hq.below b7)
  have hr7 : Bs w7 w6.heap.size _ _ := hr
  have la := bs_lt ha
  have lb := bs_lt hb
  have lc := bs_lt hc
  clear ha hb hc hp hq hr c1 c2 c3 c4 c5 c6 hk2 hk3 hk4 hk5 hk6 hk1
  generalize hea : saidErr x.chain (plainTx x.tx) = ea at *
  generalize heb : saidErr x.chain (plainVote x.vote) = eb at *
  generalize hec : saidErr x.chain (plainProposal x.prop) = ec at *
  generalize hla : ansB ea (bytesTx x.chain x.tx) = ya at *
  generalize hlb : ansB eb (bytesVote x.chain x.vote) = yb at *
  generalize hlc : ansB ec (bytesProposal x.chain x.prop) = yc at *
  have HEB := Lib.hid heb; clear heb
  have HLB := Lib.hid hlb; clear hlb
  clear hea hec hla hlc
  have mb : ∀ ys : List UInt8, (ys == ys) = true := fun ys => beq_self_eq_true ys
  have MB := Lib.hid mb; clear mb
  go_wp2_with (first
    | (go_at_call 13; go_must (refine (lawNum_any _ _).mono ?_); rintro e wx ⟨rfl, rfl⟩)
    | (go_at_call 14; fail))
  have r200 : ∀ ys : List UInt8, ys.length ≤ 200 → ys.length ≤ reach47 + 100 := fun ys h => by unfold reach47; omega
  have R200 := Lib.hid r200; clear r200
  refine (sameBytes_any w7 Aa Ap _ ca _ cp ya ya rfl rfl ha7.rd hp7.rd (R200.out _ LT.out)).mono ?_
  rintro e w8 ⟨rfl, b8⟩
  rw [MB.out]
  have hb8 := hb7.below b8
  have hq8 := hq7.below b8
  go_wp2_with fail
  refine (sameBytes_any w8 Ab Aq _ cb _ cq yb yb rfl rfl hb8.rd hq8.rd (R200.out _ LV.out)).mono ?_
  rintro e w9 ⟨rfl, b9⟩
  rw [MB.out]
  have hc9 := (hc7.below b8).below b9
  have hr9 := (hr7.below b8).below b9
  go_wp2_with fail
  refine (sameBytes_any w9 Ac Ar _ cc _ cr yc yc rfl rfl hc9.rd hr9.rd (R200.out _ LP.out)).mono ?_
  rintro e w10 ⟨rfl, b10⟩
  rw [MB.out]
  have ha10 := ((ha7.below b8).below b9).below b10
  have hb10 := (hb8.below b9).below b10
  have hc10 := hc9.below b10
  have hq10 := (hq8.below b9).below b10
  have hk8 := hk7.below b8 hk7.lt
  have hk9 := hk8.below b9 hk8.lt
  have hk10 := hk9.below b10 hk9.lt
  have s8 := b8.size
  have s9 := b9.size
  have s10 := b10.size
  have reach : ∀ ys : List UInt8, ys.length ≤ 200 → ys.length ≤ reach47 := fun ys h => by unfold reach47; omega
  have REACH := Lib.hid reach; clear reach
  clear ha7 hb7 hc7 hp7 hq7 hr7 hb8 hq8 hc9 hr9 hk7 hk8 hk9
  go_wp2_with fail
  refine (turn_any w10 _ _ _ 1 ha10.bz (REACH.out _ LT.out) (by omega)).mono ?_
  rintro e w11 ⟨⟨u, rfl⟩, g11⟩
  have gl := hk10.lt
  have hrow := ha10.blk
  have hb11 := bs_kept hb10 g11 la
  have hc11 := bs_kept hc10 g11 (fun k hk => by have := la k hk; omega)
  have hq11 := bs_kept hq10 g11 (fun k hk => by have := la k hk; omega)
  have hk11 := hk10.grown g11 (fun e => by have := hrow g e.symm; have := Hs.out; omega)
  have b11 : Below w.heap.size w w11 := ((((((((((b1.trans (b2.mono s1)).trans (b3.mono (by omega))).trans (b4.mono (by omega))).trans (b5.mono (by omega))).trans (b6.mono (by omega))).trans (b7.mono (by omega))).trans (b8.mono (by omega))).trans (b9.mono (by omega))).trans (b10.mono (by omega)))).grown g11 (by omega) (fun k hk => by have := hrow k hk; omega)
  have s11 := g11.size
  clear hrow g11 ha10 hb10 hc10 hq10 hk10
  go_wp2_with fail
  refine (turn_any w11 _ _ _ 2 hb11.bz (REACH.out _ LV.out) (by omega)).mono ?_
  rintro e w12 ⟨⟨u2, rfl⟩, g12⟩
  have hrow := hb11.blk
  have hc12 := bs_kept hc11 g12 lb
  have hq12 := bs_kept hq11 g12 (fun k hk => by have := lb k hk; omega)
  have hk12 := hk11.grown g12 (fun e => by have := hrow g e.symm; have := Hs.out; omega)
  have b12 : Below w.heap.size w w12 := b11.grown g12 (by omega) (fun k hk => by have := hrow k hk; omega)
  have s12 := g12.size
  clear hrow g12 hb11 hc11 hq11 hk11 b11
  go_wp2_with fail
  refine (turn_any w12 _ _ _ 3 hc12.bz (REACH.out _ LP.out) (by omega)).mono ?_
  rintro e w13 ⟨⟨u3, rfl⟩, g13⟩
  have hrow := hc12.blk
  have hq13 := bs_kept hq12 g13 (fun k hk => by have := lc k hk; omega)
  have hk13 := hk12.grown g13 (fun e => by have := hrow g e.symm; have := Hs.out; omega)
  have b13 : Below w.heap.size w w13 := b12.grown g13 (by omega) (fun k hk => by have := hrow k hk; omega)
  have s13 := g13.size
  clear hrow g13 hc12 hq12 hk12 b12
  have c13 : w13.cell? ⟨g, 0, none⟩ = some (.string x.chain) := hk13.cell 0
  go_wp2_with (with_reducible show wpList _ _ _ (Oper.mk _ (Op.load 31 _) _ _ _ _ :: _) _ _; refine wpList_load_part rfl 31 _ rfl g 23 53 rfl _ _ _ hk13 Try.underlying31 rfl info_Vote (by have := Hlen.out; simp [this]) _ (x.cl_vote HX.out) ?_)
  refine (VoteBytes_any w13 x.chain x.vote HX.out.vote HX.out.chain).mono ?_
  intro e w14 hres
  rw [HEB.out] at hres
  obtain ⟨b14, Ad, cd, rfl, hd⟩ := res_ans hres
  rw [HLB.out] at hd
  clear hres c13
  rw [HLB.out]
  have hq14 := hq13.below b14
  go_wp2_with (go_at_call 13; go_must (refine (lawNum_any _ _).mono ?_); rintro e wx ⟨rfl, rfl⟩)
  refine (sameBytes_any w14 Ad Aq _ cd _ cq yb yb rfl rfl hd.rd hq14.rd (R200.out _ LV.out)).mono ?_
  rintro e w15 ⟨rfl, b15⟩
  rw [MB.out]
  go_wp2
  go_ret
  have s14 := b14.size
  exact ⟨rfl, (b13.trans (b14.mono (by omega))).trans (b15.mono (by omega))⟩
end Go.Proofs.Ytocgcalaiejbiaa

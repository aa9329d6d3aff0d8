/-
  A proposal laid down with its seal; EncodeProposal. Conditions: each number fits its kind; the Writer has room.
  The law's blocks: are they alike? Conditions: each number fits its kind; the lists lie in the world.
  The forms of messages and inputs say where they end. No program here.
-/
import Derived.Test.YtlhnhjglcbggmaaGreatRRY16
import Derived.Test.YtlhnhjglcbggmaaGreatRRY12
import Derived.Test.YtlhnhjglcbggmaaGreatRRY17
namespace Go.Proofs.YtlhnhjglcbggmaaGreatRR
set_option linter.unusedSimpArgs false
set_option linter.unusedVariables false
open Go.RowKit
set_option maxRecDepth 100000

theorem cl_seal_atP (x : Proposal) (hi : x.id.length = 32) (j : Nat) (u : Value) (h : (bv x.sl)[j]? = some u) : x.cl.toArray[36 + j]? = some u := by
 have e : x.cl = ([.int .u64 x.height, .int .i64 x.round, .int .i64 x.valid] ++ bv x.id ++ [.int .u64 x.frm]) ++ bv x.sl := by simp [Proposal.cl]
 have el : ([.int .u64 x.height, .int .i64 x.round, .int .i64 x.valid] ++ bv x.id ++ [.int .u64 x.frm] : List Value).length = 36 := by simp [bv_length, hi]
 rw [List.getElem?_toArray, e, List.getElem?_append_right (by omega), el, Nat.add_sub_cancel_left]
 exact h
theorem info_PropB : (Tryz.prog.info? 33).map (·.size) = some 52 := by kernel_rfl
set_option maxHeartbeats 1000000 in
theorem putProposal_raw (w : World) (B g : Nat) (bs : List UInt8) (x : Proposal) (hx : x.ok) (hp : ProposalB x) (hw : Wr w B g bs) (hb : bs.length + 200 ≤ room46) :
  Calls Tryz.prog 83 #[.pointer (some ⟨g, 0, none⟩), .agg x.cl.toArray, .func (.func 77) #[.pointer (some ⟨g, 0, none⟩)] #[]] w fun e w' => e = .returned (.tuple #[]) ∧ Wr w' B g (bs ++ (encProposal x ++ x.sl)) ∧ Eff B WrT w w' := by
 obtain ⟨h1, h2, r1, r2, v1, v2, _, f1, f2⟩ := hp
 have lh := varB_int (n := x.height) (by omega) (by unfold two64; omega)
 have lr := varB_int (n := x.round) (by omega) (by unfold two64; omega)
 have lv := varB_int (n := x.valid + 1) (by omega) (by unfold two64; omega)
 have lf := varB_int (n := x.frm) (by omega) (by unfold two64; omega)
 have li := hx.id
 have Ls := Lib.hid hx.sl
 have F2 := Lib.hid f2; clear f2
 have Li := Lib.hid li; clear li
 go_enter Tryz.func83, Tryz.ntmps83
 go_wp2_with (refine wpList_box_bk rfl _ _ rfl _ rfl ?_)
 intro bx w1 hk1 hbl hg hs
 clear hg hs
 have hw1 := hw.below hbl
 have c0 : w1.cell? ⟨bx, 0, none⟩ = some (.int .u64 x.height) := hk1.cell 0
 go_wp2_with fail
 refine (var_int _ B g _ x.height hw1 (by omega) (by unfold two64; omega) (by omega)).mono ?_
 rintro e w2 ⟨rfl, hw2, e2⟩
 have hk2 := hk1.effT e2 (by decide)
 have c1 : w2.cell? ⟨bx, 1, none⟩ = some (.int .i64 x.round) := hk2.cell 1
 go_wp2_with fail
 refine (var_int _ B g _ x.round hw2 (by omega) (by unfold two64; omega) (by simp only [List.length_append]; omega)).mono ?_
 rintro e w3 ⟨rfl, hw3, e3⟩
 have hk3 := hk2.effT e3 (by decide)
 have c2 : w3.cell? ⟨bx, 2, none⟩ = some (.int .i64 x.valid) := hk3.cell 2
 go_wp2_with fail
 refine (var_int _ B g _ (x.valid + 1) hw3 (by omega) (by unfold two64; omega) (by simp only [List.length_append]; omega)).mono ?_
 rintro e w4 ⟨rfl, hw4, e4⟩
 have hk4 := hk3.effT e4 (by decide)
 go_wp2_with (refine wpList_load_part rfl 29 _ rfl bx 3 32 rfl _ _ _ hk4 Tryz.underlying29 rfl info_hash (by have := x.cl_len hx; simp [this]) _ (x.cl_id hx.id) ?_)
 refine (putHash_any _ B g _ x.id hw4 Li.out (by simp only [List.length_append]; omega)).mono ?_
 rintro e w5 ⟨rfl, hw5, e5⟩
 have hk5 := hk4.effT e5 (by decide)
 have c4 : w5.cell? ⟨bx, 35, none⟩ = some (.int .u64 x.frm) := (hk5.cell 35).trans (x.cl_35 hx.id)
 go_wp2_with fail
 refine (var_int _ B g _ x.frm hw5 (by omega) (by unfold two64; exact F2.out) (by simp only [List.length_append, Li.out]; omega)).mono ?_
 rintro e w7 ⟨rfl, hw7, e7⟩
 have hk7 := hk5.effT e7 (by decide)
 have hr7 : Rd w7 (some ⟨bx, 36, none⟩) (bv x.sl) := Rd.of_bk hk7 36 _ (fun j u hu => cl_seal_atP x hx.id j u hu)
 go_wp2_with fail
 refine (raw_any _ B g _ x.sl _ 16 16 hw7 hr7 Ls.out (by simp only [List.length_append, List.length_cons, List.length_nil, Li.out]; omega)).mono ?_
 rintro e w8 ⟨rfl, hw8, e8⟩
 go_wp2
 go_end0
 refine ⟨rfl, ?_, (Eff.of_below hbl _ _).trans (e2.trans (e3.trans (e4.trans (e5.trans (e7.trans e8)))))⟩
 unfold encProposal
 simpa only [List.append_assoc] using hw8

set_option maxHeartbeats 1000000 in
theorem putSealedProposal_any (w : World) (B g : Nat) (bs : List UInt8) (x : Proposal) (hx : x.ok) (hp : ProposalB x) (hw : Wr w B g bs) (hb : bs.length + 200 ≤ room46) :
  Calls Tryz.prog 37 #[.pointer (some ⟨g, 0, none⟩), .agg x.cl.toArray] w fun e w' => e = .returned (.tuple #[]) ∧ Wr w' B g (bs ++ formProposal x) ∧ Eff B WrT w w' := by
 have HP := Lib.hid hp
 have HB := Lib.hid hb
 clear hp hb
 go_enter Tryz.func37, Tryz.ntmps37
 go_wp2_with (with_reducible show wpList _ _ _ (Oper.mk _ (Op.box _ _) _ _ _ _ :: _) _ _; refine wpList_box_bk rfl _ _ rfl _ rfl ?_)
 intro bx w1 hk hbl hg hs
 clear hg hs
 have hw1 := hw.below hbl
 go_wp2_with (with_reducible show wpList _ _ _ (Oper.mk _ (Op.load _ _) _ _ _ _ :: _) _ _; refine wpList_load_part rfl 33 _ rfl bx 0 52 rfl _ _ _ hk Tryz.underlying33 rfl info_PropB (by have := x.cl_len hx; simp [Value.cells, this]) _ (cl_allN (x.cl_len hx)) ?_)
 refine (putProposal_raw w1 B g bs x hx HP.out hw1 HB.out).mono ?_
 rintro e w2 ⟨rfl, hw2, e2⟩
 go_wp2
 go_end0
 exact ⟨rfl, hw2, (Eff.of_below hbl _ _).trans e2⟩

set_option maxHeartbeats 2000000 in
theorem encodeProposal_any (w : World) (x : Proposal) (hx : x.ok) :
  Calls Tryz.prog 35 #[.agg x.cl.toArray, .int .i64 9223372036854775807, .func (.func 36) #[] #[], .func (.func 37) #[] #[]] w (BytesRes w (plainProposal x) (formProposal x)) := by
 have HX := Lib.hid hx
 have HL := Lib.hid (x.cl_len hx)
 clear hx
 obtain ⟨F, hF⟩ : ∃ F, plainProposal x = F := ⟨_, rfl⟩
 have HF := Lib.hid hF
 rw [hF]
 clear hF
 by_cases hf : F = 0
 ·have HB := Lib.hid (proposalB HX.out (HF.out.trans hf))
  have f1 : (F != 0) = false := by simp [hf]
  have f2 : (F == 0) = true := by simp [hf]
  have HZ := Lib.hid hf
  clear hf
  go_enter Tryz.func35, Tryz.ntmps35
  go_wp2_with (first
   | (with_reducible show wpList _ _ _ (Oper.mk _ (Op.box _ _) _ _ _ _ :: _) _ _; refine wpList_box_bk rfl _ _ rfl _ rfl ?_; intro bx w1 hk hbl hg hs; have HK1 := Lib.hid (bk_eqT (cs' := x.cl.toArray) hk rfl); have HB1 := Lib.hid hbl; clear hk hbl hg hs)
   | (with_reducible show wpList _ _ _ (Oper.mk (some 15) (Op.load _ _) _ _ _ _ :: _) _ _; refine wpList_load_part rfl 33 _ rfl bx 0 52 rfl _ _ _ HK1.out Tryz.underlying33 rfl info_PropB (by simp [HL.out]) _ (cl_allN HL.out) ?_))
  refine (plainProposal_any w1 x HX.out).mono ?_
  rintro e w2 ⟨rfl, e2⟩
  rw [HF.out]
  have HB2 := Lib.hid (HB1.out.trans (e2.mono HB1.out.size))
  have HK2 := Lib.hid (HK1.out.below e2 HK1.out.lt)
  clear e2 HB1 HK1
  go_wp2_with fail
  refine (newWriter_any w2).mono ?_
  rintro e w3 ⟨g, rfl, hw3, e3⟩
  have HK3 := Lib.hid (HK2.out.below e3 HK2.out.lt)
  have HS2 := Lib.hid HB2.out.size
  have HS3 := Lib.hid e3.size
  have HB3 := Lib.hid (HB2.out.trans (e3.mono HB2.out.size))
  clear e3 HK2
  go_wp2_with (with_reducible show wpList _ _ _ (Oper.mk (some 23) (Op.load _ _) _ _ _ _ :: _) _ _; refine wpList_load_part rfl 33 _ rfl bx 0 52 rfl _ _ _ HK3.out Tryz.underlying33 rfl info_PropB (by simp [HL.out]) _ (cl_allN HL.out) ?_)
  refine (putSealedProposal_any w3 _ g [] x HX.out HB.out hw3 (by unfold room46; simp)).mono ?_
  rintro e w4 ⟨rfl, hw4, e4⟩
  have hlen : ([] ++ (formProposal x)).length ≤ reach47 ∧ ([] ++ (formProposal x)).length ≤ 9223372036854775807 := by
   have h1 := formProposal_83 HX.out HB.out
   unfold reach47
   rw [List.nil_append]
   omega
  have HLEN := Lib.hid hlen
  have HB4 := Lib.hid (HB3.out.trans (e4.to HS2.out HS3.out))
  clear hlen e4
  go_wp2_with fail
  refine (out_any w4 _ g _ hw4 HLEN.out.1).mono ?_
  rintro e w5 ⟨v, rfl, hv, e5⟩
  obtain ⟨Av, cv, rfl⟩ := hv.form
  have HB5 := Lib.hid (HB4.out.trans (e5.mono HB4.out.size))
  have HV := Lib.hid (hv.mono HB4.out.size)
  have HE := Lib.hid (show ([] ++ (formProposal x) : List UInt8) = (formProposal x) from rfl)
  rw [HE.out] at HLEN HV ⊢
  obtain ⟨bs, hbs⟩ : ∃ bs, formProposal x = bs := ⟨_, rfl⟩
  rw [hbs] at HLEN HV ⊢
  obtain ⟨L, hL⟩ : ∃ L, bs.length = L := ⟨_, rfl⟩
  have HBS := Lib.hid hbs
  rw [hL] at HLEN HV ⊢
  have hl9 : ¬ ((9223372036854775807 : Int) < (L : Int)) := by have := HLEN.out.2; omega
  clear hv e5 hw3 hw4 hbs HE HLEN hL
  go_wp2
  go_ret2
  exact ⟨HB5.out, .inr ⟨HZ.out, .slice Av L cv, rfl, by rw [HBS.out]; exact HV.out⟩⟩
 ·have f1 : (F != 0) = true := by simp [hf]
  have f2 : (F == 0) = false := by simp [hf]
  have HZ := Lib.hid hf
  clear hf
  go_enter Tryz.func35, Tryz.ntmps35
  go_wp2_with (first
   | (with_reducible show wpList _ _ _ (Oper.mk _ (Op.box _ _) _ _ _ _ :: _) _ _; refine wpList_box_bk rfl _ _ rfl _ rfl ?_; intro bx w1 hk hbl hg hs; have HK1 := Lib.hid (bk_eqT (cs' := x.cl.toArray) hk rfl); have HB1 := Lib.hid hbl; clear hk hbl hg hs)
   | (with_reducible show wpList _ _ _ (Oper.mk (some 15) (Op.load _ _) _ _ _ _ :: _) _ _; refine wpList_load_part rfl 33 _ rfl bx 0 52 rfl _ _ _ HK1.out Tryz.underlying33 rfl info_PropB (by simp [HL.out]) _ (cl_allN HL.out) ?_))
  refine (plainProposal_any w1 x HX.out).mono ?_
  rintro e w2 ⟨rfl, e2⟩
  rw [HF.out]
  have HB2 := Lib.hid (HB1.out.trans (e2.mono HB1.out.size))
  clear e2
  go_wp2
  go_ret2
  exact ⟨HB2.out, .inl ⟨HZ.out, rfl⟩⟩

set_option maxHeartbeats 1000000 in
theorem EncodeProposal_any (w : World) (x : Proposal) (hx : x.ok) :
  Calls Tryz.prog 14 #[.agg x.cl.toArray] w (BytesRes w (plainProposal x) (formProposal x)) := by
 have HL := Lib.hid (x.cl_len hx)
 have HX := Lib.hid hx
 clear hx
 obtain ⟨F, hF⟩ : ∃ F, plainProposal x = F := ⟨_, rfl⟩
 have HF := Lib.hid hF
 rw [hF]
 clear hF
 go_enter Tryz.func14, Tryz.ntmps14
 go_wp2_with (first
   | (with_reducible show wpList _ _ _ (Oper.mk _ (Op.box _ _) _ _ _ _ :: _) _ _; refine wpList_box_bk rfl _ _ rfl _ rfl ?_; intro bx w1 hk hbl hg hs; have HK1 := Lib.hid (bk_eqT (cs' := x.cl.toArray) hk rfl); have HB1 := Lib.hid hbl; clear hk hbl hg hs)
   | (with_reducible show wpList _ _ _ (Oper.mk (some 4) (Op.load _ _) _ _ _ _ :: _) _ _; refine wpList_load_part rfl 33 _ rfl bx 0 52 rfl _ _ _ HK1.out Tryz.underlying33 rfl info_PropB (by simp [HL.out]) _ (cl_allN HL.out) ?_))
 refine (encodeProposal_any w1 x HX.out).mono ?_
 rw [HF.out]
 rintro e w2 ⟨e2, ⟨hz, rfl⟩ | ⟨hz, v, rfl, hv⟩⟩
 ·have HZ := Lib.hid hz
  have HB2 := Lib.hid (HB1.out.trans (e2.mono HB1.out.size))
  clear hz e2
  go_wp2
  go_ret2
  exact ⟨HB2.out, .inl ⟨HZ.out, rfl⟩⟩
 ·obtain ⟨Av, cv, rfl⟩ := hv.form
  have HZ := Lib.hid hz
  have HB2 := Lib.hid (HB1.out.trans (e2.mono HB1.out.size))
  have HV := Lib.hid (hv.mono HB1.out.size)
  clear hz e2 hv
  go_wp2
  go_ret2
  exact ⟨HB2.out, .inr ⟨HZ.out, _, rfl, HV.out⟩⟩
end Go.Proofs.YtlhnhjglcbggmaaGreatRR
namespace Go.Proofs.YtlhnhjglcbggmaaGreatRR
set_option linter.unusedSimpArgs false
set_option linter.unusedVariables false
open Go.RowKit
set_option maxRecDepth 100000

theorem flat_Tx : flat Tryz.prog 3 27 = some ([.int .i64, .int .u64, .int .u64, .int .u64, .int .u64, .int .u64] ++ List.replicate 16 (.int .u8)) := by kernel_rfl
theorem agg_Tx : isAggT Tryz.prog 27 = true := by kernel_rfl
theorem guard_Tx : Tryz.prog.eqGuardType Tryz.prog.depth 27 = false := by kernel_rfl
theorem fits_Tx {m : Tx} (h : m.ok) : Fits ([.int .i64, .int .u64, .int .u64, .int .u64, .int .u64, .int .u64] ++ List.replicate 16 (.int .u8)) m.cl := Fits.app ⟨rfl, rfl, rfl, rfl, rfl, rfl, trivial⟩ (by rw [← h.sl]; exact Fits.bytes m.sl)
def voteKs : List CK := [.int .i64, .int .u64, .int .i64] ++ List.replicate 32 (.int .u8) ++ [.int .u64, .int .u64] ++ List.replicate 16 (.int .u8)
theorem flat_Ev : flat Tryz.prog 4 38 = some (voteKs ++ voteKs) := by kernel_rfl
theorem agg_Ev : isAggT Tryz.prog 38 = true := by kernel_rfl
theorem guard_Ev : Tryz.prog.eqGuardType Tryz.prog.depth 38 = false := by kernel_rfl
theorem fits_VoteK {m : Vote} (h : m.ok) : Fits voteKs m.cl := Fits.app (Fits.app (Fits.app ⟨rfl, rfl, rfl, trivial⟩ (by rw [← h.id]; exact Fits.bytes m.id)) ⟨rfl, rfl, trivial⟩) (by rw [← h.sl]; exact Fits.bytes m.sl)
theorem fits_Ev {m : Ev} (h : m.ok) : Fits (voteKs ++ voteKs) m.cl := Fits.app (fits_VoteK h.a) (fits_VoteK h.b)
def hdrKs : List CK := [.str, .int .u64, .int .u64] ++ List.replicate 224 (.int .u8) ++ [.int .u64]
theorem flat_Hdr : flat Tryz.prog 3 40 = some hdrKs := by kernel_rfl
theorem agg_Hdr : isAggT Tryz.prog 40 = true := by kernel_rfl
theorem guard_Hdr : Tryz.prog.eqGuardType Tryz.prog.depth 40 = false := by kernel_rfl
theorem fits_Hdr {m : Hdr} (h : m.ok) : Fits hdrKs m.cl := Fits.app (Fits.app ⟨trivial, rfl, rfl, trivial⟩ (by rw [← h.hh]; exact Fits.bytes m.hh)) ⟨rfl, trivial⟩
end Go.Proofs.YtlhnhjglcbggmaaGreatRR
namespace Go.Proofs.YtlhnhjglcbggmaaGreatRR
set_option linter.unusedSimpArgs false
set_option linter.unusedVariables false
open Go.RowKit
set_option maxRecDepth 100000

theorem of_dec {p : Prop} {i : Decidable p} (h : @decide p i = true) : p := of_decide_eq_true h
/-- the same member, wherever its lists lie -/
def Prts.sameM (p q : Prts) : Nat → Prop
 | 0 => p.prop = q.prop
 | 1 => p.blk.same q.blk
 | 2 => p.vs = q.vs
 | 3 => p.crt.same q.crt
 | 4 => p.tx = q.tx
 | 5 => p.ev = q.ev
 | 6 => p.height = q.height
 | 7 => p.round = q.round
 | 8 => p.good = q.good
 | _ => p.step = q.step
theorem roundB {r : Int} (h : round r = 0) : 0 ≤ r ∧ r ≤ 65535 := by
 have := of_decide_eq_false (field_zero h)
 omega
theorem votes_sd {n m : Nat} {l k : List Vote} {r s : List UInt8} (hn : n = l.length) (hm : m = k.length) (hl : ∀ v ∈ l, v.ok) (hk : ∀ v ∈ k, v.ok) (pl : votesErr n l = 0) (pk : votesErr m k = 0) (h : votesF n l ++ r = votesF m k ++ s) : l = k ∧ r = s := by
 unfold votesF at h
 rw [hn, hm] at h
 obtain ⟨h1, h2⟩ := list_sd vote_sd l k r s (fun v hv => ⟨hl v hv, voteB (hl v hv) ((votesErr_zero pl).2 v hv)⟩) (fun v hv => ⟨hk v hv, voteB (hk v hv) ((votesErr_zero pk).2 v hv)⟩) h
 exact ⟨h1.eq, h2⟩
theorem one_votes {n : Nat} {l : List Vote} (hn : n = l.length) (h : (if n ≠ 1 then (41 : Int) else onePlain l) = 0) : ∃ v, l = [v] ∧ plainVote v = 0 := by
 by_cases h1 : n = 1
 ·rw [if_neg (by simp [h1])] at h
  match l, hn with
  | [v], _ => exact ⟨v, rfl, h⟩
  | [], hn => simp at hn; omega
  | _ :: _ :: _, hn => simp at hn; omega
 ·rw [if_pos h1] at h; cases h
theorem bool_sd {a b : Bool} {r s : List UInt8} (h : [if a then (1 : UInt8) else 0] ++ r = [if b then (1 : UInt8) else 0] ++ s) : a = b ∧ r = s := by
 injection h with h1 h2
 refine ⟨?_, h2⟩
 cases a <;> cases b <;> simp_all
theorem part_sd (k : PK) {p q : Prts} {r s : List UInt8} (hp : p.ok) (hq : q.ok) (pp : k.plain p = 0) (pq : k.plain q = 0) (h : k.form p ++ r = k.form q ++ s) : p.sameM q k.member ∧ r = s := by
 cases k with
 | proposal => exact proposal_sd _ _ _ _ ⟨hp.prop, proposalB hp.prop pp⟩ ⟨hq.prop, proposalB hq.prop pq⟩ h
 | block => exact blk_sd _ _ _ _ ⟨hp.blk, blkB hp.blk pp⟩ ⟨hq.blk, blkB hq.blk pq⟩ h
 | polka =>
  have a := firstErr_zero pp (votesErr p.vn p.vs) (by simp)
  have b := firstErr_zero pq (votesErr q.vn q.vs) (by simp)
  exact votes_sd hp.vn hq.vn hp.vs hq.vs a b h
 | some =>
  have a := firstErr_zero pp (votesErr p.vn p.vs) (by simp)
  have b := firstErr_zero pq (votesErr q.vn q.vs) (by simp)
  exact votes_sd hp.vn hq.vn hp.vs hq.vs a b h
 | one =>
  obtain ⟨v, e1, a⟩ := one_votes hp.vn pp
  obtain ⟨u, e2, b⟩ := one_votes hq.vn pq
  have ov : v.ok := hp.vs v (by rw [e1]; simp)
  have ou : u.ok := hq.vs u (by rw [e2]; simp)
  have h' : formVote v ++ r = formVote u ++ s := by
   simp only [PK.form, e1, e2] at h
   exact h
  obtain ⟨h1, h2⟩ := vote_sd v u r s ⟨ov, voteB ov a⟩ ⟨ou, voteB ou b⟩ h'
  refine ⟨?_, h2⟩
  show p.vs = q.vs
  rw [e1, e2, h1]
 | cert =>
  have a := firstErr_zero pp (plainCrt p.crt) (by simp)
  have b := firstErr_zero pq (plainCrt q.crt) (by simp)
  exact crt_sd _ _ _ _ ⟨hp.crt, crtB hp.crt a⟩ ⟨hq.crt, crtB hq.crt b⟩ h
 | tx => exact tx_sd _ _ _ _ ⟨hp.tx, txB pp⟩ ⟨hq.tx, txB pq⟩ h
 | evidence => exact ev_sd _ _ _ _ ⟨hp.ev, evB hp.ev pp⟩ ⟨hq.ev, evB hq.ev pq⟩ h
 | height => exact int_sd (nz hp.height) (nz hq.height) h
 | round => exact int_sd (roundB pp).1 (roundB pq).1 h
 | good => exact bool_sd h
 | step =>
  have a2 : (decide (p.step < 1) || decide (3 < p.step)) = false := field_zero pp
  have b2 : (decide (q.step < 1) || decide (3 < q.step)) = false := field_zero pq
  simp only [Bool.or_eq_false_iff, decide_eq_false_iff_not] at a2 b2
  exact byte_sd ⟨by omega, by omega⟩ ⟨by omega, by omega⟩ h
theorem parts_sd {p q : Prts} (hp : p.ok) (hq : q.ok) : ∀ (us : List PK) (r s : List UInt8), (∀ k ∈ us, k.plain p = 0) → (∀ k ∈ us, k.plain q = 0) → us.flatMap (PK.form p) ++ r = us.flatMap (PK.form q) ++ s → (∀ k ∈ us, p.sameM q k.member) ∧ r = s
 | [], r, s, _, _, h => ⟨fun k hk => (by cases hk), by simpa using h⟩
 | k :: us, r, s, h1, h2, h => by
  rw [List.flatMap_cons, List.flatMap_cons, List.append_assoc, List.append_assoc] at h
  obtain ⟨e1, h⟩ := part_sd k hp hq (h1 k (List.mem_cons_self ..)) (h2 k (List.mem_cons_self ..)) h
  obtain ⟨e2, h⟩ := parts_sd hp hq us r s (fun j hj => h1 j (List.mem_cons_of_mem _ hj)) (fun j hj => h2 j (List.mem_cons_of_mem _ hj)) h
  exact ⟨fun j hj => by
   rcases List.mem_cons.1 hj with rfl | hj
   ·exact e1
   ·exact e2 j hj, h⟩
theorem zeroC_iff {x : Crt} (h : zeroC x = true) : x.height = 0 ∧ x.round = 0 ∧ x.id = zeros 32 ∧ x.n = 0 := by
 unfold zeroC at h
 simp only [Bool.and_eq_true, beq_iff_eq] at h
 exact ⟨h.1, h.2.1, h.2.2.1, by omega⟩
theorem zero_crt_same {x y : Crt} (hx : x.ok) (hy : y.ok) (h1 : zeroC x = true) (h2 : zeroC y = true) : x.same y := by
 obtain ⟨a1, a2, a3, a4⟩ := zeroC_iff h1
 obtain ⟨b1, b2, b3, b4⟩ := zeroC_iff h2
 have ex : x.ms = [] := List.eq_nil_of_length_eq_zero (by have := hx.n; omega)
 have ey : y.ms = [] := List.eq_nil_of_length_eq_zero (by have := hy.n; omega)
 exact ⟨by rw [a1, b1], by rw [a2, b2], by rw [a3, b3], by rw [ex, ey]⟩
theorem zero_same {p q : Prts} (hp : p.ok) (hq : q.ok) {m : Nat} (h1 : p.zero m = true) (h2 : q.zero m = true) : p.sameM q m := by
 unfold Prts.zero at h1 h2
 match m, h1, h2 with
 | 0, h1, h2 => exact (of_dec h1).trans (of_dec h2).symm
 | 1, h1, h2 =>
  simp only [zeroBlkB, Bool.and_eq_true, decide_eq_true_eq] at h1 h2
  obtain ⟨a1, a2, a3, a4⟩ := h1
  obtain ⟨b1, b2, b3, b4⟩ := h2
  have e1 : p.blk.ts = [] := List.eq_nil_of_length_eq_zero (by have := hp.blk.tn; omega)
  have e2 : p.blk.es = [] := List.eq_nil_of_length_eq_zero (by have := hp.blk.en; omega)
  have e3 : q.blk.ts = [] := List.eq_nil_of_length_eq_zero (by have := hq.blk.tn; omega)
  have e4 : q.blk.es = [] := List.eq_nil_of_length_eq_zero (by have := hq.blk.en; omega)
  exact ⟨by rw [a1, b1], by rw [e1, e3], by rw [e2, e4], zero_crt_same hp.blk.ct hq.blk.ct a4 b4⟩
 | 2, h1, h2 =>
  simp only [decide_eq_true_eq] at h1 h2
  have e1 : p.vs = [] := List.eq_nil_of_length_eq_zero (by have := hp.vn; omega)
  have e2 : q.vs = [] := List.eq_nil_of_length_eq_zero (by have := hq.vn; omega)
  show p.vs = q.vs
  rw [e1, e2]
 | 3, h1, h2 => exact zero_crt_same hp.crt hq.crt h1 h2
 | 4, h1, h2 => exact (of_dec h1).trans (of_dec h2).symm
 | 5, h1, h2 => exact (of_dec h1).trans (of_dec h2).symm
 | 6, h1, h2 => exact (of_dec h1).trans (of_dec h2).symm
 | 7, h1, h2 => exact (of_dec h1).trans (of_dec h2).symm
 | 8, h1, h2 =>
  show p.good = q.good
  cases hg : p.good <;> cases hh : q.good <;> simp_all
 | m + 9, h1, h2 => exact (of_dec h1).trans (of_dec h2).symm
/-- the same parts -/
def Prts.same (p q : Prts) : Prop := ∀ m, m < 10 → p.sameM q m
theorem used_same {p q : Prts} (hp : p.ok) (hq : q.ok) {us : List PK} (h1 : unusedErr p us = 0) (h2 : unusedErr q us = 0) (hs : ∀ k ∈ us, p.sameM q k.member) : p.same q := by
 intro m hm
 cases hc : (us.map PK.member).contains m with
 | true =>
  rw [List.contains_iff_mem] at hc
  obtain ⟨k, hk, rfl⟩ := List.mem_map.1 hc
  exact hs k hk
 | false => exact zero_same hp hq (unused_zero h1 m hm hc) (unused_zero h2 m hm hc)
noncomputable def plainMsg (k : Int) (p : Prts) : Int := if k < 1 ∨ 7 < k then 40 else firstErr [unusedErr p (usesMsg k), plainPrts p (usesMsg k)]
def formMsg (k : Int) (p : Prts) : List UInt8 := [UInt8.ofNat k.toNat] ++ (usesMsg k).flatMap (PK.form p)
noncomputable def plainInput (k now : Int) (p : Prts) : Int := if k < 1 ∨ 6 < k then 40 else firstErr [unusedErr p (usesInput k), moment now, plainPrts p (usesInput k)]
def formInput (k now : Int) (p : Prts) : List UInt8 := [UInt8.ofNat k.toNat] ++ varB now.toNat ++ (usesInput k).flatMap (PK.form p)
theorem plainMsg_zero {k : Int} {p : Prts} (h : plainMsg k p = 0) : 1 ≤ k ∧ k ≤ 7 ∧ unusedErr p (usesMsg k) = 0 ∧ ∀ j ∈ usesMsg k, j.plain p = 0 := by
 unfold plainMsg at h
 split at h
 ·cases h
 ·have hall := firstErr_zero h
  have h2 := hall (plainPrts p (usesMsg k)) (by simp)
  exact ⟨by omega, by omega, hall _ (List.mem_cons_self ..), fun j hj => firstErr_zero h2 _ (List.mem_map_of_mem hj)⟩
theorem plainInput_zero {k now : Int} {p : Prts} (h : plainInput k now p = 0) : 1 ≤ k ∧ k ≤ 6 ∧ unusedErr p (usesInput k) = 0 ∧ now ≤ 1125899906842624 ∧ ∀ j ∈ usesInput k, j.plain p = 0 := by
 unfold plainInput at h
 split at h
 ·cases h
 ·have hall := firstErr_zero h
  have h2 := hall (plainPrts p (usesInput k)) (by simp)
  have h3 := of_decide_eq_false (field_zero (hall (moment now) (by simp)))
  exact ⟨by omega, by omega, hall _ (List.mem_cons_self ..), by omega, fun j hj => firstErr_zero h2 _ (List.mem_map_of_mem hj)⟩
theorem msg_sd : SD (fun x : Int × Prts => formMsg x.1 x.2) (fun x => x.2.ok ∧ plainMsg x.1 x.2 = 0) (fun x y => x.1 = y.1 ∧ x.2.same y.2) := fun x y r s ⟨hx, bx⟩ ⟨hy, b_y⟩ h => by
 obtain ⟨k1, k2, u1, p1⟩ := plainMsg_zero bx
 obtain ⟨j1, j2, u2, p2⟩ := plainMsg_zero b_y
 unfold formMsg at h
 simp only [List.append_assoc] at h
 obtain ⟨e1, h⟩ := byte_sd ⟨by omega, by omega⟩ ⟨by omega, by omega⟩ h
 rw [← e1] at h u2 p2
 obtain ⟨e2, h⟩ := parts_sd hx hy _ r s p1 p2 h
 exact ⟨⟨e1, used_same hx hy u1 u2 e2⟩, h⟩
theorem input_sd : SD (fun x : Int × Int × Prts => formInput x.1 x.2.1 x.2.2) (fun x => U64 x.2.1 ∧ x.2.2.ok ∧ plainInput x.1 x.2.1 x.2.2 = 0) (fun x y => x.1 = y.1 ∧ x.2.1 = y.2.1 ∧ x.2.2.same y.2.2) := fun x y r s ⟨nx, hx, bx⟩ ⟨ny, hy, b_y⟩ h => by
 obtain ⟨k1, k2, u1, _, p1⟩ := plainInput_zero bx
 obtain ⟨j1, j2, u2, _, p2⟩ := plainInput_zero b_y
 unfold formInput at h
 simp only [List.append_assoc] at h
 obtain ⟨e1, h⟩ := byte_sd ⟨by omega, by omega⟩ ⟨by omega, by omega⟩ h
 obtain ⟨e3, h⟩ := int_sd (nz nx) (nz ny) h
 rw [← e1] at h u2 p2
 obtain ⟨e2, h⟩ := parts_sd hx hy _ r s p1 p2 h
 exact ⟨⟨e1, e3, used_same hx hy u1 u2 e2⟩, h⟩
end Go.Proofs.YtlhnhjglcbggmaaGreatRR

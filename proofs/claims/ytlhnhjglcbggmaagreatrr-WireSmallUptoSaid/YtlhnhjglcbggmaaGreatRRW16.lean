/-
  A proposal laid down with its seal; EncodeProposal. Conditions: each number fits its kind; the Writer has room.
  The law's blocks: are they alike? Conditions: each number fits its kind; the lists lie in the world.
  The forms of messages and inputs say where they end. No program here.
-/
import Derived.Test.YtlhnhjglcbggmaaGreatRRW14
import Derived.Test.YtlhnhjglcbggmaaGreatRRW11
import Derived.Test.YtlhnhjglcbggmaaGreatRRW15
namespace Go.Proofs.YtlhnhjglcbggmaaGreatRR
set_option linter.unusedSimpArgs false
set_option linter.unusedVariables false
open Go.RowKit
set_option maxRecDepth 100000

theorem cl_seal_atP (x : Proposal) (hi : x.id.length = 32) (j : Nat) (u : Value) (h : (bv x.sl)[j]? = some u) : x.cl.toArray[36 + j]? = some u := by
  have e : x.cl = ([.int .u64 x.height, .int .i64 x.round, .int .i64 x.valid] ++ bv x.id ++ [.int .u64 x.frm]) ++ bv x.sl := by simp [Proposal.cl]
  have el : ([.int .u64 x.height, .int .i64 x.round, .int .i64 x.valid] ++ bv x.id ++ [.int .u64 x.frm] : List Value).length = 36 := by simp [bv_length, hi]
  rw [List.getElem?_toArray, e, List.getElem?_append_right (by omega), el, Nat.add_sub_cancel_left]
  exact h
theorem info_PropB : (Tryz.prog.info? 33).map (·.size) = some 52 := by kernel_rfl
set_option maxHeartbeats 1000000 in
theorem putProposal_raw (w : World) (B g : Nat) (bs : List UInt8) (x : Proposal) (hx : x.ok) (hp : ProposalB x) (hw : Wr w B g bs) (hb : bs.length + 200 ≤ room46) :
    Calls Tryz.prog 83 #[.pointer (some ⟨g, 0, none⟩), .agg x.cl.toArray, .func (.func 77) #[.pointer (some ⟨g, 0, none⟩)] #[]] w fun e w' => e = .returned (.tuple #[]) ∧ Wr w' B g (bs ++ (encProposal x ++ x.sl)) ∧ Eff B WrT w w' := by
  obtain ⟨h1, h2, r1, r2, v1, v2, _, f1, f2⟩ := hp
  have lh := varB_int (n := x.height) (by omega) (by unfold two64; omega)
  have lr := varB_int (n := x.round) (by omega) (by unfold two64; omega)
  have lv := varB_int (n := x.valid + 1) (by omega) (by unfold two64; omega)
  have lf := varB_int (n := x.frm) (by omega) (by unfold two64; omega)
  have li := hx.id
  have Ls := Lib.hid hx.sl
  have F2 := Lib.hid f2; clear f2
  have Li := Lib.hid li; clear li
  go_enter Tryz.func83, Tryz.ntmps83
  go_wp2_with (refine wpList_box_bk rfl _ _ rfl _ rfl ?_)
  intro bx w1 hk1 hbl hg hs
  clear hg hs
  have hw1 := hw.below hbl
  have c0 : w1.cell? ⟨bx, 0, none⟩ = some (.int .u64 x.height) := hk1.cell 0
  go_wp2_with fail
  refine (var_int _ B g _ x.height hw1 (by omega) (by unfold two64; omega) (by omega)).mono ?_
  rintro e w2 ⟨rfl, hw2, e2⟩
  have hk2 := hk1.effT e2 (by decide)
  have c1 : w2.cell? ⟨bx, 1, none⟩ = some (.int .i64 x.round) := hk2.cell 1
  go_wp2_with fail
  refine (var_int _ B g _ x.round hw2 (by omega) (by unfold two64; omega) (by simp only [List.length_append]; omega)).mono ?_
  rintro e w3 ⟨rfl, hw3, e3⟩
  have hk3 := hk2.effT e3 (by decide)
  have c2 : w3.cell? ⟨bx, 2, none⟩ = some (.int .i64 x.valid) := hk3.cell 2
  go_wp2_with fail
  refine (var_int _ B g _ (x.valid + 1) hw3 (by omega) (by unfold two64; omega) (by simp only [List.length_append]; omega)).mono ?_
  rintro e w4 ⟨rfl, hw4, e4⟩
  have hk4 := hk3.effT e4 (by decide)
  go_wp2_with (refine wpList_load_part rfl 29 _ rfl bx 3 32 rfl _ _ _ hk4 Tryz.underlying29 rfl info_hash (by have := x.cl_len hx; simp [this]) _ (x.cl_id hx.id) ?_)
  refine (putHash_any _ B g _ x.id hw4 Li.out (by simp only [List.length_append]; omega)).mono ?_
  rintro e w5 ⟨rfl, hw5, e5⟩
  have hk5 := hk4.effT e5 (by decide)
  have c4 : w5.cell? ⟨bx, 35, none⟩ = some (.int .u64 x.frm) := (hk5.cell 35).trans (x.cl_35 hx.id)
  go_wp2_with fail
  refine (var_int _ B g _ x.frm hw5 (by omega) (by unfold two64; exact F2.out) (by simp only [List.length_append, Li.out]; omega)).mono ?_
  rintro e w7 ⟨rfl, hw7, e7⟩
  have hk7 := hk5.effT e7 (by decide)
  have hr7 : Rd w7 (some ⟨bx, 36, none⟩) (bv x.sl) := Rd.of_bk hk7 36 _ (fun j u hu => cl_seal_atP x hx.id j u hu)
  go_wp2_with fail
  refine (raw_any _ B g _ x.sl _ 16 16 hw7 hr7 Ls.out (by simp only [List.length_append, List.length_cons, List.length_nil, Li.out]; omega)).mono ?_
  rintro e w8 ⟨rfl, hw8, e8⟩
  go_wp2
  go_end0
  refine ⟨rfl, ?_, (Eff.of_below hbl _ _).trans (e2.trans (e3.trans (e4.trans (e5.trans (e7.trans e8)))))⟩
  unfold encProposal
  simpa only [List.append_assoc] using hw8

set_option maxHeartbeats 1000000 in
theorem putSealedProposal_any (w : World) (B g : Nat) (bs : List UInt8) (x : Proposal) (hx : x.ok) (hp : ProposalB x) (hw : Wr w B g bs) (hb : bs.length + 200 ≤ room46) :
    Calls Tryz.prog 37 #[.pointer (some ⟨g, 0, none⟩), .agg x.cl.toArray] w fun e w' => e = .returned (.tuple #[]) ∧ Wr w' B g (bs ++ formProposal x) ∧ Eff B WrT w w' := by
  have HP := Lib.hid hp
  have HB := Lib.hid hb
  clear hp hb
  go_enter Tryz.func37, Tryz.ntmps37
  go_wp2_with (with_reducible show wpList _ _ _ (Oper.mk _ (Op.box _ _) _ _ _ _ :: _) _ _; refine wpList_box_bk rfl _ _ rfl _ rfl ?_)
  intro bx w1 hk hbl hg hs
  clear hg hs
  have hw1 := hw.below hbl
  go_wp2_with (with_reducible show wpList _ _ _ (Oper.mk _ (Op.load _ _) _ _ _ _ :: _) _ _; refine wpList_load_part rfl 33 _ rfl bx 0 52 rfl _ _ _ hk Tryz.underlying33 rfl info_PropB (by have := x.cl_len hx; simp [Value.cells, this]) _ (cl_allN (x.cl_len hx)) ?_)
  refine (putProposal_raw w1 B g bs x hx HP.out hw1 HB.out).mono ?_
  rintro e w2 ⟨rfl, hw2, e2⟩
  go_wp2
  go_end0
  exact ⟨rfl, hw2, (Eff.of_below hbl _ _).trans e2⟩

set_option maxHeartbeats 2000000 in
theorem encodeProposal_any (w : World) (x : Proposal) (hx : x.ok) :
    Calls Tryz.prog 35 #[.agg x.cl.toArray, .int .i64 9223372036854775807, .func (.func 36) #[] #[], .func (.func 37) #[] #[]] w (BytesRes w (plainProposal x) (formProposal x)) := by
  have HX := Lib.hid hx
  have HL := Lib.hid (x.cl_len hx)
  clear hx
  obtain ⟨F, hF⟩ : ∃ F, plainProposal x = F := ⟨_, rfl⟩
  have HF := Lib.hid hF
  rw [hF]
  clear hF
  by_cases hf : F = 0
  · have HB := Lib.hid (proposalB HX.out (HF.out.trans hf))
    have f1 : (F != 0) = false := by simp [hf]
    have f2 : (F == 0) = true := by simp [hf]
    have HZ := Lib.hid hf
    clear hf
    go_enter Tryz.func35, Tryz.ntmps35
    go_wp2_with (first
      | (with_reducible show wpList _ _ _ (Oper.mk _ (Op.box _ _) _ _ _ _ :: _) _ _; refine wpList_box_bk rfl _ _ rfl _ rfl ?_; intro bx w1 hk hbl hg hs; have HK1 := Lib.hid (bk_eqT (cs' := x.cl.toArray) hk rfl); have HB1 := Lib.hid hbl; clear hk hbl hg hs)
      | (with_reducible show wpList _ _ _ (Oper.mk (some 15) (Op.load _ _) _ _ _ _ :: _) _ _; refine wpList_load_part rfl 33 _ rfl bx 0 52 rfl _ _ _ HK1.out Tryz.underlying33 rfl info_PropB (by simp [HL.out]) _ (cl_allN HL.out) ?_))
    refine (plainProposal_any w1 x HX.out).mono ?_
    rintro e w2 ⟨rfl, e2⟩
    rw [HF.out]
    have HB2 := Lib.hid (HB1.out.trans (e2.mono HB1.out.size))
    have HK2 := Lib.hid (HK1.out.below e2 HK1.out.lt)
    clear e2 HB1 HK1
    go_wp2_with fail
    refine (newWriter_any w2).mono ?_
    rintro e w3 ⟨g, rfl, hw3, e3⟩
    have HK3 := Lib.hid (HK2.out.below e3 HK2.out.lt)
    have HS2 := Lib.hid HB2.out.size
    have HS3 := Lib.hid e3.size
    have HB3 := Lib.hid (HB2.out.trans (e3.mono HB2.out.size))
    clear e3 HK2
    go_wp2_with (with_reducible show wpList _ _ _ (Oper.mk (some 23) (Op.load _ _) _ _ _ _ :: _) _ _; refine wpList_load_part rfl 33 _ rfl bx 0 52 rfl _ _ _ HK3.out Tryz.underlying33 rfl info_PropB (by simp [HL.out]) _ (cl_allN HL.out) ?_)
    refine (putSealedProposal_any w3 _ g [] x HX.out HB.out hw3 (by unfold room46; simp)).mono ?_
    rintro e w4 ⟨rfl, hw4, e4⟩
    have hlen : ([] ++ (formProposal x)).length ≤ reach47 ∧ ([] ++ (formProposal x)).length ≤ 9223372036854775807 := by
      have h1 := formProposal_83 HX.out HB.out
      unfold reach47
      rw [List.nil_append]
      omega
    have HLEN := Lib.hid hlen
    have HB4 := Lib.hid (HB3.out.trans (e4.to HS2.out HS3.out))
    clear hlen e4
    go_wp2_with fail
    refine (out_any w4 _ g _ hw4 HLEN.out.1).mono ?_
    rintro e w5 ⟨v, rfl, hv, e5⟩
    obtain ⟨Av, cv, rfl⟩ := hv.form
    have HB5 := Lib.hid (HB4.out.trans (e5.mono HB4.out.size))
    have HV := Lib.hid (hv.mono HB4.out.size)
    have HE := Lib.hid (show ([] ++ (formProposal x) : List UInt8) = (formProposal x) from rfl)
    rw [HE.out] at HLEN HV ⊢
    obtain ⟨bs, hbs⟩ : ∃ bs, formProposal x = bs := ⟨_, rfl⟩
    rw [hbs] at HLEN HV ⊢
    obtain ⟨L, hL⟩ : ∃ L, bs.length = L := ⟨_, rfl⟩
    have HBS := Lib.hid hbs
    rw [hL] at HLEN HV ⊢
    have hl9 : ¬ ((9223372036854775807 : Int) < (L : Int)) := by have := HLEN.out.2; omega
    clear hv e5 hw3 hw4 hbs HE HLEN hL
    go_wp2
    go_ret2
    exact ⟨HB5.out, .inr ⟨HZ.out, .slice Av L cv, rfl, by rw [HBS.out]; exact HV.out⟩⟩
  · have f1 : (F != 0) = true := by simp [hf]
    have f2 : (F == 0) = false := by simp [hf]
    have HZ := Lib.hid hf
    clear hf
    go_enter Tryz.func35, Tryz.ntmps35
    go_wp2_with (first
      | (with_reducible show wpList _ _ _ (Oper.mk _ (Op.box _ _) _ _ _ _ :: _) _ _; refine wpList_box_bk rfl _ _ rfl _ rfl ?_; intro bx w1 hk hbl hg hs; have HK1 := Lib.hid (bk_eqT (cs' := x.cl.toArray) hk rfl); have HB1 := Lib.hid hbl; clear hk hbl hg hs)
      | (with_reducible show wpList _ _ _ (Oper.mk (some 15) (Op.load _ _) _ _ _ _ :: _) _ _; refine wpList_load_part rfl 33 _ rfl bx 0 52 rfl _ _ _ HK1.out Tryz.underlying33 rfl info_PropB (by simp [HL.out]) _ (cl_allN HL.out) ?_))
    refine (plainProposal_any w1 x HX.out).mono ?_
    rintro e w2 ⟨rfl, e2⟩
    rw [HF.out]
    have HB2 := Lib.hid (HB1.out.trans (e2.mono HB1.out.size))
    clear e2
    go_wp2
    go_ret2
    exact ⟨HB2.out, .inl ⟨HZ.out, rfl⟩⟩

set_option maxHeartbeats 1000000 in
theorem EncodeProposal_any (w : World) (x : Proposal) (hx : x.ok) :
    Calls Tryz.prog 14 #[.agg x.cl.toArray] w (BytesRes w (plainProposal x) (formProposal x)) := by
  have HL := Lib.hid (x.cl_len hx)
  have HX := Lib.hid hx
  clear hx
  obtain ⟨F, hF⟩ : ∃ F, plainProposal x = F := ⟨_, rfl⟩
  have HF := Lib.hid hF
  rw [hF]
  clear hF
  go_enter Tryz.func14, Tryz.ntmps14
  go_wp2_with (first
      | (with_reducible show wpList _ _ _ (Oper.mk _ (Op.box _ _) _ _ _ _ :: _) _ _; refine wpList_box_bk rfl _ _ rfl _ rfl ?_; intro bx w1 hk hbl hg hs; have HK1 := Lib.hid (bk_eqT (cs' := x.cl.toArray) hk rfl); have HB1 := Lib.hid hbl; clear hk hbl hg hs)
      | (with_reducible show wpList _ _ _ (Oper.mk (some 4) (Op.load _ _) _ _ _ _ :: _) _ _; refine wpList_load_part rfl 33 _ rfl bx 0 52 rfl _ _ _ HK1.out Tryz.underlying33 rfl info_PropB (by simp [HL.out]) _ (cl_allN HL.out) ?_))
  refine (encodeProposal_any w1 x HX.out).mono ?_
  rw [HF.out]
  rintro e w2 ⟨e2, ⟨hz, rfl⟩ | ⟨hz, v, rfl, hv⟩⟩
  · have HZ := Lib.hid hz
    have HB2 := Lib.hid (HB1.out.trans (e2.mono HB1.out.size))
    clear hz e2
    go_wp2
    go_ret2
    exact ⟨HB2.out, .inl ⟨HZ.out, rfl⟩⟩
  · obtain ⟨Av, cv, rfl⟩ := hv.form
    have HZ := Lib.hid hz
    have HB2 := Lib.hid (HB1.out.trans (e2.mono HB1.out.size))
    have HV := Lib.hid (hv.mono HB1.out.size)
    clear hz e2 hv
    go_wp2
    go_ret2
    exact ⟨HB2.out, .inr ⟨HZ.out, _, rfl, HV.out⟩⟩
end Go.Proofs.YtlhnhjglcbggmaaGreatRR
namespace Go.Proofs.YtlhnhjglcbggmaaGreatRR
set_option linter.unusedSimpArgs false
set_option linter.unusedVariables false
open Go.RowKit
set_option maxRecDepth 100000

theorem flat_Tx : flat Tryz.prog 3 27 = some ([.int .i64, .int .u64, .int .u64, .int .u64, .int .u64, .int .u64] ++ List.replicate 16 (.int .u8)) := by kernel_rfl
theorem agg_Tx : isAggT Tryz.prog 27 = true := by kernel_rfl
theorem guard_Tx : Tryz.prog.eqGuardType Tryz.prog.depth 27 = false := by kernel_rfl
theorem fits_Tx {m : Tx} (h : m.ok) : Fits ([.int .i64, .int .u64, .int .u64, .int .u64, .int .u64, .int .u64] ++ List.replicate 16 (.int .u8)) m.cl := Fits.app ⟨rfl, rfl, rfl, rfl, rfl, rfl, trivial⟩ (by rw [← h.sl]; exact Fits.bytes m.sl)
def voteKs : List CK := [.int .i64, .int .u64, .int .i64] ++ List.replicate 32 (.int .u8) ++ [.int .u64, .int .u64] ++ List.replicate 16 (.int .u8)
theorem flat_Ev : flat Tryz.prog 4 38 = some (voteKs ++ voteKs) := by kernel_rfl
theorem agg_Ev : isAggT Tryz.prog 38 = true := by kernel_rfl
theorem guard_Ev : Tryz.prog.eqGuardType Tryz.prog.depth 38 = false := by kernel_rfl
theorem fits_VoteK {m : Vote} (h : m.ok) : Fits voteKs m.cl := Fits.app (Fits.app (Fits.app ⟨rfl, rfl, rfl, trivial⟩ (by rw [← h.id]; exact Fits.bytes m.id)) ⟨rfl, rfl, trivial⟩) (by rw [← h.sl]; exact Fits.bytes m.sl)
theorem fits_Ev {m : Ev} (h : m.ok) : Fits (voteKs ++ voteKs) m.cl := Fits.app (fits_VoteK h.a) (fits_VoteK h.b)
def hdrKs : List CK := [.str, .int .u64, .int .u64] ++ List.replicate 224 (.int .u8) ++ [.int .u64]
theorem flat_Hdr : flat Tryz.prog 3 40 = some hdrKs := by kernel_rfl
theorem agg_Hdr : isAggT Tryz.prog 40 = true := by kernel_rfl
theorem guard_Hdr : Tryz.prog.eqGuardType Tryz.prog.depth 40 = false := by kernel_rfl
theorem fits_Hdr {m : Hdr} (h : m.ok) : Fits hdrKs m.cl := Fits.app (Fits.app ⟨trivial, rfl, rfl, trivial⟩ (by rw [← h.hh]; exact Fits.bytes m.hh)) ⟨rfl, trivial⟩
end Go.Proofs.YtlhnhjglcbggmaaGreatRR
namespace Go.Proofs.YtlhnhjglcbggmaaGreatRR
set_option linter.unusedSimpArgs false
set_option linter.unusedVariables false
open Go.RowKit
set_option maxRecDepth 100000

theorem of_dec {p : Prop} {i : Decidable p} (h : @decide p i = true) : p := of_decide_eq_true h
/-- the same member, wherever its lists lie -/
def Prts.sameM (p q : Prts) : Nat → Prop
  | 0 => p.prop = q.prop
  | 1 => p.blk.same q.blk
  | 2 => p.vs = q.vs
  | 3 => p.crt.same q.crt
  | 4 => p.tx = q.tx
  | 5 => p.ev = q.ev
  | 6 => p.height = q.height
  | 7 => p.round = q.round
  | 8 => p.good = q.good
  | _ => p.step = q.step
theorem roundB {r : Int} (h : round r = 0) : 0 ≤ r ∧ r ≤ 65535 := by
  have := of_decide_eq_false (field_zero h)
  omega
theorem one_votes {n : Nat} {l : List Vote} (hn : n = l.length) (h : (if n ≠ 1 then (41 : Int) else onePlain l) = 0) : ∃ v, l = [v] ∧ plainVote v = 0 := by
  by_cases h1 : n = 1
  · rw [if_neg (by simp [h1])] at h
    match l, hn with
    | [v], _ => exact ⟨v, rfl, h⟩
    | [], hn => simp at hn; omega
    | _ :: _ :: _, hn => simp at hn; omega
  · rw [if_pos h1] at h; cases h
/-- the same parts -/
def Prts.same (p q : Prts) : Prop := ∀ m, m < 10 → p.sameM q m
noncomputable def plainMsg (k : Int) (p : Prts) : Int := if k < 1 ∨ 7 < k then 40 else firstErr [unusedErr p (usesMsg k), plainPrts p (usesMsg k)]
def formMsg (k : Int) (p : Prts) : List UInt8 := [UInt8.ofNat k.toNat] ++ (usesMsg k).flatMap (PK.form p)
noncomputable def plainInput (k now : Int) (p : Prts) : Int := if k < 1 ∨ 6 < k then 40 else firstErr [unusedErr p (usesInput k), moment now, plainPrts p (usesInput k)]
def formInput (k now : Int) (p : Prts) : List UInt8 := [UInt8.ofNat k.toNat] ++ varB now.toNat ++ (usesInput k).flatMap (PK.form p)
theorem plainMsg_zero {k : Int} {p : Prts} (h : plainMsg k p = 0) : 1 ≤ k ∧ k ≤ 7 ∧ unusedErr p (usesMsg k) = 0 ∧ ∀ j ∈ usesMsg k, j.plain p = 0 := by
  unfold plainMsg at h
  split at h
  · cases h
  · have hall := firstErr_zero h
    have h2 := hall (plainPrts p (usesMsg k)) (by simp)
    exact ⟨by omega, by omega, hall _ (List.mem_cons_self ..), fun j hj => firstErr_zero h2 _ (List.mem_map_of_mem hj)⟩
theorem plainInput_zero {k now : Int} {p : Prts} (h : plainInput k now p = 0) : 1 ≤ k ∧ k ≤ 6 ∧ unusedErr p (usesInput k) = 0 ∧ now ≤ 1125899906842624 ∧ ∀ j ∈ usesInput k, j.plain p = 0 := by
  unfold plainInput at h
  split at h
  · cases h
  · have hall := firstErr_zero h
    have h2 := hall (plainPrts p (usesInput k)) (by simp)
    have h3 := of_decide_eq_false (field_zero (hall (moment now) (by simp)))
    exact ⟨by omega, by omega, hall _ (List.mem_cons_self ..), by omega, fun j hj => firstErr_zero h2 _ (List.mem_map_of_mem hj)⟩
end Go.Proofs.YtlhnhjglcbggmaaGreatRR

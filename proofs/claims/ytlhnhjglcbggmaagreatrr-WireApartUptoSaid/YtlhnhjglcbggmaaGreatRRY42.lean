/-
  EncodeState. Conditions: each number fits its kind; its lists lie in the world, at most 10^9 offences and releases.
  ReadVoteBytes, ReadProposalBytes. Condition: the bytes are within reach.
  getVote with its seal, getSealedVote. Condition: the Reader was made by NewReader (Re).
  What is laid down is read back; what is read was laid down: numbers, bytes, texts; votes and proposals. No condition.
-/
import Derived.Test.YtlhnhjglcbggmaaGreatRRYPb22
import Derived.Test.YtlhnhjglcbggmaaGreatRRY37
import Derived.Test.YtlhnhjglcbggmaaGreatRRY15
import Derived.Test.YtlhnhjglcbggmaaGreatRRY08
import Derived.Test.YtlhnhjglcbggmaaGreatRRY05
import Derived.Test.YtlhnhjglcbggmaaGreatRRY03
namespace Go.Proofs.YtlhnhjglcbggmaaGreatRR
set_option linter.unusedSimpArgs false
set_option linter.unusedVariables false
open Go.RowKit
set_option maxRecDepth 100000

structure Sta.few (x : Sta) : Prop where
 o : x.on ≤ 1000000000
 r : x.rn ≤ 1000000000
 p : x.pn ≤ 1000000000000
theorem whole_any (w : World) (x : Sta) (hx : x.ok) (hat : x.at w) (hf : x.few) :
  Calls Tryz.prog 63 #[.agg x.cl.toArray] w fun e w' => e = .returned (.int .i64 (plainSta x)) ∧ Below w.heap.size w w' := by
 have h1 := hf.o
 have h2 := hf.r
 by_cases hz : headS x = 0
 ·have hall := firstErr_zero (show firstErr [named x.chain.size, field (decide (1099511627776 < x.height)), moment x.time, field (decide (x.par.seats < 1) || decide (64 < x.par.seats)), field (decide (x.par.txs < 0) || decide (1000 < x.par.txs))] = 0 from hz)
  have a1 := field_zero (hall (field (decide (x.par.seats < 1) || decide (64 < x.par.seats))) (by simp))
  have b1 := field_zero (hall (field (decide (x.par.txs < 0) || decide (1000 < x.par.txs))) (by simp))
  have a2 : decide (x.par.seats < 1) = false := (Bool.or_eq_false_iff.1 a1).1
  have b2 : decide (x.par.txs < 0) = false := (Bool.or_eq_false_iff.1 b1).1
  exact whole_ff w x hx hat hf.p (by omega) (by omega) a2 b2
 ·cases ha : decide (x.par.seats < 1) <;> cases hb : decide (x.par.txs < 0)
  ·exact whole_ff w x hx hat hf.p (by omega) (by omega) ha hb
  ·exact whole_head01 w x hx hat ha hb hz
  ·exact whole_head10 w x hx hat ha hb hz
  ·exact whole_head11 w x hx hat ha hb hz

set_option maxHeartbeats 2000000 in
theorem encodeSta_any (w : World) (x : Sta) (hx : x.ok) (hat : x.at w) (hli : x.few) :
  Calls Tryz.prog 62 #[.agg x.cl.toArray, .int .i64 9223372036854775807, .func (.func 63) #[] #[], .func (.func 64) #[] #[]] w (BytesRes w (plainSta x) (formSta x)) := by
 have HX := Lib.hid hx
 have HAT := Lib.hid hat
 clear hat
 have HL := Lib.hid (x.len hx.last)
 clear hx
 have HLI := Lib.hid hli
 clear hli
 obtain ⟨F, hF⟩ : ∃ F, plainSta x = F := ⟨_, rfl⟩
 have HF := Lib.hid hF
 rw [hF]
 clear hF
 by_cases hf : F = 0
 ·have HB := Lib.hid (staB HX.out (HF.out.trans hf))
  have f1 : (F != 0) = false := by simp [hf]
  have f2 : (F == 0) = true := by simp [hf]
  have HZ := Lib.hid hf
  clear hf
  go_enter Tryz.func62, Tryz.ntmps62
  go_wp2_with (first
   | (with_reducible show wpList _ _ _ (Oper.mk _ (Op.box _ _) _ _ _ _ :: _) _ _; refine wpList_box_bk rfl _ _ rfl _ rfl ?_; intro bx w1 hk hbl hg hs; have HK1 := Lib.hid (bk_eqT (cs' := x.cl.toArray) hk rfl); have HB1 := Lib.hid hbl; clear hk hbl hg hs)
   | (with_reducible show wpList _ _ _ (Oper.mk (some 15) (Op.load _ _) _ _ _ _ :: _) _ _; refine wpList_load_part rfl 62 _ rfl bx 0 55 rfl _ _ _ HK1.out Tryz.underlying62 rfl info_Sta (by simp [HL.out]) _ (cl_allN HL.out) ?_))
  refine (whole_any w1 x HX.out (HAT.out.below HB1.out) HLI.out).mono ?_
  rintro e w2 ⟨rfl, e2⟩
  rw [HF.out]
  have HB2 := Lib.hid (HB1.out.trans (e2.mono HB1.out.size))
  have HK2 := Lib.hid (HK1.out.below e2 HK1.out.lt)
  clear e2 HB1 HK1
  go_wp2_with fail
  refine (newWriter_any w2).mono ?_
  rintro e w3 ⟨g, rfl, hw3, e3⟩
  have HK3 := Lib.hid (HK2.out.below e3 HK2.out.lt)
  have HS2 := Lib.hid HB2.out.size
  have HS3 := Lib.hid e3.size
  have HB3 := Lib.hid (HB2.out.trans (e3.mono HB2.out.size))
  clear e3 HK2
  go_wp2_with (with_reducible show wpList _ _ _ (Oper.mk (some 23) (Op.load _ _) _ _ _ _ :: _) _ _; refine wpList_load_part rfl 62 _ rfl bx 0 55 rfl _ _ _ HK3.out Tryz.underlying62 rfl info_Sta (by simp [HL.out]) _ (cl_allN HL.out) ?_)
  refine (putState_any w3 _ g [] x HX.out HB.out HLI.out.o HLI.out.r (HAT.out.below HB3.out) (HAT.out.low.mono HS2.out) HS3.out hw3 (by unfold room46; simp)).mono ?_
  rintro e w4 ⟨rfl, hw4, e4⟩
  have hlen : ([] ++ (formSta x)).length ≤ reach47 ∧ ([] ++ (formSta x)).length ≤ 9223372036854775807 := by
   have h1 := formSta_len HX.out HB.out HLI.out.o HLI.out.r
   unfold reach47
   rw [List.nil_append]
   omega
  have HLEN := Lib.hid hlen
  have HB4 := Lib.hid (HB3.out.trans (e4.to HS2.out HS3.out))
  clear hlen e4
  go_wp2_with fail
  refine (out_any w4 _ g _ hw4 HLEN.out.1).mono ?_
  rintro e w5 ⟨v, rfl, hv, e5⟩
  obtain ⟨Av, cv, rfl⟩ := hv.form
  have HB5 := Lib.hid (HB4.out.trans (e5.mono HB4.out.size))
  have HV := Lib.hid (hv.mono HB4.out.size)
  have HE := Lib.hid (show ([] ++ (formSta x) : List UInt8) = (formSta x) from rfl)
  rw [HE.out] at HLEN HV ⊢
  obtain ⟨bs, hbs⟩ : ∃ bs, formSta x = bs := ⟨_, rfl⟩
  rw [hbs] at HLEN HV ⊢
  obtain ⟨L, hL⟩ : ∃ L, bs.length = L := ⟨_, rfl⟩
  have HBS := Lib.hid hbs
  rw [hL] at HLEN HV ⊢
  have hl9 : ¬ ((9223372036854775807 : Int) < (L : Int)) := by have := HLEN.out.2; omega
  clear hv e5 hw3 hw4 hbs HE HLEN hL
  go_wp2
  go_ret2
  exact ⟨HB5.out, .inr ⟨HZ.out, .slice Av L cv, rfl, by rw [HBS.out]; exact HV.out⟩⟩
 ·have f1 : (F != 0) = true := by simp [hf]
  have f2 : (F == 0) = false := by simp [hf]
  have HZ := Lib.hid hf
  clear hf
  go_enter Tryz.func62, Tryz.ntmps62
  go_wp2_with (first
   | (with_reducible show wpList _ _ _ (Oper.mk _ (Op.box _ _) _ _ _ _ :: _) _ _; refine wpList_box_bk rfl _ _ rfl _ rfl ?_; intro bx w1 hk hbl hg hs; have HK1 := Lib.hid (bk_eqT (cs' := x.cl.toArray) hk rfl); have HB1 := Lib.hid hbl; clear hk hbl hg hs)
   | (with_reducible show wpList _ _ _ (Oper.mk (some 15) (Op.load _ _) _ _ _ _ :: _) _ _; refine wpList_load_part rfl 62 _ rfl bx 0 55 rfl _ _ _ HK1.out Tryz.underlying62 rfl info_Sta (by simp [HL.out]) _ (cl_allN HL.out) ?_))
  refine (whole_any w1 x HX.out (HAT.out.below HB1.out) HLI.out).mono ?_
  rintro e w2 ⟨rfl, e2⟩
  rw [HF.out]
  have HB2 := Lib.hid (HB1.out.trans (e2.mono HB1.out.size))
  clear e2
  go_wp2
  go_ret2
  exact ⟨HB2.out, .inl ⟨HZ.out, rfl⟩⟩

set_option maxHeartbeats 1000000 in
theorem EncodeSta_any (w : World) (x : Sta) (hx : x.ok) (hat : x.at w) (hli : x.few) :
  Calls Tryz.prog 21 #[.agg x.cl.toArray] w (BytesRes w (plainSta x) (formSta x)) := by
 have HL := Lib.hid (x.len hx.last)
 have HX := Lib.hid hx
 have HAT := Lib.hid hat
 clear hat
 clear hx
 obtain ⟨F, hF⟩ : ∃ F, plainSta x = F := ⟨_, rfl⟩
 have HF := Lib.hid hF
 rw [hF]
 clear hF
 go_enter Tryz.func21, Tryz.ntmps21
 go_wp2_with (first
   | (with_reducible show wpList _ _ _ (Oper.mk _ (Op.box _ _) _ _ _ _ :: _) _ _; refine wpList_box_bk rfl _ _ rfl _ rfl ?_; intro bx w1 hk hbl hg hs; have HK1 := Lib.hid (bk_eqT (cs' := x.cl.toArray) hk rfl); have HB1 := Lib.hid hbl; clear hk hbl hg hs)
   | (with_reducible show wpList _ _ _ (Oper.mk (some 4) (Op.load _ _) _ _ _ _ :: _) _ _; refine wpList_load_part rfl 62 _ rfl bx 0 55 rfl _ _ _ HK1.out Tryz.underlying62 rfl info_Sta (by simp [HL.out]) _ (cl_allN HL.out) ?_))
 refine (encodeSta_any w1 x HX.out (HAT.out.below HB1.out) hli).mono ?_
 rw [HF.out]
 rintro e w2 ⟨e2, ⟨hz, rfl⟩ | ⟨hz, v, rfl, hv⟩⟩
 ·have HZ := Lib.hid hz
  have HB2 := Lib.hid (HB1.out.trans (e2.mono HB1.out.size))
  clear hz e2
  go_wp2
  go_ret2
  exact ⟨HB2.out, .inl ⟨HZ.out, rfl⟩⟩
 ·obtain ⟨Av, cv, rfl⟩ := hv.form
  have HZ := Lib.hid hz
  have HB2 := Lib.hid (HB1.out.trans (e2.mono HB1.out.size))
  have HV := Lib.hid (hv.mono HB1.out.size)
  clear hz e2 hv
  go_wp2
  go_ret2
  exact ⟨HB2.out, .inr ⟨HZ.out, _, rfl, HV.out⟩⟩
end Go.Proofs.YtlhnhjglcbggmaaGreatRR
namespace Go.Proofs.YtlhnhjglcbggmaaGreatRR
set_option linter.unusedSimpArgs false
set_option linter.unusedVariables false
open Go.RowKit
set_option maxRecDepth 100000

theorem zeroVote_ok : zeroVoteR.ok := by
 refine ⟨?_, ?_, ?_, ?_, ?_, ?_, ?_⟩ <;> first | exact ⟨by decide, by decide⟩ | rfl
end Go.Proofs.YtlhnhjglcbggmaaGreatRR
namespace Go.Proofs.YtlhnhjglcbggmaaGreatRR
set_option linter.unusedSimpArgs false
set_option linter.unusedVariables false
open Go.RowKit
set_option maxRecDepth 100000

set_option maxHeartbeats 1000000 in
theorem signed_yes (w : World) (g : Nat) (A : Option Addr) (c : Nat) (l : List UInt8) (p : Nat) (e : Int) (h : Re w g A c l p e) :
  Calls Tryz.prog 138 #[.pointer (some ⟨g, 0, none⟩), .bool true] w (RdRes g A c l (readRaw 16 l p e) (toHash 16) w) := by
 have H := Lib.hid h
 have hgl : g < w.heap.size := h.bk.lt
 clear h
 have hle : (readRaw 16 l p e).val.length ≤ 16 := after_le
 have key0 := fun (wx : World) (hx : Re wx g A c l p e) => Seal_rd wx g A c l p e hx
 generalize readRaw 16 l p e = K at *
 have hpl : (bv (padded 16 K.val)).length = 16 := by rw [bv_length]; exact padded_len hle
 have HPL := Lib.hid hpl
 have HKEY := Lib.hid key0
 clear hle key0 hpl
 go_enter Tryz.func138, Tryz.ntmps138
 go_wp2_with (with_reducible show wpList _ _ _ (Oper.mk _ (Op.alloc _) _ _ _ _ :: _) _ _; refine wpList_alloc_bk rfl _ rfl (.agg (bv (zeros 16)).toArray) (by kernel_rfl) ?_)
 intro bh w1 hk1 hb1 hg1 hs1
 have HS := Lib.hid (Side.mk (w0 := w) (g := g) (A := A) (bx := bh) hgl H.out.lt (by omega))
 have B1 := Lib.hid (Bld.mk (T := 25) (H.out.below hb1) (Ch.of_below [g] hb1) (bk_eq (cs' := (bv (zeros 16)).toArray) hk1 rfl))
 clear hk1 hb1 hg1 hs1
 go_wp2_with fail
 refine (HKEY.out w1 B1.out.re).mono ?_
 rintro en w2 ⟨rfl, ch, re⟩
 have B2 := Lib.hid (B1.out.call HS.out ch re)
 clear ch re B1
 go_wp2_with (with_reducible show wpList _ _ _ (Oper.mk _ (Op.store _ _ _) _ _ _ _ :: _) _ _; go_must (refine wpList_st rfl 25 _ _ rfl bh 0 rfl (.agg (bv (padded 16 K.val)).toArray) rfl (bv (padded 16 K.val)) rfl 16 info_seal16 HPL.out _ _ B2.out.bk (by simp [bv, zeros]) (bv_one _) ?_; intro w5 hk5 hg5 hs5; have B3 := Lib.hid (B2.out.store HS.out hk5 hg5 (splice_same HPL.out (by rw [bv_length]; exact zeros_len 16)))))
 exact bodyPost_cell Tryz.results138 rfl B3.out.bk Tryz.underlying25 rfl info_seal16 (by simp [HPL.out]) rfl ⟨rfl, B3.out.ch, B3.out.re⟩

/-- a vote with its seal -/
def rdVoteS (l : List UInt8) (p : Nat) (e : Int) : Got Vote :=
 let a := readByte l p e
 let b := readVar l a.at' a.err
 let c := readVar l b.at' b.err
 let d := readRaw 32 l c.at' c.err
 let f := readVar l d.at' d.err
 let h := readVar l f.at' f.err
 let s := readRaw 16 l h.at' h.err
 ⟨⟨a.val, b.val, small c.val, padded 32 d.val, f.val, h.val, padded 16 s.val⟩, s.at', s.err⟩
theorem rdVoteS_ok (l : List UInt8) (p : Nat) (e : Int) : (rdVoteS l p e).val.ok :=
 ⟨show I64 (readByte l p e).val from by have h1 := readByte_bd l p e; unfold I64; omega, U64.of_bd (readVar_bd _ _ _), I64.of_small _, padded_len readRaw_le, U64.of_bd (readVar_bd _ _ _), U64.of_bd (readVar_bd _ _ _), padded_len readRaw_le⟩

set_option maxHeartbeats 4000000 in
theorem getVote_yes (w : World) (g : Nat) (A : Option Addr) (c : Nat) (l : List UInt8) (p : Nat) (e : Int) (h : Re w g A c l p e) :
  Calls Tryz.prog 80 #[.pointer (some ⟨g, 0, none⟩), .bool true] w (RdRes g A c l (rdVoteS l p e) (fun x => .agg x.cl.toArray) w) := by
 obtain ⟨K1, hK1⟩ : ∃ K, readByte l p e = K := ⟨_, rfl⟩
 have bdK1 := readByte_bd l p e
 rw [hK1] at bdK1
 have HK1 := Lib.hid hK1
 clear hK1
 obtain ⟨K2, hK2⟩ : ∃ K, readVar l K1.at' K1.err = K := ⟨_, rfl⟩
 have HK2 := Lib.hid hK2
 clear hK2
 obtain ⟨K3, hK3⟩ : ∃ K, readVar l K2.at' K2.err = K := ⟨_, rfl⟩
 have HK3 := Lib.hid hK3
 clear hK3
 obtain ⟨K4, hK4⟩ : ∃ K, readRaw 32 l K3.at' K3.err = K := ⟨_, rfl⟩
 have leK4 : (readRaw 32 l K3.at' K3.err).val.length ≤ 32 := readRaw_le
 rw [hK4] at leK4
 have LEK4 := Lib.hid (padded_len leK4)
 clear leK4
 have HK4 := Lib.hid hK4
 clear hK4
 obtain ⟨K5, hK5⟩ : ∃ K, readVar l K4.at' K4.err = K := ⟨_, rfl⟩
 have HK5 := Lib.hid hK5
 clear hK5
 obtain ⟨K6, hK6⟩ : ∃ K, readVar l K5.at' K5.err = K := ⟨_, rfl⟩
 have HK6 := Lib.hid hK6
 clear hK6
 obtain ⟨K7, hK7⟩ : ∃ K, readRaw 16 l K6.at' K6.err = K := ⟨_, rfl⟩
 have leK7 : (readRaw 16 l K6.at' K6.err).val.length ≤ 16 := readRaw_le
 rw [hK7] at leK7
 have LEK7 := Lib.hid (padded_len leK7)
 clear leK7
 have HK7 := Lib.hid hK7
 clear hK7
 have HF := Lib.hid (show rdVoteS l p e = ⟨⟨K1.val, K2.val, small K3.val, padded 32 K4.val, K5.val, K6.val, padded 16 K7.val⟩, K7.at', K7.err⟩ from by
  unfold rdVoteS
  simp only [HK1.out, HK2.out, HK3.out, HK4.out, HK5.out, HK6.out, HK7.out])
 have hgl : g < w.heap.size := h.bk.lt
 have HA := Lib.hid h.lt
 have HR0 := Lib.hid h
 clear h
 have WK1 : IntKind.i64.wrap K1.val = K1.val := by rw [IntKind.wrap_i64]; omega
 go_enter Tryz.func80, Tryz.ntmps80
 go_wp2_with (with_reducible show wpList _ _ _ (Oper.mk _ (Op.alloc _) _ _ _ _ :: _) _ _; refine wpList_alloc_bk rfl _ rfl (.agg (Vote.mk 0 0 0 (zeros 32) 0 0 (zeros 16)).cl.toArray) (by kernel_rfl) ?_)
 intro bx w1 hk1 hb1 hg1 hs1
 have HS := Lib.hid (Side.mk (w0 := w) (g := g) (A := A) (bx := bx) hgl HA.out (by omega))
 have B1 := Lib.hid (Bld.mk (T := 31) (HR0.out.below hb1) (Ch.of_below [g] hb1) hk1)
 clear hk1 hb1 hg1 hs1 HR0
 go_wp2_with fail
 refine (Byte_rd w1 g A c l _ _ B1.out.re).mono ?_
 rintro en w2 ⟨rfl, ch, re⟩
 rw [HK1.out] at re ⊢
 have B2 := Lib.hid (B1.out.call HS.out ch re)
 clear ch re B1
 go_wp2_with (with_reducible show wpList _ _ _ (Oper.mk _ (Op.store 3 _ _) _ _ _ _ :: _) _ _; go_must (refine wpList_st rfl 3 _ _ rfl bx 0 rfl (.int .i64 K1.val) rfl [.int .i64 K1.val] rfl 1 info_int1 rfl _ _ B2.out.bk (vote_fit _ (zeros_len 32) (zeros_len 16) _ (by omega)) (one_one rfl) ?_; intro w3 hk3 hg3 hs3; have B3 := Lib.hid (B2.out.store (X' := ((Vote.mk K1.val 0 0 (zeros 32) 0 0 (zeros 16))).cl.toArray) HS.out hk3 hg3 (vote_kind (Vote.mk 0 0 0 (zeros 32) 0 0 (zeros 16)) K1.val)); clear hk3 hg3 hs3 B2))
 refine (Var_rd w3 g A c l _ _ B3.out.re).mono ?_
 rintro en w4 ⟨rfl, ch, re⟩
 rw [HK2.out] at re ⊢
 have B4 := Lib.hid (B3.out.call HS.out ch re)
 clear ch re B3
 go_wp2_with (with_reducible show wpList _ _ _ (Oper.mk _ (Op.store 22 _ _) _ _ _ _ :: _) _ _; go_must (refine wpList_st rfl 22 _ _ rfl bx 1 rfl (.int .u64 K2.val) rfl [.int .u64 K2.val] rfl 1 info_u641 rfl _ _ B4.out.bk (vote_fit _ (zeros_len 32) (zeros_len 16) _ (by omega)) (one_one rfl) ?_; intro w5 hk5 hg5 hs5; have B5 := Lib.hid (B4.out.store (X' := ((Vote.mk K1.val K2.val 0 (zeros 32) 0 0 (zeros 16))).cl.toArray) HS.out hk5 hg5 (vote_height (Vote.mk K1.val 0 0 (zeros 32) 0 0 (zeros 16)) K2.val)); clear hk5 hg5 hs5 B4))
 refine (Var_rd w5 g A c l _ _ B5.out.re).mono ?_
 rintro en w6 ⟨rfl, ch, re⟩
 rw [HK3.out] at re ⊢
 have B6 := Lib.hid (B5.out.call HS.out ch re)
 clear ch re B5
 go_wp2_with fail
 refine (narrow_any w6 K3.val).mono ?_
 rintro en wq ⟨rfl, rfl⟩
 go_wp2_with (with_reducible show wpList _ _ _ (Oper.mk _ (Op.store 3 _ _) _ _ _ _ :: _) _ _; go_must (refine wpList_st rfl 3 _ _ rfl bx 2 rfl (.int .i64 (small K3.val)) rfl [.int .i64 (small K3.val)] rfl 1 info_int1 rfl _ _ B6.out.bk (vote_fit _ (zeros_len 32) (zeros_len 16) _ (by omega)) (one_one rfl) ?_; intro w7 hk7 hg7 hs7; have B7 := Lib.hid (B6.out.store (X' := ((Vote.mk K1.val K2.val (small K3.val) (zeros 32) 0 0 (zeros 16))).cl.toArray) HS.out hk7 hg7 (vote_round (Vote.mk K1.val K2.val 0 (zeros 32) 0 0 (zeros 16)) (small K3.val))); clear hk7 hg7 hs7 B6))
 refine (Hash_rd w7 g A c l _ _ B7.out.re).mono ?_
 rintro en w8 ⟨rfl, ch, re⟩
 rw [HK4.out] at re ⊢
 have B8 := Lib.hid (B7.out.call HS.out ch re)
 clear ch re B7
 go_wp2_with (with_reducible show wpList _ _ _ (Oper.mk _ (Op.store 29 _ _) _ _ _ _ :: _) _ _; go_must (refine wpList_st rfl 29 _ _ rfl bx 3 rfl (.agg (bv (padded 32 K4.val)).toArray) rfl (bv (padded 32 K4.val)) rfl 32 info_hash32 (by rw [bv_length]; exact LEK4.out) _ _ B8.out.bk (vote_fit _ (zeros_len 32) (zeros_len 16) _ (by omega)) (bv_one _) ?_; intro w9 hk9 hg9 hs9; have B9 := Lib.hid (B8.out.store (X' := ((Vote.mk K1.val K2.val (small K3.val) (padded 32 K4.val) 0 0 (zeros 16))).cl.toArray) HS.out hk9 hg9 (voteR_id (Vote.mk K1.val K2.val (small K3.val) (zeros 32) 0 0 (zeros 16)) (padded 32 K4.val) (zeros_len 32) LEK4.out)); clear hk9 hg9 hs9 B8))
 refine (Var_rd w9 g A c l _ _ B9.out.re).mono ?_
 rintro en w10 ⟨rfl, ch, re⟩
 rw [HK5.out] at re ⊢
 have B10 := Lib.hid (B9.out.call HS.out ch re)
 clear ch re B9
 go_wp2_with (with_reducible show wpList _ _ _ (Oper.mk _ (Op.store 22 _ _) _ _ _ _ :: _) _ _; go_must (refine wpList_st rfl 22 _ _ rfl bx 35 rfl (.int .u64 K5.val) rfl [.int .u64 K5.val] rfl 1 info_u641 rfl _ _ B10.out.bk (vote_fit _ LEK4.out (zeros_len 16) _ (by omega)) (one_one rfl) ?_; intro w11 hk11 hg11 hs11; have B11 := Lib.hid (B10.out.store (X' := ((Vote.mk K1.val K2.val (small K3.val) (padded 32 K4.val) K5.val 0 (zeros 16))).cl.toArray) HS.out hk11 hg11 (vote_time (Vote.mk K1.val K2.val (small K3.val) (padded 32 K4.val) 0 0 (zeros 16)) K5.val LEK4.out)); clear hk11 hg11 hs11 B10))
 refine (Var_rd w11 g A c l _ _ B11.out.re).mono ?_
 rintro en w12 ⟨rfl, ch, re⟩
 rw [HK6.out] at re ⊢
 have B12 := Lib.hid (B11.out.call HS.out ch re)
 clear ch re B11
 go_wp2_with (with_reducible show wpList _ _ _ (Oper.mk _ (Op.store 23 _ _) _ _ _ _ :: _) _ _; go_must (refine wpList_st rfl 23 _ _ rfl bx 36 rfl (.int .u64 K6.val) rfl [.int .u64 K6.val] rfl 1 info_addr1 rfl _ _ B12.out.bk (vote_fit _ LEK4.out (zeros_len 16) _ (by omega)) (one_one rfl) ?_; intro w13 hk13 hg13 hs13; have B13 := Lib.hid (B12.out.store (X' := ((Vote.mk K1.val K2.val (small K3.val) (padded 32 K4.val) K5.val K6.val (zeros 16))).cl.toArray) HS.out hk13 hg13 (vote_frm (Vote.mk K1.val K2.val (small K3.val) (padded 32 K4.val) K5.val 0 (zeros 16)) K6.val LEK4.out)); clear hk13 hg13 hs13 B12))
 refine (signed_yes w13 g A c l _ _ B13.out.re).mono ?_
 rintro en w14 ⟨rfl, ch, re⟩
 rw [HK7.out] at re ⊢
 have B14 := Lib.hid (B13.out.call HS.out ch re)
 clear ch re B13
 have HL := Lib.hid (vote_len (Vote.mk K1.val K2.val (small K3.val) (padded 32 K4.val) K5.val K6.val (padded 16 K7.val)) LEK4.out LEK7.out)
 go_wp2_with (first
  | (with_reducible show wpList _ _ _ (Oper.mk _ (Op.store 25 _ _) _ _ _ _ :: _) _ _; go_must (refine wpList_st rfl 25 _ _ rfl bx 37 rfl (.agg (bv (padded 16 K7.val)).toArray) rfl (bv (padded 16 K7.val)) rfl 16 info_seal16 (by rw [bv_length]; exact LEK7.out) _ _ B14.out.bk (vote_fit _ LEK4.out (zeros_len 16) _ (by omega)) (bv_one _) ?_; intro w15 hk15 hg15 hs15; have B15 := Lib.hid (B14.out.store (X' := ((Vote.mk K1.val K2.val (small K3.val) (padded 32 K4.val) K5.val K6.val (padded 16 K7.val))).cl.toArray) HS.out hk15 hg15 (vote_seal (Vote.mk K1.val K2.val (small K3.val) (padded 32 K4.val) K5.val K6.val (zeros 16)) (padded 16 K7.val) LEK4.out (zeros_len 16) LEK7.out)); clear hk15 hg15 hs15 B14))
  | (with_reducible show wpList _ _ _ (Oper.mk _ (Op.load _ _) _ _ _ _ :: _) _ _; refine wpList_load_part rfl 31 _ rfl bx 0 53 rfl _ _ _ B15.out.bk Tryz.underlying31 rfl info_vote53 (by simp [HL.out]) _ (cl_all HL.out) ?_)
  | (with_reducible show wpList _ _ _ (Oper.mk _ (Op.store 31 _ _) _ _ _ _ :: _) _ _; go_must (refine wpList_st rfl 31 _ _ rfl bx 0 rfl (.agg ((Vote.mk K1.val K2.val (small K3.val) (padded 32 K4.val) K5.val K6.val (padded 16 K7.val))).cl.toArray) rfl ((Vote.mk K1.val K2.val (small K3.val) (padded 32 K4.val) K5.val K6.val (padded 16 K7.val))).cl rfl 53 info_vote53 HL.out _ _ B15.out.bk (by simp [HL.out]) (voteR_one _) ?_; intro wz hkz hgz hsz; have Bz := Lib.hid (B15.out.store HS.out hkz hgz (splice_all HL.out)))))
 rw [HF.out]
 exact bodyPost_cell Tryz.results80 rfl Bz.out.bk Tryz.underlying31 rfl info_vote53 (by simp [HL.out]) rfl ⟨rfl, Bz.out.ch, Bz.out.re⟩



set_option maxHeartbeats 1000000 in
theorem getSealedVote_any (w : World) (g : Nat) (A : Option Addr) (c : Nat) (l : List UInt8) (p : Nat) (e : Int) (h : Re w g A c l p e) :
  Calls Tryz.prog 31 #[.pointer (some ⟨g, 0, none⟩)] w (RdRes g A c l (rdVoteS l p e) (fun x => .agg x.cl.toArray) w) := by
 have H := Lib.hid h
 have hgl : g < w.heap.size := h.bk.lt
 clear h
 have hok := rdVoteS_ok l p e
 have key0 := fun (wx : World) (hx : Re wx g A c l p e) => getVote_yes wx g A c l p e hx
 generalize rdVoteS l p e = K at *
 have HL := Lib.hid (vote_len K.val hok.id hok.sl)
 have HKEY := Lib.hid key0
 clear key0 hok
 go_enter Tryz.func31, Tryz.ntmps31
 go_wp2_with (with_reducible show wpList _ _ _ (Oper.mk _ (Op.alloc _) _ _ _ _ :: _) _ _; refine wpList_alloc_bk rfl _ rfl (.agg zeroVoteR.cl.toArray) (by kernel_rfl) ?_)
 intro bh w1 hk1 hb1 hg1 hs1
 have HS := Lib.hid (Side.mk (w0 := w) (g := g) (A := A) (bx := bh) hgl H.out.lt (by omega))
 have B1 := Lib.hid (Bld.mk (T := 31) (H.out.below hb1) (Ch.of_below [g] hb1) (bk_eq (cs' := zeroVoteR.cl.toArray) hk1 rfl))
 clear hk1 hb1 hg1 hs1
 go_wp2_with fail
 refine (HKEY.out w1 B1.out.re).mono ?_
 rintro en w2 ⟨rfl, ch, re⟩
 have B2 := Lib.hid (B1.out.call HS.out ch re)
 clear ch re B1
 go_wp2_with (with_reducible show wpList _ _ _ (Oper.mk _ (Op.store _ _ _) _ _ _ _ :: _) _ _; go_must (refine wpList_st rfl 31 _ _ rfl bh 0 rfl (.agg K.val.cl.toArray) rfl K.val.cl rfl 53 info_vote53 HL.out _ _ B2.out.bk (by simp [show zeroVoteR.cl.length = 53 from rfl]) (voteR_one _) ?_; intro w5 hk5 hg5 hs5; have B3 := Lib.hid (B2.out.store HS.out hk5 hg5 (splice_same HL.out (show zeroVoteR.cl.length = 53 from rfl)))))
 exact bodyPost_cell Tryz.results31 rfl B3.out.bk Tryz.underlying31 rfl info_vote53 (by simp [HL.out]) rfl ⟨rfl, B3.out.ch, B3.out.re⟩
end Go.Proofs.YtlhnhjglcbggmaaGreatRR
namespace Go.Proofs.YtlhnhjglcbggmaaGreatRR
set_option linter.unusedSimpArgs false
set_option linter.unusedVariables false
open Go.RowKit
set_option maxRecDepth 100000

/-- a number that was laid down is read back -/
theorem groups_fw (v : Nat) : ∀ (k acc : Nat) (rest : List UInt8), v * 128 ^ k < 18446744073709551616 → (0 < k → 0 < v) → k ≤ 9 → groups (varB v ++ rest) k acc = .inr (acc + v * 128 ^ k, k + (varB v).length) := by
 induction v using Nat.strongRecOn with
 | _ v ih =>
  intro k acc rest hv hk hk9
  have e9 : (128 : Nat) ^ 9 = 9223372036854775808 := by decide
  by_cases h : v < 128
  ·rw [varB_small h]
   have hb : (UInt8.ofNat v).toNat = v := by simp; omega
   show groups (UInt8.ofNat v :: rest) k acc = _
   rw [groups_last (by
    rw [hb]
    rintro (⟨h9, h1⟩ | ⟨h0, h1⟩)
    ·subst h9
     rw [e9] at hv
     omega
    ·have := hk h0; omega) (by rw [hb]; exact h), hb]
   rfl
  ·have h128 : 128 ≤ v := by omega
   rw [varB_big h128]
   have hb : (UInt8.ofNat (v % 128 + 128)).toNat = v % 128 + 128 := by simp; omega
   have hlt : 128 * 128 ^ k ≤ v * 128 ^ k := Nat.mul_le_mul_right _ h128
   have hk8 : k ≤ 8 := by
    rcases Nat.lt_or_ge k 9 with h | h
    ·omega
    ·have : k = 9 := by omega
     subst this
     rw [e9] at hlt hv
     omega
   show groups (UInt8.ofNat (v % 128 + 128) :: (varB (v / 128) ++ rest)) k acc = _
   rw [groups_more (by
    rw [hb]
    rintro (⟨h9, _⟩ | ⟨_, h1⟩) <;> omega) (by rw [hb]; omega) (by rw [hb]; omega), hb]
   have e1 : (v % 128 + 128) % 128 = v % 128 := by omega
   have e2 : v / 128 * 128 ^ (k + 1) + v % 128 * 128 ^ k = v * 128 ^ k := by
    rw [Nat.pow_succ, Nat.mul_comm (128 ^ k) 128, ← Nat.mul_assoc, ← Nat.add_mul]
    congr 1
    omega
   have hle : v / 128 * 128 ^ (k + 1) ≤ v * 128 ^ k := by omega
   rw [ih (v / 128) (by omega) (k + 1) _ rest (by omega) (fun _ => by omega) (by omega), e1]
   congr 2
   ·omega
   ·simp only [List.length_cons]; omega

theorem drop_app {l a r : List UInt8} {p : Nat} (h : l.drop p = a ++ r) (hp : p ≤ l.length) : l.drop (p + a.length) = r ∧ p + a.length ≤ l.length := by
 constructor
 ·rw [← List.drop_drop, h]; exact List.drop_left
 ·have := congrArg List.length h
  simp at this
  omega

/-! forward -/
theorem fw_byte {l r : List UInt8} {p : Nat} {b : UInt8} (hp : p ≤ l.length) (h : l.drop p = [b] ++ r) : readByte l p 0 = ⟨(b.toNat : Int), p + 1, 0⟩ := by
 have hlt : p < l.length := by have := congrArg List.length h; simp at this; omega
 have hb : l[p] = b := by
  have h' : l[p] :: l.drop (p + 1) = b :: r := by rw [← List.drop_eq_getElem_cons hlt]; exact h
  exact (List.cons.inj h').1
 unfold readByte
 rw [after_zero]
 unfold coreByte
 rw [List.getElem?_eq_getElem hlt, hb]
theorem fw_var {l r : List UInt8} {p v : Nat} (h : l.drop p = varB v ++ r) (hv : v < 18446744073709551616) : readVar l p 0 = ⟨v, p + (varB v).length, 0⟩ := by
 unfold readVar
 rw [after_zero]
 unfold coreVar
 rw [h, groups_fw v 0 0 r (by simpa using hv) (fun h => by omega) (by omega)]
 simp
theorem fw_raw {l a r : List UInt8} {p : Nat} (hp : p ≤ l.length) (h : l.drop p = a ++ r) : readRaw a.length l p 0 = ⟨a, p + a.length, 0⟩ := by
 have hlen := congrArg List.length h
 simp at hlen
 unfold readRaw
 rw [after_zero]
 unfold coreRaw
 rw [if_neg (by omega), h]
 simp
theorem fw_end {l : List UInt8} {p : Nat} (h : l.drop p = []) : endErr l p 0 = 0 := by
 have := congrArg List.length h
 simp at this
 unfold endErr
 rw [if_pos rfl, if_neg (by omega)]

/-! backward -/
theorem padded_full {n : Nat} {l : List UInt8} (h : l.length = n) : padded n l = l := by
 unfold padded
 rw [h, Nat.sub_self]
 simp [zeros]
theorem small_le {n : Nat} (h : n ≤ 65535) : small n = n := by unfold small; omega

theorem fw_vote {l r : List UInt8} {p : Nat} {x : Vote} (hx : x.ok) (hb : VoteB x) (hp : p ≤ l.length) (h : l.drop p = encVote x ++ r) : rdVote l p 0 = ⟨{ x with sl := zeros 16 }, p + (encVote x).length, 0⟩ := by
 obtain ⟨k1, k2, h1, h2, r1, r2, t1, t2, _, f1, f2⟩ := hb
 unfold encVote at h ⊢
 simp only [List.append_assoc] at h
 obtain ⟨d1, q1⟩ := drop_app h hp
 obtain ⟨d2, q2⟩ := drop_app d1 q1
 obtain ⟨d3, q3⟩ := drop_app d2 q2
 obtain ⟨d4, q4⟩ := drop_app d3 q3
 obtain ⟨d5, q5⟩ := drop_app d4 q4
 unfold rdVote
 simp only
 have e1 := fw_byte hp h
 have hid := hx.id
 rw [e1]
 simp only
 have e2 := fw_var d1 (by omega)
 simp only [List.length_cons, List.length_nil] at e2 d2 d3 d4 d5 q2 q3 q4 q5
 rw [e2]
 simp only
 have e3 := fw_var d2 (by omega)
 rw [e3]
 simp only
 have e4 := fw_raw q3 d3
 rw [hid] at e4
 rw [e4]
 simp only
 rw [hid] at d4 d5
 have e5 := fw_var d4 (show x.time.toNat < 18446744073709551616 by omega)
 rw [e5]
 simp only
 have e6 := fw_var d5 (show x.frm.toNat < 18446744073709551616 by omega)
 rw [e6, padded_full hid, small_le (by omega)]
 have hk : ((UInt8.ofNat x.kind.toNat).toNat : Int) = x.kind := by rw [byte_of]; omega
 rw [hk]
 simp only [List.length_append, List.length_cons, List.length_nil, hid]
 have j1 : (x.height.toNat : Int) = x.height := by omega
 have j2 : (x.round.toNat : Int) = x.round := by omega
 have j3 : (x.time.toNat : Int) = x.time := by omega
 have j4 : (x.frm.toNat : Int) = x.frm := by omega
 rw [j1, j2, j3, j4]
 congr 1
 omega
end Go.Proofs.YtlhnhjglcbggmaaGreatRR

/-
  DecodeVote, and alive. Condition: the bytes are within reach.
-/
import Derived.Test.YtlhnhjglcbggmaaGreatRRY15
import Derived.Test.YtlhnhjglcbggmaaGreatRRY42
import Derived.Test.YtlhnhjglcbggmaaGreatRRY08
import Derived.Test.YtlhnhjglcbggmaaGreatRRY12
namespace Go.Proofs.YtlhnhjglcbggmaaGreatRR
set_option linter.unusedSimpArgs false
set_option linter.unusedVariables false
open Go.RowKit
set_option maxRecDepth 100000

def decVote (l : List UInt8) : Int × Vote :=
 let v := rdVoteS l 0 0
 if endErr l v.at' v.err ≠ 0 then (endErr l v.at' v.err, zeroVoteR) else
 if plainVote v.val ≠ 0 then (plainVote v.val, zeroVoteR) else (0, v.val)
theorem decVote_ok (l : List UInt8) : (decVote l).2.ok := by
 unfold decVote
 simp only
 split
 ·exact zeroVote_ok
 ·split
  ·exact zeroVote_ok
  ·exact rdVoteS_ok _ _ _
def DecRes (k : Int × Vote) (w : World) (en : Ending) (w' : World) : Prop :=
 en = .returned (.tuple #[.agg k.2.cl.toArray, .int .i64 k.1]) ∧ Below w.heap.size w w'
theorem bodyPost_ctR {P : Program} {fn : Func} {R : Ending → World → Prop} {act : Act} {w : World} {b c t n g : Nat} {x : Value} {cs : Array Value} {bt : TypeId} {d : TypeDesc} (hr : fn.results = #[.cell b t, .tmp c]) (ht : act.tmps.getD b undef = .pointer (some ⟨g, 0, none⟩)) (hc : act.tmps.getD c undef = x) (hk : Bk w g cs bt) (hu : P.underlying t = some d) (hda : aggD d = true) (hi : (P.info? t).map (·.size) = some n) (hn : n = cs.size) (hd : act.defers = []) (hR : R (.returned (.tuple #[.agg cs, x])) w) : bodyPost P fn R .ret act w := by
 have hl := run_loadVar_part (P := P) (off := 0) hk hu hda hi (by omega)
 have e : cs.extract 0 (0 + n) = cs := by subst hn; simp
 rw [e] at hl
 refine bodyPost_ret (v := .tuple #[.agg cs, x]) ?_ hd hR
 simp only [Array.getD_eq_getD_getElem?] at ht hc
 simp [results, hr, ht, hc, hl, asAddr, Sem.run_bind, Sem.run_pure]

set_option maxHeartbeats 8000000 in
theorem decodeVote_any (w : World) (A : Option Addr) (n c : Nat) (l : List UInt8) (hr : Rd w A (bv l)) (hn : n = l.length) (hl : l.length ≤ reach47) :
  Calls Tryz.prog 30 #[.slice A n c, .int .i64 9223372036854775807, .func (.func 28) #[] #[], .func (.func 31) #[] #[]] w (DecRes (decVote l) w) := by
 have hlen : ¬ ((9223372036854775807 : Int) < (n : Int)) := by unfold reach47 at hl; omega
 have HR := Lib.hid hr
 have HN := Lib.hid hn
 have HL := Lib.hid hl
 clear hr hn hl
 obtain ⟨K3, hK3⟩ : ∃ K, rdVoteS l 0 0 = K := ⟨_, rfl⟩
 obtain ⟨E, hE⟩ : ∃ E, endErr l K3.at' K3.err = E := ⟨_, rfl⟩
 obtain ⟨F, hF⟩ : ∃ F, plainVote K3.val = F := ⟨_, rfl⟩
 have HK0 := Lib.hid (show decVote l = if E ≠ 0 then (E, zeroVoteR) else if F ≠ 0 then (F, zeroVoteR) else (0, K3.val) from by
  unfold decVote
  simp only [hK3, hE, hF])
 have hok : K3.val.ok := by rw [← hK3]; exact rdVoteS_ok _ _ _
 have HK3 := Lib.hid hK3
 have HE := Lib.hid hE
 have HF := Lib.hid hF
 have HOK := Lib.hid hok
 have HZL := Lib.hid (show zeroVoteR.cl.length = 53 from by rfl)
 have HKL := Lib.hid (vote_len K3.val hok.id hok.sl)
 clear hK3 hE hF hok
 go_enter Tryz.func30, Tryz.ntmps30
 go_wp2_with (with_reducible show wpList _ _ _ (Oper.mk (some 8) (Op.alloc _) _ _ _ _ :: _) _ _; refine wpList_alloc_bk rfl _ rfl (.agg zeroVoteR.cl.toArray) (by kernel_rfl) ?_)
 intro b1 w1 hk1 hb1 hg1 hs1
 have HG1 := Lib.hid hg1
 have HS1 := Lib.hid hs1
 clear hg1 hs1
 go_wp2_with (with_reducible show wpList _ _ _ (Oper.mk (some 10) (Op.alloc _) _ _ _ _ :: _) _ _; refine wpList_alloc_bk rfl _ rfl (.agg zeroVoteR.cl.toArray) (by kernel_rfl) ?_)
 intro b2 w2 hk2 hb2 hg2 hs2
 have B12 := Lib.hid (show w.heap.size ≤ b1 ∧ b1 < b2 ∧ b2 < w2.heap.size by have := HG1.out; have := HS1.out; omega)
 have H2 := Lib.hid (hb1.trans (hb2.mono hb1.size))
 have Z1 := Lib.hid (bk_eq (cs' := zeroVoteR.cl.toArray) (hk1.below hb2 hk1.lt) rfl)
 have Z2 := Lib.hid (bk_eq (cs' := zeroVoteR.cl.toArray) hk2 rfl)
 clear hk1 hk2 hb1 hb2 hg2 hs2
 go_wp2_with fail
 refine (newReader_any w2 A n c l ((HR.out).of_cells (fun ad j _ hn => H2.out.cell (cell_block hn))) HN.out HL.out).mono ?_
 rintro en w3 ⟨g, A', c', rfl, r3, g3, a3, b3⟩
 have HS := Lib.hid (HdS.mk (w0 := w) (g := g) (A := A') (b1 := b1) (b2 := b2) B12.out.1 B12.out.2.1 (by have := B12.out; omega) (fun a ha => by have := a3 a ha; have := B12.out; omega))
 have D3 := Lib.hid (Hd.mk (T := 31) r3 (H2.out.trans (b3.mono H2.out.size)) (Z1.out.below b3 Z1.out.lt) (Z2.out.below b3 Z2.out.lt))
 clear r3 g3 a3 b3 Z1 Z2 H2 HR
 go_wp2_with fail
 refine (getSealedVote_any w3 g A' c' l 0 0 D3.out.re).mono ?_
 rintro en w7 ⟨rfl, ch, re⟩
 rw [HK3.out] at re ⊢
 have D7 := Lib.hid (D3.out.call HS.out ch re)
 clear ch re D3
 go_wp2_with (first
  | (with_reducible show wpList _ _ _ (Oper.mk (some 12) (Op.alloc _) _ _ _ _ :: _) _ _; refine wpList_alloc_bk rfl _ rfl (.agg zeroVoteR.cl.toArray) (by kernel_rfl) ?_; intro b3 w8 hk8 hb8 hg8 hs8; have D8 := Lib.hid (D7.out.below hb8); have B3 := Lib.hid (show w.heap.size ≤ b3 ∧ b2 < b3 ∧ g < b3 ∧ (∀ a, A' = some a → a.block < b3) from ⟨by have := D7.out.bel.size; omega, by have := D7.out.z2.lt; omega, by have := D7.out.re.bk.lt; omega, fun a ha => by have := D7.out.re.lt a ha; omega⟩); have X8 := Lib.hid (bk_eq (cs' := zeroVoteR.cl.toArray) hk8 rfl); clear hk8 hb8 hg8 hs8 D7)
  | (with_reducible show wpList _ _ _ (Oper.mk _ (Op.store 31 _ _) _ _ _ _ :: _) _ _; go_must (refine wpList_st rfl 31 _ _ rfl b3 0 rfl (.agg K3.val.cl.toArray) rfl K3.val.cl rfl 53 info_vote53 HKL.out _ _ X8.out (by have := HZL.out; simp [this]) (voteR_one _) ?_; intro w9 hk9 hg9 hs9; have D9 := Lib.hid (Hd.own D8.out hg9 (by have := B3.out.2.2.1; omega) B3.out.2.2.2 (by have := HS.out.b12; have := B3.out.2.1; omega) (by have := B3.out.2.1; omega) B3.out.1); have X9 := Lib.hid (bk_eq hk9 (splice_same HKL.out HZL.out)); clear hk9 hg9 hs9 D8 X8)))
 refine (End_any w9 g A' c' l _ _ D9.out.re).mono ?_
 rintro en w10 ⟨rfl, ch, re⟩
 rw [HE.out]
 have D10 := Lib.hid (D9.out.call HS.out ch re)
 have X10 := Lib.hid (X9.out.ch ch (by have := B3.out.2.2.1; simp; omega))
 clear ch re D9 X9
 by_cases hz : E = 0
 ·have e1 : (E != 0) = false := by simp [hz]
  have e2 : (E == 0) = true := by simp [hz]
  have HK1 := Lib.hid (HK0.out.trans (if_neg (fun h => h hz)))
  clear hz
  go_wp2_with (with_reducible show wpList _ _ _ (Oper.mk (some 32) (Op.load _ _) _ _ _ _ :: _) _ _; refine wpList_load_part rfl 31 _ rfl b3 0 53 rfl _ _ _ X10.out Tryz.underlying31 rfl info_vote53 (by simp [HKL.out]) _ (cl_all HKL.out) ?_)
  refine (plainVote_any w10 K3.val HOK.out).mono ?_
  rintro en w11 ⟨rfl, hb11⟩
  rw [HF.out]
  have D11 := Lib.hid (D10.out.below hb11)
  have X11 := Lib.hid (X10.out.below hb11 X10.out.lt)
  clear hb11 D10 X10
  by_cases hf : F = 0
  ·have f1 : (F != 0) = false := by simp [hf]
   have f2 : (F == 0) = true := by simp [hf]
   have HK := Lib.hid (HK1.out.trans (if_neg (fun h => h hf)))
   clear hf
   go_wp2_with (first
    | (with_reducible show wpList _ _ _ (Oper.mk (some 38) (Op.load _ _) _ _ _ _ :: _) _ _; refine wpList_load_part rfl 31 _ rfl b3 0 53 rfl _ _ _ X11.out Tryz.underlying31 rfl info_vote53 (by simp [HKL.out]) _ (cl_all HKL.out) ?_)
    | (with_reducible show wpList _ _ _ (Oper.mk _ (Op.store 31 _ _) _ _ _ _ :: _) _ _; go_must (refine wpList_st rfl 31 _ _ rfl b1 0 rfl (.agg (K3.val).cl.toArray) rfl (K3.val).cl rfl 53 info_vote53 HKL.out _ _ D11.out.z1 (by have := HZL.out; simp [this]) (voteR_one _) ?_; intro wz hkz hgz hsz)))
   have hkz := bk_eq hkz (splice_same HKL.out HZL.out)
   rw [HK.out]
   exact bodyPost_ctR Tryz.results30 rfl rfl hkz Tryz.underlying31 rfl info_vote53 (by simp [HKL.out]) rfl ⟨rfl, D11.out.bel.grown hgz D11.out.bel.size (fun k hk => by cases hk; exact B12.out.1)⟩
  ·have f1 : (F != 0) = true := by simp [hf]
   have f2 : (F == 0) = false := by simp [hf]
   have HK := Lib.hid (HK1.out.trans (if_pos hf))
   clear hf
   go_wp2_with (first
    | (with_reducible show wpList _ _ _ (Oper.mk (some 36) (Op.load _ _) _ _ _ _ :: _) _ _; refine wpList_load_part rfl 31 _ rfl b2 0 53 rfl _ _ _ D11.out.z2 Tryz.underlying31 rfl info_vote53 (by simp [HZL.out]) _ (cl_all HZL.out) ?_)
    | (with_reducible show wpList _ _ _ (Oper.mk _ (Op.store 31 _ _) _ _ _ _ :: _) _ _; go_must (refine wpList_st rfl 31 _ _ rfl b1 0 rfl (.agg (zeroVoteR).cl.toArray) rfl (zeroVoteR).cl rfl 53 info_vote53 HZL.out _ _ D11.out.z1 (by have := HZL.out; simp [this]) (voteR_one _) ?_; intro wz hkz hgz hsz)))
   have hkz := bk_eq hkz (splice_same HZL.out HZL.out)
   rw [HK.out]
   exact bodyPost_ctR Tryz.results30 rfl rfl hkz Tryz.underlying31 rfl info_vote53 (by simp [HZL.out]) rfl ⟨rfl, D11.out.bel.grown hgz D11.out.bel.size (fun k hk => by cases hk; exact B12.out.1)⟩
 ·have e1 : (E != 0) = true := by simp [hz]
  have e2 : (E == 0) = false := by simp [hz]
  have HK := Lib.hid (HK0.out.trans (if_pos hz))
  clear hz
  go_wp2_with (first
   | (with_reducible show wpList _ _ _ (Oper.mk (some 29) (Op.load _ _) _ _ _ _ :: _) _ _; refine wpList_load_part rfl 31 _ rfl b2 0 53 rfl _ _ _ D10.out.z2 Tryz.underlying31 rfl info_vote53 (by simp [HZL.out]) _ (cl_all HZL.out) ?_)
   | (with_reducible show wpList _ _ _ (Oper.mk _ (Op.store 31 _ _) _ _ _ _ :: _) _ _; go_must (refine wpList_st rfl 31 _ _ rfl b1 0 rfl (.agg (zeroVoteR).cl.toArray) rfl (zeroVoteR).cl rfl 53 info_vote53 HZL.out _ _ D10.out.z1 (by have := HZL.out; simp [this]) (voteR_one _) ?_; intro wz hkz hgz hsz)))
  have hkz := bk_eq hkz (splice_same HZL.out HZL.out)
  rw [HK.out]
  exact bodyPost_ctR Tryz.results30 rfl rfl hkz Tryz.underlying31 rfl info_vote53 (by simp [HZL.out]) rfl ⟨rfl, D10.out.bel.grown hgz D10.out.bel.size (fun k hk => by cases hk; exact B12.out.1)⟩

set_option maxHeartbeats 1000000 in
theorem DecodeVote_any (w : World) (A : Option Addr) (n c : Nat) (l : List UInt8) (hr : Rd w A (bv l)) (hn : n = l.length) (hl : l.length ≤ reach47) :
  Calls Tryz.prog 11 #[.slice A n c] w (DecRes (decVote l) w) := by
 have HKEY := Lib.hid (fun (wx : World) (hx : Rd wx A (bv l)) => decodeVote_any wx A n c l hx hn hl)
 have HR := Lib.hid hr
 have hok := decVote_ok l
 clear hr hn hl
 generalize decVote l = K at *
 have HZL := Lib.hid (show zeroVoteR.cl.length = 53 from by rfl)
 have HKL := Lib.hid (vote_len K.2 hok.id hok.sl)
 clear hok
 go_enter Tryz.func11, Tryz.ntmps11
 go_wp2_with (with_reducible show wpList _ _ _ (Oper.mk (some 2) (Op.alloc _) _ _ _ _ :: _) _ _; refine wpList_alloc_bk rfl _ rfl (.agg zeroVoteR.cl.toArray) (by kernel_rfl) ?_)
 intro b1 w1 hk1 hb1 hg1 hs1
 have HG := Lib.hid hg1
 have HB := Lib.hid hb1
 have HK1 := Lib.hid (bk_eq (cs' := zeroVoteR.cl.toArray) hk1 rfl)
 clear hk1 hb1 hg1 hs1
 go_wp2_with fail
 refine (HKEY.out w1 ((HR.out).of_cells (fun ad j _ hn => HB.out.cell (cell_block hn)))).mono ?_
 rintro en w2 ⟨rfl, hb2⟩
 have B2 := Lib.hid (HB.out.trans (hb2.mono HB.out.size))
 have K2 := Lib.hid (HK1.out.below hb2 HK1.out.lt)
 clear hb2
 go_wp2_with (with_reducible show wpList _ _ _ (Oper.mk _ (Op.store _ _ _) _ _ _ _ :: _) _ _; go_must (refine wpList_st rfl 31 _ _ rfl b1 0 rfl (.agg K.2.cl.toArray) rfl K.2.cl rfl 53 info_vote53 HKL.out _ _ K2.out (by have := HZL.out; simp [this]) (voteR_one _) ?_; intro wz hkz hgz hsz))
 have BZ := Lib.hid (B2.out.grown hgz B2.out.size (fun k hk => by cases hk; have := HG.out; omega))
 have hkz := bk_eq hkz (splice_same HKL.out HZL.out)
 exact bodyPost_ctR Tryz.results11 rfl rfl hkz Tryz.underlying31 rfl info_vote53 (by simp [HKL.out]) rfl ⟨rfl, BZ.out⟩

/-- the vote that alive lays down and reads -/
def aliveV : Vote := ⟨1, 1, 0, zeros 32, 0, 1, zeros 16⟩
theorem aliveV_ok : aliveV.ok := by
 refine ⟨?_, ?_, ?_, rfl, ?_, ?_, rfl⟩ <;> exact ⟨by decide, by decide⟩
theorem aliveV_plain : plainVote aliveV = 0 := by decide
theorem alive_dec : decVote (formVote aliveV) = (0, aliveV) := by
 have hvb := voteB aliveV_ok aliveV_plain
 have hd : (formVote aliveV).drop 0 = encVote aliveV ++ (zeros 16 ++ []) := by unfold formVote; simp [aliveV]
 have hv := fw_vote aliveV_ok hvb (Nat.zero_le _) hd
 obtain ⟨d1, q1⟩ := drop_app hd (Nat.zero_le _)
 have hr := fw_raw q1 d1
 obtain ⟨d2, q2⟩ := drop_app d1 q1
 rw [zeros_len] at hr
 have hs : rdVoteS (formVote aliveV) 0 0 = ⟨{ (rdVote (formVote aliveV) 0 0).val with sl := padded 16 (readRaw 16 (formVote aliveV) (rdVote (formVote aliveV) 0 0).at' (rdVote (formVote aliveV) 0 0).err).val }, (readRaw 16 (formVote aliveV) (rdVote (formVote aliveV) 0 0).at' (rdVote (formVote aliveV) 0 0).err).at', (readRaw 16 (formVote aliveV) (rdVote (formVote aliveV) 0 0).at' (rdVote (formVote aliveV) 0 0).err).err⟩ := rfl
 rw [hv] at hs
 simp only at hs
 rw [hr] at hs
 simp only at hs
 rw [padded_full (zeros_len 16)] at hs
 unfold decVote
 rw [hs]
 simp only
 rw [zeros_len] at d2
 rw [if_neg (fun h => h (fw_end d2)), if_neg (fun h => h (by decide))]
 rfl
theorem alive_pos : 0 < (formVote aliveV).length ∧ (formVote aliveV).length ≤ reach47 := by
 have h := encVote_len aliveV_ok (voteB aliveV_ok aliveV_plain)
 unfold formVote reach47
 simp only [List.length_append]
 have : aliveV.sl.length = 16 := rfl
 omega

def aliveKs : List CK := [.int .i64, .int .u64, .int .i64] ++ List.replicate 32 (.int .u8) ++ [.int .u64, .int .u64] ++ List.replicate 16 (.int .u8)
theorem flat_alive : flat Tryz.prog 3 31 = some aliveKs := by kernel_rfl
theorem agg_alive : isAggT Tryz.prog 31 = true := by kernel_rfl
theorem guard_alive : Tryz.prog.eqGuardType Tryz.prog.depth 31 = false := by kernel_rfl
theorem fits_alive : Fits aliveKs aliveV.cl := by
 refine Fits.app (Fits.app (Fits.app ⟨rfl, rfl, rfl, trivial⟩ ?_) ⟨rfl, rfl, trivial⟩) ?_
 ·exact Fits.bytes (zeros 32)
 ·exact Fits.bytes (zeros 16)

set_option maxHeartbeats 4000000 in
theorem alive_any (w : World) :
  Calls Tryz.prog 5 #[] w fun en w' => en = .returned (.bool true) ∧ Below w.heap.size w w' := by
 have HZL := Lib.hid (show zeroVoteR.cl.length = 53 from by rfl)
 have HAL := Lib.hid (show aliveV.cl.length = 53 from by rfl)
 have hpos := alive_pos.1
 obtain ⟨l, hl⟩ : ∃ l, formVote aliveV = l := ⟨_, rfl⟩
 rw [hl] at hpos
 have HLE := Lib.hid (show l.length ≤ reach47 from by rw [← hl]; exact alive_pos.2)
 have HD := Lib.hid (show decVote l = (0, aliveV) from by rw [← hl]; exact alive_dec)
 have HF := Lib.hid hl
 have HP := Lib.hid aliveV_plain
 have FX := Lib.hid (show Fits aliveKs aliveV.cl from fits_alive)
 have hp2 : (0 : Int) < (l.length : Int) := by omega
 clear hl
 go_enter Tryz.func5, Tryz.ntmps5
 go_wp2_with (first
  | (with_reducible show wpList _ _ _ (Oper.mk (some 1) (Op.alloc _) _ _ _ _ :: _) _ _; refine wpList_alloc_bk rfl _ rfl (.agg zeroVoteR.cl.toArray) (by kernel_rfl) ?_; intro b1 w1 hk hb hg hs; have K1 := Lib.hid (bk_eq (cs' := zeroVoteR.cl.toArray) hk rfl); have B1 := Lib.hid hb; have G1 := Lib.hid hg; clear hk hb hg hs)
  | (with_reducible show wpList _ _ _ (Oper.mk _ (Op.store 31 _ _) _ _ _ _ :: _) _ _; go_must (refine wpList_st rfl 31 _ _ rfl b1 0 rfl (.agg aliveV.cl.toArray) rfl aliveV.cl rfl 53 info_vote53 HAL.out _ _ K1.out (by have := HZL.out; simp [this]) (voteR_one _) ?_; intro w2 hk hg hs; have B2 := Lib.hid (B1.out.grown hg B1.out.size (fun k hk => by cases hk; have := G1.out; omega)); have K2 := Lib.hid (bk_eq hk (splice_same HAL.out HZL.out)); clear hk hg hs K1 B1))
  | (with_reducible show wpList _ _ _ (Oper.mk (some 8) (Op.load _ _) _ _ _ _ :: _) _ _; refine wpList_load_part rfl 31 _ rfl b1 0 53 rfl _ _ _ K2.out Tryz.underlying31 rfl info_vote53 (by simp [HAL.out]) _ (cl_all HAL.out) ?_))
 refine (EncodeVote_any w2 aliveV aliveV_ok).mono ?_
 rw [HP.out, HF.out]
 rintro en w3 ⟨hb3, ⟨hz, _⟩ | ⟨_, v, rfl, hv⟩⟩
 ·exact absurd rfl hz
 obtain ⟨Av, cv, rfl⟩ := hv.form
 have B3 := Lib.hid (B2.out.trans (hb3.mono B2.out.size))
 have K3 := Lib.hid (K2.out.below hb3 K2.out.lt)
 have R3 := Lib.hid hv.rd
 clear hb3 hv K2
 go_wp2_with fail
 refine (DecodeVote_any w3 Av _ cv l R3.out rfl HLE.out).mono ?_
 rw [HD.out]
 rintro en w4 ⟨rfl, hb4⟩
 have B4 := Lib.hid (B3.out.trans (hb4.mono B3.out.size))
 have K4 := Lib.hid (K3.out.below hb4 K3.out.lt)
 clear hb4 K3 B3
 go_wp2_with (first
  | (with_reducible show wpList _ _ _ (Oper.mk (some 4) (Op.alloc _) _ _ _ _ :: _) _ _; refine wpList_alloc_bk rfl _ rfl (.agg zeroVoteR.cl.toArray) (by kernel_rfl) ?_; intro b4 w5 hk hb hg hs; have M5 := Lib.hid (bk_eq (cs' := zeroVoteR.cl.toArray) hk rfl); have A5 := Lib.hid hb; have G5 := Lib.hid hg; clear hk hb hg hs)
  | (with_reducible show wpList _ _ _ (Oper.mk _ (Op.store 31 _ _) _ _ _ _ :: _) _ _; go_must (refine wpList_st rfl 31 _ _ rfl b4 0 rfl (.agg aliveV.cl.toArray) rfl aliveV.cl rfl 53 info_vote53 HAL.out _ _ M5.out (by have := HZL.out; simp [this]) (voteR_one _) ?_; intro w6 hk hg hs; have hb6 := A5.out.grown hg A5.out.size (fun k hk => by cases hk; have := G5.out; omega); have B6 := Lib.hid (B4.out.trans (hb6.mono B4.out.size)); have K6 := Lib.hid (K4.out.below hb6 K4.out.lt); have M6 := Lib.hid (bk_eq hk (splice_same HAL.out HZL.out)); clear hb6 hk hg hs M5 A5 G5 B4 K4))
  | (go_at_call 12; go_must (refine (lawNum_any _ _).mono ?_); rintro e wx ⟨rfl, rfl⟩)
  | (with_reducible show wpList _ _ _ (Oper.mk (some 31) (Op.load _ _) _ _ _ _ :: _) _ _; go_must (refine wpList_load_part rfl 31 _ rfl b4 0 53 rfl _ _ _ M6.out Tryz.underlying31 rfl info_vote53 (by simp [HAL.out]) _ (cl_all HAL.out) ?_))
  | (with_reducible show wpList _ _ _ (Oper.mk (some 32) (Op.load _ _) _ _ _ _ :: _) _ _; go_must (refine wpList_load_part rfl 31 _ rfl b1 0 53 rfl _ _ _ K6.out Tryz.underlying31 rfl info_vote53 (by simp [HAL.out]) _ (cl_all HAL.out) ?_))
  | (with_reducible show wpList _ _ _ (Oper.mk _ (Op.binOp BinOp.eql 31 _ _ _) _ _ _ _ :: _) _ _; go_must (refine wpList_eql_flat rfl 31 _ _ _ rfl aliveV.cl aliveV.cl rfl rfl 3 _ flat_alive (by omega) agg_alive guard_alive FX.out FX.out true (by simp) ?_)))
 go_ret
 exact ⟨rfl, B6.out⟩
end Go.Proofs.YtlhnhjglcbggmaaGreatRR

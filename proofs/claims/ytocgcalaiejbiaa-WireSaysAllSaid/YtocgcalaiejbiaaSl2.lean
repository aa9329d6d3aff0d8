/-
  getVote with its seal, getSealedVote. Condition: the Reader was made by NewReader (Re).
-/
import Derived.Test.YtocgcalaiejbiaaRd12
namespace Go.Proofs.Ytocgcalaiejbiaa
set_option linter.unusedSimpArgs false
set_option linter.unusedVariables false
open Go.RowKit
set_option maxRecDepth 100000

set_option maxHeartbeats 1000000 in
theorem signed_yes (w : World) (g : Nat) (A : Option Addr) (c : Nat) (l : List UInt8) (p : Nat) (e : Int) (h : Re w g A c l p e) :
    Calls Try.prog 86 #[.pointer (some ⟨g, 0, none⟩), .bool true] w (RdRes g A c l (readRaw 16 l p e) (toHash 16) w) := by
  have H := Lib.hid h
  have hgl : g < w.heap.size := h.bk.lt
  clear h
  have hle : (readRaw 16 l p e).val.length ≤ 16 := after_le
  have key0 := fun (wx : World) (hx : Re wx g A c l p e) => Seal_rd wx g A c l p e hx
  generalize readRaw 16 l p e = K at *
  have hpl : (bv (padded 16 K.val)).length = 16 := by rw [bv_length]; exact padded_len hle
  have HPL := Lib.hid hpl
  have HKEY := Lib.hid key0
  clear hle key0 hpl
  go_enter Try.func86, Try.ntmps86
  go_wp2_with (with_reducible show wpList _ _ _ (Oper.mk _ (Op.alloc _) _ _ _ _ :: _) _ _; refine wpList_alloc_bk rfl _ rfl (.agg (bv (zeros 16)).toArray) (by kernel_rfl) ?_)
  intro bh w1 hk1 hb1 hg1 hs1
  have HS := Lib.hid (Side.mk (w0 := w) (g := g) (A := A) (bx := bh) hgl H.out.lt (by omega))
  have B1 := Lib.hid (Bld.mk (T := 25) (H.out.below hb1) (Ch.of_below [g] hb1) (bk_eq (cs' := (bv (zeros 16)).toArray) hk1 rfl))
  clear hk1 hb1 hg1 hs1
  go_wp2_with fail
  refine (HKEY.out w1 B1.out.re).mono ?_
  rintro en w2 ⟨rfl, ch, re⟩
  have B2 := Lib.hid (B1.out.call HS.out ch re)
  clear ch re B1
  go_wp2_with (with_reducible show wpList _ _ _ (Oper.mk _ (Op.store _ _ _) _ _ _ _ :: _) _ _; go_must (refine wpList_st rfl 25 _ _ rfl bh 0 rfl (.agg (bv (padded 16 K.val)).toArray) rfl (bv (padded 16 K.val)) rfl 16 info_seal16 HPL.out _ _ B2.out.bk (by simp [bv, zeros]) (bv_one _) ?_; intro w5 hk5 hg5 hs5; have B3 := Lib.hid (B2.out.store HS.out hk5 hg5 (splice_same HPL.out (by rw [bv_length]; exact zeros_len 16)))))
  exact bodyPost_cell Try.results86 rfl B3.out.bk Try.underlying25 rfl info_seal16 (by simp [HPL.out]) rfl ⟨rfl, B3.out.ch, B3.out.re⟩

/-- a vote with its seal -/
def rdVoteS (l : List UInt8) (p : Nat) (e : Int) : Got Vote :=
  let a := readByte l p e
  let b := readVar l a.at' a.err
  let c := readVar l b.at' b.err
  let d := readRaw 32 l c.at' c.err
  let f := readVar l d.at' d.err
  let h := readVar l f.at' f.err
  let s := readRaw 16 l h.at' h.err
  ⟨⟨a.val, b.val, small c.val, padded 32 d.val, f.val, h.val, padded 16 s.val⟩, s.at', s.err⟩
theorem rdVoteS_ok (l : List UInt8) (p : Nat) (e : Int) : (rdVoteS l p e).val.ok :=
  ⟨show I64 (readByte l p e).val from by have h1 := readByte_bd l p e; unfold I64; omega, U64.of_bd (readVar_bd _ _ _), I64.of_small _, padded_len readRaw_le, U64.of_bd (readVar_bd _ _ _), U64.of_bd (readVar_bd _ _ _), padded_len readRaw_le⟩

set_option maxHeartbeats 4000000 in
theorem getVote_yes (w : World) (g : Nat) (A : Option Addr) (c : Nat) (l : List UInt8) (p : Nat) (e : Int) (h : Re w g A c l p e) :
    Calls Try.prog 46 #[.pointer (some ⟨g, 0, none⟩), .bool true] w (RdRes g A c l (rdVoteS l p e) (fun x => .agg x.cl.toArray) w) := by
  obtain ⟨K1, hK1⟩ : ∃ K, readByte l p e = K := ⟨_, rfl⟩
  have bdK1 := readByte_bd l p e
  rw [hK1] at bdK1
  have HK1 := Lib.hid hK1
  clear hK1
  obtain ⟨K2, hK2⟩ : ∃ K, readVar l K1.at' K1.err = K := ⟨_, rfl⟩
  have HK2 := Lib.hid hK2
  clear hK2
  obtain ⟨K3, hK3⟩ : ∃ K, readVar l K2.at' K2.err = K := ⟨_, rfl⟩
  have HK3 := Lib.hid hK3
  clear hK3
  obtain ⟨K4, hK4⟩ : ∃ K, readRaw 32 l K3.at' K3.err = K := ⟨_, rfl⟩
  have leK4 : (readRaw 32 l K3.at' K3.err).val.length ≤ 32 := readRaw_le
  rw [hK4] at leK4
  have LEK4 := Lib.hid (padded_len leK4)
  clear leK4
  have HK4 := Lib.hid hK4
  clear hK4
  obtain ⟨K5, hK5⟩ : ∃ K, readVar l K4.at' K4.err = K := ⟨_, rfl⟩
  have HK5 := Lib.hid hK5
  clear hK5
  obtain ⟨K6, hK6⟩ : ∃ K, readVar l K5.at' K5.err = K := ⟨_, rfl⟩
  have HK6 := Lib.hid hK6
  clear hK6
  obtain ⟨K7, hK7⟩ : ∃ K, readRaw 16 l K6.at' K6.err = K := ⟨_, rfl⟩
  have leK7 : (readRaw 16 l K6.at' K6.err).val.length ≤ 16 := readRaw_le
  rw [hK7] at leK7
  have LEK7 := Lib.hid (padded_len leK7)
  clear leK7
  have HK7 := Lib.hid hK7
  clear hK7
  have HF := Lib.hid (show rdVoteS l p e = ⟨⟨K1.val, K2.val, small K3.val, padded 32 K4.val, K5.val, K6.val, padded 16 K7.val⟩, K7.at', K7.err⟩ from by
    unfold rdVoteS
    simp only [HK1.out, HK2.out, HK3.out, HK4.out, HK5.out, HK6.out, HK7.out])
  have hgl : g < w.heap.size := h.bk.lt
  have HA := Lib.hid h.lt
  have HR0 := Lib.hid h
  clear h
  have WK1 : IntKind.i64.wrap K1.val = K1.val := by rw [IntKind.wrap_i64]; omega
  go_enter Try.func46, Try.ntmps46
  go_wp2_with (with_reducible show wpList _ _ _ (Oper.mk _ (Op.alloc _) _ _ _ _ :: _) _ _; refine wpList_alloc_bk rfl _ rfl (.agg (Vote.mk 0 0 0 (zeros 32) 0 0 (zeros 16)).cl.toArray) (by kernel_rfl) ?_)
  intro bx w1 hk1 hb1 hg1 hs1
  have HS := Lib.hid (Side.mk (w0 := w) (g := g) (A := A) (bx := bx) hgl HA.out (by omega))
  have B1 := Lib.hid (Bld.mk (T := 31) (HR0.out.below hb1) (Ch.of_below [g] hb1) hk1)
  clear hk1 hb1 hg1 hs1 HR0
  go_wp2_with fail
  refine (Byte_rd w1 g A c l _ _ B1.out.re).mono ?_
  rintro en w2 ⟨rfl, ch, re⟩
  rw [HK1.out] at re ⊢
  have B2 := Lib.hid (B1.out.call HS.out ch re)
  clear ch re B1
  go_wp2_with (with_reducible show wpList _ _ _ (Oper.mk _ (Op.store 3 _ _) _ _ _ _ :: _) _ _; go_must (refine wpList_st rfl 3 _ _ rfl bx 0 rfl (.int .i64 K1.val) rfl [.int .i64 K1.val] rfl 1 info_int1 rfl _ _ B2.out.bk (vote_fit _ (zeros_len 32) (zeros_len 16) _ (by omega)) (one_one rfl) ?_; intro w3 hk3 hg3 hs3; have B3 := Lib.hid (B2.out.store (X' := ((Vote.mk K1.val 0 0 (zeros 32) 0 0 (zeros 16))).cl.toArray) HS.out hk3 hg3 (vote_kind (Vote.mk 0 0 0 (zeros 32) 0 0 (zeros 16)) K1.val)); clear hk3 hg3 hs3 B2))
  refine (Var_rd w3 g A c l _ _ B3.out.re).mono ?_
  rintro en w4 ⟨rfl, ch, re⟩
  rw [HK2.out] at re ⊢
  have B4 := Lib.hid (B3.out.call HS.out ch re)
  clear ch re B3
  go_wp2_with (with_reducible show wpList _ _ _ (Oper.mk _ (Op.store 22 _ _) _ _ _ _ :: _) _ _; go_must (refine wpList_st rfl 22 _ _ rfl bx 1 rfl (.int .u64 K2.val) rfl [.int .u64 K2.val] rfl 1 info_u641 rfl _ _ B4.out.bk (vote_fit _ (zeros_len 32) (zeros_len 16) _ (by omega)) (one_one rfl) ?_; intro w5 hk5 hg5 hs5; have B5 := Lib.hid (B4.out.store (X' := ((Vote.mk K1.val K2.val 0 (zeros 32) 0 0 (zeros 16))).cl.toArray) HS.out hk5 hg5 (vote_height (Vote.mk K1.val 0 0 (zeros 32) 0 0 (zeros 16)) K2.val)); clear hk5 hg5 hs5 B4))
  refine (Var_rd w5 g A c l _ _ B5.out.re).mono ?_
  rintro en w6 ⟨rfl, ch, re⟩
  rw [HK3.out] at re ⊢
  have B6 := Lib.hid (B5.out.call HS.out ch re)
  clear ch re B5
  go_wp2_with fail
  refine (narrow_any w6 K3.val).mono ?_
  rintro en wq ⟨rfl, rfl⟩
  go_wp2_with (with_reducible show wpList _ _ _ (Oper.mk _ (Op.store 3 _ _) _ _ _ _ :: _) _ _; go_must (refine wpList_st rfl 3 _ _ rfl bx 2 rfl (.int .i64 (small K3.val)) rfl [.int .i64 (small K3.val)] rfl 1 info_int1 rfl _ _ B6.out.bk (vote_fit _ (zeros_len 32) (zeros_len 16) _ (by omega)) (one_one rfl) ?_; intro w7 hk7 hg7 hs7; have B7 := Lib.hid (B6.out.store (X' := ((Vote.mk K1.val K2.val (small K3.val) (zeros 32) 0 0 (zeros 16))).cl.toArray) HS.out hk7 hg7 (vote_round (Vote.mk K1.val K2.val 0 (zeros 32) 0 0 (zeros 16)) (small K3.val))); clear hk7 hg7 hs7 B6))
  refine (Hash_rd w7 g A c l _ _ B7.out.re).mono ?_
  rintro en w8 ⟨rfl, ch, re⟩
  rw [HK4.out] at re ⊢
  have B8 := Lib.hid (B7.out.call HS.out ch re)
  clear ch re B7
  go_wp2_with (with_reducible show wpList _ _ _ (Oper.mk _ (Op.store 29 _ _) _ _ _ _ :: _) _ _; go_must (refine wpList_st rfl 29 _ _ rfl bx 3 rfl (.agg (bv (padded 32 K4.val)).toArray) rfl (bv (padded 32 K4.val)) rfl 32 info_hash32 (by rw [bv_length]; exact LEK4.out) _ _ B8.out.bk (vote_fit _ (zeros_len 32) (zeros_len 16) _ (by omega)) (bv_one _) ?_; intro w9 hk9 hg9 hs9; have B9 := Lib.hid (B8.out.store (X' := ((Vote.mk K1.val K2.val (small K3.val) (padded 32 K4.val) 0 0 (zeros 16))).cl.toArray) HS.out hk9 hg9 (vote_id (Vote.mk K1.val K2.val (small K3.val) (zeros 32) 0 0 (zeros 16)) (padded 32 K4.val) (zeros_len 32) LEK4.out)); clear hk9 hg9 hs9 B8))
  refine (Var_rd w9 g A c l _ _ B9.out.re).mono ?_
  rintro en w10 ⟨rfl, ch, re⟩
  rw [HK5.out] at re ⊢
  have B10 := Lib.hid (B9.out.call HS.out ch re)
  clear ch re B9
  go_wp2_with (with_reducible show wpList _ _ _ (Oper.mk _ (Op.store 22 _ _) _ _ _ _ :: _) _ _; go_must (refine wpList_st rfl 22 _ _ rfl bx 35 rfl (.int .u64 K5.val) rfl [.int .u64 K5.val] rfl 1 info_u641 rfl _ _ B10.out.bk (vote_fit _ LEK4.out (zeros_len 16) _ (by omega)) (one_one rfl) ?_; intro w11 hk11 hg11 hs11; have B11 := Lib.hid (B10.out.store (X' := ((Vote.mk K1.val K2.val (small K3.val) (padded 32 K4.val) K5.val 0 (zeros 16))).cl.toArray) HS.out hk11 hg11 (vote_time (Vote.mk K1.val K2.val (small K3.val) (padded 32 K4.val) 0 0 (zeros 16)) K5.val LEK4.out)); clear hk11 hg11 hs11 B10))
  refine (Var_rd w11 g A c l _ _ B11.out.re).mono ?_
  rintro en w12 ⟨rfl, ch, re⟩
  rw [HK6.out] at re ⊢
  have B12 := Lib.hid (B11.out.call HS.out ch re)
  clear ch re B11
  go_wp2_with (with_reducible show wpList _ _ _ (Oper.mk _ (Op.store 23 _ _) _ _ _ _ :: _) _ _; go_must (refine wpList_st rfl 23 _ _ rfl bx 36 rfl (.int .u64 K6.val) rfl [.int .u64 K6.val] rfl 1 info_addr1 rfl _ _ B12.out.bk (vote_fit _ LEK4.out (zeros_len 16) _ (by omega)) (one_one rfl) ?_; intro w13 hk13 hg13 hs13; have B13 := Lib.hid (B12.out.store (X' := ((Vote.mk K1.val K2.val (small K3.val) (padded 32 K4.val) K5.val K6.val (zeros 16))).cl.toArray) HS.out hk13 hg13 (vote_frm (Vote.mk K1.val K2.val (small K3.val) (padded 32 K4.val) K5.val 0 (zeros 16)) K6.val LEK4.out)); clear hk13 hg13 hs13 B12))
  refine (signed_yes w13 g A c l _ _ B13.out.re).mono ?_
  rintro en w14 ⟨rfl, ch, re⟩
  rw [HK7.out] at re ⊢
  have B14 := Lib.hid (B13.out.call HS.out ch re)
  clear ch re B13
  have HL := Lib.hid (vote_len (Vote.mk K1.val K2.val (small K3.val) (padded 32 K4.val) K5.val K6.val (padded 16 K7.val)) LEK4.out LEK7.out)
  go_wp2_with (first
    | (with_reducible show wpList _ _ _ (Oper.mk _ (Op.store 25 _ _) _ _ _ _ :: _) _ _; go_must (refine wpList_st rfl 25 _ _ rfl bx 37 rfl (.agg (bv (padded 16 K7.val)).toArray) rfl (bv (padded 16 K7.val)) rfl 16 info_seal16 (by rw [bv_length]; exact LEK7.out) _ _ B14.out.bk (vote_fit _ LEK4.out (zeros_len 16) _ (by omega)) (bv_one _) ?_; intro w15 hk15 hg15 hs15; have B15 := Lib.hid (B14.out.store (X' := ((Vote.mk K1.val K2.val (small K3.val) (padded 32 K4.val) K5.val K6.val (padded 16 K7.val))).cl.toArray) HS.out hk15 hg15 (vote_seal (Vote.mk K1.val K2.val (small K3.val) (padded 32 K4.val) K5.val K6.val (zeros 16)) (padded 16 K7.val) LEK4.out (zeros_len 16) LEK7.out)); clear hk15 hg15 hs15 B14))
    | (with_reducible show wpList _ _ _ (Oper.mk _ (Op.load _ _) _ _ _ _ :: _) _ _; refine wpList_load_part rfl 31 _ rfl bx 0 53 rfl _ _ _ B15.out.bk Try.underlying31 rfl info_vote53 (by simp [HL.out]) _ (cl_all HL.out) ?_)
    | (with_reducible show wpList _ _ _ (Oper.mk _ (Op.store 31 _ _) _ _ _ _ :: _) _ _; go_must (refine wpList_st rfl 31 _ _ rfl bx 0 rfl (.agg ((Vote.mk K1.val K2.val (small K3.val) (padded 32 K4.val) K5.val K6.val (padded 16 K7.val))).cl.toArray) rfl ((Vote.mk K1.val K2.val (small K3.val) (padded 32 K4.val) K5.val K6.val (padded 16 K7.val))).cl rfl 53 info_vote53 HL.out _ _ B15.out.bk (by simp [HL.out]) (vote_one _) ?_; intro wz hkz hgz hsz; have Bz := Lib.hid (B15.out.store HS.out hkz hgz (splice_all HL.out)))))
  rw [HF.out]
  exact bodyPost_cell Try.results46 rfl Bz.out.bk Try.underlying31 rfl info_vote53 (by simp [HL.out]) rfl ⟨rfl, Bz.out.ch, Bz.out.re⟩



set_option maxHeartbeats 1000000 in
theorem getSealedVote_any (w : World) (g : Nat) (A : Option Addr) (c : Nat) (l : List UInt8) (p : Nat) (e : Int) (h : Re w g A c l p e) :
    Calls Try.prog 97 #[.pointer (some ⟨g, 0, none⟩)] w (RdRes g A c l (rdVoteS l p e) (fun x => .agg x.cl.toArray) w) := by
  have H := Lib.hid h
  have hgl : g < w.heap.size := h.bk.lt
  clear h
  have hok := rdVoteS_ok l p e
  have key0 := fun (wx : World) (hx : Re wx g A c l p e) => getVote_yes wx g A c l p e hx
  generalize rdVoteS l p e = K at *
  have HL := Lib.hid (vote_len K.val hok.id hok.sl)
  have HKEY := Lib.hid key0
  clear key0 hok
  go_enter Try.func97, Try.ntmps97
  go_wp2_with (with_reducible show wpList _ _ _ (Oper.mk _ (Op.alloc _) _ _ _ _ :: _) _ _; refine wpList_alloc_bk rfl _ rfl (.agg zeroVote.cl.toArray) (by kernel_rfl) ?_)
  intro bh w1 hk1 hb1 hg1 hs1
  have HS := Lib.hid (Side.mk (w0 := w) (g := g) (A := A) (bx := bh) hgl H.out.lt (by omega))
  have B1 := Lib.hid (Bld.mk (T := 31) (H.out.below hb1) (Ch.of_below [g] hb1) (bk_eq (cs' := zeroVote.cl.toArray) hk1 rfl))
  clear hk1 hb1 hg1 hs1
  go_wp2_with fail
  refine (HKEY.out w1 B1.out.re).mono ?_
  rintro en w2 ⟨rfl, ch, re⟩
  have B2 := Lib.hid (B1.out.call HS.out ch re)
  clear ch re B1
  go_wp2_with (with_reducible show wpList _ _ _ (Oper.mk _ (Op.store _ _ _) _ _ _ _ :: _) _ _; go_must (refine wpList_st rfl 31 _ _ rfl bh 0 rfl (.agg K.val.cl.toArray) rfl K.val.cl rfl 53 info_vote53 HL.out _ _ B2.out.bk (by simp [show zeroVote.cl.length = 53 from rfl]) (vote_one _) ?_; intro w5 hk5 hg5 hs5; have B3 := Lib.hid (B2.out.store HS.out hk5 hg5 (splice_same HL.out (show zeroVote.cl.length = 53 from rfl)))))
  exact bodyPost_cell Try.results97 rfl B3.out.bk Try.underlying31 rfl info_vote53 (by simp [HL.out]) rfl ⟨rfl, B3.out.ch, B3.out.re⟩
end Go.Proofs.Ytocgcalaiejbiaa

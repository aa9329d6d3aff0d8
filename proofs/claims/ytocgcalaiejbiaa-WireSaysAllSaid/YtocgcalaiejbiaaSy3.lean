/-
  The walk of WireSaysAll: true, and nothing that was there is changed. Condition: each number fits its kind.
-/
import Derived.Test.YtocgcalaiejbiaaSy2
namespace Go.Proofs.Ytocgcalaiejbiaa
set_option linter.unusedSimpArgs false
set_option linter.unusedVariables false
open Go.RowKit
set_option maxRecDepth 100000

set_option maxHeartbeats 20000000 in
theorem walk_says (w : World) (j k : Int) (x y : Name) (hj : I64 j) (hk : I64 k) (hx : x.ok) (hy : y.ok) :
    Calls Try.prog 6 #[.int .i64 j, .agg x.cl.toArray, .int .i64 k, .agg y.cl.toArray] w fun en w' => en = .returned (.bool true) ∧ Below w.heap.size w w' := by
  have MJ := Lib.hid (fun (wx : World) => mod_any wx j hj)
  have ML := Lib.hid (fun (wx : World) => mod_any wx j hj)
  have MK := Lib.hid (fun (wx : World) => mod_any wx k hk)
  have SJ := Lib.hid (fun (wx : World) => lawSaid_any wx j hj x hx)
  have SK := Lib.hid (fun (wx : World) => lawSaid_any wx k hk y hy)
  have UX := Lib.hid (fun (wx : World) => unsealed_any wx x hx)
  have UY := Lib.hid (fun (wx : World) => unsealed_any wx y hy)
  have LX := Lib.hid (x.cl_len hx)
  have LY := Lib.hid (y.cl_len hy)
  have LP := Lib.hid (x.bare.cl_len (bare_ok hx))
  have LQ := Lib.hid (y.bare.cl_len (bare_ok hy))
  have OP := Lib.hid (bare_ok hx)
  have OQ := Lib.hid (bare_ok hy)
  have ZN := Lib.hid zeroName_len
  have ZV := Lib.hid (show zeroVote.cl.length = 53 from by rfl)
  have ZP := Lib.hid (show zeroProposal.cl.length = 52 from by rfl)
  have HX := Lib.hid hx
  have HY := Lib.hid hy
  have mj3 := modz_in j
  have mk3 := modz_in k
  clear hj hk hx hy
  generalize modz j = m at *
  generalize modz k = n at *
  have NA := Lib.hid (ans_len mj3 x HX.out)
  have NB := Lib.hid (ans_len mk3 y HY.out)
  have M3 := Lib.hid mj3
  have N3 := Lib.hid mk3
  clear mj3 mk3
  obtain ⟨la, hla⟩ : ∃ l, ansB (kErr m x) (kBytes m x) = l := ⟨_, rfl⟩
  obtain ⟨lb, hlb⟩ : ∃ l, ansB (kErr n y) (kBytes n y) = l := ⟨_, rfl⟩
  rw [hla] at NA
  rw [hlb] at NB
  have EA := Lib.hid hla
  have EB := Lib.hid hlb
  clear hla hlb
  go_enter Try.func6, Try.ntmps6
  go_wp2_with (first
    | (with_reducible show wpList _ _ _ (Oper.mk (some 5) (Op.box _ _) _ _ _ _ :: _) _ _; go_must (refine wpList_box_bk rfl _ _ rfl _ rfl ?_; intro g5 w1 hk hb hg hs; have K5 := Lib.hid (bk_eq (cs' := x.cl.toArray) hk rfl); have B5 := Lib.hid hb; clear hk hb hg hs))
    | (with_reducible show wpList _ _ _ (Oper.mk (some 7) (Op.box _ _) _ _ _ _ :: _) _ _; go_must (refine wpList_box_bk rfl _ _ rfl _ rfl ?_; intro g7 w2 hk hb hg hs; have K7 := Lib.hid (bk_eq (cs' := y.cl.toArray) hk rfl); have B7 := Lib.hid hb; clear hk hb hg hs)))
  have HB_2 := Lib.hid (B5.out.trans (B7.out.mono B5.out.size))
  have K5_2 := Lib.hid (K5.out.below B7.out K5.out.lt)
  have K7_2 := Lib.hid K7.out
  clear K5 K7 B5 B7
  refine (alive_any w2).mono ?_
  rintro en w3 ⟨rfl, hb⟩
  have HB_3 := Lib.hid (HB_2.out.trans (hb.mono HB_2.out.size))
  have K5_3 := Lib.hid (K5_2.out.below hb K5_2.out.lt)
  have K7_3 := Lib.hid (K7_2.out.below hb K7_2.out.lt)
  clear hb HB_2 K5_2 K7_2
  go_wp2_with (first
    | (with_reducible show wpList _ _ _ (Oper.mk (some 32) (Op.load 35 _) _ _ _ _ :: _) _ _; go_must (refine wpList_load_part rfl 35 _ rfl g5 0 128 rfl _ _ _ K5_3.out Try.underlying35 rfl info_name128 (by have := LX.out; simp [this]) _ (cl_all LX.out) ?_)))
  refine (SJ.out w3).mono ?_
  intro en w4 hres
  obtain ⟨hb, Aa, ca, rfl, hRA⟩ := res_ans hres
  clear hres
  rw [EA.out] at hRA
  rw [EA.out]
  have HB_4 := Lib.hid (HB_3.out.trans (hb.mono HB_3.out.size))
  have K5_4 := Lib.hid (K5_3.out.below hb K5_3.out.lt)
  have K7_4 := Lib.hid (K7_3.out.below hb K7_3.out.lt)
  clear hb HB_3 K5_3 K7_3
  have RA_4 := Lib.hid hRA.rd
  clear hRA
  go_wp2_with (first
    | (with_reducible show wpList _ _ _ (Oper.mk (some 38) (Op.load 35 _) _ _ _ _ :: _) _ _; go_must (refine wpList_load_part rfl 35 _ rfl g7 0 128 rfl _ _ _ K7_4.out Try.underlying35 rfl info_name128 (by have := LY.out; simp [this]) _ (cl_all LY.out) ?_)))
  refine (SK.out w4).mono ?_
  intro en w5 hres
  obtain ⟨hb, Ab, cb, rfl, hRB⟩ := res_ans hres
  clear hres
  rw [EB.out] at hRB
  rw [EB.out]
  have HB_5 := Lib.hid (HB_4.out.trans (hb.mono HB_4.out.size))
  have K5_5 := Lib.hid (K5_4.out.below hb K5_4.out.lt)
  have K7_5 := Lib.hid (K7_4.out.below hb K7_4.out.lt)
  have RA_5 := Lib.hid (RA_4.out.below hb)
  clear hb HB_4 K5_4 K7_4 RA_4
  have RB_5 := Lib.hid hRB.rd
  clear hRB
  by_cases he : kErr m x = 0
  rotate_left
  · have x1 : (kErr m x == 0) = false := by simp [he]
    have x2 : (kErr m x != 0) = true := by simp [he]
    clear he
    generalize kErr m x = E at *
    generalize kErr n y = F at *
    go_wp2
    go_ret
    exact ⟨rfl, HB_5.out⟩
  by_cases hf : kErr n y = 0
  rotate_left
  · have y1 : (kErr n y == 0) = false := by simp [hf]
    have y2 : (kErr n y != 0) = true := by simp [hf]
    clear hf
    rw [he]
    generalize kErr n y = F at *
    go_wp2
    go_ret
    exact ⟨rfl, HB_5.out⟩
  rw [he, hf]
  have HE := Lib.hid he
  have HF := Lib.hid hf
  have ea : la = kBytes m x := by rw [← EA.out, he]; rfl
  have eb : lb = kBytes n y := by rw [← EB.out, hf]; rfl
  have GA := Lib.hid ea
  have GB := Lib.hid eb
  clear ea eb he hf EA EB
  go_wp2_with (first
    | (with_reducible show wpList _ _ _ (Oper.mk (some 48) (Op.load 35 _) _ _ _ _ :: _) _ _; go_must (refine wpList_load_part rfl 35 _ rfl g5 0 128 rfl _ _ _ K5_5.out Try.underlying35 rfl info_name128 (by have := LX.out; simp [this]) _ (cl_all LX.out) ?_)))
  refine (UX.out w5).mono ?_
  rintro en w6 ⟨rfl, hb⟩
  have HB_6 := Lib.hid (HB_5.out.trans (hb.mono HB_5.out.size))
  have K5_6 := Lib.hid (K5_5.out.below hb K5_5.out.lt)
  have K7_6 := Lib.hid (K7_5.out.below hb K7_5.out.lt)
  have RA_6 := Lib.hid (RA_5.out.below hb)
  have RB_6 := Lib.hid (RB_5.out.below hb)
  clear hb HB_5 K5_5 K7_5 RA_5 RB_5
  go_wp2_with (first
    | (with_reducible show wpList _ _ _ (Oper.mk (some 13) (Op.alloc _) _ _ _ _ :: _) _ _; go_must (refine wpList_alloc_bk rfl _ rfl (.agg zeroName.cl.toArray) (by kernel_rfl) ?_; intro b13 w7 hk hb hg hs; have A13 := Lib.hid hb; have G13 := Lib.hid hg; have M13 := Lib.hid (bk_eq (cs' := zeroName.cl.toArray) hk rfl); clear hk hb hg hs))
    | (with_reducible show wpList _ _ _ (Oper.mk _ (Op.store 35 (.tmp 13) _) _ _ _ _ :: _) _ _; go_must (refine wpList_st rfl 35 _ _ rfl b13 0 rfl (.agg x.bare.cl.toArray) rfl (x.bare.cl) rfl 128 info_name128 LP.out _ _ M13.out (by have := ZN.out; simp [this]) (name_one _) ?_; intro w8 hk hg hs; have hb4 := A13.out.grown hg A13.out.size (fun k hk => by cases hk; have := G13.out; omega); have HB_8 := Lib.hid (HB_6.out.trans (hb4.mono HB_6.out.size)); have K5_8 := Lib.hid (K5_6.out.below hb4 K5_6.out.lt); have K7_8 := Lib.hid (K7_6.out.below hb4 K7_6.out.lt); have RA_8 := Lib.hid (RA_6.out.below hb4); have RB_8 := Lib.hid (RB_6.out.below hb4); clear hb4 HB_6 K5_6 K7_6 RA_6 RB_6; have K13_8 := Lib.hid (bk_eq hk (splice_same LP.out ZN.out)); clear hk hg hs M13 A13 G13))
    | (with_reducible show wpList _ _ _ (Oper.mk (some 50) (Op.load 35 _) _ _ _ _ :: _) _ _; go_must (refine wpList_load_part rfl 35 _ rfl g7 0 128 rfl _ _ _ K7_8.out Try.underlying35 rfl info_name128 (by have := LY.out; simp [this]) _ (cl_all LY.out) ?_)))
  refine (UY.out w8).mono ?_
  rintro en w9 ⟨rfl, hb⟩
  have HB_9 := Lib.hid (HB_8.out.trans (hb.mono HB_8.out.size))
  have K5_9 := Lib.hid (K5_8.out.below hb K5_8.out.lt)
  have K7_9 := Lib.hid (K7_8.out.below hb K7_8.out.lt)
  have RA_9 := Lib.hid (RA_8.out.below hb)
  have RB_9 := Lib.hid (RB_8.out.below hb)
  have K13_9 := Lib.hid (K13_8.out.below hb K13_8.out.lt)
  clear hb HB_8 K5_8 K7_8 RA_8 RB_8 K13_8
  have NA2 := Lib.hid (show la.length ≤ reach47 + 100 by have := NA.out; unfold reach47; omega)
  by_cases hm : m = 0
  · subst hm
    by_cases hn : n = 0
    · subst hn
      by_cases hc : x.chain = y.chain
      · have c1 : (x.chain.toList == y.chain.toList) = true := str_same hc
        have c0 : (x.chain.toList == x.chain.toList) = true := str_same rfl
        have IQ := Lib.hid (eq_tx HX.out HY.out HE.out HF.out hc)
        rw [← GA.out, ← GB.out] at IQ
        obtain ⟨q, hq⟩ : ∃ q, (la == lb) = q := ⟨_, rfl⟩
        rw [hq] at IQ
        have IS := Lib.hid hq
        clear hq hc
        go_wp2_with (first
          | (with_reducible show wpList _ _ _ (Oper.mk (some 14) (Op.alloc _) _ _ _ _ :: _) _ _; go_must (refine wpList_alloc_bk rfl _ rfl (.agg zeroName.cl.toArray) (by kernel_rfl) ?_; intro b14 w10 hk hb hg hs; have A14 := Lib.hid hb; have G14 := Lib.hid hg; have M14 := Lib.hid (bk_eq (cs' := zeroName.cl.toArray) hk rfl); clear hk hb hg hs))
          | (with_reducible show wpList _ _ _ (Oper.mk _ (Op.store 35 (.tmp 14) _) _ _ _ _ :: _) _ _; go_must (refine wpList_st rfl 35 _ _ rfl b14 0 rfl (.agg y.bare.cl.toArray) rfl (y.bare.cl) rfl 128 info_name128 LQ.out _ _ M14.out (by have := ZN.out; simp [this]) (name_one _) ?_; intro w11 hk hg hs; have hb4 := A14.out.grown hg A14.out.size (fun k hk => by cases hk; have := G14.out; omega); have HB_11 := Lib.hid (HB_9.out.trans (hb4.mono HB_9.out.size)); have K5_11 := Lib.hid (K5_9.out.below hb4 K5_9.out.lt); have K7_11 := Lib.hid (K7_9.out.below hb4 K7_9.out.lt); have RA_11 := Lib.hid (RA_9.out.below hb4); have RB_11 := Lib.hid (RB_9.out.below hb4); have K13_11 := Lib.hid (K13_9.out.below hb4 K13_9.out.lt); clear hb4 HB_9 K5_9 K7_9 RA_9 RB_9 K13_9; have K14_11 := Lib.hid (bk_eq hk (splice_same LQ.out ZN.out)); clear hk hg hs M14 A14 G14; have d5 : w11.cell? ⟨g5, 0, none⟩ = some (.string x.chain) := (K5_11.out.cell 0).trans (name_chain x); have d7 : w11.cell? ⟨g7, 0, none⟩ = some (.string y.chain) := (K7_11.out.cell 0).trans (name_chain y)))
          | (go_at_call 25; have Mt := MJ; clear MJ; go_must (refine (Mt.out _).mono ?_; rintro e wx ⟨rfl, rfl⟩; clear Mt))
          | (go_at_call 25; have Mt := MK; clear MK; go_must (refine (Mt.out _).mono ?_; rintro e wx ⟨rfl, rfl⟩; clear Mt))
          | (go_at_call 25; have Mt := ML; clear ML; go_must (refine (Mt.out _).mono ?_; rintro e wx ⟨rfl, rfl⟩; clear Mt))
          | (with_reducible show wpList _ _ _ (Oper.mk (some 111) (Op.load 27 _) _ _ _ _ :: _) _ _; go_must (refine wpList_load_part rfl 27 _ rfl b13 1 22 rfl _ _ _ K13_11.out Try.underlying27 rfl info_Tx' (by have := LP.out; simp [this]) _ (Name.cl_tx _ OP.out) ?_))
          | (with_reducible show wpList _ _ _ (Oper.mk (some 113) (Op.load 27 _) _ _ _ _ :: _) _ _; go_must (refine wpList_load_part rfl 27 _ rfl b14 1 22 rfl _ _ _ K14_11.out Try.underlying27 rfl info_Tx' (by have := LQ.out; simp [this]) _ (Name.cl_tx _ OQ.out) ?_))
          | (with_reducible show wpList _ _ _ (Oper.mk _ (Op.binOp BinOp.eql 27 _ _ _) _ _ _ _ :: _) _ _; go_must (refine wpList_eql_flat rfl 27 _ _ _ rfl x.bare.tx.cl y.bare.tx.cl rfl rfl 3 _ flatS_tx (by omega) aggS_tx guardS_tx (fitsS_tx _ OP.out.tx.sl) (fitsS_tx _ OQ.out.tx.sl) q IQ.out ?_)))
        refine (sameBytes_any w11 Aa Ab _ ca _ cb la lb rfl rfl RA_11.out RB_11.out NA2.out).mono ?_
        rintro en w12 ⟨rfl, hb⟩
        rw [IS.out]
        have HB_12 := Lib.hid (HB_11.out.trans (hb.mono HB_11.out.size))
        have K5_12 := Lib.hid (K5_11.out.below hb K5_11.out.lt)
        have K7_12 := Lib.hid (K7_11.out.below hb K7_11.out.lt)
        have RA_12 := Lib.hid (RA_11.out.below hb)
        have RB_12 := Lib.hid (RB_11.out.below hb)
        have K13_12 := Lib.hid (K13_11.out.below hb K13_11.out.lt)
        have K14_12 := Lib.hid (K14_11.out.below hb K14_11.out.lt)
        clear hb HB_11 K5_11 K7_11 RA_11 RB_11 K13_11 K14_11
        go_wp2
        go_ret
        exact ⟨by simp, HB_12.out⟩
      · have c1 : (x.chain.toList == y.chain.toList) = false := str_unlike hc
        have c0 : (x.chain.toList == x.chain.toList) = true := str_same rfl
        have IS := Lib.hid (show (la == lb) = false by rw [beq_eq_false_iff_ne, GA.out, GB.out]; exact fun h => hc (say_chain M3.out HX.out HY.out HE.out HF.out h))
        clear hc
        go_wp2_with (first
          | (with_reducible show wpList _ _ _ (Oper.mk (some 14) (Op.alloc _) _ _ _ _ :: _) _ _; go_must (refine wpList_alloc_bk rfl _ rfl (.agg zeroName.cl.toArray) (by kernel_rfl) ?_; intro b14 w10 hk hb hg hs; have A14 := Lib.hid hb; have G14 := Lib.hid hg; have M14 := Lib.hid (bk_eq (cs' := zeroName.cl.toArray) hk rfl); clear hk hb hg hs))
          | (with_reducible show wpList _ _ _ (Oper.mk _ (Op.store 35 (.tmp 14) _) _ _ _ _ :: _) _ _; go_must (refine wpList_st rfl 35 _ _ rfl b14 0 rfl (.agg y.bare.cl.toArray) rfl (y.bare.cl) rfl 128 info_name128 LQ.out _ _ M14.out (by have := ZN.out; simp [this]) (name_one _) ?_; intro w11 hk hg hs; have hb4 := A14.out.grown hg A14.out.size (fun k hk => by cases hk; have := G14.out; omega); have HB_11 := Lib.hid (HB_9.out.trans (hb4.mono HB_9.out.size)); have K5_11 := Lib.hid (K5_9.out.below hb4 K5_9.out.lt); have K7_11 := Lib.hid (K7_9.out.below hb4 K7_9.out.lt); have RA_11 := Lib.hid (RA_9.out.below hb4); have RB_11 := Lib.hid (RB_9.out.below hb4); have K13_11 := Lib.hid (K13_9.out.below hb4 K13_9.out.lt); clear hb4 HB_9 K5_9 K7_9 RA_9 RB_9 K13_9; have K14_11 := Lib.hid (bk_eq hk (splice_same LQ.out ZN.out)); clear hk hg hs M14 A14 G14; have d5 : w11.cell? ⟨g5, 0, none⟩ = some (.string x.chain) := (K5_11.out.cell 0).trans (name_chain x); have d7 : w11.cell? ⟨g7, 0, none⟩ = some (.string y.chain) := (K7_11.out.cell 0).trans (name_chain y)))
          | (go_at_call 25; have Mt := MJ; clear MJ; go_must (refine (Mt.out _).mono ?_; rintro e wx ⟨rfl, rfl⟩; clear Mt))
          | (go_at_call 25; have Mt := MK; clear MK; go_must (refine (Mt.out _).mono ?_; rintro e wx ⟨rfl, rfl⟩; clear Mt))
          | (go_at_call 25; have Mt := ML; clear ML; go_must (refine (Mt.out _).mono ?_; rintro e wx ⟨rfl, rfl⟩; clear Mt)))
        refine (sameBytes_any w11 Aa Ab _ ca _ cb la lb rfl rfl RA_11.out RB_11.out NA2.out).mono ?_
        rintro en w12 ⟨rfl, hb⟩
        rw [IS.out]
        have HB_12 := Lib.hid (HB_11.out.trans (hb.mono HB_11.out.size))
        have K5_12 := Lib.hid (K5_11.out.below hb K5_11.out.lt)
        have K7_12 := Lib.hid (K7_11.out.below hb K7_11.out.lt)
        have RA_12 := Lib.hid (RA_11.out.below hb)
        have RB_12 := Lib.hid (RB_11.out.below hb)
        have K13_12 := Lib.hid (K13_11.out.below hb K13_11.out.lt)
        have K14_12 := Lib.hid (K14_11.out.below hb K14_11.out.lt)
        clear hb HB_11 K5_11 K7_11 RA_11 RB_11 K13_11 K14_11
        go_wp2
        go_ret
        exact ⟨rfl, HB_12.out⟩
    · have c0 : (x.chain.toList == x.chain.toList) = true := str_same rfl
      have c1 : ((0 : Int) == n) = false := by rw [beq_eq_false_iff_ne]; exact fun h => hn h.symm
      have c2 : ¬ ((0 : Int) = n) := fun h => hn h.symm
      have IS := Lib.hid (show (la == lb) = false by rw [beq_eq_false_iff_ne, GA.out, GB.out]; exact fun h => hn (say_kind M3.out N3.out h).symm)
      clear hn
      go_wp2_with (first
        | (with_reducible show wpList _ _ _ (Oper.mk (some 14) (Op.alloc _) _ _ _ _ :: _) _ _; go_must (refine wpList_alloc_bk rfl _ rfl (.agg zeroName.cl.toArray) (by kernel_rfl) ?_; intro b14 w10 hk hb hg hs; have A14 := Lib.hid hb; have G14 := Lib.hid hg; have M14 := Lib.hid (bk_eq (cs' := zeroName.cl.toArray) hk rfl); clear hk hb hg hs))
        | (with_reducible show wpList _ _ _ (Oper.mk _ (Op.store 35 (.tmp 14) _) _ _ _ _ :: _) _ _; go_must (refine wpList_st rfl 35 _ _ rfl b14 0 rfl (.agg y.bare.cl.toArray) rfl (y.bare.cl) rfl 128 info_name128 LQ.out _ _ M14.out (by have := ZN.out; simp [this]) (name_one _) ?_; intro w11 hk hg hs; have hb4 := A14.out.grown hg A14.out.size (fun k hk => by cases hk; have := G14.out; omega); have HB_11 := Lib.hid (HB_9.out.trans (hb4.mono HB_9.out.size)); have K5_11 := Lib.hid (K5_9.out.below hb4 K5_9.out.lt); have K7_11 := Lib.hid (K7_9.out.below hb4 K7_9.out.lt); have RA_11 := Lib.hid (RA_9.out.below hb4); have RB_11 := Lib.hid (RB_9.out.below hb4); have K13_11 := Lib.hid (K13_9.out.below hb4 K13_9.out.lt); clear hb4 HB_9 K5_9 K7_9 RA_9 RB_9 K13_9; have K14_11 := Lib.hid (bk_eq hk (splice_same LQ.out ZN.out)); clear hk hg hs M14 A14 G14; have d5 : w11.cell? ⟨g5, 0, none⟩ = some (.string x.chain) := (K5_11.out.cell 0).trans (name_chain x); have d7 : w11.cell? ⟨g7, 0, none⟩ = some (.string y.chain) := (K7_11.out.cell 0).trans (name_chain y)))
        | (go_at_call 25; have Mt := MJ; clear MJ; go_must (refine (Mt.out _).mono ?_; rintro e wx ⟨rfl, rfl⟩; clear Mt))
        | (go_at_call 25; have Mt := MK; clear MK; go_must (refine (Mt.out _).mono ?_; rintro e wx ⟨rfl, rfl⟩; clear Mt))
        | (go_at_call 25; have Mt := ML; clear ML; go_must (refine (Mt.out _).mono ?_; rintro e wx ⟨rfl, rfl⟩; clear Mt)))
      refine (sameBytes_any w11 Aa Ab _ ca _ cb la lb rfl rfl RA_11.out RB_11.out NA2.out).mono ?_
      rintro en w12 ⟨rfl, hb⟩
      rw [IS.out]
      have HB_12 := Lib.hid (HB_11.out.trans (hb.mono HB_11.out.size))
      have K5_12 := Lib.hid (K5_11.out.below hb K5_11.out.lt)
      have K7_12 := Lib.hid (K7_11.out.below hb K7_11.out.lt)
      have RA_12 := Lib.hid (RA_11.out.below hb)
      have RB_12 := Lib.hid (RB_11.out.below hb)
      have K13_12 := Lib.hid (K13_11.out.below hb K13_11.out.lt)
      have K14_12 := Lib.hid (K14_11.out.below hb K14_11.out.lt)
      clear hb HB_11 K5_11 K7_11 RA_11 RB_11 K13_11 K14_11
      go_wp2
      go_ret
      exact ⟨rfl, HB_12.out⟩
  by_cases hm : m = 1
  · subst hm
    have RV := Lib.hid (fun (wx : World) A n c (hr : Rd wx A (bv la)) hn => ReadVoteBytes_any wx A n c la hr hn (by have := NA.out; unfold reach47; omega))
    have RP := Lib.hid (fun (wx : World) A n c (hr : Rd wx A (bv la)) hn => ReadProposalBytes_any wx A n c la hr hn (by have := NA.out; unfold reach47; omega))
    have FV := Lib.hid (show heardVote la = (0, x.chain.data.toList, x.bare.vote) by rw [GA.out]; exact heardVote_fw HX.out.vote HE.out)
    have FP := Lib.hid (show heardProposal la = (40, [], zeroProposal) by rw [GA.out]; exact heardProposal_of_vote _ _)
    have L1 := Lib.hid (x.bare.vote.cl_len OP.out.vote)
    have F1 := Lib.hid (fitsS_vote x.bare.vote OP.out.vote.id OP.out.vote.sl)
    by_cases hn : n = 1
    · subst hn
      by_cases hc : x.chain = y.chain
      · have c1 : (x.chain.toList == y.chain.toList) = true := str_same hc
        have c0 : (x.chain.toList == x.chain.toList) = true := str_same rfl
        have IQ := Lib.hid (eq_vote HX.out HY.out HE.out HF.out hc)
        rw [← GA.out, ← GB.out] at IQ
        obtain ⟨q, hq⟩ : ∃ q, (la == lb) = q := ⟨_, rfl⟩
        rw [hq] at IQ
        have IS := Lib.hid hq
        clear hq hc
        go_wp2_with (first
          | (with_reducible show wpList _ _ _ (Oper.mk (some 14) (Op.alloc _) _ _ _ _ :: _) _ _; go_must (refine wpList_alloc_bk rfl _ rfl (.agg zeroName.cl.toArray) (by kernel_rfl) ?_; intro b14 w10 hk hb hg hs; have A14 := Lib.hid hb; have G14 := Lib.hid hg; have M14 := Lib.hid (bk_eq (cs' := zeroName.cl.toArray) hk rfl); clear hk hb hg hs))
          | (with_reducible show wpList _ _ _ (Oper.mk _ (Op.store 35 (.tmp 14) _) _ _ _ _ :: _) _ _; go_must (refine wpList_st rfl 35 _ _ rfl b14 0 rfl (.agg y.bare.cl.toArray) rfl (y.bare.cl) rfl 128 info_name128 LQ.out _ _ M14.out (by have := ZN.out; simp [this]) (name_one _) ?_; intro w11 hk hg hs; have hb4 := A14.out.grown hg A14.out.size (fun k hk => by cases hk; have := G14.out; omega); have HB_11 := Lib.hid (HB_9.out.trans (hb4.mono HB_9.out.size)); have K5_11 := Lib.hid (K5_9.out.below hb4 K5_9.out.lt); have K7_11 := Lib.hid (K7_9.out.below hb4 K7_9.out.lt); have RA_11 := Lib.hid (RA_9.out.below hb4); have RB_11 := Lib.hid (RB_9.out.below hb4); have K13_11 := Lib.hid (K13_9.out.below hb4 K13_9.out.lt); clear hb4 HB_9 K5_9 K7_9 RA_9 RB_9 K13_9; have K14_11 := Lib.hid (bk_eq hk (splice_same LQ.out ZN.out)); clear hk hg hs M14 A14 G14; have d5 : w11.cell? ⟨g5, 0, none⟩ = some (.string x.chain) := (K5_11.out.cell 0).trans (name_chain x); have d7 : w11.cell? ⟨g7, 0, none⟩ = some (.string y.chain) := (K7_11.out.cell 0).trans (name_chain y)))
          | (go_at_call 25; have Mt := MJ; clear MJ; go_must (refine (Mt.out _).mono ?_; rintro e wx ⟨rfl, rfl⟩; clear Mt))
          | (go_at_call 25; have Mt := MK; clear MK; go_must (refine (Mt.out _).mono ?_; rintro e wx ⟨rfl, rfl⟩; clear Mt))
          | (go_at_call 25; have Mt := ML; clear ML; go_must (refine (Mt.out _).mono ?_; rintro e wx ⟨rfl, rfl⟩; clear Mt))
          | (with_reducible show wpList _ _ _ (Oper.mk (some 121) (Op.load 31 _) _ _ _ _ :: _) _ _; go_must (refine wpList_load_part rfl 31 _ rfl b13 23 53 rfl _ _ _ K13_11.out Try.underlying31 rfl info_vote53 (by have := LP.out; simp [this]) _ (Name.cl_vote _ OP.out) ?_))
          | (with_reducible show wpList _ _ _ (Oper.mk (some 123) (Op.load 31 _) _ _ _ _ :: _) _ _; go_must (refine wpList_load_part rfl 31 _ rfl b14 23 53 rfl _ _ _ K14_11.out Try.underlying31 rfl info_vote53 (by have := LQ.out; simp [this]) _ (Name.cl_vote _ OQ.out) ?_))
          | (with_reducible show wpList _ _ _ (Oper.mk _ (Op.binOp BinOp.eql 31 _ _ _) _ _ _ _ :: _) _ _; go_must (refine wpList_eql_flat rfl 31 _ _ _ rfl x.bare.vote.cl y.bare.vote.cl rfl rfl 3 _ flatS_vote (by omega) aggS_vote guardS_vote (fitsS_vote _ OP.out.vote.id OP.out.vote.sl) (fitsS_vote _ OQ.out.vote.id OQ.out.vote.sl) q IQ.out ?_)))
        refine (RV.out w11 _ _ _ RA_11.out rfl).mono ?_
        rw [FV.out]
        rintro en w12 ⟨rfl, hb⟩
        have HB_12 := Lib.hid (HB_11.out.trans (hb.mono HB_11.out.size))
        have K5_12 := Lib.hid (K5_11.out.below hb K5_11.out.lt)
        have K7_12 := Lib.hid (K7_11.out.below hb K7_11.out.lt)
        have RA_12 := Lib.hid (RA_11.out.below hb)
        have RB_12 := Lib.hid (RB_11.out.below hb)
        have K13_12 := Lib.hid (K13_11.out.below hb K13_11.out.lt)
        have K14_12 := Lib.hid (K14_11.out.below hb K14_11.out.lt)
        clear hb HB_11 K5_11 K7_11 RA_11 RB_11 K13_11 K14_11
        rw [str_back]
        go_wp2_with (first
          | (with_reducible show wpList _ _ _ (Oper.mk (some 17) (Op.alloc _) _ _ _ _ :: _) _ _; go_must (refine wpList_alloc_bk rfl _ rfl (.agg zeroVote.cl.toArray) (by kernel_rfl) ?_; intro b17 w13 hk hb hg hs; have A17 := Lib.hid hb; have G17 := Lib.hid hg; have M17 := Lib.hid (bk_eq (cs' := zeroVote.cl.toArray) hk rfl); clear hk hb hg hs))
          | (with_reducible show wpList _ _ _ (Oper.mk _ (Op.store 31 (.tmp 17) _) _ _ _ _ :: _) _ _; go_must (refine wpList_st rfl 31 _ _ rfl b17 0 rfl (.agg x.bare.vote.cl.toArray) rfl (x.bare.vote.cl) rfl 53 info_vote53 (x.bare.vote.cl_len OP.out.vote) _ _ M17.out (by have := ZV.out; simp [this]) (vote_one _) ?_; intro w14 hk hg hs; have hb4 := A17.out.grown hg A17.out.size (fun k hk => by cases hk; have := G17.out; omega); have HB_14 := Lib.hid (HB_12.out.trans (hb4.mono HB_12.out.size)); have K5_14 := Lib.hid (K5_12.out.below hb4 K5_12.out.lt); have K7_14 := Lib.hid (K7_12.out.below hb4 K7_12.out.lt); have RA_14 := Lib.hid (RA_12.out.below hb4); have RB_14 := Lib.hid (RB_12.out.below hb4); have K13_14 := Lib.hid (K13_12.out.below hb4 K13_12.out.lt); have K14_14 := Lib.hid (K14_12.out.below hb4 K14_12.out.lt); clear hb4 HB_12 K5_12 K7_12 RA_12 RB_12 K13_12 K14_12; have K17_14 := Lib.hid (bk_eq hk (splice_same (x.bare.vote.cl_len OP.out.vote) ZV.out)); clear hk hg hs M17 A17 G17)))
        refine (RP.out w14 _ _ _ RA_14.out rfl).mono ?_
        rw [FP.out]
        rintro en w15 ⟨rfl, hb⟩
        have HB_15 := Lib.hid (HB_14.out.trans (hb.mono HB_14.out.size))
        have K5_15 := Lib.hid (K5_14.out.below hb K5_14.out.lt)
        have K7_15 := Lib.hid (K7_14.out.below hb K7_14.out.lt)
        have RA_15 := Lib.hid (RA_14.out.below hb)
        have RB_15 := Lib.hid (RB_14.out.below hb)
        have K13_15 := Lib.hid (K13_14.out.below hb K13_14.out.lt)
        have K14_15 := Lib.hid (K14_14.out.below hb K14_14.out.lt)
        have K17_15 := Lib.hid (K17_14.out.below hb K17_14.out.lt)
        clear hb HB_14 K5_14 K7_14 RA_14 RB_14 K13_14 K14_14 K17_14
        go_wp2_with (first
          | (with_reducible show wpList _ _ _ (Oper.mk (some 20) (Op.alloc _) _ _ _ _ :: _) _ _; go_must (refine wpList_alloc_bk rfl _ rfl (.agg zeroProposal.cl.toArray) (by kernel_rfl) ?_; intro b20 w16 hk hb hg hs; have A20 := Lib.hid hb; have G20 := Lib.hid hg; have M20 := Lib.hid (bk_eq (cs' := zeroProposal.cl.toArray) hk rfl); clear hk hb hg hs))
          | (with_reducible show wpList _ _ _ (Oper.mk _ (Op.store 33 (.tmp 20) _) _ _ _ _ :: _) _ _; go_must (refine wpList_st rfl 33 _ _ rfl b20 0 rfl (.agg zeroProposal.cl.toArray) rfl (zeroProposal.cl) rfl 52 info_proposal52 ZP.out _ _ M20.out (by have := ZP.out; simp [this]) (proposal_one _) ?_; intro w17 hk hg hs; have hb4 := A20.out.grown hg A20.out.size (fun k hk => by cases hk; have := G20.out; omega); have HB_17 := Lib.hid (HB_15.out.trans (hb4.mono HB_15.out.size)); have K5_17 := Lib.hid (K5_15.out.below hb4 K5_15.out.lt); have K7_17 := Lib.hid (K7_15.out.below hb4 K7_15.out.lt); have RA_17 := Lib.hid (RA_15.out.below hb4); have RB_17 := Lib.hid (RB_15.out.below hb4); have K13_17 := Lib.hid (K13_15.out.below hb4 K13_15.out.lt); have K14_17 := Lib.hid (K14_15.out.below hb4 K14_15.out.lt); have K17_17 := Lib.hid (K17_15.out.below hb4 K17_15.out.lt); clear hb4 HB_15 K5_15 K7_15 RA_15 RB_15 K13_15 K14_15 K17_15; have K20_17 := Lib.hid (bk_eq hk (splice_same ZP.out ZP.out)); clear hk hg hs M20 A20 G20; have d5 : w17.cell? ⟨g5, 0, none⟩ = some (.string x.chain) := (K5_17.out.cell 0).trans (name_chain x)))
          | (with_reducible show wpList _ _ _ (Oper.mk (some 143) (Op.load 31 _) _ _ _ _ :: _) _ _; go_must (refine wpList_load_part rfl 31 _ rfl b17 0 53 rfl _ _ _ K17_17.out Try.underlying31 rfl info_vote53 (by have := L1.out; simp [this]) _ (cl_all L1.out) ?_))
          | (with_reducible show wpList _ _ _ (Oper.mk (some 145) (Op.load 31 _) _ _ _ _ :: _) _ _; go_must (refine wpList_load_part rfl 31 _ rfl b13 23 53 rfl _ _ _ K13_17.out Try.underlying31 rfl info_vote53 (by have := LP.out; simp [this]) _ (Name.cl_vote _ OP.out) ?_))
          | (go_at_call 13; go_must (refine (lawNum_any _ _).mono ?_); rintro e wx ⟨rfl, rfl⟩)
          | (with_reducible show wpList _ _ _ (Oper.mk _ (Op.binOp BinOp.neq 31 _ _ _) _ _ _ _ :: _) _ _; go_must (refine wpList_neq_flat rfl 31 _ _ _ rfl x.bare.vote.cl x.bare.vote.cl rfl rfl 3 _ flatS_vote (by omega) aggS_vote guardS_vote F1.out F1.out true (by simp) ?_)))
        refine (sameBytes_any w17 Aa Ab _ ca _ cb la lb rfl rfl RA_17.out RB_17.out NA2.out).mono ?_
        rintro en w18 ⟨rfl, hb⟩
        rw [IS.out]
        have HB_18 := Lib.hid (HB_17.out.trans (hb.mono HB_17.out.size))
        have K5_18 := Lib.hid (K5_17.out.below hb K5_17.out.lt)
        have K7_18 := Lib.hid (K7_17.out.below hb K7_17.out.lt)
        have RA_18 := Lib.hid (RA_17.out.below hb)
        have RB_18 := Lib.hid (RB_17.out.below hb)
        have K13_18 := Lib.hid (K13_17.out.below hb K13_17.out.lt)
        have K14_18 := Lib.hid (K14_17.out.below hb K14_17.out.lt)
        have K17_18 := Lib.hid (K17_17.out.below hb K17_17.out.lt)
        have K20_18 := Lib.hid (K20_17.out.below hb K20_17.out.lt)
        clear hb HB_17 K5_17 K7_17 RA_17 RB_17 K13_17 K14_17 K17_17 K20_17
        go_wp2
        go_ret
        exact ⟨by simp, HB_18.out⟩
      · have c1 : (x.chain.toList == y.chain.toList) = false := str_unlike hc
        have c0 : (x.chain.toList == x.chain.toList) = true := str_same rfl
        have IS := Lib.hid (show (la == lb) = false by rw [beq_eq_false_iff_ne, GA.out, GB.out]; exact fun h => hc (say_chain M3.out HX.out HY.out HE.out HF.out h))
        clear hc
        go_wp2_with (first
          | (with_reducible show wpList _ _ _ (Oper.mk (some 14) (Op.alloc _) _ _ _ _ :: _) _ _; go_must (refine wpList_alloc_bk rfl _ rfl (.agg zeroName.cl.toArray) (by kernel_rfl) ?_; intro b14 w10 hk hb hg hs; have A14 := Lib.hid hb; have G14 := Lib.hid hg; have M14 := Lib.hid (bk_eq (cs' := zeroName.cl.toArray) hk rfl); clear hk hb hg hs))
          | (with_reducible show wpList _ _ _ (Oper.mk _ (Op.store 35 (.tmp 14) _) _ _ _ _ :: _) _ _; go_must (refine wpList_st rfl 35 _ _ rfl b14 0 rfl (.agg y.bare.cl.toArray) rfl (y.bare.cl) rfl 128 info_name128 LQ.out _ _ M14.out (by have := ZN.out; simp [this]) (name_one _) ?_; intro w11 hk hg hs; have hb4 := A14.out.grown hg A14.out.size (fun k hk => by cases hk; have := G14.out; omega); have HB_11 := Lib.hid (HB_9.out.trans (hb4.mono HB_9.out.size)); have K5_11 := Lib.hid (K5_9.out.below hb4 K5_9.out.lt); have K7_11 := Lib.hid (K7_9.out.below hb4 K7_9.out.lt); have RA_11 := Lib.hid (RA_9.out.below hb4); have RB_11 := Lib.hid (RB_9.out.below hb4); have K13_11 := Lib.hid (K13_9.out.below hb4 K13_9.out.lt); clear hb4 HB_9 K5_9 K7_9 RA_9 RB_9 K13_9; have K14_11 := Lib.hid (bk_eq hk (splice_same LQ.out ZN.out)); clear hk hg hs M14 A14 G14; have d5 : w11.cell? ⟨g5, 0, none⟩ = some (.string x.chain) := (K5_11.out.cell 0).trans (name_chain x); have d7 : w11.cell? ⟨g7, 0, none⟩ = some (.string y.chain) := (K7_11.out.cell 0).trans (name_chain y)))
          | (go_at_call 25; have Mt := MJ; clear MJ; go_must (refine (Mt.out _).mono ?_; rintro e wx ⟨rfl, rfl⟩; clear Mt))
          | (go_at_call 25; have Mt := MK; clear MK; go_must (refine (Mt.out _).mono ?_; rintro e wx ⟨rfl, rfl⟩; clear Mt))
          | (go_at_call 25; have Mt := ML; clear ML; go_must (refine (Mt.out _).mono ?_; rintro e wx ⟨rfl, rfl⟩; clear Mt)))
        refine (RV.out w11 _ _ _ RA_11.out rfl).mono ?_
        rw [FV.out]
        rintro en w12 ⟨rfl, hb⟩
        have HB_12 := Lib.hid (HB_11.out.trans (hb.mono HB_11.out.size))
        have K5_12 := Lib.hid (K5_11.out.below hb K5_11.out.lt)
        have K7_12 := Lib.hid (K7_11.out.below hb K7_11.out.lt)
        have RA_12 := Lib.hid (RA_11.out.below hb)
        have RB_12 := Lib.hid (RB_11.out.below hb)
        have K13_12 := Lib.hid (K13_11.out.below hb K13_11.out.lt)
        have K14_12 := Lib.hid (K14_11.out.below hb K14_11.out.lt)
        clear hb HB_11 K5_11 K7_11 RA_11 RB_11 K13_11 K14_11
        rw [str_back]
        go_wp2_with (first
          | (with_reducible show wpList _ _ _ (Oper.mk (some 17) (Op.alloc _) _ _ _ _ :: _) _ _; go_must (refine wpList_alloc_bk rfl _ rfl (.agg zeroVote.cl.toArray) (by kernel_rfl) ?_; intro b17 w13 hk hb hg hs; have A17 := Lib.hid hb; have G17 := Lib.hid hg; have M17 := Lib.hid (bk_eq (cs' := zeroVote.cl.toArray) hk rfl); clear hk hb hg hs))
          | (with_reducible show wpList _ _ _ (Oper.mk _ (Op.store 31 (.tmp 17) _) _ _ _ _ :: _) _ _; go_must (refine wpList_st rfl 31 _ _ rfl b17 0 rfl (.agg x.bare.vote.cl.toArray) rfl (x.bare.vote.cl) rfl 53 info_vote53 (x.bare.vote.cl_len OP.out.vote) _ _ M17.out (by have := ZV.out; simp [this]) (vote_one _) ?_; intro w14 hk hg hs; have hb4 := A17.out.grown hg A17.out.size (fun k hk => by cases hk; have := G17.out; omega); have HB_14 := Lib.hid (HB_12.out.trans (hb4.mono HB_12.out.size)); have K5_14 := Lib.hid (K5_12.out.below hb4 K5_12.out.lt); have K7_14 := Lib.hid (K7_12.out.below hb4 K7_12.out.lt); have RA_14 := Lib.hid (RA_12.out.below hb4); have RB_14 := Lib.hid (RB_12.out.below hb4); have K13_14 := Lib.hid (K13_12.out.below hb4 K13_12.out.lt); have K14_14 := Lib.hid (K14_12.out.below hb4 K14_12.out.lt); clear hb4 HB_12 K5_12 K7_12 RA_12 RB_12 K13_12 K14_12; have K17_14 := Lib.hid (bk_eq hk (splice_same (x.bare.vote.cl_len OP.out.vote) ZV.out)); clear hk hg hs M17 A17 G17)))
        refine (RP.out w14 _ _ _ RA_14.out rfl).mono ?_
        rw [FP.out]
        rintro en w15 ⟨rfl, hb⟩
        have HB_15 := Lib.hid (HB_14.out.trans (hb.mono HB_14.out.size))
        have K5_15 := Lib.hid (K5_14.out.below hb K5_14.out.lt)
        have K7_15 := Lib.hid (K7_14.out.below hb K7_14.out.lt)
        have RA_15 := Lib.hid (RA_14.out.below hb)
        have RB_15 := Lib.hid (RB_14.out.below hb)
        have K13_15 := Lib.hid (K13_14.out.below hb K13_14.out.lt)
        have K14_15 := Lib.hid (K14_14.out.below hb K14_14.out.lt)
        have K17_15 := Lib.hid (K17_14.out.below hb K17_14.out.lt)
        clear hb HB_14 K5_14 K7_14 RA_14 RB_14 K13_14 K14_14 K17_14
        go_wp2_with (first
          | (with_reducible show wpList _ _ _ (Oper.mk (some 20) (Op.alloc _) _ _ _ _ :: _) _ _; go_must (refine wpList_alloc_bk rfl _ rfl (.agg zeroProposal.cl.toArray) (by kernel_rfl) ?_; intro b20 w16 hk hb hg hs; have A20 := Lib.hid hb; have G20 := Lib.hid hg; have M20 := Lib.hid (bk_eq (cs' := zeroProposal.cl.toArray) hk rfl); clear hk hb hg hs))
          | (with_reducible show wpList _ _ _ (Oper.mk _ (Op.store 33 (.tmp 20) _) _ _ _ _ :: _) _ _; go_must (refine wpList_st rfl 33 _ _ rfl b20 0 rfl (.agg zeroProposal.cl.toArray) rfl (zeroProposal.cl) rfl 52 info_proposal52 ZP.out _ _ M20.out (by have := ZP.out; simp [this]) (proposal_one _) ?_; intro w17 hk hg hs; have hb4 := A20.out.grown hg A20.out.size (fun k hk => by cases hk; have := G20.out; omega); have HB_17 := Lib.hid (HB_15.out.trans (hb4.mono HB_15.out.size)); have K5_17 := Lib.hid (K5_15.out.below hb4 K5_15.out.lt); have K7_17 := Lib.hid (K7_15.out.below hb4 K7_15.out.lt); have RA_17 := Lib.hid (RA_15.out.below hb4); have RB_17 := Lib.hid (RB_15.out.below hb4); have K13_17 := Lib.hid (K13_15.out.below hb4 K13_15.out.lt); have K14_17 := Lib.hid (K14_15.out.below hb4 K14_15.out.lt); have K17_17 := Lib.hid (K17_15.out.below hb4 K17_15.out.lt); clear hb4 HB_15 K5_15 K7_15 RA_15 RB_15 K13_15 K14_15 K17_15; have K20_17 := Lib.hid (bk_eq hk (splice_same ZP.out ZP.out)); clear hk hg hs M20 A20 G20; have d5 : w17.cell? ⟨g5, 0, none⟩ = some (.string x.chain) := (K5_17.out.cell 0).trans (name_chain x)))
          | (with_reducible show wpList _ _ _ (Oper.mk (some 143) (Op.load 31 _) _ _ _ _ :: _) _ _; go_must (refine wpList_load_part rfl 31 _ rfl b17 0 53 rfl _ _ _ K17_17.out Try.underlying31 rfl info_vote53 (by have := L1.out; simp [this]) _ (cl_all L1.out) ?_))
          | (with_reducible show wpList _ _ _ (Oper.mk (some 145) (Op.load 31 _) _ _ _ _ :: _) _ _; go_must (refine wpList_load_part rfl 31 _ rfl b13 23 53 rfl _ _ _ K13_17.out Try.underlying31 rfl info_vote53 (by have := LP.out; simp [this]) _ (Name.cl_vote _ OP.out) ?_))
          | (go_at_call 13; go_must (refine (lawNum_any _ _).mono ?_); rintro e wx ⟨rfl, rfl⟩)
          | (with_reducible show wpList _ _ _ (Oper.mk _ (Op.binOp BinOp.neq 31 _ _ _) _ _ _ _ :: _) _ _; go_must (refine wpList_neq_flat rfl 31 _ _ _ rfl x.bare.vote.cl x.bare.vote.cl rfl rfl 3 _ flatS_vote (by omega) aggS_vote guardS_vote F1.out F1.out true (by simp) ?_)))
        refine (sameBytes_any w17 Aa Ab _ ca _ cb la lb rfl rfl RA_17.out RB_17.out NA2.out).mono ?_
        rintro en w18 ⟨rfl, hb⟩
        rw [IS.out]
        have HB_18 := Lib.hid (HB_17.out.trans (hb.mono HB_17.out.size))
        have K5_18 := Lib.hid (K5_17.out.below hb K5_17.out.lt)
        have K7_18 := Lib.hid (K7_17.out.below hb K7_17.out.lt)
        have RA_18 := Lib.hid (RA_17.out.below hb)
        have RB_18 := Lib.hid (RB_17.out.below hb)
        have K13_18 := Lib.hid (K13_17.out.below hb K13_17.out.lt)
        have K14_18 := Lib.hid (K14_17.out.below hb K14_17.out.lt)
        have K17_18 := Lib.hid (K17_17.out.below hb K17_17.out.lt)
        have K20_18 := Lib.hid (K20_17.out.below hb K20_17.out.lt)
        clear hb HB_17 K5_17 K7_17 RA_17 RB_17 K13_17 K14_17 K17_17 K20_17
        go_wp2
        go_ret
        exact ⟨rfl, HB_18.out⟩
    · have c0 : (x.chain.toList == x.chain.toList) = true := str_same rfl
      have c1 : ((1 : Int) == n) = false := by rw [beq_eq_false_iff_ne]; exact fun h => hn h.symm
      have c2 : ¬ ((1 : Int) = n) := fun h => hn h.symm
      have IS := Lib.hid (show (la == lb) = false by rw [beq_eq_false_iff_ne, GA.out, GB.out]; exact fun h => hn (say_kind M3.out N3.out h).symm)
      clear hn
      go_wp2_with (first
        | (with_reducible show wpList _ _ _ (Oper.mk (some 14) (Op.alloc _) _ _ _ _ :: _) _ _; go_must (refine wpList_alloc_bk rfl _ rfl (.agg zeroName.cl.toArray) (by kernel_rfl) ?_; intro b14 w10 hk hb hg hs; have A14 := Lib.hid hb; have G14 := Lib.hid hg; have M14 := Lib.hid (bk_eq (cs' := zeroName.cl.toArray) hk rfl); clear hk hb hg hs))
        | (with_reducible show wpList _ _ _ (Oper.mk _ (Op.store 35 (.tmp 14) _) _ _ _ _ :: _) _ _; go_must (refine wpList_st rfl 35 _ _ rfl b14 0 rfl (.agg y.bare.cl.toArray) rfl (y.bare.cl) rfl 128 info_name128 LQ.out _ _ M14.out (by have := ZN.out; simp [this]) (name_one _) ?_; intro w11 hk hg hs; have hb4 := A14.out.grown hg A14.out.size (fun k hk => by cases hk; have := G14.out; omega); have HB_11 := Lib.hid (HB_9.out.trans (hb4.mono HB_9.out.size)); have K5_11 := Lib.hid (K5_9.out.below hb4 K5_9.out.lt); have K7_11 := Lib.hid (K7_9.out.below hb4 K7_9.out.lt); have RA_11 := Lib.hid (RA_9.out.below hb4); have RB_11 := Lib.hid (RB_9.out.below hb4); have K13_11 := Lib.hid (K13_9.out.below hb4 K13_9.out.lt); clear hb4 HB_9 K5_9 K7_9 RA_9 RB_9 K13_9; have K14_11 := Lib.hid (bk_eq hk (splice_same LQ.out ZN.out)); clear hk hg hs M14 A14 G14; have d5 : w11.cell? ⟨g5, 0, none⟩ = some (.string x.chain) := (K5_11.out.cell 0).trans (name_chain x); have d7 : w11.cell? ⟨g7, 0, none⟩ = some (.string y.chain) := (K7_11.out.cell 0).trans (name_chain y)))
        | (go_at_call 25; have Mt := MJ; clear MJ; go_must (refine (Mt.out _).mono ?_; rintro e wx ⟨rfl, rfl⟩; clear Mt))
        | (go_at_call 25; have Mt := MK; clear MK; go_must (refine (Mt.out _).mono ?_; rintro e wx ⟨rfl, rfl⟩; clear Mt))
        | (go_at_call 25; have Mt := ML; clear ML; go_must (refine (Mt.out _).mono ?_; rintro e wx ⟨rfl, rfl⟩; clear Mt)))
      refine (RV.out w11 _ _ _ RA_11.out rfl).mono ?_
      rw [FV.out]
      rintro en w12 ⟨rfl, hb⟩
      have HB_12 := Lib.hid (HB_11.out.trans (hb.mono HB_11.out.size))
      have K5_12 := Lib.hid (K5_11.out.below hb K5_11.out.lt)
      have K7_12 := Lib.hid (K7_11.out.below hb K7_11.out.lt)
      have RA_12 := Lib.hid (RA_11.out.below hb)
      have RB_12 := Lib.hid (RB_11.out.below hb)
      have K13_12 := Lib.hid (K13_11.out.below hb K13_11.out.lt)
      have K14_12 := Lib.hid (K14_11.out.below hb K14_11.out.lt)
      clear hb HB_11 K5_11 K7_11 RA_11 RB_11 K13_11 K14_11
      rw [str_back]
      go_wp2_with (first
        | (with_reducible show wpList _ _ _ (Oper.mk (some 17) (Op.alloc _) _ _ _ _ :: _) _ _; go_must (refine wpList_alloc_bk rfl _ rfl (.agg zeroVote.cl.toArray) (by kernel_rfl) ?_; intro b17 w13 hk hb hg hs; have A17 := Lib.hid hb; have G17 := Lib.hid hg; have M17 := Lib.hid (bk_eq (cs' := zeroVote.cl.toArray) hk rfl); clear hk hb hg hs))
        | (with_reducible show wpList _ _ _ (Oper.mk _ (Op.store 31 (.tmp 17) _) _ _ _ _ :: _) _ _; go_must (refine wpList_st rfl 31 _ _ rfl b17 0 rfl (.agg x.bare.vote.cl.toArray) rfl (x.bare.vote.cl) rfl 53 info_vote53 (x.bare.vote.cl_len OP.out.vote) _ _ M17.out (by have := ZV.out; simp [this]) (vote_one _) ?_; intro w14 hk hg hs; have hb4 := A17.out.grown hg A17.out.size (fun k hk => by cases hk; have := G17.out; omega); have HB_14 := Lib.hid (HB_12.out.trans (hb4.mono HB_12.out.size)); have K5_14 := Lib.hid (K5_12.out.below hb4 K5_12.out.lt); have K7_14 := Lib.hid (K7_12.out.below hb4 K7_12.out.lt); have RA_14 := Lib.hid (RA_12.out.below hb4); have RB_14 := Lib.hid (RB_12.out.below hb4); have K13_14 := Lib.hid (K13_12.out.below hb4 K13_12.out.lt); have K14_14 := Lib.hid (K14_12.out.below hb4 K14_12.out.lt); clear hb4 HB_12 K5_12 K7_12 RA_12 RB_12 K13_12 K14_12; have K17_14 := Lib.hid (bk_eq hk (splice_same (x.bare.vote.cl_len OP.out.vote) ZV.out)); clear hk hg hs M17 A17 G17)))
      refine (RP.out w14 _ _ _ RA_14.out rfl).mono ?_
      rw [FP.out]
      rintro en w15 ⟨rfl, hb⟩
      have HB_15 := Lib.hid (HB_14.out.trans (hb.mono HB_14.out.size))
      have K5_15 := Lib.hid (K5_14.out.below hb K5_14.out.lt)
      have K7_15 := Lib.hid (K7_14.out.below hb K7_14.out.lt)
      have RA_15 := Lib.hid (RA_14.out.below hb)
      have RB_15 := Lib.hid (RB_14.out.below hb)
      have K13_15 := Lib.hid (K13_14.out.below hb K13_14.out.lt)
      have K14_15 := Lib.hid (K14_14.out.below hb K14_14.out.lt)
      have K17_15 := Lib.hid (K17_14.out.below hb K17_14.out.lt)
      clear hb HB_14 K5_14 K7_14 RA_14 RB_14 K13_14 K14_14 K17_14
      go_wp2_with (first
        | (with_reducible show wpList _ _ _ (Oper.mk (some 20) (Op.alloc _) _ _ _ _ :: _) _ _; go_must (refine wpList_alloc_bk rfl _ rfl (.agg zeroProposal.cl.toArray) (by kernel_rfl) ?_; intro b20 w16 hk hb hg hs; have A20 := Lib.hid hb; have G20 := Lib.hid hg; have M20 := Lib.hid (bk_eq (cs' := zeroProposal.cl.toArray) hk rfl); clear hk hb hg hs))
        | (with_reducible show wpList _ _ _ (Oper.mk _ (Op.store 33 (.tmp 20) _) _ _ _ _ :: _) _ _; go_must (refine wpList_st rfl 33 _ _ rfl b20 0 rfl (.agg zeroProposal.cl.toArray) rfl (zeroProposal.cl) rfl 52 info_proposal52 ZP.out _ _ M20.out (by have := ZP.out; simp [this]) (proposal_one _) ?_; intro w17 hk hg hs; have hb4 := A20.out.grown hg A20.out.size (fun k hk => by cases hk; have := G20.out; omega); have HB_17 := Lib.hid (HB_15.out.trans (hb4.mono HB_15.out.size)); have K5_17 := Lib.hid (K5_15.out.below hb4 K5_15.out.lt); have K7_17 := Lib.hid (K7_15.out.below hb4 K7_15.out.lt); have RA_17 := Lib.hid (RA_15.out.below hb4); have RB_17 := Lib.hid (RB_15.out.below hb4); have K13_17 := Lib.hid (K13_15.out.below hb4 K13_15.out.lt); have K14_17 := Lib.hid (K14_15.out.below hb4 K14_15.out.lt); have K17_17 := Lib.hid (K17_15.out.below hb4 K17_15.out.lt); clear hb4 HB_15 K5_15 K7_15 RA_15 RB_15 K13_15 K14_15 K17_15; have K20_17 := Lib.hid (bk_eq hk (splice_same ZP.out ZP.out)); clear hk hg hs M20 A20 G20; have d5 : w17.cell? ⟨g5, 0, none⟩ = some (.string x.chain) := (K5_17.out.cell 0).trans (name_chain x)))
        | (with_reducible show wpList _ _ _ (Oper.mk (some 143) (Op.load 31 _) _ _ _ _ :: _) _ _; go_must (refine wpList_load_part rfl 31 _ rfl b17 0 53 rfl _ _ _ K17_17.out Try.underlying31 rfl info_vote53 (by have := L1.out; simp [this]) _ (cl_all L1.out) ?_))
        | (with_reducible show wpList _ _ _ (Oper.mk (some 145) (Op.load 31 _) _ _ _ _ :: _) _ _; go_must (refine wpList_load_part rfl 31 _ rfl b13 23 53 rfl _ _ _ K13_17.out Try.underlying31 rfl info_vote53 (by have := LP.out; simp [this]) _ (Name.cl_vote _ OP.out) ?_))
        | (go_at_call 13; go_must (refine (lawNum_any _ _).mono ?_); rintro e wx ⟨rfl, rfl⟩)
        | (with_reducible show wpList _ _ _ (Oper.mk _ (Op.binOp BinOp.neq 31 _ _ _) _ _ _ _ :: _) _ _; go_must (refine wpList_neq_flat rfl 31 _ _ _ rfl x.bare.vote.cl x.bare.vote.cl rfl rfl 3 _ flatS_vote (by omega) aggS_vote guardS_vote F1.out F1.out true (by simp) ?_)))
      refine (sameBytes_any w17 Aa Ab _ ca _ cb la lb rfl rfl RA_17.out RB_17.out NA2.out).mono ?_
      rintro en w18 ⟨rfl, hb⟩
      rw [IS.out]
      have HB_18 := Lib.hid (HB_17.out.trans (hb.mono HB_17.out.size))
      have K5_18 := Lib.hid (K5_17.out.below hb K5_17.out.lt)
      have K7_18 := Lib.hid (K7_17.out.below hb K7_17.out.lt)
      have RA_18 := Lib.hid (RA_17.out.below hb)
      have RB_18 := Lib.hid (RB_17.out.below hb)
      have K13_18 := Lib.hid (K13_17.out.below hb K13_17.out.lt)
      have K14_18 := Lib.hid (K14_17.out.below hb K14_17.out.lt)
      have K17_18 := Lib.hid (K17_17.out.below hb K17_17.out.lt)
      have K20_18 := Lib.hid (K20_17.out.below hb K20_17.out.lt)
      clear hb HB_17 K5_17 K7_17 RA_17 RB_17 K13_17 K14_17 K17_17 K20_17
      go_wp2
      go_ret
      exact ⟨rfl, HB_18.out⟩
  · obtain rfl : m = 2 := by have := M3.out; omega
    have RV := Lib.hid (fun (wx : World) A n c (hr : Rd wx A (bv la)) hn => ReadVoteBytes_any wx A n c la hr hn (by have := NA.out; unfold reach47; omega))
    have RP := Lib.hid (fun (wx : World) A n c (hr : Rd wx A (bv la)) hn => ReadProposalBytes_any wx A n c la hr hn (by have := NA.out; unfold reach47; omega))
    have FP := Lib.hid (show heardProposal la = (0, x.chain.data.toList, x.bare.prop) by rw [GA.out]; exact heardProposal_fw HX.out.prop HE.out)
    have FV := Lib.hid (show heardVote la = (40, [], zeroVote) by rw [GA.out]; exact heardVote_of_proposal _ _)
    have L1 := Lib.hid (x.bare.prop.cl_len OP.out.prop)
    have F1 := Lib.hid (fitsS_prop x.bare.prop OP.out.prop.id OP.out.prop.sl)
    by_cases hn : n = 2
    · subst hn
      by_cases hc : x.chain = y.chain
      · have c1 : (x.chain.toList == y.chain.toList) = true := str_same hc
        have c0 : (x.chain.toList == x.chain.toList) = true := str_same rfl
        have IQ := Lib.hid (eq_prop HX.out HY.out HE.out HF.out hc)
        rw [← GA.out, ← GB.out] at IQ
        obtain ⟨q, hq⟩ : ∃ q, (la == lb) = q := ⟨_, rfl⟩
        rw [hq] at IQ
        have IS := Lib.hid hq
        clear hq hc
        go_wp2_with (first
          | (with_reducible show wpList _ _ _ (Oper.mk (some 14) (Op.alloc _) _ _ _ _ :: _) _ _; go_must (refine wpList_alloc_bk rfl _ rfl (.agg zeroName.cl.toArray) (by kernel_rfl) ?_; intro b14 w10 hk hb hg hs; have A14 := Lib.hid hb; have G14 := Lib.hid hg; have M14 := Lib.hid (bk_eq (cs' := zeroName.cl.toArray) hk rfl); clear hk hb hg hs))
          | (with_reducible show wpList _ _ _ (Oper.mk _ (Op.store 35 (.tmp 14) _) _ _ _ _ :: _) _ _; go_must (refine wpList_st rfl 35 _ _ rfl b14 0 rfl (.agg y.bare.cl.toArray) rfl (y.bare.cl) rfl 128 info_name128 LQ.out _ _ M14.out (by have := ZN.out; simp [this]) (name_one _) ?_; intro w11 hk hg hs; have hb4 := A14.out.grown hg A14.out.size (fun k hk => by cases hk; have := G14.out; omega); have HB_11 := Lib.hid (HB_9.out.trans (hb4.mono HB_9.out.size)); have K5_11 := Lib.hid (K5_9.out.below hb4 K5_9.out.lt); have K7_11 := Lib.hid (K7_9.out.below hb4 K7_9.out.lt); have RA_11 := Lib.hid (RA_9.out.below hb4); have RB_11 := Lib.hid (RB_9.out.below hb4); have K13_11 := Lib.hid (K13_9.out.below hb4 K13_9.out.lt); clear hb4 HB_9 K5_9 K7_9 RA_9 RB_9 K13_9; have K14_11 := Lib.hid (bk_eq hk (splice_same LQ.out ZN.out)); clear hk hg hs M14 A14 G14; have d5 : w11.cell? ⟨g5, 0, none⟩ = some (.string x.chain) := (K5_11.out.cell 0).trans (name_chain x); have d7 : w11.cell? ⟨g7, 0, none⟩ = some (.string y.chain) := (K7_11.out.cell 0).trans (name_chain y)))
          | (go_at_call 25; have Mt := MJ; clear MJ; go_must (refine (Mt.out _).mono ?_; rintro e wx ⟨rfl, rfl⟩; clear Mt))
          | (go_at_call 25; have Mt := MK; clear MK; go_must (refine (Mt.out _).mono ?_; rintro e wx ⟨rfl, rfl⟩; clear Mt))
          | (go_at_call 25; have Mt := ML; clear ML; go_must (refine (Mt.out _).mono ?_; rintro e wx ⟨rfl, rfl⟩; clear Mt))
          | (with_reducible show wpList _ _ _ (Oper.mk (some 69) (Op.load 33 _) _ _ _ _ :: _) _ _; go_must (refine wpList_load_part rfl 33 _ rfl b13 76 52 rfl _ _ _ K13_11.out Try.underlying33 rfl info_proposal52 (by have := LP.out; simp [this]) _ (Name.cl_prop _ OP.out) ?_))
          | (with_reducible show wpList _ _ _ (Oper.mk (some 71) (Op.load 33 _) _ _ _ _ :: _) _ _; go_must (refine wpList_load_part rfl 33 _ rfl b14 76 52 rfl _ _ _ K14_11.out Try.underlying33 rfl info_proposal52 (by have := LQ.out; simp [this]) _ (Name.cl_prop _ OQ.out) ?_))
          | (with_reducible show wpList _ _ _ (Oper.mk _ (Op.binOp BinOp.eql 33 _ _ _) _ _ _ _ :: _) _ _; go_must (refine wpList_eql_flat rfl 33 _ _ _ rfl x.bare.prop.cl y.bare.prop.cl rfl rfl 3 _ flatS_prop (by omega) aggS_prop guardS_prop (fitsS_prop _ OP.out.prop.id OP.out.prop.sl) (fitsS_prop _ OQ.out.prop.id OQ.out.prop.sl) q IQ.out ?_)))
        refine (RP.out w11 _ _ _ RA_11.out rfl).mono ?_
        rw [FP.out]
        rintro en w12 ⟨rfl, hb⟩
        have HB_12 := Lib.hid (HB_11.out.trans (hb.mono HB_11.out.size))
        have K5_12 := Lib.hid (K5_11.out.below hb K5_11.out.lt)
        have K7_12 := Lib.hid (K7_11.out.below hb K7_11.out.lt)
        have RA_12 := Lib.hid (RA_11.out.below hb)
        have RB_12 := Lib.hid (RB_11.out.below hb)
        have K13_12 := Lib.hid (K13_11.out.below hb K13_11.out.lt)
        have K14_12 := Lib.hid (K14_11.out.below hb K14_11.out.lt)
        clear hb HB_11 K5_11 K7_11 RA_11 RB_11 K13_11 K14_11
        rw [str_back]
        go_wp2_with (first
          | (with_reducible show wpList _ _ _ (Oper.mk (some 23) (Op.alloc _) _ _ _ _ :: _) _ _; go_must (refine wpList_alloc_bk rfl _ rfl (.agg zeroProposal.cl.toArray) (by kernel_rfl) ?_; intro b23 w13 hk hb hg hs; have A23 := Lib.hid hb; have G23 := Lib.hid hg; have M23 := Lib.hid (bk_eq (cs' := zeroProposal.cl.toArray) hk rfl); clear hk hb hg hs))
          | (with_reducible show wpList _ _ _ (Oper.mk _ (Op.store 33 (.tmp 23) _) _ _ _ _ :: _) _ _; go_must (refine wpList_st rfl 33 _ _ rfl b23 0 rfl (.agg x.bare.prop.cl.toArray) rfl (x.bare.prop.cl) rfl 52 info_proposal52 (x.bare.prop.cl_len OP.out.prop) _ _ M23.out (by have := ZP.out; simp [this]) (proposal_one _) ?_; intro w14 hk hg hs; have hb4 := A23.out.grown hg A23.out.size (fun k hk => by cases hk; have := G23.out; omega); have HB_14 := Lib.hid (HB_12.out.trans (hb4.mono HB_12.out.size)); have K5_14 := Lib.hid (K5_12.out.below hb4 K5_12.out.lt); have K7_14 := Lib.hid (K7_12.out.below hb4 K7_12.out.lt); have RA_14 := Lib.hid (RA_12.out.below hb4); have RB_14 := Lib.hid (RB_12.out.below hb4); have K13_14 := Lib.hid (K13_12.out.below hb4 K13_12.out.lt); have K14_14 := Lib.hid (K14_12.out.below hb4 K14_12.out.lt); clear hb4 HB_12 K5_12 K7_12 RA_12 RB_12 K13_12 K14_12; have K23_14 := Lib.hid (bk_eq hk (splice_same (x.bare.prop.cl_len OP.out.prop) ZP.out)); clear hk hg hs M23 A23 G23)))
        refine (RV.out w14 _ _ _ RA_14.out rfl).mono ?_
        rw [FV.out]
        rintro en w15 ⟨rfl, hb⟩
        have HB_15 := Lib.hid (HB_14.out.trans (hb.mono HB_14.out.size))
        have K5_15 := Lib.hid (K5_14.out.below hb K5_14.out.lt)
        have K7_15 := Lib.hid (K7_14.out.below hb K7_14.out.lt)
        have RA_15 := Lib.hid (RA_14.out.below hb)
        have RB_15 := Lib.hid (RB_14.out.below hb)
        have K13_15 := Lib.hid (K13_14.out.below hb K13_14.out.lt)
        have K14_15 := Lib.hid (K14_14.out.below hb K14_14.out.lt)
        have K23_15 := Lib.hid (K23_14.out.below hb K23_14.out.lt)
        clear hb HB_14 K5_14 K7_14 RA_14 RB_14 K13_14 K14_14 K23_14
        go_wp2_with (first
          | (with_reducible show wpList _ _ _ (Oper.mk (some 26) (Op.alloc _) _ _ _ _ :: _) _ _; go_must (refine wpList_alloc_bk rfl _ rfl (.agg zeroVote.cl.toArray) (by kernel_rfl) ?_; intro b26 w16 hk hb hg hs; have A26 := Lib.hid hb; have G26 := Lib.hid hg; have M26 := Lib.hid (bk_eq (cs' := zeroVote.cl.toArray) hk rfl); clear hk hb hg hs))
          | (with_reducible show wpList _ _ _ (Oper.mk _ (Op.store 31 (.tmp 26) _) _ _ _ _ :: _) _ _; go_must (refine wpList_st rfl 31 _ _ rfl b26 0 rfl (.agg zeroVote.cl.toArray) rfl (zeroVote.cl) rfl 53 info_vote53 ZV.out _ _ M26.out (by have := ZV.out; simp [this]) (vote_one _) ?_; intro w17 hk hg hs; have hb4 := A26.out.grown hg A26.out.size (fun k hk => by cases hk; have := G26.out; omega); have HB_17 := Lib.hid (HB_15.out.trans (hb4.mono HB_15.out.size)); have K5_17 := Lib.hid (K5_15.out.below hb4 K5_15.out.lt); have K7_17 := Lib.hid (K7_15.out.below hb4 K7_15.out.lt); have RA_17 := Lib.hid (RA_15.out.below hb4); have RB_17 := Lib.hid (RB_15.out.below hb4); have K13_17 := Lib.hid (K13_15.out.below hb4 K13_15.out.lt); have K14_17 := Lib.hid (K14_15.out.below hb4 K14_15.out.lt); have K23_17 := Lib.hid (K23_15.out.below hb4 K23_15.out.lt); clear hb4 HB_15 K5_15 K7_15 RA_15 RB_15 K13_15 K14_15 K23_15; have K26_17 := Lib.hid (bk_eq hk (splice_same ZV.out ZV.out)); clear hk hg hs M26 A26 G26; have d5 : w17.cell? ⟨g5, 0, none⟩ = some (.string x.chain) := (K5_17.out.cell 0).trans (name_chain x)))
          | (with_reducible show wpList _ _ _ (Oper.mk (some 91) (Op.load 33 _) _ _ _ _ :: _) _ _; go_must (refine wpList_load_part rfl 33 _ rfl b23 0 52 rfl _ _ _ K23_17.out Try.underlying33 rfl info_proposal52 (by have := L1.out; simp [this]) _ (cl_all L1.out) ?_))
          | (with_reducible show wpList _ _ _ (Oper.mk (some 93) (Op.load 33 _) _ _ _ _ :: _) _ _; go_must (refine wpList_load_part rfl 33 _ rfl b13 76 52 rfl _ _ _ K13_17.out Try.underlying33 rfl info_proposal52 (by have := LP.out; simp [this]) _ (Name.cl_prop _ OP.out) ?_))
          | (go_at_call 13; go_must (refine (lawNum_any _ _).mono ?_); rintro e wx ⟨rfl, rfl⟩)
          | (with_reducible show wpList _ _ _ (Oper.mk _ (Op.binOp BinOp.neq 33 _ _ _) _ _ _ _ :: _) _ _; go_must (refine wpList_neq_flat rfl 33 _ _ _ rfl x.bare.prop.cl x.bare.prop.cl rfl rfl 3 _ flatS_prop (by omega) aggS_prop guardS_prop F1.out F1.out true (by simp) ?_)))
        refine (sameBytes_any w17 Aa Ab _ ca _ cb la lb rfl rfl RA_17.out RB_17.out NA2.out).mono ?_
        rintro en w18 ⟨rfl, hb⟩
        rw [IS.out]
        have HB_18 := Lib.hid (HB_17.out.trans (hb.mono HB_17.out.size))
        have K5_18 := Lib.hid (K5_17.out.below hb K5_17.out.lt)
        have K7_18 := Lib.hid (K7_17.out.below hb K7_17.out.lt)
        have RA_18 := Lib.hid (RA_17.out.below hb)
        have RB_18 := Lib.hid (RB_17.out.below hb)
        have K13_18 := Lib.hid (K13_17.out.below hb K13_17.out.lt)
        have K14_18 := Lib.hid (K14_17.out.below hb K14_17.out.lt)
        have K23_18 := Lib.hid (K23_17.out.below hb K23_17.out.lt)
        have K26_18 := Lib.hid (K26_17.out.below hb K26_17.out.lt)
        clear hb HB_17 K5_17 K7_17 RA_17 RB_17 K13_17 K14_17 K23_17 K26_17
        go_wp2
        go_ret
        exact ⟨by simp, HB_18.out⟩
      · have c1 : (x.chain.toList == y.chain.toList) = false := str_unlike hc
        have c0 : (x.chain.toList == x.chain.toList) = true := str_same rfl
        have IS := Lib.hid (show (la == lb) = false by rw [beq_eq_false_iff_ne, GA.out, GB.out]; exact fun h => hc (say_chain M3.out HX.out HY.out HE.out HF.out h))
        clear hc
        go_wp2_with (first
          | (with_reducible show wpList _ _ _ (Oper.mk (some 14) (Op.alloc _) _ _ _ _ :: _) _ _; go_must (refine wpList_alloc_bk rfl _ rfl (.agg zeroName.cl.toArray) (by kernel_rfl) ?_; intro b14 w10 hk hb hg hs; have A14 := Lib.hid hb; have G14 := Lib.hid hg; have M14 := Lib.hid (bk_eq (cs' := zeroName.cl.toArray) hk rfl); clear hk hb hg hs))
          | (with_reducible show wpList _ _ _ (Oper.mk _ (Op.store 35 (.tmp 14) _) _ _ _ _ :: _) _ _; go_must (refine wpList_st rfl 35 _ _ rfl b14 0 rfl (.agg y.bare.cl.toArray) rfl (y.bare.cl) rfl 128 info_name128 LQ.out _ _ M14.out (by have := ZN.out; simp [this]) (name_one _) ?_; intro w11 hk hg hs; have hb4 := A14.out.grown hg A14.out.size (fun k hk => by cases hk; have := G14.out; omega); have HB_11 := Lib.hid (HB_9.out.trans (hb4.mono HB_9.out.size)); have K5_11 := Lib.hid (K5_9.out.below hb4 K5_9.out.lt); have K7_11 := Lib.hid (K7_9.out.below hb4 K7_9.out.lt); have RA_11 := Lib.hid (RA_9.out.below hb4); have RB_11 := Lib.hid (RB_9.out.below hb4); have K13_11 := Lib.hid (K13_9.out.below hb4 K13_9.out.lt); clear hb4 HB_9 K5_9 K7_9 RA_9 RB_9 K13_9; have K14_11 := Lib.hid (bk_eq hk (splice_same LQ.out ZN.out)); clear hk hg hs M14 A14 G14; have d5 : w11.cell? ⟨g5, 0, none⟩ = some (.string x.chain) := (K5_11.out.cell 0).trans (name_chain x); have d7 : w11.cell? ⟨g7, 0, none⟩ = some (.string y.chain) := (K7_11.out.cell 0).trans (name_chain y)))
          | (go_at_call 25; have Mt := MJ; clear MJ; go_must (refine (Mt.out _).mono ?_; rintro e wx ⟨rfl, rfl⟩; clear Mt))
          | (go_at_call 25; have Mt := MK; clear MK; go_must (refine (Mt.out _).mono ?_; rintro e wx ⟨rfl, rfl⟩; clear Mt))
          | (go_at_call 25; have Mt := ML; clear ML; go_must (refine (Mt.out _).mono ?_; rintro e wx ⟨rfl, rfl⟩; clear Mt)))
        refine (RP.out w11 _ _ _ RA_11.out rfl).mono ?_
        rw [FP.out]
        rintro en w12 ⟨rfl, hb⟩
        have HB_12 := Lib.hid (HB_11.out.trans (hb.mono HB_11.out.size))
        have K5_12 := Lib.hid (K5_11.out.below hb K5_11.out.lt)
        have K7_12 := Lib.hid (K7_11.out.below hb K7_11.out.lt)
        have RA_12 := Lib.hid (RA_11.out.below hb)
        have RB_12 := Lib.hid (RB_11.out.below hb)
        have K13_12 := Lib.hid (K13_11.out.below hb K13_11.out.lt)
        have K14_12 := Lib.hid (K14_11.out.below hb K14_11.out.lt)
        clear hb HB_11 K5_11 K7_11 RA_11 RB_11 K13_11 K14_11
        rw [str_back]
        go_wp2_with (first
          | (with_reducible show wpList _ _ _ (Oper.mk (some 23) (Op.alloc _) _ _ _ _ :: _) _ _; go_must (refine wpList_alloc_bk rfl _ rfl (.agg zeroProposal.cl.toArray) (by kernel_rfl) ?_; intro b23 w13 hk hb hg hs; have A23 := Lib.hid hb; have G23 := Lib.hid hg; have M23 := Lib.hid (bk_eq (cs' := zeroProposal.cl.toArray) hk rfl); clear hk hb hg hs))
          | (with_reducible show wpList _ _ _ (Oper.mk _ (Op.store 33 (.tmp 23) _) _ _ _ _ :: _) _ _; go_must (refine wpList_st rfl 33 _ _ rfl b23 0 rfl (.agg x.bare.prop.cl.toArray) rfl (x.bare.prop.cl) rfl 52 info_proposal52 (x.bare.prop.cl_len OP.out.prop) _ _ M23.out (by have := ZP.out; simp [this]) (proposal_one _) ?_; intro w14 hk hg hs; have hb4 := A23.out.grown hg A23.out.size (fun k hk => by cases hk; have := G23.out; omega); have HB_14 := Lib.hid (HB_12.out.trans (hb4.mono HB_12.out.size)); have K5_14 := Lib.hid (K5_12.out.below hb4 K5_12.out.lt); have K7_14 := Lib.hid (K7_12.out.below hb4 K7_12.out.lt); have RA_14 := Lib.hid (RA_12.out.below hb4); have RB_14 := Lib.hid (RB_12.out.below hb4); have K13_14 := Lib.hid (K13_12.out.below hb4 K13_12.out.lt); have K14_14 := Lib.hid (K14_12.out.below hb4 K14_12.out.lt); clear hb4 HB_12 K5_12 K7_12 RA_12 RB_12 K13_12 K14_12; have K23_14 := Lib.hid (bk_eq hk (splice_same (x.bare.prop.cl_len OP.out.prop) ZP.out)); clear hk hg hs M23 A23 G23)))
        refine (RV.out w14 _ _ _ RA_14.out rfl).mono ?_
        rw [FV.out]
        rintro en w15 ⟨rfl, hb⟩
        have HB_15 := Lib.hid (HB_14.out.trans (hb.mono HB_14.out.size))
        have K5_15 := Lib.hid (K5_14.out.below hb K5_14.out.lt)
        have K7_15 := Lib.hid (K7_14.out.below hb K7_14.out.lt)
        have RA_15 := Lib.hid (RA_14.out.below hb)
        have RB_15 := Lib.hid (RB_14.out.below hb)
        have K13_15 := Lib.hid (K13_14.out.below hb K13_14.out.lt)
        have K14_15 := Lib.hid (K14_14.out.below hb K14_14.out.lt)
        have K23_15 := Lib.hid (K23_14.out.below hb K23_14.out.lt)
        clear hb HB_14 K5_14 K7_14 RA_14 RB_14 K13_14 K14_14 K23_14
        go_wp2_with (first
          | (with_reducible show wpList _ _ _ (Oper.mk (some 26) (Op.alloc _) _ _ _ _ :: _) _ _; go_must (refine wpList_alloc_bk rfl _ rfl (.agg zeroVote.cl.toArray) (by kernel_rfl) ?_; intro b26 w16 hk hb hg hs; have A26 := Lib.hid hb; have G26 := Lib.hid hg; have M26 := Lib.hid (bk_eq (cs' := zeroVote.cl.toArray) hk rfl); clear hk hb hg hs))
          | (with_reducible show wpList _ _ _ (Oper.mk _ (Op.store 31 (.tmp 26) _) _ _ _ _ :: _) _ _; go_must (refine wpList_st rfl 31 _ _ rfl b26 0 rfl (.agg zeroVote.cl.toArray) rfl (zeroVote.cl) rfl 53 info_vote53 ZV.out _ _ M26.out (by have := ZV.out; simp [this]) (vote_one _) ?_; intro w17 hk hg hs; have hb4 := A26.out.grown hg A26.out.size (fun k hk => by cases hk; have := G26.out; omega); have HB_17 := Lib.hid (HB_15.out.trans (hb4.mono HB_15.out.size)); have K5_17 := Lib.hid (K5_15.out.below hb4 K5_15.out.lt); have K7_17 := Lib.hid (K7_15.out.below hb4 K7_15.out.lt); have RA_17 := Lib.hid (RA_15.out.below hb4); have RB_17 := Lib.hid (RB_15.out.below hb4); have K13_17 := Lib.hid (K13_15.out.below hb4 K13_15.out.lt); have K14_17 := Lib.hid (K14_15.out.below hb4 K14_15.out.lt); have K23_17 := Lib.hid (K23_15.out.below hb4 K23_15.out.lt); clear hb4 HB_15 K5_15 K7_15 RA_15 RB_15 K13_15 K14_15 K23_15; have K26_17 := Lib.hid (bk_eq hk (splice_same ZV.out ZV.out)); clear hk hg hs M26 A26 G26; have d5 : w17.cell? ⟨g5, 0, none⟩ = some (.string x.chain) := (K5_17.out.cell 0).trans (name_chain x)))
          | (with_reducible show wpList _ _ _ (Oper.mk (some 91) (Op.load 33 _) _ _ _ _ :: _) _ _; go_must (refine wpList_load_part rfl 33 _ rfl b23 0 52 rfl _ _ _ K23_17.out Try.underlying33 rfl info_proposal52 (by have := L1.out; simp [this]) _ (cl_all L1.out) ?_))
          | (with_reducible show wpList _ _ _ (Oper.mk (some 93) (Op.load 33 _) _ _ _ _ :: _) _ _; go_must (refine wpList_load_part rfl 33 _ rfl b13 76 52 rfl _ _ _ K13_17.out Try.underlying33 rfl info_proposal52 (by have := LP.out; simp [this]) _ (Name.cl_prop _ OP.out) ?_))
          | (go_at_call 13; go_must (refine (lawNum_any _ _).mono ?_); rintro e wx ⟨rfl, rfl⟩)
          | (with_reducible show wpList _ _ _ (Oper.mk _ (Op.binOp BinOp.neq 33 _ _ _) _ _ _ _ :: _) _ _; go_must (refine wpList_neq_flat rfl 33 _ _ _ rfl x.bare.prop.cl x.bare.prop.cl rfl rfl 3 _ flatS_prop (by omega) aggS_prop guardS_prop F1.out F1.out true (by simp) ?_)))
        refine (sameBytes_any w17 Aa Ab _ ca _ cb la lb rfl rfl RA_17.out RB_17.out NA2.out).mono ?_
        rintro en w18 ⟨rfl, hb⟩
        rw [IS.out]
        have HB_18 := Lib.hid (HB_17.out.trans (hb.mono HB_17.out.size))
        have K5_18 := Lib.hid (K5_17.out.below hb K5_17.out.lt)
        have K7_18 := Lib.hid (K7_17.out.below hb K7_17.out.lt)
        have RA_18 := Lib.hid (RA_17.out.below hb)
        have RB_18 := Lib.hid (RB_17.out.below hb)
        have K13_18 := Lib.hid (K13_17.out.below hb K13_17.out.lt)
        have K14_18 := Lib.hid (K14_17.out.below hb K14_17.out.lt)
        have K23_18 := Lib.hid (K23_17.out.below hb K23_17.out.lt)
        have K26_18 := Lib.hid (K26_17.out.below hb K26_17.out.lt)
        clear hb HB_17 K5_17 K7_17 RA_17 RB_17 K13_17 K14_17 K23_17 K26_17
        go_wp2
        go_ret
        exact ⟨rfl, HB_18.out⟩
    · have c0 : (x.chain.toList == x.chain.toList) = true := str_same rfl
      have c1 : ((2 : Int) == n) = false := by rw [beq_eq_false_iff_ne]; exact fun h => hn h.symm
      have c2 : ¬ ((2 : Int) = n) := fun h => hn h.symm
      have IS := Lib.hid (show (la == lb) = false by rw [beq_eq_false_iff_ne, GA.out, GB.out]; exact fun h => hn (say_kind M3.out N3.out h).symm)
      clear hn
      go_wp2_with (first
        | (with_reducible show wpList _ _ _ (Oper.mk (some 14) (Op.alloc _) _ _ _ _ :: _) _ _; go_must (refine wpList_alloc_bk rfl _ rfl (.agg zeroName.cl.toArray) (by kernel_rfl) ?_; intro b14 w10 hk hb hg hs; have A14 := Lib.hid hb; have G14 := Lib.hid hg; have M14 := Lib.hid (bk_eq (cs' := zeroName.cl.toArray) hk rfl); clear hk hb hg hs))
        | (with_reducible show wpList _ _ _ (Oper.mk _ (Op.store 35 (.tmp 14) _) _ _ _ _ :: _) _ _; go_must (refine wpList_st rfl 35 _ _ rfl b14 0 rfl (.agg y.bare.cl.toArray) rfl (y.bare.cl) rfl 128 info_name128 LQ.out _ _ M14.out (by have := ZN.out; simp [this]) (name_one _) ?_; intro w11 hk hg hs; have hb4 := A14.out.grown hg A14.out.size (fun k hk => by cases hk; have := G14.out; omega); have HB_11 := Lib.hid (HB_9.out.trans (hb4.mono HB_9.out.size)); have K5_11 := Lib.hid (K5_9.out.below hb4 K5_9.out.lt); have K7_11 := Lib.hid (K7_9.out.below hb4 K7_9.out.lt); have RA_11 := Lib.hid (RA_9.out.below hb4); have RB_11 := Lib.hid (RB_9.out.below hb4); have K13_11 := Lib.hid (K13_9.out.below hb4 K13_9.out.lt); clear hb4 HB_9 K5_9 K7_9 RA_9 RB_9 K13_9; have K14_11 := Lib.hid (bk_eq hk (splice_same LQ.out ZN.out)); clear hk hg hs M14 A14 G14; have d5 : w11.cell? ⟨g5, 0, none⟩ = some (.string x.chain) := (K5_11.out.cell 0).trans (name_chain x); have d7 : w11.cell? ⟨g7, 0, none⟩ = some (.string y.chain) := (K7_11.out.cell 0).trans (name_chain y)))
        | (go_at_call 25; have Mt := MJ; clear MJ; go_must (refine (Mt.out _).mono ?_; rintro e wx ⟨rfl, rfl⟩; clear Mt))
        | (go_at_call 25; have Mt := MK; clear MK; go_must (refine (Mt.out _).mono ?_; rintro e wx ⟨rfl, rfl⟩; clear Mt))
        | (go_at_call 25; have Mt := ML; clear ML; go_must (refine (Mt.out _).mono ?_; rintro e wx ⟨rfl, rfl⟩; clear Mt)))
      refine (RP.out w11 _ _ _ RA_11.out rfl).mono ?_
      rw [FP.out]
      rintro en w12 ⟨rfl, hb⟩
      have HB_12 := Lib.hid (HB_11.out.trans (hb.mono HB_11.out.size))
      have K5_12 := Lib.hid (K5_11.out.below hb K5_11.out.lt)
      have K7_12 := Lib.hid (K7_11.out.below hb K7_11.out.lt)
      have RA_12 := Lib.hid (RA_11.out.below hb)
      have RB_12 := Lib.hid (RB_11.out.below hb)
      have K13_12 := Lib.hid (K13_11.out.below hb K13_11.out.lt)
      have K14_12 := Lib.hid (K14_11.out.below hb K14_11.out.lt)
      clear hb HB_11 K5_11 K7_11 RA_11 RB_11 K13_11 K14_11
      rw [str_back]
      go_wp2_with (first
        | (with_reducible show wpList _ _ _ (Oper.mk (some 23) (Op.alloc _) _ _ _ _ :: _) _ _; go_must (refine wpList_alloc_bk rfl _ rfl (.agg zeroProposal.cl.toArray) (by kernel_rfl) ?_; intro b23 w13 hk hb hg hs; have A23 := Lib.hid hb; have G23 := Lib.hid hg; have M23 := Lib.hid (bk_eq (cs' := zeroProposal.cl.toArray) hk rfl); clear hk hb hg hs))
        | (with_reducible show wpList _ _ _ (Oper.mk _ (Op.store 33 (.tmp 23) _) _ _ _ _ :: _) _ _; go_must (refine wpList_st rfl 33 _ _ rfl b23 0 rfl (.agg x.bare.prop.cl.toArray) rfl (x.bare.prop.cl) rfl 52 info_proposal52 (x.bare.prop.cl_len OP.out.prop) _ _ M23.out (by have := ZP.out; simp [this]) (proposal_one _) ?_; intro w14 hk hg hs; have hb4 := A23.out.grown hg A23.out.size (fun k hk => by cases hk; have := G23.out; omega); have HB_14 := Lib.hid (HB_12.out.trans (hb4.mono HB_12.out.size)); have K5_14 := Lib.hid (K5_12.out.below hb4 K5_12.out.lt); have K7_14 := Lib.hid (K7_12.out.below hb4 K7_12.out.lt); have RA_14 := Lib.hid (RA_12.out.below hb4); have RB_14 := Lib.hid (RB_12.out.below hb4); have K13_14 := Lib.hid (K13_12.out.below hb4 K13_12.out.lt); have K14_14 := Lib.hid (K14_12.out.below hb4 K14_12.out.lt); clear hb4 HB_12 K5_12 K7_12 RA_12 RB_12 K13_12 K14_12; have K23_14 := Lib.hid (bk_eq hk (splice_same (x.bare.prop.cl_len OP.out.prop) ZP.out)); clear hk hg hs M23 A23 G23)))
      refine (RV.out w14 _ _ _ RA_14.out rfl).mono ?_
      rw [FV.out]
      rintro en w15 ⟨rfl, hb⟩
      have HB_15 := Lib.hid (HB_14.out.trans (hb.mono HB_14.out.size))
      have K5_15 := Lib.hid (K5_14.out.below hb K5_14.out.lt)
      have K7_15 := Lib.hid (K7_14.out.below hb K7_14.out.lt)
      have RA_15 := Lib.hid (RA_14.out.below hb)
      have RB_15 := Lib.hid (RB_14.out.below hb)
      have K13_15 := Lib.hid (K13_14.out.below hb K13_14.out.lt)
      have K14_15 := Lib.hid (K14_14.out.below hb K14_14.out.lt)
      have K23_15 := Lib.hid (K23_14.out.below hb K23_14.out.lt)
      clear hb HB_14 K5_14 K7_14 RA_14 RB_14 K13_14 K14_14 K23_14
      go_wp2_with (first
        | (with_reducible show wpList _ _ _ (Oper.mk (some 26) (Op.alloc _) _ _ _ _ :: _) _ _; go_must (refine wpList_alloc_bk rfl _ rfl (.agg zeroVote.cl.toArray) (by kernel_rfl) ?_; intro b26 w16 hk hb hg hs; have A26 := Lib.hid hb; have G26 := Lib.hid hg; have M26 := Lib.hid (bk_eq (cs' := zeroVote.cl.toArray) hk rfl); clear hk hb hg hs))
        | (with_reducible show wpList _ _ _ (Oper.mk _ (Op.store 31 (.tmp 26) _) _ _ _ _ :: _) _ _; go_must (refine wpList_st rfl 31 _ _ rfl b26 0 rfl (.agg zeroVote.cl.toArray) rfl (zeroVote.cl) rfl 53 info_vote53 ZV.out _ _ M26.out (by have := ZV.out; simp [this]) (vote_one _) ?_; intro w17 hk hg hs; have hb4 := A26.out.grown hg A26.out.size (fun k hk => by cases hk; have := G26.out; omega); have HB_17 := Lib.hid (HB_15.out.trans (hb4.mono HB_15.out.size)); have K5_17 := Lib.hid (K5_15.out.below hb4 K5_15.out.lt); have K7_17 := Lib.hid (K7_15.out.below hb4 K7_15.out.lt); have RA_17 := Lib.hid (RA_15.out.below hb4); have RB_17 := Lib.hid (RB_15.out.below hb4); have K13_17 := Lib.hid (K13_15.out.below hb4 K13_15.out.lt); have K14_17 := Lib.hid (K14_15.out.below hb4 K14_15.out.lt); have K23_17 := Lib.hid (K23_15.out.below hb4 K23_15.out.lt); clear hb4 HB_15 K5_15 K7_15 RA_15 RB_15 K13_15 K14_15 K23_15; have K26_17 := Lib.hid (bk_eq hk (splice_same ZV.out ZV.out)); clear hk hg hs M26 A26 G26; have d5 : w17.cell? ⟨g5, 0, none⟩ = some (.string x.chain) := (K5_17.out.cell 0).trans (name_chain x)))
        | (with_reducible show wpList _ _ _ (Oper.mk (some 91) (Op.load 33 _) _ _ _ _ :: _) _ _; go_must (refine wpList_load_part rfl 33 _ rfl b23 0 52 rfl _ _ _ K23_17.out Try.underlying33 rfl info_proposal52 (by have := L1.out; simp [this]) _ (cl_all L1.out) ?_))
        | (with_reducible show wpList _ _ _ (Oper.mk (some 93) (Op.load 33 _) _ _ _ _ :: _) _ _; go_must (refine wpList_load_part rfl 33 _ rfl b13 76 52 rfl _ _ _ K13_17.out Try.underlying33 rfl info_proposal52 (by have := LP.out; simp [this]) _ (Name.cl_prop _ OP.out) ?_))
        | (go_at_call 13; go_must (refine (lawNum_any _ _).mono ?_); rintro e wx ⟨rfl, rfl⟩)
        | (with_reducible show wpList _ _ _ (Oper.mk _ (Op.binOp BinOp.neq 33 _ _ _) _ _ _ _ :: _) _ _; go_must (refine wpList_neq_flat rfl 33 _ _ _ rfl x.bare.prop.cl x.bare.prop.cl rfl rfl 3 _ flatS_prop (by omega) aggS_prop guardS_prop F1.out F1.out true (by simp) ?_)))
      refine (sameBytes_any w17 Aa Ab _ ca _ cb la lb rfl rfl RA_17.out RB_17.out NA2.out).mono ?_
      rintro en w18 ⟨rfl, hb⟩
      rw [IS.out]
      have HB_18 := Lib.hid (HB_17.out.trans (hb.mono HB_17.out.size))
      have K5_18 := Lib.hid (K5_17.out.below hb K5_17.out.lt)
      have K7_18 := Lib.hid (K7_17.out.below hb K7_17.out.lt)
      have RA_18 := Lib.hid (RA_17.out.below hb)
      have RB_18 := Lib.hid (RB_17.out.below hb)
      have K13_18 := Lib.hid (K13_17.out.below hb K13_17.out.lt)
      have K14_18 := Lib.hid (K14_17.out.below hb K14_17.out.lt)
      have K23_18 := Lib.hid (K23_17.out.below hb K23_17.out.lt)
      have K26_18 := Lib.hid (K26_17.out.below hb K26_17.out.lt)
      clear hb HB_17 K5_17 K7_17 RA_17 RB_17 K13_17 K14_17 K23_17 K26_17
      go_wp2
      go_ret
      exact ⟨rfl, HB_18.out⟩
end Go.Proofs.Ytocgcalaiejbiaa

/-
  A vote laid down with its seal; EncodeVote. Conditions: each number fits its kind; the Writer has room.
-/
import Derived.Test.YtocgcalaiejbiaaRd12
namespace Go.Proofs.Ytocgcalaiejbiaa
set_option linter.unusedSimpArgs false
set_option linter.unusedVariables false
open Go.RowKit
set_option maxRecDepth 100000


theorem cl_seal_at (x : Vote) (hi : x.id.length = 32) (j : Nat) (u : Value) (h : (bv x.sl)[j]? = some u) : x.cl.toArray[37 + j]? = some u := by
  have e : x.cl = ([.int .i64 x.kind, .int .u64 x.height, .int .i64 x.round] ++ bv x.id ++ [.int .u64 x.time, .int .u64 x.frm]) ++ bv x.sl := by simp [Vote.cl]
  have el : ([.int .i64 x.kind, .int .u64 x.height, .int .i64 x.round] ++ bv x.id ++ [.int .u64 x.time, .int .u64 x.frm] : List Value).length = 37 := by simp [bv_length, hi]
  rw [List.getElem?_toArray, e, List.getElem?_append_right (by omega), el, Nat.add_sub_cancel_left]
  exact h
set_option maxHeartbeats 1000000 in
theorem putVote_raw (w : World) (B g : Nat) (bs : List UInt8) (x : Vote) (hx : x.ok) (hp : VoteB x) (hw : Wr w B g bs) (hb : bs.length + 200 ≤ room46) :
    Calls Try.prog 33 #[.pointer (some ⟨g, 0, none⟩), .agg x.cl.toArray, .func (.func 101) #[.pointer (some ⟨g, 0, none⟩)] #[]] w fun e w' => e = .returned (.tuple #[]) ∧ Wr w' B g (bs ++ (encVote x ++ x.sl)) ∧ Eff B WrT w w' := by
  obtain ⟨k1, k2, h1, h2, r1, r2, t1, t2, _, f1, f2⟩ := hp
  have lh := varB_int (n := x.height) (by omega) (by unfold two64; omega)
  have lr := varB_int (n := x.round) (by omega) (by unfold two64; omega)
  have lt := varB_int (n := x.time) (by omega) (by unfold two64; omega)
  have lf := varB_int (n := x.frm) (by omega) (by unfold two64; omega)
  have li := hx.id
  have ls := hx.sl
  have F2 := Lib.hid f2; clear f2
  have Li := Lib.hid li; clear li
  have Ls := Lib.hid ls; clear ls
  go_enter Try.func33, Try.ntmps33
  go_wp2_with (refine wpList_box_bk rfl _ _ rfl _ rfl ?_)
  intro bx w1 hk hbl hg hs
  clear hg hs
  have hw1 := hw.below hbl
  have c0 : w1.cell? ⟨bx, 0, none⟩ = some (.int .i64 x.kind) := hk.cell 0
  go_wp2_with fail
  refine (byte_int _ B g bs x.kind hw1 (by omega) (by omega) (by omega)).mono ?_
  rintro e w2 ⟨rfl, hw2, e2⟩
  have hk2 := hk.effT e2 (by decide)
  have c1 : w2.cell? ⟨bx, 1, none⟩ = some (.int .u64 x.height) := hk2.cell 1
  go_wp2_with fail
  refine (var_int _ B g _ x.height hw2 (by omega) (by unfold two64; omega) (by simp only [List.length_append, List.length_cons, List.length_nil]; omega)).mono ?_
  rintro e w3 ⟨rfl, hw3, e3⟩
  have hk3 := hk2.effT e3 (by decide)
  have c2 : w3.cell? ⟨bx, 2, none⟩ = some (.int .i64 x.round) := hk3.cell 2
  go_wp2_with fail
  refine (var_int _ B g _ x.round hw3 (by omega) (by unfold two64; omega) (by simp only [List.length_append, List.length_cons, List.length_nil]; omega)).mono ?_
  rintro e w4 ⟨rfl, hw4, e4⟩
  have hk4 := hk3.effT e4 (by decide)
  go_wp2_with (refine wpList_load_part rfl 29 _ rfl bx 3 32 rfl _ _ _ hk4 Try.underlying29 rfl info_hash (by have := x.cl_len hx; simp [this]) _ (x.cl_id hx.id) ?_)
  refine (putHash_any _ B g _ x.id hw4 Li.out (by simp only [List.length_append, List.length_cons, List.length_nil]; omega)).mono ?_
  rintro e w5 ⟨rfl, hw5, e5⟩
  have hk5 := hk4.effT e5 (by decide)
  have c3 : w5.cell? ⟨bx, 35, none⟩ = some (.int .u64 x.time) := (hk5.cell 35).trans (x.cl_35 hx.id)
  go_wp2_with fail
  refine (var_int _ B g _ x.time hw5 (by omega) (by unfold two64; omega) (by simp only [List.length_append, List.length_cons, List.length_nil, Li.out]; omega)).mono ?_
  rintro e w6 ⟨rfl, hw6, e6⟩
  have hk6 := hk5.effT e6 (by decide)
  have c4 : w6.cell? ⟨bx, 36, none⟩ = some (.int .u64 x.frm) := (hk6.cell 36).trans (x.cl_36 hx.id)
  go_wp2_with fail
  refine (var_int _ B g _ x.frm hw6 (by omega) (by unfold two64; exact F2.out) (by simp only [List.length_append, List.length_cons, List.length_nil, Li.out]; omega)).mono ?_
  rintro e w7 ⟨rfl, hw7, e7⟩
  have hk7 := hk6.effT e7 (by decide)
  have hr7 : Rd w7 (some ⟨bx, 37, none⟩) (bv x.sl) := Rd.of_bk hk7 37 _ (fun j u hu => cl_seal_at x hx.id j u hu)
  go_wp2_with fail
  refine (raw_any _ B g _ x.sl _ 16 16 hw7 hr7 Ls.out (by simp only [List.length_append, List.length_cons, List.length_nil, Li.out]; omega)).mono ?_
  rintro e w8 ⟨rfl, hw8, e8⟩
  go_wp2
  go_end0
  refine ⟨rfl, ?_, (Eff.of_below hbl _ _).trans (e2.trans (e3.trans (e4.trans (e5.trans (e6.trans (e7.trans e8))))))⟩
  unfold encVote
  simpa only [List.append_assoc] using hw8

set_option maxHeartbeats 1000000 in
theorem putSealedVote_any (w : World) (B g : Nat) (bs : List UInt8) (x : Vote) (hx : x.ok) (hp : VoteB x) (hw : Wr w B g bs) (hb : bs.length + 200 ≤ room46) :
    Calls Try.prog 95 #[.pointer (some ⟨g, 0, none⟩), .agg x.cl.toArray] w fun e w' => e = .returned (.tuple #[]) ∧ Wr w' B g (bs ++ (encVote x ++ x.sl)) ∧ Eff B WrT w w' := by
  have HP := Lib.hid hp
  have HB := Lib.hid hb
  clear hp hb
  go_enter Try.func95, Try.ntmps95
  go_wp2_with (with_reducible show wpList _ _ _ (Oper.mk _ (Op.box _ _) _ _ _ _ :: _) _ _; refine wpList_box_bk rfl _ _ rfl _ rfl ?_)
  intro bx w1 hk hbl hg hs
  clear hg hs
  have hw1 := hw.below hbl
  go_wp2_with (with_reducible show wpList _ _ _ (Oper.mk _ (Op.load _ _) _ _ _ _ :: _) _ _; refine wpList_load_part rfl 31 _ rfl bx 0 53 rfl _ _ _ hk Try.underlying31 rfl info_Vote (by have := x.cl_len hx; simp [Value.cells, this]) _ (cl_all (x.cl_len hx)) ?_)
  refine (putVote_raw w1 B g bs x hx HP.out hw1 HB.out).mono ?_
  rintro e w2 ⟨rfl, hw2, e2⟩
  go_wp2
  go_end0
  exact ⟨rfl, hw2, (Eff.of_below hbl _ _).trans e2⟩

def formVote (x : Vote) : List UInt8 := encVote x ++ x.sl
set_option maxHeartbeats 2000000 in
theorem encodeVote_any (w : World) (x : Vote) (hx : x.ok) :
    Calls Try.prog 94 #[.agg x.cl.toArray, .int .i64 9223372036854775807, .func (.func 31) #[] #[], .func (.func 95) #[] #[]] w (BytesRes w (plainVote x) (formVote x)) := by
  have HX := Lib.hid hx
  have HL := Lib.hid (x.cl_len hx)
  clear hx
  obtain ⟨F, hF⟩ : ∃ F, plainVote x = F := ⟨_, rfl⟩
  have HF := Lib.hid hF
  rw [hF]
  clear hF
  by_cases hf : F = 0
  · have HB := Lib.hid (voteB HX.out (HF.out.trans hf))
    have f1 : (F != 0) = false := by simp [hf]
    have f2 : (F == 0) = true := by simp [hf]
    have HZ := Lib.hid hf
    clear hf
    go_enter Try.func94, Try.ntmps94
    go_wp2_with (first
      | (with_reducible show wpList _ _ _ (Oper.mk _ (Op.box _ _) _ _ _ _ :: _) _ _; refine wpList_box_bk rfl _ _ rfl _ rfl ?_; intro bx w1 hk hbl hg hs; have HK1 := Lib.hid (bk_eq (cs' := x.cl.toArray) hk rfl); have HB1 := Lib.hid hbl; clear hk hbl hg hs)
      | (with_reducible show wpList _ _ _ (Oper.mk (some 15) (Op.load _ _) _ _ _ _ :: _) _ _; refine wpList_load_part rfl 31 _ rfl bx 0 53 rfl _ _ _ HK1.out Try.underlying31 rfl info_Vote (by simp [HL.out]) _ (cl_all HL.out) ?_))
    refine (plainVote_any w1 x HX.out).mono ?_
    rintro e w2 ⟨rfl, e2⟩
    rw [HF.out]
    have HB2 := Lib.hid (HB1.out.trans (e2.mono HB1.out.size))
    have HK2 := Lib.hid (HK1.out.below e2 HK1.out.lt)
    clear e2 HB1 HK1
    go_wp2_with fail
    refine (newWriter_any w2).mono ?_
    rintro e w3 ⟨g, rfl, hw3, e3⟩
    have HK3 := Lib.hid (HK2.out.below e3 HK2.out.lt)
    have HS2 := Lib.hid HB2.out.size
    have HS3 := Lib.hid e3.size
    have HB3 := Lib.hid (HB2.out.trans (e3.mono HB2.out.size))
    clear e3 HK2
    go_wp2_with (with_reducible show wpList _ _ _ (Oper.mk (some 23) (Op.load _ _) _ _ _ _ :: _) _ _; refine wpList_load_part rfl 31 _ rfl bx 0 53 rfl _ _ _ HK3.out Try.underlying31 rfl info_Vote (by simp [HL.out]) _ (cl_all HL.out) ?_)
    refine (putSealedVote_any w3 _ g [] x HX.out HB.out hw3 (by unfold room46; simp)).mono ?_
    rintro e w4 ⟨rfl, hw4, e4⟩
    have hlen : ([] ++ (encVote x ++ x.sl)).length ≤ reach47 ∧ ([] ++ (encVote x ++ x.sl)).length ≤ 300 := by
      have h1 := encVote_len HX.out HB.out
      have h2 := HX.out.sl
      unfold reach47
      simp only [List.nil_append, List.length_append, h2]
      omega
    have HLEN := Lib.hid hlen
    have HB4 := Lib.hid (HB3.out.trans (e4.to HS2.out HS3.out))
    clear hlen e4
    go_wp2_with fail
    refine (out_any w4 _ g _ hw4 HLEN.out.1).mono ?_
    rintro e w5 ⟨v, rfl, hv, e5⟩
    obtain ⟨Av, cv, rfl⟩ := hv.form
    have HB5 := Lib.hid (HB4.out.trans (e5.mono HB4.out.size))
    have HV := Lib.hid (hv.mono HB4.out.size)
    have HE := Lib.hid (show ([] ++ (encVote x ++ x.sl) : List UInt8) = formVote x from rfl)
    rw [HE.out] at HLEN HV ⊢
    obtain ⟨bs, hbs⟩ : ∃ bs, formVote x = bs := ⟨_, rfl⟩
    rw [hbs] at HLEN HV ⊢
    obtain ⟨L, hL⟩ : ∃ L, bs.length = L := ⟨_, rfl⟩
    have HLL := Lib.hid hL
    have HBS := Lib.hid hbs
    rw [hL] at HLEN HV ⊢
    have hl9 : ¬ ((9223372036854775807 : Int) < (L : Int)) := by have := HLEN.out.2; omega
    have HX2 := Lib.hid HLEN
    clear hv e5 hw3 hw4 hbs HE HLEN hL
    go_wp2
    go_ret2
    exact ⟨HB5.out, .inr ⟨HZ.out, .slice Av L cv, rfl, by rw [HBS.out]; exact HV.out⟩⟩
  · have f1 : (F != 0) = true := by simp [hf]
    have f2 : (F == 0) = false := by simp [hf]
    have HZ := Lib.hid hf
    clear hf
    go_enter Try.func94, Try.ntmps94
    go_wp2_with (first
      | (with_reducible show wpList _ _ _ (Oper.mk _ (Op.box _ _) _ _ _ _ :: _) _ _; refine wpList_box_bk rfl _ _ rfl _ rfl ?_; intro bx w1 hk hbl hg hs; have HK1 := Lib.hid (bk_eq (cs' := x.cl.toArray) hk rfl); have HB1 := Lib.hid hbl; clear hk hbl hg hs)
      | (with_reducible show wpList _ _ _ (Oper.mk (some 15) (Op.load _ _) _ _ _ _ :: _) _ _; refine wpList_load_part rfl 31 _ rfl bx 0 53 rfl _ _ _ HK1.out Try.underlying31 rfl info_Vote (by simp [HL.out]) _ (cl_all HL.out) ?_))
    refine (plainVote_any w1 x HX.out).mono ?_
    rintro e w2 ⟨rfl, e2⟩
    rw [HF.out]
    have HB2 := Lib.hid (HB1.out.trans (e2.mono HB1.out.size))
    clear e2
    go_wp2
    go_ret2
    exact ⟨HB2.out, .inl ⟨HZ.out, rfl⟩⟩

set_option maxHeartbeats 1000000 in
theorem EncodeVote_any (w : World) (x : Vote) (hx : x.ok) :
    Calls Try.prog 53 #[.agg x.cl.toArray] w (BytesRes w (plainVote x) (formVote x)) := by
  have HL := Lib.hid (x.cl_len hx)
  have HX := Lib.hid hx
  clear hx
  generalize hF : plainVote x = F
  have HF := Lib.hid hF
  clear hF
  go_enter Try.func53, Try.ntmps53
  go_wp2_with (first
      | (with_reducible show wpList _ _ _ (Oper.mk _ (Op.box _ _) _ _ _ _ :: _) _ _; refine wpList_box_bk rfl _ _ rfl _ rfl ?_; intro bx w1 hk hbl hg hs; have HK1 := Lib.hid (bk_eq (cs' := x.cl.toArray) hk rfl); have HB1 := Lib.hid hbl; clear hk hbl hg hs)
      | (with_reducible show wpList _ _ _ (Oper.mk (some 4) (Op.load _ _) _ _ _ _ :: _) _ _; refine wpList_load_part rfl 31 _ rfl bx 0 53 rfl _ _ _ HK1.out Try.underlying31 rfl info_Vote (by simp [HL.out]) _ (cl_all HL.out) ?_))
  refine (encodeVote_any w1 x HX.out).mono ?_
  rw [HF.out]
  rintro e w2 ⟨e2, ⟨hz, rfl⟩ | ⟨hz, v, rfl, hv⟩⟩
  · have HZ := Lib.hid hz
    have HB2 := Lib.hid (HB1.out.trans (e2.mono HB1.out.size))
    clear hz e2
    go_wp2
    go_ret2
    exact ⟨HB2.out, .inl ⟨HZ.out, rfl⟩⟩
  · obtain ⟨Av, cv, rfl⟩ := hv.form
    have HZ := Lib.hid hz
    have HB2 := Lib.hid (HB1.out.trans (e2.mono HB1.out.size))
    have HV := Lib.hid (hv.mono HB1.out.size)
    clear hz e2 hv
    go_wp2
    go_ret2
    exact ⟨HB2.out, .inr ⟨HZ.out, _, rfl, HV.out⟩⟩
end Go.Proofs.Ytocgcalaiejbiaa

/-
  EncodeEvidence. Condition: each number fits its kind.
-/
import Derived.Test.YtjdegphpalhapaaDoorKEv2
import Derived.Test.YtjdegphpalhapaaDoorK15
namespace Go.Proofs.YtjdegphpalhapaaDoor
set_option linter.unusedSimpArgs false
set_option linter.unusedVariables false
open Go.RowKit
set_option maxRecDepth 100000

theorem evB {x : Ev} (hx : x.ok) (h : plainEv x = 0) : VoteB x.a ∧ VoteB x.b := by
  unfold plainEv at h
  by_cases he : headEv x = 0
  · have hall := firstErr_zero he
    exact ⟨voteB hx.a (hall (plainVote x.a) (by simp)), voteB hx.b (hall (plainVote x.b) (by simp))⟩
  · rw [if_pos he] at h
    exact absurd h he
theorem formEv_len {x : Ev} (hx : x.ok) (ha : VoteB x.a) (hb : VoteB x.b) : (formEv x).length ≤ 190 := by
  have h1 := encVote_len hx.a ha
  have h2 := encVote_len hx.b hb
  have h3 := hx.a.sl
  have h4 := hx.b.sl
  simp only [formEv, fvE, List.length_append]
  omega
set_option maxHeartbeats 2000000 in
theorem encodeEv_any (w : World) (x : Ev) (hx : x.ok) :
    Calls Tryd.prog 63 #[.agg x.cl.toArray, .int .i64 9223372036854775807, .func (.func 64) #[] #[], .func (.func 65) #[] #[]] w (BytesRes w (plainEv x) (formEv x)) := by
  have HX := Lib.hid hx
  have HL := Lib.hid (x.cl_len hx)
  clear hx
  obtain ⟨F, hF⟩ : ∃ F, plainEv x = F := ⟨_, rfl⟩
  have HF := Lib.hid hF
  rw [hF]
  clear hF
  by_cases hf : F = 0
  · have HB := Lib.hid (evB HX.out (HF.out.trans hf))
    have f1 : (F != 0) = false := by simp [hf]
    have f2 : (F == 0) = true := by simp [hf]
    have HZ := Lib.hid hf
    clear hf
    go_enter Tryd.func63, Tryd.ntmps63
    go_wp2_with (first
      | (with_reducible show wpList _ _ _ (Oper.mk _ (Op.box _ _) _ _ _ _ :: _) _ _; refine wpList_box_bk rfl _ _ rfl _ rfl ?_; intro bx w1 hk hbl hg hs; have HK1 := Lib.hid (bk_eqT (cs' := x.cl.toArray) hk rfl); have HB1 := Lib.hid hbl; clear hk hbl hg hs)
      | (with_reducible show wpList _ _ _ (Oper.mk (some 15) (Op.load _ _) _ _ _ _ :: _) _ _; refine wpList_load_part rfl 75 _ rfl bx 0 106 rfl _ _ _ HK1.out Tryd.underlying75 rfl info_Ev (by simp [HL.out]) _ (cl_allN HL.out) ?_))
    refine (plainEv_any w1 x HX.out).mono ?_
    rintro e w2 ⟨rfl, e2⟩
    rw [HF.out]
    have HB2 := Lib.hid (HB1.out.trans (e2.mono HB1.out.size))
    have HK2 := Lib.hid (HK1.out.below e2 HK1.out.lt)
    clear e2 HB1 HK1
    go_wp2_with fail
    refine (newWriter_any w2).mono ?_
    rintro e w3 ⟨g, rfl, hw3, e3⟩
    have HK3 := Lib.hid (HK2.out.below e3 HK2.out.lt)
    have HS2 := Lib.hid HB2.out.size
    have HS3 := Lib.hid e3.size
    have HB3 := Lib.hid (HB2.out.trans (e3.mono HB2.out.size))
    clear e3 HK2
    go_wp2_with (with_reducible show wpList _ _ _ (Oper.mk (some 23) (Op.load _ _) _ _ _ _ :: _) _ _; refine wpList_load_part rfl 75 _ rfl bx 0 106 rfl _ _ _ HK3.out Tryd.underlying75 rfl info_Ev (by simp [HL.out]) _ (cl_allN HL.out) ?_)
    refine (putEvidence_any w3 _ g [] x HX.out HB.out.1 HB.out.2 hw3 (by unfold room46; simp)).mono ?_
    rintro e w4 ⟨rfl, hw4, e4⟩
    have hlen : ([] ++ formEv x).length ≤ reach47 ∧ ([] ++ formEv x).length ≤ 300 := by
      have h1 := formEv_len HX.out HB.out.1 HB.out.2
      unfold reach47
      rw [List.nil_append]
      omega
    have HLEN := Lib.hid hlen
    have HB4 := Lib.hid (HB3.out.trans (e4.to HS2.out HS3.out))
    clear hlen e4
    go_wp2_with fail
    refine (out_any w4 _ g _ hw4 HLEN.out.1).mono ?_
    rintro e w5 ⟨v, rfl, hv, e5⟩
    obtain ⟨Av, cv, rfl⟩ := hv.form
    have HB5 := Lib.hid (HB4.out.trans (e5.mono HB4.out.size))
    have HV := Lib.hid (hv.mono HB4.out.size)
    have HE := Lib.hid (show ([] ++ formEv x : List UInt8) = formEv x from rfl)
    rw [HE.out] at HLEN HV ⊢
    obtain ⟨bs, hbs⟩ : ∃ bs, formEv x = bs := ⟨_, rfl⟩
    rw [hbs] at HLEN HV ⊢
    obtain ⟨L, hL⟩ : ∃ L, bs.length = L := ⟨_, rfl⟩
    have HLL := Lib.hid hL
    have HBS := Lib.hid hbs
    rw [hL] at HLEN HV ⊢
    have hl9 : ¬ ((9223372036854775807 : Int) < (L : Int)) := by have := HLEN.out.2; omega
    have HX2 := Lib.hid HLEN
    clear hv e5 hw3 hw4 hbs HE HLEN hL
    go_wp2
    go_ret2
    exact ⟨HB5.out, .inr ⟨HZ.out, .slice Av L cv, rfl, by rw [HBS.out]; exact HV.out⟩⟩
  · have f1 : (F != 0) = true := by simp [hf]
    have f2 : (F == 0) = false := by simp [hf]
    have HZ := Lib.hid hf
    clear hf
    go_enter Tryd.func63, Tryd.ntmps63
    go_wp2_with (first
      | (with_reducible show wpList _ _ _ (Oper.mk _ (Op.box _ _) _ _ _ _ :: _) _ _; refine wpList_box_bk rfl _ _ rfl _ rfl ?_; intro bx w1 hk hbl hg hs; have HK1 := Lib.hid (bk_eqT (cs' := x.cl.toArray) hk rfl); have HB1 := Lib.hid hbl; clear hk hbl hg hs)
      | (with_reducible show wpList _ _ _ (Oper.mk (some 15) (Op.load _ _) _ _ _ _ :: _) _ _; refine wpList_load_part rfl 75 _ rfl bx 0 106 rfl _ _ _ HK1.out Tryd.underlying75 rfl info_Ev (by simp [HL.out]) _ (cl_allN HL.out) ?_))
    refine (plainEv_any w1 x HX.out).mono ?_
    rintro e w2 ⟨rfl, e2⟩
    rw [HF.out]
    have HB2 := Lib.hid (HB1.out.trans (e2.mono HB1.out.size))
    clear e2
    go_wp2
    go_ret2
    exact ⟨HB2.out, .inl ⟨HZ.out, rfl⟩⟩

set_option maxHeartbeats 1000000 in
theorem EncodeEvidence_any (w : World) (x : Ev) (hx : x.ok) :
    Calls Tryd.prog 36 #[.agg x.cl.toArray] w (BytesRes w (plainEv x) (formEv x)) := by
  have HL := Lib.hid (x.cl_len hx)
  have HX := Lib.hid hx
  clear hx
  generalize hF : plainEv x = F
  have HF := Lib.hid hF
  clear hF
  go_enter Tryd.func36, Tryd.ntmps36
  go_wp2_with (first
      | (with_reducible show wpList _ _ _ (Oper.mk _ (Op.box _ _) _ _ _ _ :: _) _ _; refine wpList_box_bk rfl _ _ rfl _ rfl ?_; intro bx w1 hk hbl hg hs; have HK1 := Lib.hid (bk_eqT (cs' := x.cl.toArray) hk rfl); have HB1 := Lib.hid hbl; clear hk hbl hg hs)
      | (with_reducible show wpList _ _ _ (Oper.mk (some 4) (Op.load _ _) _ _ _ _ :: _) _ _; refine wpList_load_part rfl 75 _ rfl bx 0 106 rfl _ _ _ HK1.out Tryd.underlying75 rfl info_Ev (by simp [HL.out]) _ (cl_allN HL.out) ?_))
  refine (encodeEv_any w1 x HX.out).mono ?_
  rw [HF.out]
  rintro e w2 ⟨e2, ⟨hz, rfl⟩ | ⟨hz, v, rfl, hv⟩⟩
  · have HZ := Lib.hid hz
    have HB2 := Lib.hid (HB1.out.trans (e2.mono HB1.out.size))
    clear hz e2
    go_wp2
    go_ret2
    exact ⟨HB2.out, .inl ⟨HZ.out, rfl⟩⟩
  · obtain ⟨Av, cv, rfl⟩ := hv.form
    have HZ := Lib.hid hz
    have HB2 := Lib.hid (HB1.out.trans (e2.mono HB1.out.size))
    have HV := Lib.hid (hv.mono HB1.out.size)
    clear hz e2 hv
    go_wp2
    go_ret2
    exact ⟨HB2.out, .inr ⟨HZ.out, _, rfl, HV.out⟩⟩
end Go.Proofs.YtjdegphpalhapaaDoor

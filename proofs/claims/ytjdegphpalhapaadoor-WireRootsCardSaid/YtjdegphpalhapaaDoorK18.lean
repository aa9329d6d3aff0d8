/-
  A certificate laid down; EncodeCert. Conditions: each number fits its kind; the marks lie in the world.
  CertId: all zero for the zero certificate, else the digest of its form. Conditions: each number fits its kind; the marks lie in the world; the tables read as they were laid.
  The reference's NoCert and PlainHeader. Condition: each number fits its kind.
  The document's own forms, further: join. Condition: the pieces have less than 2^46 bytes together.
  The steps of the law of a head in whatever order. No condition: lemmas over any program.
-/
import Derived.Test.YtjdegphpalhapaaDoorKCe3
import Derived.Test.YtjdegphpalhapaaDoorKRef1
import Derived.Test.YtjdegphpalhapaaDoorKRef2
import Derived.Test.YtjdegphpalhapaaDoorK07
import Derived.Test.YtjdegphpalhapaaDoorK02
namespace Go.Proofs.YtjdegphpalhapaaDoor
set_option linter.unusedSimpArgs false
set_option linter.unusedVariables false
open Go.RowKit
set_option maxRecDepth 100000

theorem rd_lt {w : World} {A : Option Addr} {xs : List Value} (h : Rd w A xs) {ad : Addr} (ha : A = some ad) (hne : xs ≠ []) : ad.block < w.heap.size := by
  have hl : 0 < xs.length := List.length_pos_iff.2 hne
  obtain ⟨ad', ha', hc⟩ := h 0 _ (List.getElem?_eq_getElem hl)
  rw [ha] at ha'; injection ha' with ha'; subst ha'
  rcases Nat.lt_or_ge ad.block w.heap.size with hl' | hl'
  · exact hl'
  · have hn : w.cell? (ad.add 0) = none := by simp [World.cell?, add_block, Array.getElem?_eq_none hl']
    rw [hn] at hc; cases hc
theorem mkB {m : Mk} (hm : m.ok) (h : mkErr m = 0) : MkB m := by
  have hall := firstErr_zero h
  have a1 := field_zero (hall (field (decide (m.idx < 0) || decide (64 ≤ m.idx))) (by simp))
  have a2 := of_decide_eq_false (field_zero (hall (moment m.time) (by simp)))
  have ht := hm.time
  unfold U64 at ht
  simp only [Bool.or_eq_false_iff, decide_eq_false_iff_not] at a1
  exact ⟨by omega, by omega, ht.1, by omega⟩
theorem plainMks_rest {p : Option Int} {a : Mk} {ms : List Mk} (h : plainMks p (a :: ms) = 0) : mkErr a = 0 ∧ plainMks (some a.idx) ms = 0 := by
  by_cases he : mkErr a = 0
  · refine ⟨he, ?_⟩
    cases p with
    | none => simpa [plainMks_cons, he] using h
    | some q =>
      by_cases hq : a.idx ≤ q
      · simp [plainMks_cons, he, hq] at h
      · simpa [plainMks_cons, he, hq] using h
  · rw [plainMks_cons, if_pos he] at h; exact absurd h he
theorem mksB : ∀ (ms : List Mk) (p : Option Int), (∀ m ∈ ms, m.ok) → plainMks p ms = 0 → ∀ m ∈ ms, MkB m
  | [], _, _, _, m, hm => by cases hm
  | a :: ms, p, ho, h, m, hm => by
    have hr := plainMks_rest h
    rcases List.mem_cons.1 hm with rfl | hm
    · exact mkB (ho _ (List.mem_cons_self ..)) hr.1
    · exact mksB ms _ (fun q hq => ho q (List.mem_cons_of_mem _ hq)) hr.2 m hm
theorem crtB {x : Crt} (hx : x.ok) (h : plainCrt x = 0) : CrtB x := by
  unfold plainCrt at h
  by_cases hz : zeroC x = true
  · unfold zeroC at hz
    simp only [Bool.and_eq_true, beq_iff_eq] at hz
    obtain ⟨z1, z2, _, z4⟩ := hz
    have hn := hx.n
    have hm : x.ms = [] := List.eq_nil_of_length_eq_zero (by omega)
    exact ⟨by omega, by omega, by omega, by omega, by omega, fun m hm' => by rw [hm] at hm'; cases hm'⟩
  · rw [if_neg hz] at h
    by_cases he : headC x = 0
    · rw [if_neg (by simp [he])] at h
      have hall := firstErr_zero he
      have b1 := of_decide_eq_false (field_zero (hall (height x.height) (by simp)))
      have b2 := of_decide_eq_false (field_zero (hall (round x.round) (by simp)))
      by_cases hn : 64 < (x.n : Int)
      · rw [if_pos hn] at h; cases h
      · rw [if_neg hn] at h
        exact ⟨by omega, by omega, by omega, by omega, by omega, mksB _ _ hx.ms h⟩
    · rw [if_pos he] at h; exact absurd h he
set_option maxHeartbeats 2000000 in
theorem encodeCrt_any (w : World) (x : Crt) (hx : x.ok) (hat : x.at w) :
    Calls Tryd.prog 49 #[.agg x.cl.toArray, .int .i64 9223372036854775807, .func (.func 50) #[] #[], .func (.func 51) #[] #[]] w (BytesRes w (plainCrt x) (encCrt x)) := by
  have HX := Lib.hid hx
  have HAT := Lib.hid (show Rd w x.A (x.ms.flatMap Mk.cl) from hat)
  clear hat
  have HL := Lib.hid (x.cl_len hx)
  clear hx
  obtain ⟨F, hF⟩ : ∃ F, plainCrt x = F := ⟨_, rfl⟩
  have HF := Lib.hid hF
  rw [hF]
  clear hF
  by_cases hf : F = 0
  · have HB := Lib.hid (crtB HX.out (HF.out.trans hf))
    have f1 : (F != 0) = false := by simp [hf]
    have f2 : (F == 0) = true := by simp [hf]
    have HZ := Lib.hid hf
    clear hf
    go_enter Tryd.func49, Tryd.ntmps49
    go_wp2_with (first
      | (with_reducible show wpList _ _ _ (Oper.mk _ (Op.box _ _) _ _ _ _ :: _) _ _; refine wpList_box_bk rfl _ _ rfl _ rfl ?_; intro bx w1 hk hbl hg hs; have HK1 := Lib.hid (bk_eqT (cs' := x.cl.toArray) hk rfl); have HB1 := Lib.hid hbl; clear hk hbl hg hs)
      | (with_reducible show wpList _ _ _ (Oper.mk (some 15) (Op.load _ _) _ _ _ _ :: _) _ _; refine wpList_load_part rfl 34 _ rfl bx 0 35 rfl _ _ _ HK1.out Tryd.underlying34 rfl info_Crt (by simp [HL.out]) _ (cl_all35 HL.out) ?_))
    refine (plainCrt_any w1 x HX.out (show x.at w1 from HAT.out.below HB1.out)).mono ?_
    rintro e w2 ⟨rfl, e2⟩
    rw [HF.out]
    have HB2 := Lib.hid (HB1.out.trans (e2.mono HB1.out.size))
    have HK2 := Lib.hid (HK1.out.below e2 HK1.out.lt)
    clear e2 HB1 HK1
    go_wp2_with fail
    refine (newWriter_any w2).mono ?_
    rintro e w3 ⟨g, rfl, hw3, e3⟩
    have HK3 := Lib.hid (HK2.out.below e3 HK2.out.lt)
    have HS2 := Lib.hid HB2.out.size
    have HS3 := Lib.hid e3.size
    have HB3 := Lib.hid (HB2.out.trans (e3.mono HB2.out.size))
    clear e3 HK2
    go_wp2_with (with_reducible show wpList _ _ _ (Oper.mk (some 23) (Op.load _ _) _ _ _ _ :: _) _ _; refine wpList_load_part rfl 34 _ rfl bx 0 35 rfl _ _ _ HK3.out Tryd.underlying34 rfl info_Crt (by simp [HL.out]) _ (cl_all35 HL.out) ?_)
    refine (putCert_any w3 _ g [] x HX.out HB.out (show x.at w3 from HAT.out.below HB3.out) (fun ad ha hne => Nat.lt_of_lt_of_le (rd_lt HAT.out ha hne) HS2.out) HS3.out hw3 (by unfold room46; simp)).mono ?_
    rintro e w4 ⟨rfl, hw4, e4⟩
    have hlen : ([] ++ encCrt x).length ≤ reach47 ∧ ([] ++ encCrt x).length ≤ 2400 := by
      have h1 := encCrt_len HX.out HB.out
      unfold reach47
      rw [List.nil_append]
      omega
    have HLEN := Lib.hid hlen
    have HB4 := Lib.hid (HB3.out.trans (e4.to HS2.out HS3.out))
    clear hlen e4
    go_wp2_with fail
    refine (out_any w4 _ g _ hw4 HLEN.out.1).mono ?_
    rintro e w5 ⟨v, rfl, hv, e5⟩
    obtain ⟨Av, cv, rfl⟩ := hv.form
    have HB5 := Lib.hid (HB4.out.trans (e5.mono HB4.out.size))
    have HV := Lib.hid (hv.mono HB4.out.size)
    have HE := Lib.hid (show ([] ++ encCrt x : List UInt8) = encCrt x from rfl)
    rw [HE.out] at HLEN HV ⊢
    obtain ⟨bs, hbs⟩ : ∃ bs, encCrt x = bs := ⟨_, rfl⟩
    rw [hbs] at HLEN HV ⊢
    obtain ⟨L, hL⟩ : ∃ L, bs.length = L := ⟨_, rfl⟩
    have HLL := Lib.hid hL
    have HBS := Lib.hid hbs
    rw [hL] at HLEN HV ⊢
    have hl9 : ¬ ((9223372036854775807 : Int) < (L : Int)) := by have := HLEN.out.2; omega
    have HX2 := Lib.hid HLEN
    clear hv e5 hw3 hw4 hbs HE HLEN hL
    go_wp2
    go_ret2
    exact ⟨HB5.out, .inr ⟨HZ.out, .slice Av L cv, rfl, by rw [HBS.out]; exact HV.out⟩⟩
  · have f1 : (F != 0) = true := by simp [hf]
    have f2 : (F == 0) = false := by simp [hf]
    have HZ := Lib.hid hf
    clear hf
    go_enter Tryd.func49, Tryd.ntmps49
    go_wp2_with (first
      | (with_reducible show wpList _ _ _ (Oper.mk _ (Op.box _ _) _ _ _ _ :: _) _ _; refine wpList_box_bk rfl _ _ rfl _ rfl ?_; intro bx w1 hk hbl hg hs; have HK1 := Lib.hid (bk_eqT (cs' := x.cl.toArray) hk rfl); have HB1 := Lib.hid hbl; clear hk hbl hg hs)
      | (with_reducible show wpList _ _ _ (Oper.mk (some 15) (Op.load _ _) _ _ _ _ :: _) _ _; refine wpList_load_part rfl 34 _ rfl bx 0 35 rfl _ _ _ HK1.out Tryd.underlying34 rfl info_Crt (by simp [HL.out]) _ (cl_all35 HL.out) ?_))
    refine (plainCrt_any w1 x HX.out (show x.at w1 from HAT.out.below HB1.out)).mono ?_
    rintro e w2 ⟨rfl, e2⟩
    rw [HF.out]
    have HB2 := Lib.hid (HB1.out.trans (e2.mono HB1.out.size))
    clear e2
    go_wp2
    go_ret2
    exact ⟨HB2.out, .inl ⟨HZ.out, rfl⟩⟩

set_option maxHeartbeats 1000000 in
theorem EncodeCert_any (w : World) (x : Crt) (hx : x.ok) (hat : x.at w) :
    Calls Tryd.prog 23 #[.agg x.cl.toArray] w (BytesRes w (plainCrt x) (encCrt x)) := by
  have HL := Lib.hid (x.cl_len hx)
  have HX := Lib.hid hx
  have HAT := Lib.hid (show Rd w x.A (x.ms.flatMap Mk.cl) from hat)
  clear hat
  clear hx
  generalize hF : plainCrt x = F
  have HF := Lib.hid hF
  clear hF
  go_enter Tryd.func23, Tryd.ntmps23
  go_wp2_with (first
      | (with_reducible show wpList _ _ _ (Oper.mk _ (Op.box _ _) _ _ _ _ :: _) _ _; refine wpList_box_bk rfl _ _ rfl _ rfl ?_; intro bx w1 hk hbl hg hs; have HK1 := Lib.hid (bk_eqT (cs' := x.cl.toArray) hk rfl); have HB1 := Lib.hid hbl; clear hk hbl hg hs)
      | (with_reducible show wpList _ _ _ (Oper.mk (some 4) (Op.load _ _) _ _ _ _ :: _) _ _; refine wpList_load_part rfl 34 _ rfl bx 0 35 rfl _ _ _ HK1.out Tryd.underlying34 rfl info_Crt (by simp [HL.out]) _ (cl_all35 HL.out) ?_))
  refine (encodeCrt_any w1 x HX.out (show x.at w1 from HAT.out.below HB1.out)).mono ?_
  rw [HF.out]
  rintro e w2 ⟨e2, ⟨hz, rfl⟩ | ⟨hz, v, rfl, hv⟩⟩
  · have HZ := Lib.hid hz
    have HB2 := Lib.hid (HB1.out.trans (e2.mono HB1.out.size))
    clear hz e2
    go_wp2
    go_ret2
    exact ⟨HB2.out, .inl ⟨HZ.out, rfl⟩⟩
  · obtain ⟨Av, cv, rfl⟩ := hv.form
    have HZ := Lib.hid hz
    have HB2 := Lib.hid (HB1.out.trans (e2.mono HB1.out.size))
    have HV := Lib.hid (hv.mono HB1.out.size)
    clear hz e2 hv
    go_wp2
    go_ret2
    exact ⟨HB2.out, .inr ⟨HZ.out, _, rfl, HV.out⟩⟩
end Go.Proofs.YtjdegphpalhapaaDoor
namespace Go.Proofs.YtjdegphpalhapaaDoor
set_option linter.unusedSimpArgs false
set_option linter.unusedVariables false
open Go.RowKit
set_option maxRecDepth 100000

def idCrt (x : Crt) : List UInt8 := if zeroC x = true then zer 32 else sha (18 :: encCrt x)
set_option maxHeartbeats 1000000 in
theorem CertId_any (w : World) (x : Crt) (hx : x.ok) (hat : x.at w) (ht : Tabs w) :
    Calls Tryd.prog 7 #[.agg x.cl.toArray] w (HashRes w (plainCrt x) (idCrt x)) := by
  have HX := Lib.hid hx
  have HAT := Lib.hid (show Rd w x.A (x.ms.flatMap Mk.cl) from hat)
  clear hat
  have HT := Lib.hid ht
  have HL := Lib.hid (x.cl_len hx)
  clear hx ht
  go_enter Tryd.func7, Tryd.ntmps7
  go_wp2_with (with_reducible show wpList _ _ _ (Oper.mk _ (Op.box _ _) _ _ _ _ :: _) _ _; refine wpList_box_i rfl _ _ rfl _ rfl ?_)
  intro bx w1 hk1 hl1 hg1 hs1
  go_wp2_with (with_reducible show wpList _ _ _ (Oper.mk _ (Op.alloc _) _ _ _ _ :: _) _ _; refine wpList_alloc_i rfl 29 rfl (.agg (bv (zer 32)).toArray) zero_hash ?_)
  intro r w2 h2 hl2 hg2 hs2
  have HK2 := Lib.hid (hk1.below hl2 hk1.lt)
  have H2 := Lib.hid h2
  have HL2 := Lib.hid (hl1.trans (hl2.mono hl1.size))
  have HR := Lib.hid (show w.heap.size ≤ r by have := hl1.size; omega)
  clear hk1 hl1 h2 hl2 hg1 hs1 hg2
  go_wp2_with (with_reducible show wpList _ _ _ (Oper.mk _ (Op.load _ _) _ _ _ _ :: _) _ _; go_must (refine wpList_load_part rfl 34 _ rfl bx 0 35 rfl _ _ _ HK2.out Tryd.underlying34 rfl info_Crt (by simp [Value.cells, HL.out]) _ (cl_all35 HL.out) ?_); go_wp2_with fail)
  refine (zeroCert_any w2 x HX.out).mono ?_
  rintro en w2b ⟨rfl, hl2b⟩
  have HKb := Lib.hid (HK2.out.below hl2b HK2.out.lt)
  have H2b := Lib.hid (H2.out.below hl2b H2.out.lt)
  have HL2b := Lib.hid (HL2.out.trans (hl2b.mono HL2.out.size))
  clear hl2b HK2 H2 HL2 hs2
  obtain ⟨Z, hZ⟩ : ∃ Z, zeroC x = Z := ⟨_, rfl⟩
  have HZZ := Lib.hid hZ
  rw [hZ]
  clear hZ
  cases Z
  case true =>
    have HP := Lib.hid (show plainCrt x = 0 by unfold plainCrt; rw [HZZ.out]; rfl)
    have HI := Lib.hid (show idCrt x = zer 32 by unfold idCrt; rw [HZZ.out]; rfl)
    go_wp2_with (first
      | (with_reducible show wpList _ _ _ (Oper.mk _ (Op.build _ _) _ _ _ _ :: _) _ _; go_must (refine wpList_buildv rfl 29 [] rfl [] rfl _ built_hash ?_))
      | (with_reducible show wpList _ _ _ (Oper.mk _ (Op.store 29 _ _) _ _ _ _ :: _) _ _; go_must (refine wpList_store_bk rfl 29 _ _ rfl r rfl (.agg (bv (zer 32)).toArray) rfl _ _ H2b.out (by rw [agg_sz (bv_sz (n := 32) rfl)]; exact info_h32) rfl (by simpa [Value.cells] using bv_one (zer 32)) ?_)))
    intro w5 h5 hg5 hs5
    have HB := Lib.hid (below_grown2 HL2b.out hg5 HR.out HL2b.out.size)
    have H5 := Lib.hid (show Bk w5 r (bv (zer 32)).toArray 29 from h5)
    clear h5 hg5 hs5
    go_wp2
    exact bodyPost_ct (x := .int .i64 0) rfl rfl rfl H5.out Tryd.underlying29 rfl info_h32 (bv_sz (n := 32) rfl).symm rfl ⟨HB.out, by rw [HP.out, HI.out]; unfold hashOr; simp⟩
  case false =>
  have HI := Lib.hid (show idCrt x = sha (18 :: encCrt x) by unfold idCrt; rw [HZZ.out]; rfl)
  go_wp2_with (with_reducible show wpList _ _ _ (Oper.mk (some 10) (Op.load _ _) _ _ _ _ :: _) _ _; go_must (refine wpList_load_part rfl 34 _ rfl bx 0 35 rfl _ _ _ HKb.out Tryd.underlying34 rfl info_Crt (by simp [Value.cells, HL.out]) _ (cl_all35 HL.out) ?_); go_wp2_with fail)
  refine (EncodeCert_any w2b x HX.out (show x.at w2b from HAT.out.below HL2b.out)).mono ?_
  rintro en w3 ⟨hl3, hres⟩
  have HL3 := Lib.hid (HL2b.out.trans (hl3.mono HL2b.out.size))
  have H3 := Lib.hid (H2b.out.below hl3 H2b.out.lt)
  have HT3 := Lib.hid (((HT.out.below (HL2b.out)).below hl3))
  clear hl3 HKb
  rcases hres with ⟨hz, rfl⟩ | ⟨hz, v, rfl, hv⟩
  · have HZ := Lib.hid hz
    obtain ⟨E, hE⟩ : ∃ E, plainCrt x = E := ⟨_, rfl⟩
    have HE := Lib.hid hE
    rw [hE] at HZ ⊢
    clear hz hE
    go_wp2_with fail
    refine (id_err w3 18 _ E HZ.out).mono ?_
    rintro en w4 ⟨hl4, rfl⟩
    have HL4 := Lib.hid (HL3.out.trans (hl4.mono HL3.out.size))
    have H4 := Lib.hid (H3.out.below hl4 H3.out.lt)
    have HY := Lib.hid (bv_sz (show (hashOr E ([] : List UInt8)).length = 32 by unfold hashOr; rw [if_neg HZ.out]; rfl))
    have HQ := Lib.hid (show hashOr E ([] : List UInt8) = hashOr E (idCrt x) from hashOr_err HZ.out)
    clear hl4
    go_wp2_with (with_reducible show wpList _ _ _ (Oper.mk _ (Op.store 29 _ _) _ _ _ _ :: _) _ _; go_must (refine wpList_store_bk rfl 29 _ _ rfl r rfl (.agg (bv (hashOr E ([] : List UInt8))).toArray) rfl _ _ H4.out (by rw [agg_sz HY.out]; exact info_h32) (by rw [agg_sz HY.out]; simp [bv, zer]) (by simpa [Value.cells] using bv_one (hashOr E ([] : List UInt8))) ?_))
    intro w5 h5 hg5 hs5
    have HB := Lib.hid (below_grown2 HL4.out hg5 HR.out HL4.out.size)
    have H5 := Lib.hid h5
    clear h5 hg5 hs5
    go_wp2
    exact bodyPost_ct (x := .int .i64 E) rfl rfl rfl H5.out Tryd.underlying29 rfl info_h32 HY.out.symm rfl ⟨HB.out, by rw [HE.out, ← HQ.out]⟩
  · have HE := Lib.hid hz
    have HV := Lib.hid hv
    rw [hz]
    clear hz hv
    obtain ⟨A, c, rfl⟩ := HV.out.form
    go_wp2_with fail
    refine (id_ok w3 18 A _ c (encCrt x) rfl HV.out.rd (by have := encCrt_len HX.out (crtB HX.out HE.out); omega) HT3.out).mono ?_
    rintro en w4 ⟨hl4, rfl⟩
    have HL4 := Lib.hid (HL3.out.trans (hl4.mono HL3.out.size))
    have H4 := Lib.hid (H3.out.below hl4 H3.out.lt)
    have HY := Lib.hid (bv_sz (hashOr_len (err := 0) (sha_len (18 :: encCrt x))))
    clear hl4
    go_wp2_with (with_reducible show wpList _ _ _ (Oper.mk _ (Op.store 29 _ _) _ _ _ _ :: _) _ _; go_must (refine wpList_store_bk rfl 29 _ _ rfl r rfl (.agg (bv (hashOr 0 (sha (18 :: encCrt x)))).toArray) rfl _ _ H4.out (by rw [agg_sz HY.out]; exact info_h32) (by rw [agg_sz HY.out]; simp [bv, zer]) (by simpa [Value.cells] using bv_one (hashOr 0 (sha (18 :: encCrt x)))) ?_))
    intro w5 h5 hg5 hs5
    have HB := Lib.hid (below_grown2 HL4.out hg5 HR.out HL4.out.size)
    have H5 := Lib.hid h5
    clear h5 hg5 hs5
    go_wp2
    exact bodyPost_ct (x := .int .i64 0) rfl rfl rfl H5.out Tryd.underlying29 rfl info_h32 HY.out.symm rfl ⟨HB.out, by rw [HE.out]; rw [HI.out]⟩
end Go.Proofs.YtjdegphpalhapaaDoor
namespace Go.Proofs.YtjdegphpalhapaaDoor
set_option linter.unusedSimpArgs false
set_option linter.unusedVariables false
open Go.RowKit
set_option maxRecDepth 100000

set_option maxHeartbeats 1000000 in
theorem rNoCert_any (w : World) (x : Crt) (hx : x.ok) :
    Calls Tryd.prog 30 #[.agg x.cl.toArray] w fun e w' => e = .returned (.bool (zeroC x)) ∧ Below w.heap.size w w' := by
  obtain ⟨q1, h1⟩ : ∃ q, (x.height == 0) = q := ⟨_, rfl⟩
  obtain ⟨q2, h2⟩ : ∃ q, (x.round == 0) = q := ⟨_, rfl⟩
  obtain ⟨q3, h3⟩ : ∃ q, (x.id == zeros 32) = q := ⟨_, rfl⟩
  obtain ⟨q4, h4⟩ : ∃ q, ((x.n : Int) == 0) = q := ⟨_, rfl⟩
  have hz : zeroC x = (q1 && (q2 && (q3 && q4))) := by unfold zeroC; rw [h1, h2, h3, h4]
  have HZ := Lib.hid hz
  rw [hz]
  clear hz
  cases q1 <;> cases q2 <;> cases q3
  all_goals
    go_enter Tryd.func30, Tryd.ntmps30
    go_wp2_with (refine wpList_box_bk rfl _ _ rfl _ rfl ?_)
    intro g w1 hb hbl hg hs
    clear hg hs
    have c0 : w1.cell? ⟨g, 0, none⟩ = some (.int .u64 x.height) := hb.cell 0
    have c1 : w1.cell? ⟨g, 1, none⟩ = some (.int .i64 x.round) := hb.cell 1
    have c2 : w1.cell? ⟨g, 34, none⟩ = some (.slice x.A x.n x.c) := (hb.cell 34).trans (x.cl_34 hx.id)
    go_wp2_with (first
      | (with_reducible show wpList _ _ _ (Oper.mk _ (Op.load 29 _) _ _ _ _ :: _) _ _; refine wpList_load_part rfl 29 _ rfl g 2 32 rfl _ _ _ hb Tryd.underlying29 rfl info_hash (by have := x.cl_len hx; simp [this]) _ (x.cl_id hx.id) ?_)
      | (with_reducible show wpList _ _ _ (Oper.mk _ (Op.build _ _) _ _ _ _ :: _) _ _; refine wpList_buildv rfl 29 [] rfl [] rfl _ built_hash ?_)
      | (with_reducible show wpList _ _ _ (Oper.mk _ (Op.binOp BinOp.eql 29 _ _ _) _ _ _ _ :: _) _ _; refine wpList_eql_flat rfl 29 _ _ _ rfl (bv x.id) (bv (zeros 32)) rfl rfl 2 _ flat_hash (by omega) agg_hash guard_hash (fits_hash hx.id) (fits_hash rfl) _ (bv_iff rfl) ?_))
    go_ret
    exact ⟨by simp, hbl⟩

theorem plainHdr_val (x : Hdr) : plainHdr x = if x.chain.size < 1 ∨ 16 < x.chain.size then 41 else if height x.height ≠ 0 ∨ moment x.time ≠ 0 ∨ x.prop = 0 then 41 else 0 := by
  have e4 : field (x.prop == 0) = if x.prop = 0 then 41 else 0 := by
    by_cases h : x.prop = 0 <;> simp [field, h]
  have e1 : named x.chain.size = if x.chain.size < 1 ∨ 16 < x.chain.size then 41 else 0 := by
    unfold named field
    generalize x.chain.size = n
    by_cases h : n < 1 ∨ 16 < n
    · rw [decide_eq_true h, if_pos h]; rfl
    · rw [decide_eq_false h, if_neg h]; rfl
  have e2 : height x.height = 0 ∨ height x.height = 41 := by unfold height field; split <;> simp
  have e3 : moment x.time = 0 ∨ moment x.time = 41 := by unfold moment field; split <;> simp
  unfold plainHdr
  rw [e1, e4]
  generalize x.chain.size = n
  generalize height x.height = a at e2 ⊢
  generalize moment x.time = c at e3 ⊢
  by_cases h1 : n < 1 ∨ 16 < n
  · rw [if_pos h1, if_pos h1]; rfl
  · rw [if_neg h1, if_neg h1]
    rcases e2 with rfl | rfl <;> rcases e3 with rfl | rfl <;> by_cases h4 : x.prop = 0 <;> simp [firstErr, h4]

set_option maxHeartbeats 1000000 in
theorem rPlainHdr_any (w : World) (x : Hdr) (hx : x.ok) :
    Calls Tryd.prog 27 #[.agg x.cl.toArray] w fun e w' => e = .returned (.int .i64 (plainHdr x)) ∧ Below w.heap.size w w' := by
  obtain ⟨R, hR⟩ : ∃ R, plainHdr x = R := ⟨_, rfl⟩
  have HR := Lib.hid (hR.symm.trans (plainHdr_val x))
  have hch := hx.chain
  rw [hR]
  clear hR
  obtain ⟨q1, h1⟩ : ∃ q, (height x.height == 0) = q := ⟨_, rfl⟩
  obtain ⟨q2, h2⟩ : ∃ q, (moment x.time == 0) = q := ⟨_, rfl⟩
  obtain ⟨q3, h3⟩ : ∃ q, decide ((x.chain.size : Int) < 1) = q := ⟨_, rfl⟩
  have HQ1 := Lib.hid h1
  have HQ2 := Lib.hid h2
  have HQ3 := Lib.hid h3
  cases q1 <;> cases q2 <;> cases q3
  all_goals
    go_enter Tryd.func27, Tryd.ntmps27
    go_wp2_with (refine wpList_box_bk rfl _ _ rfl _ rfl ?_)
    intro g w1 hb hbl hg hs
    clear hg hs
    have c0 : w1.cell? ⟨g, 0, none⟩ = some (.string x.chain) := hb.cell 0
    have c1 : w1.cell? ⟨g, 1, none⟩ = some (.int .u64 x.height) := hb.cell 1
    have c2 : w1.cell? ⟨g, 2, none⟩ = some (.int .u64 x.time) := hb.cell 2
    have c3 : w1.cell? ⟨g, 227, none⟩ = some (.int .u64 x.prop) := (hb.cell 227).trans (x.cl_prop hx)
    have HBL := Lib.hid hbl
    clear hbl
    go_wp2_with (first
      | (go_at_call 57; refine (rHeight_any _ _).mono ?_; rintro e w2 ⟨rfl, rfl⟩)
      | (go_at_call 58; refine (rTime_any _ _).mono ?_; rintro e w2 ⟨rfl, rfl⟩))
    all_goals
      go_ret
      refine ⟨ret_i64 ?_, HBL.out⟩
      rw [HR.out]
      have e1 := HQ1.out
      have e2 := HQ2.out
      have e3 := HQ3.out
      simp at e1 e2 e3
      first
        | rw [if_pos (by omega)]
        | (rw [if_neg (by omega)]; simp_all)
end Go.Proofs.YtjdegphpalhapaaDoor
namespace Go.Proofs.YtjdegphpalhapaaDoor
set_option linter.unusedSimpArgs false
set_option linter.unusedVariables false
open Go.RowKit
set_option maxRecDepth 100000

/-- a slice value that reads as these bytes -/
def Part (w : World) (v : Value) (l : List UInt8) : Prop := ∃ A c, v = .slice A l.length c ∧ Rd w A (bv l)
theorem Bs.part {w : World} {B : Nat} {v : Value} {l : List UInt8} (h : Bs w B v l) : Part w v l := by
  obtain ⟨A, c, rfl⟩ := h.form
  exact ⟨A, c, rfl, h.rd⟩
theorem Part.below {w w' : World} {v : Value} {l : List UInt8} (h : Part w v l) (hb : Below w.heap.size w w') : Part w' v l := by
  obtain ⟨A, c, rfl, hr⟩ := h
  exact ⟨A, c, rfl, hr.below hb⟩
def Parts (w : World) (ps : List (Value × List UInt8)) : Prop := ∀ p ∈ ps, Part w p.1 p.2
def joined (ps : List (Value × List UInt8)) : List UInt8 := ps.flatMap (·.2)
theorem joined_take {ps : List (Value × List UInt8)} {k : Nat} (h : k < ps.length) : joined (ps.take (k + 1)) = joined (ps.take k) ++ ps[k].2 := by
  unfold joined
  rw [List.take_succ_eq_append_getElem h, List.flatMap_append]
  simp
theorem joined_le {ps : List (Value × List UInt8)} (k : Nat) : (joined (ps.take k)).length ≤ (joined ps).length := by
  have e : joined ps = joined (ps.take k) ++ joined (ps.drop k) := by
    unfold joined
    rw [← List.flatMap_append, List.take_append_drop]
  rw [e, List.length_append]
  omega

set_option maxHeartbeats 1000000 in
theorem join_any (w : World) (A : Option Addr) (n c : Nat) (ps : List (Value × List UInt8)) (hr : Rd w A (ps.map (·.1))) (hn : ps.length = n) (hp : Parts w ps) (hl : (joined ps).length ≤ reach47) (hm : n ≤ 1000000) :
    Calls Tryd.prog 54 #[.slice A n c] w fun e w' => ∃ v, e = .returned v ∧ Bs w' w.heap.size v (joined ps) ∧ Below w.heap.size w w' := by
  have Hn := Lib.hid hn; clear hn
  go_enter Tryd.func54, Tryd.ntmps54
  go_wp2
  go_loopw [3, 4] (fun b i wr => ∃ k : Nat, k ≤ n ∧ i = .int .i64 k ∧ Bs wr w.heap.size b (joined (ps.take k)) ∧ Below w.heap.size w wr) (fun _ i _ => n - (intOf i).toNat)
  case atStart => exact ⟨0, Nat.zero_le _, rfl, Bs.nil _ _, Below.refl _ _⟩
  case round =>
    obtain ⟨k, hk, rfl, hown, hbl⟩ := hrel
    by_cases hlt : k < n
    · have hkl : k < ps.length := by rw [Hn.out]; exact hlt
      obtain ⟨ad, hA, hcell⟩ := rd_at (hr.below hbl) (j := k) (u := ps[k].1) (by simp [hkl])
      obtain ⟨A1, c1, hv, hr1⟩ := (hp ps[k] (List.getElem_mem hkl)).below hbl
      rw [hv] at hcell
      have hj := joined_take hkl
      have hle := joined_le (ps := ps) (k + 1)
      rw [hj, List.length_append] at hle
      have hlen : (joined (ps.take k)).length + ps[k].2.length ≤ reach47 + 64 := by omega
      have Hj := Lib.hid hj; clear hj
      clear hv
      subst hA
      have hs := hbl.size
      go_wp2_with (at_builtin; go_must (refine wpList_app rfl _ _ rfl w.heap.size _ _ rfl hown A1 _ c1 ps[k].2 rfl rfl hr1 hlen hs ?_); intro A' c' w1 hown1 hg1 hat1)
      refine ⟨⟨k + 1, by omega, by go_num, by rw [Hj.out]; exact hown1, below_app hbl hown hg1 hs⟩, by simp [intOf]; omega⟩
    · have hk' : k = n := by omega
      have Hk := Lib.hid hk'; clear hk'
      go_wp2
      go_ret
      refine ⟨_, rfl, ?_, hbl⟩
      rw [List.take_of_length_le (by rw [Hn.out, Hk.out]; exact Nat.le_refl _)] at hown
      exact hown
end Go.Proofs.YtjdegphpalhapaaDoor
namespace Go.Proofs.YtjdegphpalhapaaDoor
set_option linter.unusedSimpArgs false
set_option linter.unusedVariables false
open Go.RowKit

section
variable {P : Program} {ops : Array Oper} {ks : List Known} {w w0 : World} {a0 a : Act} {i e : Nat} {d t : Tmp} {ds : List (Nat × Tmp)} {its : List (Tmp × List (Nat × Tmp))} {body : Act → Prop}
theorem FreeSteps.nil : FreeSteps P ops ks w0 a0 i [] := trivial
theorem FreeSteps.cons (h1 : ∀ w, Below w0.heap.size w0 w → FreeStep P ops ks w a0 i t ds a0) (h2 : FreeSteps P ops ks w0 a0 (i + 1) its) : FreeSteps P ops ks w0 a0 i ((t, ds) :: its) := ⟨h1, h2⟩
theorem FreeStep.is {x : Value} (hk : kat ks e = Is x) (h : FreeStep P ops ks w a0 i d ds (a.put (some t) x)) : FreeStep P ops ks w a0 i d ((e, t) :: ds) a := fun v hv => by
  rw [hk] at hv; cases hv; exact h
theorem FreeStep.dep {K : Known} (hk : kat ks e = K) (h : ∀ v, K v w → FreeStep P ops ks w a0 i d ds (a.put (some t) v)) : FreeStep P ops ks w a0 i d ((e, t) :: ds) a := fun v hv => h v (hk ▸ hv)
theorem FreeEnd.is {x : Value} (hk : kat ks i = Is x) (h : FreeEnd ks w body (i + 1) its (a.put (some t) x)) : FreeEnd ks w body i ((t, ds) :: its) a := fun v hv => by
  rw [hk] at hv; cases hv; exact h
theorem FreeEnd.cons {K : Known} (hk : kat ks i = K) (h : ∀ v, K v w → FreeEnd ks w body (i + 1) its (a.put (some t) v)) : FreeEnd ks w body i ((t, ds) :: its) a := fun v hv => h v (hk ▸ hv)
theorem FreeEnd.nil (h : body a) : FreeEnd ks w body i [] a := h
theorem FreeStep.op {o : Oper} {K : Known} (ho : ops[i]? = some o) (hk : kat ks i = K) (h : wpList P ops (QStep a0 d K w) [o] a w) : FreeStep P ops ks w a0 i d [] a := ⟨o, ho, hk ▸ h⟩
theorem FreeStep.det {o : Oper} {x : Value} (ho : ops[i]? = some o) (hg : o.guard = none) (hd : o.dst = some d) (hs : decide (d < a.tmps.size) = true) (hf : a.defers = a0.defers) (hk : kat ks i = Is x)
    (hrun : (execOp a.eval o).run P w = .ok (.value x) w) : FreeStep P ops ks w a0 i d [] a := by
  refine FreeStep.op ho hk (wpList_plain hg fun K hK => ?_)
  unfold Oper.wp
  rw [hrun]
  refine hK _ _ ?_
  show QStep _ _ _ _ _ _ _
  refine ⟨by rw [hd]; exact hf, Below.refl _ _, ?_⟩
  rw [hd]
  exact put_get (by simpa using hs)
theorem FreeStep.load_part {o : Oper} {x : Value} (ty : TypeId) (p : Operand) (ho : ops[i]? = some o) (hop : o.op = .load ty p) (hg : o.guard = none) (hd : o.dst = some d) (hs : decide (d < a.tmps.size) = true) (hf : a.defers = a0.defers) (hk : kat ks i = Is x)
    (g off n : Nat) (hx : a.eval p = .pointer (some ⟨g, off, none⟩)) (cs : Array Value) (bt : TypeId) (td : TypeDesc) (hb : Bk w g cs bt) (hu : P.underlying ty = some td) (hda : aggD td = true) (hi : (P.info? ty).map (·.size) = some n) (hn : off + n ≤ cs.size)
    (v : Array Value) (hv : cs.extract off (off + n) = v) (hxv : x = .agg v) : FreeStep P ops ks w a0 i d [] a := by
  refine FreeStep.det ho hg hd hs hf hk ?_
  unfold execOp
  simp only [hop, hx, Instr.loadAt, Instr.sureAddr, Sem.run_bind, Sem.run_pure, Result.andThen_ok, run_loadVar_part hb hu hda hi hn, hv, hxv]
/-- the step is a call of a Go function -/
theorem FreeStep.call {o : Oper} {K : Known} {f : FuncId} {vs : Array Value} {post : Ending → World → Prop} (ho : ops[i]? = some o) (hg : o.guard = none) (hd : o.dst = some d) (hs : decide (d < a.tmps.size) = true) (hf : a.defers = a0.defers) (hk : kat ks i = K)
    (hrun : (execOp a.eval o).run P w = .ok (.enter f vs) w) (hc : Calls P f vs w post) (hp : ∀ e w', post e w' → ∃ v, e = .returned v ∧ Below w.heap.size w w' ∧ K v w') : FreeStep P ops ks w a0 i d [] a := by
  refine FreeStep.op ho hk (wpList_plain hg fun K' hK => ?_)
  unfold Oper.wp
  rw [hrun]
  refine Calls.mono hc fun e w' he => ?_
  obtain ⟨v, rfl, hb, hv⟩ := hp e w' he
  refine hK _ _ ?_
  show QStep _ _ _ _ _ _ _
  refine ⟨by rw [hd]; exact hf, hb, ?_⟩
  rw [hd, put_get (by simpa using hs)]
  exact hv
end

theorem QStep.mk {a0 a' : Act} {d : Tmp} {K : Known} {w w' : World} (h1 : a'.defers = a0.defers) (h2 : Below w.heap.size w w') (h3 : K (a'.tmps.getD d undef) w') : QStep a0 d K w .normal a' w' := ⟨h1, h2, h3⟩
def PartK (l : List UInt8) : Known := fun v w => Part w v l
theorem PartK.steady (l : List UInt8) : Steady (PartK l) := fun _ _ _ h hb => Part.below h hb
end Go.Proofs.YtjdegphpalhapaaDoor

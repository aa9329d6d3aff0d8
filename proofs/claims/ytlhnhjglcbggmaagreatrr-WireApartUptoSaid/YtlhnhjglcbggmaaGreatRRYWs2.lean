/-
  The law's remainder and its encode: the form of a thing of any kind. Conditions: each number fits its kind; the lists lie in the world; a State's lists of at most 10^9 elements.
-/
import Derived.Test.YtlhnhjglcbggmaaGreatRRY42
import Derived.Test.YtlhnhjglcbggmaaGreatRRY37
import Derived.Test.YtlhnhjglcbggmaaGreatRRYSl3
namespace Go.Proofs.YtlhnhjglcbggmaaGreatRR
set_option linter.unusedSimpArgs false
set_option linter.unusedVariables false
open Go.RowKit
set_option maxRecDepth 100000

theorem mod10_any (w : World) (j : Int) (hj : I64 j) :
  Calls Tryz.prog 9 #[.int .i64 j, .int .i64 10] w fun e w' => e = .returned (.int .i64 (modt j)) ∧ w = w' := by
 have ht := tmod10 j
 by_cases h : j.tmod 10 < 0
 ·have e : j.tmod 10 + 10 = modt j := by
   unfold modt
   rw [if_pos h]
  have E := Lib.hid e
  clear e
  go_enter Tryz.func9, Tryz.ntmps9
  go_wp2
  go_ret
  exact ⟨congrArg (fun v => Ending.returned (.int .i64 v)) E.out, rfl⟩
 ·have e : j.tmod 10 = modt j := by
   unfold modt
   rw [if_neg h]
  rw [← e]
  clear e
  go_enter Tryz.func9, Tryz.ntmps9
  go_wp2
  go_ret
  exact ⟨rfl, rfl⟩
theorem Crt.at.below {x : Crt} {w w' : World} (h : x.at w) (hb : Below w.heap.size w w') : x.at w' := Rd.below (xs := x.ms.flatMap Mk.cl) h hb
theorem Thg.at.below {x : Thg} {w w' : World} (h : x.at w) (hb : Below w.heap.size w w') : x.at w' := ⟨Crt.at.below h.crt hb, h.blk.below hb, Prts.at.below h.mg hb, Prts.at.below h.ip hb, h.st.below hb⟩
theorem Thg.ex_tx (x : Thg) (h : x.ok) : x.cl.toArray.extract 1 (1 + 22) = x.tx.cl.toArray := seg_ex (A := [.int .i64 x.which]) (C := x.vote.cl ++ (x.prop.cl ++ (x.crt.cl ++ (x.ev.cl ++ (x.hd.cl ++ (x.blk.cl ++ (x.mg.cl ++ (x.ip.cl ++ (x.st.cl))))))))) (by simp [Thg.cl]) (by simp []) (x.tx.cl_len h.tx)
theorem infoT_tx : (Tryz.prog.info? 27).map (·.size) = some 22 := by kernel_rfl
theorem Thg.ex_vote (x : Thg) (h : x.ok) : x.cl.toArray.extract 23 (23 + 53) = x.vote.cl.toArray := seg_ex (A := [.int .i64 x.which] ++ x.tx.cl) (C := x.prop.cl ++ (x.crt.cl ++ (x.ev.cl ++ (x.hd.cl ++ (x.blk.cl ++ (x.mg.cl ++ (x.ip.cl ++ (x.st.cl)))))))) (by simp [Thg.cl]) (by simp [x.tx.cl_len h.tx]) (x.vote.cl_len h.vote)
theorem infoT_vote : (Tryz.prog.info? 31).map (·.size) = some 53 := by kernel_rfl
theorem Thg.ex_prop (x : Thg) (h : x.ok) : x.cl.toArray.extract 76 (76 + 52) = x.prop.cl.toArray := seg_ex (A := [.int .i64 x.which] ++ x.tx.cl ++ x.vote.cl) (C := x.crt.cl ++ (x.ev.cl ++ (x.hd.cl ++ (x.blk.cl ++ (x.mg.cl ++ (x.ip.cl ++ (x.st.cl))))))) (by simp [Thg.cl]) (by simp [x.tx.cl_len h.tx, x.vote.cl_len h.vote]) (x.prop.cl_len h.prop)
theorem infoT_prop : (Tryz.prog.info? 33).map (·.size) = some 52 := by kernel_rfl
theorem Thg.ex_crt (x : Thg) (h : x.ok) : x.cl.toArray.extract 128 (128 + 35) = x.crt.cl.toArray := seg_ex (A := [.int .i64 x.which] ++ x.tx.cl ++ x.vote.cl ++ x.prop.cl) (C := x.ev.cl ++ (x.hd.cl ++ (x.blk.cl ++ (x.mg.cl ++ (x.ip.cl ++ (x.st.cl)))))) (by simp [Thg.cl]) (by simp [x.tx.cl_len h.tx, x.vote.cl_len h.vote, x.prop.cl_len h.prop]) (x.crt.cl_len h.crt)
theorem infoT_crt : (Tryz.prog.info? 36).map (·.size) = some 35 := by kernel_rfl
theorem Thg.ex_ev (x : Thg) (h : x.ok) : x.cl.toArray.extract 163 (163 + 106) = x.ev.cl.toArray := seg_ex (A := [.int .i64 x.which] ++ x.tx.cl ++ x.vote.cl ++ x.prop.cl ++ x.crt.cl) (C := x.hd.cl ++ (x.blk.cl ++ (x.mg.cl ++ (x.ip.cl ++ (x.st.cl))))) (by simp [Thg.cl]) (by simp [x.tx.cl_len h.tx, x.vote.cl_len h.vote, x.prop.cl_len h.prop, x.crt.cl_len h.crt]) (x.ev.cl_len h.ev)
theorem infoT_ev : (Tryz.prog.info? 38).map (·.size) = some 106 := by kernel_rfl
theorem Thg.ex_hd (x : Thg) (h : x.ok) : x.cl.toArray.extract 269 (269 + 228) = x.hd.cl.toArray := seg_ex (A := [.int .i64 x.which] ++ x.tx.cl ++ x.vote.cl ++ x.prop.cl ++ x.crt.cl ++ x.ev.cl) (C := x.blk.cl ++ (x.mg.cl ++ (x.ip.cl ++ (x.st.cl)))) (by simp [Thg.cl]) (by simp [x.tx.cl_len h.tx, x.vote.cl_len h.vote, x.prop.cl_len h.prop, x.crt.cl_len h.crt, x.ev.cl_len h.ev]) (x.hd.cl_len h.hd)
theorem infoT_hd : (Tryz.prog.info? 40).map (·.size) = some 228 := by kernel_rfl
theorem Thg.ex_blk (x : Thg) (h : x.ok) : x.cl.toArray.extract 497 (497 + 265) = x.blk.cl.toArray := seg_ex (A := [.int .i64 x.which] ++ x.tx.cl ++ x.vote.cl ++ x.prop.cl ++ x.crt.cl ++ x.ev.cl ++ x.hd.cl) (C := x.mg.cl ++ (x.ip.cl ++ (x.st.cl))) (by simp [Thg.cl]) (by simp [x.tx.cl_len h.tx, x.vote.cl_len h.vote, x.prop.cl_len h.prop, x.crt.cl_len h.crt, x.ev.cl_len h.ev, x.hd.cl_len h.hd]) (x.blk.len h.blk)
theorem infoT_blk : (Tryz.prog.info? 44).map (·.size) = some 265 := by kernel_rfl
theorem Thg.ex_mg (x : Thg) (h : x.ok) : x.cl.toArray.extract 762 (762 + 484) = x.mg.cl.toArray := seg_ex (A := [.int .i64 x.which] ++ x.tx.cl ++ x.vote.cl ++ x.prop.cl ++ x.crt.cl ++ x.ev.cl ++ x.hd.cl ++ x.blk.cl) (C := x.ip.cl ++ (x.st.cl)) (by simp [Thg.cl]) (by simp [x.tx.cl_len h.tx, x.vote.cl_len h.vote, x.prop.cl_len h.prop, x.crt.cl_len h.crt, x.ev.cl_len h.ev, x.hd.cl_len h.hd, x.blk.len h.blk]) (x.mg.cl_len h.mg)
theorem infoT_mg : (Tryz.prog.info? 47).map (·.size) = some 484 := by kernel_rfl
theorem Thg.ex_ip (x : Thg) (h : x.ok) : x.cl.toArray.extract 1246 (1246 + 323) = x.ip.cl.toArray := seg_ex (A := [.int .i64 x.which] ++ x.tx.cl ++ x.vote.cl ++ x.prop.cl ++ x.crt.cl ++ x.ev.cl ++ x.hd.cl ++ x.blk.cl ++ x.mg.cl) (C := x.st.cl) (by simp [Thg.cl]) (by simp [x.tx.cl_len h.tx, x.vote.cl_len h.vote, x.prop.cl_len h.prop, x.crt.cl_len h.crt, x.ev.cl_len h.ev, x.hd.cl_len h.hd, x.blk.len h.blk, x.mg.cl_len h.mg]) (x.ip.cl_len h.ip)
theorem infoT_ip : (Tryz.prog.info? 49).map (·.size) = some 323 := by kernel_rfl
theorem Thg.ex_st (x : Thg) (h : x.ok) : x.cl.toArray.extract 1569 (1569 + 55) = x.st.cl.toArray := seg_ex (A := [.int .i64 x.which] ++ x.tx.cl ++ x.vote.cl ++ x.prop.cl ++ x.crt.cl ++ x.ev.cl ++ x.hd.cl ++ x.blk.cl ++ x.mg.cl ++ x.ip.cl) (C := []) (by simp [Thg.cl]) (by simp [x.tx.cl_len h.tx, x.vote.cl_len h.vote, x.prop.cl_len h.prop, x.crt.cl_len h.crt, x.ev.cl_len h.ev, x.hd.cl_len h.hd, x.blk.len h.blk, x.mg.cl_len h.mg, x.ip.cl_len h.ip]) (x.st.len h.st.last)
theorem infoT_st : (Tryz.prog.info? 62).map (·.size) = some 55 := by kernel_rfl

set_option maxHeartbeats 2000000 in
theorem encodeT_0 (w : World) (x : Thg) (hx : x.ok) (hat : x.at w) (hli : x.st.few) (hk : modt x.which = 0) :
  Calls Tryz.prog 6 #[.agg x.cl.toArray] w (BytesRes w (x.plainK 0) (x.formK 0)) := by
 have HX := Lib.hid hx
 have HAT := Lib.hid hat
 have HLI := Lib.hid hli
 have HK := Lib.hid hk
 have HL := Lib.hid (x.cl_len hx)
 clear hat hli hk
 go_enter Tryz.func6, Tryz.ntmps6
 go_wp2_with (with_reducible show wpList _ _ _ (Oper.mk _ (Op.box _ _) _ _ _ _ :: _) _ _; refine wpList_box_bk rfl _ _ rfl _ rfl ?_)
 intro bx w0 hkb hbl hg hs
 clear hg hs hx
 have HB := Lib.hid hbl
 have HBX := Lib.hid (bk_eqT (cs' := x.cl.toArray) hkb rfl)
 have c0 : w0.cell? ⟨bx, 0, none⟩ = some (.int .i64 x.which) := HBX.out.cell 0
 clear hkb hbl
 go_wp2_with fail
 refine (mod10_any w0 x.which HX.out.which).mono ?_
 rintro e w1 ⟨rfl, rfl⟩
 rw [HK.out]
 clear c0
 go_wp2_with (with_reducible show wpList _ _ _ (Oper.mk (some 19) (Op.load _ _) _ _ _ _ :: _) _ _; go_must (refine wpList_load_part rfl 27 _ rfl bx 1 22 rfl _ _ _ HBX.out Tryz.underlying27 rfl infoT_tx (by simp [HL.out]) _ (x.ex_tx HX.out) ?_))
 refine (EncodeTx_any w0 x.tx HX.out.tx).mono ?_
 rintro e w2 ⟨hb2, hr⟩
 have HB2 := Lib.hid (HB.out.trans (hb2.mono HB.out.size))
 rcases hr with ⟨hne, rfl⟩ | ⟨he, v, rfl, hbs⟩
 ·obtain ⟨E, hE⟩ : ∃ E, x.plainK 0 = E := ⟨_, rfl⟩
  have HNE := Lib.hid (show x.plainK 0 ≠ 0 from hne)
  rw [show plainTx x.tx = E from hE]
  have HE := Lib.hid hE
  clear hne hE hb2
  go_wp2_with (go_at_call 12; go_must (refine (lawNum_any _ _).mono ?_); rintro e wx ⟨rfl, rfl⟩)
  go_ret2
  exact ⟨HB2.out, .inl ⟨HNE.out, by rw [HE.out]; rfl⟩⟩
 ·obtain ⟨A, c, hv⟩ := Bs.form hbs
  obtain ⟨n, hn⟩ : ∃ n, (formTx x.tx).length = n := ⟨_, rfl⟩
  rw [hn] at hv
  subst hv
  have HBR := Lib.hid hbs
  have HE := Lib.hid (show x.plainK 0 = 0 from he)
  clear he hbs hb2 hn
  go_wp2_with (go_at_call 12; go_must (refine (lawNum_any _ _).mono ?_); rintro e wx ⟨rfl, rfl⟩)
  go_ret2
  exact ⟨HB2.out, .inr ⟨HE.out, _, rfl, Bs.mono HBR.out HB.out.size⟩⟩

set_option maxHeartbeats 2000000 in
theorem encodeT_1 (w : World) (x : Thg) (hx : x.ok) (hat : x.at w) (hli : x.st.few) (hk : modt x.which = 1) :
  Calls Tryz.prog 6 #[.agg x.cl.toArray] w (BytesRes w (x.plainK 1) (x.formK 1)) := by
 have HX := Lib.hid hx
 have HAT := Lib.hid hat
 have HLI := Lib.hid hli
 have HK := Lib.hid hk
 have HL := Lib.hid (x.cl_len hx)
 clear hat hli hk
 go_enter Tryz.func6, Tryz.ntmps6
 go_wp2_with (with_reducible show wpList _ _ _ (Oper.mk _ (Op.box _ _) _ _ _ _ :: _) _ _; refine wpList_box_bk rfl _ _ rfl _ rfl ?_)
 intro bx w0 hkb hbl hg hs
 clear hg hs hx
 have HB := Lib.hid hbl
 have HBX := Lib.hid (bk_eqT (cs' := x.cl.toArray) hkb rfl)
 have c0 : w0.cell? ⟨bx, 0, none⟩ = some (.int .i64 x.which) := HBX.out.cell 0
 clear hkb hbl
 go_wp2_with fail
 refine (mod10_any w0 x.which HX.out.which).mono ?_
 rintro e w1 ⟨rfl, rfl⟩
 rw [HK.out]
 clear c0
 go_wp2_with (with_reducible show wpList _ _ _ (Oper.mk (some 27) (Op.load _ _) _ _ _ _ :: _) _ _; go_must (refine wpList_load_part rfl 31 _ rfl bx 23 53 rfl _ _ _ HBX.out Tryz.underlying31 rfl infoT_vote (by simp [HL.out]) _ (x.ex_vote HX.out) ?_))
 refine (EncodeVote_any w0 x.vote HX.out.vote).mono ?_
 rintro e w2 ⟨hb2, hr⟩
 have HB2 := Lib.hid (HB.out.trans (hb2.mono HB.out.size))
 rcases hr with ⟨hne, rfl⟩ | ⟨he, v, rfl, hbs⟩
 ·obtain ⟨E, hE⟩ : ∃ E, x.plainK 1 = E := ⟨_, rfl⟩
  have HNE := Lib.hid (show x.plainK 1 ≠ 0 from hne)
  rw [show plainVote x.vote = E from hE]
  have HE := Lib.hid hE
  clear hne hE hb2
  go_wp2_with (go_at_call 12; go_must (refine (lawNum_any _ _).mono ?_); rintro e wx ⟨rfl, rfl⟩)
  go_ret2
  exact ⟨HB2.out, .inl ⟨HNE.out, by rw [HE.out]; rfl⟩⟩
 ·obtain ⟨A, c, hv⟩ := Bs.form hbs
  obtain ⟨n, hn⟩ : ∃ n, (formVote x.vote).length = n := ⟨_, rfl⟩
  rw [hn] at hv
  subst hv
  have HBR := Lib.hid hbs
  have HE := Lib.hid (show x.plainK 1 = 0 from he)
  clear he hbs hb2 hn
  go_wp2_with (go_at_call 12; go_must (refine (lawNum_any _ _).mono ?_); rintro e wx ⟨rfl, rfl⟩)
  go_ret2
  exact ⟨HB2.out, .inr ⟨HE.out, _, rfl, Bs.mono HBR.out HB.out.size⟩⟩

set_option maxHeartbeats 2000000 in
theorem encodeT_2 (w : World) (x : Thg) (hx : x.ok) (hat : x.at w) (hli : x.st.few) (hk : modt x.which = 2) :
  Calls Tryz.prog 6 #[.agg x.cl.toArray] w (BytesRes w (x.plainK 2) (x.formK 2)) := by
 have HX := Lib.hid hx
 have HAT := Lib.hid hat
 have HLI := Lib.hid hli
 have HK := Lib.hid hk
 have HL := Lib.hid (x.cl_len hx)
 clear hat hli hk
 go_enter Tryz.func6, Tryz.ntmps6
 go_wp2_with (with_reducible show wpList _ _ _ (Oper.mk _ (Op.box _ _) _ _ _ _ :: _) _ _; refine wpList_box_bk rfl _ _ rfl _ rfl ?_)
 intro bx w0 hkb hbl hg hs
 clear hg hs hx
 have HB := Lib.hid hbl
 have HBX := Lib.hid (bk_eqT (cs' := x.cl.toArray) hkb rfl)
 have c0 : w0.cell? ⟨bx, 0, none⟩ = some (.int .i64 x.which) := HBX.out.cell 0
 clear hkb hbl
 go_wp2_with fail
 refine (mod10_any w0 x.which HX.out.which).mono ?_
 rintro e w1 ⟨rfl, rfl⟩
 rw [HK.out]
 clear c0
 go_wp2_with (with_reducible show wpList _ _ _ (Oper.mk (some 35) (Op.load _ _) _ _ _ _ :: _) _ _; go_must (refine wpList_load_part rfl 33 _ rfl bx 76 52 rfl _ _ _ HBX.out Tryz.underlying33 rfl infoT_prop (by simp [HL.out]) _ (x.ex_prop HX.out) ?_))
 refine (EncodeProposal_any w0 x.prop HX.out.prop).mono ?_
 rintro e w2 ⟨hb2, hr⟩
 have HB2 := Lib.hid (HB.out.trans (hb2.mono HB.out.size))
 rcases hr with ⟨hne, rfl⟩ | ⟨he, v, rfl, hbs⟩
 ·obtain ⟨E, hE⟩ : ∃ E, x.plainK 2 = E := ⟨_, rfl⟩
  have HNE := Lib.hid (show x.plainK 2 ≠ 0 from hne)
  rw [show plainProposal x.prop = E from hE]
  have HE := Lib.hid hE
  clear hne hE hb2
  go_wp2_with (go_at_call 12; go_must (refine (lawNum_any _ _).mono ?_); rintro e wx ⟨rfl, rfl⟩)
  go_ret2
  exact ⟨HB2.out, .inl ⟨HNE.out, by rw [HE.out]; rfl⟩⟩
 ·obtain ⟨A, c, hv⟩ := Bs.form hbs
  obtain ⟨n, hn⟩ : ∃ n, (formProposal x.prop).length = n := ⟨_, rfl⟩
  rw [hn] at hv
  subst hv
  have HBR := Lib.hid hbs
  have HE := Lib.hid (show x.plainK 2 = 0 from he)
  clear he hbs hb2 hn
  go_wp2_with (go_at_call 12; go_must (refine (lawNum_any _ _).mono ?_); rintro e wx ⟨rfl, rfl⟩)
  go_ret2
  exact ⟨HB2.out, .inr ⟨HE.out, _, rfl, Bs.mono HBR.out HB.out.size⟩⟩

set_option maxHeartbeats 2000000 in
theorem encodeT_3 (w : World) (x : Thg) (hx : x.ok) (hat : x.at w) (hli : x.st.few) (hk : modt x.which = 3) :
  Calls Tryz.prog 6 #[.agg x.cl.toArray] w (BytesRes w (x.plainK 3) (x.formK 3)) := by
 have HX := Lib.hid hx
 have HAT := Lib.hid hat
 have HLI := Lib.hid hli
 have HK := Lib.hid hk
 have HL := Lib.hid (x.cl_len hx)
 clear hat hli hk
 go_enter Tryz.func6, Tryz.ntmps6
 go_wp2_with (with_reducible show wpList _ _ _ (Oper.mk _ (Op.box _ _) _ _ _ _ :: _) _ _; refine wpList_box_bk rfl _ _ rfl _ rfl ?_)
 intro bx w0 hkb hbl hg hs
 clear hg hs hx
 have HB := Lib.hid hbl
 have HBX := Lib.hid (bk_eqT (cs' := x.cl.toArray) hkb rfl)
 have c0 : w0.cell? ⟨bx, 0, none⟩ = some (.int .i64 x.which) := HBX.out.cell 0
 clear hkb hbl
 go_wp2_with fail
 refine (mod10_any w0 x.which HX.out.which).mono ?_
 rintro e w1 ⟨rfl, rfl⟩
 rw [HK.out]
 clear c0
 go_wp2_with (with_reducible show wpList _ _ _ (Oper.mk (some 43) (Op.load _ _) _ _ _ _ :: _) _ _; go_must (refine wpList_load_part rfl 36 _ rfl bx 128 35 rfl _ _ _ HBX.out Tryz.underlying36 rfl infoT_crt (by simp [HL.out]) _ (x.ex_crt HX.out) ?_))
 refine (EncodeCert_any w0 x.crt HX.out.crt (HAT.out.below HB.out).crt).mono ?_
 rintro e w2 ⟨hb2, hr⟩
 have HB2 := Lib.hid (HB.out.trans (hb2.mono HB.out.size))
 rcases hr with ⟨hne, rfl⟩ | ⟨he, v, rfl, hbs⟩
 ·obtain ⟨E, hE⟩ : ∃ E, x.plainK 3 = E := ⟨_, rfl⟩
  have HNE := Lib.hid (show x.plainK 3 ≠ 0 from hne)
  rw [show plainCrt x.crt = E from hE]
  have HE := Lib.hid hE
  clear hne hE hb2
  go_wp2_with (go_at_call 12; go_must (refine (lawNum_any _ _).mono ?_); rintro e wx ⟨rfl, rfl⟩)
  go_ret2
  exact ⟨HB2.out, .inl ⟨HNE.out, by rw [HE.out]; rfl⟩⟩
 ·obtain ⟨A, c, hv⟩ := Bs.form hbs
  obtain ⟨n, hn⟩ : ∃ n, (encCrt x.crt).length = n := ⟨_, rfl⟩
  rw [hn] at hv
  subst hv
  have HBR := Lib.hid hbs
  have HE := Lib.hid (show x.plainK 3 = 0 from he)
  clear he hbs hb2 hn
  go_wp2_with (go_at_call 12; go_must (refine (lawNum_any _ _).mono ?_); rintro e wx ⟨rfl, rfl⟩)
  go_ret2
  exact ⟨HB2.out, .inr ⟨HE.out, _, rfl, Bs.mono HBR.out HB.out.size⟩⟩

set_option maxHeartbeats 2000000 in
theorem encodeT_4 (w : World) (x : Thg) (hx : x.ok) (hat : x.at w) (hli : x.st.few) (hk : modt x.which = 4) :
  Calls Tryz.prog 6 #[.agg x.cl.toArray] w (BytesRes w (x.plainK 4) (x.formK 4)) := by
 have HX := Lib.hid hx
 have HAT := Lib.hid hat
 have HLI := Lib.hid hli
 have HK := Lib.hid hk
 have HL := Lib.hid (x.cl_len hx)
 clear hat hli hk
 go_enter Tryz.func6, Tryz.ntmps6
 go_wp2_with (with_reducible show wpList _ _ _ (Oper.mk _ (Op.box _ _) _ _ _ _ :: _) _ _; refine wpList_box_bk rfl _ _ rfl _ rfl ?_)
 intro bx w0 hkb hbl hg hs
 clear hg hs hx
 have HB := Lib.hid hbl
 have HBX := Lib.hid (bk_eqT (cs' := x.cl.toArray) hkb rfl)
 have c0 : w0.cell? ⟨bx, 0, none⟩ = some (.int .i64 x.which) := HBX.out.cell 0
 clear hkb hbl
 go_wp2_with fail
 refine (mod10_any w0 x.which HX.out.which).mono ?_
 rintro e w1 ⟨rfl, rfl⟩
 rw [HK.out]
 clear c0
 go_wp2_with (with_reducible show wpList _ _ _ (Oper.mk (some 51) (Op.load _ _) _ _ _ _ :: _) _ _; go_must (refine wpList_load_part rfl 38 _ rfl bx 163 106 rfl _ _ _ HBX.out Tryz.underlying38 rfl infoT_ev (by simp [HL.out]) _ (x.ex_ev HX.out) ?_))
 refine (EncodeEvidence_any w0 x.ev HX.out.ev).mono ?_
 rintro e w2 ⟨hb2, hr⟩
 have HB2 := Lib.hid (HB.out.trans (hb2.mono HB.out.size))
 rcases hr with ⟨hne, rfl⟩ | ⟨he, v, rfl, hbs⟩
 ·obtain ⟨E, hE⟩ : ∃ E, x.plainK 4 = E := ⟨_, rfl⟩
  have HNE := Lib.hid (show x.plainK 4 ≠ 0 from hne)
  rw [show plainEv x.ev = E from hE]
  have HE := Lib.hid hE
  clear hne hE hb2
  go_wp2_with (go_at_call 12; go_must (refine (lawNum_any _ _).mono ?_); rintro e wx ⟨rfl, rfl⟩)
  go_ret2
  exact ⟨HB2.out, .inl ⟨HNE.out, by rw [HE.out]; rfl⟩⟩
 ·obtain ⟨A, c, hv⟩ := Bs.form hbs
  obtain ⟨n, hn⟩ : ∃ n, (formEv x.ev).length = n := ⟨_, rfl⟩
  rw [hn] at hv
  subst hv
  have HBR := Lib.hid hbs
  have HE := Lib.hid (show x.plainK 4 = 0 from he)
  clear he hbs hb2 hn
  go_wp2_with (go_at_call 12; go_must (refine (lawNum_any _ _).mono ?_); rintro e wx ⟨rfl, rfl⟩)
  go_ret2
  exact ⟨HB2.out, .inr ⟨HE.out, _, rfl, Bs.mono HBR.out HB.out.size⟩⟩

set_option maxHeartbeats 2000000 in
theorem encodeT_5 (w : World) (x : Thg) (hx : x.ok) (hat : x.at w) (hli : x.st.few) (hk : modt x.which = 5) :
  Calls Tryz.prog 6 #[.agg x.cl.toArray] w (BytesRes w (x.plainK 5) (x.formK 5)) := by
 have HX := Lib.hid hx
 have HAT := Lib.hid hat
 have HLI := Lib.hid hli
 have HK := Lib.hid hk
 have HL := Lib.hid (x.cl_len hx)
 clear hat hli hk
 go_enter Tryz.func6, Tryz.ntmps6
 go_wp2_with (with_reducible show wpList _ _ _ (Oper.mk _ (Op.box _ _) _ _ _ _ :: _) _ _; refine wpList_box_bk rfl _ _ rfl _ rfl ?_)
 intro bx w0 hkb hbl hg hs
 clear hg hs hx
 have HB := Lib.hid hbl
 have HBX := Lib.hid (bk_eqT (cs' := x.cl.toArray) hkb rfl)
 have c0 : w0.cell? ⟨bx, 0, none⟩ = some (.int .i64 x.which) := HBX.out.cell 0
 clear hkb hbl
 go_wp2_with fail
 refine (mod10_any w0 x.which HX.out.which).mono ?_
 rintro e w1 ⟨rfl, rfl⟩
 rw [HK.out]
 clear c0
 go_wp2_with (with_reducible show wpList _ _ _ (Oper.mk (some 59) (Op.load _ _) _ _ _ _ :: _) _ _; go_must (refine wpList_load_part rfl 40 _ rfl bx 269 228 rfl _ _ _ HBX.out Tryz.underlying40 rfl infoT_hd (by simp [HL.out]) _ (x.ex_hd HX.out) ?_))
 refine (EncodeHeader_any w0 x.hd HX.out.hd).mono ?_
 rintro e w2 ⟨hb2, hr⟩
 have HB2 := Lib.hid (HB.out.trans (hb2.mono HB.out.size))
 rcases hr with ⟨hne, rfl⟩ | ⟨he, v, rfl, hbs⟩
 ·obtain ⟨E, hE⟩ : ∃ E, x.plainK 5 = E := ⟨_, rfl⟩
  have HNE := Lib.hid (show x.plainK 5 ≠ 0 from hne)
  rw [show plainHdr x.hd = E from hE]
  have HE := Lib.hid hE
  clear hne hE hb2
  go_wp2_with (go_at_call 12; go_must (refine (lawNum_any _ _).mono ?_); rintro e wx ⟨rfl, rfl⟩)
  go_ret2
  exact ⟨HB2.out, .inl ⟨HNE.out, by rw [HE.out]; rfl⟩⟩
 ·obtain ⟨A, c, hv⟩ := Bs.form hbs
  obtain ⟨n, hn⟩ : ∃ n, (encHdr x.hd).length = n := ⟨_, rfl⟩
  rw [hn] at hv
  subst hv
  have HBR := Lib.hid hbs
  have HE := Lib.hid (show x.plainK 5 = 0 from he)
  clear he hbs hb2 hn
  go_wp2_with (go_at_call 12; go_must (refine (lawNum_any _ _).mono ?_); rintro e wx ⟨rfl, rfl⟩)
  go_ret2
  exact ⟨HB2.out, .inr ⟨HE.out, _, rfl, Bs.mono HBR.out HB.out.size⟩⟩

set_option maxHeartbeats 2000000 in
theorem encodeT_6 (w : World) (x : Thg) (hx : x.ok) (hat : x.at w) (hli : x.st.few) (hk : modt x.which = 6) :
  Calls Tryz.prog 6 #[.agg x.cl.toArray] w (BytesRes w (x.plainK 6) (x.formK 6)) := by
 have HX := Lib.hid hx
 have HAT := Lib.hid hat
 have HLI := Lib.hid hli
 have HK := Lib.hid hk
 have HL := Lib.hid (x.cl_len hx)
 clear hat hli hk
 go_enter Tryz.func6, Tryz.ntmps6
 go_wp2_with (with_reducible show wpList _ _ _ (Oper.mk _ (Op.box _ _) _ _ _ _ :: _) _ _; refine wpList_box_bk rfl _ _ rfl _ rfl ?_)
 intro bx w0 hkb hbl hg hs
 clear hg hs hx
 have HB := Lib.hid hbl
 have HBX := Lib.hid (bk_eqT (cs' := x.cl.toArray) hkb rfl)
 have c0 : w0.cell? ⟨bx, 0, none⟩ = some (.int .i64 x.which) := HBX.out.cell 0
 clear hkb hbl
 go_wp2_with fail
 refine (mod10_any w0 x.which HX.out.which).mono ?_
 rintro e w1 ⟨rfl, rfl⟩
 rw [HK.out]
 clear c0
 go_wp2_with (with_reducible show wpList _ _ _ (Oper.mk (some 67) (Op.load _ _) _ _ _ _ :: _) _ _; go_must (refine wpList_load_part rfl 44 _ rfl bx 497 265 rfl _ _ _ HBX.out Tryz.underlying44 rfl infoT_blk (by simp [HL.out]) _ (x.ex_blk HX.out) ?_))
 refine (EncodeBlock_any w0 x.blk HX.out.blk (HAT.out.below HB.out).blk).mono ?_
 rintro e w2 ⟨hb2, hr⟩
 have HB2 := Lib.hid (HB.out.trans (hb2.mono HB.out.size))
 rcases hr with ⟨hne, rfl⟩ | ⟨he, v, rfl, hbs⟩
 ·obtain ⟨E, hE⟩ : ∃ E, x.plainK 6 = E := ⟨_, rfl⟩
  have HNE := Lib.hid (show x.plainK 6 ≠ 0 from hne)
  rw [show plainBlk x.blk = E from hE]
  have HE := Lib.hid hE
  clear hne hE hb2
  go_wp2_with (go_at_call 12; go_must (refine (lawNum_any _ _).mono ?_); rintro e wx ⟨rfl, rfl⟩)
  go_ret2
  exact ⟨HB2.out, .inl ⟨HNE.out, by rw [HE.out]; rfl⟩⟩
 ·obtain ⟨A, c, hv⟩ := Bs.form hbs
  obtain ⟨n, hn⟩ : ∃ n, (formBlk x.blk).length = n := ⟨_, rfl⟩
  rw [hn] at hv
  subst hv
  have HBR := Lib.hid hbs
  have HE := Lib.hid (show x.plainK 6 = 0 from he)
  clear he hbs hb2 hn
  go_wp2_with (go_at_call 12; go_must (refine (lawNum_any _ _).mono ?_); rintro e wx ⟨rfl, rfl⟩)
  go_ret2
  exact ⟨HB2.out, .inr ⟨HE.out, _, rfl, Bs.mono HBR.out HB.out.size⟩⟩

set_option maxHeartbeats 2000000 in
theorem encodeT_7 (w : World) (x : Thg) (hx : x.ok) (hat : x.at w) (hli : x.st.few) (hk : modt x.which = 7) :
  Calls Tryz.prog 6 #[.agg x.cl.toArray] w (BytesRes w (x.plainK 7) (x.formK 7)) := by
 have HX := Lib.hid hx
 have HAT := Lib.hid hat
 have HLI := Lib.hid hli
 have HK := Lib.hid hk
 have HL := Lib.hid (x.cl_len hx)
 clear hat hli hk
 go_enter Tryz.func6, Tryz.ntmps6
 go_wp2_with (with_reducible show wpList _ _ _ (Oper.mk _ (Op.box _ _) _ _ _ _ :: _) _ _; refine wpList_box_bk rfl _ _ rfl _ rfl ?_)
 intro bx w0 hkb hbl hg hs
 clear hg hs hx
 have HB := Lib.hid hbl
 have HBX := Lib.hid (bk_eqT (cs' := x.cl.toArray) hkb rfl)
 have c0 : w0.cell? ⟨bx, 0, none⟩ = some (.int .i64 x.which) := HBX.out.cell 0
 clear hkb hbl
 go_wp2_with fail
 refine (mod10_any w0 x.which HX.out.which).mono ?_
 rintro e w1 ⟨rfl, rfl⟩
 rw [HK.out]
 clear c0
 go_wp2_with (with_reducible show wpList _ _ _ (Oper.mk (some 75) (Op.load _ _) _ _ _ _ :: _) _ _; go_must (refine wpList_load_part rfl 47 _ rfl bx 762 484 rfl _ _ _ HBX.out Tryz.underlying47 rfl infoT_mg (by simp [HL.out]) _ (x.ex_mg HX.out) ?_))
 refine (EncodeMg_any w0 x.mg HX.out.mg (HAT.out.below HB.out).mg).mono ?_
 rintro e w2 ⟨hb2, hr⟩
 have HB2 := Lib.hid (HB.out.trans (hb2.mono HB.out.size))
 rcases hr with ⟨hne, rfl⟩ | ⟨he, v, rfl, hbs⟩
 ·obtain ⟨E, hE⟩ : ∃ E, x.plainK 7 = E := ⟨_, rfl⟩
  have HNE := Lib.hid (show x.plainK 7 ≠ 0 from hne)
  rw [show plainMg x.mg = E from hE]
  have HE := Lib.hid hE
  clear hne hE hb2
  go_wp2_with (go_at_call 12; go_must (refine (lawNum_any _ _).mono ?_); rintro e wx ⟨rfl, rfl⟩)
  go_ret2
  exact ⟨HB2.out, .inl ⟨HNE.out, by rw [HE.out]; rfl⟩⟩
 ·obtain ⟨A, c, hv⟩ := Bs.form hbs
  obtain ⟨n, hn⟩ : ∃ n, (formMg x.mg).length = n := ⟨_, rfl⟩
  rw [hn] at hv
  subst hv
  have HBR := Lib.hid hbs
  have HE := Lib.hid (show x.plainK 7 = 0 from he)
  clear he hbs hb2 hn
  go_wp2_with (go_at_call 12; go_must (refine (lawNum_any _ _).mono ?_); rintro e wx ⟨rfl, rfl⟩)
  go_ret2
  exact ⟨HB2.out, .inr ⟨HE.out, _, rfl, Bs.mono HBR.out HB.out.size⟩⟩

set_option maxHeartbeats 2000000 in
theorem encodeT_8 (w : World) (x : Thg) (hx : x.ok) (hat : x.at w) (hli : x.st.few) (hk : modt x.which = 8) :
  Calls Tryz.prog 6 #[.agg x.cl.toArray] w (BytesRes w (x.plainK 8) (x.formK 8)) := by
 have HX := Lib.hid hx
 have HAT := Lib.hid hat
 have HLI := Lib.hid hli
 have HK := Lib.hid hk
 have HL := Lib.hid (x.cl_len hx)
 clear hat hli hk
 go_enter Tryz.func6, Tryz.ntmps6
 go_wp2_with (with_reducible show wpList _ _ _ (Oper.mk _ (Op.box _ _) _ _ _ _ :: _) _ _; refine wpList_box_bk rfl _ _ rfl _ rfl ?_)
 intro bx w0 hkb hbl hg hs
 clear hg hs hx
 have HB := Lib.hid hbl
 have HBX := Lib.hid (bk_eqT (cs' := x.cl.toArray) hkb rfl)
 have c0 : w0.cell? ⟨bx, 0, none⟩ = some (.int .i64 x.which) := HBX.out.cell 0
 clear hkb hbl
 go_wp2_with fail
 refine (mod10_any w0 x.which HX.out.which).mono ?_
 rintro e w1 ⟨rfl, rfl⟩
 rw [HK.out]
 clear c0
 go_wp2_with (with_reducible show wpList _ _ _ (Oper.mk (some 83) (Op.load _ _) _ _ _ _ :: _) _ _; go_must (refine wpList_load_part rfl 49 _ rfl bx 1246 323 rfl _ _ _ HBX.out Tryz.underlying49 rfl infoT_ip (by simp [HL.out]) _ (x.ex_ip HX.out) ?_))
 refine (EncodeIp_any w0 x.ip HX.out.ip (HAT.out.below HB.out).ip).mono ?_
 rintro e w2 ⟨hb2, hr⟩
 have HB2 := Lib.hid (HB.out.trans (hb2.mono HB.out.size))
 rcases hr with ⟨hne, rfl⟩ | ⟨he, v, rfl, hbs⟩
 ·obtain ⟨E, hE⟩ : ∃ E, x.plainK 8 = E := ⟨_, rfl⟩
  have HNE := Lib.hid (show x.plainK 8 ≠ 0 from hne)
  rw [show plainIp x.ip = E from hE]
  have HE := Lib.hid hE
  clear hne hE hb2
  go_wp2_with (go_at_call 12; go_must (refine (lawNum_any _ _).mono ?_); rintro e wx ⟨rfl, rfl⟩)
  go_ret2
  exact ⟨HB2.out, .inl ⟨HNE.out, by rw [HE.out]; rfl⟩⟩
 ·obtain ⟨A, c, hv⟩ := Bs.form hbs
  obtain ⟨n, hn⟩ : ∃ n, (formIp x.ip).length = n := ⟨_, rfl⟩
  rw [hn] at hv
  subst hv
  have HBR := Lib.hid hbs
  have HE := Lib.hid (show x.plainK 8 = 0 from he)
  clear he hbs hb2 hn
  go_wp2_with (go_at_call 12; go_must (refine (lawNum_any _ _).mono ?_); rintro e wx ⟨rfl, rfl⟩)
  go_ret2
  exact ⟨HB2.out, .inr ⟨HE.out, _, rfl, Bs.mono HBR.out HB.out.size⟩⟩

set_option maxHeartbeats 2000000 in
theorem encodeT_9 (w : World) (x : Thg) (hx : x.ok) (hat : x.at w) (hli : x.st.few) (hk : modt x.which = 9) :
  Calls Tryz.prog 6 #[.agg x.cl.toArray] w (BytesRes w (x.plainK 9) (x.formK 9)) := by
 have HX := Lib.hid hx
 have HAT := Lib.hid hat
 have HLI := Lib.hid hli
 have HK := Lib.hid hk
 have HL := Lib.hid (x.cl_len hx)
 clear hat hli hk
 go_enter Tryz.func6, Tryz.ntmps6
 go_wp2_with (with_reducible show wpList _ _ _ (Oper.mk _ (Op.box _ _) _ _ _ _ :: _) _ _; refine wpList_box_bk rfl _ _ rfl _ rfl ?_)
 intro bx w0 hkb hbl hg hs
 clear hg hs hx
 have HB := Lib.hid hbl
 have HBX := Lib.hid (bk_eqT (cs' := x.cl.toArray) hkb rfl)
 have c0 : w0.cell? ⟨bx, 0, none⟩ = some (.int .i64 x.which) := HBX.out.cell 0
 clear hkb hbl
 go_wp2_with fail
 refine (mod10_any w0 x.which HX.out.which).mono ?_
 rintro e w1 ⟨rfl, rfl⟩
 rw [HK.out]
 clear c0
 go_wp2_with (with_reducible show wpList _ _ _ (Oper.mk (some 11) (Op.load _ _) _ _ _ _ :: _) _ _; go_must (refine wpList_load_part rfl 62 _ rfl bx 1569 55 rfl _ _ _ HBX.out Tryz.underlying62 rfl infoT_st (by simp [HL.out]) _ (x.ex_st HX.out) ?_))
 refine (EncodeSta_any w0 x.st HX.out.st (HAT.out.below HB.out).st HLI.out).mono ?_
 rintro e w2 ⟨hb2, hr⟩
 have HB2 := Lib.hid (HB.out.trans (hb2.mono HB.out.size))
 rcases hr with ⟨hne, rfl⟩ | ⟨he, v, rfl, hbs⟩
 ·obtain ⟨E, hE⟩ : ∃ E, x.plainK 9 = E := ⟨_, rfl⟩
  have HNE := Lib.hid (show x.plainK 9 ≠ 0 from hne)
  rw [show plainSta x.st = E from hE]
  have HE := Lib.hid hE
  clear hne hE hb2
  go_wp2_with (go_at_call 12; go_must (refine (lawNum_any _ _).mono ?_); rintro e wx ⟨rfl, rfl⟩)
  go_ret2
  exact ⟨HB2.out, .inl ⟨HNE.out, by rw [HE.out]; rfl⟩⟩
 ·obtain ⟨A, c, hv⟩ := Bs.form hbs
  obtain ⟨n, hn⟩ : ∃ n, (formSta x.st).length = n := ⟨_, rfl⟩
  rw [hn] at hv
  subst hv
  have HBR := Lib.hid hbs
  have HE := Lib.hid (show x.plainK 9 = 0 from he)
  clear he hbs hb2 hn
  go_wp2_with (go_at_call 12; go_must (refine (lawNum_any _ _).mono ?_); rintro e wx ⟨rfl, rfl⟩)
  go_ret2
  exact ⟨HB2.out, .inr ⟨HE.out, _, rfl, Bs.mono HBR.out HB.out.size⟩⟩

theorem encodeT_any (w : World) (x : Thg) (hx : x.ok) (hat : x.at w) (hli : x.st.few) : Calls Tryz.prog 6 #[.agg x.cl.toArray] w (BytesRes w (x.plainK x.kn) (x.formK x.kn)) := by
 have h1 := x.kn_lt
 have h2 := x.kn_eq
 obtain ⟨k, hk⟩ : ∃ k, x.kn = k := ⟨_, rfl⟩
 rw [hk] at h1 h2 ⊢
 match k, h1, h2 with
 | 0, _, h2 => exact encodeT_0 w x hx hat hli h2
 | 1, _, h2 => exact encodeT_1 w x hx hat hli h2
 | 2, _, h2 => exact encodeT_2 w x hx hat hli h2
 | 3, _, h2 => exact encodeT_3 w x hx hat hli h2
 | 4, _, h2 => exact encodeT_4 w x hx hat hli h2
 | 5, _, h2 => exact encodeT_5 w x hx hat hli h2
 | 6, _, h2 => exact encodeT_6 w x hx hat hli h2
 | 7, _, h2 => exact encodeT_7 w x hx hat hli h2
 | 8, _, h2 => exact encodeT_8 w x hx hat hli h2
 | 9, _, h2 => exact encodeT_9 w x hx hat hli h2
 | k + 10, h1, _ => omega
end Go.Proofs.YtlhnhjglcbggmaaGreatRR

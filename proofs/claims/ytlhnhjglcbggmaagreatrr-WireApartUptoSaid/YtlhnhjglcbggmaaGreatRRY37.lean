/-
  The ten kinds' forms: none is empty, each is at most as long as the document says. Conditions: each number fits its kind; what is laid down is plain. No program here.
  Two things of one kind: alike, their forms are one; unlike, neither form is a beginning of the other. Conditions: each number fits its kind; both are plain. No program here.
  The keys that a State's lists rise by. Conditions: none.
-/
import Derived.Test.YtlhnhjglcbggmaaGreatRRYTd1
import Derived.Test.YtlhnhjglcbggmaaGreatRRYPb18
namespace Go.Proofs.YtlhnhjglcbggmaaGreatRR
set_option linter.unusedSimpArgs false
set_option linter.unusedVariables false
open Go.RowKit
set_option maxRecDepth 100000

/-- the remainder at ten that is never below zero -/
def modt (j : Int) : Int := if j.tmod 10 < 0 then j.tmod 10 + 10 else j.tmod 10
theorem tmod10 (j : Int) : -10 < j.tmod 10 ∧ j.tmod 10 < 10 := ⟨Int.lt_tmod_of_pos j (by omega), Int.tmod_lt_of_pos j (by omega)⟩
theorem modt_in (j : Int) : 0 ≤ modt j ∧ modt j < 10 := by
 have := tmod10 j
 unfold modt
 split <;> omega
def Thg.kn (x : Thg) : Nat := (modt x.which).toNat
theorem Thg.kn_lt (x : Thg) : x.kn < 10 := by
 have := modt_in x.which
 unfold Thg.kn
 omega
theorem Thg.kn_eq (x : Thg) : modt x.which = (x.kn : Int) := by
 have := modt_in x.which
 unfold Thg.kn
 omega
/-- what is wrong with a thing of a kind; its form -/
noncomputable def Thg.plainK (x : Thg) : Nat → Int
 | 0 => plainTx x.tx | 1 => plainVote x.vote | 2 => plainProposal x.prop | 3 => plainCrt x.crt | 4 => plainEv x.ev
 | 5 => plainHdr x.hd | 6 => plainBlk x.blk | 7 => plainMg x.mg | 8 => plainIp x.ip | _ => plainSta x.st
noncomputable def Thg.formK (x : Thg) : Nat → List UInt8
 | 0 => formTx x.tx | 1 => formVote x.vote | 2 => formProposal x.prop | 3 => encCrt x.crt | 4 => formEv x.ev
 | 5 => encHdr x.hd | 6 => formBlk x.blk | 7 => formMg x.mg | 8 => formIp x.ip | _ => formSta x.st
theorem hdr_pos (x : Hdr) : 1 ≤ (encHdr x).length := by
 have := varB_pos x.chain.size
 unfold encHdr
 simp only [List.length_append]
 omega
theorem Thg.form_pos (x : Thg) (n : Nat) : 0 < (x.formK n).length := by
 have v1 := varB_pos x.vote.height.toNat
 have v2 := varB_pos x.prop.height.toNat
 have v3 := varB_pos x.crt.height.toNat
 have v4 := varB_pos x.ev.a.height.toNat
 have v5 := hdr_pos x.hd
 have v6 := hdr_pos x.blk.hd
 have v7 := varB_pos x.st.chain.size
 match n with
 | 0 => simp only [Thg.formK, formTx, encTx, List.length_append, List.length_cons]; omega
 | 1 => simp only [Thg.formK, formVote, encVote, List.length_append, List.length_cons]; omega
 | 2 => simp only [Thg.formK, formProposal, encProposal, List.length_append]; omega
 | 3 => simp only [Thg.formK, encCrt, List.length_append]; omega
 | 4 => simp only [Thg.formK, formEv, fvE, encVote, List.length_append, List.length_cons]; omega
 | 5 => simp only [Thg.formK]; omega
 | 6 => simp only [Thg.formK, formBlk, List.length_append]; omega
 | 7 => simp only [Thg.formK, formMg, formMsg, List.length_append, List.length_cons]; omega
 | 8 => simp only [Thg.formK, formIp, formInput, List.length_append, List.length_cons]; omega
 | n + 9 => simp only [Thg.formK, formSta, List.length_append]; omega
theorem formSta_len {x : Sta} (hx : x.ok) (hp : StaB x) (ho : x.on ≤ 1000000000) (hr : x.rn ≤ 1000000000) : (formSta x).length ≤ 100000000000 := by
 have c1 := varB_ten (n := x.chain.size) (by have := hp.c2; unfold two64; omega)
 have c2 : x.chain.data.toList.length = x.chain.size := by simp
 have c3 := hp.c2
 have p1 := u64_le hx.par.bond
 have p2 := u64_le hx.par.slash
 have p3 := u64_le hx.par.period
 have p4 := u64_le hx.par.age
 have p5 := varB_int (n := x.par.txs) hp.t1 (by have := hp.t2; unfold two64; omega)
 have p6 := u64_le hx.par.propose
 have p7 := u64_le hx.par.votes
 have p8 := u64_le hx.par.pause
 have p9 := u64_le hx.par.resend
 have p10 := u64_le hx.par.trust
 have p11 := u64_le hx.par.drift
 have h1 := u64_le hx.height
 have h2 := u64_le hx.time
 have h3 := hx.last
 have h4 := encCou_len hx.cou hp.cou
 have h5 := encCou_len hx.next hp.next
 have h6 := varB_ten (n := x.pn) (by have := hp.pn; unfold two64; omega)
 have h7 := flat_le (enc := encPst) (L := 1950) (l := x.ps) fun m hm => encPst_len (hx.ps m hm) (hp.ps m hm)
 have h8 := varB_ten (n := x.on) (by unfold two64; omega)
 have h9 := flat_le (enc := encOff) (L := 20) (l := x.os) fun m hm => encOff_len (hx.os m hm)
 have h10 := varB_ten (n := x.an) (by have := hp.an; unfold two64; omega)
 have h11 := flat_le (enc := encAcc) (L := 41) (l := x.acs) fun m hm => encAcc_len (hx.acs m hm)
 have h12 := varB_ten (n := x.rn) (by unfold two64; omega)
 have h13 := flat_le (enc := encRls) (L := 40) (l := x.rs) fun m hm => encRls_len (hx.rs m hm)
 have h14 := u64_le hx.burnt
 have h15 := u64_le hx.supply
 have l1 := hx.pn
 have l2 := hx.on
 have l3 := hx.an
 have l4 := hx.rn
 have b1 := hp.pn
 have b2 := hp.an
 unfold formSta encPar
 simp only [List.length_append, List.length_cons, List.length_nil]
 omega
end Go.Proofs.YtlhnhjglcbggmaaGreatRR
namespace Go.Proofs.YtlhnhjglcbggmaaGreatRR
set_option linter.unusedSimpArgs false
set_option linter.unusedVariables false
open Go.RowKit
set_option maxRecDepth 100000

/-- two things of a kind are the same, wherever their lists lie -/
def Thg.sameK (x y : Thg) : Nat → Prop
 | 0 => x.tx = y.tx | 1 => x.vote = y.vote | 2 => x.prop = y.prop | 3 => x.crt.same y.crt | 4 => x.ev = y.ev
 | 5 => x.hd = y.hd | 6 => x.blk.same y.blk | 7 => x.mg.k = y.mg.k ∧ x.mg.p.same y.mg.p
 | 8 => x.ip.k = y.ip.k ∧ x.ip.now = y.ip.now ∧ x.ip.p.same y.ip.p | _ => x.st.same y.st
theorem crt_form {x y : Crt} (hx : x.ok) (hy : y.ok) (h : x.same y) : encCrt x = encCrt y := by
 unfold encCrt
 rw [h.height, h.round, h.id, hx.n, hy.n, h.ms]
theorem blk_form {x y : Blk} (hx : x.ok) (hy : y.ok) (h : x.same y) : formBlk x = formBlk y := by
 unfold formBlk
 rw [h.hd, hx.tn, hy.tn, h.ts, hx.en, hy.en, h.es, crt_form hx.ct hy.ct h.ct]
theorem part_form {p q : Prts} (hp : p.ok) (hq : q.ok) (h : p.same q) (k : PK) : k.form p = k.form q := by
 have h0 : p.prop = q.prop := h 0 (by omega)
 have h1 : p.blk.same q.blk := h 1 (by omega)
 have h2 : p.vs = q.vs := h 2 (by omega)
 have h3 : p.crt.same q.crt := h 3 (by omega)
 have h4 : p.tx = q.tx := h 4 (by omega)
 have h5 : p.ev = q.ev := h 5 (by omega)
 have h6 : p.height = q.height := h 6 (by omega)
 have h7 : p.round = q.round := h 7 (by omega)
 have h8 : p.good = q.good := h 8 (by omega)
 have h9 : p.step = q.step := h 9 (by omega)
 have hv : p.vn = q.vn := by rw [hp.vn, hq.vn, h2]
 cases k <;> simp only [PK.form, h0, h2, h4, h5, h6, h7, h8, h9, hv]
 ·exact blk_form hp.blk hq.blk h1
 ·exact crt_form hp.crt hq.crt h3
theorem parts_form {p q : Prts} (hp : p.ok) (hq : q.ok) (h : p.same q) : ∀ us : List PK, us.flatMap (PK.form p) = us.flatMap (PK.form q)
 | [] => rfl
 | k :: us => by rw [List.flatMap_cons, List.flatMap_cons, part_form hp hq h k, parts_form hp hq h us]
theorem pst_form {x y : Pst} (hx : x.ok) (hy : y.ok) (h : x.same y) : encPst x = encPst y := by
 unfold encPst encCou
 rw [h.height, h.time, hx.cou.n, hy.cou.n, h.ms]
theorem alike_flat {α : Type} {R : α → α → Prop} {enc : α → List UInt8} {P : α → Prop} (he : ∀ x y, P x → P y → R x y → enc x = enc y) : ∀ {l m : List α}, (∀ x ∈ l, P x) → (∀ x ∈ m, P x) → Alike R l m → l.flatMap enc = m.flatMap enc ∧ l.length = m.length
 | [], [], _, _, _ => ⟨rfl, rfl⟩
 | x :: l, y :: m, hl, hm, h => by
  obtain ⟨h1, h2⟩ := alike_flat he (fun z hz => hl z (List.mem_cons_of_mem _ hz)) (fun z hz => hm z (List.mem_cons_of_mem _ hz)) h.2
  rw [List.flatMap_cons, List.flatMap_cons, he x y (hl x (List.mem_cons_self ..)) (hm y (List.mem_cons_self ..)) h.1, h1, List.length_cons, List.length_cons, h2]
  exact ⟨rfl, rfl⟩
 | [], _ :: _, _, _, h => h.elim
 | _ :: _, [], _, _, h => h.elim
theorem sta_form {x y : Sta} (hx : x.ok) (hy : y.ok) (h : x.same y) : formSta x = formSta y := by
 obtain ⟨h1, h2⟩ := alike_flat (enc := encPst) (P := Pst.ok) (fun a b ha hb hab => pst_form ha hb hab) hx.ps hy.ps h.ps
 unfold formSta encCou
 rw [h.chain, h.par, h.height, h.time, h.last, hx.cou.n, hy.cou.n, h.cou, hx.next.n, hy.next.n, h.next, hx.pn, hy.pn, h1, h2, hx.on, hy.on, h.os, hx.an, hy.an, h.acs, hx.rn, hy.rn, h.rs, h.burnt, h.supply]
theorem Thg.same_form {x y : Thg} (hx : x.ok) (hy : y.ok) (n : Nat) (h : x.sameK y n) : x.formK n = y.formK n := by
 match n, h with
 | 0, h => exact congrArg formTx h
 | 1, h => exact congrArg formVote h
 | 2, h => exact congrArg formProposal h
 | 3, h => exact crt_form hx.crt hy.crt h
 | 4, h => exact congrArg formEv h
 | 5, h => exact congrArg encHdr h
 | 6, h => exact blk_form hx.blk hy.blk h
 | 7, h =>
  show formMsg x.mg.k x.mg.p = formMsg y.mg.k y.mg.p
  unfold formMsg
  rw [h.1, parts_form hx.mg.ok hy.mg.ok h.2]
 | 8, h =>
  show formInput x.ip.k x.ip.now x.ip.p = formInput y.ip.k y.ip.now y.ip.p
  unfold formInput
  rw [h.1, h.2.1, parts_form hx.ip.ok hy.ip.ok h.2.2]
 | n + 9, h => exact sta_form hx.st hy.st h
theorem Thg.sd {x y : Thg} (hx : x.ok) (hy : y.ok) (n : Nat) (px : x.plainK n = 0) (py : y.plainK n = 0) {r s : List UInt8} (h : x.formK n ++ r = y.formK n ++ s) : x.sameK y n ∧ r = s := by
 match n, px, py, h with
 | 0, px, py, h => exact tx_sd _ _ r s ⟨hx.tx, txB px⟩ ⟨hy.tx, txB py⟩ h
 | 1, px, py, h => exact vote_sd _ _ r s ⟨hx.vote, voteB hx.vote px⟩ ⟨hy.vote, voteB hy.vote py⟩ h
 | 2, px, py, h => exact proposal_sd _ _ r s ⟨hx.prop, proposalB hx.prop px⟩ ⟨hy.prop, proposalB hy.prop py⟩ h
 | 3, px, py, h => exact crt_sd _ _ r s ⟨hx.crt, crtB hx.crt px⟩ ⟨hy.crt, crtB hy.crt py⟩ h
 | 4, px, py, h => exact ev_sd _ _ r s ⟨hx.ev, evB hx.ev px⟩ ⟨hy.ev, evB hy.ev py⟩ h
 | 5, px, py, h => exact hdr_sd _ _ r s hx.hd hy.hd h
 | 6, px, py, h => exact blk_sd _ _ r s ⟨hx.blk, blkB hx.blk px⟩ ⟨hy.blk, blkB hy.blk py⟩ h
 | 7, px, py, h => exact msg_sd (x.mg.k, x.mg.p) (y.mg.k, y.mg.p) r s ⟨hx.mg.ok, px⟩ ⟨hy.mg.ok, py⟩ h
 | 8, px, py, h =>
  obtain ⟨⟨h1, h2, h3⟩, h4⟩ := input_sd (x.ip.k, x.ip.now, x.ip.p) (y.ip.k, y.ip.now, y.ip.p) r s ⟨hx.ip.now, hx.ip.ok, px⟩ ⟨hy.ip.now, hy.ip.ok, py⟩ h
  exact ⟨⟨h1, h2, h3⟩, h4⟩
 | n + 9, px, py, h => exact sta_sd _ _ r s ⟨hx.st, px⟩ ⟨hy.st, py⟩ h
/-- unlike: their beginnings, as long as the shorter one, are unlike too -/
theorem Thg.apart {x y : Thg} (hx : x.ok) (hy : y.ok) (n : Nat) (px : x.plainK n = 0) (py : y.plainK n = 0) (h : ¬ x.sameK y n) (k : Nat) (hk : k = min (x.formK n).length (y.formK n).length) : (x.formK n).take k ≠ (y.formK n).take k := fun e => by
 rcases Nat.le_total (x.formK n).length (y.formK n).length with hl | hl
 ·rw [show k = (x.formK n).length by omega, List.take_length] at e
  refine h (Thg.sd hx hy n px py (r := (y.formK n).drop (x.formK n).length) (s := []) ?_).1
  rw [List.append_nil]
  have h2 := congrArg (fun l => l ++ (y.formK n).drop (x.formK n).length) e
  exact h2.trans (List.take_append_drop _ _)
 ·rw [show k = (y.formK n).length by omega, List.take_length] at e
  refine h (Thg.sd hx hy n px py (r := []) (s := (x.formK n).drop (y.formK n).length) ?_).1
  rw [List.append_nil]
  have h2 := congrArg (fun l => l ++ (x.formK n).drop (y.formK n).length) e
  exact (List.take_append_drop _ _).symm.trans h2
end Go.Proofs.YtlhnhjglcbggmaaGreatRR
namespace Go.Proofs.YtlhnhjglcbggmaaGreatRR
set_option linter.unusedSimpArgs false
set_option linter.unusedVariables false
open Go.RowKit
set_option maxRecDepth 100000

def key2 (k : Int × Int) : List Value := [.int .u64 k.1, .int .u64 k.2]
theorem key2_one (k : Int × Int) : ∀ u ∈ (Value.agg (key2 k).toArray).cells.toList, u.oneCell' = true := by
 intro u hu
 simp only [Value.cells, key2, List.mem_cons, List.not_mem_nil, or_false] at hu
 rcases hu with rfl | rfl <;> rfl
theorem built_k1 (a : Int) : Tryz.prog.built 185 [(0, .int .u64 a)] = some (key2 (a, 0)).toArray := by kernel_rfl
theorem built_k2 (a b : Int) : Tryz.prog.built 185 [(0, .int .u64 a), (1, .int .u64 b)] = some (key2 (a, b)).toArray := by kernel_rfl
theorem zero_k : (Tryz.prog.info? 185).bind (·.zero) = some (.agg (key2 (0, 0)).toArray) := by kernel_rfl
theorem info_k : (Tryz.prog.info? 185).map (·.size) = some 2 := by kernel_rfl
theorem key2_sz (k : Int × Int) : (key2 k).toArray.size = 2 := rfl
set_option maxHeartbeats 400000 in
theorem memKey_any (w : World) (m : Mem) : Calls Tryz.prog 111 #[.agg m.cl.toArray] w fun e w' => e = .returned (.agg (key2 (memKey m)).toArray) ∧ Below w.heap.size w w' := by
 have HB := Lib.hid (built_k1 m.addr)
 have HS := Lib.hid (key2_sz (memKey m))
 have HO := Lib.hid (key2_one (memKey m))
 go_enter Tryz.func111, Tryz.ntmps111
 go_wp2_with (with_reducible show wpList _ _ _ (Oper.mk _ (Op.box _ _) _ _ _ _ :: _) _ _; refine wpList_box_bk rfl _ _ rfl _ rfl ?_)
 intro bx w1 hk hbl hg hs
 clear hg hs
 have HK1 := Lib.hid (bk_eqT (cs' := m.cl.toArray) hk rfl)
 have HB1 := Lib.hid hbl
 clear hk hbl
 go_wp2_with (with_reducible show wpList _ _ _ (Oper.mk _ (Op.alloc _) _ _ _ _ :: _) _ _; refine wpList_alloc_i rfl 185 rfl (.agg (key2 (0, 0)).toArray) zero_k ?_)
 intro r w2 h2 hl2 hg2 hs2
 have H2 := Lib.hid (show Bk w2 r (key2 (0, 0)).toArray 185 from h2)
 have HK2 := Lib.hid (HK1.out.below hl2 HK1.out.lt)
 have HB2 := Lib.hid (HB1.out.trans (hl2.mono HB1.out.size))
 have HG2 := Lib.hid (show w.heap.size ≤ r from Nat.le_trans HB1.out.size hg2)
 clear h2 hl2 hg2 hs2
 have c0 : w2.cell? ⟨bx, 0, none⟩ = some (.int .u64 m.addr) := HK2.out.cell 0
 go_wp2_with (first
  | ((with_reducible show wpList _ _ _ (Oper.mk _ (Op.build _ _) _ _ _ _ :: _) _ _); go_must (refine wpList_buildv rfl 185 [(0, _)] rfl [_] rfl _ HB.out ?_))
  | (with_reducible show wpList _ _ _ (Oper.mk _ (Op.store 185 _ _) _ _ _ _ :: _) _ _; go_must (refine wpList_store_bk rfl 185 _ _ rfl r rfl (.agg (key2 (memKey m)).toArray) rfl _ _ H2.out (by rw [agg_sz HS.out]; exact info_k) (by rw [agg_sz HS.out]; exact (key2_sz (0, 0)).symm) HO.out ?_)))
 intro w5 h5 hg5 hs5
 have HB5 := Lib.hid (below_grown2 HB2.out hg5 HG2.out HB2.out.size)
 have H5 := Lib.hid (show Bk w5 r (key2 (memKey m)).toArray 185 from h5)
 clear h5 hg5 hs5
 go_wp2
 exact bodyPost_cell Tryz.results111 rfl H5.out Tryz.underlying185 rfl info_k HS.out.symm rfl ⟨rfl, HB5.out⟩
set_option maxHeartbeats 400000 in
theorem pstKey_any (w : World) (m : Pst) : Calls Tryz.prog 113 #[.agg m.cl.toArray] w fun e w' => e = .returned (.agg (key2 (pstKey m)).toArray) ∧ Below w.heap.size w w' := by
 have HB := Lib.hid (built_k1 m.height)
 have HS := Lib.hid (key2_sz (pstKey m))
 have HO := Lib.hid (key2_one (pstKey m))
 go_enter Tryz.func113, Tryz.ntmps113
 go_wp2_with (with_reducible show wpList _ _ _ (Oper.mk _ (Op.box _ _) _ _ _ _ :: _) _ _; refine wpList_box_bk rfl _ _ rfl _ rfl ?_)
 intro bx w1 hk hbl hg hs
 clear hg hs
 have HK1 := Lib.hid (bk_eqT (cs' := m.cl.toArray) hk rfl)
 have HB1 := Lib.hid hbl
 clear hk hbl
 go_wp2_with (with_reducible show wpList _ _ _ (Oper.mk _ (Op.alloc _) _ _ _ _ :: _) _ _; refine wpList_alloc_i rfl 185 rfl (.agg (key2 (0, 0)).toArray) zero_k ?_)
 intro r w2 h2 hl2 hg2 hs2
 have H2 := Lib.hid (show Bk w2 r (key2 (0, 0)).toArray 185 from h2)
 have HK2 := Lib.hid (HK1.out.below hl2 HK1.out.lt)
 have HB2 := Lib.hid (HB1.out.trans (hl2.mono HB1.out.size))
 have HG2 := Lib.hid (show w.heap.size ≤ r from Nat.le_trans HB1.out.size hg2)
 clear h2 hl2 hg2 hs2
 have c0 : w2.cell? ⟨bx, 0, none⟩ = some (.int .u64 m.height) := HK2.out.cell 0
 go_wp2_with (first
  | ((with_reducible show wpList _ _ _ (Oper.mk _ (Op.build _ _) _ _ _ _ :: _) _ _); go_must (refine wpList_buildv rfl 185 [(0, _)] rfl [_] rfl _ HB.out ?_))
  | (with_reducible show wpList _ _ _ (Oper.mk _ (Op.store 185 _ _) _ _ _ _ :: _) _ _; go_must (refine wpList_store_bk rfl 185 _ _ rfl r rfl (.agg (key2 (pstKey m)).toArray) rfl _ _ H2.out (by rw [agg_sz HS.out]; exact info_k) (by rw [agg_sz HS.out]; exact (key2_sz (0, 0)).symm) HO.out ?_)))
 intro w5 h5 hg5 hs5
 have HB5 := Lib.hid (below_grown2 HB2.out hg5 HG2.out HB2.out.size)
 have H5 := Lib.hid (show Bk w5 r (key2 (pstKey m)).toArray 185 from h5)
 clear h5 hg5 hs5
 go_wp2
 exact bodyPost_cell Tryz.results113 rfl H5.out Tryz.underlying185 rfl info_k HS.out.symm rfl ⟨rfl, HB5.out⟩
set_option maxHeartbeats 400000 in
theorem offKey_any (w : World) (m : Off) : Calls Tryz.prog 115 #[.agg m.cl.toArray] w fun e w' => e = .returned (.agg (key2 (offKey m)).toArray) ∧ Below w.heap.size w w' := by
 have HB := Lib.hid (built_k2 m.height m.addr)
 have HS := Lib.hid (key2_sz (offKey m))
 have HO := Lib.hid (key2_one (offKey m))
 go_enter Tryz.func115, Tryz.ntmps115
 go_wp2_with (with_reducible show wpList _ _ _ (Oper.mk _ (Op.box _ _) _ _ _ _ :: _) _ _; refine wpList_box_bk rfl _ _ rfl _ rfl ?_)
 intro bx w1 hk hbl hg hs
 clear hg hs
 have HK1 := Lib.hid (bk_eqT (cs' := m.cl.toArray) hk rfl)
 have HB1 := Lib.hid hbl
 clear hk hbl
 go_wp2_with (with_reducible show wpList _ _ _ (Oper.mk _ (Op.alloc _) _ _ _ _ :: _) _ _; refine wpList_alloc_i rfl 185 rfl (.agg (key2 (0, 0)).toArray) zero_k ?_)
 intro r w2 h2 hl2 hg2 hs2
 have H2 := Lib.hid (show Bk w2 r (key2 (0, 0)).toArray 185 from h2)
 have HK2 := Lib.hid (HK1.out.below hl2 HK1.out.lt)
 have HB2 := Lib.hid (HB1.out.trans (hl2.mono HB1.out.size))
 have HG2 := Lib.hid (show w.heap.size ≤ r from Nat.le_trans HB1.out.size hg2)
 clear h2 hl2 hg2 hs2
 have c0 : w2.cell? ⟨bx, 0, none⟩ = some (.int .u64 m.height) := HK2.out.cell 0
 have c1 : w2.cell? ⟨bx, 1, none⟩ = some (.int .u64 m.addr) := HK2.out.cell 1
 go_wp2_with (first
  | ((with_reducible show wpList _ _ _ (Oper.mk _ (Op.build _ _) _ _ _ _ :: _) _ _); go_must (refine wpList_buildv rfl 185 [(0, _), (1, _)] rfl [_, _] rfl _ HB.out ?_))
  | (with_reducible show wpList _ _ _ (Oper.mk _ (Op.store 185 _ _) _ _ _ _ :: _) _ _; go_must (refine wpList_store_bk rfl 185 _ _ rfl r rfl (.agg (key2 (offKey m)).toArray) rfl _ _ H2.out (by rw [agg_sz HS.out]; exact info_k) (by rw [agg_sz HS.out]; exact (key2_sz (0, 0)).symm) HO.out ?_)))
 intro w5 h5 hg5 hs5
 have HB5 := Lib.hid (below_grown2 HB2.out hg5 HG2.out HB2.out.size)
 have H5 := Lib.hid (show Bk w5 r (key2 (offKey m)).toArray 185 from h5)
 clear h5 hg5 hs5
 go_wp2
 exact bodyPost_cell Tryz.results115 rfl H5.out Tryz.underlying185 rfl info_k HS.out.symm rfl ⟨rfl, HB5.out⟩
set_option maxHeartbeats 400000 in
theorem accKey_any (w : World) (m : Acc) : Calls Tryz.prog 117 #[.agg m.cl.toArray] w fun e w' => e = .returned (.agg (key2 (accKey m)).toArray) ∧ Below w.heap.size w w' := by
 have HB := Lib.hid (built_k1 m.addr)
 have HS := Lib.hid (key2_sz (accKey m))
 have HO := Lib.hid (key2_one (accKey m))
 go_enter Tryz.func117, Tryz.ntmps117
 go_wp2_with (with_reducible show wpList _ _ _ (Oper.mk _ (Op.box _ _) _ _ _ _ :: _) _ _; refine wpList_box_bk rfl _ _ rfl _ rfl ?_)
 intro bx w1 hk hbl hg hs
 clear hg hs
 have HK1 := Lib.hid (bk_eqT (cs' := m.cl.toArray) hk rfl)
 have HB1 := Lib.hid hbl
 clear hk hbl
 go_wp2_with (with_reducible show wpList _ _ _ (Oper.mk _ (Op.alloc _) _ _ _ _ :: _) _ _; refine wpList_alloc_i rfl 185 rfl (.agg (key2 (0, 0)).toArray) zero_k ?_)
 intro r w2 h2 hl2 hg2 hs2
 have H2 := Lib.hid (show Bk w2 r (key2 (0, 0)).toArray 185 from h2)
 have HK2 := Lib.hid (HK1.out.below hl2 HK1.out.lt)
 have HB2 := Lib.hid (HB1.out.trans (hl2.mono HB1.out.size))
 have HG2 := Lib.hid (show w.heap.size ≤ r from Nat.le_trans HB1.out.size hg2)
 clear h2 hl2 hg2 hs2
 have c0 : w2.cell? ⟨bx, 0, none⟩ = some (.int .u64 m.addr) := HK2.out.cell 0
 go_wp2_with (first
  | ((with_reducible show wpList _ _ _ (Oper.mk _ (Op.build _ _) _ _ _ _ :: _) _ _); go_must (refine wpList_buildv rfl 185 [(0, _)] rfl [_] rfl _ HB.out ?_))
  | (with_reducible show wpList _ _ _ (Oper.mk _ (Op.store 185 _ _) _ _ _ _ :: _) _ _; go_must (refine wpList_store_bk rfl 185 _ _ rfl r rfl (.agg (key2 (accKey m)).toArray) rfl _ _ H2.out (by rw [agg_sz HS.out]; exact info_k) (by rw [agg_sz HS.out]; exact (key2_sz (0, 0)).symm) HO.out ?_)))
 intro w5 h5 hg5 hs5
 have HB5 := Lib.hid (below_grown2 HB2.out hg5 HG2.out HB2.out.size)
 have H5 := Lib.hid (show Bk w5 r (key2 (accKey m)).toArray 185 from h5)
 clear h5 hg5 hs5
 go_wp2
 exact bodyPost_cell Tryz.results117 rfl H5.out Tryz.underlying185 rfl info_k HS.out.symm rfl ⟨rfl, HB5.out⟩
set_option maxHeartbeats 400000 in
theorem rlsKey_any (w : World) (m : Rls) : Calls Tryz.prog 119 #[.agg m.cl.toArray] w fun e w' => e = .returned (.agg (key2 (rlsKey m)).toArray) ∧ Below w.heap.size w w' := by
 have HB := Lib.hid (built_k2 m.height m.addr)
 have HS := Lib.hid (key2_sz (rlsKey m))
 have HO := Lib.hid (key2_one (rlsKey m))
 go_enter Tryz.func119, Tryz.ntmps119
 go_wp2_with (with_reducible show wpList _ _ _ (Oper.mk _ (Op.box _ _) _ _ _ _ :: _) _ _; refine wpList_box_bk rfl _ _ rfl _ rfl ?_)
 intro bx w1 hk hbl hg hs
 clear hg hs
 have HK1 := Lib.hid (bk_eqT (cs' := m.cl.toArray) hk rfl)
 have HB1 := Lib.hid hbl
 clear hk hbl
 go_wp2_with (with_reducible show wpList _ _ _ (Oper.mk _ (Op.alloc _) _ _ _ _ :: _) _ _; refine wpList_alloc_i rfl 185 rfl (.agg (key2 (0, 0)).toArray) zero_k ?_)
 intro r w2 h2 hl2 hg2 hs2
 have H2 := Lib.hid (show Bk w2 r (key2 (0, 0)).toArray 185 from h2)
 have HK2 := Lib.hid (HK1.out.below hl2 HK1.out.lt)
 have HB2 := Lib.hid (HB1.out.trans (hl2.mono HB1.out.size))
 have HG2 := Lib.hid (show w.heap.size ≤ r from Nat.le_trans HB1.out.size hg2)
 clear h2 hl2 hg2 hs2
 have c0 : w2.cell? ⟨bx, 0, none⟩ = some (.int .u64 m.height) := HK2.out.cell 0
 have c1 : w2.cell? ⟨bx, 1, none⟩ = some (.int .u64 m.addr) := HK2.out.cell 1
 go_wp2_with (first
  | ((with_reducible show wpList _ _ _ (Oper.mk _ (Op.build _ _) _ _ _ _ :: _) _ _); go_must (refine wpList_buildv rfl 185 [(0, _), (1, _)] rfl [_, _] rfl _ HB.out ?_))
  | (with_reducible show wpList _ _ _ (Oper.mk _ (Op.store 185 _ _) _ _ _ _ :: _) _ _; go_must (refine wpList_store_bk rfl 185 _ _ rfl r rfl (.agg (key2 (rlsKey m)).toArray) rfl _ _ H2.out (by rw [agg_sz HS.out]; exact info_k) (by rw [agg_sz HS.out]; exact (key2_sz (0, 0)).symm) HO.out ?_)))
 intro w5 h5 hg5 hs5
 have HB5 := Lib.hid (below_grown2 HB2.out hg5 HG2.out HB2.out.size)
 have H5 := Lib.hid (show Bk w5 r (key2 (rlsKey m)).toArray 185 from h5)
 clear h5 hg5 hs5
 go_wp2
 exact bodyPost_cell Tryz.results119 rfl H5.out Tryz.underlying185 rfl info_k HS.out.symm rfl ⟨rfl, HB5.out⟩
end Go.Proofs.YtlhnhjglcbggmaaGreatRR

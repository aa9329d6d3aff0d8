/-
  The parts of a message or an input as cells; zeroBlock, zero. Conditions: each number fits its kind.
  A list of votes by rising member. Conditions: each number fits its kind; the list lies in the world.
-/
import Derived.Test.YtlhnhjglcbggmaaGreatRRY17
import Derived.Test.YtlhnhjglcbggmaaGreatRRY18
namespace Go.Proofs.YtlhnhjglcbggmaaGreatRR
set_option linter.unusedSimpArgs false
set_option linter.unusedVariables false
open Go.RowKit
set_option maxRecDepth 100000

theorem seg_ex {A B C l : List Value} {i n : Nat} (e : l = A ++ (B ++ C)) (hA : A.length = i) (hB : B.length = n) : l.toArray.extract i (i + n) = B.toArray := by
 refine extract_cl _ _ _ _ ?_
 subst hA; subst hB
 rw [e, List.drop_left, show A.length + B.length - A.length = B.length by omega, List.take_left]
theorem seg_at {A C l : List Value} {v : Value} {i : Nat} (e : l = A ++ (v :: C)) (hA : A.length = i) : l.toArray[i]? = some v := by
 subst hA
 rw [List.getElem?_toArray, e, List.getElem?_append_right (Nat.le_refl _), Nat.sub_self]; rfl
def Prts.cl (p : Prts) : List Value := p.prop.cl ++ (p.blk.cl ++ (.slice p.vA p.vn p.vc :: (p.crt.cl ++ (p.tx.cl ++ (p.ev.cl ++ [.int .u64 p.height, .int .i64 p.round, .bool p.good, .int .i64 p.step])))))
structure Prts.at (p : Prts) (w : World) : Prop where
 b : p.blk.at w
 v : Rd w p.vA (p.vs.flatMap Vote.cl)
 c : p.crt.at w
theorem Prts.at.below {p : Prts} {w w' : World} (h : p.at w) (hb : Below w.heap.size w w') : p.at w' := ⟨h.b.below hb, h.v.below hb, Rd.below (xs := p.crt.ms.flatMap Mk.cl) h.c hb⟩
structure Prts.low (p : Prts) (B : Nat) : Prop where
 b : p.blk.low B
 v : Low p.vA (p.vs.flatMap Vote.cl) B
 c : Low p.crt.A (p.crt.ms.flatMap Mk.cl) B
theorem Prts.at.low {p : Prts} {w : World} (h : p.at w) : p.low w.heap.size := ⟨h.b.low, Low.of h.v, Low.of (xs := p.crt.ms.flatMap Mk.cl) h.c⟩
theorem Prts.low.mono {p : Prts} {B B' : Nat} (h : p.low B) (hb : B ≤ B') : p.low B' := ⟨h.b.mono hb, h.v.mono hb, h.c.mono hb⟩
theorem Prts.at.eff {p : Prts} {w w' : World} {B : Nat} {ts : List TypeId} (h : p.at w) (hl : p.low B) (e : Eff B ts w w') (hB : B ≤ w.heap.size) : p.at w' := ⟨h.b.eff hl.b e hB, rd_eff h.v e hB hl.v, rd_eff (xs := p.crt.ms.flatMap Mk.cl) h.c e hB hl.c⟩
theorem Prts.len (p : Prts) (h : p.ok) : p.cl.length = 485 := by
 simp [Prts.cl, p.prop.cl_len h.prop, p.blk.len h.blk, p.crt.cl_len h.crt, p.tx.cl_len h.tx, p.ev.cl_len h.ev]
theorem Prts.ex_prop (p : Prts) (h : p.ok) : p.cl.toArray.extract 0 (0 + 52) = p.prop.cl.toArray := seg_ex (A := []) rfl rfl (p.prop.cl_len h.prop)
theorem Prts.ex_blk (p : Prts) (h : p.ok) : p.cl.toArray.extract 52 (52 + 265) = p.blk.cl.toArray := seg_ex (A := p.prop.cl) rfl (p.prop.cl_len h.prop) (p.blk.len h.blk)
theorem Prts.at_v (p : Prts) (h : p.ok) : p.cl.toArray[317]? = some (.slice p.vA p.vn p.vc) := seg_at (A := p.prop.cl ++ p.blk.cl) (C := p.crt.cl ++ (p.tx.cl ++ (p.ev.cl ++ [.int .u64 p.height, .int .i64 p.round, .bool p.good, .int .i64 p.step]))) (by simp [Prts.cl]) (by simp [p.prop.cl_len h.prop, p.blk.len h.blk])
theorem Prts.ex_crt (p : Prts) (h : p.ok) : p.cl.toArray.extract 318 (318 + 35) = p.crt.cl.toArray := seg_ex (A := p.prop.cl ++ p.blk.cl ++ [.slice p.vA p.vn p.vc]) (C := p.tx.cl ++ (p.ev.cl ++ [.int .u64 p.height, .int .i64 p.round, .bool p.good, .int .i64 p.step])) (by simp [Prts.cl]) (by simp [p.prop.cl_len h.prop, p.blk.len h.blk]) (p.crt.cl_len h.crt)
theorem Prts.ex_tx (p : Prts) (h : p.ok) : p.cl.toArray.extract 353 (353 + 22) = p.tx.cl.toArray := seg_ex (A := p.prop.cl ++ p.blk.cl ++ [.slice p.vA p.vn p.vc] ++ p.crt.cl) (C := p.ev.cl ++ [.int .u64 p.height, .int .i64 p.round, .bool p.good, .int .i64 p.step]) (by simp [Prts.cl]) (by simp [p.prop.cl_len h.prop, p.blk.len h.blk, p.crt.cl_len h.crt]) (p.tx.cl_len h.tx)
theorem Prts.ex_ev (p : Prts) (h : p.ok) : p.cl.toArray.extract 375 (375 + 106) = p.ev.cl.toArray := seg_ex (A := p.prop.cl ++ p.blk.cl ++ [.slice p.vA p.vn p.vc] ++ p.crt.cl ++ p.tx.cl) (C := [.int .u64 p.height, .int .i64 p.round, .bool p.good, .int .i64 p.step]) (by simp [Prts.cl]) (by simp [p.prop.cl_len h.prop, p.blk.len h.blk, p.crt.cl_len h.crt, p.tx.cl_len h.tx]) (p.ev.cl_len h.ev)
theorem Prts.at_height (p : Prts) (h : p.ok) : p.cl.toArray[481]? = some (.int .u64 p.height) := seg_at (A := p.prop.cl ++ p.blk.cl ++ [.slice p.vA p.vn p.vc] ++ p.crt.cl ++ p.tx.cl ++ p.ev.cl) (C := [.int .i64 p.round, .bool p.good, .int .i64 p.step]) (by simp [Prts.cl]) (by simp [p.prop.cl_len h.prop, p.blk.len h.blk, p.crt.cl_len h.crt, p.tx.cl_len h.tx, p.ev.cl_len h.ev])
theorem Prts.at_round (p : Prts) (h : p.ok) : p.cl.toArray[482]? = some (.int .i64 p.round) := seg_at (A := p.prop.cl ++ p.blk.cl ++ [.slice p.vA p.vn p.vc] ++ p.crt.cl ++ p.tx.cl ++ p.ev.cl ++ [.int .u64 p.height]) (C := [.bool p.good, .int .i64 p.step]) (by simp [Prts.cl]) (by simp [p.prop.cl_len h.prop, p.blk.len h.blk, p.crt.cl_len h.crt, p.tx.cl_len h.tx, p.ev.cl_len h.ev])
theorem Prts.at_good (p : Prts) (h : p.ok) : p.cl.toArray[483]? = some (.bool p.good) := seg_at (A := p.prop.cl ++ p.blk.cl ++ [.slice p.vA p.vn p.vc] ++ p.crt.cl ++ p.tx.cl ++ p.ev.cl ++ [.int .u64 p.height, .int .i64 p.round]) (C := [.int .i64 p.step]) (by simp [Prts.cl]) (by simp [p.prop.cl_len h.prop, p.blk.len h.blk, p.crt.cl_len h.crt, p.tx.cl_len h.tx, p.ev.cl_len h.ev])
theorem Prts.at_step (p : Prts) (h : p.ok) : p.cl.toArray[484]? = some (.int .i64 p.step) := seg_at (A := p.prop.cl ++ p.blk.cl ++ [.slice p.vA p.vn p.vc] ++ p.crt.cl ++ p.tx.cl ++ p.ev.cl ++ [.int .u64 p.height, .int .i64 p.round, .bool p.good]) (C := []) (by simp [Prts.cl]) (by simp [p.prop.cl_len h.prop, p.blk.len h.blk, p.crt.cl_len h.crt, p.tx.cl_len h.tx, p.ev.cl_len h.ev])
theorem Prts.at_valid (p : Prts) (h : p.ok) : p.cl.toArray[2]? = some (.int .i64 p.prop.valid) := by
 simp [Prts.cl, Proposal.cl]
theorem Hdr.eq_of {x y : Hdr} (h : x.cl = y.cl) (hx : x.ok) (hy : y.hh.length = 224) : x = y := by
 obtain ⟨a1, a2, a3, a4, a5⟩ := x
 obtain ⟨b1, b2, b3, b4, b5⟩ := y
 simp only [Hdr.cl, List.append_assoc, List.cons_append, List.nil_append, List.cons.injEq, Value.string.injEq, Value.int.injEq, true_and] at h
 obtain ⟨h1, h2, h3, h4⟩ := h
 obtain ⟨h4, h5⟩ := List.append_inj h4 (by rw [bv_length, bv_length, hx.hh, hy])
 simp only [List.cons.injEq, Value.int.injEq, true_and, and_true] at h5
 rw [h1, h2, h3, bv_inj h4, h5]
theorem Proposal.eq_of {x y : Proposal} (h : x.cl = y.cl) (hx : x.ok) (hy : y.ok) : x = y := by
 obtain ⟨a1, a2, a3, a4, a5, a6⟩ := x
 obtain ⟨b1, b2, b3, b4, b5, b6⟩ := y
 simp only [Proposal.cl, List.append_assoc, List.cons_append, List.nil_append, List.cons.injEq, Value.int.injEq, true_and] at h
 obtain ⟨h1, h2, h3, h4⟩ := h
 obtain ⟨h4, h5⟩ := List.append_inj h4 (by rw [bv_length, bv_length, hx.id, hy.id])
 simp only [List.cons.injEq, Value.int.injEq, true_and] at h5
 obtain ⟨h5, h6⟩ := h5
 rw [h1, h2, h3, bv_inj h4, h5, bv_inj h6]
theorem Tx.eq_of {x y : Tx} (h : x.cl = y.cl) : x = y := by
 obtain ⟨a1, a2, a3, a4, a5, a6, a7⟩ := x
 obtain ⟨b1, b2, b3, b4, b5, b6, b7⟩ := y
 simp only [Tx.cl, List.append_assoc, List.cons_append, List.nil_append, List.cons.injEq, Value.int.injEq, true_and] at h
 obtain ⟨h1, h2, h3, h4, h5, h6, h7⟩ := h
 rw [h1, h2, h3, h4, h5, h6, bv_inj h7]
theorem Vote.eq_of {x y : Vote} (h : x.cl = y.cl) (hx : x.ok) (hy : y.ok) : x = y := by
 obtain ⟨a1, a2, a3, a4, a5, a6, a7⟩ := x
 obtain ⟨b1, b2, b3, b4, b5, b6, b7⟩ := y
 simp only [Vote.cl, List.append_assoc, List.cons_append, List.nil_append, List.cons.injEq, Value.int.injEq, true_and] at h
 obtain ⟨h1, h2, h3, h4⟩ := h
 obtain ⟨h4, h5⟩ := List.append_inj h4 (by rw [bv_length, bv_length, hx.id, hy.id])
 simp only [List.cons.injEq, Value.int.injEq, true_and] at h5
 obtain ⟨h5, h6, h7⟩ := h5
 rw [h1, h2, h3, bv_inj h4, h5, h6, bv_inj h7]
theorem Ev.eq_of {x y : Ev} (h : x.cl = y.cl) (hx : x.ok) (hy : y.ok) : x = y := by
 obtain ⟨a, b⟩ := x
 obtain ⟨c, d⟩ := y
 obtain ⟨h1, h2⟩ := List.append_inj (show a.cl ++ b.cl = c.cl ++ d.cl from h) (by rw [a.cl_len hx.a, c.cl_len hy.a])
 rw [Vote.eq_of h1 hx.a hy.a, Vote.eq_of h2 hx.b hy.b]
theorem zer_len (n : Nat) : (zer n).length = n := by simp [zer]
theorem u0 : U64 0 := by unfold U64; omega
theorem i0 : I64 0 := by unfold I64; omega
theorem dec_of {p : Prop} {i : Decidable p} (h : p) : @decide p i = true := decide_eq_true h
theorem zeroP_ok : zeroP.ok := ⟨u0, i0, i0, zer_len 32, u0, zer_len 16⟩
theorem zeroV_ok : zeroV.ok := ⟨i0, u0, i0, zer_len 32, u0, u0, zer_len 16⟩
theorem zeroT_ok : zeroT.ok := ⟨i0, u0, u0, u0, u0, u0, zer_len 16⟩
theorem zeroE_ok : zeroE.ok := ⟨zeroV_ok, zeroV_ok⟩
theorem zeroH_ok : zeroH.ok := ⟨by decide, u0, u0, zer_len 224, u0⟩
theorem flat_Prop : flat Tryz.prog 3 33 = some ([.int .u64, .int .i64, .int .i64] ++ List.replicate 32 (.int .u8) ++ [.int .u64] ++ List.replicate 16 (.int .u8)) := by kernel_rfl
theorem agg_Prop : isAggT Tryz.prog 33 = true := by kernel_rfl
theorem guard_Prop : Tryz.prog.eqGuardType Tryz.prog.depth 33 = false := by kernel_rfl
theorem fits_Prop {m : Proposal} (h : m.ok) : Fits ([.int .u64, .int .i64, .int .i64] ++ List.replicate 32 (.int .u8) ++ [.int .u64] ++ List.replicate 16 (.int .u8)) m.cl := Fits.app (Fits.app (Fits.app ⟨rfl, rfl, rfl, trivial⟩ (by rw [← h.id]; exact Fits.bytes m.id)) ⟨rfl, trivial⟩) (by rw [← h.sl]; exact Fits.bytes m.sl)
theorem built_PropZ : Tryz.prog.built 33 [] = some zeroP.cl.toArray := by kernel_rfl
theorem built_TxZ : Tryz.prog.built 27 [] = some zeroT.cl.toArray := by kernel_rfl
theorem built_EvZ : Tryz.prog.built 38 [] = some zeroE.cl.toArray := by kernel_rfl
theorem built_HdrZ : Tryz.prog.built 40 [] = some zeroH.cl.toArray := by kernel_rfl
theorem info_EvB : (Tryz.prog.info? 38).map (·.size) = some 106 := by kernel_rfl

def IffB (q : Bool) (p : Prop) : Prop := q = true ↔ p
theorem IffB.iff {q : Bool} {p : Prop} (h : IffB q p) : q = true ↔ p := h
set_option maxHeartbeats 2000000 in
theorem zeroBlock_any (w : World) (x : Blk) (hx : x.ok) :
  Calls Tryz.prog 194 #[.agg x.cl.toArray] w fun e w' => e = .returned (.bool (zeroBlkB x)) ∧ Below w.heap.size w w' := by
 have HX := Lib.hid hx
 have HL := Lib.hid (x.len hx)
 have HHL := Lib.hid (x.hd.cl_len hx.hd)
 have HCL := Lib.hid (x.ct.cl_len hx.ct)
 obtain ⟨q1, h1⟩ : ∃ q, (open Classical in decide (x.hd = zeroH)) = q := ⟨_, rfl⟩
 obtain ⟨q2, h2⟩ : ∃ q, ((x.tn : Int) == 0) = q := ⟨_, rfl⟩
 obtain ⟨q3, h3⟩ : ∃ q, ((x.en : Int) == 0) = q := ⟨_, rfl⟩
 obtain ⟨q4, h4⟩ : ∃ q, zeroC x.ct = q := ⟨_, rfl⟩
 have HZ := Lib.hid (show zeroBlkB x = (q1 && (q2 && (q3 && q4))) by
  have e2 : decide (x.tn = 0) = q2 := by rw [← h2]; by_cases h : x.tn = 0 <;> simp [h]
  have e3 : decide (x.en = 0) = q3 := by rw [← h3]; by_cases h : x.en = 0 <;> simp [h]
  unfold zeroBlkB
  rw [h1, e2, e3, h4])
 have HQ := Lib.hid (show IffB q1 (x.hd.cl = zeroH.cl) by
  show q1 = true ↔ _
  rw [← h1]
  constructor
  ·intro h; rw [of_dec h]
  ·intro h; exact dec_of (Hdr.eq_of h hx.hd (zer_len 224)))
 have H4 := Lib.hid h4
 clear hx h1 h4
 rw [HZ.out]
 cases q1 <;> cases q2 <;> cases q3
 all_goals
  go_enter Tryz.func194, Tryz.ntmps194
  go_wp2_with (refine wpList_box_bk rfl _ _ rfl _ rfl ?_)
  intro g w1 hb hbl hg hs
  clear hg hs
  have HK := Lib.hid (bk_eqT (cs' := x.cl.toArray) hb rfl)
  have HB1 := Lib.hid hbl
  clear hb hbl
  have c1 : w1.cell? ⟨g, 228, none⟩ = some (.slice x.tA x.tn x.tc) := (HK.out.cell 228).trans (bl_at1 HHL.out)
  have c2 : w1.cell? ⟨g, 229, none⟩ = some (.slice x.eA x.en x.ec) := (HK.out.cell 229).trans (bl_at2 HHL.out)
  go_wp2_with (first
   | (with_reducible show wpList _ _ _ (Oper.mk _ (Op.load 40 _) _ _ _ _ :: _) _ _; refine wpList_load_part rfl 40 _ rfl g 0 228 rfl _ _ _ HK.out Tryz.underlying40 rfl info_Hdr (by simp [HL.out]) _ (bl_hd HHL.out) ?_)
   | (with_reducible show wpList _ _ _ (Oper.mk _ (Op.build _ _) _ _ _ _ :: _) _ _; refine wpList_buildv rfl 40 [] rfl [] rfl _ built_HdrZ ?_)
   | (with_reducible show wpList _ _ _ (Oper.mk _ (Op.binOp BinOp.eql 40 _ _ _) _ _ _ _ :: _) _ _; go_must (refine wpList_eql_flat rfl 40 _ _ _ rfl x.hd.cl zeroH.cl rfl rfl 3 _ flat_Hdr (by omega) agg_Hdr guard_Hdr (fits_Hdr HX.out.hd) (fits_Hdr zeroH_ok) _ HQ.out.iff ?_))
   | (with_reducible show wpList _ _ _ (Oper.mk _ (Op.load 36 _) _ _ _ _ :: _) _ _; refine wpList_load_part rfl 36 _ rfl g 230 35 rfl _ _ _ HK.out Tryz.underlying36 rfl info_Crt (by simp [HL.out]) _ (x.ex_ct HX.out) ?_)
   | (go_at_call 84; go_must (refine (zeroCert_any w1 x.ct HX.out.ct).mono ?_); rintro e w2 ⟨rfl, hb2⟩; have HB2 := Lib.hid (HB1.out.trans (hb2.mono HB1.out.size)); rw [H4.out]; clear hb2))
  go_ret
  first
   | exact ⟨by simp, HB2.out⟩
   | exact ⟨by simp, HB1.out⟩

set_option maxHeartbeats 1000000 in
theorem zeroAt_0 (w : World) (p : Prts) (a : Nat) (hp : p.ok) (hk : Bk w a p.cl.toArray 177) :
  Calls Tryz.prog 142 #[.pointer (some ⟨a, 0, none⟩), .int .i64 0] w fun e w' => e = .returned (.bool (p.zero 0)) ∧ Below w.heap.size w w' := by
 have HX := Lib.hid hp
 have HK := Lib.hid hk
 have HL := Lib.hid (p.len hp)
 clear hp hk
 obtain ⟨q, hq⟩ : ∃ q, p.zero 0 = q := ⟨_, rfl⟩
 have HQ := Lib.hid (show q = true ↔ p.prop.cl = zeroP.cl by
  rw [← hq]
  constructor
  ·intro h; rw [of_dec h]
  ·intro h; exact dec_of (Proposal.eq_of h HX.out.prop zeroP_ok))
 rw [hq]
 go_enter Tryz.func142, Tryz.ntmps142
 go_wp2_with (first
   | (with_reducible show wpList _ _ _ (Oper.mk _ (Op.load 33 _) _ _ _ _ :: _) _ _; refine wpList_load_part rfl 33 _ rfl a 0 52 rfl _ _ _ HK.out Tryz.underlying33 rfl info_PropB (by simp [HL.out]) _ (p.ex_prop HX.out) ?_)
   | (with_reducible show wpList _ _ _ (Oper.mk _ (Op.build _ _) _ _ _ _ :: _) _ _; refine wpList_buildv rfl 33 [] rfl [] rfl _ built_PropZ ?_)
   | (with_reducible show wpList _ _ _ (Oper.mk _ (Op.binOp BinOp.eql 33 _ _ _) _ _ _ _ :: _) _ _; refine wpList_eql_flat rfl 33 _ _ _ rfl p.prop.cl zeroP.cl rfl rfl 3 _ flat_Prop (by omega) agg_Prop guard_Prop (fits_Prop HX.out.prop) (fits_Prop zeroP_ok) _ HQ.out ?_))
 go_ret
 exact ⟨rfl, Below.refl _ _⟩

set_option maxHeartbeats 1000000 in
theorem zeroAt_1 (w : World) (p : Prts) (a : Nat) (hp : p.ok) (hk : Bk w a p.cl.toArray 177) :
  Calls Tryz.prog 142 #[.pointer (some ⟨a, 0, none⟩), .int .i64 1] w fun e w' => e = .returned (.bool (p.zero 1)) ∧ Below w.heap.size w w' := by
 have HX := Lib.hid hp
 have HK := Lib.hid hk
 have HL := Lib.hid (p.len hp)
 clear hp hk
 go_enter Tryz.func142, Tryz.ntmps142
 go_wp2_with (first
   | (with_reducible show wpList _ _ _ (Oper.mk _ (Op.load 44 _) _ _ _ _ :: _) _ _; refine wpList_load_part rfl 44 _ rfl a 52 265 rfl _ _ _ HK.out Tryz.underlying44 rfl info_BlkB (by simp [HL.out]) _ (p.ex_blk HX.out) ?_)
   | (go_at_call 194; go_must (refine (zeroBlock_any w p.blk HX.out.blk).mono ?_); rintro e w2 ⟨rfl, hb2⟩; have HB2 := Lib.hid hb2; clear hb2))
 go_ret
 exact ⟨rfl, HB2.out⟩

set_option maxHeartbeats 1000000 in
theorem zeroAt_2 (w : World) (p : Prts) (a : Nat) (hp : p.ok) (hk : Bk w a p.cl.toArray 177) :
  Calls Tryz.prog 142 #[.pointer (some ⟨a, 0, none⟩), .int .i64 2] w fun e w' => e = .returned (.bool (p.zero 2)) ∧ Below w.heap.size w w' := by
 have HX := Lib.hid hp
 have HK := Lib.hid hk
 have HL := Lib.hid (p.len hp)
 clear hp hk
 obtain ⟨q, hq⟩ : ∃ q, ((p.vn : Int) == 0) = q := ⟨_, rfl⟩
 have HQ := Lib.hid (show p.zero 2 = q by rw [← hq]; show decide (p.vn = 0) = _; by_cases h : p.vn = 0 <;> simp [h])
 have c1 : w.cell? ⟨a, 317, none⟩ = some (.slice p.vA p.vn p.vc) := (HK.out.cell 317).trans (p.at_v HX.out)
 rw [HQ.out]
 go_enter Tryz.func142, Tryz.ntmps142
 go_wp2
 go_ret
 exact ⟨by first | rfl | simp, Below.refl _ _⟩

set_option maxHeartbeats 1000000 in
theorem zeroAt_3 (w : World) (p : Prts) (a : Nat) (hp : p.ok) (hk : Bk w a p.cl.toArray 177) :
  Calls Tryz.prog 142 #[.pointer (some ⟨a, 0, none⟩), .int .i64 3] w fun e w' => e = .returned (.bool (p.zero 3)) ∧ Below w.heap.size w w' := by
 have HX := Lib.hid hp
 have HK := Lib.hid hk
 have HL := Lib.hid (p.len hp)
 clear hp hk
 go_enter Tryz.func142, Tryz.ntmps142
 go_wp2_with (first
   | (with_reducible show wpList _ _ _ (Oper.mk _ (Op.load 36 _) _ _ _ _ :: _) _ _; refine wpList_load_part rfl 36 _ rfl a 318 35 rfl _ _ _ HK.out Tryz.underlying36 rfl info_Crt (by simp [HL.out]) _ (p.ex_crt HX.out) ?_)
   | (go_at_call 84; go_must (refine (zeroCert_any w p.crt HX.out.crt).mono ?_); rintro e w2 ⟨rfl, hb2⟩; have HB2 := Lib.hid hb2; clear hb2))
 go_ret
 exact ⟨rfl, HB2.out⟩

set_option maxHeartbeats 1000000 in
theorem zeroAt_4 (w : World) (p : Prts) (a : Nat) (hp : p.ok) (hk : Bk w a p.cl.toArray 177) :
  Calls Tryz.prog 142 #[.pointer (some ⟨a, 0, none⟩), .int .i64 4] w fun e w' => e = .returned (.bool (p.zero 4)) ∧ Below w.heap.size w w' := by
 have HX := Lib.hid hp
 have HK := Lib.hid hk
 have HL := Lib.hid (p.len hp)
 clear hp hk
 obtain ⟨q, hq⟩ : ∃ q, p.zero 4 = q := ⟨_, rfl⟩
 have HQ := Lib.hid (show q = true ↔ p.tx.cl = zeroT.cl by
  rw [← hq]
  constructor
  ·intro h; rw [of_dec h]
  ·intro h; exact dec_of (Tx.eq_of h))
 rw [hq]
 go_enter Tryz.func142, Tryz.ntmps142
 go_wp2_with (first
   | (with_reducible show wpList _ _ _ (Oper.mk _ (Op.load 27 _) _ _ _ _ :: _) _ _; refine wpList_load_part rfl 27 _ rfl a 353 22 rfl _ _ _ HK.out Tryz.underlying27 rfl info_Tx (by simp [HL.out]) _ (p.ex_tx HX.out) ?_)
   | (with_reducible show wpList _ _ _ (Oper.mk _ (Op.build _ _) _ _ _ _ :: _) _ _; refine wpList_buildv rfl 27 [] rfl [] rfl _ built_TxZ ?_)
   | (with_reducible show wpList _ _ _ (Oper.mk _ (Op.binOp BinOp.eql 27 _ _ _) _ _ _ _ :: _) _ _; refine wpList_eql_flat rfl 27 _ _ _ rfl p.tx.cl zeroT.cl rfl rfl 3 _ flat_Tx (by omega) agg_Tx guard_Tx (fits_Tx HX.out.tx) (fits_Tx zeroT_ok) _ HQ.out ?_))
 go_ret
 exact ⟨rfl, Below.refl _ _⟩

set_option maxHeartbeats 1000000 in
theorem zeroAt_5 (w : World) (p : Prts) (a : Nat) (hp : p.ok) (hk : Bk w a p.cl.toArray 177) :
  Calls Tryz.prog 142 #[.pointer (some ⟨a, 0, none⟩), .int .i64 5] w fun e w' => e = .returned (.bool (p.zero 5)) ∧ Below w.heap.size w w' := by
 have HX := Lib.hid hp
 have HK := Lib.hid hk
 have HL := Lib.hid (p.len hp)
 clear hp hk
 obtain ⟨q, hq⟩ : ∃ q, p.zero 5 = q := ⟨_, rfl⟩
 have HQ := Lib.hid (show q = true ↔ p.ev.cl = zeroE.cl by
  rw [← hq]
  constructor
  ·intro h; rw [of_dec h]
  ·intro h; exact dec_of (Ev.eq_of h HX.out.ev zeroE_ok))
 rw [hq]
 go_enter Tryz.func142, Tryz.ntmps142
 go_wp2_with (first
   | (with_reducible show wpList _ _ _ (Oper.mk _ (Op.load 38 _) _ _ _ _ :: _) _ _; refine wpList_load_part rfl 38 _ rfl a 375 106 rfl _ _ _ HK.out Tryz.underlying38 rfl info_EvB (by simp [HL.out]) _ (p.ex_ev HX.out) ?_)
   | (with_reducible show wpList _ _ _ (Oper.mk _ (Op.build _ _) _ _ _ _ :: _) _ _; refine wpList_buildv rfl 38 [] rfl [] rfl _ built_EvZ ?_)
   | (with_reducible show wpList _ _ _ (Oper.mk _ (Op.binOp BinOp.eql 38 _ _ _) _ _ _ _ :: _) _ _; refine wpList_eql_flat rfl 38 _ _ _ rfl p.ev.cl zeroE.cl rfl rfl 4 _ flat_Ev (by omega) agg_Ev guard_Ev (fits_Ev HX.out.ev) (fits_Ev zeroE_ok) _ HQ.out ?_))
 go_ret
 exact ⟨rfl, Below.refl _ _⟩

set_option maxHeartbeats 1000000 in
theorem zeroAt_6 (w : World) (p : Prts) (a : Nat) (hp : p.ok) (hk : Bk w a p.cl.toArray 177) :
  Calls Tryz.prog 142 #[.pointer (some ⟨a, 0, none⟩), .int .i64 6] w fun e w' => e = .returned (.bool (p.zero 6)) ∧ Below w.heap.size w w' := by
 have HX := Lib.hid hp
 have HK := Lib.hid hk
 have HL := Lib.hid (p.len hp)
 clear hp hk
 obtain ⟨q, hq⟩ : ∃ q, (p.height == 0) = q := ⟨_, rfl⟩
 have HQ := Lib.hid (show p.zero 6 = q by rw [← hq]; show decide (p.height = 0) = _; by_cases h : p.height = 0 <;> simp [h])
 have c1 : w.cell? ⟨a, 481, none⟩ = some (.int .u64 p.height) := (HK.out.cell 481).trans (p.at_height HX.out)
 rw [HQ.out]
 go_enter Tryz.func142, Tryz.ntmps142
 go_wp2
 go_ret
 exact ⟨by first | rfl | simp, Below.refl _ _⟩

set_option maxHeartbeats 1000000 in
theorem zeroAt_7 (w : World) (p : Prts) (a : Nat) (hp : p.ok) (hk : Bk w a p.cl.toArray 177) :
  Calls Tryz.prog 142 #[.pointer (some ⟨a, 0, none⟩), .int .i64 7] w fun e w' => e = .returned (.bool (p.zero 7)) ∧ Below w.heap.size w w' := by
 have HX := Lib.hid hp
 have HK := Lib.hid hk
 have HL := Lib.hid (p.len hp)
 clear hp hk
 obtain ⟨q, hq⟩ : ∃ q, (p.round == 0) = q := ⟨_, rfl⟩
 have HQ := Lib.hid (show p.zero 7 = q by rw [← hq]; show decide (p.round = 0) = _; by_cases h : p.round = 0 <;> simp [h])
 have c1 : w.cell? ⟨a, 482, none⟩ = some (.int .i64 p.round) := (HK.out.cell 482).trans (p.at_round HX.out)
 rw [HQ.out]
 go_enter Tryz.func142, Tryz.ntmps142
 go_wp2
 go_ret
 exact ⟨by first | rfl | simp, Below.refl _ _⟩

set_option maxHeartbeats 1000000 in
theorem zeroAt_8 (w : World) (p : Prts) (a : Nat) (hp : p.ok) (hk : Bk w a p.cl.toArray 177) :
  Calls Tryz.prog 142 #[.pointer (some ⟨a, 0, none⟩), .int .i64 8] w fun e w' => e = .returned (.bool (p.zero 8)) ∧ Below w.heap.size w w' := by
 have HX := Lib.hid hp
 have HK := Lib.hid hk
 have HL := Lib.hid (p.len hp)
 clear hp hk
 obtain ⟨q, hq⟩ : ∃ q, p.good = q := ⟨_, rfl⟩
 have HQ := Lib.hid (show p.zero 8 = !q by rw [← hq]; rfl)
 have c1 : w.cell? ⟨a, 483, none⟩ = some (.bool q) := by rw [← hq]; exact (HK.out.cell 483).trans (p.at_good HX.out)
 rw [HQ.out]
 go_enter Tryz.func142, Tryz.ntmps142
 go_wp2
 go_ret
 exact ⟨by first | rfl | simp, Below.refl _ _⟩

set_option maxHeartbeats 1000000 in
theorem zeroAt_9 (w : World) (p : Prts) (a : Nat) (hp : p.ok) (hk : Bk w a p.cl.toArray 177) :
  Calls Tryz.prog 142 #[.pointer (some ⟨a, 0, none⟩), .int .i64 9] w fun e w' => e = .returned (.bool (p.zero 9)) ∧ Below w.heap.size w w' := by
 have HX := Lib.hid hp
 have HK := Lib.hid hk
 have HL := Lib.hid (p.len hp)
 clear hp hk
 obtain ⟨q, hq⟩ : ∃ q, (p.step == 0) = q := ⟨_, rfl⟩
 have HQ := Lib.hid (show p.zero 9 = q by rw [← hq]; show decide (p.step = 0) = _; by_cases h : p.step = 0 <;> simp [h])
 have c1 : w.cell? ⟨a, 484, none⟩ = some (.int .i64 p.step) := (HK.out.cell 484).trans (p.at_step HX.out)
 rw [HQ.out]
 go_enter Tryz.func142, Tryz.ntmps142
 go_wp2
 go_ret
 exact ⟨by first | rfl | simp, Below.refl _ _⟩
theorem zero_any (w : World) (p : Prts) (a : Nat) (m : Nat) (hm : m < 10) (hp : p.ok) (hk : Bk w a p.cl.toArray 177) :
  Calls Tryz.prog 142 #[.pointer (some ⟨a, 0, none⟩), .int .i64 (m : Int)] w fun e w' => e = .returned (.bool (p.zero m)) ∧ Below w.heap.size w w' := by
 match m, hm with
 | 0, _ => exact zeroAt_0 w p a hp hk
 | 1, _ => exact zeroAt_1 w p a hp hk
 | 2, _ => exact zeroAt_2 w p a hp hk
 | 3, _ => exact zeroAt_3 w p a hp hk
 | 4, _ => exact zeroAt_4 w p a hp hk
 | 5, _ => exact zeroAt_5 w p a hp hk
 | 6, _ => exact zeroAt_6 w p a hp hk
 | 7, _ => exact zeroAt_7 w p a hp hk
 | 8, _ => exact zeroAt_8 w p a hp hk
 | 9, _ => exact zeroAt_9 w p a hp hk
end Go.Proofs.YtlhnhjglcbggmaaGreatRR
namespace Go.Proofs.YtlhnhjglcbggmaaGreatRR
set_option linter.unusedSimpArgs false
set_option linter.unusedVariables false
open Go.RowKit
set_option maxRecDepth 100000

def prevV (ms : List Vote) (k : Nat) : Option Int := if k = 0 then none else (ms[k - 1]?).map (·.frm)
theorem votesGo_drop {ms : List Vote} {k : Nat} (hk : k < ms.length) (p : Option Int) : votesGo p (ms.drop k) = if plainVote ms[k] ≠ 0 then plainVote ms[k] else if (match p with | some q => decide (ms[k].frm ≤ q) | none => false) = true then 42 else votesGo (prevV ms (k + 1)) (ms.drop (k + 1)) := by
 rw [List.drop_eq_getElem_cons hk, votesGo_cons]
 have e : prevV ms (k + 1) = some ms[k].frm := by unfold prevV; rw [if_neg (by omega), show k + 1 - 1 = k by omega, List.getElem?_eq_getElem hk]; rfl
 rw [e]
 cases p <;> rfl
set_option maxHeartbeats 4000000 in
theorem votes_any (w : World) (A : Option Addr) (n c : Nat) (xs : List Vote) (hn : n = xs.length) (hx : ∀ x ∈ xs, x.ok) (hr : Rd w A (xs.flatMap Vote.cl)) :
  Calls Tryz.prog 153 #[.slice A n c] w fun e w' => e = .returned (.int .i64 (votesErr n xs)) ∧ Below w.heap.size w w' := by
 have HN := Lib.hid hn
 have HX := Lib.hid hx
 have HR := Lib.hid hr
 have HLN := Lib.hid (show ∀ x ∈ xs, x.cl.length = 53 from fun x h => x.cl_len (hx x h))
 clear hn hx hr
 go_enter Tryz.func153, Tryz.ntmps153
 by_cases hbig : 64 < n
 ·have HBG := Lib.hid hbig
  have hb : (64 : Int) < (n : Int) := by omega
  clear hbig
  go_wp2
  go_ret
  exact ⟨ret_i64 (by unfold votesErr; rw [if_pos HBG.out]), Below.refl _ _⟩
 have hb : ¬ (64 : Int) < (n : Int) := by omega
 obtain ⟨R, hR⟩ : ∃ R, votesErr n xs = R := ⟨_, rfl⟩
 have HRP := Lib.hid (show votesGo none xs = R by rw [← hR]; unfold votesErr; rw [if_neg hbig])
 rw [hR]
 have hn16 : n ≤ 64 := by omega
 clear hbig hR
 go_wp2
 go_loopw [11] (fun i wr => ∃ k : Nat, k ≤ n ∧ i = .int .i64 (k : Int) ∧ votesGo (prevV xs k) (xs.drop k) = R ∧ Below w.heap.size w wr) (fun i _ => n - (intOf i).toNat)
 case atStart => exact ⟨0, by omega, rfl, HRP.out, Below.refl _ _⟩
 case round =>
  clear HRP
  obtain ⟨k, hk, rfl, h6, h9⟩ := hrel
  have HP4 := Lib.hid h6
  have HW := Lib.hid h9
  clear h6 h9
  by_cases hlt : k < n
  ·have hkl : k < xs.length := by rw [← HN.out]; exact hlt
   have hd := votesGo_drop hkl (prevV xs k)
   obtain ⟨ad, hA, hcell⟩ := rd_elem (by omega) HLN.out (HR.out.below HW.out) hkl
   obtain ⟨x, hxk⟩ : ∃ x, xs[k] = x := ⟨_, rfl⟩
   rw [HP4.out, hxk] at hd
   have HD := Lib.hid hd
   have HXO := Lib.hid (show x.ok from hxk ▸ HX.out _ (List.getElem_mem hkl))
   rw [hxk] at hcell
   have HC := Lib.hid hcell
   have HXL := Lib.hid (x.cl_len HXO.out)
   subst hA
   clear hcell hxk hd
   have hi : (k : Int) < n := by omega
   go_wp2_with (first
    | (with_reducible show wpList _ _ _ (Oper.mk (some 15) (Op.load _ _) _ _ _ _ :: _) _ _; go_must (refine wpList_load_at rfl 31 _ rfl (ad.add (k * 53)) 53 rfl x.cl HC.out _ Tryz.underlying31 rfl info_Vote HXL.out ?_))
    | (with_reducible show wpList _ _ _ (Oper.mk _ (Op.alloc _) _ _ _ _ :: _) _ _; refine wpList_alloc_i rfl 31 rfl (.agg zeroVote.toArray) zero_Vote ?_))
   intro q w4 k4 l4 g4 s4
   have K4 := Lib.hid k4
   have L4 := Lib.hid l4
   have G4 := Lib.hid g4
   have ZL := Lib.hid zeroVote_len
   clear k4 l4 g4 s4
   go_wp2_with (with_reducible show wpList _ _ _ (Oper.mk _ (Op.store 31 _ _) _ _ _ _ :: _) _ _; go_must (refine wpList_store_bk rfl 31 _ _ rfl q rfl (.agg x.cl.toArray) rfl _ _ K4.out (by rw [agg_sz (show x.cl.toArray.size = 53 by rw [List.size_toArray, HXL.out])]; exact info_Vote) (by rw [agg_sz (show x.cl.toArray.size = 53 by rw [List.size_toArray, HXL.out]), List.size_toArray, ZL.out]) (vote_one x) ?_))
   intro w5 h5 hg5 hs5
   have L5 := Lib.hid (below_grown2 L4.out hg5 G4.out L4.out.size)
   have K5 := Lib.hid (show Bk w5 q x.cl.toArray 31 from h5)
   clear h5 hg5 hs5 K4 L4 G4
   go_wp2_with (with_reducible show wpList _ _ _ (Oper.mk (some 16) (Op.load _ _) _ _ _ _ :: _) _ _; go_must (refine wpList_load_part rfl 31 _ rfl q 0 53 rfl _ _ _ K5.out Tryz.underlying31 rfl info_Vote (by simp [HXL.out]) _ (cl_allN HXL.out) ?_); go_wp2_with fail)
   refine (plainVote_any w5 x HXO.out).mono ?_
   rintro e w8 ⟨rfl, hl6⟩
   have L6 := Lib.hid (L5.out.trans (hl6.mono L5.out.size))
   have HBW := Lib.hid (HW.out.trans (L6.out.mono HW.out.size))
   have K8 := Lib.hid (K5.out.below hl6 K5.out.lt)
   clear hl6
   obtain ⟨E, hE⟩ : ∃ E, plainVote x = E := ⟨_, rfl⟩
   rw [hE] at HD ⊢
   clear hE
   by_cases hz : E = 0
   ·have f1 : (E != 0) = false := by simp [hz]
    have HD0 := Lib.hid (show R = if (match prevV xs k with | some q => decide (x.frm ≤ q) | none => false) = true then 42 else votesGo (prevV xs (k + 1)) (xs.drop (k + 1)) by rw [HD.out, if_neg (by simp [hz])])
    clear hz HD
    by_cases hk0 : k = 0
    ·have HD1 := Lib.hid (show R = votesGo (prevV xs (k + 1)) (xs.drop (k + 1)) by rw [HD0.out, hk0]; rfl)
     have hk1 : decide ((0 : Int) < (k : Int)) = false := decide_eq_false (by omega)
     have hk2 : decide (0 < k) = false := decide_eq_false (by omega)
     clear hk0
     go_wp2_with fail
     refine wp_region_still_tail 12 (by kernel_rfl) (by kernel_rfl) ?_
     simp only [List.take_succ_cons, List.take_zero, List.drop_succ_cons, List.drop_zero]
     refine still_quiet _ _ ?_
     repeat (first | go_big_quiet_skip | (go_big_quiet_want; go_big_quiet_op; go_big_quiet_on))
     refine wpQuiet_nil ?_
     change wpList _ _ _ _ _ w8.drew
     go_wp2
     go_round
     case rel => first
      | exact ⟨k + 1, by omega, by go_num, HD1.out.symm, HBW.out⟩
      | exact ⟨k + 1, by omega, by go_num, HD1.out.symm, HBW.out.drew⟩
     case measure => simp [intOf]; omega
    ·have hk1 : decide ((0 : Int) < (k : Int)) = true := decide_eq_true (by omega)
     have hk2 : decide (0 < k) = true := decide_eq_true (by omega)
     have hkp : k - 1 < xs.length := by omega
     obtain ⟨ad', ha', hcp⟩ := rd_elem (by omega) HLN.out (HR.out.below HBW.out) hkp
     injection ha' with ha'
     subst ha'
     obtain ⟨pm, hpm⟩ : ∃ pm, xs[k - 1] = pm := ⟨_, rfl⟩
     have hpo : pm.ok := hpm ▸ HX.out _ (List.getElem_mem hkp)
     rw [hpm] at hcp
     have hpv : prevV xs k = some pm.frm := by unfold prevV; rw [if_neg hk0, List.getElem?_eq_getElem hkp, hpm]; rfl
     have c0 : w8.cell? ⟨q, 36, none⟩ = some (.int .u64 x.frm) := (K8.out.cell 36).trans (x.cl_36 HXO.out.id)
     have c3 : w8.cell? ⟨(ad.add ((k - 1) * 53)).block, (ad.add ((k - 1) * 53)).off + 36, none⟩ = some (.int .u64 pm.frm) := hcp 36 _ (by have := pm.cl_36 hpo.id; rwa [List.getElem?_toArray] at this)
     have p1 : IntKind.i64.wrap ((k : Int) - 1) = (k : Int) - 1 := by rw [IntKind.wrap_i64]; omega
     have p2 : ((k : Int) - 1).toNat = k - 1 := by omega
     have p3 : (0 : Int) ≤ (k : Int) - 1 := by omega
     have p4 : (k : Int) - 1 < n := by omega
     have p5 : k - 1 < n := by omega
     obtain ⟨b, hb⟩ : ∃ b, decide (x.frm ≤ pm.frm) = b := ⟨_, rfl⟩
     have HD1 := Lib.hid (show R = if b = true then 42 else votesGo (prevV xs (k + 1)) (xs.drop (k + 1)) by rw [HD0.out, hpv]; simp only [hb])
     have HBB := Lib.hid hb
     clear hpv hpm hk0 hcp
     cases b
     ·go_wp2_with fail
      refine wp_region_still_tail 12 (by kernel_rfl) (by kernel_rfl) ?_
      simp only [List.take_succ_cons, List.take_zero, List.drop_succ_cons, List.drop_zero]
      refine still_quiet _ _ ?_
      repeat (first | go_big_quiet_skip | (go_big_quiet_want; go_big_quiet_op; go_big_quiet_on))
      refine wpQuiet_nil ?_
      change wpList _ _ _ _ _ w8.drew
      go_wp2
      go_round
      case rel => first
       | exact ⟨k + 1, by omega, by go_num, HD1.out.symm, HBW.out⟩
       | exact ⟨k + 1, by omega, by go_num, HD1.out.symm, HBW.out.drew⟩
      case measure => simp [intOf]; omega
     ·go_wp2_with fail
      refine wp_region_still_tail 12 (by kernel_rfl) (by kernel_rfl) ?_
      simp only [List.take_succ_cons, List.take_zero, List.drop_succ_cons, List.drop_zero]
      refine still_quiet _ _ ?_
      repeat (first | go_big_quiet_skip | (go_big_quiet_want; go_big_quiet_op; go_big_quiet_on))
      refine wpQuiet_nil ?_
      change wpList _ _ _ _ _ w8.drew
      go_wp2
      go_ret
      first
       | exact ⟨ret_i64 (by rw [HD1.out]; rfl), HBW.out⟩
       | exact ⟨ret_i64 (by rw [HD1.out]; rfl), HBW.out.drew⟩
   ·have f1 : (E != 0) = true := by simp [hz]
    have HER := Lib.hid (show R = E by rw [HD.out, if_pos hz])
    clear hz
    go_wp2
    go_ret
    exact ⟨ret_i64 HER.out.symm, HBW.out⟩
  ·have hkn : k = n := by omega
   subst hkn
   have HER := Lib.hid (show R = 0 by rw [← HP4.out, HN.out, List.drop_length]; cases prevV xs xs.length <;> rfl)
   clear hlt
   go_wp2
   go_ret
   exact ⟨ret_i64 HER.out.symm, HW.out⟩
end Go.Proofs.YtlhnhjglcbggmaaGreatRR

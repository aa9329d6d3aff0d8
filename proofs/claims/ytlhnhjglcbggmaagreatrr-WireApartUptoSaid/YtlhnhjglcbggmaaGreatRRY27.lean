/-
  EncodeMsg, EncodeInput. Conditions: each number fits its kind; lists lie in the world.
  The median of a certificate's times, by both ways; a council's soundness, in plain Lean. No program here.
  A state: what is plain, the form; the form says where it ends, how long it is at most. No program here.
-/
import Derived.Test.YtlhnhjglcbggmaaGreatRRYPb13
import Derived.Test.YtlhnhjglcbggmaaGreatRRY08
import Derived.Test.YtlhnhjglcbggmaaGreatRRY18
namespace Go.Proofs.YtlhnhjglcbggmaaGreatRR
set_option linter.unusedSimpArgs false
set_option linter.unusedVariables false
open Go.RowKit
set_option maxRecDepth 100000

structure Mg where
 k : Int
 p : Prts
def Mg.cl (x : Mg) : List Value := msgCl x.k x.p
def Mg.ok (x : Mg) : Prop := MsgOk x.k x.p
def Mg.at (x : Mg) (w : World) : Prop := x.p.at w
theorem Mg.cl_len (x : Mg) (h : x.ok) : x.cl.length = 484 := msgCl_len x.k x.p h.ok
noncomputable def plainMg (x : Mg) : Int := plainMsg x.k x.p
def formMg (x : Mg) : List UInt8 := formMsg x.k x.p
theorem formMg_len {x : Mg} (hx : x.ok) (h : plainMg x = 0) : (formMg x).length ≤ 90001 := by
 have hz := plainMsg_zero h
 have h1 := forms_bd hx.ok (usesMsg x.k) hz.2.2.2
 have h2 := usesMsg_bd x.k
 unfold formMg formMsg
 simp only [List.length_append, List.length_cons, List.length_nil]
 omega
structure Ip where
 k : Int
 now : Int
 p : Prts
def Ip.cl (x : Ip) : List Value := inputCl x.k x.now x.p
def Ip.ok (x : Ip) : Prop := InputOk x.k x.now x.p
def Ip.at (x : Ip) (w : World) : Prop := x.p.at w
theorem Ip.cl_len (x : Ip) (h : x.ok) : x.cl.length = 323 := inputCl_len x.k x.now x.p h.ok
noncomputable def plainIp (x : Ip) : Int := plainInput x.k x.now x.p
def formIp (x : Ip) : List UInt8 := formInput x.k x.now x.p
theorem formIp_len {x : Ip} (hx : x.ok) (h : plainIp x = 0) : (formIp x).length ≤ 90011 := by
 have hz := plainInput_zero h
 have h1 := forms_bd hx.ok (usesInput x.k) hz.2.2.2.2
 have h2 := usesInput_bd x.k
 have h3 := varB_int (n := x.now) hx.now.1 (by have := hx.now.2; unfold two64; omega)
 unfold formIp formInput
 simp only [List.length_append, List.length_cons, List.length_nil]
 omega
theorem plainMg_any (w : World) (x : Mg) (hx : x.ok) (hat : x.at w) : Calls Tryz.prog 51 #[.agg x.cl.toArray] w fun e w' => e = .returned (.int .i64 (plainMg x)) ∧ Below w.heap.size w w' := PlainMsg_any w x.k x.p hx hat
theorem putMg_any (w : World) (B g : Nat) (bs : List UInt8) (x : Mg) (hx : x.ok) (hpl : plainMg x = 0) (hat : x.at w) (hlo : x.p.low B) (hB : B ≤ w.heap.size) (hw : Wr w B g bs) (hb : bs.length + 1000000 ≤ room46) :
  Calls Tryz.prog 52 #[.pointer (some ⟨g, 0, none⟩), .agg x.cl.toArray] w fun e w' => e = .returned (.tuple #[]) ∧ Wr w' B g (bs ++ formMg x) ∧ Eff B WrT w w' := putMsg_any w B g bs x.k x.p hx hpl hat hlo hB hw hb
theorem plainIp_any (w : World) (x : Ip) (hx : x.ok) (hat : x.at w) : Calls Tryz.prog 57 #[.agg x.cl.toArray] w fun e w' => e = .returned (.int .i64 (plainIp x)) ∧ Below w.heap.size w w' := PlainInput_any w x.k x.now x.p hx hat
theorem putIp_any (w : World) (B g : Nat) (bs : List UInt8) (x : Ip) (hx : x.ok) (hpl : plainIp x = 0) (hat : x.at w) (hlo : x.p.low B) (hB : B ≤ w.heap.size) (hw : Wr w B g bs) (hb : bs.length + 1000000 ≤ room46) :
  Calls Tryz.prog 58 #[.pointer (some ⟨g, 0, none⟩), .agg x.cl.toArray] w fun e w' => e = .returned (.tuple #[]) ∧ Wr w' B g (bs ++ formIp x) ∧ Eff B WrT w w' := putInput_any w B g bs x.k x.now x.p hx hpl hat hlo hB hw hb

set_option maxHeartbeats 2000000 in
theorem encodeMg_any (w : World) (x : Mg) (hx : x.ok) (hat : x.at w) :
  Calls Tryz.prog 50 #[.agg x.cl.toArray, .int .i64 262144, .func (.func 51) #[] #[], .func (.func 52) #[] #[]] w (BytesRes w (plainMg x) (formMg x)) := by
 have HX := Lib.hid hx
 have HAT := Lib.hid hat
 clear hat
 have HL := Lib.hid (x.cl_len hx)
 clear hx
 obtain ⟨F, hF⟩ : ∃ F, plainMg x = F := ⟨_, rfl⟩
 have HF := Lib.hid hF
 rw [hF]
 clear hF
 by_cases hf : F = 0
 ·have HB := Lib.hid (HF.out.trans hf)
  have f1 : (F != 0) = false := by simp [hf]
  have f2 : (F == 0) = true := by simp [hf]
  have HZ := Lib.hid hf
  clear hf
  go_enter Tryz.func50, Tryz.ntmps50
  go_wp2_with (first
   | (with_reducible show wpList _ _ _ (Oper.mk _ (Op.box _ _) _ _ _ _ :: _) _ _; refine wpList_box_bk rfl _ _ rfl _ rfl ?_; intro bx w1 hk hbl hg hs; have HK1 := Lib.hid (bk_eqT (cs' := x.cl.toArray) hk rfl); have HB1 := Lib.hid hbl; clear hk hbl hg hs)
   | (with_reducible show wpList _ _ _ (Oper.mk (some 15) (Op.load _ _) _ _ _ _ :: _) _ _; refine wpList_load_part rfl 47 _ rfl bx 0 484 rfl _ _ _ HK1.out Tryz.underlying47 rfl info_Msg (by simp [HL.out]) _ (cl_allN HL.out) ?_))
  refine (plainMg_any w1 x HX.out (Prts.at.below HAT.out HB1.out)).mono ?_
  rintro e w2 ⟨rfl, e2⟩
  rw [HF.out]
  have HB2 := Lib.hid (HB1.out.trans (e2.mono HB1.out.size))
  have HK2 := Lib.hid (HK1.out.below e2 HK1.out.lt)
  clear e2 HB1 HK1
  go_wp2_with fail
  refine (newWriter_any w2).mono ?_
  rintro e w3 ⟨g, rfl, hw3, e3⟩
  have HK3 := Lib.hid (HK2.out.below e3 HK2.out.lt)
  have HS2 := Lib.hid HB2.out.size
  have HS3 := Lib.hid e3.size
  have HB3 := Lib.hid (HB2.out.trans (e3.mono HB2.out.size))
  clear e3 HK2
  go_wp2_with (with_reducible show wpList _ _ _ (Oper.mk (some 23) (Op.load _ _) _ _ _ _ :: _) _ _; refine wpList_load_part rfl 47 _ rfl bx 0 484 rfl _ _ _ HK3.out Tryz.underlying47 rfl info_Msg (by simp [HL.out]) _ (cl_allN HL.out) ?_)
  refine (putMg_any w3 _ g [] x HX.out HB.out (Prts.at.below HAT.out HB3.out) ((Prts.at.low HAT.out).mono HS2.out) HS3.out hw3 (by unfold room46; simp)).mono ?_
  rintro e w4 ⟨rfl, hw4, e4⟩
  have hlen : ([] ++ (formMg x)).length ≤ reach47 ∧ ([] ++ (formMg x)).length ≤ 262144 := by
   have h1 := formMg_len HX.out HB.out
   unfold reach47
   rw [List.nil_append]
   omega
  have HLEN := Lib.hid hlen
  have HB4 := Lib.hid (HB3.out.trans (e4.to HS2.out HS3.out))
  clear hlen e4
  go_wp2_with fail
  refine (out_any w4 _ g _ hw4 HLEN.out.1).mono ?_
  rintro e w5 ⟨v, rfl, hv, e5⟩
  obtain ⟨Av, cv, rfl⟩ := hv.form
  have HB5 := Lib.hid (HB4.out.trans (e5.mono HB4.out.size))
  have HV := Lib.hid (hv.mono HB4.out.size)
  have HE := Lib.hid (show ([] ++ (formMg x) : List UInt8) = (formMg x) from rfl)
  rw [HE.out] at HLEN HV ⊢
  obtain ⟨bs, hbs⟩ : ∃ bs, formMg x = bs := ⟨_, rfl⟩
  rw [hbs] at HLEN HV ⊢
  obtain ⟨L, hL⟩ : ∃ L, bs.length = L := ⟨_, rfl⟩
  have HBS := Lib.hid hbs
  rw [hL] at HLEN HV ⊢
  have hl9 : ¬ ((262144 : Int) < (L : Int)) := by have := HLEN.out.2; omega
  clear hv e5 hw3 hw4 hbs HE HLEN hL
  go_wp2
  go_ret2
  exact ⟨HB5.out, .inr ⟨HZ.out, .slice Av L cv, rfl, by rw [HBS.out]; exact HV.out⟩⟩
 ·have f1 : (F != 0) = true := by simp [hf]
  have f2 : (F == 0) = false := by simp [hf]
  have HZ := Lib.hid hf
  clear hf
  go_enter Tryz.func50, Tryz.ntmps50
  go_wp2_with (first
   | (with_reducible show wpList _ _ _ (Oper.mk _ (Op.box _ _) _ _ _ _ :: _) _ _; refine wpList_box_bk rfl _ _ rfl _ rfl ?_; intro bx w1 hk hbl hg hs; have HK1 := Lib.hid (bk_eqT (cs' := x.cl.toArray) hk rfl); have HB1 := Lib.hid hbl; clear hk hbl hg hs)
   | (with_reducible show wpList _ _ _ (Oper.mk (some 15) (Op.load _ _) _ _ _ _ :: _) _ _; refine wpList_load_part rfl 47 _ rfl bx 0 484 rfl _ _ _ HK1.out Tryz.underlying47 rfl info_Msg (by simp [HL.out]) _ (cl_allN HL.out) ?_))
  refine (plainMg_any w1 x HX.out (Prts.at.below HAT.out HB1.out)).mono ?_
  rintro e w2 ⟨rfl, e2⟩
  rw [HF.out]
  have HB2 := Lib.hid (HB1.out.trans (e2.mono HB1.out.size))
  clear e2
  go_wp2
  go_ret2
  exact ⟨HB2.out, .inl ⟨HZ.out, rfl⟩⟩

set_option maxHeartbeats 1000000 in
theorem EncodeMg_any (w : World) (x : Mg) (hx : x.ok) (hat : x.at w) :
  Calls Tryz.prog 19 #[.agg x.cl.toArray] w (BytesRes w (plainMg x) (formMg x)) := by
 have HL := Lib.hid (x.cl_len hx)
 have HX := Lib.hid hx
 have HAT := Lib.hid hat
 clear hat
 clear hx
 obtain ⟨F, hF⟩ : ∃ F, plainMg x = F := ⟨_, rfl⟩
 have HF := Lib.hid hF
 rw [hF]
 clear hF
 go_enter Tryz.func19, Tryz.ntmps19
 go_wp2_with (first
   | (with_reducible show wpList _ _ _ (Oper.mk _ (Op.box _ _) _ _ _ _ :: _) _ _; refine wpList_box_bk rfl _ _ rfl _ rfl ?_; intro bx w1 hk hbl hg hs; have HK1 := Lib.hid (bk_eqT (cs' := x.cl.toArray) hk rfl); have HB1 := Lib.hid hbl; clear hk hbl hg hs)
   | (with_reducible show wpList _ _ _ (Oper.mk (some 4) (Op.load _ _) _ _ _ _ :: _) _ _; refine wpList_load_part rfl 47 _ rfl bx 0 484 rfl _ _ _ HK1.out Tryz.underlying47 rfl info_Msg (by simp [HL.out]) _ (cl_allN HL.out) ?_))
 refine (encodeMg_any w1 x HX.out (Prts.at.below HAT.out HB1.out)).mono ?_
 rw [HF.out]
 rintro e w2 ⟨e2, ⟨hz, rfl⟩ | ⟨hz, v, rfl, hv⟩⟩
 ·have HZ := Lib.hid hz
  have HB2 := Lib.hid (HB1.out.trans (e2.mono HB1.out.size))
  clear hz e2
  go_wp2
  go_ret2
  exact ⟨HB2.out, .inl ⟨HZ.out, rfl⟩⟩
 ·obtain ⟨Av, cv, rfl⟩ := hv.form
  have HZ := Lib.hid hz
  have HB2 := Lib.hid (HB1.out.trans (e2.mono HB1.out.size))
  have HV := Lib.hid (hv.mono HB1.out.size)
  clear hz e2 hv
  go_wp2
  go_ret2
  exact ⟨HB2.out, .inr ⟨HZ.out, _, rfl, HV.out⟩⟩

set_option maxHeartbeats 2000000 in
theorem encodeIp_any (w : World) (x : Ip) (hx : x.ok) (hat : x.at w) :
  Calls Tryz.prog 56 #[.agg x.cl.toArray, .int .i64 262400, .func (.func 57) #[] #[], .func (.func 58) #[] #[]] w (BytesRes w (plainIp x) (formIp x)) := by
 have HX := Lib.hid hx
 have HAT := Lib.hid hat
 clear hat
 have HL := Lib.hid (x.cl_len hx)
 clear hx
 obtain ⟨F, hF⟩ : ∃ F, plainIp x = F := ⟨_, rfl⟩
 have HF := Lib.hid hF
 rw [hF]
 clear hF
 by_cases hf : F = 0
 ·have HB := Lib.hid (HF.out.trans hf)
  have f1 : (F != 0) = false := by simp [hf]
  have f2 : (F == 0) = true := by simp [hf]
  have HZ := Lib.hid hf
  clear hf
  go_enter Tryz.func56, Tryz.ntmps56
  go_wp2_with (first
   | (with_reducible show wpList _ _ _ (Oper.mk _ (Op.box _ _) _ _ _ _ :: _) _ _; refine wpList_box_bk rfl _ _ rfl _ rfl ?_; intro bx w1 hk hbl hg hs; have HK1 := Lib.hid (bk_eqT (cs' := x.cl.toArray) hk rfl); have HB1 := Lib.hid hbl; clear hk hbl hg hs)
   | (with_reducible show wpList _ _ _ (Oper.mk (some 15) (Op.load _ _) _ _ _ _ :: _) _ _; refine wpList_load_part rfl 49 _ rfl bx 0 323 rfl _ _ _ HK1.out Tryz.underlying49 rfl info_Input (by simp [HL.out]) _ (cl_allN HL.out) ?_))
  refine (plainIp_any w1 x HX.out (Prts.at.below HAT.out HB1.out)).mono ?_
  rintro e w2 ⟨rfl, e2⟩
  rw [HF.out]
  have HB2 := Lib.hid (HB1.out.trans (e2.mono HB1.out.size))
  have HK2 := Lib.hid (HK1.out.below e2 HK1.out.lt)
  clear e2 HB1 HK1
  go_wp2_with fail
  refine (newWriter_any w2).mono ?_
  rintro e w3 ⟨g, rfl, hw3, e3⟩
  have HK3 := Lib.hid (HK2.out.below e3 HK2.out.lt)
  have HS2 := Lib.hid HB2.out.size
  have HS3 := Lib.hid e3.size
  have HB3 := Lib.hid (HB2.out.trans (e3.mono HB2.out.size))
  clear e3 HK2
  go_wp2_with (with_reducible show wpList _ _ _ (Oper.mk (some 23) (Op.load _ _) _ _ _ _ :: _) _ _; refine wpList_load_part rfl 49 _ rfl bx 0 323 rfl _ _ _ HK3.out Tryz.underlying49 rfl info_Input (by simp [HL.out]) _ (cl_allN HL.out) ?_)
  refine (putIp_any w3 _ g [] x HX.out HB.out (Prts.at.below HAT.out HB3.out) ((Prts.at.low HAT.out).mono HS2.out) HS3.out hw3 (by unfold room46; simp)).mono ?_
  rintro e w4 ⟨rfl, hw4, e4⟩
  have hlen : ([] ++ (formIp x)).length ≤ reach47 ∧ ([] ++ (formIp x)).length ≤ 262400 := by
   have h1 := formIp_len HX.out HB.out
   unfold reach47
   rw [List.nil_append]
   omega
  have HLEN := Lib.hid hlen
  have HB4 := Lib.hid (HB3.out.trans (e4.to HS2.out HS3.out))
  clear hlen e4
  go_wp2_with fail
  refine (out_any w4 _ g _ hw4 HLEN.out.1).mono ?_
  rintro e w5 ⟨v, rfl, hv, e5⟩
  obtain ⟨Av, cv, rfl⟩ := hv.form
  have HB5 := Lib.hid (HB4.out.trans (e5.mono HB4.out.size))
  have HV := Lib.hid (hv.mono HB4.out.size)
  have HE := Lib.hid (show ([] ++ (formIp x) : List UInt8) = (formIp x) from rfl)
  rw [HE.out] at HLEN HV ⊢
  obtain ⟨bs, hbs⟩ : ∃ bs, formIp x = bs := ⟨_, rfl⟩
  rw [hbs] at HLEN HV ⊢
  obtain ⟨L, hL⟩ : ∃ L, bs.length = L := ⟨_, rfl⟩
  have HBS := Lib.hid hbs
  rw [hL] at HLEN HV ⊢
  have hl9 : ¬ ((262400 : Int) < (L : Int)) := by have := HLEN.out.2; omega
  clear hv e5 hw3 hw4 hbs HE HLEN hL
  go_wp2
  go_ret2
  exact ⟨HB5.out, .inr ⟨HZ.out, .slice Av L cv, rfl, by rw [HBS.out]; exact HV.out⟩⟩
 ·have f1 : (F != 0) = true := by simp [hf]
  have f2 : (F == 0) = false := by simp [hf]
  have HZ := Lib.hid hf
  clear hf
  go_enter Tryz.func56, Tryz.ntmps56
  go_wp2_with (first
   | (with_reducible show wpList _ _ _ (Oper.mk _ (Op.box _ _) _ _ _ _ :: _) _ _; refine wpList_box_bk rfl _ _ rfl _ rfl ?_; intro bx w1 hk hbl hg hs; have HK1 := Lib.hid (bk_eqT (cs' := x.cl.toArray) hk rfl); have HB1 := Lib.hid hbl; clear hk hbl hg hs)
   | (with_reducible show wpList _ _ _ (Oper.mk (some 15) (Op.load _ _) _ _ _ _ :: _) _ _; refine wpList_load_part rfl 49 _ rfl bx 0 323 rfl _ _ _ HK1.out Tryz.underlying49 rfl info_Input (by simp [HL.out]) _ (cl_allN HL.out) ?_))
  refine (plainIp_any w1 x HX.out (Prts.at.below HAT.out HB1.out)).mono ?_
  rintro e w2 ⟨rfl, e2⟩
  rw [HF.out]
  have HB2 := Lib.hid (HB1.out.trans (e2.mono HB1.out.size))
  clear e2
  go_wp2
  go_ret2
  exact ⟨HB2.out, .inl ⟨HZ.out, rfl⟩⟩

set_option maxHeartbeats 1000000 in
theorem EncodeIp_any (w : World) (x : Ip) (hx : x.ok) (hat : x.at w) :
  Calls Tryz.prog 20 #[.agg x.cl.toArray] w (BytesRes w (plainIp x) (formIp x)) := by
 have HL := Lib.hid (x.cl_len hx)
 have HX := Lib.hid hx
 have HAT := Lib.hid hat
 clear hat
 clear hx
 obtain ⟨F, hF⟩ : ∃ F, plainIp x = F := ⟨_, rfl⟩
 have HF := Lib.hid hF
 rw [hF]
 clear hF
 go_enter Tryz.func20, Tryz.ntmps20
 go_wp2_with (first
   | (with_reducible show wpList _ _ _ (Oper.mk _ (Op.box _ _) _ _ _ _ :: _) _ _; refine wpList_box_bk rfl _ _ rfl _ rfl ?_; intro bx w1 hk hbl hg hs; have HK1 := Lib.hid (bk_eqT (cs' := x.cl.toArray) hk rfl); have HB1 := Lib.hid hbl; clear hk hbl hg hs)
   | (with_reducible show wpList _ _ _ (Oper.mk (some 4) (Op.load _ _) _ _ _ _ :: _) _ _; refine wpList_load_part rfl 49 _ rfl bx 0 323 rfl _ _ _ HK1.out Tryz.underlying49 rfl info_Input (by simp [HL.out]) _ (cl_allN HL.out) ?_))
 refine (encodeIp_any w1 x HX.out (Prts.at.below HAT.out HB1.out)).mono ?_
 rw [HF.out]
 rintro e w2 ⟨e2, ⟨hz, rfl⟩ | ⟨hz, v, rfl, hv⟩⟩
 ·have HZ := Lib.hid hz
  have HB2 := Lib.hid (HB1.out.trans (e2.mono HB1.out.size))
  clear hz e2
  go_wp2
  go_ret2
  exact ⟨HB2.out, .inl ⟨HZ.out, rfl⟩⟩
 ·obtain ⟨Av, cv, rfl⟩ := hv.form
  have HZ := Lib.hid hz
  have HB2 := Lib.hid (HB1.out.trans (e2.mono HB1.out.size))
  have HV := Lib.hid (hv.mono HB1.out.size)
  clear hz e2 hv
  go_wp2
  go_ret2
  exact ⟨HB2.out, .inr ⟨HZ.out, _, rfl, HV.out⟩⟩
end Go.Proofs.YtlhnhjglcbggmaaGreatRR
namespace Go.Proofs.YtlhnhjglcbggmaaGreatRR
set_option linter.unusedSimpArgs false
set_option linter.unusedVariables false
open Go.RowKit
set_option maxRecDepth 100000

section
variable {α : Type} (t p : α → Int)
end

/-- a member of a council -/
structure Mem where
 addr : Int
 power : Int
 prio : Int
def Mem.cl (m : Mem) : List Value := [.int .u64 m.addr, .int .u64 m.power, .int .i64 m.prio]
structure Mem.ok (m : Mem) : Prop where
 addr : U64 m.addr
 power : U64 m.power
 prio : I64 m.prio
theorem Mem.cl_len (m : Mem) : m.cl.length = 3 := rfl
def supply : Int := 1152921504606846975
end Go.Proofs.YtlhnhjglcbggmaaGreatRR
namespace Go.Proofs.YtlhnhjglcbggmaaGreatRR
set_option linter.unusedSimpArgs false
set_option linter.unusedVariables false
open Go.RowKit
set_option maxRecDepth 100000

/-- a council; its members lie at A -/
structure Cou where
 A : Option Addr
 n : Nat
 c : Nat
 ms : List Mem
def Cou.cl (x : Cou) : List Value := [.slice x.A x.n x.c]
structure Cou.ok (x : Cou) : Prop where
 n : x.n = x.ms.length
 ms : ∀ m ∈ x.ms, m.ok
def Cou.at (x : Cou) (w : World) : Prop := Rd w x.A (x.ms.flatMap Mem.cl)
structure Pst where
 height : Int
 time : Int
 cou : Cou
def Pst.cl (x : Pst) : List Value := [.int .u64 x.height, .int .u64 x.time, .slice x.cou.A x.cou.n x.cou.c]
structure Pst.ok (x : Pst) : Prop where
 height : U64 x.height
 time : U64 x.time
 cou : x.cou.ok
structure Off where
 height : Int
 addr : Int
def Off.cl (x : Off) : List Value := [.int .u64 x.height, .int .u64 x.addr]
structure Off.ok (x : Off) : Prop where
 height : U64 x.height
 addr : U64 x.addr
structure Acc where
 addr : Int
 bal : Int
 bond : Int
 nonce : Int
 jailed : Bool
def Acc.cl (x : Acc) : List Value := [.int .u64 x.addr, .int .u64 x.bal, .int .u64 x.bond, .int .u64 x.nonce, .bool x.jailed]
structure Acc.ok (x : Acc) : Prop where
 addr : U64 x.addr
 bal : U64 x.bal
 bond : U64 x.bond
 nonce : U64 x.nonce
structure Rls where
 height : Int
 addr : Int
 born : Int
 amount : Int
def Rls.cl (x : Rls) : List Value := [.int .u64 x.height, .int .u64 x.addr, .int .u64 x.born, .int .u64 x.amount]
structure Rls.ok (x : Rls) : Prop where
 height : U64 x.height
 addr : U64 x.addr
 born : U64 x.born
 amount : U64 x.amount
structure Par where
 bond : Int
 seats : Int
 slash : Int
 period : Int
 age : Int
 txs : Int
 propose : Int
 votes : Int
 pause : Int
 resend : Int
 trust : Int
 drift : Int
def Par.cl (p : Par) : List Value := [.int .u64 p.bond, .int .i64 p.seats, .int .u64 p.slash, .int .u64 p.period, .int .u64 p.age, .int .i64 p.txs, .int .u64 p.propose, .int .u64 p.votes, .int .u64 p.pause, .int .u64 p.resend, .int .u64 p.trust, .int .u64 p.drift]
structure Par.ok (p : Par) : Prop where
 bond : U64 p.bond
 seats : I64 p.seats
 slash : U64 p.slash
 period : U64 p.period
 age : U64 p.age
 txs : I64 p.txs
 propose : U64 p.propose
 votes : U64 p.votes
 pause : U64 p.pause
 resend : U64 p.resend
 trust : U64 p.trust
 drift : U64 p.drift
structure Sta where
 chain : ByteArray
 par : Par
 height : Int
 time : Int
 last : List UInt8
 cou : Cou
 next : Cou
 pA : Option Addr
 pn : Nat
 pc : Nat
 ps : List Pst
 oA : Option Addr
 on : Nat
 oc : Nat
 os : List Off
 aA : Option Addr
 an : Nat
 ac : Nat
 acs : List Acc
 rA : Option Addr
 rn : Nat
 rc : Nat
 rs : List Rls
 burnt : Int
 supply : Int
def Sta.cl (x : Sta) : List Value := [.string x.chain] ++ x.par.cl ++ [.int .u64 x.height, .int .u64 x.time] ++ bv x.last ++ x.cou.cl ++ x.next.cl ++ [.slice x.pA x.pn x.pc, .slice x.oA x.on x.oc, .slice x.aA x.an x.ac, .slice x.rA x.rn x.rc, .int .u64 x.burnt, .int .u64 x.supply]
structure Sta.ok (x : Sta) : Prop where
 chain : x.chain.size ≤ 9223372036854775807
 par : x.par.ok
 height : U64 x.height
 time : U64 x.time
 last : x.last.length = 32
 cou : x.cou.ok
 next : x.next.ok
 pn : x.pn = x.ps.length
 ps : ∀ p ∈ x.ps, p.ok
 on : x.on = x.os.length
 os : ∀ p ∈ x.os, p.ok
 an : x.an = x.acs.length
 acs : ∀ p ∈ x.acs, p.ok
 rn : x.rn = x.rs.length
 rs : ∀ p ∈ x.rs, p.ok
 burnt : U64 x.burnt
 supply : U64 x.supply
structure Sta.at (x : Sta) (w : World) : Prop where
 cou : x.cou.at w
 next : x.next.at w
 p : Rd w x.pA (x.ps.flatMap Pst.cl)
 pc : ∀ p ∈ x.ps, p.cou.at w
 o : Rd w x.oA (x.os.flatMap Off.cl)
 a : Rd w x.aA (x.acs.flatMap Acc.cl)
 r : Rd w x.rA (x.rs.flatMap Rls.cl)
-- ---- what is plain
def badKey (a b : Int × Int) : Bool := decide (b.1 < a.1) || (decide (a.1 = b.1) && decide (b.2 ≤ a.2))
def risingE {α : Type} (key : α → Int × Int) : List α → Int
 | x :: y :: r => if badKey (key x) (key y) = true then 42 else risingE key (y :: r)
 | _ => 0
def memKey (m : Mem) : Int × Int := (m.addr, 0)
def pstKey (p : Pst) : Int × Int := (p.height, 0)
def offKey (o : Off) : Int × Int := (o.height, o.addr)
def accKey (a : Acc) : Int × Int := (a.addr, 0)
def rlsKey (r : Rls) : Int × Int := (r.height, r.addr)
def headS (x : Sta) : Int := firstErr [named x.chain.size, field (decide (1099511627776 < x.height)), moment x.time, field (decide (x.par.seats < 1) || decide (64 < x.par.seats)), field (decide (x.par.txs < 0) || decide (1000 < x.par.txs))]
def bigS (x : Sta) : Bool := decide (64 < x.cou.n) || decide (64 < x.next.n) || decide (256 < x.pn) || decide (65536 < x.an) || x.ps.any (fun p => decide (64 < p.cou.n))
def risS (x : Sta) : List Int := [risingE memKey x.cou.ms, risingE memKey x.next.ms] ++ x.ps.map (fun p => risingE memKey p.cou.ms) ++ [risingE pstKey x.ps, risingE offKey x.os, risingE accKey x.acs, risingE rlsKey x.rs]
def plainSta (x : Sta) : Int := if headS x ≠ 0 then headS x else if bigS x = true then 4 else firstErr (risS x)
-- ---- the form
def zig (p : Int) : Nat := if p < 0 then (2 * (-p - 1) + 1).toNat else (2 * p).toNat
def encMem (m : Mem) : List UInt8 := varB m.addr.toNat ++ varB m.power.toNat ++ varB (zig m.prio)
def encCou (x : Cou) : List UInt8 := varB x.n ++ x.ms.flatMap encMem
def encPst (x : Pst) : List UInt8 := varB x.height.toNat ++ varB x.time.toNat ++ encCou x.cou
def encOff (x : Off) : List UInt8 := varB x.height.toNat ++ varB x.addr.toNat
def encAcc (x : Acc) : List UInt8 := varB x.addr.toNat ++ varB x.bal.toNat ++ varB x.bond.toNat ++ varB x.nonce.toNat ++ [if x.jailed then 1 else 0]
def encRls (x : Rls) : List UInt8 := varB x.height.toNat ++ varB x.addr.toNat ++ varB x.born.toNat ++ varB x.amount.toNat
def encPar (p : Par) : List UInt8 := varB p.bond.toNat ++ [UInt8.ofNat p.seats.toNat] ++ varB p.slash.toNat ++ varB p.period.toNat ++ varB p.age.toNat ++ varB p.txs.toNat ++ varB p.propose.toNat ++ varB p.votes.toNat ++ varB p.pause.toNat ++ varB p.resend.toNat ++ varB p.trust.toNat ++ varB p.drift.toNat
def formSta (x : Sta) : List UInt8 := varB x.chain.size ++ x.chain.data.toList ++ encPar x.par ++ varB x.height.toNat ++ varB x.time.toNat ++ x.last ++ encCou x.cou ++ encCou x.next ++ (varB x.pn ++ x.ps.flatMap encPst) ++ (varB x.on ++ x.os.flatMap encOff) ++ (varB x.an ++ x.acs.flatMap encAcc) ++ (varB x.rn ++ x.rs.flatMap encRls) ++ varB x.burnt.toNat ++ varB x.supply.toNat
structure StaB (x : Sta) : Prop where
 c1 : 1 ≤ x.chain.size
 c2 : x.chain.size ≤ 16
 s1 : 1 ≤ x.par.seats
 s2 : x.par.seats ≤ 64
 t1 : 0 ≤ x.par.txs
 t2 : x.par.txs ≤ 1000
 cou : x.cou.n ≤ 64
 next : x.next.n ≤ 64
 pn : x.pn ≤ 256
 an : x.an ≤ 65536
 ps : ∀ p ∈ x.ps, p.cou.n ≤ 64
theorem staB {x : Sta} (hx : x.ok) (h : plainSta x = 0) : StaB x := by
 unfold plainSta at h
 by_cases he : headS x = 0
 ·rw [if_neg (by simp [he])] at h
  by_cases hb : bigS x = true
  ·rw [if_pos hb] at h; cases h
  ·have hall := firstErr_zero he
   have a1 := of_decide_eq_false (field_zero (hall (named x.chain.size) (by simp)))
   have a2 : (decide (x.par.seats < 1) || decide (64 < x.par.seats)) = false := field_zero (hall (field (decide (x.par.seats < 1) || decide (64 < x.par.seats))) (by simp))
   have a3 : (decide (x.par.txs < 0) || decide (1000 < x.par.txs)) = false := field_zero (hall (field (decide (x.par.txs < 0) || decide (1000 < x.par.txs))) (by simp))
   unfold bigS at hb
   simp only [Bool.or_eq_true, decide_eq_true_eq, List.any_eq_true, not_or, not_exists, not_and, Bool.or_eq_false_iff, decide_eq_false_iff_not] at hb a2 a3
   obtain ⟨⟨⟨⟨b1, b2⟩, b3⟩, b4⟩, b5⟩ := hb
   exact ⟨by omega, by omega, by omega, by omega, by omega, by omega, by omega, by omega, by omega, by omega, fun p hp => by have := b5 p hp; omega⟩
 ·rw [if_pos he] at h; exact absurd h he
theorem zig_inj {a b : Int} (h : zig a = zig b) : a = b := by
 unfold zig at h
 split at h <;> split at h <;> omega
theorem mem_sd : SD encMem (fun m => m.ok) Eq := fun x y r s hx hy h => by
 unfold encMem at h
 simp only [List.append_assoc] at h
 obtain ⟨h1, h⟩ := int_sd (nz hx.addr) (nz hy.addr) h
 obtain ⟨h2, h⟩ := int_sd (nz hx.power) (nz hy.power) h
 obtain ⟨h3, h⟩ := varB_sd _ _ _ _ h
 have h3 := zig_inj h3
 refine ⟨?_, h⟩
 cases x; cases y
 simp_all
theorem cou_sd : SD encCou (fun x => x.ok) (fun x y => x.ms = y.ms) := fun x y r s hx hy h => by
 unfold encCou at h
 rw [hx.n, hy.n] at h
 obtain ⟨h1, h⟩ := list_sd mem_sd x.ms y.ms r s hx.ms hy.ms h
 exact ⟨h1.eq, h⟩
structure Pst.same (x y : Pst) : Prop where
 height : x.height = y.height
 time : x.time = y.time
 ms : x.cou.ms = y.cou.ms
theorem pst_sd : SD encPst (fun x => x.ok) Pst.same := fun x y r s hx hy h => by
 unfold encPst at h
 simp only [List.append_assoc] at h
 obtain ⟨h1, h⟩ := int_sd (nz hx.height) (nz hy.height) h
 obtain ⟨h2, h⟩ := int_sd (nz hx.time) (nz hy.time) h
 obtain ⟨h3, h⟩ := cou_sd x.cou y.cou r s hx.cou hy.cou h
 exact ⟨⟨h1, h2, h3⟩, h⟩
theorem off_sd : SD encOff (fun x => x.ok) Eq := fun x y r s hx hy h => by
 unfold encOff at h
 simp only [List.append_assoc] at h
 obtain ⟨h1, h⟩ := int_sd (nz hx.height) (nz hy.height) h
 obtain ⟨h2, h⟩ := int_sd (nz hx.addr) (nz hy.addr) h
 refine ⟨?_, h⟩
 cases x; cases y
 simp_all
theorem acc_sd : SD encAcc (fun x => x.ok) Eq := fun x y r s hx hy h => by
 unfold encAcc at h
 simp only [List.append_assoc] at h
 obtain ⟨h1, h⟩ := int_sd (nz hx.addr) (nz hy.addr) h
 obtain ⟨h2, h⟩ := int_sd (nz hx.bal) (nz hy.bal) h
 obtain ⟨h3, h⟩ := int_sd (nz hx.bond) (nz hy.bond) h
 obtain ⟨h4, h⟩ := int_sd (nz hx.nonce) (nz hy.nonce) h
 obtain ⟨h5, h⟩ := bool_sd h
 refine ⟨?_, h⟩
 cases x; cases y
 simp_all
theorem rls_sd : SD encRls (fun x => x.ok) Eq := fun x y r s hx hy h => by
 unfold encRls at h
 simp only [List.append_assoc] at h
 obtain ⟨h1, h⟩ := int_sd (nz hx.height) (nz hy.height) h
 obtain ⟨h2, h⟩ := int_sd (nz hx.addr) (nz hy.addr) h
 obtain ⟨h3, h⟩ := int_sd (nz hx.born) (nz hy.born) h
 obtain ⟨h4, h⟩ := int_sd (nz hx.amount) (nz hy.amount) h
 refine ⟨?_, h⟩
 cases x; cases y
 simp_all
theorem par_sd : SD encPar (fun p => p.ok ∧ (1 ≤ p.seats ∧ p.seats ≤ 64) ∧ 0 ≤ p.txs) Eq := fun x y r s ⟨hx, sx, tx⟩ ⟨hy, sy, ty⟩ h => by
 unfold encPar at h
 simp only [List.append_assoc] at h
 obtain ⟨h1, h⟩ := int_sd (nz hx.bond) (nz hy.bond) h
 obtain ⟨h2, h⟩ := byte_sd ⟨by omega, by omega⟩ ⟨by omega, by omega⟩ h
 obtain ⟨h3, h⟩ := int_sd (nz hx.slash) (nz hy.slash) h
 obtain ⟨h4, h⟩ := int_sd (nz hx.period) (nz hy.period) h
 obtain ⟨h5, h⟩ := int_sd (nz hx.age) (nz hy.age) h
 obtain ⟨h6, h⟩ := int_sd tx ty h
 obtain ⟨h7, h⟩ := int_sd (nz hx.propose) (nz hy.propose) h
 obtain ⟨h8, h⟩ := int_sd (nz hx.votes) (nz hy.votes) h
 obtain ⟨h9, h⟩ := int_sd (nz hx.pause) (nz hy.pause) h
 obtain ⟨h10, h⟩ := int_sd (nz hx.resend) (nz hy.resend) h
 obtain ⟨h11, h⟩ := int_sd (nz hx.trust) (nz hy.trust) h
 obtain ⟨h12, h⟩ := int_sd (nz hx.drift) (nz hy.drift) h
 refine ⟨?_, h⟩
 cases x; cases y
 simp_all
/-- the same state, wherever its lists lie -/
structure Sta.same (x y : Sta) : Prop where
 chain : x.chain = y.chain
 par : x.par = y.par
 height : x.height = y.height
 time : x.time = y.time
 last : x.last = y.last
 cou : x.cou.ms = y.cou.ms
 next : x.next.ms = y.next.ms
 ps : Alike Pst.same x.ps y.ps
 os : x.os = y.os
 acs : x.acs = y.acs
 rs : x.rs = y.rs
 burnt : x.burnt = y.burnt
 supply : x.supply = y.supply
theorem chain_sd {a b : ByteArray} {r s : List UInt8} (h : varB a.size ++ (a.data.toList ++ r) = varB b.size ++ (b.data.toList ++ s)) : a = b ∧ r = s := by
 obtain ⟨h1, h⟩ := varB_sd _ _ _ _ h
 obtain ⟨h2, h⟩ := raw_sd (n := a.size) (by simp) (by rw [h1]; simp) h
 refine ⟨?_, h⟩
 cases a; cases b
 congr 1
 exact Array.ext' h2
theorem sta_sd : SD formSta (fun x => x.ok ∧ plainSta x = 0) Sta.same := fun x y r s ⟨hx, bx⟩ ⟨hy, b_y⟩ h => by
 have bx := staB hx bx
 have b_y := staB hy b_y
 unfold formSta at h
 rw [hx.pn, hy.pn, hx.on, hy.on, hx.an, hy.an, hx.rn, hy.rn] at h
 simp only [List.append_assoc] at h
 obtain ⟨h1, h⟩ := chain_sd h
 obtain ⟨h2, h⟩ := par_sd _ _ _ _ ⟨hx.par, ⟨bx.s1, bx.s2⟩, bx.t1⟩ ⟨hy.par, ⟨b_y.s1, b_y.s2⟩, b_y.t1⟩ h
 obtain ⟨h3, h⟩ := int_sd (nz hx.height) (nz hy.height) h
 obtain ⟨h4, h⟩ := int_sd (nz hx.time) (nz hy.time) h
 obtain ⟨h5, h⟩ := raw_sd hx.last hy.last h
 obtain ⟨h6, h⟩ := cou_sd _ _ _ _ hx.cou hy.cou h
 obtain ⟨h7, h⟩ := cou_sd _ _ _ _ hx.next hy.next h
 obtain ⟨h8, h⟩ := list_sd pst_sd x.ps y.ps _ _ hx.ps hy.ps (by simpa only [List.append_assoc] using h)
 obtain ⟨h9, h⟩ := list_sd off_sd x.os y.os _ _ hx.os hy.os (by simpa only [List.append_assoc] using h)
 obtain ⟨h10, h⟩ := list_sd acc_sd x.acs y.acs _ _ hx.acs hy.acs (by simpa only [List.append_assoc] using h)
 obtain ⟨h11, h⟩ := list_sd rls_sd x.rs y.rs _ _ hx.rs hy.rs (by simpa only [List.append_assoc] using h)
 obtain ⟨h12, h⟩ := int_sd (nz hx.burnt) (nz hy.burnt) h
 obtain ⟨h13, h⟩ := int_sd (nz hx.supply) (nz hy.supply) h
 exact ⟨⟨h1, h2, h3, h4, h5, h6, h7, h8, h9.eq, h10.eq, h11.eq, h12, h13⟩, h⟩
-- ---- how long
theorem zig_lt {p : Int} (h : I64 p) : zig p < two64 := by
 unfold I64 at h
 unfold zig two64
 split <;> omega
theorem encMem_30 {m : Mem} (hm : m.ok) : (encMem m).length ≤ 30 := by
 have h1 := u64_le hm.addr
 have h2 := u64_le hm.power
 have h3 := varB_ten (zig_lt hm.prio)
 unfold encMem
 simp only [List.length_append]
 omega
theorem encCou_len {x : Cou} (hx : x.ok) (hn : x.n ≤ 64) : (encCou x).length ≤ 1930 := by
 have h1 := varB_ten (n := x.n) (by unfold two64; omega)
 have h2 := flat_le (enc := encMem) (L := 30) (l := x.ms) fun m hm => encMem_30 (hx.ms m hm)
 have h3 := hx.n
 unfold encCou
 simp only [List.length_append]
 omega
theorem encPst_len {x : Pst} (hx : x.ok) (hn : x.cou.n ≤ 64) : (encPst x).length ≤ 1950 := by
 have h1 := u64_le hx.height
 have h2 := u64_le hx.time
 have h3 := encCou_len hx.cou hn
 unfold encPst
 simp only [List.length_append]
 omega
theorem encOff_len {x : Off} (hx : x.ok) : (encOff x).length ≤ 20 := by
 have h1 := u64_le hx.height
 have h2 := u64_le hx.addr
 unfold encOff
 simp only [List.length_append]
 omega
theorem encAcc_len {x : Acc} (hx : x.ok) : (encAcc x).length ≤ 41 := by
 have h1 := u64_le hx.addr
 have h2 := u64_le hx.bal
 have h3 := u64_le hx.bond
 have h4 := u64_le hx.nonce
 unfold encAcc
 simp only [List.length_append, List.length_cons, List.length_nil]
 omega
theorem encRls_len {x : Rls} (hx : x.ok) : (encRls x).length ≤ 40 := by
 have h1 := u64_le hx.height
 have h2 := u64_le hx.addr
 have h3 := u64_le hx.born
 have h4 := u64_le hx.amount
 unfold encRls
 simp only [List.length_append]
 omega
end Go.Proofs.YtlhnhjglcbggmaaGreatRR

/-
  Messages and inputs laid down; EncodeMsg, EncodeInput. Conditions: each number fits its kind; lists lie in the world.
-/
import Derived.Test.YtlhnhjglcbggmaaGreatRRYPb12
namespace Go.Proofs.YtlhnhjglcbggmaaGreatRR
set_option linter.unusedSimpArgs false
set_option linter.unusedVariables false
open Go.RowKit
set_option maxRecDepth 100000

def UsA (w : World) (us : List PK) (A : Option Addr) : Prop := us = [] ∨ ∃ g, A = some ⟨g, 0, none⟩ ∧ Bk w g (us.flatMap PK.cl).toArray 128
theorem UsA.rd {w : World} {us : List PK} {A : Option Addr} (h : UsA w us A) : Rd w A (us.flatMap PK.cl) := by
 rcases h with rfl | ⟨g, rfl, hk⟩
 ·exact fun j u hu => by simp at hu
 ·exact Rd.of_bk hk 0 _ (fun j u hu => by simpa using hu)
theorem UsA.eff {w w' : World} {us : List PK} {A : Option Addr} {B : Nat} (h : UsA w us A) (e : Eff B WrT w w') : UsA w' us A := by
 rcases h with rfl | ⟨g, rfl, hk⟩
 ·exact .inl rfl
 ·exact .inr ⟨g, rfl, hk.effT e (by decide)⟩
theorem UsA.below {w w' : World} {us : List PK} {A : Option Addr} (h : UsA w us A) (hb : Below w.heap.size w w') : UsA w' us A := by
 rcases h with rfl | ⟨g, rfl, hk⟩
 ·exact .inl rfl
 ·exact .inr ⟨g, rfl, hk.below hb hk.lt⟩
theorem UsesR.usa {w w' : World} {us : List PK} {v : Value} (h : UsesR w w' us v) : ∃ A, v = .slice A us.length us.length ∧ UsA w' us A := by
 obtain ⟨_, ⟨rfl, rfl⟩ | ⟨g, rfl, _, hk⟩⟩ := h
 ·exact ⟨none, rfl, .inl rfl⟩
 ·exact ⟨_, rfl, .inr ⟨g, rfl, hk⟩⟩
def bd : PK → Nat | .block => 71500 | _ => 5000
theorem votesF_len {p : Prts} (hp : p.ok) (h : votesErr p.vn p.vs = 0) : (votesF p.vn p.vs).length ≤ 5000 := by
 obtain ⟨h1, h2⟩ := votesErr_zero h
 have h3 := flat_le (enc := formVote) (l := p.vs) (fun v hv => formVote_83 (hp.vs v hv) (voteB (hp.vs v hv) (h2 v hv)))
 have h4 := varB_ten (n := p.vn) (by unfold two64; omega)
 have h5 := hp.vn
 unfold votesF
 rw [List.length_append]
 omega
theorem form_bd (k : PK) {p : Prts} (hp : p.ok) (h : k.plain p = 0) : (k.form p).length ≤ bd k := by
 cases k with
 | proposal =>
  have := formProposal_83 hp.prop (proposalB hp.prop h)
  simp only [PK.form, bd]; omega
 | block =>
  have := formBlk_131072 hp.blk (blkB hp.blk h)
  simp only [PK.form, bd]; omega
 | polka => exact votesF_len hp (firstErr_zero h (votesErr p.vn p.vs) (by simp))
 | some => exact votesF_len hp (firstErr_zero h (votesErr p.vn p.vs) (by simp))
 | one =>
  obtain ⟨v, hv, hpv⟩ := one_votes hp.vn h
  have ho : v.ok := hp.vs v (by rw [hv]; simp)
  have := formVote_83 ho (voteB ho hpv)
  simp only [PK.form, bd, hv, oneForm]; omega
 | cert =>
  have := encCrt_len hp.crt (crtB hp.crt (firstErr_zero h (plainCrt p.crt) (by simp)))
  simp only [PK.form, bd]; omega
 | tx =>
  have := formTx_67 hp.tx
  simp only [PK.form, bd]; omega
 | evidence =>
  have := formEv_166 hp.ev (evB hp.ev h).1 (evB hp.ev h).2
  simp only [PK.form, bd]; omega
 | height =>
  have := varB_int (n := p.height) hp.height.1 (by have := hp.height.2; unfold two64; omega)
  simp only [PK.form, bd]; omega
 | round =>
  have := varB_int (n := p.round) (roundB h).1 (by have := (roundB h).2; unfold two64; omega)
  simp only [PK.form, bd]; omega
 | good => simp [PK.form, bd]
 | step => simp [PK.form, bd]
theorem forms_bd {p : Prts} (hp : p.ok) : ∀ (us : List PK), (∀ k ∈ us, k.plain p = 0) → (us.flatMap (PK.form p)).length ≤ (us.map bd).sum
 | [], _ => by simp
 | k :: us, h => by
  have h1 := form_bd k hp (h k (List.mem_cons_self ..))
  have h2 := forms_bd hp us (fun j hj => h j (List.mem_cons_of_mem _ hj))
  rw [List.flatMap_cons, List.length_append, List.map_cons, List.sum_cons]
  omega
theorem usesMsg_bd (k : Int) : ((usesMsg k).map bd).sum ≤ 90000 := by
 unfold usesMsg
 repeat (split; decide)
 decide
theorem usesInput_bd (k : Int) : ((usesInput k).map bd).sum ≤ 90000 := by
 unfold usesInput
 repeat (split; decide)
 decide
theorem take_bd {p : Prts} (hp : p.ok) {us : List PK} (h : ∀ k ∈ us, k.plain p = 0) (j : Nat) : ((us.take j).flatMap (PK.form p)).length ≤ (us.map bd).sum := by
 have h1 := forms_bd hp (us.take j) (fun k hk => h k (List.mem_of_mem_take hk))
 have h2 : ((us.take j).map bd).sum ≤ (us.map bd).sum := by
  conv => rhs; rw [← List.take_append_drop j us]
  rw [List.map_append, List.sum_append]
  omega
 omega
theorem takes_form {p : Prts} {us : List PK} {k : Nat} {x : PK} (h : us.take (k + 1) = us.take k ++ [x]) : (us.take (k + 1)).flatMap (PK.form p) = (us.take k).flatMap (PK.form p) ++ PK.form p x := by
 rw [h, List.flatMap_append]; simp

set_option maxHeartbeats 4000000 in
theorem putMsg_any (w : World) (B g : Nat) (bs : List UInt8) (k : Int) (p : Prts) (hx : MsgOk k p) (hpl : plainMsg k p = 0) (hat : p.at w) (hlo : p.low B) (hB : B ≤ w.heap.size) (hw : Wr w B g bs) (hb : bs.length + 1000000 ≤ room46) :
  Calls Tryz.prog 52 #[.pointer (some ⟨g, 0, none⟩), .agg (msgCl k p).toArray] w fun e w' => e = .returned (.tuple #[]) ∧ Wr w' B g (bs ++ formMsg k p) ∧ Eff B WrT w w' := by
 have HP := Lib.hid hx.ok
 have HAT := Lib.hid hat
 have HLO := Lib.hid hlo
 have HL := Lib.hid (msgCl_len k p hx.ok)
 have hz := plainMsg_zero hpl
 have HU := Lib.hid (show ∀ j ∈ usesMsg k, j.plain p = 0 from hz.2.2.2)
 have hk1 : 1 ≤ k := hz.1
 have hk2 : k ≤ 7 := hz.2.1
 skip
 obtain ⟨C, hC⟩ : ∃ C, msgCl k p = C := ⟨_, rfl⟩
 have h0 : C.toArray[0]? = some (.int .i64 k) := by rw [← hC]; simp [msgCl]
 have H0 := Lib.hid h0
 have HOF := Lib.hid (show ∀ w1, Calls Tryz.prog 54 #[.agg C.toArray] w1 fun e w' => ∃ v, e = .returned v ∧ PartsR w1 w' p v from fun w1 => by rw [← hC]; exact ofMsg_any w1 k p hx)
 obtain ⟨us, hus⟩ : ∃ us, usesMsg k = us := ⟨_, rfl⟩
 have HUS := Lib.hid (show ∀ w1, Calls Tryz.prog 55 #[.int .i64 k] w1 fun e w' => ∃ v, e = .returned v ∧ UsesR w1 w' us v from fun w1 => by rw [← hus]; exact msgUses_any w1 k hk1 hk2)
 have HF := Lib.hid (show formMsg k p = [UInt8.ofNat k.toNat] ++ us.flatMap (PK.form p) by rw [← hus]; rfl)
 have HBD := Lib.hid (show (us.map bd).sum ≤ 90000 by rw [← hus]; exact usesMsg_bd k)
 have HUL := Lib.hid (show us.length ≤ 100 by rw [← hus]; exact usesMsg_len k)
 rw [hus] at HU
 rw [hC] at HL ⊢
 rw [HF.out]
 have p1 : IntKind.u8.wrap k = k := by rw [IntKind.wrap_u8]; omega
 obtain ⟨hd, hhd⟩ : ∃ hd, [UInt8.ofNat k.toNat] = hd := ⟨_, rfl⟩
 have HHD := Lib.hid hhd
 have HHL := Lib.hid (show hd.length ≤ 100 by rw [← hhd]; simp)
 rw [hhd]
 clear hx hpl hat hlo hz hC h0 hus hhd HF
 go_enter Tryz.func52, Tryz.ntmps52
 go_wp2_with (with_reducible show wpList _ _ _ (Oper.mk _ (Op.box _ _) _ _ _ _ :: _) _ _; refine wpList_box_bk rfl _ _ rfl _ rfl ?_)
 intro bx w1 hk hbl hg hs
 clear hg hs
 have HK1 := Lib.hid (bk_eqT (cs' := C.toArray) hk rfl)
 have hw1 := hw.below hbl
 have HAT1 := Lib.hid (HAT.out.below hbl)
 have HS1 := Lib.hid (Nat.le_trans hB hbl.size)
 have HE1 := Lib.hid (Eff.of_below hbl B WrT)
 clear hk hbl hw
 have c0 : w1.cell? ⟨bx, 0, none⟩ = some (.int .i64 k) := (HK1.out.cell 0).trans H0.out
 go_wp2_with fail
 refine (byte_int w1 B g bs k hw1 (by omega) (by omega) (by omega)).mono ?_
 rintro e w2 ⟨rfl, hw2, e2⟩
 have HK2 := Lib.hid (HK1.out.effT e2 (by decide))
 have HAT2 := Lib.hid (HAT1.out.eff HLO.out e2 HS1.out)
 have HS2 := Lib.hid (Nat.le_trans HS1.out e2.size)
 have HE2 := Lib.hid (HE1.out.trans e2)
 clear e2 c0 hw1
 have HK3 := HK2
 have HAT3 := HAT2
 have HS3 := HS2
 have HE3 := HE2
 have HW3 := Lib.hid (show Wr w2 B g (bs ++ hd) by rw [← HHD.out]; exact hw2)
 clear hw2
 go_wp2_with (first
  | (with_reducible show wpList _ _ _ (Oper.mk (some 12) (Op.load _ _) _ _ _ _ :: _) _ _; go_must (refine wpList_load_part rfl 47 _ rfl bx 0 484 rfl _ _ _ HK3.out Tryz.underlying47 rfl info_Msg (by simp [HL.out]) _ (cl_allN HL.out) ?_))
  | fail)
 refine (HOF.out w2).mono ?_
 rintro e w4 ⟨v, rfl, hb4, a, rfl, hka⟩
 have HKA := Lib.hid hka
 have HK4 := Lib.hid (HK3.out.below hb4 HK3.out.lt)
 have HW4 := Lib.hid (HW3.out.below hb4)
 have HAT4 := Lib.hid (HAT3.out.below hb4)
 have HS4 := Lib.hid (Nat.le_trans HS3.out hb4.size)
 have HE4 := Lib.hid (HE3.out.trans (Eff.of_below hb4 B WrT))
 have c2 : w4.cell? ⟨bx, 0, none⟩ = some (.int .i64 k) := (HK4.out.cell 0).trans H0.out
 clear hka hb4
 go_wp2_with fail
 refine (HUS.out w4).mono ?_
 rintro e w5 ⟨v, rfl, hu⟩
 obtain ⟨A, rfl, hua⟩ := hu.usa
 have HUA5 := Lib.hid hua
 have HKA5 := Lib.hid (HKA.out.below hu.1 HKA.out.lt)
 have HW5 := Lib.hid (HW4.out.below hu.1)
 have HAT5 := Lib.hid (HAT4.out.below hu.1)
 have HS5 := Lib.hid (Nat.le_trans HS4.out hu.1.size)
 have HE5 := Lib.hid (HE4.out.trans (Eff.of_below hu.1 B WrT))
 obtain ⟨n, hn⟩ : ∃ n, us.length = n := ⟨_, rfl⟩
 rw [hn] at HUL ⊢
 have HN := Lib.hid hn.symm
 have HUL2 := HUL.out
 have HLN := Lib.hid (pks_len us)
 clear hu hua c2 hn HK1 HK2 HK3 HK4 HW3 HW4 HE1 HE2 HE3 HE4 HAT1 HAT2 HAT3 HAT4 HKA
 go_wp2
 go_loopw [18] (fun i wr => ∃ j : Nat, j ≤ n ∧ i = .int .i64 (j : Int) ∧ Wr wr B g (bs ++ hd ++ (us.take j).flatMap (PK.form p)) ∧ Bk wr a p.cl.toArray 177 ∧ UsA wr us A ∧ p.at wr ∧ Eff B WrT w wr) (fun i _ => n - (intOf i).toNat)
 case atStart => exact ⟨0, by omega, rfl, by simpa using HW5.out, HKA5.out, HUA5.out, HAT5.out, HE5.out⟩
 case round =>
  clear HW5 HKA5 HUA5 HAT5 HE5
  obtain ⟨j, hj, rfl, h1, h2, h3, h4, h5⟩ := hrel
  have HW := Lib.hid h1
  have HKA := Lib.hid h2
  have HUA := Lib.hid h3
  have HAJ := Lib.hid h4
  have HE := Lib.hid h5
  clear h1 h2 h3 h4 h5
  by_cases hlt : j < n
  ·have hkl : j < us.length := by rw [← HN.out]; exact hlt
   obtain ⟨ad, hA, hcell⟩ := rd_elem (by omega) HLN.out HUA.out.rd hkl
   obtain ⟨x, hxk⟩ : ∃ x, us[j] = x := ⟨_, rfl⟩
   have hmem : x ∈ us := by rw [← hxk]; exact List.getElem_mem hkl
   have HTK := Lib.hid (takes_form (p := p) (show us.take (j + 1) = us.take j ++ [x] by rw [List.take_succ_eq_append_getElem hkl, hxk]))
   rw [hxk] at hcell
   have HTB := Lib.hid (take_bd HP.out HU.out j)
   have HCT := Lib.hid (fun (w1 : World) (b1 : List UInt8) (h1 : p.at w1) (h2 : Bk w1 a p.cl.toArray 177) (h3 : B ≤ w1.heap.size) (h4 : Wr w1 B g b1) (h5 : b1.length + 400000 ≤ room46) => putPK_any x w1 B g b1 p a HP.out (HU.out x hmem) h1 HLO.out h3 h2 h4 h5)
   have eg := PK.in2 x
   have h1f : x.cl.toArray[2]? = some (.func (.func x.f2) #[] #[]) := rfl
   obtain ⟨FF, hFF⟩ : ∃ F, x.f2 = F := ⟨_, rfl⟩
   rw [hFF] at HCT eg h1f
   have HXL := Lib.hid x.cl_len
   have HXS := Lib.hid (show x.cl.toArray.size = 4 from rfl)
   have HXO := Lib.hid (pk_one x)
   obtain ⟨D, hD⟩ : ∃ D, x.cl = D := ⟨_, rfl⟩
   rw [hD] at hcell h1f HXL HXS HXO
   have HC := Lib.hid hcell
   have H1F := Lib.hid h1f
   subst hA
   clear hcell hxk hD hFF h1f hmem
   have hi : (j : Int) < n := by omega
   go_wp2_with (first
    | (with_reducible show wpList _ _ _ (Oper.mk (some 21) (Op.load _ _) _ _ _ _ :: _) _ _; go_must (refine wpList_load_at rfl 128 _ rfl (ad.add (j * 4)) 4 rfl D HC.out _ Tryz.underlying128 rfl info_Part HXL.out ?_))
    | (with_reducible show wpList _ _ _ (Oper.mk _ (Op.alloc _) _ _ _ _ :: _) _ _; refine wpList_alloc_i rfl 128 rfl (.agg zeroPart.toArray) zero_Part ?_))
   intro q w6 k4 l4 g4 s4
   have K4 := Lib.hid k4
   have L4 := Lib.hid l4
   have G4 := Lib.hid g4
   clear k4 l4 g4 s4
   go_wp2_with (with_reducible show wpList _ _ _ (Oper.mk _ (Op.store 128 _ _) _ _ _ _ :: _) _ _; go_must (refine wpList_store_bk rfl 128 _ _ rfl q rfl (.agg D.toArray) rfl _ _ K4.out (by rw [agg_sz HXS.out]; exact info_Part) (by rw [agg_sz HXS.out]; exact zeroPart_sz.symm) HXO.out ?_))
   intro w7 h7 hg7 hs7
   have L7 := Lib.hid (below_grown2 L4.out hg7 G4.out L4.out.size)
   have HW7 := Lib.hid (HW.out.below L7.out)
   have HKA7 := Lib.hid (HKA.out.below L7.out HKA.out.lt)
   have HUA7 := Lib.hid (HUA.out.below L7.out)
   have HA7 := Lib.hid (HAJ.out.below L7.out)
   have HS7 := Lib.hid (show B ≤ w7.heap.size by have := HE.out.size; have := L7.out.size; omega)
   have c1 : w7.cell? ⟨q, 2, none⟩ = some (.func (.func FF) #[] #[]) := ((show Bk w7 q D.toArray 128 from h7).cell 2).trans H1F.out
   clear h7 hg7 hs7 K4 L4 G4
   go_wp2_with fail
   refine (HCT.out w7 _ HA7.out HKA7.out HS7.out HW7.out (by simp only [List.length_append]; have h1 := HTB.out; have h2 := HBD.out; have h3 := HHL.out; omega)).mono ?_
   rintro e w8 ⟨rfl, hw8, e8⟩
   have HW8 := Lib.hid hw8
   have HKA8 := Lib.hid (HKA7.out.effT e8 (by decide))
   have HUA8 := Lib.hid (HUA7.out.eff e8)
   have HA8 := Lib.hid (HA7.out.eff HLO.out e8 HS7.out)
   have HE8 := Lib.hid (HE.out.trans ((Eff.of_below L7.out _ _).trans e8))
   clear hw8 e8 c1 eg
   go_wp2
   go_round
   case rel => exact ⟨j + 1, by omega, by go_num, by rw [HTK.out, ← List.append_assoc]; exact HW8.out, HKA8.out, HUA8.out, HA8.out, HE8.out⟩
   case measure => simp [intOf]; omega
  ·have hkn : j = n := by omega
   subst hkn
   have HTA := Lib.hid (show us.take j = us from List.take_of_length_le (by rw [HN.out]; exact Nat.le_refl _))
   rw [HTA.out] at HW
   clear hlt
   go_wp2
   go_end0
   refine ⟨rfl, ?_, HE.out⟩
   rw [← List.append_assoc]
   exact HW.out

set_option maxHeartbeats 4000000 in
theorem putInput_any (w : World) (B g : Nat) (bs : List UInt8) (k now : Int) (p : Prts) (hx : InputOk k now p) (hpl : plainInput k now p = 0) (hat : p.at w) (hlo : p.low B) (hB : B ≤ w.heap.size) (hw : Wr w B g bs) (hb : bs.length + 1000000 ≤ room46) :
  Calls Tryz.prog 58 #[.pointer (some ⟨g, 0, none⟩), .agg (inputCl k now p).toArray] w fun e w' => e = .returned (.tuple #[]) ∧ Wr w' B g (bs ++ formInput k now p) ∧ Eff B WrT w w' := by
 have HP := Lib.hid hx.ok
 have HAT := Lib.hid hat
 have HLO := Lib.hid hlo
 have HL := Lib.hid (inputCl_len k now p hx.ok)
 have hz := plainInput_zero hpl
 have HU := Lib.hid (show ∀ j ∈ usesInput k, j.plain p = 0 from hz.2.2.2.2)
 have hk1 : 1 ≤ k := hz.1
 have hk2 : k ≤ 6 := hz.2.1
 have HNW := Lib.hid hx.now
 obtain ⟨C, hC⟩ : ∃ C, inputCl k now p = C := ⟨_, rfl⟩
 have h0 : C.toArray[0]? = some (.int .i64 k) := by rw [← hC]; simp [inputCl]
 have h1 : C.toArray[1]? = some (.int .u64 now) := by rw [← hC]; simp [inputCl]
 have H1 := Lib.hid h1
 clear h1
 have H0 := Lib.hid h0
 have HOF := Lib.hid (show ∀ w1, Calls Tryz.prog 60 #[.agg C.toArray] w1 fun e w' => ∃ v, e = .returned v ∧ PartsR w1 w' p v from fun w1 => by rw [← hC]; exact ofInput_any w1 k now p hx)
 obtain ⟨us, hus⟩ : ∃ us, usesInput k = us := ⟨_, rfl⟩
 have HUS := Lib.hid (show ∀ w1, Calls Tryz.prog 61 #[.int .i64 k] w1 fun e w' => ∃ v, e = .returned v ∧ UsesR w1 w' us v from fun w1 => by rw [← hus]; exact inputUses_any w1 k hk1 hk2)
 have HF := Lib.hid (show formInput k now p = [UInt8.ofNat k.toNat] ++ varB now.toNat ++ us.flatMap (PK.form p) by rw [← hus]; rfl)
 have HBD := Lib.hid (show (us.map bd).sum ≤ 90000 by rw [← hus]; exact usesInput_bd k)
 have HUL := Lib.hid (show us.length ≤ 100 by rw [← hus]; exact usesInput_len k)
 rw [hus] at HU
 rw [hC] at HL ⊢
 rw [HF.out]
 have p1 : IntKind.u8.wrap k = k := by rw [IntKind.wrap_u8]; omega
 obtain ⟨hd, hhd⟩ : ∃ hd, [UInt8.ofNat k.toNat] ++ varB now.toNat = hd := ⟨_, rfl⟩
 have HHD := Lib.hid hhd
 have HHL := Lib.hid (show hd.length ≤ 100 by rw [← hhd]; simp only [List.length_append, List.length_cons, List.length_nil]; have := varB_int (n := now) HNW.out.1 (by have := HNW.out.2; unfold two64; omega); omega)
 rw [hhd]
 clear hx hpl hat hlo hz hC h0 hus hhd HF
 go_enter Tryz.func58, Tryz.ntmps58
 go_wp2_with (with_reducible show wpList _ _ _ (Oper.mk _ (Op.box _ _) _ _ _ _ :: _) _ _; refine wpList_box_bk rfl _ _ rfl _ rfl ?_)
 intro bx w1 hk hbl hg hs
 clear hg hs
 have HK1 := Lib.hid (bk_eqT (cs' := C.toArray) hk rfl)
 have hw1 := hw.below hbl
 have HAT1 := Lib.hid (HAT.out.below hbl)
 have HS1 := Lib.hid (Nat.le_trans hB hbl.size)
 have HE1 := Lib.hid (Eff.of_below hbl B WrT)
 clear hk hbl hw
 have c0 : w1.cell? ⟨bx, 0, none⟩ = some (.int .i64 k) := (HK1.out.cell 0).trans H0.out
 go_wp2_with fail
 refine (byte_int w1 B g bs k hw1 (by omega) (by omega) (by omega)).mono ?_
 rintro e w2 ⟨rfl, hw2, e2⟩
 have HK2 := Lib.hid (HK1.out.effT e2 (by decide))
 have HAT2 := Lib.hid (HAT1.out.eff HLO.out e2 HS1.out)
 have HS2 := Lib.hid (Nat.le_trans HS1.out e2.size)
 have HE2 := Lib.hid (HE1.out.trans e2)
 clear e2 c0 hw1
 have c1 : w2.cell? ⟨bx, 1, none⟩ = some (.int .u64 now) := (HK2.out.cell 1).trans H1.out
 go_wp2_with fail
 refine (var_int w2 B g _ now hw2 HNW.out.1 (by have := HNW.out.2; unfold two64; omega) (by simp only [List.length_append, List.length_cons, List.length_nil]; omega)).mono ?_
 rintro e w3 ⟨rfl, hw3, e3⟩
 have HK3 := Lib.hid (HK2.out.effT e3 (by decide))
 have HAT3 := Lib.hid (HAT2.out.eff HLO.out e3 HS2.out)
 have HS3 := Lib.hid (Nat.le_trans HS2.out e3.size)
 have HE3 := Lib.hid (HE2.out.trans e3)
 have HW3 := Lib.hid (show Wr w3 B g (bs ++ hd) by rw [← HHD.out, ← List.append_assoc]; exact hw3)
 clear e3 c1 hw2 hw3
 go_wp2_with (first
  | (with_reducible show wpList _ _ _ (Oper.mk (some 16) (Op.load _ _) _ _ _ _ :: _) _ _; go_must (refine wpList_load_part rfl 49 _ rfl bx 0 323 rfl _ _ _ HK3.out Tryz.underlying49 rfl info_Input (by simp [HL.out]) _ (cl_allN HL.out) ?_))
  | fail)
 refine (HOF.out w3).mono ?_
 rintro e w4 ⟨v, rfl, hb4, a, rfl, hka⟩
 have HKA := Lib.hid hka
 have HK4 := Lib.hid (HK3.out.below hb4 HK3.out.lt)
 have HW4 := Lib.hid (HW3.out.below hb4)
 have HAT4 := Lib.hid (HAT3.out.below hb4)
 have HS4 := Lib.hid (Nat.le_trans HS3.out hb4.size)
 have HE4 := Lib.hid (HE3.out.trans (Eff.of_below hb4 B WrT))
 have c2 : w4.cell? ⟨bx, 0, none⟩ = some (.int .i64 k) := (HK4.out.cell 0).trans H0.out
 clear hka hb4
 go_wp2_with fail
 refine (HUS.out w4).mono ?_
 rintro e w5 ⟨v, rfl, hu⟩
 obtain ⟨A, rfl, hua⟩ := hu.usa
 have HUA5 := Lib.hid hua
 have HKA5 := Lib.hid (HKA.out.below hu.1 HKA.out.lt)
 have HW5 := Lib.hid (HW4.out.below hu.1)
 have HAT5 := Lib.hid (HAT4.out.below hu.1)
 have HS5 := Lib.hid (Nat.le_trans HS4.out hu.1.size)
 have HE5 := Lib.hid (HE4.out.trans (Eff.of_below hu.1 B WrT))
 obtain ⟨n, hn⟩ : ∃ n, us.length = n := ⟨_, rfl⟩
 rw [hn] at HUL ⊢
 have HN := Lib.hid hn.symm
 have HUL2 := HUL.out
 have HLN := Lib.hid (pks_len us)
 clear hu hua c2 hn HK1 HK2 HK3 HK4 HW3 HW4 HE1 HE2 HE3 HE4 HAT1 HAT2 HAT3 HAT4 HKA
 go_wp2
 go_loopw [22] (fun i wr => ∃ j : Nat, j ≤ n ∧ i = .int .i64 (j : Int) ∧ Wr wr B g (bs ++ hd ++ (us.take j).flatMap (PK.form p)) ∧ Bk wr a p.cl.toArray 177 ∧ UsA wr us A ∧ p.at wr ∧ Eff B WrT w wr) (fun i _ => n - (intOf i).toNat)
 case atStart => exact ⟨0, by omega, rfl, by simpa using HW5.out, HKA5.out, HUA5.out, HAT5.out, HE5.out⟩
 case round =>
  clear HW5 HKA5 HUA5 HAT5 HE5
  obtain ⟨j, hj, rfl, h1, h2, h3, h4, h5⟩ := hrel
  have HW := Lib.hid h1
  have HKA := Lib.hid h2
  have HUA := Lib.hid h3
  have HAJ := Lib.hid h4
  have HE := Lib.hid h5
  clear h1 h2 h3 h4 h5
  by_cases hlt : j < n
  ·have hkl : j < us.length := by rw [← HN.out]; exact hlt
   obtain ⟨ad, hA, hcell⟩ := rd_elem (by omega) HLN.out HUA.out.rd hkl
   obtain ⟨x, hxk⟩ : ∃ x, us[j] = x := ⟨_, rfl⟩
   have hmem : x ∈ us := by rw [← hxk]; exact List.getElem_mem hkl
   have HTK := Lib.hid (takes_form (p := p) (show us.take (j + 1) = us.take j ++ [x] by rw [List.take_succ_eq_append_getElem hkl, hxk]))
   rw [hxk] at hcell
   have HTB := Lib.hid (take_bd HP.out HU.out j)
   have HCT := Lib.hid (fun (w1 : World) (b1 : List UInt8) (h1 : p.at w1) (h2 : Bk w1 a p.cl.toArray 177) (h3 : B ≤ w1.heap.size) (h4 : Wr w1 B g b1) (h5 : b1.length + 400000 ≤ room46) => putPK_any x w1 B g b1 p a HP.out (HU.out x hmem) h1 HLO.out h3 h2 h4 h5)
   have eg := PK.in2 x
   have h1f : x.cl.toArray[2]? = some (.func (.func x.f2) #[] #[]) := rfl
   obtain ⟨FF, hFF⟩ : ∃ F, x.f2 = F := ⟨_, rfl⟩
   rw [hFF] at HCT eg h1f
   have HXL := Lib.hid x.cl_len
   have HXS := Lib.hid (show x.cl.toArray.size = 4 from rfl)
   have HXO := Lib.hid (pk_one x)
   obtain ⟨D, hD⟩ : ∃ D, x.cl = D := ⟨_, rfl⟩
   rw [hD] at hcell h1f HXL HXS HXO
   have HC := Lib.hid hcell
   have H1F := Lib.hid h1f
   subst hA
   clear hcell hxk hD hFF h1f hmem
   have hi : (j : Int) < n := by omega
   go_wp2_with (first
    | (with_reducible show wpList _ _ _ (Oper.mk (some 25) (Op.load _ _) _ _ _ _ :: _) _ _; go_must (refine wpList_load_at rfl 128 _ rfl (ad.add (j * 4)) 4 rfl D HC.out _ Tryz.underlying128 rfl info_Part HXL.out ?_))
    | (with_reducible show wpList _ _ _ (Oper.mk _ (Op.alloc _) _ _ _ _ :: _) _ _; refine wpList_alloc_i rfl 128 rfl (.agg zeroPart.toArray) zero_Part ?_))
   intro q w6 k4 l4 g4 s4
   have K4 := Lib.hid k4
   have L4 := Lib.hid l4
   have G4 := Lib.hid g4
   clear k4 l4 g4 s4
   go_wp2_with (with_reducible show wpList _ _ _ (Oper.mk _ (Op.store 128 _ _) _ _ _ _ :: _) _ _; go_must (refine wpList_store_bk rfl 128 _ _ rfl q rfl (.agg D.toArray) rfl _ _ K4.out (by rw [agg_sz HXS.out]; exact info_Part) (by rw [agg_sz HXS.out]; exact zeroPart_sz.symm) HXO.out ?_))
   intro w7 h7 hg7 hs7
   have L7 := Lib.hid (below_grown2 L4.out hg7 G4.out L4.out.size)
   have HW7 := Lib.hid (HW.out.below L7.out)
   have HKA7 := Lib.hid (HKA.out.below L7.out HKA.out.lt)
   have HUA7 := Lib.hid (HUA.out.below L7.out)
   have HA7 := Lib.hid (HAJ.out.below L7.out)
   have HS7 := Lib.hid (show B ≤ w7.heap.size by have := HE.out.size; have := L7.out.size; omega)
   have c1 : w7.cell? ⟨q, 2, none⟩ = some (.func (.func FF) #[] #[]) := ((show Bk w7 q D.toArray 128 from h7).cell 2).trans H1F.out
   clear h7 hg7 hs7 K4 L4 G4
   go_wp2_with fail
   refine (HCT.out w7 _ HA7.out HKA7.out HS7.out HW7.out (by simp only [List.length_append]; have h1 := HTB.out; have h2 := HBD.out; have h3 := HHL.out; omega)).mono ?_
   rintro e w8 ⟨rfl, hw8, e8⟩
   have HW8 := Lib.hid hw8
   have HKA8 := Lib.hid (HKA7.out.effT e8 (by decide))
   have HUA8 := Lib.hid (HUA7.out.eff e8)
   have HA8 := Lib.hid (HA7.out.eff HLO.out e8 HS7.out)
   have HE8 := Lib.hid (HE.out.trans ((Eff.of_below L7.out _ _).trans e8))
   clear hw8 e8 c1 eg
   go_wp2
   go_round
   case rel => exact ⟨j + 1, by omega, by go_num, by rw [HTK.out, ← List.append_assoc]; exact HW8.out, HKA8.out, HUA8.out, HA8.out, HE8.out⟩
   case measure => simp [intOf]; omega
  ·have hkn : j = n := by omega
   subst hkn
   have HTA := Lib.hid (show us.take j = us from List.take_of_length_le (by rw [HN.out]; exact Nat.le_refl _))
   rw [HTA.out] at HW
   clear hlt
   go_wp2
   go_end0
   refine ⟨rfl, ?_, HE.out⟩
   rw [← List.append_assoc]
   exact HW.out
end Go.Proofs.YtlhnhjglcbggmaaGreatRR

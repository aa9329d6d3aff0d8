/-
  Councils and past councils laid down. Conditions: each number fits its kind; the lists lie in the world.
  params: the numbers of Params in two lists of pointers. Condition: none.
-/
import Derived.Test.YtlhnhjglcbggmaaGreatRRY28
namespace Go.Proofs.YtlhnhjglcbggmaaGreatRR
set_option linter.unusedSimpArgs false
set_option linter.unusedVariables false
open Go.RowKit
set_option maxRecDepth 100000

theorem not_int {p : Int} (h1 : -9223372036854775808 ≤ p) (h2 : p < 0) : bits .xor .i64 (-1) p = -p - 1 := by
 show IntKind.i64.wrap ((BitVec.ofInt 64 (-1) ^^^ BitVec.ofInt 64 p).toNat : Int) = _
 have e : (BitVec.ofInt 64 (-1) ^^^ BitVec.ofInt 64 p) = ~~~ BitVec.ofInt 64 p := by
  rw [show BitVec.ofInt 64 (-1) = BitVec.allOnes 64 by decide, BitVec.allOnes_xor]
 rw [e, BitVec.toNat_not, BitVec.toNat_ofInt, IntKind.wrap_i64]
 omega
theorem or_one (n : Nat) (h : n < 9223372036854775808) : bits .or .u64 (2 * (n : Int)) 1 = 2 * (n : Int) + 1 := by
 show IntKind.u64.wrap ((BitVec.ofInt 64 (2 * (n : Int)) ||| BitVec.ofInt 64 1).toNat : Int) = _
 have h1 : (BitVec.ofInt 64 (2 * (n : Int))).toNat = 2 * n := by rw [BitVec.toNat_ofInt]; omega
 have h2 : (BitVec.ofInt 64 1).toNat = 1 := by decide
 have h3 := Nat.two_pow_add_eq_or_of_lt (i := 1) (b := 1) (by decide) n
 rw [BitVec.toNat_or, h1, h2, IntKind.wrap_u64]
 rw [show 2 ^ 1 * n = 2 * n by omega] at h3
 rw [← h3]
 omega
set_option maxHeartbeats 1000000 in
theorem putMem_any (w : World) (B g : Nat) (bs : List UInt8) (m : Mem) (hm : m.ok) (hw : Wr w B g bs) (hb : bs.length + 100 ≤ room46) :
  Calls Tryz.prog 186 #[.pointer (some ⟨g, 0, none⟩), .agg m.cl.toArray] w fun e w' => e = .returned (.tuple #[]) ∧ Wr w' B g (bs ++ encMem m) ∧ Eff B WrT w w' := by
 have l1 := varB_int (n := m.addr) hm.addr.1 (by have := hm.addr.2; unfold two64; omega)
 have l2 := varB_int (n := m.power) hm.power.1 (by have := hm.power.2; unfold two64; omega)
 have Haddr := Lib.hid hm.addr
 have Hpower := Lib.hid hm.power
 have Hprio := Lib.hid hm.prio
 have hpr : -9223372036854775808 ≤ m.prio ∧ m.prio < 9223372036854775808 := hm.prio
 clear hm
 obtain ⟨pr, hpp⟩ : ∃ p, m.prio = p := ⟨_, rfl⟩
 have HPP := Lib.hid hpp
 rw [hpp] at hpr
 have HPR := Lib.hid hpr
 obtain ⟨b, hb⟩ : ∃ b, decide (pr < 0) = b := ⟨_, rfl⟩
 go_enter Tryz.func186, Tryz.ntmps186
 go_wp2_with (refine wpList_box_bk rfl _ _ rfl _ rfl ?_)
 intro bx w1 hk1 hbl hg hs
 clear hg hs
 have hw1 := hw.below hbl
 have c0 : w1.cell? ⟨bx, 0, none⟩ = some (.int .u64 m.addr) := hk1.cell 0
 go_wp2_with fail
 refine (var_int w1 B g _ m.addr hw1 Haddr.out.1 (by have := Haddr.out.2; unfold two64; omega) (by omega)).mono ?_
 rintro e w2 ⟨rfl, hw2, e2⟩
 have hk2 := hk1.effT e2 (by decide)
 have c1 : w2.cell? ⟨bx, 1, none⟩ = some (.int .u64 m.power) := hk2.cell 1
 go_wp2_with fail
 refine (var_int w2 B g _ m.power hw2 Hpower.out.1 (by have := Hpower.out.2; unfold two64; omega) (by simp only [List.length_append]; omega)).mono ?_
 rintro e w3 ⟨rfl, hw3, e3⟩
 have hk3 := hk2.effT e3 (by decide)
 have c2 : w3.cell? ⟨bx, 2, none⟩ = some (.int .i64 pr) := by rw [← HPP.out]; exact hk3.cell 2
 clear c0 c1 hpp hpr
 cases b
 ·have h0 : ¬ pr < 0 := of_decide_eq_false hb
  have HZ := Lib.hid (show encMem m = varB m.addr.toNat ++ varB m.power.toNat ++ varB (2 * pr).toNat by unfold encMem zig; rw [HPP.out, if_neg h0])
  have p1 : IntKind.u64.wrap pr = pr := by rw [IntKind.wrap_u64]; have := HPR.out; omega
  have p2 : IntKind.u64.wrap (pr * 2) = pr * 2 := by rw [IntKind.wrap_u64]; have := HPR.out; omega
  clear hb
  go_wp2_with fail
  refine (var_int w3 B g _ (pr * 2) hw3 (by omega) (by have := HPR.out; unfold two64; omega) (by simp only [List.length_append]; omega)).mono ?_
  rintro e w4 ⟨rfl, hw4, e4⟩
  go_wp2
  go_end0
  refine ⟨rfl, ?_, (Eff.of_below hbl _ _).trans (e2.trans (e3.trans e4))⟩
  rw [HZ.out, show 2 * pr = pr * 2 by omega]
  simpa only [List.append_assoc] using hw4
 ·have h0 : pr < 0 := of_decide_eq_true hb
  have HZ := Lib.hid (show encMem m = varB m.addr.toNat ++ varB m.power.toNat ++ varB (2 * (-pr - 1) + 1).toNat by unfold encMem zig; rw [HPP.out, if_pos h0])
  have p1 : bits .xor .i64 (-1) pr = -pr - 1 := not_int HPR.out.1 h0
  have p2 : IntKind.u64.wrap (-pr - 1) = -pr - 1 := by rw [IntKind.wrap_u64]; have := HPR.out; omega
  have p3 : IntKind.u64.wrap ((-pr - 1) * 2) = (-pr - 1) * 2 := by rw [IntKind.wrap_u64]; have := HPR.out; omega
  have p4 : bits .or .u64 ((-pr - 1) * 2) 1 = (-pr - 1) * 2 + 1 := by
   obtain ⟨n, hn⟩ : ∃ n : Nat, -pr - 1 = (n : Int) := ⟨(-pr - 1).toNat, by omega⟩
   rw [hn, show (n : Int) * 2 = 2 * (n : Int) by omega]
   exact or_one n (by have := HPR.out; omega)
  have HP1 := Lib.hid p1
  have HP2 := Lib.hid p2
  have HP3 := Lib.hid p3
  have HP4 := Lib.hid p4
  clear hb p1 p2 p3 p4
  go_wp2_with fail
  ·rw [HP1.out, HP2.out, HP3.out, HP4.out]
   refine (var_int w3 B g _ ((-pr - 1) * 2 + 1) hw3 (by omega) (by have := HPR.out; unfold two64; omega) (by simp only [List.length_append]; omega)).mono ?_
   rintro e w4 ⟨rfl, hw4, e4⟩
   go_wp2
   go_end0
   refine ⟨rfl, ?_, (Eff.of_below hbl _ _).trans (e2.trans (e3.trans e4))⟩
   rw [HZ.out, show 2 * (-pr - 1) + 1 = (-pr - 1) * 2 + 1 by omega]
   simpa only [List.append_assoc] using hw4
  all_goals (rename_i hbad; exact absurd hbad (by decide))
def ttMem (_ : Mem) : Prop := True
theorem putMems_take (ms : List Mem) (k : Nat) (hk : k < ms.length) : (ms.take (k + 1)).flatMap encMem = (ms.take k).flatMap encMem ++ encMem ms[k] := by
 rw [List.take_succ_eq_append_getElem hk, List.flatMap_append]; simp
theorem putMems_len {ms : List Mem} (h : ∀ m ∈ ms, (encMem m).length ≤ 30) : ∀ k, ((ms.take k).flatMap encMem).length ≤ 30 * k := by
 intro k
 induction k with
 | zero => simp
 | succ k ih =>
  rcases Nat.lt_or_ge k ms.length with hl | hl
  ·rw [putMems_take ms k hl, List.length_append]
   have := h _ (List.getElem_mem hl)
   omega
  ·rw [List.take_of_length_le (by omega)]
   rw [List.take_of_length_le (by omega)] at ih
   omega
set_option maxHeartbeats 1000000 in
theorem putMems_any (w : World) (B g : Nat) (bs : List UInt8) (A : Option Addr) (n c : Nat) (ms : List Mem) (hm : ∀ m ∈ ms, Mem.ok m) (hp : ∀ m ∈ ms, ttMem m) (hle : ∀ m ∈ ms, (encMem m).length ≤ 30) (hn : n = ms.length) (hl : n ≤ 1000000000) (hr : Rd w A (ms.flatMap Mem.cl)) (hA : ∀ ad, A = some ad → ms.flatMap Mem.cl ≠ [] → ad.block < B) (hB : B ≤ w.heap.size) (hw : Wr w B g bs) (hb : bs.length + 30 * n + 110 ≤ room46) :
  Calls Tryz.prog 185 #[.pointer (some ⟨g, 0, none⟩), .slice A n c, .func (.func 186) #[] #[]] w fun e w' => e = .returned (.tuple #[]) ∧ Wr w' B g (bs ++ (varB n ++ ms.flatMap encMem)) ∧ Eff B WrT w w' := by
 have HM := Lib.hid hm
 have HP := Lib.hid hp
 have HN := Lib.hid hn
 have HA := Lib.hid hA
 have HR := Lib.hid hr
 have HL := Lib.hid (putMems_len hle)
 have HLN := Lib.hid (show ∀ m ∈ ms, (Mem.cl m).length = 3 from fun m h => m.cl_len)
 have hv := varB_ten (n := n) (by unfold two64; omega)
 clear hm hp hn hA hr hle
 go_enter Tryz.func185, Tryz.ntmps185
 go_wp2_with (go_at_call 139; go_must (refine (count_any _ B g bs n hw (by omega) (by omega)).mono ?_); rintro e w1 ⟨rfl, hw1, e1⟩)
 have HW1 := Lib.hid hw1
 have HE1 := Lib.hid e1
 have HR1 := Lib.hid (rd_eff HR.out e1 hB HA.out)
 clear hw1 e1
 go_loopw [14] (fun i wr => ∃ k : Nat, k ≤ n ∧ i = .int .i64 (k : Int) ∧ Wr wr B g (bs ++ varB n ++ (ms.take k).flatMap encMem) ∧ Rd wr A (ms.flatMap Mem.cl) ∧ Eff B WrT w wr) (fun i _ => n - (intOf i).toNat)
 case atStart => exact ⟨0, by omega, rfl, by simpa using HW1.out, HR1.out, HE1.out⟩
 case round =>
  clear HW1 HE1 HR1
  obtain ⟨k, hk, rfl, hw2, hr2, e2⟩ := hrel
  have HW2 := Lib.hid hw2
  have HR2 := Lib.hid hr2
  have HE2 := Lib.hid e2
  clear hw2 hr2 e2
  by_cases hlt : k < n
  ·have hkl : k < ms.length := by rw [← HN.out]; exact hlt
   obtain ⟨ad, hA, hcell⟩ := rd_elem (by omega) HLN.out HR2.out hkl
   obtain ⟨m, hmk⟩ : ∃ m, ms[k] = m := ⟨_, rfl⟩
   have hmem : m ∈ ms := by rw [← hmk]; exact List.getElem_mem hkl
   have HMO := Lib.hid (HM.out m hmem)
   have HMP := Lib.hid (HP.out m hmem)
   have HML := Lib.hid (HLN.out m hmem)
   have HT := Lib.hid (show (ms.take (k + 1)).flatMap encMem = (ms.take k).flatMap encMem ++ encMem m by rw [putMems_take ms k hkl, hmk])
   rw [hmk] at hcell
   subst hA
   have HC := Lib.hid hcell
   clear hcell hmem hmk
   have hi1 : (k : Int) < n := by omega
   go_wp2_with (first
    | (with_reducible show wpList _ _ _ (Oper.mk (some 17) (Op.load _ _) _ _ _ _ :: _) _ _; go_must (refine wpList_load_at rfl 182 _ rfl (ad.add (k * 3)) 3 rfl (Mem.cl m) HC.out _ Tryz.underlying182 rfl info_Mem HML.out ?_))
    | (with_reducible show wpList _ _ _ (Oper.mk _ (Op.alloc _) _ _ _ _ :: _) _ _; refine wpList_alloc_i rfl 182 rfl (.agg zeroMem.toArray) zero_Mem ?_))
   intro r w6 h6 hl6 hg6 hs6
   have H6 := Lib.hid h6
   have HL6 := Lib.hid hl6
   have HG6 := Lib.hid hg6
   have HSZ := Lib.hid (show (Mem.cl m).toArray.size = 3 by rw [List.size_toArray, HML.out])
   clear h6 hl6 hg6 hs6
   go_wp2_with (with_reducible show wpList _ _ _ (Oper.mk _ (Op.store 182 _ _) _ _ _ _ :: _) _ _; go_must (refine wpList_store_bk rfl 182 _ _ rfl r rfl (.agg (Mem.cl m).toArray) rfl _ _ H6.out (by rw [agg_sz HSZ.out]; exact info_Mem) (by rw [agg_sz HSZ.out]; exact zeroMem_sz.symm) (mem_one m) ?_))
   intro w7 h7 hg7 hs7
   have HL7 := Lib.hid (below_grown2 HL6.out hg7 HG6.out HL6.out.size)
   have H7 := Lib.hid (show Bk w7 r (Mem.cl m).toArray 182 from h7)
   have HW7 := Lib.hid (HW2.out.below HL7.out)
   have HR7 := Lib.hid (HR2.out.below HL7.out)
   have HS7 := Lib.hid (show B ≤ w7.heap.size by have := HE2.out.size; have := HL7.out.size; omega)
   clear h7 hg7 hs7
   go_wp2_with (with_reducible show wpList _ _ _ (Oper.mk (some 20) (Op.load _ _) _ _ _ _ :: _) _ _; go_must (refine wpList_load_part rfl 182 _ rfl r 0 3 rfl _ _ _ H7.out Tryz.underlying182 rfl info_Mem (by rw [HSZ.out]; omega) (Mem.cl m).toArray (arr_all HSZ.out) ?_); go_wp2_with fail)
   refine (putMem_any _ B g _ m HMO.out HW7.out (by simp only [List.length_append]; have h1 := HL.out k; have h2 : 30 * k ≤ 30 * n := Nat.mul_le_mul_left _ hk; omega)).mono ?_
   rintro e w8 ⟨rfl, hw8, e8⟩
   have HW8 := Lib.hid hw8
   have HR8 := Lib.hid (rd_eff HR7.out e8 HS7.out HA.out)
   have HE8 := Lib.hid (HE2.out.trans ((Eff.of_below HL7.out _ _).trans e8))
   clear hw8 e8
   go_wp2
   go_round
   case rel => exact ⟨k + 1, by omega, by go_num, by rw [HT.out, ← List.append_assoc]; exact HW8.out, HR8.out, HE8.out⟩
   case measure => simp [intOf]; omega
  ·have hk7 : k = n := by omega
   subst hk7
   have HT := Lib.hid (show ms.take k = ms from List.take_of_length_le (by rw [HN.out]; exact Nat.le_refl _))
   rw [HT.out] at HW2
   go_wp2
   go_end0
   refine ⟨rfl, ?_, HE2.out⟩
   simpa only [List.append_assoc] using HW2.out
theorem info_Cou : (Tryz.prog.info? 54).map (·.size) = some 1 := by kernel_rfl
set_option maxHeartbeats 1000000 in
theorem putCouncil_any (w : World) (B g : Nat) (bs : List UInt8) (x : Cou) (hx : x.ok) (hn : x.n ≤ 64) (hat : x.at w) (hlo : Low x.A (x.ms.flatMap Mem.cl) B) (hB : B ≤ w.heap.size) (hw : Wr w B g bs) (hb : bs.length + 3000 ≤ room46) :
  Calls Tryz.prog 121 #[.pointer (some ⟨g, 0, none⟩), .agg x.cl.toArray] w fun e w' => e = .returned (.tuple #[]) ∧ Wr w' B g (bs ++ encCou x) ∧ Eff B WrT w w' := by
 have HX := Lib.hid hx
 have HAT := Lib.hid hat
 have HLO := Lib.hid hlo
 clear hx hat hlo
 go_enter Tryz.func121, Tryz.ntmps121
 go_wp2_with (refine wpList_box_bk rfl _ _ rfl _ rfl ?_)
 intro bx w1 hk1 hbl hg hs
 clear hg hs
 have hw1 := hw.below hbl
 have HA1 := Lib.hid (show Rd w1 x.A (x.ms.flatMap Mem.cl) from Rd.below (xs := x.ms.flatMap Mem.cl) HAT.out hbl)
 have HS1 := Lib.hid (Nat.le_trans hB hbl.size)
 have c0 : w1.cell? ⟨bx, 0, none⟩ = some (.slice x.A x.n x.c) := hk1.cell 0
 go_wp2_with fail
 refine (putMems_any w1 B g bs x.A x.n x.c x.ms HX.out.ms (fun m _ => trivial) (fun m h => encMem_30 (HX.out.ms m h)) HX.out.n (by omega) HA1.out HLO.out HS1.out hw1 (by omega)).mono ?_
 rintro e w2 ⟨rfl, hw2, e2⟩
 go_wp2
 go_end0
 exact ⟨rfl, hw2, (Eff.of_below hbl _ _).trans e2⟩
theorem info_Pst : (Tryz.prog.info? 142).map (·.size) = some 3 := by kernel_rfl
def zeroPst : List Value := [.int .u64 0, .int .u64 0, .slice none 0 0]
theorem zero_Pst : (Tryz.prog.info? 142).bind (·.zero) = some (.agg zeroPst.toArray) := by kernel_rfl
theorem zeroPst_sz : zeroPst.toArray.size = 3 := rfl
theorem Pst.cl_len (m : Pst) : m.cl.length = 3 := rfl
theorem pst_one (m : Pst) : ∀ u ∈ (Value.agg m.cl.toArray).cells.toList, u.oneCell' = true := by
 intro u hu
 simp only [Value.cells, Pst.cl, List.mem_cons, List.not_mem_nil, or_false] at hu
 rcases hu with rfl | rfl | rfl <;> rfl
set_option maxHeartbeats 1000000 in
theorem putPst_any (w : World) (B g : Nat) (bs : List UInt8) (m : Pst) (hm : m.ok) (hn : m.cou.n ≤ 64) (hat : Rd w m.cou.A (m.cou.ms.flatMap Mem.cl)) (hlo : Low m.cou.A (m.cou.ms.flatMap Mem.cl) B) (hB : B ≤ w.heap.size) (hw : Wr w B g bs) (hb : bs.length + 4000 ≤ room46) :
  Calls Tryz.prog 123 #[.pointer (some ⟨g, 0, none⟩), .agg m.cl.toArray] w fun e w' => e = .returned (.tuple #[]) ∧ Wr w' B g (bs ++ encPst m) ∧ Eff B WrT w w' := by
 have l1 := varB_int (n := m.height) hm.height.1 (by have := hm.height.2; unfold two64; omega)
 have l2 := varB_int (n := m.time) hm.time.1 (by have := hm.time.2; unfold two64; omega)
 have HM := Lib.hid hm
 have HAT := Lib.hid hat
 have HLO := Lib.hid hlo
 clear hm hat hlo
 go_enter Tryz.func123, Tryz.ntmps123
 go_wp2_with (refine wpList_box_bk rfl _ _ rfl _ rfl ?_)
 intro bx w1 hk1 hbl hg hs
 clear hg hs
 have hw1 := hw.below hbl
 have HS1 := Lib.hid (Nat.le_trans hB hbl.size)
 have HA1 := Lib.hid (HAT.out.below hbl)
 have c0 : w1.cell? ⟨bx, 0, none⟩ = some (.int .u64 m.height) := hk1.cell 0
 go_wp2_with fail
 refine (var_int w1 B g _ m.height hw1 HM.out.height.1 (by have := HM.out.height.2; unfold two64; omega) (by omega)).mono ?_
 rintro e w2 ⟨rfl, hw2, e2⟩
 have hk2 := hk1.effT e2 (by decide)
 have c1 : w2.cell? ⟨bx, 1, none⟩ = some (.int .u64 m.time) := hk2.cell 1
 go_wp2_with fail
 refine (var_int w2 B g _ m.time hw2 HM.out.time.1 (by have := HM.out.time.2; unfold two64; omega) (by simp only [List.length_append]; omega)).mono ?_
 rintro e w3 ⟨rfl, hw3, e3⟩
 have hk3 := hk2.effT e3 (by decide)
 have HE3 := Lib.hid (e2.trans e3)
 have HA3 := Lib.hid (rd_eff HA1.out HE3.out HS1.out HLO.out)
 have HS3 := Lib.hid (Nat.le_trans HS1.out HE3.out.size)
 have c2 : w3.cell? ⟨bx, 2, none⟩ = some (.slice m.cou.A m.cou.n m.cou.c) := hk3.cell 2
 clear c0 c1
 go_wp2_with (first
  | (with_reducible show wpList _ _ _ (Oper.mk (some 14) (Op.load _ _) _ _ _ _ :: _) _ _; go_must (refine wpList_load_part rfl 54 _ rfl bx 2 1 rfl _ _ _ hk3 Tryz.underlying54 rfl info_Cou (by simp [Pst.cl]) m.cou.cl.toArray (by simp [Pst.cl, Cou.cl]) ?_))
  | fail)
 refine (putCouncil_any w3 B g _ m.cou HM.out.cou hn HA3.out HLO.out HS3.out hw3 (by simp only [List.length_append]; omega)).mono ?_
 rintro e w4 ⟨rfl, hw4, e4⟩
 go_wp2
 go_end0
 refine ⟨rfl, ?_, (Eff.of_below hbl _ _).trans (HE3.out.trans e4)⟩
 unfold encPst
 simpa only [List.append_assoc] using hw4
def pstP (m : Pst) : Prop := m.cou.n ≤ 64
theorem putPsts_take (ms : List Pst) (k : Nat) (hk : k < ms.length) : (ms.take (k + 1)).flatMap encPst = (ms.take k).flatMap encPst ++ encPst ms[k] := by
 rw [List.take_succ_eq_append_getElem hk, List.flatMap_append]; simp
theorem putPsts_len {ms : List Pst} (h : ∀ m ∈ ms, (encPst m).length ≤ 1950) : ∀ k, ((ms.take k).flatMap encPst).length ≤ 1950 * k := by
 intro k
 induction k with
 | zero => simp
 | succ k ih =>
  rcases Nat.lt_or_ge k ms.length with hl | hl
  ·rw [putPsts_take ms k hl, List.length_append]
   have := h _ (List.getElem_mem hl)
   omega
  ·rw [List.take_of_length_le (by omega)]
   rw [List.take_of_length_le (by omega)] at ih
   omega
set_option maxHeartbeats 1000000 in
theorem putPsts_any (w : World) (B g : Nat) (bs : List UInt8) (A : Option Addr) (n c : Nat) (ms : List Pst) (hm : ∀ m ∈ ms, Pst.ok m) (hp : ∀ m ∈ ms, pstP m) (hle : ∀ m ∈ ms, (encPst m).length ≤ 1950) (hcat : ∀ m ∈ ms, Rd w m.cou.A (m.cou.ms.flatMap Mem.cl)) (hclo : ∀ m ∈ ms, Low m.cou.A (m.cou.ms.flatMap Mem.cl) B) (hn : n = ms.length) (hl : n ≤ 1000) (hr : Rd w A (ms.flatMap Pst.cl)) (hA : ∀ ad, A = some ad → ms.flatMap Pst.cl ≠ [] → ad.block < B) (hB : B ≤ w.heap.size) (hw : Wr w B g bs) (hb : bs.length + 1950 * n + 5010 ≤ room46) :
  Calls Tryz.prog 122 #[.pointer (some ⟨g, 0, none⟩), .slice A n c, .func (.func 123) #[] #[]] w fun e w' => e = .returned (.tuple #[]) ∧ Wr w' B g (bs ++ (varB n ++ ms.flatMap encPst)) ∧ Eff B WrT w w' := by
 have HM := Lib.hid hm
 have HCAT := Lib.hid hcat
 have HCLO := Lib.hid hclo
 clear hcat hclo
 have HP := Lib.hid hp
 have HN := Lib.hid hn
 have HA := Lib.hid hA
 have HR := Lib.hid hr
 have HL := Lib.hid (putPsts_len hle)
 have HLN := Lib.hid (show ∀ m ∈ ms, (Pst.cl m).length = 3 from fun m h => m.cl_len)
 have hv := varB_ten (n := n) (by unfold two64; omega)
 clear hm hp hn hA hr hle
 go_enter Tryz.func122, Tryz.ntmps122
 go_wp2_with (go_at_call 139; go_must (refine (count_any _ B g bs n hw (by omega) (by omega)).mono ?_); rintro e w1 ⟨rfl, hw1, e1⟩)
 have HW1 := Lib.hid hw1
 have HE1 := Lib.hid e1
 have HR1 := Lib.hid (rd_eff HR.out e1 hB HA.out)
 clear hw1 e1
 go_loopw [14] (fun i wr => ∃ k : Nat, k ≤ n ∧ i = .int .i64 (k : Int) ∧ Wr wr B g (bs ++ varB n ++ (ms.take k).flatMap encPst) ∧ Rd wr A (ms.flatMap Pst.cl) ∧ Eff B WrT w wr) (fun i _ => n - (intOf i).toNat)
 case atStart => exact ⟨0, by omega, rfl, by simpa using HW1.out, HR1.out, HE1.out⟩
 case round =>
  clear HW1 HE1 HR1
  obtain ⟨k, hk, rfl, hw2, hr2, e2⟩ := hrel
  have HW2 := Lib.hid hw2
  have HR2 := Lib.hid hr2
  have HE2 := Lib.hid e2
  clear hw2 hr2 e2
  by_cases hlt : k < n
  ·have hkl : k < ms.length := by rw [← HN.out]; exact hlt
   obtain ⟨ad, hA, hcell⟩ := rd_elem (by omega) HLN.out HR2.out hkl
   obtain ⟨m, hmk⟩ : ∃ m, ms[k] = m := ⟨_, rfl⟩
   have hmem : m ∈ ms := by rw [← hmk]; exact List.getElem_mem hkl
   have HMO := Lib.hid (HM.out m hmem)
   have HMEM := Lib.hid hmem
   have HMP := Lib.hid (HP.out m hmem)
   have HML := Lib.hid (HLN.out m hmem)
   have HT := Lib.hid (show (ms.take (k + 1)).flatMap encPst = (ms.take k).flatMap encPst ++ encPst m by rw [putPsts_take ms k hkl, hmk])
   rw [hmk] at hcell
   subst hA
   have HC := Lib.hid hcell
   clear hcell hmem hmk
   have hi1 : (k : Int) < n := by omega
   go_wp2_with (first
    | (with_reducible show wpList _ _ _ (Oper.mk (some 17) (Op.load _ _) _ _ _ _ :: _) _ _; go_must (refine wpList_load_at rfl 142 _ rfl (ad.add (k * 3)) 3 rfl (Pst.cl m) HC.out _ Tryz.underlying142 rfl info_Pst HML.out ?_))
    | (with_reducible show wpList _ _ _ (Oper.mk _ (Op.alloc _) _ _ _ _ :: _) _ _; refine wpList_alloc_i rfl 142 rfl (.agg zeroPst.toArray) zero_Pst ?_))
   intro r w6 h6 hl6 hg6 hs6
   have H6 := Lib.hid h6
   have HL6 := Lib.hid hl6
   have HG6 := Lib.hid hg6
   have HSZ := Lib.hid (show (Pst.cl m).toArray.size = 3 by rw [List.size_toArray, HML.out])
   clear h6 hl6 hg6 hs6
   go_wp2_with (with_reducible show wpList _ _ _ (Oper.mk _ (Op.store 142 _ _) _ _ _ _ :: _) _ _; go_must (refine wpList_store_bk rfl 142 _ _ rfl r rfl (.agg (Pst.cl m).toArray) rfl _ _ H6.out (by rw [agg_sz HSZ.out]; exact info_Pst) (by rw [agg_sz HSZ.out]; exact zeroPst_sz.symm) (pst_one m) ?_))
   intro w7 h7 hg7 hs7
   have HL7 := Lib.hid (below_grown2 HL6.out hg7 HG6.out HL6.out.size)
   have H7 := Lib.hid (show Bk w7 r (Pst.cl m).toArray 142 from h7)
   have HW7 := Lib.hid (HW2.out.below HL7.out)
   have HR7 := Lib.hid (HR2.out.below HL7.out)
   have HS7 := Lib.hid (show B ≤ w7.heap.size by have := HE2.out.size; have := HL7.out.size; omega)
   clear h7 hg7 hs7
   go_wp2_with (with_reducible show wpList _ _ _ (Oper.mk (some 20) (Op.load _ _) _ _ _ _ :: _) _ _; go_must (refine wpList_load_part rfl 142 _ rfl r 0 3 rfl _ _ _ H7.out Tryz.underlying142 rfl info_Pst (by rw [HSZ.out]; omega) (Pst.cl m).toArray (arr_all HSZ.out) ?_); go_wp2_with fail)
   refine (putPst_any _ B g _ m HMO.out HMP.out ((rd_eff (HCAT.out m HMEM.out) HE2.out hB (HCLO.out m HMEM.out)).below HL7.out) (HCLO.out m HMEM.out) HS7.out HW7.out (by simp only [List.length_append]; have h1 := HL.out k; have h2 : 1950 * k ≤ 1950 * n := Nat.mul_le_mul_left _ hk; omega)).mono ?_
   rintro e w8 ⟨rfl, hw8, e8⟩
   have HW8 := Lib.hid hw8
   have HR8 := Lib.hid (rd_eff HR7.out e8 HS7.out HA.out)
   have HE8 := Lib.hid (HE2.out.trans ((Eff.of_below HL7.out _ _).trans e8))
   clear hw8 e8
   go_wp2
   go_round
   case rel => exact ⟨k + 1, by omega, by go_num, by rw [HT.out, ← List.append_assoc]; exact HW8.out, HR8.out, HE8.out⟩
   case measure => simp [intOf]; omega
  ·have hk7 : k = n := by omega
   subst hk7
   have HT := Lib.hid (show ms.take k = ms from List.take_of_length_le (by rw [HN.out]; exact Nat.le_refl _))
   rw [HT.out] at HW2
   go_wp2
   go_end0
   refine ⟨rfl, ?_, HE2.out⟩
   simpa only [List.append_assoc] using HW2.out
end Go.Proofs.YtlhnhjglcbggmaaGreatRR
namespace Go.Proofs.YtlhnhjglcbggmaaGreatRR
set_option linter.unusedSimpArgs false
set_option linter.unusedVariables false
open Go.RowKit
set_option maxRecDepth 100000

/-- a list of pointers into block b in the call's own memory -/
def PtrK (l : List Value) : Known := fun v w => ∃ g, v = .slice (some ⟨g, 0, none⟩) l.length l.length ∧ Bk w g l.toArray 201
theorem PtrK.steady (l : List Value) : Steady (PtrK l) := fun _ _ _ ⟨g, h1, h2⟩ hb => ⟨g, h1, h2.below hb h2.lt⟩
def ptr (b i : Nat) : Value := .pointer (some ⟨b, i, none⟩)
set_option maxHeartbeats 2000000 in
theorem params_any (w : World) (b : Nat) : Calls Tryz.prog 120 #[.pointer (some ⟨b, 1, none⟩)] w fun e w' => ∃ v1 v2, e = .returned (.tuple #[v1, v2]) ∧ PtrK [ptr b 3, ptr b 4, ptr b 5] v1 w' ∧ PtrK [ptr b 7, ptr b 8, ptr b 9, ptr b 10, ptr b 11, ptr b 12] v2 w' ∧ Below w.heap.size w w' := by
 go_enter Tryz.func120, Tryz.ntmps120
 go_wp2_with fail
 refine wp_region_free [(4, []), (5, [(0, 4)]), (6, [(1, 5)]), (7, []), (8, [(3, 7)]), (9, [(4, 8)]), (10, []), (11, [(6, 10)]), (12, [(7, 11)]), (13, [(2, 6), (5, 9), (8, 12)]), (14, []), (15, [(10, 14)]), (16, [(11, 15)]), (17, []), (18, [(13, 17)]), (19, [(14, 18)]), (20, []), (21, [(16, 20)]), (22, [(17, 21)]), (23, []), (24, [(19, 23)]), (25, [(20, 24)]), (26, []), (27, [(22, 26)]), (28, [(23, 27)]), (29, []), (30, [(25, 29)]), (31, [(26, 30)]), (32, [(12, 16), (15, 19), (18, 22), (21, 25), (24, 28), (27, 31)]), (2, [(9, 13)])]
  [Is (.pointer (some ⟨b, 1, none⟩)), Is (.pointer (some ⟨b, 1, none⟩)), Is (.pointer (some ⟨b, 3, none⟩)), Is (.pointer (some ⟨b, 1, none⟩)), Is (.pointer (some ⟨b, 1, none⟩)), Is (.pointer (some ⟨b, 4, none⟩)), Is (.pointer (some ⟨b, 1, none⟩)), Is (.pointer (some ⟨b, 1, none⟩)), Is (.pointer (some ⟨b, 5, none⟩)), PtrK [ptr b 3, ptr b 4, ptr b 5], Is (.pointer (some ⟨b, 1, none⟩)), Is (.pointer (some ⟨b, 1, none⟩)), Is (.pointer (some ⟨b, 7, none⟩)), Is (.pointer (some ⟨b, 1, none⟩)), Is (.pointer (some ⟨b, 1, none⟩)), Is (.pointer (some ⟨b, 8, none⟩)), Is (.pointer (some ⟨b, 1, none⟩)), Is (.pointer (some ⟨b, 1, none⟩)), Is (.pointer (some ⟨b, 9, none⟩)), Is (.pointer (some ⟨b, 1, none⟩)), Is (.pointer (some ⟨b, 1, none⟩)), Is (.pointer (some ⟨b, 10, none⟩)), Is (.pointer (some ⟨b, 1, none⟩)), Is (.pointer (some ⟨b, 1, none⟩)), Is (.pointer (some ⟨b, 11, none⟩)), Is (.pointer (some ⟨b, 1, none⟩)), Is (.pointer (some ⟨b, 1, none⟩)), Is (.pointer (some ⟨b, 12, none⟩)), PtrK [ptr b 7, ptr b 8, ptr b 9, ptr b 10, ptr b 11, ptr b 12], PtrK [ptr b 3, ptr b 4, ptr b 5]]
  (by kernel_rfl) (by kernel_rfl) (by rfl) ?st ?steps ?fin
 case st => exact ⟨Is.steady _, Is.steady _, Is.steady _, Is.steady _, Is.steady _, Is.steady _, Is.steady _, Is.steady _, Is.steady _, PtrK.steady _, Is.steady _, Is.steady _, Is.steady _, Is.steady _, Is.steady _, Is.steady _, Is.steady _, Is.steady _, Is.steady _, Is.steady _, Is.steady _, Is.steady _, Is.steady _, Is.steady _, Is.steady _, Is.steady _, Is.steady _, Is.steady _, PtrK.steady _, PtrK.steady _, trivial⟩
 case steps =>
  refine fcA (fun w4 hw4 => ?_) ?_
  ·refine foA rfl rfl ?_; (try simp only [Act.put, zA, zB, zC]); (go_wp2_with fail); exact qsA rfl rfl
  refine fcA (fun w4 hw4 => fiA rfl ?_) ?_
  ·refine foA rfl rfl ?_; (try simp only [Act.put, zA, zB, zC]); (go_wp2_with fail); exact qsA rfl rfl
  refine fcA (fun w4 hw4 => fiA rfl ?_) ?_
  ·refine foA rfl rfl ?_; (try simp only [Act.put, zA, zB, zC]); (go_wp2_with fail); exact qsA rfl rfl
  refine fcA (fun w4 hw4 => ?_) ?_
  ·refine foA rfl rfl ?_; (try simp only [Act.put, zA, zB, zC]); (go_wp2_with fail); exact qsA rfl rfl
  refine fcA (fun w4 hw4 => fiA rfl ?_) ?_
  ·refine foA rfl rfl ?_; (try simp only [Act.put, zA, zB, zC]); (go_wp2_with fail); exact qsA rfl rfl
  refine fcA (fun w4 hw4 => fiA rfl ?_) ?_
  ·refine foA rfl rfl ?_; (try simp only [Act.put, zA, zB, zC]); (go_wp2_with fail); exact qsA rfl rfl
  refine fcA (fun w4 hw4 => ?_) ?_
  ·refine foA rfl rfl ?_; (try simp only [Act.put, zA, zB, zC]); (go_wp2_with fail); exact qsA rfl rfl
  refine fcA (fun w4 hw4 => fiA rfl ?_) ?_
  ·refine foA rfl rfl ?_; (try simp only [Act.put, zA, zB, zC]); (go_wp2_with fail); exact qsA rfl rfl
  refine fcA (fun w4 hw4 => fiA rfl ?_) ?_
  ·refine foA rfl rfl ?_; (try simp only [Act.put, zA, zB, zC]); (go_wp2_with fail); exact qsA rfl rfl
  refine fcA (fun w4 hw4 => fiA rfl (fiA rfl (fiA rfl ?_))) ?_
  ·refine FreeStep.op rfl rfl ?_
   (try simp only [Act.put, zA, zB, zC])
   go_wp2_with fail
   exact QStep.mk rfl ((Below.refl _ _).alloc (Nat.le_refl _) _) ⟨_, rfl, Bk.new _ _ _⟩
  refine fcA (fun w4 hw4 => ?_) ?_
  ·refine foA rfl rfl ?_; (try simp only [Act.put, zA, zB, zC]); (go_wp2_with fail); exact qsA rfl rfl
  refine fcA (fun w4 hw4 => fiA rfl ?_) ?_
  ·refine foA rfl rfl ?_; (try simp only [Act.put, zA, zB, zC]); (go_wp2_with fail); exact qsA rfl rfl
  refine fcA (fun w4 hw4 => fiA rfl ?_) ?_
  ·refine foA rfl rfl ?_; (try simp only [Act.put, zA, zB, zC]); (go_wp2_with fail); exact qsA rfl rfl
  refine fcA (fun w4 hw4 => ?_) ?_
  ·refine foA rfl rfl ?_; (try simp only [Act.put, zA, zB, zC]); (go_wp2_with fail); exact qsA rfl rfl
  refine fcA (fun w4 hw4 => fiA rfl ?_) ?_
  ·refine foA rfl rfl ?_; (try simp only [Act.put, zA, zB, zC]); (go_wp2_with fail); exact qsA rfl rfl
  refine fcA (fun w4 hw4 => fiA rfl ?_) ?_
  ·refine foA rfl rfl ?_; (try simp only [Act.put, zA, zB, zC]); (go_wp2_with fail); exact qsA rfl rfl
  refine fcA (fun w4 hw4 => ?_) ?_
  ·refine foA rfl rfl ?_; (try simp only [Act.put, zA, zB, zC]); (go_wp2_with fail); exact qsA rfl rfl
  refine fcA (fun w4 hw4 => fiA rfl ?_) ?_
  ·refine foA rfl rfl ?_; (try simp only [Act.put, zA, zB, zC]); (go_wp2_with fail); exact qsA rfl rfl
  refine fcA (fun w4 hw4 => fiA rfl ?_) ?_
  ·refine foA rfl rfl ?_; (try simp only [Act.put, zA, zB, zC]); (go_wp2_with fail); exact qsA rfl rfl
  refine fcA (fun w4 hw4 => ?_) ?_
  ·refine foA rfl rfl ?_; (try simp only [Act.put, zA, zB, zC]); (go_wp2_with fail); exact qsA rfl rfl
  refine fcA (fun w4 hw4 => fiA rfl ?_) ?_
  ·refine foA rfl rfl ?_; (try simp only [Act.put, zA, zB, zC]); (go_wp2_with fail); exact qsA rfl rfl
  refine fcA (fun w4 hw4 => fiA rfl ?_) ?_
  ·refine foA rfl rfl ?_; (try simp only [Act.put, zA, zB, zC]); (go_wp2_with fail); exact qsA rfl rfl
  refine fcA (fun w4 hw4 => ?_) ?_
  ·refine foA rfl rfl ?_; (try simp only [Act.put, zA, zB, zC]); (go_wp2_with fail); exact qsA rfl rfl
  refine fcA (fun w4 hw4 => fiA rfl ?_) ?_
  ·refine foA rfl rfl ?_; (try simp only [Act.put, zA, zB, zC]); (go_wp2_with fail); exact qsA rfl rfl
  refine fcA (fun w4 hw4 => fiA rfl ?_) ?_
  ·refine foA rfl rfl ?_; (try simp only [Act.put, zA, zB, zC]); (go_wp2_with fail); exact qsA rfl rfl
  refine fcA (fun w4 hw4 => ?_) ?_
  ·refine foA rfl rfl ?_; (try simp only [Act.put, zA, zB, zC]); (go_wp2_with fail); exact qsA rfl rfl
  refine fcA (fun w4 hw4 => fiA rfl ?_) ?_
  ·refine foA rfl rfl ?_; (try simp only [Act.put, zA, zB, zC]); (go_wp2_with fail); exact qsA rfl rfl
  refine fcA (fun w4 hw4 => fiA rfl ?_) ?_
  ·refine foA rfl rfl ?_; (try simp only [Act.put, zA, zB, zC]); (go_wp2_with fail); exact qsA rfl rfl
  refine fcA (fun w4 hw4 => fiA rfl (fiA rfl (fiA rfl (fiA rfl (fiA rfl (fiA rfl ?_)))))) ?_
  ·refine FreeStep.op rfl rfl ?_
   (try simp only [Act.put, zA, zB, zC])
   go_wp2_with fail
   exact QStep.mk rfl ((Below.refl _ _).alloc (Nat.le_refl _) _) ⟨_, rfl, Bk.new _ _ _⟩
  refine fcA (fun w4 hw4 => FreeStep.dep rfl fun v hv => ?_) ?_
  ·obtain ⟨g, rfl, hk⟩ := hv
   refine FreeStep.op rfl rfl ?_
   (try simp only [Act.put, zA, zB, zC])
   go_wp2_with fail
   exact QStep.mk rfl (Below.refl _ _) ⟨g, rfl, hk⟩
  exact FreeSteps.nil
 case fin =>
  intro w4 hw4
  iterate 9 refine FreeEnd.is rfl ?_
  refine FreeEnd.cons rfl fun v1 hv1 => ?_
  iterate 18 refine FreeEnd.is rfl ?_
  refine FreeEnd.cons rfl fun v2 hv2 => ?_
  refine FreeEnd.cons rfl fun v3 hv3 => ?_
  refine FreeEnd.nil ?_
  (try simp only [Act.put, zA, zB, zC])
  simp only [List.length_cons, List.length_nil, Nat.reduceAdd, List.drop_succ_cons, List.drop_zero]
  have HB4 := Lib.hid (show Below w.heap.size w w4 from ((Below.refl _ _).drew).trans hw4)
  have H1 := Lib.hid hv3
  have H2 := Lib.hid hv2
  clear hw4 hv1 hv2 hv3
  go_wp2
  go_ret2
  exact ⟨_, _, rfl, H1.out, H2.out, HB4.out⟩
end Go.Proofs.YtlhnhjglcbggmaaGreatRR

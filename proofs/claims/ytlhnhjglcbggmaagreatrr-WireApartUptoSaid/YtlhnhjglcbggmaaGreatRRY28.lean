/-
  A State's lists laid down: offences, accounts, releases. Conditions: each number fits its kind; the list lies in the world.
  The program's councils: total, members, the priorities, sound, Sound. Conditions: each number fits its kind; the members lie in the world.
-/
import Derived.Test.YtlhnhjglcbggmaaGreatRRY27
import Derived.Test.YtlhnhjglcbggmaaGreatRRY12
namespace Go.Proofs.YtlhnhjglcbggmaaGreatRR
set_option linter.unusedSimpArgs false
set_option linter.unusedVariables false
open Go.RowKit
set_option maxRecDepth 100000

theorem info_Off : (Tryz.prog.info? 145).map (·.size) = some 2 := by kernel_rfl
def zeroOff : List Value := [.int .u64 0, .int .u64 0]
theorem zero_Off : (Tryz.prog.info? 145).bind (·.zero) = some (.agg zeroOff.toArray) := by kernel_rfl
theorem zeroOff_sz : zeroOff.toArray.size = 2 := rfl
theorem Off.cl_len (m : Off) : m.cl.length = 2 := rfl
theorem off_one (m : Off) : ∀ u ∈ (Value.agg m.cl.toArray).cells.toList, u.oneCell' = true := by
 intro u hu
 simp only [Value.cells, Off.cl, List.mem_cons, List.not_mem_nil, or_false] at hu
 rcases hu with rfl | rfl <;> rfl
set_option maxHeartbeats 1000000 in
theorem putOff_any (w : World) (B g : Nat) (bs : List UInt8) (m : Off) (hm : m.ok) (hw : Wr w B g bs) (hb : bs.length + 100 ≤ room46) :
  Calls Tryz.prog 125 #[.pointer (some ⟨g, 0, none⟩), .agg m.cl.toArray] w fun e w' => e = .returned (.tuple #[]) ∧ Wr w' B g (bs ++ encOff m) ∧ Eff B WrT w w' := by
 have l_height := varB_int (n := m.height) hm.height.1 (by have := hm.height.2; unfold two64; omega)
 have l_addr := varB_int (n := m.addr) hm.addr.1 (by have := hm.addr.2; unfold two64; omega)
 have Hheight := Lib.hid hm.height
 have Haddr := Lib.hid hm.addr
 clear hm
 go_enter Tryz.func125, Tryz.ntmps125
 go_wp2_with (refine wpList_box_bk rfl _ _ rfl _ rfl ?_)
 intro bx w1 hk1 hbl hg hs
 clear hg hs
 have hw1 := hw.below hbl
 have c0 : w1.cell? ⟨bx, 0, none⟩ = some (.int .u64 m.height) := hk1.cell 0
 go_wp2_with fail
 refine (var_int w1 B g _ m.height hw1 Hheight.out.1 (by have := Hheight.out.2; unfold two64; omega) (by (try simp only [List.length_append]); omega)).mono ?_
 rintro e w2 ⟨rfl, hw2, e2⟩
 have hk2 := hk1.effT e2 (by decide)
 clear c0 hw1
 have c1 : w2.cell? ⟨bx, 1, none⟩ = some (.int .u64 m.addr) := hk2.cell 1
 go_wp2_with fail
 refine (var_int w2 B g _ m.addr hw2 Haddr.out.1 (by have := Haddr.out.2; unfold two64; omega) (by (try simp only [List.length_append]); omega)).mono ?_
 rintro e w3 ⟨rfl, hw3, e3⟩
 have hk3 := hk2.effT e3 (by decide)
 clear c1 hw2
 go_wp2
 go_end0
 refine ⟨rfl, ?_, (Eff.of_below hbl _ _).trans (e2.trans (e3))⟩
 unfold encOff
 simpa only [List.append_assoc] using hw3
def ttOff (_ : Off) : Prop := True
theorem putOffs_take (ms : List Off) (k : Nat) (hk : k < ms.length) : (ms.take (k + 1)).flatMap encOff = (ms.take k).flatMap encOff ++ encOff ms[k] := by
 rw [List.take_succ_eq_append_getElem hk, List.flatMap_append]; simp
theorem putOffs_len {ms : List Off} (h : ∀ m ∈ ms, (encOff m).length ≤ 20) : ∀ k, ((ms.take k).flatMap encOff).length ≤ 20 * k := by
 intro k
 induction k with
 | zero => simp
 | succ k ih =>
  rcases Nat.lt_or_ge k ms.length with hl | hl
  ·rw [putOffs_take ms k hl, List.length_append]
   have := h _ (List.getElem_mem hl)
   omega
  ·rw [List.take_of_length_le (by omega)]
   rw [List.take_of_length_le (by omega)] at ih
   omega
set_option maxHeartbeats 1000000 in
theorem putOffs_any (w : World) (B g : Nat) (bs : List UInt8) (A : Option Addr) (n c : Nat) (ms : List Off) (hm : ∀ m ∈ ms, Off.ok m) (hp : ∀ m ∈ ms, ttOff m) (hle : ∀ m ∈ ms, (encOff m).length ≤ 20) (hn : n = ms.length) (hl : n ≤ 1000000000) (hr : Rd w A (ms.flatMap Off.cl)) (hA : ∀ ad, A = some ad → ms.flatMap Off.cl ≠ [] → ad.block < B) (hB : B ≤ w.heap.size) (hw : Wr w B g bs) (hb : bs.length + 20 * n + 110 ≤ room46) :
  Calls Tryz.prog 124 #[.pointer (some ⟨g, 0, none⟩), .slice A n c, .func (.func 125) #[] #[]] w fun e w' => e = .returned (.tuple #[]) ∧ Wr w' B g (bs ++ (varB n ++ ms.flatMap encOff)) ∧ Eff B WrT w w' := by
 have HM := Lib.hid hm
 have HP := Lib.hid hp
 have HN := Lib.hid hn
 have HA := Lib.hid hA
 have HR := Lib.hid hr
 have HL := Lib.hid (putOffs_len hle)
 have HLN := Lib.hid (show ∀ m ∈ ms, (Off.cl m).length = 2 from fun m h => m.cl_len)
 have hv := varB_ten (n := n) (by unfold two64; omega)
 clear hm hp hn hA hr hle
 go_enter Tryz.func124, Tryz.ntmps124
 go_wp2_with (go_at_call 139; go_must (refine (count_any _ B g bs n hw (by omega) (by omega)).mono ?_); rintro e w1 ⟨rfl, hw1, e1⟩)
 have HW1 := Lib.hid hw1
 have HE1 := Lib.hid e1
 have HR1 := Lib.hid (rd_eff HR.out e1 hB HA.out)
 clear hw1 e1
 go_loopw [14] (fun i wr => ∃ k : Nat, k ≤ n ∧ i = .int .i64 (k : Int) ∧ Wr wr B g (bs ++ varB n ++ (ms.take k).flatMap encOff) ∧ Rd wr A (ms.flatMap Off.cl) ∧ Eff B WrT w wr) (fun i _ => n - (intOf i).toNat)
 case atStart => exact ⟨0, by omega, rfl, by simpa using HW1.out, HR1.out, HE1.out⟩
 case round =>
  clear HW1 HE1 HR1
  obtain ⟨k, hk, rfl, hw2, hr2, e2⟩ := hrel
  have HW2 := Lib.hid hw2
  have HR2 := Lib.hid hr2
  have HE2 := Lib.hid e2
  clear hw2 hr2 e2
  by_cases hlt : k < n
  ·have hkl : k < ms.length := by rw [← HN.out]; exact hlt
   obtain ⟨ad, hA, hcell⟩ := rd_elem (by omega) HLN.out HR2.out hkl
   obtain ⟨m, hmk⟩ : ∃ m, ms[k] = m := ⟨_, rfl⟩
   have hmem : m ∈ ms := by rw [← hmk]; exact List.getElem_mem hkl
   have HMO := Lib.hid (HM.out m hmem)
   have HMP := Lib.hid (HP.out m hmem)
   have HML := Lib.hid (HLN.out m hmem)
   have HT := Lib.hid (show (ms.take (k + 1)).flatMap encOff = (ms.take k).flatMap encOff ++ encOff m by rw [putOffs_take ms k hkl, hmk])
   rw [hmk] at hcell
   subst hA
   have HC := Lib.hid hcell
   clear hcell hmem hmk
   have hi1 : (k : Int) < n := by omega
   go_wp2_with (first
    | (with_reducible show wpList _ _ _ (Oper.mk (some 17) (Op.load _ _) _ _ _ _ :: _) _ _; go_must (refine wpList_load_at rfl 145 _ rfl (ad.add (k * 2)) 2 rfl (Off.cl m) HC.out _ Tryz.underlying145 rfl info_Off HML.out ?_))
    | (with_reducible show wpList _ _ _ (Oper.mk _ (Op.alloc _) _ _ _ _ :: _) _ _; refine wpList_alloc_i rfl 145 rfl (.agg zeroOff.toArray) zero_Off ?_))
   intro r w6 h6 hl6 hg6 hs6
   have H6 := Lib.hid h6
   have HL6 := Lib.hid hl6
   have HG6 := Lib.hid hg6
   have HSZ := Lib.hid (show (Off.cl m).toArray.size = 2 by rw [List.size_toArray, HML.out])
   clear h6 hl6 hg6 hs6
   go_wp2_with (with_reducible show wpList _ _ _ (Oper.mk _ (Op.store 145 _ _) _ _ _ _ :: _) _ _; go_must (refine wpList_store_bk rfl 145 _ _ rfl r rfl (.agg (Off.cl m).toArray) rfl _ _ H6.out (by rw [agg_sz HSZ.out]; exact info_Off) (by rw [agg_sz HSZ.out]; exact zeroOff_sz.symm) (off_one m) ?_))
   intro w7 h7 hg7 hs7
   have HL7 := Lib.hid (below_grown2 HL6.out hg7 HG6.out HL6.out.size)
   have H7 := Lib.hid (show Bk w7 r (Off.cl m).toArray 145 from h7)
   have HW7 := Lib.hid (HW2.out.below HL7.out)
   have HR7 := Lib.hid (HR2.out.below HL7.out)
   have HS7 := Lib.hid (show B ≤ w7.heap.size by have := HE2.out.size; have := HL7.out.size; omega)
   clear h7 hg7 hs7
   go_wp2_with (with_reducible show wpList _ _ _ (Oper.mk (some 20) (Op.load _ _) _ _ _ _ :: _) _ _; go_must (refine wpList_load_part rfl 145 _ rfl r 0 2 rfl _ _ _ H7.out Tryz.underlying145 rfl info_Off (by rw [HSZ.out]; omega) (Off.cl m).toArray (arr_all HSZ.out) ?_); go_wp2_with fail)
   refine (putOff_any _ B g _ m HMO.out HW7.out (by simp only [List.length_append]; have h1 := HL.out k; have h2 : 20 * k ≤ 20 * n := Nat.mul_le_mul_left _ hk; omega)).mono ?_
   rintro e w8 ⟨rfl, hw8, e8⟩
   have HW8 := Lib.hid hw8
   have HR8 := Lib.hid (rd_eff HR7.out e8 HS7.out HA.out)
   have HE8 := Lib.hid (HE2.out.trans ((Eff.of_below HL7.out _ _).trans e8))
   clear hw8 e8
   go_wp2
   go_round
   case rel => exact ⟨k + 1, by omega, by go_num, by rw [HT.out, ← List.append_assoc]; exact HW8.out, HR8.out, HE8.out⟩
   case measure => simp [intOf]; omega
  ·have hk7 : k = n := by omega
   subst hk7
   have HT := Lib.hid (show ms.take k = ms from List.take_of_length_le (by rw [HN.out]; exact Nat.le_refl _))
   rw [HT.out] at HW2
   go_wp2
   go_end0
   refine ⟨rfl, ?_, HE2.out⟩
   simpa only [List.append_assoc] using HW2.out
theorem info_Acc : (Tryz.prog.info? 191).map (·.size) = some 5 := by kernel_rfl
def zeroAcc : List Value := [.int .u64 0, .int .u64 0, .int .u64 0, .int .u64 0, .bool false]
theorem zero_Acc : (Tryz.prog.info? 191).bind (·.zero) = some (.agg zeroAcc.toArray) := by kernel_rfl
theorem zeroAcc_sz : zeroAcc.toArray.size = 5 := rfl
theorem Acc.cl_len (m : Acc) : m.cl.length = 5 := rfl
theorem acc_one (m : Acc) : ∀ u ∈ (Value.agg m.cl.toArray).cells.toList, u.oneCell' = true := by
 intro u hu
 simp only [Value.cells, Acc.cl, List.mem_cons, List.not_mem_nil, or_false] at hu
 rcases hu with rfl | rfl | rfl | rfl | rfl <;> rfl
set_option maxHeartbeats 1000000 in
theorem putAcc_any (w : World) (B g : Nat) (bs : List UInt8) (m : Acc) (hm : m.ok) (hw : Wr w B g bs) (hb : bs.length + 100 ≤ room46) :
  Calls Tryz.prog 127 #[.pointer (some ⟨g, 0, none⟩), .agg m.cl.toArray] w fun e w' => e = .returned (.tuple #[]) ∧ Wr w' B g (bs ++ encAcc m) ∧ Eff B WrT w w' := by
 have l_addr := varB_int (n := m.addr) hm.addr.1 (by have := hm.addr.2; unfold two64; omega)
 have l_bal := varB_int (n := m.bal) hm.bal.1 (by have := hm.bal.2; unfold two64; omega)
 have l_bond := varB_int (n := m.bond) hm.bond.1 (by have := hm.bond.2; unfold two64; omega)
 have l_nonce := varB_int (n := m.nonce) hm.nonce.1 (by have := hm.nonce.2; unfold two64; omega)
 have Haddr := Lib.hid hm.addr
 have Hbal := Lib.hid hm.bal
 have Hbond := Lib.hid hm.bond
 have Hnonce := Lib.hid hm.nonce
 clear hm
 go_enter Tryz.func127, Tryz.ntmps127
 go_wp2_with (refine wpList_box_bk rfl _ _ rfl _ rfl ?_)
 intro bx w1 hk1 hbl hg hs
 clear hg hs
 have hw1 := hw.below hbl
 have c0 : w1.cell? ⟨bx, 0, none⟩ = some (.int .u64 m.addr) := hk1.cell 0
 go_wp2_with fail
 refine (var_int w1 B g _ m.addr hw1 Haddr.out.1 (by have := Haddr.out.2; unfold two64; omega) (by (try simp only [List.length_append]); omega)).mono ?_
 rintro e w2 ⟨rfl, hw2, e2⟩
 have hk2 := hk1.effT e2 (by decide)
 clear c0 hw1
 have c1 : w2.cell? ⟨bx, 1, none⟩ = some (.int .u64 m.bal) := hk2.cell 1
 go_wp2_with fail
 refine (var_int w2 B g _ m.bal hw2 Hbal.out.1 (by have := Hbal.out.2; unfold two64; omega) (by (try simp only [List.length_append]); omega)).mono ?_
 rintro e w3 ⟨rfl, hw3, e3⟩
 have hk3 := hk2.effT e3 (by decide)
 clear c1 hw2
 have c2 : w3.cell? ⟨bx, 2, none⟩ = some (.int .u64 m.bond) := hk3.cell 2
 go_wp2_with fail
 refine (var_int w3 B g _ m.bond hw3 Hbond.out.1 (by have := Hbond.out.2; unfold two64; omega) (by (try simp only [List.length_append]); omega)).mono ?_
 rintro e w4 ⟨rfl, hw4, e4⟩
 have hk4 := hk3.effT e4 (by decide)
 clear c2 hw3
 have c3 : w4.cell? ⟨bx, 3, none⟩ = some (.int .u64 m.nonce) := hk4.cell 3
 go_wp2_with fail
 refine (var_int w4 B g _ m.nonce hw4 Hnonce.out.1 (by have := Hnonce.out.2; unfold two64; omega) (by (try simp only [List.length_append]); omega)).mono ?_
 rintro e w5 ⟨rfl, hw5, e5⟩
 have hk5 := hk4.effT e5 (by decide)
 clear c3 hw4
 have c4 : w5.cell? ⟨bx, 4, none⟩ = some (.bool m.jailed) := hk5.cell 4
 go_wp2_with fail
 refine (bool_any w5 B g _ m.jailed hw5 (by (try simp only [List.length_append]); omega)).mono ?_
 rintro e w6 ⟨rfl, hw6, e6⟩
 go_wp2
 go_end0
 refine ⟨rfl, ?_, (Eff.of_below hbl _ _).trans (e2.trans (e3.trans (e4.trans (e5.trans (e6)))))⟩
 unfold encAcc
 simpa only [List.append_assoc] using hw6
def ttAcc (_ : Acc) : Prop := True
theorem putAccs_take (ms : List Acc) (k : Nat) (hk : k < ms.length) : (ms.take (k + 1)).flatMap encAcc = (ms.take k).flatMap encAcc ++ encAcc ms[k] := by
 rw [List.take_succ_eq_append_getElem hk, List.flatMap_append]; simp
theorem putAccs_len {ms : List Acc} (h : ∀ m ∈ ms, (encAcc m).length ≤ 41) : ∀ k, ((ms.take k).flatMap encAcc).length ≤ 41 * k := by
 intro k
 induction k with
 | zero => simp
 | succ k ih =>
  rcases Nat.lt_or_ge k ms.length with hl | hl
  ·rw [putAccs_take ms k hl, List.length_append]
   have := h _ (List.getElem_mem hl)
   omega
  ·rw [List.take_of_length_le (by omega)]
   rw [List.take_of_length_le (by omega)] at ih
   omega
set_option maxHeartbeats 1000000 in
theorem putAccs_any (w : World) (B g : Nat) (bs : List UInt8) (A : Option Addr) (n c : Nat) (ms : List Acc) (hm : ∀ m ∈ ms, Acc.ok m) (hp : ∀ m ∈ ms, ttAcc m) (hle : ∀ m ∈ ms, (encAcc m).length ≤ 41) (hn : n = ms.length) (hl : n ≤ 1000000000) (hr : Rd w A (ms.flatMap Acc.cl)) (hA : ∀ ad, A = some ad → ms.flatMap Acc.cl ≠ [] → ad.block < B) (hB : B ≤ w.heap.size) (hw : Wr w B g bs) (hb : bs.length + 41 * n + 110 ≤ room46) :
  Calls Tryz.prog 126 #[.pointer (some ⟨g, 0, none⟩), .slice A n c, .func (.func 127) #[] #[]] w fun e w' => e = .returned (.tuple #[]) ∧ Wr w' B g (bs ++ (varB n ++ ms.flatMap encAcc)) ∧ Eff B WrT w w' := by
 have HM := Lib.hid hm
 have HP := Lib.hid hp
 have HN := Lib.hid hn
 have HA := Lib.hid hA
 have HR := Lib.hid hr
 have HL := Lib.hid (putAccs_len hle)
 have HLN := Lib.hid (show ∀ m ∈ ms, (Acc.cl m).length = 5 from fun m h => m.cl_len)
 have hv := varB_ten (n := n) (by unfold two64; omega)
 clear hm hp hn hA hr hle
 go_enter Tryz.func126, Tryz.ntmps126
 go_wp2_with (go_at_call 139; go_must (refine (count_any _ B g bs n hw (by omega) (by omega)).mono ?_); rintro e w1 ⟨rfl, hw1, e1⟩)
 have HW1 := Lib.hid hw1
 have HE1 := Lib.hid e1
 have HR1 := Lib.hid (rd_eff HR.out e1 hB HA.out)
 clear hw1 e1
 go_loopw [14] (fun i wr => ∃ k : Nat, k ≤ n ∧ i = .int .i64 (k : Int) ∧ Wr wr B g (bs ++ varB n ++ (ms.take k).flatMap encAcc) ∧ Rd wr A (ms.flatMap Acc.cl) ∧ Eff B WrT w wr) (fun i _ => n - (intOf i).toNat)
 case atStart => exact ⟨0, by omega, rfl, by simpa using HW1.out, HR1.out, HE1.out⟩
 case round =>
  clear HW1 HE1 HR1
  obtain ⟨k, hk, rfl, hw2, hr2, e2⟩ := hrel
  have HW2 := Lib.hid hw2
  have HR2 := Lib.hid hr2
  have HE2 := Lib.hid e2
  clear hw2 hr2 e2
  by_cases hlt : k < n
  ·have hkl : k < ms.length := by rw [← HN.out]; exact hlt
   obtain ⟨ad, hA, hcell⟩ := rd_elem (by omega) HLN.out HR2.out hkl
   obtain ⟨m, hmk⟩ : ∃ m, ms[k] = m := ⟨_, rfl⟩
   have hmem : m ∈ ms := by rw [← hmk]; exact List.getElem_mem hkl
   have HMO := Lib.hid (HM.out m hmem)
   have HMP := Lib.hid (HP.out m hmem)
   have HML := Lib.hid (HLN.out m hmem)
   have HT := Lib.hid (show (ms.take (k + 1)).flatMap encAcc = (ms.take k).flatMap encAcc ++ encAcc m by rw [putAccs_take ms k hkl, hmk])
   rw [hmk] at hcell
   subst hA
   have HC := Lib.hid hcell
   clear hcell hmem hmk
   have hi1 : (k : Int) < n := by omega
   go_wp2_with (first
    | (with_reducible show wpList _ _ _ (Oper.mk (some 17) (Op.load _ _) _ _ _ _ :: _) _ _; go_must (refine wpList_load_at rfl 191 _ rfl (ad.add (k * 5)) 5 rfl (Acc.cl m) HC.out _ Tryz.underlying191 rfl info_Acc HML.out ?_))
    | (with_reducible show wpList _ _ _ (Oper.mk _ (Op.alloc _) _ _ _ _ :: _) _ _; refine wpList_alloc_i rfl 191 rfl (.agg zeroAcc.toArray) zero_Acc ?_))
   intro r w6 h6 hl6 hg6 hs6
   have H6 := Lib.hid h6
   have HL6 := Lib.hid hl6
   have HG6 := Lib.hid hg6
   have HSZ := Lib.hid (show (Acc.cl m).toArray.size = 5 by rw [List.size_toArray, HML.out])
   clear h6 hl6 hg6 hs6
   go_wp2_with (with_reducible show wpList _ _ _ (Oper.mk _ (Op.store 191 _ _) _ _ _ _ :: _) _ _; go_must (refine wpList_store_bk rfl 191 _ _ rfl r rfl (.agg (Acc.cl m).toArray) rfl _ _ H6.out (by rw [agg_sz HSZ.out]; exact info_Acc) (by rw [agg_sz HSZ.out]; exact zeroAcc_sz.symm) (acc_one m) ?_))
   intro w7 h7 hg7 hs7
   have HL7 := Lib.hid (below_grown2 HL6.out hg7 HG6.out HL6.out.size)
   have H7 := Lib.hid (show Bk w7 r (Acc.cl m).toArray 191 from h7)
   have HW7 := Lib.hid (HW2.out.below HL7.out)
   have HR7 := Lib.hid (HR2.out.below HL7.out)
   have HS7 := Lib.hid (show B ≤ w7.heap.size by have := HE2.out.size; have := HL7.out.size; omega)
   clear h7 hg7 hs7
   go_wp2_with (with_reducible show wpList _ _ _ (Oper.mk (some 20) (Op.load _ _) _ _ _ _ :: _) _ _; go_must (refine wpList_load_part rfl 191 _ rfl r 0 5 rfl _ _ _ H7.out Tryz.underlying191 rfl info_Acc (by rw [HSZ.out]; omega) (Acc.cl m).toArray (arr_all HSZ.out) ?_); go_wp2_with fail)
   refine (putAcc_any _ B g _ m HMO.out HW7.out (by simp only [List.length_append]; have h1 := HL.out k; have h2 : 41 * k ≤ 41 * n := Nat.mul_le_mul_left _ hk; omega)).mono ?_
   rintro e w8 ⟨rfl, hw8, e8⟩
   have HW8 := Lib.hid hw8
   have HR8 := Lib.hid (rd_eff HR7.out e8 HS7.out HA.out)
   have HE8 := Lib.hid (HE2.out.trans ((Eff.of_below HL7.out _ _).trans e8))
   clear hw8 e8
   go_wp2
   go_round
   case rel => exact ⟨k + 1, by omega, by go_num, by rw [HT.out, ← List.append_assoc]; exact HW8.out, HR8.out, HE8.out⟩
   case measure => simp [intOf]; omega
  ·have hk7 : k = n := by omega
   subst hk7
   have HT := Lib.hid (show ms.take k = ms from List.take_of_length_le (by rw [HN.out]; exact Nat.le_refl _))
   rw [HT.out] at HW2
   go_wp2
   go_end0
   refine ⟨rfl, ?_, HE2.out⟩
   simpa only [List.append_assoc] using HW2.out
theorem info_Rls : (Tryz.prog.info? 195).map (·.size) = some 4 := by kernel_rfl
def zeroRls : List Value := [.int .u64 0, .int .u64 0, .int .u64 0, .int .u64 0]
theorem zero_Rls : (Tryz.prog.info? 195).bind (·.zero) = some (.agg zeroRls.toArray) := by kernel_rfl
theorem zeroRls_sz : zeroRls.toArray.size = 4 := rfl
theorem Rls.cl_len (m : Rls) : m.cl.length = 4 := rfl
theorem rls_one (m : Rls) : ∀ u ∈ (Value.agg m.cl.toArray).cells.toList, u.oneCell' = true := by
 intro u hu
 simp only [Value.cells, Rls.cl, List.mem_cons, List.not_mem_nil, or_false] at hu
 rcases hu with rfl | rfl | rfl | rfl <;> rfl
set_option maxHeartbeats 1000000 in
theorem putRls_any (w : World) (B g : Nat) (bs : List UInt8) (m : Rls) (hm : m.ok) (hw : Wr w B g bs) (hb : bs.length + 100 ≤ room46) :
  Calls Tryz.prog 130 #[.pointer (some ⟨g, 0, none⟩), .agg m.cl.toArray] w fun e w' => e = .returned (.tuple #[]) ∧ Wr w' B g (bs ++ encRls m) ∧ Eff B WrT w w' := by
 have l_height := varB_int (n := m.height) hm.height.1 (by have := hm.height.2; unfold two64; omega)
 have l_addr := varB_int (n := m.addr) hm.addr.1 (by have := hm.addr.2; unfold two64; omega)
 have l_born := varB_int (n := m.born) hm.born.1 (by have := hm.born.2; unfold two64; omega)
 have l_amount := varB_int (n := m.amount) hm.amount.1 (by have := hm.amount.2; unfold two64; omega)
 have Hheight := Lib.hid hm.height
 have Haddr := Lib.hid hm.addr
 have Hborn := Lib.hid hm.born
 have Hamount := Lib.hid hm.amount
 clear hm
 go_enter Tryz.func130, Tryz.ntmps130
 go_wp2_with (refine wpList_box_bk rfl _ _ rfl _ rfl ?_)
 intro bx w1 hk1 hbl hg hs
 clear hg hs
 have hw1 := hw.below hbl
 have c0 : w1.cell? ⟨bx, 0, none⟩ = some (.int .u64 m.height) := hk1.cell 0
 go_wp2_with fail
 refine (var_int w1 B g _ m.height hw1 Hheight.out.1 (by have := Hheight.out.2; unfold two64; omega) (by (try simp only [List.length_append]); omega)).mono ?_
 rintro e w2 ⟨rfl, hw2, e2⟩
 have hk2 := hk1.effT e2 (by decide)
 clear c0 hw1
 have c1 : w2.cell? ⟨bx, 1, none⟩ = some (.int .u64 m.addr) := hk2.cell 1
 go_wp2_with fail
 refine (var_int w2 B g _ m.addr hw2 Haddr.out.1 (by have := Haddr.out.2; unfold two64; omega) (by (try simp only [List.length_append]); omega)).mono ?_
 rintro e w3 ⟨rfl, hw3, e3⟩
 have hk3 := hk2.effT e3 (by decide)
 clear c1 hw2
 have c2 : w3.cell? ⟨bx, 2, none⟩ = some (.int .u64 m.born) := hk3.cell 2
 go_wp2_with fail
 refine (var_int w3 B g _ m.born hw3 Hborn.out.1 (by have := Hborn.out.2; unfold two64; omega) (by (try simp only [List.length_append]); omega)).mono ?_
 rintro e w4 ⟨rfl, hw4, e4⟩
 have hk4 := hk3.effT e4 (by decide)
 clear c2 hw3
 have c3 : w4.cell? ⟨bx, 3, none⟩ = some (.int .u64 m.amount) := hk4.cell 3
 go_wp2_with fail
 refine (var_int w4 B g _ m.amount hw4 Hamount.out.1 (by have := Hamount.out.2; unfold two64; omega) (by (try simp only [List.length_append]); omega)).mono ?_
 rintro e w5 ⟨rfl, hw5, e5⟩
 have hk5 := hk4.effT e5 (by decide)
 clear c3 hw4
 go_wp2
 go_end0
 refine ⟨rfl, ?_, (Eff.of_below hbl _ _).trans (e2.trans (e3.trans (e4.trans (e5))))⟩
 unfold encRls
 simpa only [List.append_assoc] using hw5
def ttRls (_ : Rls) : Prop := True
theorem putRlss_take (ms : List Rls) (k : Nat) (hk : k < ms.length) : (ms.take (k + 1)).flatMap encRls = (ms.take k).flatMap encRls ++ encRls ms[k] := by
 rw [List.take_succ_eq_append_getElem hk, List.flatMap_append]; simp
theorem putRlss_len {ms : List Rls} (h : ∀ m ∈ ms, (encRls m).length ≤ 40) : ∀ k, ((ms.take k).flatMap encRls).length ≤ 40 * k := by
 intro k
 induction k with
 | zero => simp
 | succ k ih =>
  rcases Nat.lt_or_ge k ms.length with hl | hl
  ·rw [putRlss_take ms k hl, List.length_append]
   have := h _ (List.getElem_mem hl)
   omega
  ·rw [List.take_of_length_le (by omega)]
   rw [List.take_of_length_le (by omega)] at ih
   omega
set_option maxHeartbeats 1000000 in
theorem putRlss_any (w : World) (B g : Nat) (bs : List UInt8) (A : Option Addr) (n c : Nat) (ms : List Rls) (hm : ∀ m ∈ ms, Rls.ok m) (hp : ∀ m ∈ ms, ttRls m) (hle : ∀ m ∈ ms, (encRls m).length ≤ 40) (hn : n = ms.length) (hl : n ≤ 1000000000) (hr : Rd w A (ms.flatMap Rls.cl)) (hA : ∀ ad, A = some ad → ms.flatMap Rls.cl ≠ [] → ad.block < B) (hB : B ≤ w.heap.size) (hw : Wr w B g bs) (hb : bs.length + 40 * n + 110 ≤ room46) :
  Calls Tryz.prog 129 #[.pointer (some ⟨g, 0, none⟩), .slice A n c, .func (.func 130) #[] #[]] w fun e w' => e = .returned (.tuple #[]) ∧ Wr w' B g (bs ++ (varB n ++ ms.flatMap encRls)) ∧ Eff B WrT w w' := by
 have HM := Lib.hid hm
 have HP := Lib.hid hp
 have HN := Lib.hid hn
 have HA := Lib.hid hA
 have HR := Lib.hid hr
 have HL := Lib.hid (putRlss_len hle)
 have HLN := Lib.hid (show ∀ m ∈ ms, (Rls.cl m).length = 4 from fun m h => m.cl_len)
 have hv := varB_ten (n := n) (by unfold two64; omega)
 clear hm hp hn hA hr hle
 go_enter Tryz.func129, Tryz.ntmps129
 go_wp2_with (go_at_call 139; go_must (refine (count_any _ B g bs n hw (by omega) (by omega)).mono ?_); rintro e w1 ⟨rfl, hw1, e1⟩)
 have HW1 := Lib.hid hw1
 have HE1 := Lib.hid e1
 have HR1 := Lib.hid (rd_eff HR.out e1 hB HA.out)
 clear hw1 e1
 go_loopw [14] (fun i wr => ∃ k : Nat, k ≤ n ∧ i = .int .i64 (k : Int) ∧ Wr wr B g (bs ++ varB n ++ (ms.take k).flatMap encRls) ∧ Rd wr A (ms.flatMap Rls.cl) ∧ Eff B WrT w wr) (fun i _ => n - (intOf i).toNat)
 case atStart => exact ⟨0, by omega, rfl, by simpa using HW1.out, HR1.out, HE1.out⟩
 case round =>
  clear HW1 HE1 HR1
  obtain ⟨k, hk, rfl, hw2, hr2, e2⟩ := hrel
  have HW2 := Lib.hid hw2
  have HR2 := Lib.hid hr2
  have HE2 := Lib.hid e2
  clear hw2 hr2 e2
  by_cases hlt : k < n
  ·have hkl : k < ms.length := by rw [← HN.out]; exact hlt
   obtain ⟨ad, hA, hcell⟩ := rd_elem (by omega) HLN.out HR2.out hkl
   obtain ⟨m, hmk⟩ : ∃ m, ms[k] = m := ⟨_, rfl⟩
   have hmem : m ∈ ms := by rw [← hmk]; exact List.getElem_mem hkl
   have HMO := Lib.hid (HM.out m hmem)
   have HMP := Lib.hid (HP.out m hmem)
   have HML := Lib.hid (HLN.out m hmem)
   have HT := Lib.hid (show (ms.take (k + 1)).flatMap encRls = (ms.take k).flatMap encRls ++ encRls m by rw [putRlss_take ms k hkl, hmk])
   rw [hmk] at hcell
   subst hA
   have HC := Lib.hid hcell
   clear hcell hmem hmk
   have hi1 : (k : Int) < n := by omega
   go_wp2_with (first
    | (with_reducible show wpList _ _ _ (Oper.mk (some 17) (Op.load _ _) _ _ _ _ :: _) _ _; go_must (refine wpList_load_at rfl 195 _ rfl (ad.add (k * 4)) 4 rfl (Rls.cl m) HC.out _ Tryz.underlying195 rfl info_Rls HML.out ?_))
    | (with_reducible show wpList _ _ _ (Oper.mk _ (Op.alloc _) _ _ _ _ :: _) _ _; refine wpList_alloc_i rfl 195 rfl (.agg zeroRls.toArray) zero_Rls ?_))
   intro r w6 h6 hl6 hg6 hs6
   have H6 := Lib.hid h6
   have HL6 := Lib.hid hl6
   have HG6 := Lib.hid hg6
   have HSZ := Lib.hid (show (Rls.cl m).toArray.size = 4 by rw [List.size_toArray, HML.out])
   clear h6 hl6 hg6 hs6
   go_wp2_with (with_reducible show wpList _ _ _ (Oper.mk _ (Op.store 195 _ _) _ _ _ _ :: _) _ _; go_must (refine wpList_store_bk rfl 195 _ _ rfl r rfl (.agg (Rls.cl m).toArray) rfl _ _ H6.out (by rw [agg_sz HSZ.out]; exact info_Rls) (by rw [agg_sz HSZ.out]; exact zeroRls_sz.symm) (rls_one m) ?_))
   intro w7 h7 hg7 hs7
   have HL7 := Lib.hid (below_grown2 HL6.out hg7 HG6.out HL6.out.size)
   have H7 := Lib.hid (show Bk w7 r (Rls.cl m).toArray 195 from h7)
   have HW7 := Lib.hid (HW2.out.below HL7.out)
   have HR7 := Lib.hid (HR2.out.below HL7.out)
   have HS7 := Lib.hid (show B ≤ w7.heap.size by have := HE2.out.size; have := HL7.out.size; omega)
   clear h7 hg7 hs7
   go_wp2_with (with_reducible show wpList _ _ _ (Oper.mk (some 20) (Op.load _ _) _ _ _ _ :: _) _ _; go_must (refine wpList_load_part rfl 195 _ rfl r 0 4 rfl _ _ _ H7.out Tryz.underlying195 rfl info_Rls (by rw [HSZ.out]; omega) (Rls.cl m).toArray (arr_all HSZ.out) ?_); go_wp2_with fail)
   refine (putRls_any _ B g _ m HMO.out HW7.out (by simp only [List.length_append]; have h1 := HL.out k; have h2 : 40 * k ≤ 40 * n := Nat.mul_le_mul_left _ hk; omega)).mono ?_
   rintro e w8 ⟨rfl, hw8, e8⟩
   have HW8 := Lib.hid hw8
   have HR8 := Lib.hid (rd_eff HR7.out e8 HS7.out HA.out)
   have HE8 := Lib.hid (HE2.out.trans ((Eff.of_below HL7.out _ _).trans e8))
   clear hw8 e8
   go_wp2
   go_round
   case rel => exact ⟨k + 1, by omega, by go_num, by rw [HT.out, ← List.append_assoc]; exact HW8.out, HR8.out, HE8.out⟩
   case measure => simp [intOf]; omega
  ·have hk7 : k = n := by omega
   subst hk7
   have HT := Lib.hid (show ms.take k = ms from List.take_of_length_le (by rw [HN.out]; exact Nat.le_refl _))
   rw [HT.out] at HW2
   go_wp2
   go_end0
   refine ⟨rfl, ?_, HE2.out⟩
   simpa only [List.append_assoc] using HW2.out
end Go.Proofs.YtlhnhjglcbggmaaGreatRR
namespace Go.Proofs.YtlhnhjglcbggmaaGreatRR
set_option linter.unusedSimpArgs false
set_option linter.unusedVariables false
open Go.RowKit
set_option maxRecDepth 100000

def zeroMem : List Value := [.int .u64 0, .int .u64 0, .int .i64 0]
theorem zero_Mem : (Tryz.prog.info? 182).bind (·.zero) = some (.agg zeroMem.toArray) := by kernel_rfl
theorem info_Mem : (Tryz.prog.info? 182).map (·.size) = some 3 := by kernel_rfl
theorem mem_one (m : Mem) : ∀ u ∈ (Value.agg m.cl.toArray).cells.toList, u.oneCell' = true := by
 intro u hu
 simp only [Value.cells, Mem.cl, List.mem_cons, List.not_mem_nil, or_false] at hu
 rcases hu with rfl | rfl | rfl <;> rfl
theorem zeroMem_sz : zeroMem.toArray.size = 3 := rfl
end Go.Proofs.YtlhnhjglcbggmaaGreatRR

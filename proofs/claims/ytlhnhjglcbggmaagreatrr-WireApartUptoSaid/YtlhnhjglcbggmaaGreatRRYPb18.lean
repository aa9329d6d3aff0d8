/-
  A State laid down. Conditions: each number fits its kind; its lists lie in the world; the Writer has room.
-/
import Derived.Test.YtlhnhjglcbggmaaGreatRRY29
namespace Go.Proofs.YtlhnhjglcbggmaaGreatRR
set_option linter.unusedSimpArgs false
set_option linter.unusedVariables false
open Go.RowKit
set_option maxRecDepth 100000

structure Sta.low (x : Sta) (B : Nat) : Prop where
 cou : Low x.cou.A (x.cou.ms.flatMap Mem.cl) B
 next : Low x.next.A (x.next.ms.flatMap Mem.cl) B
 p : Low x.pA (x.ps.flatMap Pst.cl) B
 pc : ∀ p ∈ x.ps, Low p.cou.A (p.cou.ms.flatMap Mem.cl) B
 o : Low x.oA (x.os.flatMap Off.cl) B
 a : Low x.aA (x.acs.flatMap Acc.cl) B
 r : Low x.rA (x.rs.flatMap Rls.cl) B
theorem Sta.at.below {x : Sta} {w w' : World} (h : x.at w) (hb : Below w.heap.size w w') : x.at w' := ⟨Rd.below (xs := x.cou.ms.flatMap Mem.cl) h.cou hb, Rd.below (xs := x.next.ms.flatMap Mem.cl) h.next hb, h.p.below hb, fun p hp => Rd.below (xs := p.cou.ms.flatMap Mem.cl) (h.pc p hp) hb, h.o.below hb, h.a.below hb, h.r.below hb⟩
theorem Sta.at.low {x : Sta} {w : World} (h : x.at w) : x.low w.heap.size := ⟨Low.of (xs := x.cou.ms.flatMap Mem.cl) h.cou, Low.of (xs := x.next.ms.flatMap Mem.cl) h.next, Low.of h.p, fun p hp => Low.of (xs := p.cou.ms.flatMap Mem.cl) (h.pc p hp), Low.of h.o, Low.of h.a, Low.of h.r⟩
theorem Sta.low.mono {x : Sta} {B B' : Nat} (h : x.low B) (hb : B ≤ B') : x.low B' := ⟨h.cou.mono hb, h.next.mono hb, h.p.mono hb, fun p hp => (h.pc p hp).mono hb, h.o.mono hb, h.a.mono hb, h.r.mono hb⟩
theorem Sta.at.eff {x : Sta} {w w' : World} {B : Nat} {ts : List TypeId} (h : x.at w) (hl : x.low B) (e : Eff B ts w w') (hB : B ≤ w.heap.size) : x.at w' := ⟨rd_eff (xs := x.cou.ms.flatMap Mem.cl) h.cou e hB hl.cou, rd_eff (xs := x.next.ms.flatMap Mem.cl) h.next e hB hl.next, rd_eff h.p e hB hl.p, fun p hp => rd_eff (xs := p.cou.ms.flatMap Mem.cl) (h.pc p hp) e hB (hl.pc p hp), rd_eff h.o e hB hl.o, rd_eff h.a e hB hl.a, rd_eff h.r e hB hl.r⟩
theorem Sta.len (x : Sta) (h : x.last.length = 32) : x.cl.length = 55 := by simp [Sta.cl, Par.cl, Cou.cl, bv_length, h]
theorem Sta.ex_last (x : Sta) (h : x.last.length = 32) : x.cl.toArray.extract 15 (15 + 32) = (bv x.last).toArray := seg_ex (A := [.string x.chain] ++ x.par.cl ++ [.int .u64 x.height, .int .u64 x.time]) (C := x.cou.cl ++ x.next.cl ++ [.slice x.pA x.pn x.pc, .slice x.oA x.on x.oc, .slice x.aA x.an x.ac, .slice x.rA x.rn x.rc, .int .u64 x.burnt, .int .u64 x.supply]) (by simp [Sta.cl]) (by simp [Par.cl]) (by rw [bv_length, h])
theorem Sta.at_47 (x : Sta) (h : x.last.length = 32) : x.cl.toArray[47]? = some (.slice x.cou.A x.cou.n x.cou.c) := seg_at (A := [.string x.chain] ++ x.par.cl ++ [.int .u64 x.height, .int .u64 x.time] ++ bv x.last) (C := [.slice x.next.A x.next.n x.next.c, .slice x.pA x.pn x.pc, .slice x.oA x.on x.oc, .slice x.aA x.an x.ac, .slice x.rA x.rn x.rc, .int .u64 x.burnt, .int .u64 x.supply]) (by simp [Sta.cl, Cou.cl]) (by simp [Par.cl, bv_length, h])
theorem Sta.at_48 (x : Sta) (h : x.last.length = 32) : x.cl.toArray[48]? = some (.slice x.next.A x.next.n x.next.c) := seg_at (A := [.string x.chain] ++ x.par.cl ++ [.int .u64 x.height, .int .u64 x.time] ++ bv x.last ++ [.slice x.cou.A x.cou.n x.cou.c]) (C := [.slice x.pA x.pn x.pc, .slice x.oA x.on x.oc, .slice x.aA x.an x.ac, .slice x.rA x.rn x.rc, .int .u64 x.burnt, .int .u64 x.supply]) (by simp [Sta.cl, Cou.cl]) (by simp [Par.cl, bv_length, h])
theorem Sta.at_49 (x : Sta) (h : x.last.length = 32) : x.cl.toArray[49]? = some (.slice x.pA x.pn x.pc) := seg_at (A := [.string x.chain] ++ x.par.cl ++ [.int .u64 x.height, .int .u64 x.time] ++ bv x.last ++ [.slice x.cou.A x.cou.n x.cou.c, .slice x.next.A x.next.n x.next.c]) (C := [.slice x.oA x.on x.oc, .slice x.aA x.an x.ac, .slice x.rA x.rn x.rc, .int .u64 x.burnt, .int .u64 x.supply]) (by simp [Sta.cl, Cou.cl]) (by simp [Par.cl, bv_length, h])
theorem Sta.at_50 (x : Sta) (h : x.last.length = 32) : x.cl.toArray[50]? = some (.slice x.oA x.on x.oc) := seg_at (A := [.string x.chain] ++ x.par.cl ++ [.int .u64 x.height, .int .u64 x.time] ++ bv x.last ++ [.slice x.cou.A x.cou.n x.cou.c, .slice x.next.A x.next.n x.next.c, .slice x.pA x.pn x.pc]) (C := [.slice x.aA x.an x.ac, .slice x.rA x.rn x.rc, .int .u64 x.burnt, .int .u64 x.supply]) (by simp [Sta.cl, Cou.cl]) (by simp [Par.cl, bv_length, h])
theorem Sta.at_51 (x : Sta) (h : x.last.length = 32) : x.cl.toArray[51]? = some (.slice x.aA x.an x.ac) := seg_at (A := [.string x.chain] ++ x.par.cl ++ [.int .u64 x.height, .int .u64 x.time] ++ bv x.last ++ [.slice x.cou.A x.cou.n x.cou.c, .slice x.next.A x.next.n x.next.c, .slice x.pA x.pn x.pc, .slice x.oA x.on x.oc]) (C := [.slice x.rA x.rn x.rc, .int .u64 x.burnt, .int .u64 x.supply]) (by simp [Sta.cl, Cou.cl]) (by simp [Par.cl, bv_length, h])
theorem Sta.at_52 (x : Sta) (h : x.last.length = 32) : x.cl.toArray[52]? = some (.slice x.rA x.rn x.rc) := seg_at (A := [.string x.chain] ++ x.par.cl ++ [.int .u64 x.height, .int .u64 x.time] ++ bv x.last ++ [.slice x.cou.A x.cou.n x.cou.c, .slice x.next.A x.next.n x.next.c, .slice x.pA x.pn x.pc, .slice x.oA x.on x.oc, .slice x.aA x.an x.ac]) (C := [.int .u64 x.burnt, .int .u64 x.supply]) (by simp [Sta.cl, Cou.cl]) (by simp [Par.cl, bv_length, h])
theorem Sta.at_53 (x : Sta) (h : x.last.length = 32) : x.cl.toArray[53]? = some (.int .u64 x.burnt) := seg_at (A := [.string x.chain] ++ x.par.cl ++ [.int .u64 x.height, .int .u64 x.time] ++ bv x.last ++ [.slice x.cou.A x.cou.n x.cou.c, .slice x.next.A x.next.n x.next.c, .slice x.pA x.pn x.pc, .slice x.oA x.on x.oc, .slice x.aA x.an x.ac, .slice x.rA x.rn x.rc]) (C := [.int .u64 x.supply]) (by simp [Sta.cl, Cou.cl]) (by simp [Par.cl, bv_length, h])
theorem Sta.at_54 (x : Sta) (h : x.last.length = 32) : x.cl.toArray[54]? = some (.int .u64 x.supply) := seg_at (A := [.string x.chain] ++ x.par.cl ++ [.int .u64 x.height, .int .u64 x.time] ++ bv x.last ++ [.slice x.cou.A x.cou.n x.cou.c, .slice x.next.A x.next.n x.next.c, .slice x.pA x.pn x.pc, .slice x.oA x.on x.oc, .slice x.aA x.an x.ac, .slice x.rA x.rn x.rc, .int .u64 x.burnt]) (C := []) (by simp [Sta.cl, Cou.cl]) (by simp [Par.cl, bv_length, h])
theorem Sta.ex_cou (x : Sta) (h : x.last.length = 32) : x.cl.toArray.extract 47 (47 + 1) = x.cou.cl.toArray := seg_ex (A := [.string x.chain] ++ x.par.cl ++ [.int .u64 x.height, .int .u64 x.time] ++ bv x.last) (C := x.next.cl ++ [.slice x.pA x.pn x.pc, .slice x.oA x.on x.oc, .slice x.aA x.an x.ac, .slice x.rA x.rn x.rc, .int .u64 x.burnt, .int .u64 x.supply]) (by simp [Sta.cl]) (by simp [Par.cl, bv_length, h]) rfl
theorem Sta.ex_next (x : Sta) (h : x.last.length = 32) : x.cl.toArray.extract 48 (48 + 1) = x.next.cl.toArray := seg_ex (A := [.string x.chain] ++ x.par.cl ++ [.int .u64 x.height, .int .u64 x.time] ++ bv x.last ++ x.cou.cl) (C := [.slice x.pA x.pn x.pc, .slice x.oA x.on x.oc, .slice x.aA x.an x.ac, .slice x.rA x.rn x.rc, .int .u64 x.burnt, .int .u64 x.supply]) (by simp [Sta.cl]) (by simp [Par.cl, bv_length, h, Cou.cl]) rfl
theorem info_Sta : (Tryz.prog.info? 62).map (·.size) = some 55 := by kernel_rfl
def encU (v : Int) : List UInt8 := varB v.toNat

set_option maxHeartbeats 8000000 in
theorem putState_any (w : World) (B g : Nat) (bs : List UInt8) (x : Sta) (hx : x.ok) (hp : StaB x) (hon : x.on ≤ 1000000000) (hrn : x.rn ≤ 1000000000) (hat : x.at w) (hlo : x.low B) (hB : B ≤ w.heap.size) (hw : Wr w B g bs) (hb : bs.length + 1000000000000 ≤ room46) :
  Calls Tryz.prog 64 #[.pointer (some ⟨g, 0, none⟩), .agg x.cl.toArray] w fun e w' => e = .returned (.tuple #[]) ∧ Wr w' B g (bs ++ formSta x) ∧ Eff B WrT w w' := by
 have HX := Lib.hid hx
 have HP := Lib.hid hp
 have HLO := Lib.hid hlo
 have HON := Lib.hid hon
 have HRN := Lib.hid hrn
 have HL := Lib.hid (x.len hx.last)
 have HRM := Lib.hid hb
 have p1 : IntKind.u8.wrap x.par.seats = x.par.seats := by rw [IntKind.wrap_u8]; have := hp.s1; have := hp.s2; omega
 have p2 : IntKind.u64.wrap x.par.txs = x.par.txs := by rw [IntKind.wrap_u64]; have := hp.t1; have := hp.t2; omega
 go_enter Tryz.func64, Tryz.ntmps64
 go_wp2_with (with_reducible show wpList _ _ _ (Oper.mk _ (Op.box _ _) _ _ _ _ :: _) _ _; refine wpList_box_bk rfl _ _ rfl _ rfl ?_)
 intro bx w0 hk hbl hg hs
 clear hg hs
 have HK0 := Lib.hid (bk_eqT (cs' := x.cl.toArray) hk rfl)
 have HW0 := Lib.hid (hw.below hbl)
 have HAT0 := Lib.hid (hat.below hbl)
 have HS0 := Lib.hid (Nat.le_trans hB hbl.size)
 have HE0 := Lib.hid (Eff.of_below hbl B WrT)
 have HL0 := Lib.hid (show bs.length ≤ bs.length + (0) by omega)
 obtain ⟨cur0, hc0⟩ : ∃ c, bs = c := ⟨_, rfl⟩
 rw [hc0] at HW0 HL0
 have HC0 := Lib.hid hc0
 have HRM0 := Lib.hid (show cur0.length + 1000000000000 ≤ room46 by rw [← hc0]; exact HRM.out)
 clear hk hbl hx hp hat hlo hB hw hc0 hon hrn hb
 have c0 : w0.cell? ⟨bx, 0, none⟩ = some (.string x.chain) := HK0.out.cell 0
 go_wp2_with fail
 refine (text_any w0 B g _ x.chain HW0.out (by have := HP.out.c2; unfold two64; omega) (by have h1 := HRM0.out; have h2 := HL0.out; have h3 := HP.out.c2; have h4 := HP.out.pn; have h5 := HP.out.an; have h6 := HON.out; have h7 := HRN.out; omega)).mono ?_
 rintro e w1 ⟨rfl, hw1, e1⟩
 have HK1 := Lib.hid (HK0.out.effT e1 (by decide))
 have HAT1 := Lib.hid (HAT0.out.eff HLO.out e1 HS0.out)
 have HS1 := Lib.hid (Nat.le_trans HS0.out e1.size)
 have HE1 := Lib.hid (HE0.out.trans e1)
 obtain ⟨cur1, hc1⟩ : ∃ c, cur0 ++ (varB x.chain.size ++ x.chain.data.toList) = c := ⟨_, rfl⟩
 rw [hc1] at hw1
 have HW1 := Lib.hid hw1
 have HC1 := Lib.hid hc1
 have HL1 := Lib.hid (show cur1.length ≤ cur0.length + (100) by
  rw [← hc1, List.length_append]
  have h1 := HL0.out
  have h2 : ((varB x.chain.size ++ x.chain.data.toList)).length ≤ 26 := by rw [List.length_append]; have h3 := varB_ten (n := x.chain.size) (by have := HP.out.c2; unfold two64; omega); have h4 := HP.out.c2; have h5 : x.chain.data.toList.length = x.chain.size := (by simp); omega
  omega)
 clear e1 hw1 hc1 c0
 have c1 : w1.cell? ⟨bx, 1, none⟩ = some (.int .u64 x.par.bond) := HK1.out.cell 1
 go_wp2_with fail
 refine (var_int w1 B g _ x.par.bond HW1.out HX.out.par.bond.1 (by have := HX.out.par.bond.2; unfold two64; omega) (by have h1 := HRM0.out; have h2 := HL1.out; have h3 := HP.out.c2; have h4 := HP.out.pn; have h5 := HP.out.an; have h6 := HON.out; have h7 := HRN.out; omega)).mono ?_
 rintro e w2 ⟨rfl, hw2, e2⟩
 have HK2 := Lib.hid (HK1.out.effT e2 (by decide))
 have HAT2 := Lib.hid (HAT1.out.eff HLO.out e2 HS1.out)
 have HS2 := Lib.hid (Nat.le_trans HS1.out e2.size)
 have HE2 := Lib.hid (HE1.out.trans e2)
 obtain ⟨cur2, hc2⟩ : ∃ c, cur1 ++ varB x.par.bond.toNat = c := ⟨_, rfl⟩
 rw [hc2] at hw2
 have HW2 := Lib.hid hw2
 have HC2 := Lib.hid hc2
 have HL2 := Lib.hid (show cur2.length ≤ cur0.length + (200) by
  rw [← hc2, List.length_append]
  have h1 := HL1.out
  have h2 : (varB x.par.bond.toNat).length ≤ 10 := varB_int (n := x.par.bond) HX.out.par.bond.1 (by have := HX.out.par.bond.2; unfold two64; omega)
  omega)
 clear e2 hw2 hc2 c1
 have c2 : w2.cell? ⟨bx, 2, none⟩ = some (.int .i64 x.par.seats) := HK2.out.cell 2
 go_wp2_with fail
 refine (byte_int w2 B g _ x.par.seats HW2.out (by have := HP.out.s1; omega) (by have := HP.out.s2; omega) (by have h1 := HRM0.out; have h2 := HL2.out; have h3 := HP.out.c2; have h4 := HP.out.pn; have h5 := HP.out.an; have h6 := HON.out; have h7 := HRN.out; omega)).mono ?_
 rintro e w3 ⟨rfl, hw3, e3⟩
 have HK3 := Lib.hid (HK2.out.effT e3 (by decide))
 have HAT3 := Lib.hid (HAT2.out.eff HLO.out e3 HS2.out)
 have HS3 := Lib.hid (Nat.le_trans HS2.out e3.size)
 have HE3 := Lib.hid (HE2.out.trans e3)
 obtain ⟨cur3, hc3⟩ : ∃ c, cur2 ++ [UInt8.ofNat x.par.seats.toNat] = c := ⟨_, rfl⟩
 rw [hc3] at hw3
 have HW3 := Lib.hid hw3
 have HC3 := Lib.hid hc3
 have HL3 := Lib.hid (show cur3.length ≤ cur0.length + (300) by
  rw [← hc3, List.length_append]
  have h1 := HL2.out
  have h2 : ([UInt8.ofNat x.par.seats.toNat]).length ≤ 1 := by simp
  omega)
 clear e3 hw3 hc3 c2
 go_wp2_with fail
 refine (params_any w3 bx).mono ?_
 rintro e w3p ⟨v1, v2, rfl, ⟨g1, rfl, hv1⟩, ⟨g2, rfl, hv2⟩, hbp⟩
 have HVA3 := Lib.hid hv1
 have HVB3 := Lib.hid hv2
 have HK3' := Lib.hid (HK3.out.below hbp HK3.out.lt)
 have HW3' := Lib.hid (HW3.out.below hbp)
 have HAT3' := Lib.hid (HAT3.out.below hbp)
 have HS3' := Lib.hid (Nat.le_trans HS3.out hbp.size)
 have HE3' := Lib.hid (HE3.out.trans (Eff.of_below hbp B WrT))
 clear hv1 hv2 hbp HK3 HW3 HAT3 HS3 HE3 HK0 HK1 HK2 HW0 HW1 HW2 HAT0 HAT1 HAT2 HS0 HS1 HS2 HE0 HE1 HE2
 go_wp2
 go_loopw [32] (fun i wr => ∃ j : Nat, j ≤ 3 ∧ i = .int .i64 (j : Int) ∧ Wr wr B g (cur3 ++ (([x.par.slash, x.par.period, x.par.age] : List Int).take j).flatMap encU) ∧ Bk wr bx x.cl.toArray 62 ∧ Bk wr g1 [ptr bx 3, ptr bx 4, ptr bx 5].toArray 201 ∧ Bk wr g2 [ptr bx 7, ptr bx 8, ptr bx 9, ptr bx 10, ptr bx 11, ptr bx 12].toArray 201 ∧ x.at wr ∧ B ≤ wr.heap.size ∧ Eff B WrT w wr) (fun i _ => 3 - (intOf i).toNat)
 case atStart => exact ⟨0, by omega, rfl, by simpa using HW3'.out, HK3'.out, HVA3.out, HVB3.out, HAT3'.out, HS3'.out, HE3'.out⟩
 case round =>
  clear HW3' HK3' HVA3 HVB3 HAT3' HS3' HE3'
  obtain ⟨j, hj, rfl, h1, h2, h3, h4, h5, h6, h7⟩ := hrel
  have HW := Lib.hid h1
  have HK := Lib.hid h2
  have HVA := Lib.hid h3
  have HVB := Lib.hid h4
  have HAT := Lib.hid h5
  have HS := Lib.hid h6
  have HE := Lib.hid h7
  clear h1 h2 h3 h4 h5 h6 h7
  have hj4 : j = 0 ∨ j = 1 ∨ j = 2 ∨ j = 3 := by omega
  rcases hj4 with rfl | rfl | rfl | rfl
  ·have c1 : wr.cell? ⟨g1, 0, none⟩ = some (.pointer (some ⟨bx, 3, none⟩)) := HVA.out.cell 0
   have c2 : wr.cell? ⟨bx, 3, none⟩ = some (.int .u64 x.par.slash) := HK.out.cell 3
   go_wp2_with fail
   refine (var_int wr B g _ x.par.slash HW.out HX.out.par.slash.1 (by have := HX.out.par.slash.2; unfold two64; omega) (by
    have h1 := HRM0.out
    have h2 := HL3.out
    have h3 : ((([x.par.slash, x.par.period, x.par.age] : List Int).take 0).flatMap encU).length ≤ 100 := by
     simp only [List.take_succ_cons, List.take_zero, List.flatMap_cons, List.flatMap_nil, List.length_append, List.length_nil, encU]
     omega
    rw [List.length_append]
    omega)).mono ?_
   rintro e w8 ⟨rfl, hw8, e8⟩
   have HW8 := Lib.hid hw8
   have HK8 := Lib.hid (HK.out.effT e8 (by decide))
   have HVA8 := Lib.hid (HVA.out.effT e8 (by decide))
   have HVB8 := Lib.hid (HVB.out.effT e8 (by decide))
   have HAT8 := Lib.hid (HAT.out.eff HLO.out e8 HS.out)
   have HS8 := Lib.hid (Nat.le_trans HS.out e8.size)
   have HE8 := Lib.hid (HE.out.trans e8)
   clear hw8 e8 c1 c2
   go_wp2
   go_round
   case rel => exact ⟨1, by omega, by first | rfl | go_num, by have h := HW8.out; simpa [encU] using h, HK8.out, HVA8.out, HVB8.out, HAT8.out, HS8.out, HE8.out⟩
   case measure => simp [intOf]
  ·have c1 : wr.cell? ⟨g1, 1, none⟩ = some (.pointer (some ⟨bx, 4, none⟩)) := HVA.out.cell 1
   have c2 : wr.cell? ⟨bx, 4, none⟩ = some (.int .u64 x.par.period) := HK.out.cell 4
   go_wp2_with fail
   refine (var_int wr B g _ x.par.period HW.out HX.out.par.period.1 (by have := HX.out.par.period.2; unfold two64; omega) (by
    have h1 := HRM0.out
    have h2 := HL3.out
    have h3 : ((([x.par.slash, x.par.period, x.par.age] : List Int).take 1).flatMap encU).length ≤ 100 := by
     simp only [List.take_succ_cons, List.take_zero, List.flatMap_cons, List.flatMap_nil, List.length_append, List.length_nil, encU]
     have q0 := varB_int (n := x.par.slash) HX.out.par.slash.1 (by have := HX.out.par.slash.2; unfold two64; omega); omega
    rw [List.length_append]
    omega)).mono ?_
   rintro e w8 ⟨rfl, hw8, e8⟩
   have HW8 := Lib.hid hw8
   have HK8 := Lib.hid (HK.out.effT e8 (by decide))
   have HVA8 := Lib.hid (HVA.out.effT e8 (by decide))
   have HVB8 := Lib.hid (HVB.out.effT e8 (by decide))
   have HAT8 := Lib.hid (HAT.out.eff HLO.out e8 HS.out)
   have HS8 := Lib.hid (Nat.le_trans HS.out e8.size)
   have HE8 := Lib.hid (HE.out.trans e8)
   clear hw8 e8 c1 c2
   go_wp2
   go_round
   case rel => exact ⟨2, by omega, by first | rfl | go_num, by have h := HW8.out; simpa [encU] using h, HK8.out, HVA8.out, HVB8.out, HAT8.out, HS8.out, HE8.out⟩
   case measure => simp [intOf]
  ·have c1 : wr.cell? ⟨g1, 2, none⟩ = some (.pointer (some ⟨bx, 5, none⟩)) := HVA.out.cell 2
   have c2 : wr.cell? ⟨bx, 5, none⟩ = some (.int .u64 x.par.age) := HK.out.cell 5
   go_wp2_with fail
   refine (var_int wr B g _ x.par.age HW.out HX.out.par.age.1 (by have := HX.out.par.age.2; unfold two64; omega) (by
    have h1 := HRM0.out
    have h2 := HL3.out
    have h3 : ((([x.par.slash, x.par.period, x.par.age] : List Int).take 2).flatMap encU).length ≤ 100 := by
     simp only [List.take_succ_cons, List.take_zero, List.flatMap_cons, List.flatMap_nil, List.length_append, List.length_nil, encU]
     have q0 := varB_int (n := x.par.slash) HX.out.par.slash.1 (by have := HX.out.par.slash.2; unfold two64; omega); have q1 := varB_int (n := x.par.period) HX.out.par.period.1 (by have := HX.out.par.period.2; unfold two64; omega); omega
    rw [List.length_append]
    omega)).mono ?_
   rintro e w8 ⟨rfl, hw8, e8⟩
   have HW8 := Lib.hid hw8
   have HK8 := Lib.hid (HK.out.effT e8 (by decide))
   have HVA8 := Lib.hid (HVA.out.effT e8 (by decide))
   have HVB8 := Lib.hid (HVB.out.effT e8 (by decide))
   have HAT8 := Lib.hid (HAT.out.eff HLO.out e8 HS.out)
   have HS8 := Lib.hid (Nat.le_trans HS.out e8.size)
   have HE8 := Lib.hid (HE.out.trans e8)
   clear hw8 e8 c1 c2
   go_wp2
   go_round
   case rel => exact ⟨3, by omega, by first | rfl | go_num, by have h := HW8.out; simpa [encU] using h, HK8.out, HVA8.out, HVB8.out, HAT8.out, HS8.out, HE8.out⟩
   case measure => simp [intOf]
  have HTK4 := Lib.hid (show (([x.par.slash, x.par.period, x.par.age] : List Int).take 3).flatMap encU = ([x.par.slash, x.par.period, x.par.age] : List Int).flatMap encU from rfl)
  rw [HTK4.out] at HW
  obtain ⟨cur4, hc4⟩ : ∃ c, cur3 ++ ([x.par.slash, x.par.period, x.par.age] : List Int).flatMap encU = c := ⟨_, rfl⟩
  rw [hc4] at HW
  have HC4 := Lib.hid hc4
  have HL4 := Lib.hid (show cur4.length ≤ cur0.length + (400) by
   rw [← hc4, List.length_append]
   have h1 := HL3.out
   have h3 : (([x.par.slash, x.par.period, x.par.age] : List Int).flatMap encU).length ≤ 100 := by
    simp only [List.flatMap_cons, List.flatMap_nil, List.length_append, List.length_nil, encU]
    have q0 := varB_int (n := x.par.slash) HX.out.par.slash.1 (by have := HX.out.par.slash.2; unfold two64; omega); have q1 := varB_int (n := x.par.period) HX.out.par.period.1 (by have := HX.out.par.period.2; unfold two64; omega); have q2 := varB_int (n := x.par.age) HX.out.par.age.1 (by have := HX.out.par.age.2; unfold two64; omega); omega
   omega)
  have HW4 := HW
  have HK4 := HK
  have HVA4 := HVA
  have HVB4 := HVB
  have HAT4 := HAT
  have HS4 := HS
  have HE4 := HE
  clear hc4 HTK4 HW HK HVA HVB HAT HS HE
  have c4 : wr.cell? ⟨bx, 6, none⟩ = some (.int .i64 x.par.txs) := HK4.out.cell 6
  go_wp2_with fail
  refine (var_int wr B g _ x.par.txs HW4.out HP.out.t1 (by have := HP.out.t2; unfold two64; omega) (by have h1 := HRM0.out; have h2 := HL4.out; have h3 := HP.out.c2; have h4 := HP.out.pn; have h5 := HP.out.an; have h6 := HON.out; have h7 := HRN.out; omega)).mono ?_
  rintro e w5 ⟨rfl, hw5, e5⟩
  have HK5 := Lib.hid (HK4.out.effT e5 (by decide))
  have HAT5 := Lib.hid (HAT4.out.eff HLO.out e5 HS4.out)
  have HS5 := Lib.hid (Nat.le_trans HS4.out e5.size)
  have HE5 := Lib.hid (HE4.out.trans e5)
  have HVA5 := Lib.hid (HVA4.out.effT e5 (by decide))
  have HVB5 := Lib.hid (HVB4.out.effT e5 (by decide))
  obtain ⟨cur5, hc5⟩ : ∃ c, cur4 ++ varB x.par.txs.toNat = c := ⟨_, rfl⟩
  rw [hc5] at hw5
  have HW5 := Lib.hid hw5
  have HC5 := Lib.hid hc5
  have HL5 := Lib.hid (show cur5.length ≤ cur0.length + (500) by
   rw [← hc5, List.length_append]
   have h1 := HL4.out
   have h2 : (varB x.par.txs.toNat).length ≤ 10 := varB_int (n := x.par.txs) HP.out.t1 (by have := HP.out.t2; unfold two64; omega)
   omega)
  clear e5 hw5 hc5 c4
  go_wp2
  go_loopw [50] (fun i wr => ∃ j : Nat, j ≤ 6 ∧ i = .int .i64 (j : Int) ∧ Wr wr B g (cur5 ++ (([x.par.propose, x.par.votes, x.par.pause, x.par.resend, x.par.trust, x.par.drift] : List Int).take j).flatMap encU) ∧ Bk wr bx x.cl.toArray 62 ∧ Bk wr g1 [ptr bx 3, ptr bx 4, ptr bx 5].toArray 201 ∧ Bk wr g2 [ptr bx 7, ptr bx 8, ptr bx 9, ptr bx 10, ptr bx 11, ptr bx 12].toArray 201 ∧ x.at wr ∧ B ≤ wr.heap.size ∧ Eff B WrT w wr) (fun i _ => 6 - (intOf i).toNat)
  case atStart => exact ⟨0, by omega, rfl, by simpa using HW5.out, HK5.out, HVA5.out, HVB5.out, HAT5.out, HS5.out, HE5.out⟩
  case round =>
   clear HW5 HK5 HVA5 HVB5 HAT5 HS5 HE5
   obtain ⟨j, hj, rfl, h1, h2, h3, h4, h5, h6, h7⟩ := hrel
   have HW := Lib.hid h1
   have HK := Lib.hid h2
   have HVA := Lib.hid h3
   have HVB := Lib.hid h4
   have HAT := Lib.hid h5
   have HS := Lib.hid h6
   have HE := Lib.hid h7
   clear h1 h2 h3 h4 h5 h6 h7
   have hj4 : j = 0 ∨ j = 1 ∨ j = 2 ∨ j = 3 ∨ j = 4 ∨ j = 5 ∨ j = 6 := by omega
   rcases hj4 with rfl | rfl | rfl | rfl | rfl | rfl | rfl
   ·have c1 : wr.cell? ⟨g2, 0, none⟩ = some (.pointer (some ⟨bx, 7, none⟩)) := HVB.out.cell 0
    have c2 : wr.cell? ⟨bx, 7, none⟩ = some (.int .u64 x.par.propose) := HK.out.cell 7
    go_wp2_with fail
    refine (var_int wr B g _ x.par.propose HW.out HX.out.par.propose.1 (by have := HX.out.par.propose.2; unfold two64; omega) (by
     have h1 := HRM0.out
     have h2 := HL5.out
     have h3 : ((([x.par.propose, x.par.votes, x.par.pause, x.par.resend, x.par.trust, x.par.drift] : List Int).take 0).flatMap encU).length ≤ 100 := by
      simp only [List.take_succ_cons, List.take_zero, List.flatMap_cons, List.flatMap_nil, List.length_append, List.length_nil, encU]
      omega
     rw [List.length_append]
     omega)).mono ?_
    rintro e w8 ⟨rfl, hw8, e8⟩
    have HW8 := Lib.hid hw8
    have HK8 := Lib.hid (HK.out.effT e8 (by decide))
    have HVA8 := Lib.hid (HVA.out.effT e8 (by decide))
    have HVB8 := Lib.hid (HVB.out.effT e8 (by decide))
    have HAT8 := Lib.hid (HAT.out.eff HLO.out e8 HS.out)
    have HS8 := Lib.hid (Nat.le_trans HS.out e8.size)
    have HE8 := Lib.hid (HE.out.trans e8)
    clear hw8 e8 c1 c2
    go_wp2
    go_round
    case rel => exact ⟨1, by omega, by first | rfl | go_num, by have h := HW8.out; simpa [encU] using h, HK8.out, HVA8.out, HVB8.out, HAT8.out, HS8.out, HE8.out⟩
    case measure => simp [intOf]
   ·have c1 : wr.cell? ⟨g2, 1, none⟩ = some (.pointer (some ⟨bx, 8, none⟩)) := HVB.out.cell 1
    have c2 : wr.cell? ⟨bx, 8, none⟩ = some (.int .u64 x.par.votes) := HK.out.cell 8
    go_wp2_with fail
    refine (var_int wr B g _ x.par.votes HW.out HX.out.par.votes.1 (by have := HX.out.par.votes.2; unfold two64; omega) (by
     have h1 := HRM0.out
     have h2 := HL5.out
     have h3 : ((([x.par.propose, x.par.votes, x.par.pause, x.par.resend, x.par.trust, x.par.drift] : List Int).take 1).flatMap encU).length ≤ 100 := by
      simp only [List.take_succ_cons, List.take_zero, List.flatMap_cons, List.flatMap_nil, List.length_append, List.length_nil, encU]
      have q0 := varB_int (n := x.par.propose) HX.out.par.propose.1 (by have := HX.out.par.propose.2; unfold two64; omega); omega
     rw [List.length_append]
     omega)).mono ?_
    rintro e w8 ⟨rfl, hw8, e8⟩
    have HW8 := Lib.hid hw8
    have HK8 := Lib.hid (HK.out.effT e8 (by decide))
    have HVA8 := Lib.hid (HVA.out.effT e8 (by decide))
    have HVB8 := Lib.hid (HVB.out.effT e8 (by decide))
    have HAT8 := Lib.hid (HAT.out.eff HLO.out e8 HS.out)
    have HS8 := Lib.hid (Nat.le_trans HS.out e8.size)
    have HE8 := Lib.hid (HE.out.trans e8)
    clear hw8 e8 c1 c2
    go_wp2
    go_round
    case rel => exact ⟨2, by omega, by first | rfl | go_num, by have h := HW8.out; simpa [encU] using h, HK8.out, HVA8.out, HVB8.out, HAT8.out, HS8.out, HE8.out⟩
    case measure => simp [intOf]
   ·have c1 : wr.cell? ⟨g2, 2, none⟩ = some (.pointer (some ⟨bx, 9, none⟩)) := HVB.out.cell 2
    have c2 : wr.cell? ⟨bx, 9, none⟩ = some (.int .u64 x.par.pause) := HK.out.cell 9
    go_wp2_with fail
    refine (var_int wr B g _ x.par.pause HW.out HX.out.par.pause.1 (by have := HX.out.par.pause.2; unfold two64; omega) (by
     have h1 := HRM0.out
     have h2 := HL5.out
     have h3 : ((([x.par.propose, x.par.votes, x.par.pause, x.par.resend, x.par.trust, x.par.drift] : List Int).take 2).flatMap encU).length ≤ 100 := by
      simp only [List.take_succ_cons, List.take_zero, List.flatMap_cons, List.flatMap_nil, List.length_append, List.length_nil, encU]
      have q0 := varB_int (n := x.par.propose) HX.out.par.propose.1 (by have := HX.out.par.propose.2; unfold two64; omega); have q1 := varB_int (n := x.par.votes) HX.out.par.votes.1 (by have := HX.out.par.votes.2; unfold two64; omega); omega
     rw [List.length_append]
     omega)).mono ?_
    rintro e w8 ⟨rfl, hw8, e8⟩
    have HW8 := Lib.hid hw8
    have HK8 := Lib.hid (HK.out.effT e8 (by decide))
    have HVA8 := Lib.hid (HVA.out.effT e8 (by decide))
    have HVB8 := Lib.hid (HVB.out.effT e8 (by decide))
    have HAT8 := Lib.hid (HAT.out.eff HLO.out e8 HS.out)
    have HS8 := Lib.hid (Nat.le_trans HS.out e8.size)
    have HE8 := Lib.hid (HE.out.trans e8)
    clear hw8 e8 c1 c2
    go_wp2
    go_round
    case rel => exact ⟨3, by omega, by first | rfl | go_num, by have h := HW8.out; simpa [encU] using h, HK8.out, HVA8.out, HVB8.out, HAT8.out, HS8.out, HE8.out⟩
    case measure => simp [intOf]
   ·have c1 : wr.cell? ⟨g2, 3, none⟩ = some (.pointer (some ⟨bx, 10, none⟩)) := HVB.out.cell 3
    have c2 : wr.cell? ⟨bx, 10, none⟩ = some (.int .u64 x.par.resend) := HK.out.cell 10
    go_wp2_with fail
    refine (var_int wr B g _ x.par.resend HW.out HX.out.par.resend.1 (by have := HX.out.par.resend.2; unfold two64; omega) (by
     have h1 := HRM0.out
     have h2 := HL5.out
     have h3 : ((([x.par.propose, x.par.votes, x.par.pause, x.par.resend, x.par.trust, x.par.drift] : List Int).take 3).flatMap encU).length ≤ 100 := by
      simp only [List.take_succ_cons, List.take_zero, List.flatMap_cons, List.flatMap_nil, List.length_append, List.length_nil, encU]
      have q0 := varB_int (n := x.par.propose) HX.out.par.propose.1 (by have := HX.out.par.propose.2; unfold two64; omega); have q1 := varB_int (n := x.par.votes) HX.out.par.votes.1 (by have := HX.out.par.votes.2; unfold two64; omega); have q2 := varB_int (n := x.par.pause) HX.out.par.pause.1 (by have := HX.out.par.pause.2; unfold two64; omega); omega
     rw [List.length_append]
     omega)).mono ?_
    rintro e w8 ⟨rfl, hw8, e8⟩
    have HW8 := Lib.hid hw8
    have HK8 := Lib.hid (HK.out.effT e8 (by decide))
    have HVA8 := Lib.hid (HVA.out.effT e8 (by decide))
    have HVB8 := Lib.hid (HVB.out.effT e8 (by decide))
    have HAT8 := Lib.hid (HAT.out.eff HLO.out e8 HS.out)
    have HS8 := Lib.hid (Nat.le_trans HS.out e8.size)
    have HE8 := Lib.hid (HE.out.trans e8)
    clear hw8 e8 c1 c2
    go_wp2
    go_round
    case rel => exact ⟨4, by omega, by first | rfl | go_num, by have h := HW8.out; simpa [encU] using h, HK8.out, HVA8.out, HVB8.out, HAT8.out, HS8.out, HE8.out⟩
    case measure => simp [intOf]
   ·have c1 : wr.cell? ⟨g2, 4, none⟩ = some (.pointer (some ⟨bx, 11, none⟩)) := HVB.out.cell 4
    have c2 : wr.cell? ⟨bx, 11, none⟩ = some (.int .u64 x.par.trust) := HK.out.cell 11
    go_wp2_with fail
    refine (var_int wr B g _ x.par.trust HW.out HX.out.par.trust.1 (by have := HX.out.par.trust.2; unfold two64; omega) (by
     have h1 := HRM0.out
     have h2 := HL5.out
     have h3 : ((([x.par.propose, x.par.votes, x.par.pause, x.par.resend, x.par.trust, x.par.drift] : List Int).take 4).flatMap encU).length ≤ 100 := by
      simp only [List.take_succ_cons, List.take_zero, List.flatMap_cons, List.flatMap_nil, List.length_append, List.length_nil, encU]
      have q0 := varB_int (n := x.par.propose) HX.out.par.propose.1 (by have := HX.out.par.propose.2; unfold two64; omega); have q1 := varB_int (n := x.par.votes) HX.out.par.votes.1 (by have := HX.out.par.votes.2; unfold two64; omega); have q2 := varB_int (n := x.par.pause) HX.out.par.pause.1 (by have := HX.out.par.pause.2; unfold two64; omega); have q3 := varB_int (n := x.par.resend) HX.out.par.resend.1 (by have := HX.out.par.resend.2; unfold two64; omega); omega
     rw [List.length_append]
     omega)).mono ?_
    rintro e w8 ⟨rfl, hw8, e8⟩
    have HW8 := Lib.hid hw8
    have HK8 := Lib.hid (HK.out.effT e8 (by decide))
    have HVA8 := Lib.hid (HVA.out.effT e8 (by decide))
    have HVB8 := Lib.hid (HVB.out.effT e8 (by decide))
    have HAT8 := Lib.hid (HAT.out.eff HLO.out e8 HS.out)
    have HS8 := Lib.hid (Nat.le_trans HS.out e8.size)
    have HE8 := Lib.hid (HE.out.trans e8)
    clear hw8 e8 c1 c2
    go_wp2
    go_round
    case rel => exact ⟨5, by omega, by first | rfl | go_num, by have h := HW8.out; simpa [encU] using h, HK8.out, HVA8.out, HVB8.out, HAT8.out, HS8.out, HE8.out⟩
    case measure => simp [intOf]
   ·have c1 : wr.cell? ⟨g2, 5, none⟩ = some (.pointer (some ⟨bx, 12, none⟩)) := HVB.out.cell 5
    have c2 : wr.cell? ⟨bx, 12, none⟩ = some (.int .u64 x.par.drift) := HK.out.cell 12
    go_wp2_with fail
    refine (var_int wr B g _ x.par.drift HW.out HX.out.par.drift.1 (by have := HX.out.par.drift.2; unfold two64; omega) (by
     have h1 := HRM0.out
     have h2 := HL5.out
     have h3 : ((([x.par.propose, x.par.votes, x.par.pause, x.par.resend, x.par.trust, x.par.drift] : List Int).take 5).flatMap encU).length ≤ 100 := by
      simp only [List.take_succ_cons, List.take_zero, List.flatMap_cons, List.flatMap_nil, List.length_append, List.length_nil, encU]
      have q0 := varB_int (n := x.par.propose) HX.out.par.propose.1 (by have := HX.out.par.propose.2; unfold two64; omega); have q1 := varB_int (n := x.par.votes) HX.out.par.votes.1 (by have := HX.out.par.votes.2; unfold two64; omega); have q2 := varB_int (n := x.par.pause) HX.out.par.pause.1 (by have := HX.out.par.pause.2; unfold two64; omega); have q3 := varB_int (n := x.par.resend) HX.out.par.resend.1 (by have := HX.out.par.resend.2; unfold two64; omega); have q4 := varB_int (n := x.par.trust) HX.out.par.trust.1 (by have := HX.out.par.trust.2; unfold two64; omega); omega
     rw [List.length_append]
     omega)).mono ?_
    rintro e w8 ⟨rfl, hw8, e8⟩
    have HW8 := Lib.hid hw8
    have HK8 := Lib.hid (HK.out.effT e8 (by decide))
    have HVA8 := Lib.hid (HVA.out.effT e8 (by decide))
    have HVB8 := Lib.hid (HVB.out.effT e8 (by decide))
    have HAT8 := Lib.hid (HAT.out.eff HLO.out e8 HS.out)
    have HS8 := Lib.hid (Nat.le_trans HS.out e8.size)
    have HE8 := Lib.hid (HE.out.trans e8)
    clear hw8 e8 c1 c2
    go_wp2
    go_round
    case rel => exact ⟨6, by omega, by first | rfl | go_num, by have h := HW8.out; simpa [encU] using h, HK8.out, HVA8.out, HVB8.out, HAT8.out, HS8.out, HE8.out⟩
    case measure => simp [intOf]
   have HTK6 := Lib.hid (show (([x.par.propose, x.par.votes, x.par.pause, x.par.resend, x.par.trust, x.par.drift] : List Int).take 6).flatMap encU = ([x.par.propose, x.par.votes, x.par.pause, x.par.resend, x.par.trust, x.par.drift] : List Int).flatMap encU from rfl)
   rw [HTK6.out] at HW
   obtain ⟨cur6, hc6⟩ : ∃ c, cur5 ++ ([x.par.propose, x.par.votes, x.par.pause, x.par.resend, x.par.trust, x.par.drift] : List Int).flatMap encU = c := ⟨_, rfl⟩
   rw [hc6] at HW
   have HC6 := Lib.hid hc6
   have HL6 := Lib.hid (show cur6.length ≤ cur0.length + (600) by
    rw [← hc6, List.length_append]
    have h1 := HL5.out
    have h3 : (([x.par.propose, x.par.votes, x.par.pause, x.par.resend, x.par.trust, x.par.drift] : List Int).flatMap encU).length ≤ 100 := by
     simp only [List.flatMap_cons, List.flatMap_nil, List.length_append, List.length_nil, encU]
     have q0 := varB_int (n := x.par.propose) HX.out.par.propose.1 (by have := HX.out.par.propose.2; unfold two64; omega); have q1 := varB_int (n := x.par.votes) HX.out.par.votes.1 (by have := HX.out.par.votes.2; unfold two64; omega); have q2 := varB_int (n := x.par.pause) HX.out.par.pause.1 (by have := HX.out.par.pause.2; unfold two64; omega); have q3 := varB_int (n := x.par.resend) HX.out.par.resend.1 (by have := HX.out.par.resend.2; unfold two64; omega); have q4 := varB_int (n := x.par.trust) HX.out.par.trust.1 (by have := HX.out.par.trust.2; unfold two64; omega); have q5 := varB_int (n := x.par.drift) HX.out.par.drift.1 (by have := HX.out.par.drift.2; unfold two64; omega); omega
    omega)
   have HW6 := HW
   have HK6 := HK
   have HVA6 := HVA
   have HVB6 := HVB
   have HAT6 := HAT
   have HS6 := HS
   have HE6 := HE
   clear hc6 HTK6 HW HK HVA HVB HAT HS HE
   have c6 : wr.cell? ⟨bx, 13, none⟩ = some (.int .u64 x.height) := HK6.out.cell 13
   go_wp2_with fail
   refine (var_int wr B g _ x.height HW6.out HX.out.height.1 (by have := HX.out.height.2; unfold two64; omega) (by have h1 := HRM0.out; have h2 := HL6.out; have h3 := HP.out.c2; have h4 := HP.out.pn; have h5 := HP.out.an; have h6 := HON.out; have h7 := HRN.out; omega)).mono ?_
   rintro e w7 ⟨rfl, hw7, e7⟩
   have HK7 := Lib.hid (HK6.out.effT e7 (by decide))
   have HAT7 := Lib.hid (HAT6.out.eff HLO.out e7 HS6.out)
   have HS7 := Lib.hid (Nat.le_trans HS6.out e7.size)
   have HE7 := Lib.hid (HE6.out.trans e7)
   obtain ⟨cur7, hc7⟩ : ∃ c, cur6 ++ varB x.height.toNat = c := ⟨_, rfl⟩
   rw [hc7] at hw7
   have HW7 := Lib.hid hw7
   have HC7 := Lib.hid hc7
   have HL7 := Lib.hid (show cur7.length ≤ cur0.length + (700) by
    rw [← hc7, List.length_append]
    have h1 := HL6.out
    have h2 : (varB x.height.toNat).length ≤ 10 := varB_int (n := x.height) HX.out.height.1 (by have := HX.out.height.2; unfold two64; omega)
    omega)
   clear e7 hw7 hc7 c6
   have c7 : w7.cell? ⟨bx, 14, none⟩ = some (.int .u64 x.time) := HK7.out.cell 14
   go_wp2_with fail
   refine (var_int w7 B g _ x.time HW7.out HX.out.time.1 (by have := HX.out.time.2; unfold two64; omega) (by have h1 := HRM0.out; have h2 := HL7.out; have h3 := HP.out.c2; have h4 := HP.out.pn; have h5 := HP.out.an; have h6 := HON.out; have h7 := HRN.out; omega)).mono ?_
   rintro e w8 ⟨rfl, hw8, e8⟩
   have HK8 := Lib.hid (HK7.out.effT e8 (by decide))
   have HAT8 := Lib.hid (HAT7.out.eff HLO.out e8 HS7.out)
   have HS8 := Lib.hid (Nat.le_trans HS7.out e8.size)
   have HE8 := Lib.hid (HE7.out.trans e8)
   obtain ⟨cur8, hc8⟩ : ∃ c, cur7 ++ varB x.time.toNat = c := ⟨_, rfl⟩
   rw [hc8] at hw8
   have HW8 := Lib.hid hw8
   have HC8 := Lib.hid hc8
   have HL8 := Lib.hid (show cur8.length ≤ cur0.length + (800) by
    rw [← hc8, List.length_append]
    have h1 := HL7.out
    have h2 : (varB x.time.toNat).length ≤ 10 := varB_int (n := x.time) HX.out.time.1 (by have := HX.out.time.2; unfold two64; omega)
    omega)
   clear e8 hw8 hc8 c7
   go_wp2_with (with_reducible show wpList _ _ _ (Oper.mk (some 70) (Op.load _ _) _ _ _ _ :: _) _ _; go_must (refine wpList_load_part rfl 29 _ rfl bx 15 32 rfl _ _ _ HK8.out Tryz.underlying29 rfl info_hash (by simp [HL.out]) _ (x.ex_last HX.out.last) ?_))
   refine (putHash_any w8 B g _ x.last HW8.out HX.out.last (by have h1 := HRM0.out; have h2 := HL8.out; have h3 := HP.out.c2; have h4 := HP.out.pn; have h5 := HP.out.an; have h6 := HON.out; have h7 := HRN.out; omega)).mono ?_
   rintro e w9 ⟨rfl, hw9, e9⟩
   have HK9 := Lib.hid (HK8.out.effT e9 (by decide))
   have HAT9 := Lib.hid (HAT8.out.eff HLO.out e9 HS8.out)
   have HS9 := Lib.hid (Nat.le_trans HS8.out e9.size)
   have HE9 := Lib.hid (HE8.out.trans e9)
   obtain ⟨cur9, hc9⟩ : ∃ c, cur8 ++ x.last = c := ⟨_, rfl⟩
   rw [hc9] at hw9
   have HW9 := Lib.hid hw9
   have HC9 := Lib.hid hc9
   have HL9 := Lib.hid (show cur9.length ≤ cur0.length + (900) by
    rw [← hc9, List.length_append]
    have h1 := HL8.out
    have h2 : (x.last).length ≤ 32 := by rw [HX.out.last]; omega
    omega)
   clear e9 hw9 hc9
   go_wp2_with (with_reducible show wpList _ _ _ (Oper.mk (some 74) (Op.load _ _) _ _ _ _ :: _) _ _; go_must (refine wpList_load_part rfl 54 _ rfl bx 47 1 rfl _ _ _ HK9.out Tryz.underlying54 rfl info_Cou (by simp [HL.out]) _ (x.ex_cou HX.out.last) ?_))
   refine (putCouncil_any w9 B g _ x.cou HX.out.cou HP.out.cou HAT9.out.cou HLO.out.cou HS9.out HW9.out (by have h1 := HRM0.out; have h2 := HL9.out; have h3 := HP.out.c2; have h4 := HP.out.pn; have h5 := HP.out.an; have h6 := HON.out; have h7 := HRN.out; omega)).mono ?_
   rintro e w10 ⟨rfl, hw10, e10⟩
   have HK10 := Lib.hid (HK9.out.effT e10 (by decide))
   have HAT10 := Lib.hid (HAT9.out.eff HLO.out e10 HS9.out)
   have HS10 := Lib.hid (Nat.le_trans HS9.out e10.size)
   have HE10 := Lib.hid (HE9.out.trans e10)
   obtain ⟨cur10, hc10⟩ : ∃ c, cur9 ++ encCou x.cou = c := ⟨_, rfl⟩
   rw [hc10] at hw10
   have HW10 := Lib.hid hw10
   have HC10 := Lib.hid hc10
   have HL10 := Lib.hid (show cur10.length ≤ cur0.length + (3000) by
    rw [← hc10, List.length_append]
    have h1 := HL9.out
    have h2 : (encCou x.cou).length ≤ 1930 := encCou_len HX.out.cou HP.out.cou
    omega)
   clear e10 hw10 hc10
   go_wp2_with (with_reducible show wpList _ _ _ (Oper.mk (some 78) (Op.load _ _) _ _ _ _ :: _) _ _; go_must (refine wpList_load_part rfl 54 _ rfl bx 48 1 rfl _ _ _ HK10.out Tryz.underlying54 rfl info_Cou (by simp [HL.out]) _ (x.ex_next HX.out.last) ?_))
   refine (putCouncil_any w10 B g _ x.next HX.out.next HP.out.next HAT10.out.next HLO.out.next HS10.out HW10.out (by have h1 := HRM0.out; have h2 := HL10.out; have h3 := HP.out.c2; have h4 := HP.out.pn; have h5 := HP.out.an; have h6 := HON.out; have h7 := HRN.out; omega)).mono ?_
   rintro e w11 ⟨rfl, hw11, e11⟩
   have HK11 := Lib.hid (HK10.out.effT e11 (by decide))
   have HAT11 := Lib.hid (HAT10.out.eff HLO.out e11 HS10.out)
   have HS11 := Lib.hid (Nat.le_trans HS10.out e11.size)
   have HE11 := Lib.hid (HE10.out.trans e11)
   obtain ⟨cur11, hc11⟩ : ∃ c, cur10 ++ encCou x.next = c := ⟨_, rfl⟩
   rw [hc11] at hw11
   have HW11 := Lib.hid hw11
   have HC11 := Lib.hid hc11
   have HL11 := Lib.hid (show cur11.length ≤ cur0.length + (5000) by
    rw [← hc11, List.length_append]
    have h1 := HL10.out
    have h2 : (encCou x.next).length ≤ 1930 := encCou_len HX.out.next HP.out.next
    omega)
   clear e11 hw11 hc11
   have c11 : w11.cell? ⟨bx, 49, none⟩ = some (.slice x.pA x.pn x.pc) := (HK11.out.cell 49).trans (x.at_49 HX.out.last)
   go_wp2_with fail
   refine (putPsts_any w11 B g _ x.pA x.pn x.pc x.ps HX.out.ps (fun p h => HP.out.ps p h) (fun m h => encPst_len (HX.out.ps m h) (HP.out.ps m h)) (fun p h => HAT11.out.pc p h) HLO.out.pc HX.out.pn (Nat.le_trans HP.out.pn (by omega)) HAT11.out.p HLO.out.p HS11.out HW11.out (by have h1 := HRM0.out; have h2 := HL11.out; have h3 := HP.out.c2; have h4 := HP.out.pn; have h5 := HP.out.an; have h6 := HON.out; have h7 := HRN.out; omega)).mono ?_
   rintro e w12 ⟨rfl, hw12, e12⟩
   have HK12 := Lib.hid (HK11.out.effT e12 (by decide))
   have HAT12 := Lib.hid (HAT11.out.eff HLO.out e12 HS11.out)
   have HS12 := Lib.hid (Nat.le_trans HS11.out e12.size)
   have HE12 := Lib.hid (HE11.out.trans e12)
   obtain ⟨cur12, hc12⟩ : ∃ c, cur11 ++ (varB x.pn ++ x.ps.flatMap encPst) = c := ⟨_, rfl⟩
   rw [hc12] at hw12
   have HW12 := Lib.hid hw12
   have HC12 := Lib.hid hc12
   have HL12 := Lib.hid (show cur12.length ≤ cur0.length + (5000 + (10 + 1950 * x.pn)) by
    rw [← hc12, List.length_append]
    have h1 := HL11.out
    have h2 : ((varB x.pn ++ x.ps.flatMap encPst)).length ≤ 10 + 1950 * x.pn := by rw [List.length_append]; have h3 := flat_le (enc := encPst) (L := 1950) (l := x.ps) (fun m h => encPst_len (HX.out.ps m h) (HP.out.ps m h)); have h4 := varB_ten (n := x.pn) (by have h4 := HP.out.pn; have h5 := HP.out.an; have h6 := HON.out; have h7 := HRN.out; unfold two64; omega); have h5 := HX.out.pn; omega
    omega)
   clear e12 hw12 hc12 c11
   have c12 : w12.cell? ⟨bx, 50, none⟩ = some (.slice x.oA x.on x.oc) := (HK12.out.cell 50).trans (x.at_50 HX.out.last)
   go_wp2_with fail
   refine (putOffs_any w12 B g _ x.oA x.on x.oc x.os HX.out.os (fun _ _ => trivial) (fun m h => encOff_len (HX.out.os m h)) HX.out.on HON.out HAT12.out.o HLO.out.o HS12.out HW12.out (by have h1 := HRM0.out; have h2 := HL12.out; have h3 := HP.out.c2; have h4 := HP.out.pn; have h5 := HP.out.an; have h6 := HON.out; have h7 := HRN.out; omega)).mono ?_
   rintro e w13 ⟨rfl, hw13, e13⟩
   have HK13 := Lib.hid (HK12.out.effT e13 (by decide))
   have HAT13 := Lib.hid (HAT12.out.eff HLO.out e13 HS12.out)
   have HS13 := Lib.hid (Nat.le_trans HS12.out e13.size)
   have HE13 := Lib.hid (HE12.out.trans e13)
   obtain ⟨cur13, hc13⟩ : ∃ c, cur12 ++ (varB x.on ++ x.os.flatMap encOff) = c := ⟨_, rfl⟩
   rw [hc13] at hw13
   have HW13 := Lib.hid hw13
   have HC13 := Lib.hid hc13
   have HL13 := Lib.hid (show cur13.length ≤ cur0.length + (5000 + (10 + 1950 * x.pn) + (10 + 20 * x.on)) by
    rw [← hc13, List.length_append]
    have h1 := HL12.out
    have h2 : ((varB x.on ++ x.os.flatMap encOff)).length ≤ 10 + 20 * x.on := by rw [List.length_append]; have h3 := flat_le (enc := encOff) (L := 20) (l := x.os) (fun m h => encOff_len (HX.out.os m h)); have h4 := varB_ten (n := x.on) (by have h4 := HP.out.pn; have h5 := HP.out.an; have h6 := HON.out; have h7 := HRN.out; unfold two64; omega); have h5 := HX.out.on; omega
    omega)
   clear e13 hw13 hc13 c12
   have c13 : w13.cell? ⟨bx, 51, none⟩ = some (.slice x.aA x.an x.ac) := (HK13.out.cell 51).trans (x.at_51 HX.out.last)
   go_wp2_with fail
   refine (putAccs_any w13 B g _ x.aA x.an x.ac x.acs HX.out.acs (fun _ _ => trivial) (fun m h => encAcc_len (HX.out.acs m h)) HX.out.an (Nat.le_trans HP.out.an (by omega)) HAT13.out.a HLO.out.a HS13.out HW13.out (by have h1 := HRM0.out; have h2 := HL13.out; have h3 := HP.out.c2; have h4 := HP.out.pn; have h5 := HP.out.an; have h6 := HON.out; have h7 := HRN.out; omega)).mono ?_
   rintro e w14 ⟨rfl, hw14, e14⟩
   have HK14 := Lib.hid (HK13.out.effT e14 (by decide))
   have HAT14 := Lib.hid (HAT13.out.eff HLO.out e14 HS13.out)
   have HS14 := Lib.hid (Nat.le_trans HS13.out e14.size)
   have HE14 := Lib.hid (HE13.out.trans e14)
   obtain ⟨cur14, hc14⟩ : ∃ c, cur13 ++ (varB x.an ++ x.acs.flatMap encAcc) = c := ⟨_, rfl⟩
   rw [hc14] at hw14
   have HW14 := Lib.hid hw14
   have HC14 := Lib.hid hc14
   have HL14 := Lib.hid (show cur14.length ≤ cur0.length + (5000 + (10 + 1950 * x.pn) + (10 + 20 * x.on) + (10 + 41 * x.an)) by
    rw [← hc14, List.length_append]
    have h1 := HL13.out
    have h2 : ((varB x.an ++ x.acs.flatMap encAcc)).length ≤ 10 + 41 * x.an := by rw [List.length_append]; have h3 := flat_le (enc := encAcc) (L := 41) (l := x.acs) (fun m h => encAcc_len (HX.out.acs m h)); have h4 := varB_ten (n := x.an) (by have h4 := HP.out.pn; have h5 := HP.out.an; have h6 := HON.out; have h7 := HRN.out; unfold two64; omega); have h5 := HX.out.an; omega
    omega)
   clear e14 hw14 hc14 c13
   have c14 : w14.cell? ⟨bx, 52, none⟩ = some (.slice x.rA x.rn x.rc) := (HK14.out.cell 52).trans (x.at_52 HX.out.last)
   go_wp2_with fail
   refine (putRlss_any w14 B g _ x.rA x.rn x.rc x.rs HX.out.rs (fun _ _ => trivial) (fun m h => encRls_len (HX.out.rs m h)) HX.out.rn HRN.out HAT14.out.r HLO.out.r HS14.out HW14.out (by have h1 := HRM0.out; have h2 := HL14.out; have h3 := HP.out.c2; have h4 := HP.out.pn; have h5 := HP.out.an; have h6 := HON.out; have h7 := HRN.out; omega)).mono ?_
   rintro e w15 ⟨rfl, hw15, e15⟩
   have HK15 := Lib.hid (HK14.out.effT e15 (by decide))
   have HAT15 := Lib.hid (HAT14.out.eff HLO.out e15 HS14.out)
   have HS15 := Lib.hid (Nat.le_trans HS14.out e15.size)
   have HE15 := Lib.hid (HE14.out.trans e15)
   obtain ⟨cur15, hc15⟩ : ∃ c, cur14 ++ (varB x.rn ++ x.rs.flatMap encRls) = c := ⟨_, rfl⟩
   rw [hc15] at hw15
   have HW15 := Lib.hid hw15
   have HC15 := Lib.hid hc15
   have HL15 := Lib.hid (show cur15.length ≤ cur0.length + (5000 + (10 + 1950 * x.pn) + (10 + 20 * x.on) + (10 + 41 * x.an) + (10 + 40 * x.rn)) by
    rw [← hc15, List.length_append]
    have h1 := HL14.out
    have h2 : ((varB x.rn ++ x.rs.flatMap encRls)).length ≤ 10 + 40 * x.rn := by rw [List.length_append]; have h3 := flat_le (enc := encRls) (L := 40) (l := x.rs) (fun m h => encRls_len (HX.out.rs m h)); have h4 := varB_ten (n := x.rn) (by have h4 := HP.out.pn; have h5 := HP.out.an; have h6 := HON.out; have h7 := HRN.out; unfold two64; omega); have h5 := HX.out.rn; omega
    omega)
   clear e15 hw15 hc15 c14
   have c15 : w15.cell? ⟨bx, 53, none⟩ = some (.int .u64 x.burnt) := (HK15.out.cell 53).trans (x.at_53 HX.out.last)
   go_wp2_with fail
   refine (var_int w15 B g _ x.burnt HW15.out HX.out.burnt.1 (by have := HX.out.burnt.2; unfold two64; omega) (by have h1 := HRM0.out; have h2 := HL15.out; have h3 := HP.out.c2; have h4 := HP.out.pn; have h5 := HP.out.an; have h6 := HON.out; have h7 := HRN.out; omega)).mono ?_
   rintro e w16 ⟨rfl, hw16, e16⟩
   have HK16 := Lib.hid (HK15.out.effT e16 (by decide))
   have HAT16 := Lib.hid (HAT15.out.eff HLO.out e16 HS15.out)
   have HS16 := Lib.hid (Nat.le_trans HS15.out e16.size)
   have HE16 := Lib.hid (HE15.out.trans e16)
   obtain ⟨cur16, hc16⟩ : ∃ c, cur15 ++ varB x.burnt.toNat = c := ⟨_, rfl⟩
   rw [hc16] at hw16
   have HW16 := Lib.hid hw16
   have HC16 := Lib.hid hc16
   have HL16 := Lib.hid (show cur16.length ≤ cur0.length + (5000 + (10 + 1950 * x.pn) + (10 + 20 * x.on) + (10 + 41 * x.an) + (10 + 40 * x.rn) + 10) by
    rw [← hc16, List.length_append]
    have h1 := HL15.out
    have h2 : (varB x.burnt.toNat).length ≤ 10 := varB_int (n := x.burnt) HX.out.burnt.1 (by have := HX.out.burnt.2; unfold two64; omega)
    omega)
   clear e16 hw16 hc16 c15
   have c16 : w16.cell? ⟨bx, 54, none⟩ = some (.int .u64 x.supply) := (HK16.out.cell 54).trans (x.at_54 HX.out.last)
   go_wp2_with fail
   refine (var_int w16 B g _ x.supply HW16.out HX.out.supply.1 (by have := HX.out.supply.2; unfold two64; omega) (by have h1 := HRM0.out; have h2 := HL16.out; have h3 := HP.out.c2; have h4 := HP.out.pn; have h5 := HP.out.an; have h6 := HON.out; have h7 := HRN.out; omega)).mono ?_
   rintro e w17 ⟨rfl, hw17, e17⟩
   have HK17 := Lib.hid (HK16.out.effT e17 (by decide))
   have HAT17 := Lib.hid (HAT16.out.eff HLO.out e17 HS16.out)
   have HS17 := Lib.hid (Nat.le_trans HS16.out e17.size)
   have HE17 := Lib.hid (HE16.out.trans e17)
   obtain ⟨cur17, hc17⟩ : ∃ c, cur16 ++ varB x.supply.toNat = c := ⟨_, rfl⟩
   rw [hc17] at hw17
   have HW17 := Lib.hid hw17
   have HC17 := Lib.hid hc17
   have HL17 := Lib.hid (show cur17.length ≤ cur0.length + (5000 + (10 + 1950 * x.pn) + (10 + 20 * x.on) + (10 + 41 * x.an) + (10 + 40 * x.rn) + 20) by
    rw [← hc17, List.length_append]
    have h1 := HL16.out
    have h2 : (varB x.supply.toNat).length ≤ 10 := varB_int (n := x.supply) HX.out.supply.1 (by have := HX.out.supply.2; unfold two64; omega)
    omega)
   clear e17 hw17 hc17 c16
   go_wp2
   go_end0
   refine ⟨rfl, ?_, HE17.out⟩
   have hf : bs ++ formSta x = cur17 := by
    rw [← HC17.out, ← HC16.out, ← HC15.out, ← HC14.out, ← HC13.out, ← HC12.out, ← HC11.out, ← HC10.out, ← HC9.out, ← HC8.out, ← HC7.out, ← HC6.out, ← HC5.out, ← HC4.out, ← HC3.out, ← HC2.out, ← HC1.out, HC0.out]
    unfold formSta encPar
    simp [encU]
   rw [hf]
   exact HW17.out
end Go.Proofs.YtlhnhjglcbggmaaGreatRR

/-
  Marks and certificates laid down: Count, putCert$1, putList of marks, putCert. Conditions: what is laid down is plain; the Writer has room; the marks lie below the Writer.
  PlainCert. Conditions: each number fits its kind; the marks lie in the world.
-/
import Derived.Test.YtlhnhjglcbggmaaGreatRRY06
namespace Go.Proofs.YtlhnhjglcbggmaaGreatRR
set_option linter.unusedSimpArgs false
set_option linter.unusedVariables false
open Go.RowKit
set_option maxRecDepth 100000

theorem rd_eff {w w' : World} {A : Option Addr} {xs : List Value} {B : Nat} {ts : List TypeId} (h : Rd w A xs) (e : Eff B ts w w') (hB : B ≤ w.heap.size) (hA : ∀ ad, A = some ad → xs ≠ [] → ad.block < B) : Rd w' A xs := fun j u hu => by
 obtain ⟨ad, ha, hc⟩ := h j u hu
 have hne : xs ≠ [] := by rintro rfl; simp at hu
 have hb := hA ad ha hne
 have hk := e.block ad.block (by omega) (.inl hb)
 refine ⟨ad, ha, ?_⟩
 rw [← hc]
 have hblk : (ad.add j).block = ad.block := by unfold Addr.add; split <;> rfl
 unfold World.cell?
 rw [hblk, hk]
structure MkB (m : Mk) : Prop where
 i1 : 0 ≤ m.idx
 i2 : m.idx < 64
 t1 : 0 ≤ m.time
 t2 : m.time ≤ 1125899906842624
def encMk (m : Mk) : List UInt8 := varB m.idx.toNat ++ varB m.time.toNat ++ m.sl
theorem encMk_len {m : Mk} (hm : m.ok) (hp : MkB m) : (encMk m).length ≤ 36 := by
 obtain ⟨i1, i2, t1, t2⟩ := hp
 have l1 := varB_int (n := m.idx) (by omega) (by unfold two64; omega)
 have l2 := varB_int (n := m.time) (by omega) (by unfold two64; omega)
 have l3 := hm.sl
 simp only [encMk, List.length_append]
 omega

set_option maxHeartbeats 400000 in
theorem count_any (w : World) (B g : Nat) (bs : List UInt8) (n : Nat) (h : Wr w B g bs) (hn : n ≤ 1000000000000) (hb : bs.length + 10 ≤ room46) :
  Calls Tryz.prog 139 #[.pointer (some ⟨g, 0, none⟩), .int .i64 (n : Int)] w fun e w' => e = .returned (.tuple #[]) ∧ Wr w' B g (bs ++ varB n) ∧ Eff B WrT w w' := by
 go_enter Tryz.func139, Tryz.ntmps139
 have p0 : ¬ ((n : Int) < 0) := by omega
 have p1 : IntKind.u64.wrap (n : Int) = n := by rw [IntKind.wrap_u64]; omega
 go_wp2_with (first
  | (go_at_call 143; refine (live_any _ B g bs h).mono ?_; rintro e w' ⟨rfl, rfl⟩)
  | (go_at_call 59; go_must (refine (var_any _ B g bs n h (by unfold two64; omega) hb).mono ?_); rintro e w' ⟨rfl, hw, he⟩))
 go_end0
 exact ⟨rfl, hw, he⟩

theorem Mk.cl_sl (m : Mk) (j : Nat) (u : Value) (h : (bv m.sl)[j]? = some u) : m.cl.toArray[2 + j]? = some u := by
 rw [List.getElem?_toArray, Mk.cl, List.getElem?_append_right (by simp)]
 simpa using h
set_option maxHeartbeats 400000 in
theorem putMk_any (w : World) (B g : Nat) (bs : List UInt8) (m : Mk) (hm : m.ok) (hp : MkB m) (hw : Wr w B g bs) (hb : bs.length + 100 ≤ room46) :
  Calls Tryz.prog 87 #[.pointer (some ⟨g, 0, none⟩), .agg m.cl.toArray] w fun e w' => e = .returned (.tuple #[]) ∧ Wr w' B g (bs ++ encMk m) ∧ Eff B WrT w w' := by
 obtain ⟨i1, i2, t1, t2⟩ := hp
 have l1 := varB_int (n := m.idx) (by omega) (by unfold two64; omega)
 have l2 := varB_int (n := m.time) (by omega) (by unfold two64; omega)
 have LS := Lib.hid hm.sl
 have HML := Lib.hid (m.cl_len hm)
 have p1 : IntKind.u64.wrap m.idx = m.idx := by rw [IntKind.wrap_u64]; omega
 go_enter Tryz.func87, Tryz.ntmps87
 go_wp2_with (refine wpList_box_bk rfl _ _ rfl _ rfl ?_)
 intro bx w1 hk1 hbl hg hs
 clear hg hs
 have hw1 := hw.below hbl
 have c0 : w1.cell? ⟨bx, 0, none⟩ = some (.int .i64 m.idx) := hk1.cell 0
 go_wp2_with fail
 refine (var_int _ B g bs m.idx hw1 (by omega) (by unfold two64; omega) (by omega)).mono ?_
 rintro e w2 ⟨rfl, hw2, e2⟩
 have hk2 := hk1.effT e2 (by decide)
 have c1 : w2.cell? ⟨bx, 1, none⟩ = some (.int .u64 m.time) := hk2.cell 1
 go_wp2_with fail
 refine (var_int _ B g _ m.time hw2 (by omega) (by unfold two64; omega) (by simp only [List.length_append]; omega)).mono ?_
 rintro e w3 ⟨rfl, hw3, e3⟩
 have hk3 := hk2.effT e3 (by decide)
 have hr3 : Rd w3 (some ⟨bx, 2, none⟩) (bv m.sl) := Rd.of_bk hk3 2 _ (fun j u hu => m.cl_sl j u hu)
 go_wp2_with fail
 refine (raw_any _ B g _ m.sl _ 16 16 hw3 hr3 LS.out (by simp only [List.length_append]; omega)).mono ?_
 rintro e w4 ⟨rfl, hw4, e4⟩
 go_wp2
 go_end0
 refine ⟨rfl, ?_, (Eff.of_below hbl _ _).trans (e2.trans (e3.trans e4))⟩
 unfold encMk
 simpa only [List.append_assoc] using hw4
theorem take_mks (ms : List Mk) (k : Nat) (hk : k < ms.length) : (ms.take (k + 1)).flatMap encMk = (ms.take k).flatMap encMk ++ encMk ms[k] := by
 rw [List.take_succ_eq_append_getElem hk, List.flatMap_append]; simp
theorem mks_len {ms : List Mk} (hm : ∀ m ∈ ms, m.ok) (hp : ∀ m ∈ ms, MkB m) : ∀ k, ((ms.take k).flatMap encMk).length ≤ 36 * k := by
 intro k
 induction k with
 | zero => simp
 | succ k ih =>
  rcases Nat.lt_or_ge k ms.length with h | h
  ·rw [take_mks ms k h, List.length_append]
   have := encMk_len (hm _ (List.getElem_mem h)) (hp _ (List.getElem_mem h))
   omega
  ·rw [List.take_of_length_le (by omega)]
   rw [List.take_of_length_le (by omega)] at ih
   omega
theorem add_add_k (ad : Addr) (k j : Nat) : (ad.add (k * 18)).add j = ad.add (18 * k + j) := by
 rw [show 18 * k + j = k * 18 + j by omega]
 unfold Addr.add
 split <;> split <;> simp_all <;> omega
def zeroMk : List Value := [.int .i64 0, .int .u64 0] ++ bv (zer 16)
theorem zeroMk_sz : zeroMk.toArray.size = 18 := by rw [List.size_toArray, zeroMk, List.length_append, bv_length]; rfl
theorem zero_Mk : (Tryz.prog.info? 139).bind (·.zero) = some (.agg zeroMk.toArray) := by kernel_rfl
theorem mk_one (m : Mk) : ∀ u ∈ (Value.agg m.cl.toArray).cells.toList, u.oneCell' = true := by
 intro u hu
 simp only [Value.cells, Mk.cl, List.mem_append, List.mem_cons, List.not_mem_nil, or_false] at hu
 rcases hu with (rfl | rfl) | hu
 ·rfl
 ·rfl
 ·exact bv_one m.sl u (by simpa [Value.cells] using hu)
set_option maxHeartbeats 1000000 in
theorem putMks_any (w : World) (B g : Nat) (bs : List UInt8) (A : Option Addr) (n c : Nat) (ms : List Mk) (hm : ∀ m ∈ ms, m.ok) (hp : ∀ m ∈ ms, MkB m) (hn : n = ms.length) (hl : n ≤ 64) (hr : Rd w A (ms.flatMap Mk.cl)) (hA : ∀ ad, A = some ad → ms.flatMap Mk.cl ≠ [] → ad.block < B) (hB : B ≤ w.heap.size) (hw : Wr w B g bs) (hb : bs.length + 4000 ≤ room46) :
  Calls Tryz.prog 86 #[.pointer (some ⟨g, 0, none⟩), .slice A n c, .func (.func 87) #[] #[]] w fun e w' => e = .returned (.tuple #[]) ∧ Wr w' B g (bs ++ (varB n ++ ms.flatMap encMk)) ∧ Eff B WrT w w' := by
 have HM := Lib.hid hm
 have HP := Lib.hid hp
 have HN := Lib.hid hn
 have HA := Lib.hid hA
 have HR := Lib.hid hr
 have HL := Lib.hid (mks_len hm hp)
 have hv := varB_ten (n := n) (by unfold two64; omega)
 clear hm hp hn hA hr
 go_enter Tryz.func86, Tryz.ntmps86
 go_wp2_with (go_at_call 139; go_must (refine (count_any _ B g bs n hw (by omega) (by omega)).mono ?_); rintro e w1 ⟨rfl, hw1, e1⟩)
 have HW1 := Lib.hid hw1
 have HE1 := Lib.hid e1
 have HR1 := Lib.hid (rd_eff HR.out e1 hB HA.out)
 clear hw1 e1
 go_loopw [14] (fun i wr => ∃ k : Nat, k ≤ n ∧ i = .int .i64 k ∧ Wr wr B g (bs ++ varB n ++ (ms.take k).flatMap encMk) ∧ Rd wr A (ms.flatMap Mk.cl) ∧ Eff B WrT w wr) (fun i _ => n - (intOf i).toNat)
 case atStart => exact ⟨0, by omega, rfl, by simpa using HW1.out, HR1.out, HE1.out⟩
 case round =>
  clear HW1 HE1 HR1
  obtain ⟨k, hk, rfl, hw2, hr2, e2⟩ := hrel
  have HW2 := Lib.hid hw2
  have HR2 := Lib.hid hr2
  have HE2 := Lib.hid e2
  clear hw2 hr2 e2
  by_cases hlt : k < n
  ·have hkl : k < ms.length := by rw [← HN.out]; exact hlt
   obtain ⟨m, hmk⟩ : ∃ m, ms[k] = m := ⟨_, rfl⟩
   have hmem : m ∈ ms := by rw [← hmk]; exact List.getElem_mem hkl
   have HMO := Lib.hid (HM.out m hmem)
   have HMP := Lib.hid (HP.out m hmem)
   have HT := Lib.hid (show (ms.take (k + 1)).flatMap encMk = (ms.take k).flatMap encMk ++ encMk m by rw [take_mks ms k hkl, hmk])
   obtain ⟨ad, hA, hcell⟩ : ∃ ad, A = some ad ∧ ∀ j u, m.cl[j]? = some u → wr.cell? (ad.add (18 * k + j)) = some u := by
    have h0 := mk_at ms HM.out k hkl 0 (.int .i64 (ms[k]).idx) rfl
    obtain ⟨ad, ha, _⟩ := HR2.out _ _ h0
    refine ⟨ad, ha, fun j u hu => ?_⟩
    obtain ⟨ad', ha', hc⟩ := HR2.out _ _ (mk_at ms HM.out k hkl j u (by rw [hmk]; exact hu))
    rw [ha] at ha'; injection ha' with ha'; rw [ha']; exact hc
   subst hA
   have HC := Lib.hid hcell
   clear hcell hmem hmk
   have hi1 : (k : Int) < n := by omega
   go_wp2_with (first
    | (with_reducible show wpList _ _ _ (Oper.mk (some 17) (Op.load 139 _) _ _ _ _ :: _) _ _; go_must (refine wpList_load_at rfl 139 _ rfl (ad.add (k * 18)) 18 rfl m.cl (fun j u hu => by rw [add_add_k]; exact HC.out j u hu) _ Tryz.underlying139 rfl info_Mk (m.cl_len HMO.out) ?_))
    | (with_reducible show wpList _ _ _ (Oper.mk _ (Op.alloc _) _ _ _ _ :: _) _ _; refine wpList_alloc_i rfl 139 rfl (.agg zeroMk.toArray) zero_Mk ?_))
   intro r w6 h6 hl6 hg6 hs6
   have H6 := Lib.hid h6
   have HL6 := Lib.hid hl6
   have HG6 := Lib.hid hg6
   have HSZ := Lib.hid (show m.cl.toArray.size = 18 by rw [List.size_toArray, m.cl_len HMO.out])
   clear h6 hl6 hg6 hs6
   go_wp2_with (with_reducible show wpList _ _ _ (Oper.mk _ (Op.store 139 _ _) _ _ _ _ :: _) _ _; go_must (refine wpList_store_bk rfl 139 _ _ rfl r rfl (.agg m.cl.toArray) rfl _ _ H6.out (by rw [agg_sz HSZ.out]; exact info_Mk) (by rw [agg_sz HSZ.out]; exact zeroMk_sz.symm) (mk_one m) ?_))
   intro w7 h7 hg7 hs7
   have HL7 := Lib.hid (below_grown2 HL6.out hg7 HG6.out HL6.out.size)
   have H7 := Lib.hid (show Bk w7 r m.cl.toArray 139 from h7)
   have HW7 := Lib.hid (HW2.out.below HL7.out)
   have HR7 := Lib.hid (HR2.out.below HL7.out)
   have HS7 := Lib.hid (show B ≤ w7.heap.size by have := HE2.out.size; have := HL7.out.size; omega)
   clear h7 hg7 hs7
   go_wp2_with (with_reducible show wpList _ _ _ (Oper.mk (some 20) (Op.load 139 _) _ _ _ _ :: _) _ _; go_must (refine wpList_load_part rfl 139 _ rfl r 0 18 rfl _ _ _ H7.out Tryz.underlying139 rfl info_Mk (by rw [HSZ.out]; omega) m.cl.toArray (arr_all HSZ.out) ?_); go_wp2_with fail)
   refine (putMk_any _ B g _ m HMO.out HMP.out HW7.out (by simp only [List.length_append]; have := HL.out k; omega)).mono ?_
   rintro e w8 ⟨rfl, hw8, e8⟩
   have HW8 := Lib.hid hw8
   have HR8 := Lib.hid (rd_eff HR7.out e8 HS7.out HA.out)
   have HE8 := Lib.hid (HE2.out.trans ((Eff.of_below HL7.out _ _).trans e8))
   clear hw8 e8
   go_wp2
   go_round
   case rel => exact ⟨k + 1, by omega, by go_num, by rw [HT.out, ← List.append_assoc]; exact HW8.out, HR8.out, HE8.out⟩
   case measure => simp [intOf]; omega
  ·have hk7 : k = n := by omega
   subst hk7
   have HT := Lib.hid (show ms.take k = ms from List.take_of_length_le (by rw [HN.out]; exact Nat.le_refl _))
   rw [HT.out] at HW2
   go_wp2
   go_end0
   refine ⟨rfl, ?_, HE2.out⟩
   simpa only [List.append_assoc] using HW2.out

-- ---- a whole certificate
def encCrt (x : Crt) : List UInt8 := varB x.height.toNat ++ varB x.round.toNat ++ x.id ++ varB x.n ++ x.ms.flatMap encMk
structure CrtB (x : Crt) : Prop where
 h1 : 0 ≤ x.height
 h2 : x.height ≤ 1099511627776
 r1 : 0 ≤ x.round
 r2 : x.round ≤ 65535
 n : x.n ≤ 64
 ms : ∀ m ∈ x.ms, MkB m
theorem encCrt_len {x : Crt} (hx : x.ok) (hp : CrtB x) : (encCrt x).length ≤ 2400 := by
 obtain ⟨h1, h2, r1, r2, n, ms⟩ := hp
 have lh := varB_int (n := x.height) (by omega) (by unfold two64; omega)
 have lr := varB_int (n := x.round) (by omega) (by unfold two64; omega)
 have lv := varB_ten (n := x.n) (by unfold two64; omega)
 have lm := mks_len hx.ms ms x.ms.length
 rw [List.take_of_length_le (Nat.le_refl _)] at lm
 have li := hx.id
 have hn := hx.n
 simp only [encCrt, List.length_append]
 omega

set_option maxHeartbeats 1000000 in
theorem putCert_any (w : World) (B g : Nat) (bs : List UInt8) (x : Crt) (hx : x.ok) (hp : CrtB x) (hr : x.at w) (hA : ∀ ad, x.A = some ad → x.ms.flatMap Mk.cl ≠ [] → ad.block < B) (hB : B ≤ w.heap.size) (hw : Wr w B g bs) (hb : bs.length + 5000 ≤ room46) :
  Calls Tryz.prog 40 #[.pointer (some ⟨g, 0, none⟩), .agg x.cl.toArray] w fun e w' => e = .returned (.tuple #[]) ∧ Wr w' B g (bs ++ encCrt x) ∧ Eff B WrT w w' := by
 obtain ⟨h1, h2, r1, r2, hn64, hms⟩ := hp
 have lh := varB_int (n := x.height) (by omega) (by unfold two64; omega)
 have lr := varB_int (n := x.round) (by omega) (by unfold two64; omega)
 have p1 : IntKind.u64.wrap x.round = x.round := by rw [IntKind.wrap_u64]; omega
 have HX := Lib.hid hx
 have HMS := Lib.hid hms
 have Li := Lib.hid hx.id
 have HA := Lib.hid hA
 have HR := Lib.hid (show Rd w x.A (x.ms.flatMap Mk.cl) from hr)
 clear hr hA hms
 go_enter Tryz.func40, Tryz.ntmps40
 go_wp2_with (refine wpList_box_bk rfl _ _ rfl _ rfl ?_)
 intro bx w1 hk hbl hg hs
 clear hg hs
 have hw1 := hw.below hbl
 have HR1 := Lib.hid (HR.out.below hbl)
 have HS1 := Lib.hid (Nat.le_trans hB hbl.size)
 have c0 : w1.cell? ⟨bx, 0, none⟩ = some (.int .u64 x.height) := hk.cell 0
 go_wp2_with fail
 refine (var_int _ B g bs x.height hw1 (by omega) (by unfold two64; omega) (by omega)).mono ?_
 rintro e w2 ⟨rfl, hw2, e2⟩
 have hk2 := hk.effT e2 (by decide)
 have c1 : w2.cell? ⟨bx, 1, none⟩ = some (.int .i64 x.round) := hk2.cell 1
 go_wp2_with fail
 refine (var_int _ B g _ x.round hw2 (by omega) (by unfold two64; omega) (by simp only [List.length_append]; omega)).mono ?_
 rintro e w3 ⟨rfl, hw3, e3⟩
 have hk3 := hk2.effT e3 (by decide)
 go_wp2_with (refine wpList_load_part rfl 29 _ rfl bx 2 32 rfl _ _ _ hk3 Tryz.underlying29 rfl info_hash (by have := x.cl_len hx; simp [this]) _ (x.cl_id hx.id) ?_)
 refine (putHash_any _ B g _ x.id hw3 Li.out (by simp only [List.length_append]; omega)).mono ?_
 rintro e w4 ⟨rfl, hw4, e4⟩
 have hk4 := hk3.effT e4 (by decide)
 have c2 : w4.cell? ⟨bx, 34, none⟩ = some (.slice x.A x.n x.c) := (hk4.cell 34).trans (x.cl_34 hx.id)
 have HE4 := Lib.hid (e2.trans (e3.trans e4))
 have HR4 := Lib.hid (rd_eff HR1.out HE4.out HS1.out HA.out)
 have HS4 := Lib.hid (Nat.le_trans HS1.out HE4.out.size)
 go_wp2_with fail
 refine (putMks_any _ B g _ x.A x.n x.c x.ms HX.out.ms HMS.out HX.out.n hn64 HR4.out HA.out HS4.out hw4 (by simp only [List.length_append, Li.out]; omega)).mono ?_
 rintro e w5 ⟨rfl, hw5, e5⟩
 go_wp2
 go_end0
 refine ⟨rfl, ?_, (Eff.of_below hbl _ _).trans (HE4.out.trans e5)⟩
 unfold encCrt
 simpa only [List.append_assoc] using hw5
end Go.Proofs.YtlhnhjglcbggmaaGreatRR
namespace Go.Proofs.YtlhnhjglcbggmaaGreatRR
set_option linter.unusedSimpArgs false
set_option linter.unusedVariables false
open Go.RowKit
set_option maxRecDepth 100000

def mkErr (m : Mk) : Int := firstErr [field (decide (m.idx < 0) || decide (64 ≤ m.idx)), moment m.time]
def plainMks : Option Int → List Mk → Int
 | _, [] => 0
 | p, m :: ms => if mkErr m ≠ 0 then mkErr m else if (match p with | some q => decide (m.idx ≤ q) | none => false) = true then 42 else plainMks (some m.idx) ms
def headC (x : Crt) : Int := firstErr [height x.height, round x.round, field (x.id == zeros 32)]
def plainCrt (x : Crt) : Int := if zeroC x = true then 0 else if headC x ≠ 0 then headC x else if 64 < (x.n : Int) then 4 else plainMks none x.ms
def prevK (ms : List Mk) (k : Nat) : Option Int := if k = 0 then none else (ms[k - 1]?).map (·.idx)
theorem plainMks_cons (p : Option Int) (m : Mk) (ms : List Mk) : plainMks p (m :: ms) = if mkErr m ≠ 0 then mkErr m else if (match p with | some q => decide (m.idx ≤ q) | none => false) = true then 42 else plainMks (some m.idx) ms := by cases p <;> rfl
theorem plainMks_drop {ms : List Mk} {k : Nat} (hk : k < ms.length) (p : Option Int) : plainMks p (ms.drop k) = if mkErr ms[k] ≠ 0 then mkErr ms[k] else if (match p with | some q => decide (ms[k].idx ≤ q) | none => false) = true then 42 else plainMks (prevK ms (k + 1)) (ms.drop (k + 1)) := by
 rw [List.drop_eq_getElem_cons hk, plainMks_cons]
 have e : prevK ms (k + 1) = some ms[k].idx := by unfold prevK; rw [if_neg (by omega), show k + 1 - 1 = k by omega, List.getElem?_eq_getElem hk]; rfl
 rw [e]

set_option maxHeartbeats 4000000 in
theorem plainCrt_any (w : World) (x : Crt) (hx : x.ok) (hr : x.at w) :
  Calls Tryz.prog 39 #[.agg x.cl.toArray] w fun e w' => e = .returned (.int .i64 (plainCrt x)) ∧ Below w.heap.size w w' := by
 have HX := Lib.hid hx
 have HLN := Lib.hid (x.cl_len hx)
 have HR := Lib.hid (show Rd w x.A (x.ms.flatMap Mk.cl) from hr)
 obtain ⟨Z, hZ⟩ : ∃ Z, zeroC x = Z := ⟨_, rfl⟩
 obtain ⟨E, hE⟩ : ∃ E, headC x = E := ⟨_, rfl⟩
 obtain ⟨R, hRR⟩ : ∃ R, plainCrt x = R := ⟨_, rfl⟩
 have hRe : R = if Z = true then 0 else if E ≠ 0 then E else if 64 < (x.n : Int) then 4 else plainMks none x.ms := by rw [← hRR, plainCrt, hZ, hE]
 rw [hRR]
 have HRE := Lib.hid hRe
 have HZ := Lib.hid hZ
 have HE := Lib.hid hE
 clear hRR hRe hZ hE hx hr
 go_enter Tryz.func39, Tryz.ntmps39
 go_wp2_with (first
  | (with_reducible show wpList _ _ _ (Oper.mk _ (Op.box _ _) _ _ _ _ :: _) _ _; refine wpList_box_bk rfl _ _ rfl _ rfl ?_; intro g w1 hb hbl hg hs; have HK1 := Lib.hid (bk_eqT (cs' := x.cl.toArray) hb rfl); have HB1 := Lib.hid hbl; clear hb hbl hg hs)
  | (with_reducible show wpList _ _ _ (Oper.mk (some 7) (Op.load _ _) _ _ _ _ :: _) _ _; refine wpList_load_part rfl 36 _ rfl g 0 35 rfl _ _ _ HK1.out Tryz.underlying36 rfl info_Crt (by simp [HLN.out]) _ (cl_all35 HLN.out) ?_))
 refine (zeroCert_any w1 x HX.out).mono ?_
 rintro e w2 ⟨rfl, e2⟩
 rw [HZ.out]
 have HB2 := Lib.hid (HB1.out.trans (e2.mono HB1.out.size))
 have HK2 := Lib.hid (HK1.out.below e2 HK1.out.lt)
 have HR2 := Lib.hid (HR.out.below HB2.out)
 clear e2 HB1 HK1 HR
 cases Z
 case true =>
  go_wp2
  go_ret
  exact ⟨ret_i64 (by rw [HRE.out]; rfl), HB2.out⟩
 case false =>
  have c0 : w2.cell? ⟨g, 0, none⟩ = some (.int .u64 x.height) := HK2.out.cell 0
  have c1 : w2.cell? ⟨g, 1, none⟩ = some (.int .i64 x.round) := HK2.out.cell 1
  go_wp2_with fail
  refine wp_region_still_tail 11 (by kernel_rfl) (by kernel_rfl) ?_
  simp only [List.take_succ_cons, List.take_zero, List.drop_succ_cons, List.drop_zero]
  refine still_quiet _ _ ?_
  repeat (first | go_big_quiet_skip | (go_big_quiet_want; first
    | (refine quiet_load_part 29 _ rfl g 2 32 rfl _ _ _ (fun wx hw => by subst hw; exact HK2.out) Tryz.underlying29 rfl info_hash (by simp [HLN.out]) _ (x.cl_id HX.out.id) ?_; go_simp; go_big_quiet_on)
    | (refine quiet_eql_flat 29 _ _ _ rfl (bv x.id) (bv (zeros 32)) rfl rfl 2 _ flat_hash (by omega) agg_hash guard_hash (fits_hash HX.out.id) (fits_hash rfl) _ (bv_iff rfl) ?_; go_simp; go_big_quiet_on)
    | (go_big_quiet_op; first | go_big_quiet_on | (apply Exists.intro; refine ⟨still_of (by first | (go_at_call 75; exact field_any _ _) | (go_at_call 72; exact height_any _ _) | (go_at_call 73; exact round_any _ _)), ?_⟩; go_big_quiet_on))))
  refine wpQuiet_nil ?_
  change wpList _ _ _ _ _ w2.drew
  go_wp2_with fail
  refine (all_any _ _ 3 3 [_, _, _] (rd_errs w2.drew _ [_, _, _] rfl) rfl (by omega)).mono ?_
  rintro e w3 ⟨rfl, hw3⟩
  rw [show firstErr [height x.height, round x.round, field (x.id == zeros 32)] = E from HE.out]
  have hb3 : Below w2.heap.size w2 w3 := by rw [← hw3]; exact ((Below.refl _ _).drew).alloc (Nat.le_refl _) _
  have HB3 := Lib.hid (HB2.out.trans (hb3.mono HB2.out.size))
  have HK3 := Lib.hid (HK2.out.below hb3 HK2.out.lt)
  have HR3 := Lib.hid (HR2.out.below hb3)
  clear hb3 hw3 c0 c1 HB2 HK2 HR2
  by_cases he : E = 0
  ·have f1 : (E != 0) = false := by simp [he]
   have f2 : (E == 0) = true := by simp [he]
   have HE0 := Lib.hid he
   clear he
   have c2 : w3.cell? ⟨g, 34, none⟩ = some (.slice x.A x.n x.c) := (HK3.out.cell 34).trans (x.cl_34 HX.out.id)
   by_cases hn : 64 < (x.n : Int)
   ·have HN := Lib.hid hn
    go_wp2
    go_ret
    exact ⟨ret_i64 (by rw [HRE.out, if_neg (by decide), if_neg (by rw [HE0.out]; decide), if_pos HN.out]), HB3.out⟩
   ·have HN := Lib.hid hn
    have HRP := Lib.hid (show R = plainMks none x.ms by rw [HRE.out, if_neg (by decide), if_neg (by rw [HE0.out]; decide), if_neg HN.out])
    obtain ⟨n, hnn⟩ : ∃ n, x.n = n := ⟨_, rfl⟩
    obtain ⟨cp, hcp⟩ : ∃ cp, x.c = cp := ⟨_, rfl⟩
    obtain ⟨A, hAA⟩ : ∃ A, x.A = A := ⟨_, rfl⟩
    obtain ⟨ms, hms⟩ : ∃ ms, x.ms = ms := ⟨_, rfl⟩
    have HNM := Lib.hid (show n = ms.length by rw [← hnn, ← hms]; exact HX.out.n)
    have HMO := Lib.hid (show ∀ m ∈ ms, m.ok by rw [← hms]; exact HX.out.ms)
    rw [hnn, hcp, hAA] at c2
    rw [hAA, hms] at HR3
    rw [hms] at HRP
    have hn64 : n ≤ 64 := by omega
    have HC34 := Lib.hid (show x.cl.toArray[34]? = some (.slice A n cp) by rw [x.cl_34 HX.out.id, hnn, hcp, hAA])
    have hn' : ¬ 64 < (n : Int) := by omega
    clear hn hnn hcp hAA hms
    go_wp2
    go_loopw [32] (fun i wr => ∃ k : Nat, k ≤ n ∧ i = .int .i64 k ∧ plainMks (prevK ms k) (ms.drop k) = R ∧ Bk wr g x.cl.toArray 36 ∧ Rd wr A (ms.flatMap Mk.cl) ∧ Below w.heap.size w wr) (fun i _ => n - (intOf i).toNat)
    case atStart => exact ⟨0, by omega, rfl, HRP.out.symm, HK3.out, HR3.out, HB3.out⟩
    case round =>
     clear HK3 HR3 HB3 HRP c2
     obtain ⟨k, hk, rfl, hp4, hk4, hr4, hb4⟩ := hrel
     have HP4 := Lib.hid hp4
     have HK4 := Lib.hid hk4
     have HR4 := Lib.hid hr4
     have HB4 := Lib.hid hb4
     clear hp4 hk4 hr4 hb4
     by_cases hlt : k < n
     ·have hkl : k < ms.length := by rw [← HNM.out]; exact hlt
      have hd := plainMks_drop hkl (prevK ms k)
      obtain ⟨m, hmk⟩ : ∃ m, ms[k] = m := ⟨_, rfl⟩
      rw [HP4.out, hmk] at hd
      have HD := Lib.hid hd
      have HMK := Lib.hid (HMO.out m (by rw [← hmk]; exact List.getElem_mem hkl))
      obtain ⟨ad, hA, hcell⟩ : ∃ ad, A = some ad ∧ ∀ i (hi : i < ms.length) j u, (ms[i]).cl[j]? = some u → wr.cell? (ad.add (18 * i + j)) = some u := by
       have h0 := mk_at ms HMO.out k hkl 0 (.int .i64 (ms[k]).idx) rfl
       obtain ⟨ad, ha, _⟩ := HR4.out _ _ h0
       refine ⟨ad, ha, fun i hi j u hu => ?_⟩
       obtain ⟨ad', ha', hc⟩ := HR4.out _ _ (mk_at ms HMO.out i hi j u hu)
       rw [ha] at ha'; injection ha' with ha'; rw [ha']; exact hc
      subst hA
      have HC := Lib.hid (show ∀ j u, m.cl[j]? = some u → wr.cell? (ad.add (18 * k + j)) = some u by intro j u hu; exact hcell k hkl j u (by rw [hmk]; exact hu))
      have HCL := Lib.hid hcell
      clear hd hcell hmk
      have hi1 : (k : Int) < n := by omega
      go_wp2_with (first
       | (with_reducible show wpList _ _ _ (Oper.mk (some 36) (Op.load 139 _) _ _ _ _ :: _) _ _; go_must (refine wpList_load_at rfl 139 _ rfl (ad.add (k * 18)) 18 rfl m.cl (fun j u hu => by rw [add_add_k]; exact HC.out j u hu) _ Tryz.underlying139 rfl info_Mk (m.cl_len HMK.out) ?_))
       | (with_reducible show wpList _ _ _ (Oper.mk _ (Op.alloc _) _ _ _ _ :: _) _ _; refine wpList_alloc_i rfl 139 rfl (.agg zeroMk.toArray) zero_Mk ?_))
      intro r w6 h6 hl6 hg6 hs6
      have H6 := Lib.hid h6
      have HL6 := Lib.hid hl6
      have HG6 := Lib.hid hg6
      have HSZ := Lib.hid (show m.cl.toArray.size = 18 by rw [List.size_toArray, m.cl_len HMK.out])
      clear h6 hl6 hg6 hs6
      go_wp2_with (with_reducible show wpList _ _ _ (Oper.mk _ (Op.store 139 _ _) _ _ _ _ :: _) _ _; go_must (refine wpList_store_bk rfl 139 _ _ rfl r rfl (.agg m.cl.toArray) rfl _ _ H6.out (by rw [agg_sz HSZ.out]; exact info_Mk) (by rw [agg_sz HSZ.out]; exact zeroMk_sz.symm) (mk_one m) ?_))
      intro w7 h7 hg7 hs7
      have HL7 := Lib.hid (below_grown2 HL6.out hg7 HG6.out HL6.out.size)
      have H7 := Lib.hid (show Bk w7 r m.cl.toArray 139 from h7)
      clear h7 hg7 hs7 H6 HL6
      have c0 : w7.cell? ⟨r, 0, none⟩ = some (.int .i64 m.idx) := H7.out.cell 0
      have c1 : w7.cell? ⟨r, 1, none⟩ = some (.int .u64 m.time) := H7.out.cell 1
      obtain ⟨q, hq⟩ : ∃ q, decide (m.idx < 0) = q := ⟨_, rfl⟩
      have HQ := Lib.hid hq
      cases q
      all_goals
       go_wp2_with fail
       refine wp_region_still_tail 12 (by kernel_rfl) (by kernel_rfl) ?_
       simp only [List.take_succ_cons, List.take_zero, List.drop_succ_cons, List.drop_zero]
       refine still_quiet _ _ ?_
       repeat (first | go_big_quiet_skip | (go_big_quiet_want; go_big_quiet_op; first | go_big_quiet_on | (apply Exists.intro; refine ⟨still_of (by first | (go_at_call 75; exact field_any _ _) | (go_at_call 74; exact moment_any _ _)), ?_⟩; go_big_quiet_on)))
       refine wpQuiet_nil ?_
       change wpList _ _ _ _ _ w7.drew
       go_wp2_with fail
       refine (all_any _ _ 2 2 [_, _] (rd_errs w7.drew _ [_, _] rfl) rfl (by omega)).mono ?_
       rintro e w8 ⟨rfl, hw8⟩
       first
        | rw [show firstErr [field true, moment m.time] = mkErr m by unfold mkErr; rw [HQ.out]; rfl]
        | rw [show firstErr [field (decide (64 ≤ m.idx)), moment m.time] = mkErr m by unfold mkErr; rw [HQ.out]; rfl]
       have hb8 : Below w7.heap.size w7 w8 := by rw [← hw8]; exact ((Below.refl _ _).drew).alloc (Nat.le_refl _) _
       have HB8 := Lib.hid (HL7.out.trans (hb8.mono HL7.out.size))
       have H8 := Lib.hid (H7.out.below hb8 H7.out.lt)
       clear hb8 hw8 c0 c1 hq
       obtain ⟨F, hF⟩ : ∃ F, mkErr m = F := ⟨_, rfl⟩
       rw [hF]
       rw [hF] at HD
       have HFF := Lib.hid hF
       clear hF
       by_cases hf : F = 0
       ·have g1 : (F != 0) = false := by simp [hf]
        have g2 : (F == 0) = true := by simp [hf]
        have HD0 := Lib.hid (show R = if (match prevK ms k with | some q => decide (m.idx ≤ q) | none => false) = true then 42 else plainMks (prevK ms (k + 1)) (ms.drop (k + 1)) by rw [HD.out, if_neg (by simp [hf])])
        have HBW := Lib.hid (HB4.out.trans (HB8.out.mono HB4.out.size))
        have HK8 := Lib.hid (HK4.out.below HB8.out HK4.out.lt)
        have HR8 := Lib.hid (HR4.out.below HB8.out)
        have HDR := Lib.hid (show Below w8.heap.size w8 w8.drew from (Below.refl _ _).drew)
        clear hf HD
        by_cases hk0 : k = 0
        ·have HD1 := Lib.hid (show R = plainMks (prevK ms (k + 1)) (ms.drop (k + 1)) by rw [HD0.out, hk0]; rfl)
         have hk1 : decide ((0 : Int) < (k : Int)) = false := decide_eq_false (by omega)
         have hk2 : decide (0 < k) = false := decide_eq_false (by omega)
         clear hk0
         go_wp2_with fail
         refine wp_region_still_tail 13 (by kernel_rfl) (by kernel_rfl) ?_
         simp only [List.take_succ_cons, List.take_zero, List.drop_succ_cons, List.drop_zero]
         refine still_quiet _ _ ?_
         repeat (first | go_big_quiet_skip | (go_big_quiet_want; go_big_quiet_op; go_big_quiet_on))
         refine wpQuiet_nil ?_
         change wpList _ _ _ _ _ w8.drew
         go_wp2
         go_round
         case rel => first
          | exact ⟨k + 1, by omega, by go_num, HD1.out.symm, HK8.out, HR8.out, HBW.out⟩
          | exact ⟨k + 1, by omega, by go_num, HD1.out.symm, HK8.out.below HDR.out HK8.out.lt, HR8.out.below HDR.out, HBW.out.drew⟩
         case measure => simp [intOf]; omega
        ·have hk1 : decide ((0 : Int) < (k : Int)) = true := decide_eq_true (by omega)
         have hk2 : decide (0 < k) = true := decide_eq_true (by omega)
         have hkp : k - 1 < ms.length := by omega
         obtain ⟨pm, hpm⟩ : ∃ pm, ms[k - 1] = pm := ⟨_, rfl⟩
         have hpv : prevK ms k = some pm.idx := by unfold prevK; rw [if_neg hk0, List.getElem?_eq_getElem hkp, hpm]; rfl
         have c0 : w8.cell? ⟨r, 0, none⟩ = some (.int .i64 m.idx) := H8.out.cell 0
         have c2 : w8.cell? ⟨g, 34, none⟩ = some (.slice (some ad) n cp) := (HK8.out.cell 34).trans HC34.out
         have c3 : w8.cell? (ad.add ((k - 1) * 18)) = some (.int .i64 pm.idx) := by
          obtain ⟨ad', ha', h1⟩ := HR8.out _ _ (mk_at ms HMO.out (k - 1) hkp 0 (.int .i64 (ms[k - 1]).idx) rfl)
          injection ha' with ha'
          rw [hpm, Nat.add_zero, Nat.mul_comm, ← ha'] at h1
          exact h1
         have p1 : IntKind.i64.wrap ((k : Int) - 1) = (k : Int) - 1 := by rw [IntKind.wrap_i64]; omega
         have p2 : ((k : Int) - 1).toNat = k - 1 := by omega
         have p3 : (0 : Int) ≤ (k : Int) - 1 := by omega
         have p4 : (k : Int) - 1 < n := by omega
         have p5 : k - 1 < n := by omega
         obtain ⟨b, hb⟩ : ∃ b, decide (m.idx ≤ pm.idx) = b := ⟨_, rfl⟩
         have HD1 := Lib.hid (show R = if b = true then 42 else plainMks (prevK ms (k + 1)) (ms.drop (k + 1)) by rw [HD0.out, hpv]; simp only [hb])
         have HBB := Lib.hid hb
         clear hpv hpm hk0
         cases b
         ·go_wp2_with fail
          refine wp_region_still_tail 13 (by kernel_rfl) (by kernel_rfl) ?_
          simp only [List.take_succ_cons, List.take_zero, List.drop_succ_cons, List.drop_zero]
          refine still_quiet _ _ ?_
          repeat (first | go_big_quiet_skip | (go_big_quiet_want; go_big_quiet_op; go_big_quiet_on))
          refine wpQuiet_nil ?_
          change wpList _ _ _ _ _ w8.drew
          go_wp2
          go_round
          case rel => first
           | exact ⟨k + 1, by omega, by go_num, HD1.out.symm, HK8.out, HR8.out, HBW.out⟩
           | exact ⟨k + 1, by omega, by go_num, HD1.out.symm, HK8.out.below HDR.out HK8.out.lt, HR8.out.below HDR.out, HBW.out.drew⟩
          case measure => simp [intOf]; omega
         ·go_wp2_with fail
          refine wp_region_still_tail 13 (by kernel_rfl) (by kernel_rfl) ?_
          simp only [List.take_succ_cons, List.take_zero, List.drop_succ_cons, List.drop_zero]
          refine still_quiet _ _ ?_
          repeat (first | go_big_quiet_skip | (go_big_quiet_want; go_big_quiet_op; go_big_quiet_on))
          refine wpQuiet_nil ?_
          change wpList _ _ _ _ _ w8.drew
          go_wp2
          go_ret
          first
           | exact ⟨ret_i64 HD1.out.symm, HBW.out⟩
           | exact ⟨ret_i64 HD1.out.symm, HBW.out.drew⟩
       ·have g1 : (F != 0) = true := by simp [hf]
        have g2 : (F == 0) = false := by simp [hf]
        have HF := Lib.hid hf
        have HBW := Lib.hid (HB4.out.trans (HB8.out.mono HB4.out.size))
        clear hf
        go_wp2
        go_ret
        exact ⟨ret_i64 (by rw [HD.out, if_pos HF.out]), HBW.out⟩
     ·have hk7 : k = n := by omega
      have HK7 := Lib.hid hk7
      have HRZ := Lib.hid (show R = 0 by rw [← HP4.out, List.drop_of_length_le (by rw [HK7.out, HNM.out]; exact Nat.le_refl _)]; cases prevK ms k <;> rfl)
      clear hk7
      go_wp2
      go_ret
      exact ⟨ret_i64 HRZ.out.symm, HB4.out⟩
  ·have f1 : (E != 0) = true := by simp [he]
   have f2 : (E == 0) = false := by simp [he]
   have HE0 := Lib.hid he
   clear he
   go_wp2
   go_ret
   exact ⟨ret_i64 (by rw [HRE.out, if_neg (by decide), if_pos HE0.out]), HB3.out⟩
end Go.Proofs.YtlhnhjglcbggmaaGreatRR

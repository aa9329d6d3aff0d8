/-
  each: the first error of a list's elements. Conditions: the list lies in the world; each number fits its kind.
  Messages and inputs by their parts: what is plain, the form; the form says where it ends. No program here.
  A block: PlainBlock, putBlock, EncodeBlock. Conditions: each number fits its kind; its lists lie in the world.
-/
import Derived.Test.YtlhnhjglcbggmaaGreatRRY12
import Derived.Test.YtlhnhjglcbggmaaGreatRRY16
namespace Go.Proofs.YtlhnhjglcbggmaaGreatRR
set_option linter.unusedSimpArgs false
set_option linter.unusedVariables false
open Go.RowKit
set_option maxRecDepth 100000

set_option maxHeartbeats 2000000 in
theorem eachTx_any (w : World) (A : Option Addr) (n c : Nat) (xs : List Tx) (hn : n = xs.length) (hx : ∀ x ∈ xs, x.ok) (hr : Rd w A (xs.flatMap Tx.cl)) :
  Calls Tryz.prog 91 #[.slice A n c, .int .i64 1000, .func (.func 33) #[] #[]] w fun e w' => e = .returned (.int .i64 (rootsErr 1000 n (xs.map plainTx))) ∧ Below w.heap.size w w' := by
 have HN := Lib.hid hn
 have HX := Lib.hid hx
 have HR := Lib.hid hr
 have HLN := Lib.hid (show ∀ x ∈ xs, x.cl.length = 22 from fun x h => x.cl_len (hx x h))
 clear hn hx hr
 go_enter Tryz.func91, Tryz.ntmps91
 by_cases hbig : 1000 < n
 ·have HBG := Lib.hid hbig
  have hb : (1000 : Int) < (n : Int) := by omega
  clear hbig
  go_wp2
  go_ret
  exact ⟨ret_i64 (by unfold rootsErr; rw [if_pos HBG.out]), Below.refl _ _⟩
 have hb : ¬ (1000 : Int) < (n : Int) := by omega
 have HBG := Lib.hid hbig
 have hn16 : n ≤ 1000 := by omega
 clear hbig
 go_wp2
 go_loopw [16] (fun i wr => ∃ k : Nat, k ≤ n ∧ i = .int .i64 (k : Int) ∧ (∀ e ∈ (xs.take k).map plainTx, e = 0) ∧ Below w.heap.size w wr) (fun i _ => n - (intOf i).toNat)
 case atStart => exact ⟨0, by omega, rfl, fun e he => (by simp at he), Below.refl _ _⟩
 case round =>
  obtain ⟨k, hk, rfl, h6, h9⟩ := hrel
  have HPL := Lib.hid h6
  have HW := Lib.hid h9
  clear h6 h9
  by_cases hlt : k < n
  ·have hkl : k < xs.length := by rw [← HN.out]; exact hlt
   obtain ⟨ad, hA, hcell⟩ := rd_elem (by omega) HLN.out (HR.out.below HW.out) hkl
   obtain ⟨x, hxk⟩ : ∃ x, xs[k] = x := ⟨_, rfl⟩
   have HXO := Lib.hid (show x.ok from hxk ▸ HX.out _ (List.getElem_mem hkl))
   have HTK := Lib.hid (show xs.take (k + 1) = xs.take k ++ [x] by rw [List.take_succ_eq_append_getElem hkl, hxk])
   have HEK := Lib.hid (show (xs.map plainTx)[k]? = some (plainTx x) by rw [List.getElem?_map, List.getElem?_eq_getElem hkl, hxk]; rfl)
   rw [hxk] at hcell
   have HC := Lib.hid hcell
   have HXL := Lib.hid (x.cl_len HXO.out)
   subst hA
   clear hcell hxk
   have hi : (k : Int) < n := by omega
   go_wp2_with (first
    | (with_reducible show wpList _ _ _ (Oper.mk (some 19) (Op.load _ _) _ _ _ _ :: _) _ _; go_must (refine wpList_load_at rfl 27 _ rfl (ad.add (k * 22)) 22 rfl x.cl HC.out _ Tryz.underlying27 rfl info_Tx HXL.out ?_))
    | (with_reducible show wpList _ _ _ (Oper.mk _ (Op.alloc _) _ _ _ _ :: _) _ _; refine wpList_alloc_i rfl 27 rfl (.agg zeroTxC.toArray) zero_TxC ?_))
   intro q w4 k4 l4 g4 s4
   have K4 := Lib.hid k4
   have L4 := Lib.hid l4
   have G4 := Lib.hid g4
   have ZL := Lib.hid zeroTxC_len
   clear k4 l4 g4 s4
   go_wp2_with (with_reducible show wpList _ _ _ (Oper.mk _ (Op.store 27 _ _) _ _ _ _ :: _) _ _; go_must (refine wpList_store_bk rfl 27 _ _ rfl q rfl (.agg x.cl.toArray) rfl _ _ K4.out (by rw [agg_sz (show x.cl.toArray.size = 22 by rw [List.size_toArray, HXL.out])]; exact info_Tx) (by rw [agg_sz (show x.cl.toArray.size = 22 by rw [List.size_toArray, HXL.out]), List.size_toArray, ZL.out]) (tx_one x) ?_))
   intro w5 h5 hg5 hs5
   have L5 := Lib.hid (below_grown2 L4.out hg5 G4.out L4.out.size)
   have K5 := Lib.hid (show Bk w5 q x.cl.toArray 27 from h5)
   clear h5 hg5 hs5 K4 L4 G4
   go_wp2_with (with_reducible show wpList _ _ _ (Oper.mk (some 21) (Op.load _ _) _ _ _ _ :: _) _ _; go_must (refine wpList_load_part rfl 27 _ rfl q 0 22 rfl _ _ _ K5.out Tryz.underlying27 rfl info_Tx (by simp [HXL.out]) _ (cl_allN HXL.out) ?_); go_wp2_with fail)
   refine (plainTx_any w5 x).mono ?_
   rintro e w6 ⟨rfl, hl6⟩
   have L6 := Lib.hid (L5.out.trans (hl6.mono L5.out.size))
   have HW6 := Lib.hid (HW.out.trans (L6.out.mono HW.out.size))
   clear hl6
   obtain ⟨E, hE⟩ : ∃ E, plainTx x = E := ⟨_, rfl⟩
   rw [hE] at HEK ⊢
   have HEE := Lib.hid hE
   clear hE
   by_cases hz : E = 0
   ·have f1 : (E != 0) = false := by simp [hz]
    have HZ := Lib.hid hz
    clear hz
    go_wp2
    go_round
    case rel =>
     refine ⟨k + 1, by omega, by go_num, fun e he => ?_, HW6.out⟩
     rw [HTK.out, List.map_append] at he
     rcases List.mem_append.1 he with he | he
     ·exact HPL.out e he
     ·rw [List.mem_singleton.1 he, HEE.out]; exact HZ.out
    case measure => simp [intOf]; omega
   ·have f1 : (E != 0) = true := by simp [hz]
    have HER := Lib.hid (show rootsErr 1000 n (xs.map plainTx) = E by unfold rootsErr; rw [if_neg HBG.out]; exact firstErr_take_zero (by rw [← List.map_take]; exact HPL.out) HEK.out hz)
    clear hz
    go_wp2
    go_ret
    exact ⟨ret_i64 HER.out.symm, HW6.out⟩
  ·have hkn : k = n := by omega
   subst hkn
   have HTA := Lib.hid (show xs.take k = xs from List.take_of_length_le (by rw [HN.out]; exact Nat.le_refl _))
   have HER := Lib.hid (show rootsErr 1000 k (xs.map plainTx) = 0 by
    unfold rootsErr; rw [if_neg HBG.out]; exact firstErr_all_zero (fun e he => HPL.out e (by rw [HTA.out]; exact he)))
   clear hlt
   go_wp2
   go_ret
   exact ⟨ret_i64 HER.out.symm, HW.out⟩

set_option maxHeartbeats 2000000 in
theorem eachEv_any (w : World) (A : Option Addr) (n c : Nat) (xs : List Ev) (hn : n = xs.length) (hx : ∀ x ∈ xs, x.ok) (hr : Rd w A (xs.flatMap Ev.cl)) :
  Calls Tryz.prog 92 #[.slice A n c, .int .i64 16, .func (.func 42) #[] #[]] w fun e w' => e = .returned (.int .i64 (rootsErr 16 n (xs.map plainEv))) ∧ Below w.heap.size w w' := by
 have HN := Lib.hid hn
 have HX := Lib.hid hx
 have HR := Lib.hid hr
 have HLN := Lib.hid (show ∀ x ∈ xs, x.cl.length = 106 from fun x h => x.cl_len (hx x h))
 clear hn hx hr
 go_enter Tryz.func92, Tryz.ntmps92
 by_cases hbig : 16 < n
 ·have HBG := Lib.hid hbig
  have hb : (16 : Int) < (n : Int) := by omega
  clear hbig
  go_wp2
  go_ret
  exact ⟨ret_i64 (by unfold rootsErr; rw [if_pos HBG.out]), Below.refl _ _⟩
 have hb : ¬ (16 : Int) < (n : Int) := by omega
 have HBG := Lib.hid hbig
 have hn16 : n ≤ 16 := by omega
 clear hbig
 go_wp2
 go_loopw [16] (fun i wr => ∃ k : Nat, k ≤ n ∧ i = .int .i64 (k : Int) ∧ (∀ e ∈ (xs.take k).map plainEv, e = 0) ∧ Below w.heap.size w wr) (fun i _ => n - (intOf i).toNat)
 case atStart => exact ⟨0, by omega, rfl, fun e he => (by simp at he), Below.refl _ _⟩
 case round =>
  obtain ⟨k, hk, rfl, h6, h9⟩ := hrel
  have HPL := Lib.hid h6
  have HW := Lib.hid h9
  clear h6 h9
  by_cases hlt : k < n
  ·have hkl : k < xs.length := by rw [← HN.out]; exact hlt
   obtain ⟨ad, hA, hcell⟩ := rd_elem (by omega) HLN.out (HR.out.below HW.out) hkl
   obtain ⟨x, hxk⟩ : ∃ x, xs[k] = x := ⟨_, rfl⟩
   have HXO := Lib.hid (show x.ok from hxk ▸ HX.out _ (List.getElem_mem hkl))
   have HTK := Lib.hid (show xs.take (k + 1) = xs.take k ++ [x] by rw [List.take_succ_eq_append_getElem hkl, hxk])
   have HEK := Lib.hid (show (xs.map plainEv)[k]? = some (plainEv x) by rw [List.getElem?_map, List.getElem?_eq_getElem hkl, hxk]; rfl)
   rw [hxk] at hcell
   have HC := Lib.hid hcell
   have HXL := Lib.hid (x.cl_len HXO.out)
   subst hA
   clear hcell hxk
   have hi : (k : Int) < n := by omega
   go_wp2_with (first
    | (with_reducible show wpList _ _ _ (Oper.mk (some 19) (Op.load _ _) _ _ _ _ :: _) _ _; go_must (refine wpList_load_at rfl 38 _ rfl (ad.add (k * 106)) 106 rfl x.cl HC.out _ Tryz.underlying38 rfl info_Ev HXL.out ?_))
    | (with_reducible show wpList _ _ _ (Oper.mk _ (Op.alloc _) _ _ _ _ :: _) _ _; refine wpList_alloc_i rfl 38 rfl (.agg zeroEvC.toArray) zero_EvC ?_))
   intro q w4 k4 l4 g4 s4
   have K4 := Lib.hid k4
   have L4 := Lib.hid l4
   have G4 := Lib.hid g4
   have ZL := Lib.hid zeroEvC_len
   clear k4 l4 g4 s4
   go_wp2_with (with_reducible show wpList _ _ _ (Oper.mk _ (Op.store 38 _ _) _ _ _ _ :: _) _ _; go_must (refine wpList_store_bk rfl 38 _ _ rfl q rfl (.agg x.cl.toArray) rfl _ _ K4.out (by rw [agg_sz (show x.cl.toArray.size = 106 by rw [List.size_toArray, HXL.out])]; exact info_Ev) (by rw [agg_sz (show x.cl.toArray.size = 106 by rw [List.size_toArray, HXL.out]), List.size_toArray, ZL.out]) (ev_one x) ?_))
   intro w5 h5 hg5 hs5
   have L5 := Lib.hid (below_grown2 L4.out hg5 G4.out L4.out.size)
   have K5 := Lib.hid (show Bk w5 q x.cl.toArray 38 from h5)
   clear h5 hg5 hs5 K4 L4 G4
   go_wp2_with (with_reducible show wpList _ _ _ (Oper.mk (some 21) (Op.load _ _) _ _ _ _ :: _) _ _; go_must (refine wpList_load_part rfl 38 _ rfl q 0 106 rfl _ _ _ K5.out Tryz.underlying38 rfl info_Ev (by simp [HXL.out]) _ (cl_allN HXL.out) ?_); go_wp2_with fail)
   refine (plainEv_any w5 x HXO.out).mono ?_
   rintro e w6 ⟨rfl, hl6⟩
   have L6 := Lib.hid (L5.out.trans (hl6.mono L5.out.size))
   have HW6 := Lib.hid (HW.out.trans (L6.out.mono HW.out.size))
   clear hl6
   obtain ⟨E, hE⟩ : ∃ E, plainEv x = E := ⟨_, rfl⟩
   rw [hE] at HEK ⊢
   have HEE := Lib.hid hE
   clear hE
   by_cases hz : E = 0
   ·have f1 : (E != 0) = false := by simp [hz]
    have HZ := Lib.hid hz
    clear hz
    go_wp2
    go_round
    case rel =>
     refine ⟨k + 1, by omega, by go_num, fun e he => ?_, HW6.out⟩
     rw [HTK.out, List.map_append] at he
     rcases List.mem_append.1 he with he | he
     ·exact HPL.out e he
     ·rw [List.mem_singleton.1 he, HEE.out]; exact HZ.out
    case measure => simp [intOf]; omega
   ·have f1 : (E != 0) = true := by simp [hz]
    have HER := Lib.hid (show rootsErr 16 n (xs.map plainEv) = E by unfold rootsErr; rw [if_neg HBG.out]; exact firstErr_take_zero (by rw [← List.map_take]; exact HPL.out) HEK.out hz)
    clear hz
    go_wp2
    go_ret
    exact ⟨ret_i64 HER.out.symm, HW6.out⟩
  ·have hkn : k = n := by omega
   subst hkn
   have HTA := Lib.hid (show xs.take k = xs from List.take_of_length_le (by rw [HN.out]; exact Nat.le_refl _))
   have HER := Lib.hid (show rootsErr 16 k (xs.map plainEv) = 0 by
    unfold rootsErr; rw [if_neg HBG.out]; exact firstErr_all_zero (fun e he => HPL.out e (by rw [HTA.out]; exact he)))
   clear hlt
   go_wp2
   go_ret
   exact ⟨ret_i64 HER.out.symm, HW.out⟩
end Go.Proofs.YtlhnhjglcbggmaaGreatRR
namespace Go.Proofs.YtlhnhjglcbggmaaGreatRR
set_option linter.unusedSimpArgs false
set_option linter.unusedVariables false
open Go.RowKit
set_option maxRecDepth 100000

def plainBlk (x : Blk) : Int := firstErr [plainHdr x.hd, rootsErr 1000 x.tn (x.ts.map plainTx), rootsErr 16 x.en (x.es.map plainEv), plainCrt x.ct]
theorem rootsErr_zero {lim n : Nat} {es : List Int} (h : rootsErr lim n es = 0) : n ≤ lim ∧ ∀ e ∈ es, e = 0 := by
 unfold rootsErr at h
 split at h
 ·cases h
 ·exact ⟨by omega, firstErr_zero h⟩
theorem blkB {x : Blk} (hx : x.ok) (h : plainBlk x = 0) : BlkB x := by
 have hall := firstErr_zero h
 have a1 := hall (plainHdr x.hd) (by simp)
 obtain ⟨a2, b2⟩ := rootsErr_zero (hall (rootsErr 1000 x.tn (x.ts.map plainTx)) (by simp))
 obtain ⟨a3, b3⟩ := rootsErr_zero (hall (rootsErr 16 x.en (x.es.map plainEv)) (by simp))
 have a4 := hall (plainCrt x.ct) (by simp)
 exact ⟨hdrB hx.hd a1, a2, fun t ht => txB (b2 _ (List.mem_map_of_mem ht)), a3, fun e he => evB (hx.es e he) (b3 _ (List.mem_map_of_mem he)), crtB hx.ct a4⟩
/-- a list of votes by rising member -/
def votesGo : Option Int → List Vote → Int
 | _, [] => 0
 | p, v :: r => if plainVote v ≠ 0 then plainVote v else if (match p with | some q => decide (v.frm ≤ q) | none => false) = true then 42 else votesGo (some v.frm) r
theorem votesGo_cons (p : Option Int) (v : Vote) (r : List Vote) : votesGo p (v :: r) = if plainVote v ≠ 0 then plainVote v else if (match p with | some q => decide (v.frm ≤ q) | none => false) = true then 42 else votesGo (some v.frm) r := by cases p <;> rfl
def votesErr (n : Nat) (l : List Vote) : Int := if 64 < n then 4 else votesGo none l
theorem votesGo_zero : ∀ (l : List Vote) (p : Option Int), votesGo p l = 0 → ∀ v ∈ l, plainVote v = 0
 | [], _, _, v, hv => by cases hv
 | a :: r, p, h, v, hv => by
  rw [votesGo_cons] at h
  by_cases he : plainVote a = 0
  ·rw [if_neg (by simp [he])] at h
   generalize (match p with | some q => decide (a.frm ≤ q) | none => false) = b at h
   cases b with
   | true => rw [if_pos rfl] at h; cases h
   | false =>
    rw [if_neg Bool.false_ne_true] at h
    rcases List.mem_cons.1 hv with rfl | hv
    ·exact he
    ·exact votesGo_zero r _ h v hv
  ·rw [if_pos he] at h; exact absurd h he
theorem votesErr_zero {n : Nat} {l : List Vote} (h : votesErr n l = 0) : n ≤ 64 ∧ ∀ v ∈ l, plainVote v = 0 := by
 unfold votesErr at h
 split at h
 ·cases h
 ·exact ⟨by omega, votesGo_zero l none h⟩
/-- what a message or an input may hold -/
structure Prts where
 prop : Proposal
 blk : Blk
 vA : Option Addr
 vn : Nat
 vc : Nat
 vs : List Vote
 crt : Crt
 tx : Tx
 ev : Ev
 height : Int
 round : Int
 good : Bool
 step : Int
structure Prts.ok (p : Prts) : Prop where
 prop : p.prop.ok
 blk : p.blk.ok
 vn : p.vn = p.vs.length
 vs : ∀ v ∈ p.vs, v.ok
 vb : p.vn * 112 ≤ 140737488351232
 crt : p.crt.ok
 cb : p.crt.n * 32 ≤ 140737488351232
 tx : p.tx.ok
 ev : p.ev.ok
 height : U64 p.height
 round : I64 p.round
 step : I64 p.step
def zeroP : Proposal := ⟨0, 0, 0, zer 32, 0, zer 16⟩
def zeroT : Tx := ⟨0, 0, 0, 0, 0, 0, zer 16⟩
def zeroV : Vote := ⟨0, 0, 0, zer 32, 0, 0, zer 16⟩
def zeroE : Ev := ⟨zeroV, zeroV⟩
def zeroH : Hdr := ⟨ByteArray.empty, 0, 0, zer 224, 0⟩
/-- is a member zero? -/
noncomputable def zeroBlkB (x : Blk) : Bool := open Classical in decide (x.hd = zeroH) && (decide (x.tn = 0) && (decide (x.en = 0) && zeroC x.ct))
noncomputable def Prts.zero (p : Prts) (m : Nat) : Bool := open Classical in
 match m with
 | 0 => decide (p.prop = zeroP)
 | 1 => zeroBlkB p.blk
 | 2 => decide (p.vn = 0)
 | 3 => zeroC p.crt
 | 4 => decide (p.tx = zeroT)
 | 5 => decide (p.ev = zeroE)
 | 6 => decide (p.height = 0)
 | 7 => decide (p.round = 0)
 | 8 => !p.good
 | _ => decide (p.step = 0)
/-- the parts, as a kind uses them -/
inductive PK where | proposal | block | polka | some | one | cert | tx | evidence | height | round | good | step
 deriving DecidableEq
def PK.member : PK → Nat
 | proposal => 0 | block => 1 | polka => 2 | some => 2 | one => 2 | cert => 3 | tx => 4 | evidence => 5 | height => 6 | round => 7 | good => 8 | step => 9
def onePlain : List Vote → Int | v :: _ => plainVote v | [] => 0
def oneForm : List Vote → List UInt8 | v :: _ => formVote v | [] => []
def PK.plain (p : Prts) : PK → Int
 | proposal => plainProposal p.prop
 | block => plainBlk p.blk
 | polka => firstErr [field (decide (0 < p.vn) && decide (p.prop.valid = -1)), votesErr p.vn p.vs]
 | some => firstErr [field (decide (p.vn = 0)), votesErr p.vn p.vs]
 | one => if p.vn ≠ 1 then 41 else onePlain p.vs
 | cert => firstErr [plainCrt p.crt, field (zeroC p.crt)]
 | tx => plainTx p.tx
 | evidence => plainEv p.ev
 | height => Go.Proofs.YtlhnhjglcbggmaaGreatRR.height p.height
 | round => Go.Proofs.YtlhnhjglcbggmaaGreatRR.round p.round
 | good => 0
 | step => field (decide (p.step < 1) || decide (3 < p.step))
def votesF (n : Nat) (l : List Vote) : List UInt8 := varB n ++ l.flatMap formVote
def PK.form (p : Prts) : PK → List UInt8
 | proposal => formProposal p.prop
 | block => formBlk p.blk
 | polka => votesF p.vn p.vs
 | some => votesF p.vn p.vs
 | one => oneForm p.vs
 | cert => encCrt p.crt
 | tx => formTx p.tx
 | evidence => formEv p.ev
 | height => varB p.height.toNat
 | round => varB p.round.toNat
 | good => [if p.good then 1 else 0]
 | step => [UInt8.ofNat p.step.toNat]
def usesMsg (k : Int) : List PK := if k = 1 then [.proposal, .block, .polka] else if k = 2 then [.one] else if k = 3 then [.block, .some] else if k = 4 then [.height, .round] else if k = 5 then [.block, .cert] else if k = 6 then [.tx] else [.evidence]
def usesInput (k : Int) : List PK := if k = 2 then [.proposal, .block, .polka, .good] else if k = 3 then [.one] else if k = 4 then [.block, .some, .good] else if k = 5 then [.step, .round] else if k = 6 then [.block, .round] else []
noncomputable def unusedErr (p : Prts) (us : List PK) : Int := field ((List.range 10).any fun k => !(us.map PK.member).contains k && !p.zero k)
def plainPrts (p : Prts) (us : List PK) : Int := firstErr (us.map (PK.plain p))
theorem unused_zero {p : Prts} {us : List PK} (h : unusedErr p us = 0) : ∀ k, k < 10 → (us.map PK.member).contains k = false → p.zero k = true := by
 intro k hk hc
 unfold unusedErr at h
 have := field_zero h
 rw [List.any_eq_false] at this
 have := this k (List.mem_range.2 hk)
 rw [hc] at this
 simpa using this
end Go.Proofs.YtlhnhjglcbggmaaGreatRR
namespace Go.Proofs.YtlhnhjglcbggmaaGreatRR
set_option linter.unusedSimpArgs false
set_option linter.unusedVariables false
open Go.RowKit
set_option maxRecDepth 100000

theorem info_BlkB : (Tryz.prog.info? 44).map (·.size) = some 265 := by kernel_rfl
theorem Blk.len (x : Blk) (h : x.ok) : x.cl.length = 265 := bl_len (x.hd.cl_len h.hd) (x.ct.cl_len h.ct)
theorem Blk.ex_ct (x : Blk) (h : x.ok) : x.cl.toArray.extract 230 (230 + 35) = x.ct.cl.toArray := bl_ex (H := x.hd.cl) (a := .slice x.tA x.tn x.tc) (b := .slice x.eA x.en x.ec) (C := x.ct.cl) (x.hd.cl_len h.hd) (x.ct.cl_len h.ct)
/-- where a list lies: below B, if it is not empty -/
def Low (A : Option Addr) (xs : List Value) (B : Nat) : Prop := ∀ ad, A = some ad → xs ≠ [] → ad.block < B
theorem Low.of {w : World} {A : Option Addr} {xs : List Value} (h : Rd w A xs) : Low A xs w.heap.size := fun ad ha hne => rd_lt h ha hne
theorem Low.mono {A : Option Addr} {xs : List Value} {B B' : Nat} (h : Low A xs B) (hb : B ≤ B') : Low A xs B' := fun ad ha hne => Nat.lt_of_lt_of_le (h ad ha hne) hb
structure Blk.low (x : Blk) (B : Nat) : Prop where
 t : Low x.tA (x.ts.flatMap Tx.cl) B
 e : Low x.eA (x.es.flatMap Ev.cl) B
 c : Low x.ct.A (x.ct.ms.flatMap Mk.cl) B
theorem Blk.at.low {x : Blk} {w : World} (h : x.at w) : x.low w.heap.size := ⟨Low.of h.t, Low.of h.e, Low.of (xs := x.ct.ms.flatMap Mk.cl) h.c⟩
theorem Blk.low.mono {x : Blk} {B B' : Nat} (h : x.low B) (hb : B ≤ B') : x.low B' := ⟨h.t.mono hb, h.e.mono hb, h.c.mono hb⟩
theorem Blk.at.eff {x : Blk} {w w' : World} {B : Nat} {ts : List TypeId} (h : x.at w) (hl : x.low B) (e : Eff B ts w w') (hB : B ≤ w.heap.size) : x.at w' := ⟨rd_eff h.t e hB hl.t, rd_eff h.e e hB hl.e, rd_eff (xs := x.ct.ms.flatMap Mk.cl) h.c e hB hl.c⟩

set_option maxHeartbeats 1000000 in
theorem putBlock_any (w : World) (B g : Nat) (bs : List UInt8) (x : Blk) (hx : x.ok) (hp : BlkB x) (hat : x.at w) (hlo : x.low B) (hB : B ≤ w.heap.size) (hw : Wr w B g bs) (hb : bs.length + 300000 ≤ room46) :
  Calls Tryz.prog 49 #[.pointer (some ⟨g, 0, none⟩), .agg x.cl.toArray] w fun e w' => e = .returned (.tuple #[]) ∧ Wr w' B g (bs ++ formBlk x) ∧ Eff B WrT w w' := by
 have HX := Lib.hid hx
 have HP := Lib.hid hp
 have HAT := Lib.hid hat
 have HLO := Lib.hid hlo
 have HL := Lib.hid (x.len hx)
 have HHL := Lib.hid (x.hd.cl_len hx.hd)
 have HCL := Lib.hid (x.ct.cl_len hx.ct)
 have L1 := Lib.hid (encHdr_350 hx.hd hp.hd)
 have L2 := Lib.hid (show (varB x.tn ++ x.ts.flatMap formTx).length ≤ 70000 by
  have h1 := flat_le (enc := formTx) (l := x.ts) (fun t ht => formTx_67 (hx.ts t ht))
  have h2 := varB_ten (n := x.tn) (by have := hp.tn; unfold two64; omega)
  have h3 := hx.tn
  have h4 := hp.tn
  rw [List.length_append]
  omega)
 have L3 := Lib.hid (show (varB x.en ++ x.es.flatMap formEv).length ≤ 70000 by
  have h1 := flat_le (enc := formEv) (l := x.es) (fun e he => formEv_166 (hx.es e he) (hp.es e he).1 (hp.es e he).2)
  have h2 := varB_ten (n := x.en) (by have := hp.en; unfold two64; omega)
  have h3 := hx.en
  have h4 := hp.en
  rw [List.length_append]
  omega)
 clear hx hp hat hlo
 go_enter Tryz.func49, Tryz.ntmps49
 go_wp2_with (with_reducible show wpList _ _ _ (Oper.mk _ (Op.box _ _) _ _ _ _ :: _) _ _; refine wpList_box_bk rfl _ _ rfl _ rfl ?_)
 intro bx w1 hk hbl hg hs
 clear hg hs
 have HK1 := Lib.hid (bk_eqT (cs' := x.cl.toArray) hk rfl)
 have hw1 := hw.below hbl
 have HAT1 := Lib.hid (HAT.out.below hbl)
 have HS1 := Lib.hid (Nat.le_trans hB hbl.size)
 have HE1 := Lib.hid (Eff.of_below hbl B WrT)
 clear hk hbl
 go_wp2_with (with_reducible show wpList _ _ _ (Oper.mk (some 6) (Op.load _ _) _ _ _ _ :: _) _ _; refine wpList_load_part rfl 40 _ rfl bx 0 228 rfl _ _ _ HK1.out Tryz.underlying40 rfl info_Hdr (by simp [HL.out]) _ (bl_hd HHL.out) ?_)
 refine (putHeader_any w1 B g bs x.hd HX.out.hd HP.out.hd hw1 (by omega)).mono ?_
 rintro e w2 ⟨rfl, hw2, e2⟩
 have HK2 := Lib.hid (HK1.out.effT e2 (by decide))
 have HAT2 := Lib.hid (HAT1.out.eff HLO.out e2 HS1.out)
 have HS2 := Lib.hid (Nat.le_trans HS1.out e2.size)
 have HE2 := Lib.hid (HE1.out.trans e2)
 have c1 : w2.cell? ⟨bx, 228, none⟩ = some (.slice x.tA x.tn x.tc) := (HK2.out.cell 228).trans (bl_at1 HHL.out)
 clear e2
 go_wp2_with fail
 refine (putTxs_any w2 B g _ x.tA x.tn x.tc x.ts HX.out.ts HP.out.ts (fun t ht => formTx_67 (HX.out.ts t ht)) HX.out.tn HP.out.tn HAT2.out.t HLO.out.t HS2.out hw2 (by rw [List.length_append]; have h1 := L1.out; have h2 := HP.out.tn; omega)).mono ?_
 rintro e w3 ⟨rfl, hw3, e3⟩
 have HK3 := Lib.hid (HK2.out.effT e3 (by decide))
 have HAT3 := Lib.hid (HAT2.out.eff HLO.out e3 HS2.out)
 have HS3 := Lib.hid (Nat.le_trans HS2.out e3.size)
 have HE3 := Lib.hid (HE2.out.trans e3)
 have c2 : w3.cell? ⟨bx, 229, none⟩ = some (.slice x.eA x.en x.ec) := (HK3.out.cell 229).trans (bl_at2 HHL.out)
 clear e3 c1
 go_wp2_with fail
 refine (putEvs_any w3 B g _ x.eA x.en x.ec x.es HX.out.es (fun e he => ⟨(HP.out.es e he).1, (HP.out.es e he).2⟩) (fun e he => Nat.le_trans (formEv_166 (HX.out.es e he) (HP.out.es e he).1 (HP.out.es e he).2) (by omega)) HX.out.en (Nat.le_trans HP.out.en (by omega)) HAT3.out.e HLO.out.e HS3.out hw3 (by rw [List.length_append, List.length_append]; have h1 := L1.out; have h2 := L2.out; have h3 := HP.out.en; omega)).mono ?_
 rintro e w4 ⟨rfl, hw4, e4⟩
 have HK4 := Lib.hid (HK3.out.effT e4 (by decide))
 have HAT4 := Lib.hid (HAT3.out.eff HLO.out e4 HS3.out)
 have HS4 := Lib.hid (Nat.le_trans HS3.out e4.size)
 have HE4 := Lib.hid (HE3.out.trans e4)
 clear e4 c2
 go_wp2_with (with_reducible show wpList _ _ _ (Oper.mk (some 18) (Op.load _ _) _ _ _ _ :: _) _ _; go_must (refine wpList_load_part rfl 36 _ rfl bx 230 35 rfl _ _ _ HK4.out Tryz.underlying36 rfl info_Crt (by simp [HL.out]) _ (x.ex_ct HX.out) ?_))
 refine (putCert_any w4 B g _ x.ct HX.out.ct HP.out.ct HAT4.out.c HLO.out.c HS4.out hw4 (by rw [List.length_append, List.length_append, List.length_append]; have h1 := L1.out; have h2 := L2.out; have h3 := L3.out; omega)).mono ?_
 rintro e w5 ⟨rfl, hw5, e5⟩
 go_wp2
 go_end0
 refine ⟨rfl, ?_, HE4.out.trans e5⟩
 unfold formBlk
 simpa only [List.append_assoc] using hw5

set_option maxHeartbeats 2000000 in
theorem plainBlk_any (w : World) (x : Blk) (hx : x.ok) (hat : x.at w) :
  Calls Tryz.prog 48 #[.agg x.cl.toArray] w fun e w' => e = .returned (.int .i64 (plainBlk x)) ∧ Below w.heap.size w w' := by
 have HX := Lib.hid hx
 have HAT := Lib.hid hat
 have HL := Lib.hid (x.len hx)
 have HHL := Lib.hid (x.hd.cl_len hx.hd)
 have HCL := Lib.hid (x.ct.cl_len hx.ct)
 obtain ⟨E1, h1⟩ : ∃ E, plainHdr x.hd = E := ⟨_, rfl⟩
 obtain ⟨E2, h2⟩ : ∃ E, rootsErr 1000 x.tn (x.ts.map plainTx) = E := ⟨_, rfl⟩
 obtain ⟨E3, h3⟩ : ∃ E, rootsErr 16 x.en (x.es.map plainEv) = E := ⟨_, rfl⟩
 obtain ⟨E4, h4⟩ : ∃ E, plainCrt x.ct = E := ⟨_, rfl⟩
 have HE := Lib.hid (show plainBlk x = firstErr [E1, E2, E3, E4] by unfold plainBlk; rw [h1, h2, h3, h4])
 have HE1 := Lib.hid h1
 have HE2 := Lib.hid h2
 have HE3 := Lib.hid h3
 have HE4 := Lib.hid h4
 clear hx hat h1 h2 h3 h4
 go_enter Tryz.func48, Tryz.ntmps48
 go_wp2_with (with_reducible show wpList _ _ _ (Oper.mk _ (Op.box _ _) _ _ _ _ :: _) _ _; refine wpList_box_bk rfl _ _ rfl _ rfl ?_)
 intro bx w1 hk hbl hg hs
 clear hg hs
 have HK1 := Lib.hid (show Bk w1.drew bx x.cl.toArray 44 from (bk_eqT (cs' := x.cl.toArray) hk rfl).drew)
 have HB1 := Lib.hid hbl.drew
 have HAT1 := Lib.hid (HAT.out.below HB1.out)
 clear hk hbl
 go_wp2_with fail
 refine wp_region_free [(3, []), (4, [(0, 3)]), (5, [(1, 4)]), (6, []), (7, [(3, 6)]), (8, [(4, 7)]), (9, []), (10, [(6, 9)]), (11, [(7, 10)]), (12, []), (13, [(9, 12)]), (14, [(10, 13)])]
  [Is (.pointer (some ⟨bx, 0, none⟩)), Is (.agg x.hd.cl.toArray), Is (.int .i64 E1), Is (.pointer (some ⟨bx, 228, none⟩)), Is (.slice x.tA x.tn x.tc), Is (.int .i64 E2), Is (.pointer (some ⟨bx, 229, none⟩)), Is (.slice x.eA x.en x.ec), Is (.int .i64 E3), Is (.pointer (some ⟨bx, 230, none⟩)), Is (.agg x.ct.cl.toArray), Is (.int .i64 E4)]
  (by kernel_rfl) (by kernel_rfl) (by rfl) ?st ?steps ?fin
 case st => exact ⟨Is.steady _, Is.steady _, Is.steady _, Is.steady _, Is.steady _, Is.steady _, Is.steady _, Is.steady _, Is.steady _, Is.steady _, Is.steady _, Is.steady _, trivial⟩
 case steps =>
  refine fcA (fun w4 hw4 => ?_) ?_
  ·refine foA rfl rfl ?_; (try simp only [Act.put, zA, zB, zC]); (go_wp2_with fail); exact qsA rfl rfl
  refine fcA (fun w4 hw4 => fiA rfl ?_) ?_
  ·refine FreeStep.load_part 40 _ rfl rfl rfl rfl (by rfl) rfl rfl bx 0 228 rfl _ _ _ (HK1.out.below hw4 HK1.out.lt) Tryz.underlying40 rfl info_Hdr (by simp [HL.out]) _ (bl_hd HHL.out) ?_
   with_reducible rfl
  refine fcA (fun w4 hw4 => fiA rfl ?_) ?_
  ·refine FreeStep.call rfl rfl rfl (by rfl) rfl rfl (by (try simp only [Act.put, zA, zB, zC]); go_simp; (try with_reducible rfl)) (plainHdr_any w4 x.hd HX.out.hd) ?_
   rintro e w5 ⟨rfl, hb5⟩; exact ⟨_, rfl, hb5, by rw [HE1.out]; rfl⟩
  refine fcA (fun w4 hw4 => ?_) ?_
  ·refine foA rfl rfl ?_; (try simp only [Act.put, zA, zB, zC]); (go_wp2_with fail); exact qsA rfl rfl
  refine fcA (fun w4 hw4 => fiA rfl ?_) ?_
  ·have c1 : w4.cell? ⟨bx, 228, none⟩ = some (.slice x.tA x.tn x.tc) := ((HK1.out.below hw4 HK1.out.lt).cell 228).trans (bl_at1 HHL.out)
   refine foA rfl rfl ?_; (try simp only [Act.put, zA, zB, zC]); (go_wp2_with fail); exact qsA rfl rfl
  refine fcA (fun w4 hw4 => fiA rfl ?_) ?_
  ·refine FreeStep.call rfl rfl rfl (by rfl) rfl rfl (by (try simp only [Act.put, zA, zB, zC]); go_simp; (try with_reducible rfl)) (eachTx_any w4 x.tA x.tn x.tc x.ts HX.out.tn HX.out.ts (HAT1.out.below hw4).t) ?_
   rintro e w5 ⟨rfl, hb5⟩; exact ⟨_, rfl, hb5, by rw [HE2.out]; rfl⟩
  refine fcA (fun w4 hw4 => ?_) ?_
  ·refine foA rfl rfl ?_; (try simp only [Act.put, zA, zB, zC]); (go_wp2_with fail); exact qsA rfl rfl
  refine fcA (fun w4 hw4 => fiA rfl ?_) ?_
  ·have c1 : w4.cell? ⟨bx, 229, none⟩ = some (.slice x.eA x.en x.ec) := ((HK1.out.below hw4 HK1.out.lt).cell 229).trans (bl_at2 HHL.out)
   refine foA rfl rfl ?_; (try simp only [Act.put, zA, zB, zC]); (go_wp2_with fail); exact qsA rfl rfl
  refine fcA (fun w4 hw4 => fiA rfl ?_) ?_
  ·refine FreeStep.call rfl rfl rfl (by rfl) rfl rfl (by (try simp only [Act.put, zA, zB, zC]); go_simp; (try with_reducible rfl)) (eachEv_any w4 x.eA x.en x.ec x.es HX.out.en HX.out.es (HAT1.out.below hw4).e) ?_
   rintro e w5 ⟨rfl, hb5⟩; exact ⟨_, rfl, hb5, by rw [HE3.out]; rfl⟩
  refine fcA (fun w4 hw4 => ?_) ?_
  ·refine foA rfl rfl ?_; (try simp only [Act.put, zA, zB, zC]); (go_wp2_with fail); exact qsA rfl rfl
  refine fcA (fun w4 hw4 => fiA rfl ?_) ?_
  ·refine FreeStep.load_part 36 _ rfl rfl rfl rfl (by rfl) rfl rfl bx 230 35 rfl _ _ _ (HK1.out.below hw4 HK1.out.lt) Tryz.underlying36 rfl info_Crt (by simp [HL.out]) _ (x.ex_ct HX.out) ?_
   with_reducible rfl
  refine fcA (fun w4 hw4 => fiA rfl ?_) ?_
  ·refine FreeStep.call rfl rfl rfl (by rfl) rfl rfl (by (try simp only [Act.put, zA, zB, zC]); go_simp; (try with_reducible rfl)) (plainCrt_any w4 x.ct HX.out.ct (HAT1.out.below hw4).c) ?_
   rintro e w5 ⟨rfl, hb5⟩; exact ⟨_, rfl, hb5, by rw [HE4.out]; rfl⟩
  exact FreeSteps.nil
 case fin =>
  intro w4 hw4
  iterate 12 refine FreeEnd.is rfl ?_
  refine FreeEnd.nil ?_
  (try simp only [Act.put, zA, zB, zC])
  simp only [List.length_cons, List.length_nil, Nat.reduceAdd, List.drop_succ_cons, List.drop_zero]
  have HB4 := Lib.hid (HB1.out.trans (hw4.mono HB1.out.size))
  clear hw4
  go_wp2_with fail
  refine (all_any _ _ 4 4 [_, _, _, _] (rd_errs w4 _ [_, _, _, _] rfl) rfl (by omega)).mono ?_
  rintro e w5 ⟨rfl, hw5⟩
  have HB5 := Lib.hid (show Below w.heap.size w w5 by rw [← hw5]; exact HB4.out.alloc (by have := HB4.out.size; omega) _)
  clear hw5
  go_wp2
  go_ret
  exact ⟨ret_i64 HE.out.symm, HB5.out⟩

set_option maxHeartbeats 2000000 in
theorem encodeBlk_any (w : World) (x : Blk) (hx : x.ok) (hat : x.at w) :
  Calls Tryz.prog 47 #[.agg x.cl.toArray, .int .i64 9223372036854775807, .func (.func 48) #[] #[], .func (.func 49) #[] #[]] w (BytesRes w (plainBlk x) (formBlk x)) := by
 have HX := Lib.hid hx
 have HAT := Lib.hid hat
 clear hat
 have HL := Lib.hid (x.len hx)
 clear hx
 obtain ⟨F, hF⟩ : ∃ F, plainBlk x = F := ⟨_, rfl⟩
 have HF := Lib.hid hF
 rw [hF]
 clear hF
 by_cases hf : F = 0
 ·have HB := Lib.hid (blkB HX.out (HF.out.trans hf))
  have f1 : (F != 0) = false := by simp [hf]
  have f2 : (F == 0) = true := by simp [hf]
  have HZ := Lib.hid hf
  clear hf
  go_enter Tryz.func47, Tryz.ntmps47
  go_wp2_with (first
   | (with_reducible show wpList _ _ _ (Oper.mk _ (Op.box _ _) _ _ _ _ :: _) _ _; refine wpList_box_bk rfl _ _ rfl _ rfl ?_; intro bx w1 hk hbl hg hs; have HK1 := Lib.hid (bk_eqT (cs' := x.cl.toArray) hk rfl); have HB1 := Lib.hid hbl; clear hk hbl hg hs)
   | (with_reducible show wpList _ _ _ (Oper.mk (some 15) (Op.load _ _) _ _ _ _ :: _) _ _; refine wpList_load_part rfl 44 _ rfl bx 0 265 rfl _ _ _ HK1.out Tryz.underlying44 rfl info_BlkB (by simp [HL.out]) _ (cl_allN HL.out) ?_))
  refine (plainBlk_any w1 x HX.out (HAT.out.below HB1.out)).mono ?_
  rintro e w2 ⟨rfl, e2⟩
  rw [HF.out]
  have HB2 := Lib.hid (HB1.out.trans (e2.mono HB1.out.size))
  have HK2 := Lib.hid (HK1.out.below e2 HK1.out.lt)
  clear e2 HB1 HK1
  go_wp2_with fail
  refine (newWriter_any w2).mono ?_
  rintro e w3 ⟨g, rfl, hw3, e3⟩
  have HK3 := Lib.hid (HK2.out.below e3 HK2.out.lt)
  have HS2 := Lib.hid HB2.out.size
  have HS3 := Lib.hid e3.size
  have HB3 := Lib.hid (HB2.out.trans (e3.mono HB2.out.size))
  clear e3 HK2
  go_wp2_with (with_reducible show wpList _ _ _ (Oper.mk (some 23) (Op.load _ _) _ _ _ _ :: _) _ _; refine wpList_load_part rfl 44 _ rfl bx 0 265 rfl _ _ _ HK3.out Tryz.underlying44 rfl info_BlkB (by simp [HL.out]) _ (cl_allN HL.out) ?_)
  refine (putBlock_any w3 _ g [] x HX.out HB.out (HAT.out.below HB3.out) (HAT.out.low.mono HS2.out) HS3.out hw3 (by unfold room46; simp)).mono ?_
  rintro e w4 ⟨rfl, hw4, e4⟩
  have hlen : ([] ++ (formBlk x)).length ≤ reach47 ∧ ([] ++ (formBlk x)).length ≤ 9223372036854775807 := by
   have h1 := formBlk_131072 HX.out HB.out
   unfold reach47
   rw [List.nil_append]
   omega
  have HLEN := Lib.hid hlen
  have HB4 := Lib.hid (HB3.out.trans (e4.to HS2.out HS3.out))
  clear hlen e4
  go_wp2_with fail
  refine (out_any w4 _ g _ hw4 HLEN.out.1).mono ?_
  rintro e w5 ⟨v, rfl, hv, e5⟩
  obtain ⟨Av, cv, rfl⟩ := hv.form
  have HB5 := Lib.hid (HB4.out.trans (e5.mono HB4.out.size))
  have HV := Lib.hid (hv.mono HB4.out.size)
  have HE := Lib.hid (show ([] ++ (formBlk x) : List UInt8) = (formBlk x) from rfl)
  rw [HE.out] at HLEN HV ⊢
  obtain ⟨bs, hbs⟩ : ∃ bs, formBlk x = bs := ⟨_, rfl⟩
  rw [hbs] at HLEN HV ⊢
  obtain ⟨L, hL⟩ : ∃ L, bs.length = L := ⟨_, rfl⟩
  have HBS := Lib.hid hbs
  rw [hL] at HLEN HV ⊢
  have hl9 : ¬ ((9223372036854775807 : Int) < (L : Int)) := by have := HLEN.out.2; omega
  clear hv e5 hw3 hw4 hbs HE HLEN hL
  go_wp2
  go_ret2
  exact ⟨HB5.out, .inr ⟨HZ.out, .slice Av L cv, rfl, by rw [HBS.out]; exact HV.out⟩⟩
 ·have f1 : (F != 0) = true := by simp [hf]
  have f2 : (F == 0) = false := by simp [hf]
  have HZ := Lib.hid hf
  clear hf
  go_enter Tryz.func47, Tryz.ntmps47
  go_wp2_with (first
   | (with_reducible show wpList _ _ _ (Oper.mk _ (Op.box _ _) _ _ _ _ :: _) _ _; refine wpList_box_bk rfl _ _ rfl _ rfl ?_; intro bx w1 hk hbl hg hs; have HK1 := Lib.hid (bk_eqT (cs' := x.cl.toArray) hk rfl); have HB1 := Lib.hid hbl; clear hk hbl hg hs)
   | (with_reducible show wpList _ _ _ (Oper.mk (some 15) (Op.load _ _) _ _ _ _ :: _) _ _; refine wpList_load_part rfl 44 _ rfl bx 0 265 rfl _ _ _ HK1.out Tryz.underlying44 rfl info_BlkB (by simp [HL.out]) _ (cl_allN HL.out) ?_))
  refine (plainBlk_any w1 x HX.out (HAT.out.below HB1.out)).mono ?_
  rintro e w2 ⟨rfl, e2⟩
  rw [HF.out]
  have HB2 := Lib.hid (HB1.out.trans (e2.mono HB1.out.size))
  clear e2
  go_wp2
  go_ret2
  exact ⟨HB2.out, .inl ⟨HZ.out, rfl⟩⟩

set_option maxHeartbeats 1000000 in
theorem EncodeBlock_any (w : World) (x : Blk) (hx : x.ok) (hat : x.at w) :
  Calls Tryz.prog 18 #[.agg x.cl.toArray] w (BytesRes w (plainBlk x) (formBlk x)) := by
 have HL := Lib.hid (x.len hx)
 have HX := Lib.hid hx
 have HAT := Lib.hid hat
 clear hat
 clear hx
 obtain ⟨F, hF⟩ : ∃ F, plainBlk x = F := ⟨_, rfl⟩
 have HF := Lib.hid hF
 rw [hF]
 clear hF
 go_enter Tryz.func18, Tryz.ntmps18
 go_wp2_with (first
   | (with_reducible show wpList _ _ _ (Oper.mk _ (Op.box _ _) _ _ _ _ :: _) _ _; refine wpList_box_bk rfl _ _ rfl _ rfl ?_; intro bx w1 hk hbl hg hs; have HK1 := Lib.hid (bk_eqT (cs' := x.cl.toArray) hk rfl); have HB1 := Lib.hid hbl; clear hk hbl hg hs)
   | (with_reducible show wpList _ _ _ (Oper.mk (some 4) (Op.load _ _) _ _ _ _ :: _) _ _; refine wpList_load_part rfl 44 _ rfl bx 0 265 rfl _ _ _ HK1.out Tryz.underlying44 rfl info_BlkB (by simp [HL.out]) _ (cl_allN HL.out) ?_))
 refine (encodeBlk_any w1 x HX.out (HAT.out.below HB1.out)).mono ?_
 rw [HF.out]
 rintro e w2 ⟨e2, ⟨hz, rfl⟩ | ⟨hz, v, rfl, hv⟩⟩
 ·have HZ := Lib.hid hz
  have HB2 := Lib.hid (HB1.out.trans (e2.mono HB1.out.size))
  clear hz e2
  go_wp2
  go_ret2
  exact ⟨HB2.out, .inl ⟨HZ.out, rfl⟩⟩
 ·obtain ⟨Av, cv, rfl⟩ := hv.form
  have HZ := Lib.hid hz
  have HB2 := Lib.hid (HB1.out.trans (e2.mono HB1.out.size))
  have HV := Lib.hid (hv.mono HB1.out.size)
  clear hz e2 hv
  go_wp2
  go_ret2
  exact ⟨HB2.out, .inr ⟨HZ.out, _, rfl, HV.out⟩⟩
end Go.Proofs.YtlhnhjglcbggmaaGreatRR

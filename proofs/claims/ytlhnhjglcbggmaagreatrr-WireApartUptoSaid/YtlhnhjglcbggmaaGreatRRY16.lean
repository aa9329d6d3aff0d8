/-
  Each form says where it ends; how long it is at most. No program here.
  Lists of transactions, votes, evidence laid down. Conditions: each number fits its kind; the list lies in the world.
-/
import Derived.Test.YtlhnhjglcbggmaaGreatRRY02
import Derived.Test.YtlhnhjglcbggmaaGreatRRY12
import Derived.Test.YtlhnhjglcbggmaaGreatRRY15
namespace Go.Proofs.YtlhnhjglcbggmaaGreatRR
set_option linter.unusedSimpArgs false
set_option linter.unusedVariables false
open Go.RowKit
set_option maxRecDepth 100000

theorem nz {n : Int} (h : U64 n) : 0 ≤ n := h.1
def formProposal (x : Proposal) : List UInt8 := encProposal x ++ x.sl
theorem tx_sd : SD formTx (fun x => x.ok ∧ TxB x) Eq := fun x y r s ⟨hx, bx⟩ ⟨hy, b_y⟩ h => by
 unfold formTx encTx at h
 simp only [List.append_assoc] at h
 obtain ⟨h1, h⟩ := byte_sd ⟨by have := bx.k1; omega, by have := bx.k2; omega⟩ ⟨by have := b_y.k1; omega, by have := b_y.k2; omega⟩ h
 obtain ⟨h2, h⟩ := int_sd (nz hx.frm) (nz hy.frm) h
 obtain ⟨h3, h⟩ := int_sd (nz hx.to) (nz hy.to) h
 obtain ⟨h4, h⟩ := int_sd (nz hx.amount) (nz hy.amount) h
 obtain ⟨h5, h⟩ := int_sd (nz hx.fee) (nz hy.fee) h
 obtain ⟨h6, h⟩ := int_sd (nz hx.nonce) (nz hy.nonce) h
 obtain ⟨h7, h⟩ := raw_sd hx.sl hy.sl h
 refine ⟨?_, h⟩
 cases x; cases y
 simp_all
theorem vote_sd : SD formVote (fun x => x.ok ∧ VoteB x) Eq := fun x y r s ⟨hx, bx⟩ ⟨hy, b_y⟩ h => by
 unfold formVote encVote at h
 simp only [List.append_assoc] at h
 obtain ⟨h1, h⟩ := byte_sd ⟨by have := bx.k1; omega, by have := bx.k2; omega⟩ ⟨by have := b_y.k1; omega, by have := b_y.k2; omega⟩ h
 obtain ⟨h2, h⟩ := int_sd (nz hx.height) (nz hy.height) h
 obtain ⟨h3, h⟩ := int_sd bx.r1 b_y.r1 h
 obtain ⟨h4, h⟩ := raw_sd hx.id hy.id h
 obtain ⟨h5, h⟩ := int_sd (nz hx.time) (nz hy.time) h
 obtain ⟨h6, h⟩ := int_sd (nz hx.frm) (nz hy.frm) h
 obtain ⟨h7, h⟩ := raw_sd hx.sl hy.sl h
 refine ⟨?_, h⟩
 cases x; cases y
 simp_all
theorem proposal_sd : SD formProposal (fun x => x.ok ∧ ProposalB x) Eq := fun x y r s ⟨hx, bx⟩ ⟨hy, b_y⟩ h => by
 unfold formProposal encProposal at h
 simp only [List.append_assoc] at h
 obtain ⟨h2, h⟩ := int_sd (nz hx.height) (nz hy.height) h
 obtain ⟨h3, h⟩ := int_sd bx.r1 b_y.r1 h
 obtain ⟨h8, h⟩ := int_sd (n := x.valid + 1) (m := y.valid + 1) (by have := bx.v1; omega) (by have := b_y.v1; omega) h
 obtain ⟨h4, h⟩ := raw_sd hx.id hy.id h
 obtain ⟨h6, h⟩ := int_sd (nz hx.frm) (nz hy.frm) h
 obtain ⟨h7, h⟩ := raw_sd hx.sl hy.sl h
 refine ⟨?_, h⟩
 have h9 : x.valid = y.valid := by omega
 cases x; cases y
 simp_all
theorem mk_sd : SD encMk (fun m => m.ok ∧ MkB m) Eq := fun x y r s ⟨hx, bx⟩ ⟨hy, b_y⟩ h => by
 unfold encMk at h
 simp only [List.append_assoc] at h
 obtain ⟨h1, h⟩ := int_sd bx.i1 b_y.i1 h
 obtain ⟨h2, h⟩ := int_sd bx.t1 b_y.t1 h
 obtain ⟨h7, h⟩ := raw_sd hx.sl hy.sl h
 refine ⟨?_, h⟩
 cases x; cases y
 simp_all
/-- the same certificate, wherever its marks lie -/
structure Crt.same (x y : Crt) : Prop where
 height : x.height = y.height
 round : x.round = y.round
 id : x.id = y.id
 ms : x.ms = y.ms
theorem crt_sd : SD encCrt (fun x => x.ok ∧ CrtB x) Crt.same := fun x y r s ⟨hx, bx⟩ ⟨hy, b_y⟩ h => by
 unfold encCrt at h
 rw [hx.n, hy.n] at h
 simp only [List.append_assoc] at h
 obtain ⟨h1, h⟩ := int_sd (nz hx.height) (nz hy.height) h
 obtain ⟨h2, h⟩ := int_sd bx.r1 b_y.r1 h
 obtain ⟨h3, h⟩ := raw_sd hx.id hy.id h
 obtain ⟨h4, h⟩ := list_sd mk_sd x.ms y.ms r s (fun m hm => ⟨hx.ms m hm, bx.ms m hm⟩) (fun m hm => ⟨hy.ms m hm, b_y.ms m hm⟩) (by simpa only [List.append_assoc] using h)
 exact ⟨⟨h1, h2, h3, h4.eq⟩, h⟩
theorem ev_sd : SD formEv (fun x => x.ok ∧ VoteB x.a ∧ VoteB x.b) Eq := fun x y r s ⟨hx, bx, cx⟩ ⟨hy, b_y, cy⟩ h => by
 have h : formVote x.a ++ (formVote x.b ++ r) = formVote y.a ++ (formVote y.b ++ s) := by
  unfold formVote
  simpa only [formEv, fvE, List.append_assoc] using h
 obtain ⟨h1, h⟩ := vote_sd x.a y.a _ _ ⟨hx.a, bx⟩ ⟨hy.a, b_y⟩ h
 obtain ⟨h2, h⟩ := vote_sd x.b y.b _ _ ⟨hx.b, cx⟩ ⟨hy.b, cy⟩ h
 refine ⟨?_, h⟩
 cases x; cases y
 simp_all
theorem hdr_sd : SD encHdr (fun x => x.ok) Eq := fun x y r s hx hy h => by
 unfold encHdr at h
 simp only [List.append_assoc] at h
 obtain ⟨h1, h⟩ := varB_sd _ _ _ _ h
 obtain ⟨h2, h⟩ := raw_sd (n := x.chain.size) (by simp) (by rw [h1]; simp) h
 obtain ⟨h3, h⟩ := int_sd (nz hx.height) (nz hy.height) h
 obtain ⟨h4, h⟩ := int_sd (nz hx.time) (nz hy.time) h
 obtain ⟨h5, h⟩ := raw_sd hx.hh hy.hh h
 obtain ⟨h6, h⟩ := int_sd (nz hx.prop) (nz hy.prop) h
 refine ⟨?_, h⟩
 have h7 : x.chain = y.chain := by
  cases hxc : x.chain; cases hyc : y.chain
  rw [hxc, hyc] at h2
  congr 1
  exact Array.ext' h2
 cases x; cases y
 simp_all
def formBlk (x : Blk) : List UInt8 := encHdr x.hd ++ (varB x.tn ++ x.ts.flatMap formTx) ++ (varB x.en ++ x.es.flatMap formEv) ++ encCrt x.ct
structure BlkB (x : Blk) : Prop where
 hd : HdrB x.hd
 tn : x.tn ≤ 1000
 ts : ∀ t ∈ x.ts, TxB t
 en : x.en ≤ 16
 es : ∀ e ∈ x.es, VoteB e.a ∧ VoteB e.b
 ct : CrtB x.ct
structure Blk.same (x y : Blk) : Prop where
 hd : x.hd = y.hd
 ts : x.ts = y.ts
 es : x.es = y.es
 ct : x.ct.same y.ct
theorem blk_sd : SD formBlk (fun x => x.ok ∧ BlkB x) Blk.same := fun x y r s ⟨hx, bx⟩ ⟨hy, b_y⟩ h => by
 unfold formBlk at h
 rw [hx.tn, hy.tn, hx.en, hy.en] at h
 simp only [List.append_assoc] at h
 obtain ⟨h1, h⟩ := hdr_sd x.hd y.hd _ _ hx.hd hy.hd h
 obtain ⟨h2, h⟩ := list_sd tx_sd x.ts y.ts _ _ (fun t ht => ⟨hx.ts t ht, bx.ts t ht⟩) (fun t ht => ⟨hy.ts t ht, b_y.ts t ht⟩) (by simpa only [List.append_assoc] using h)
 obtain ⟨h3, h⟩ := list_sd ev_sd x.es y.es _ _ (fun t ht => ⟨hx.es t ht, bx.es t ht⟩) (fun t ht => ⟨hy.es t ht, b_y.es t ht⟩) (by simpa only [List.append_assoc] using h)
 obtain ⟨h4, h⟩ := crt_sd x.ct y.ct _ _ ⟨hx.ct, bx.ct⟩ ⟨hy.ct, b_y.ct⟩ h
 exact ⟨⟨h1, h2.eq, h3.eq, h4⟩, h⟩
-- ---- how long
theorem int_le {n : Int} {k : Nat} (h : n < (128 : Int) ^ k) (h0 : 0 ≤ n) (hk : 1 ≤ k) : (varB n.toNat).length ≤ k := varB_le (by
 have e : ((128 ^ k : Nat) : Int) = (128 : Int) ^ k := by simp
 omega) hk
theorem u64_le {n : Int} (h : U64 n) : (varB n.toNat).length ≤ 10 := varB_int h.1 (by unfold two64; exact h.2)
theorem formTx_67 {x : Tx} (hx : x.ok) : (formTx x).length ≤ 67 := by
 have h1 := u64_le hx.frm
 have h2 := u64_le hx.to
 have h3 := u64_le hx.amount
 have h4 := u64_le hx.fee
 have h5 := u64_le hx.nonce
 have h6 := hx.sl
 unfold formTx encTx
 simp only [List.length_append, List.length_cons, List.length_nil]
 omega
theorem formVote_83 {x : Vote} (hx : x.ok) (hp : VoteB x) : (formVote x).length ≤ 76 := by
 have h1 := int_le (n := x.height) (k := 6) (by have := hp.h2; omega) (nz hx.height) (by omega)
 have h2 := int_le (n := x.round) (k := 3) (by have := hp.r2; omega) hp.r1 (by omega)
 have h3 := int_le (n := x.time) (k := 8) (by have := hp.t2; omega) (nz hx.time) (by omega)
 have h4 := u64_le hx.frm
 have h5 := hx.sl
 have h6 := hx.id
 unfold formVote encVote
 simp only [List.length_append, List.length_cons, List.length_nil]
 omega
theorem formProposal_83 {x : Proposal} (hx : x.ok) (hp : ProposalB x) : (formProposal x).length ≤ 70 := by
 have h1 := int_le (n := x.height) (k := 6) (by have := hp.h2; omega) (nz hx.height) (by omega)
 have h2 := int_le (n := x.round) (k := 3) (by have := hp.r2; omega) hp.r1 (by omega)
 have h3 := int_le (n := x.valid + 1) (k := 3) (by have := hp.v2; have := hp.r2; omega) (by have := hp.v1; omega) (by omega)
 have h4 := u64_le hx.frm
 have h5 := hx.sl
 have h6 := hx.id
 unfold formProposal encProposal
 simp only [List.length_append, List.length_cons, List.length_nil]
 omega
theorem encMk_30 {m : Mk} (hm : m.ok) (hp : MkB m) : (encMk m).length ≤ 25 := by
 have h1 := int_le (n := m.idx) (k := 1) (by have := hp.i2; omega) hp.i1 (by omega)
 have h3 := int_le (n := m.time) (k := 8) (by have := hp.t2; omega) hp.t1 (by omega)
 have h5 := hm.sl
 unfold encMk
 simp only [List.length_append]
 omega
theorem flat_le {α : Type} {enc : α → List UInt8} {L : Nat} : ∀ {l : List α}, (∀ x ∈ l, (enc x).length ≤ L) → (l.flatMap enc).length ≤ L * l.length
 | [], _ => by simp
 | x :: l, h => by
  rw [List.flatMap_cons, List.length_append, List.length_cons, Nat.mul_add, Nat.mul_one]
  have h1 := h x (List.mem_cons_self ..)
  have h2 := flat_le (l := l) fun y hy => h y (List.mem_cons_of_mem _ hy)
  omega
theorem encCrt_1980 {x : Crt} (hx : x.ok) (hp : CrtB x) : (encCrt x).length ≤ 1642 := by
 have h1 := int_le (n := x.height) (k := 6) (by have := hp.h2; omega) (nz hx.height) (by omega)
 have h2 := int_le (n := x.round) (k := 3) (by have := hp.r2; omega) hp.r1 (by omega)
 have h3 := varB_le (n := x.n) (k := 1) (by have := hp.n; omega) (by omega)
 have h4 := flat_le (enc := encMk) (L := 25) (l := x.ms) fun m hm => encMk_30 (hx.ms m hm) (hp.ms m hm)
 have h5 := hx.id
 have h6 := hx.n
 have h7 := hp.n
 unfold encCrt
 simp only [List.length_append]
 omega
theorem formEv_166 {x : Ev} (hx : x.ok) (ha : VoteB x.a) (hb : VoteB x.b) : (formEv x).length ≤ 152 := by
 have h1 := formVote_83 hx.a ha
 have h2 := formVote_83 hx.b hb
 unfold formVote at h1 h2
 unfold formEv fvE
 rw [List.length_append]
 omega
theorem encHdr_350 {x : Hdr} (hx : x.ok) (hp : HdrB x) : (encHdr x).length ≤ 280 := by
 have h1 := u64_le hx.height
 have h2 := u64_le hx.time
 have h3 := u64_le hx.prop
 have h4 := varB_le (n := x.chain.size) (k := 1) (by have := hp.c2; omega) (by omega)
 have h5 : x.chain.data.toList.length = x.chain.size := by simp
 have h6 := hp.c2
 have h7 := hx.hh
 unfold encHdr
 simp only [List.length_append]
 omega
theorem formBlk_131072 {x : Blk} (hx : x.ok) (hp : BlkB x) : (formBlk x).length ≤ 71500 := by
 have h1 := encHdr_350 hx.hd hp.hd
 have h2 := varB_le (n := x.tn) (k := 2) (by have := hp.tn; omega) (by omega)
 have h3 := flat_le (enc := formTx) (L := 67) (l := x.ts) fun m hm => formTx_67 (hx.ts m hm)
 have h4 := varB_le (n := x.en) (k := 1) (by have := hp.en; omega) (by omega)
 have h5 := flat_le (enc := formEv) (L := 152) (l := x.es) fun m hm => formEv_166 (hx.es m hm) (hp.es m hm).1 (hp.es m hm).2
 have h6 := encCrt_1980 hx.ct hp.ct
 have h7 := hx.tn
 have h8 := hx.en
 have h9 := hp.tn
 have h10 := hp.en
 unfold formBlk
 simp only [List.length_append]
 omega
end Go.Proofs.YtlhnhjglcbggmaaGreatRR
namespace Go.Proofs.YtlhnhjglcbggmaaGreatRR
set_option linter.unusedSimpArgs false
set_option linter.unusedVariables false
open Go.RowKit
set_option maxRecDepth 100000

structure EvB (x : Ev) : Prop where
 a : VoteB x.a
 b : VoteB x.b
theorem putTxs_take (ms : List Tx) (k : Nat) (hk : k < ms.length) : (ms.take (k + 1)).flatMap formTx = (ms.take k).flatMap formTx ++ formTx ms[k] := by
 rw [List.take_succ_eq_append_getElem hk, List.flatMap_append]; simp
theorem putTxs_len {ms : List Tx} (h : ∀ m ∈ ms, (formTx m).length ≤ 67) : ∀ k, ((ms.take k).flatMap formTx).length ≤ 67 * k := by
 intro k
 induction k with
 | zero => simp
 | succ k ih =>
  rcases Nat.lt_or_ge k ms.length with hl | hl
  ·rw [putTxs_take ms k hl, List.length_append]
   have := h _ (List.getElem_mem hl)
   omega
  ·rw [List.take_of_length_le (by omega)]
   rw [List.take_of_length_le (by omega)] at ih
   omega
set_option maxHeartbeats 1000000 in
theorem putTxs_any (w : World) (B g : Nat) (bs : List UInt8) (A : Option Addr) (n c : Nat) (ms : List Tx) (hm : ∀ m ∈ ms, Tx.ok m) (hp : ∀ m ∈ ms, TxB m) (hle : ∀ m ∈ ms, (formTx m).length ≤ 67) (hn : n = ms.length) (hl : n ≤ 1000) (hr : Rd w A (ms.flatMap Tx.cl)) (hA : ∀ ad, A = some ad → ms.flatMap Tx.cl ≠ [] → ad.block < B) (hB : B ≤ w.heap.size) (hw : Wr w B g bs) (hb : bs.length + 67 * n + 210 ≤ room46) :
  Calls Tryz.prog 93 #[.pointer (some ⟨g, 0, none⟩), .slice A n c, .func (.func 34) #[] #[]] w fun e w' => e = .returned (.tuple #[]) ∧ Wr w' B g (bs ++ (varB n ++ ms.flatMap formTx)) ∧ Eff B WrT w w' := by
 have HM := Lib.hid hm
 have HP := Lib.hid hp
 have HN := Lib.hid hn
 have HA := Lib.hid hA
 have HR := Lib.hid hr
 have HL := Lib.hid (putTxs_len hle)
 have HLN := Lib.hid (show ∀ m ∈ ms, (Tx.cl m).length = 22 from fun m h => m.cl_len (hm m h))
 have hv := varB_ten (n := n) (by unfold two64; omega)
 clear hm hp hn hA hr hle
 go_enter Tryz.func93, Tryz.ntmps93
 go_wp2_with (go_at_call 139; go_must (refine (count_any _ B g bs n hw (by omega) (by omega)).mono ?_); rintro e w1 ⟨rfl, hw1, e1⟩)
 have HW1 := Lib.hid hw1
 have HE1 := Lib.hid e1
 have HR1 := Lib.hid (rd_eff HR.out e1 hB HA.out)
 clear hw1 e1
 go_loopw [14] (fun i wr => ∃ k : Nat, k ≤ n ∧ i = .int .i64 (k : Int) ∧ Wr wr B g (bs ++ varB n ++ (ms.take k).flatMap formTx) ∧ Rd wr A (ms.flatMap Tx.cl) ∧ Eff B WrT w wr) (fun i _ => n - (intOf i).toNat)
 case atStart => exact ⟨0, by omega, rfl, by simpa using HW1.out, HR1.out, HE1.out⟩
 case round =>
  clear HW1 HE1 HR1
  obtain ⟨k, hk, rfl, hw2, hr2, e2⟩ := hrel
  have HW2 := Lib.hid hw2
  have HR2 := Lib.hid hr2
  have HE2 := Lib.hid e2
  clear hw2 hr2 e2
  by_cases hlt : k < n
  ·have hkl : k < ms.length := by rw [← HN.out]; exact hlt
   obtain ⟨ad, hA, hcell⟩ := rd_elem (by omega) HLN.out HR2.out hkl
   obtain ⟨m, hmk⟩ : ∃ m, ms[k] = m := ⟨_, rfl⟩
   have hmem : m ∈ ms := by rw [← hmk]; exact List.getElem_mem hkl
   have HMO := Lib.hid (HM.out m hmem)
   have HMP := Lib.hid (HP.out m hmem)
   have HML := Lib.hid (HLN.out m hmem)
   have HT := Lib.hid (show (ms.take (k + 1)).flatMap formTx = (ms.take k).flatMap formTx ++ formTx m by rw [putTxs_take ms k hkl, hmk])
   rw [hmk] at hcell
   subst hA
   have HC := Lib.hid hcell
   clear hcell hmem hmk
   have hi1 : (k : Int) < n := by omega
   go_wp2_with (first
    | (with_reducible show wpList _ _ _ (Oper.mk (some 17) (Op.load _ _) _ _ _ _ :: _) _ _; go_must (refine wpList_load_at rfl 27 _ rfl (ad.add (k * 22)) 22 rfl (Tx.cl m) HC.out _ Tryz.underlying27 rfl info_Tx HML.out ?_))
    | (with_reducible show wpList _ _ _ (Oper.mk _ (Op.alloc _) _ _ _ _ :: _) _ _; refine wpList_alloc_i rfl 27 rfl (.agg zeroTxC.toArray) zero_TxC ?_))
   intro r w6 h6 hl6 hg6 hs6
   have H6 := Lib.hid h6
   have HL6 := Lib.hid hl6
   have HG6 := Lib.hid hg6
   have HSZ := Lib.hid (show (Tx.cl m).toArray.size = 22 by rw [List.size_toArray, HML.out])
   clear h6 hl6 hg6 hs6
   go_wp2_with (with_reducible show wpList _ _ _ (Oper.mk _ (Op.store 27 _ _) _ _ _ _ :: _) _ _; go_must (refine wpList_store_bk rfl 27 _ _ rfl r rfl (.agg (Tx.cl m).toArray) rfl _ _ H6.out (by rw [agg_sz HSZ.out]; exact info_Tx) (by rw [agg_sz HSZ.out]; exact by rw [List.size_toArray, zeroTxC_len]) (tx_one m) ?_))
   intro w7 h7 hg7 hs7
   have HL7 := Lib.hid (below_grown2 HL6.out hg7 HG6.out HL6.out.size)
   have H7 := Lib.hid (show Bk w7 r (Tx.cl m).toArray 27 from h7)
   have HW7 := Lib.hid (HW2.out.below HL7.out)
   have HR7 := Lib.hid (HR2.out.below HL7.out)
   have HS7 := Lib.hid (show B ≤ w7.heap.size by have := HE2.out.size; have := HL7.out.size; omega)
   clear h7 hg7 hs7
   go_wp2_with (with_reducible show wpList _ _ _ (Oper.mk (some 20) (Op.load _ _) _ _ _ _ :: _) _ _; go_must (refine wpList_load_part rfl 27 _ rfl r 0 22 rfl _ _ _ H7.out Tryz.underlying27 rfl info_Tx (by rw [HSZ.out]; omega) (Tx.cl m).toArray (arr_all HSZ.out) ?_); go_wp2_with fail)
   refine (putSealedTx_any _ B g _ m HMO.out HMP.out HW7.out (by simp only [List.length_append]; have h1 := HL.out k; have h2 : 67 * k ≤ 67 * n := Nat.mul_le_mul_left _ hk; omega)).mono ?_
   rintro e w8 ⟨rfl, hw8, e8⟩
   have HW8 := Lib.hid hw8
   have HR8 := Lib.hid (rd_eff HR7.out e8 HS7.out HA.out)
   have HE8 := Lib.hid (HE2.out.trans ((Eff.of_below HL7.out _ _).trans e8))
   clear hw8 e8
   go_wp2
   go_round
   case rel => exact ⟨k + 1, by omega, by go_num, by rw [HT.out, ← List.append_assoc]; exact HW8.out, HR8.out, HE8.out⟩
   case measure => simp [intOf]; omega
  ·have hk7 : k = n := by omega
   subst hk7
   have HT := Lib.hid (show ms.take k = ms from List.take_of_length_le (by rw [HN.out]; exact Nat.le_refl _))
   rw [HT.out] at HW2
   go_wp2
   go_end0
   refine ⟨rfl, ?_, HE2.out⟩
   simpa only [List.append_assoc] using HW2.out
theorem putEvs_take (ms : List Ev) (k : Nat) (hk : k < ms.length) : (ms.take (k + 1)).flatMap formEv = (ms.take k).flatMap formEv ++ formEv ms[k] := by
 rw [List.take_succ_eq_append_getElem hk, List.flatMap_append]; simp
theorem putEvs_len {ms : List Ev} (h : ∀ m ∈ ms, (formEv m).length ≤ 166) : ∀ k, ((ms.take k).flatMap formEv).length ≤ 166 * k := by
 intro k
 induction k with
 | zero => simp
 | succ k ih =>
  rcases Nat.lt_or_ge k ms.length with hl | hl
  ·rw [putEvs_take ms k hl, List.length_append]
   have := h _ (List.getElem_mem hl)
   omega
  ·rw [List.take_of_length_le (by omega)]
   rw [List.take_of_length_le (by omega)] at ih
   omega
set_option maxHeartbeats 1000000 in
theorem putEvs_any (w : World) (B g : Nat) (bs : List UInt8) (A : Option Addr) (n c : Nat) (ms : List Ev) (hm : ∀ m ∈ ms, Ev.ok m) (hp : ∀ m ∈ ms, EvB m) (hle : ∀ m ∈ ms, (formEv m).length ≤ 166) (hn : n = ms.length) (hl : n ≤ 1000) (hr : Rd w A (ms.flatMap Ev.cl)) (hA : ∀ ad, A = some ad → ms.flatMap Ev.cl ≠ [] → ad.block < B) (hB : B ≤ w.heap.size) (hw : Wr w B g bs) (hb : bs.length + 166 * n + 610 ≤ room46) :
  Calls Tryz.prog 94 #[.pointer (some ⟨g, 0, none⟩), .slice A n c, .func (.func 43) #[] #[]] w fun e w' => e = .returned (.tuple #[]) ∧ Wr w' B g (bs ++ (varB n ++ ms.flatMap formEv)) ∧ Eff B WrT w w' := by
 have HM := Lib.hid hm
 have HP := Lib.hid hp
 have HN := Lib.hid hn
 have HA := Lib.hid hA
 have HR := Lib.hid hr
 have HL := Lib.hid (putEvs_len hle)
 have HLN := Lib.hid (show ∀ m ∈ ms, (Ev.cl m).length = 106 from fun m h => m.cl_len (hm m h))
 have hv := varB_ten (n := n) (by unfold two64; omega)
 clear hm hp hn hA hr hle
 go_enter Tryz.func94, Tryz.ntmps94
 go_wp2_with (go_at_call 139; go_must (refine (count_any _ B g bs n hw (by omega) (by omega)).mono ?_); rintro e w1 ⟨rfl, hw1, e1⟩)
 have HW1 := Lib.hid hw1
 have HE1 := Lib.hid e1
 have HR1 := Lib.hid (rd_eff HR.out e1 hB HA.out)
 clear hw1 e1
 go_loopw [14] (fun i wr => ∃ k : Nat, k ≤ n ∧ i = .int .i64 (k : Int) ∧ Wr wr B g (bs ++ varB n ++ (ms.take k).flatMap formEv) ∧ Rd wr A (ms.flatMap Ev.cl) ∧ Eff B WrT w wr) (fun i _ => n - (intOf i).toNat)
 case atStart => exact ⟨0, by omega, rfl, by simpa using HW1.out, HR1.out, HE1.out⟩
 case round =>
  clear HW1 HE1 HR1
  obtain ⟨k, hk, rfl, hw2, hr2, e2⟩ := hrel
  have HW2 := Lib.hid hw2
  have HR2 := Lib.hid hr2
  have HE2 := Lib.hid e2
  clear hw2 hr2 e2
  by_cases hlt : k < n
  ·have hkl : k < ms.length := by rw [← HN.out]; exact hlt
   obtain ⟨ad, hA, hcell⟩ := rd_elem (by omega) HLN.out HR2.out hkl
   obtain ⟨m, hmk⟩ : ∃ m, ms[k] = m := ⟨_, rfl⟩
   have hmem : m ∈ ms := by rw [← hmk]; exact List.getElem_mem hkl
   have HMO := Lib.hid (HM.out m hmem)
   have HMP := Lib.hid (HP.out m hmem)
   have HML := Lib.hid (HLN.out m hmem)
   have HT := Lib.hid (show (ms.take (k + 1)).flatMap formEv = (ms.take k).flatMap formEv ++ formEv m by rw [putEvs_take ms k hkl, hmk])
   rw [hmk] at hcell
   subst hA
   have HC := Lib.hid hcell
   clear hcell hmem hmk
   have hi1 : (k : Int) < n := by omega
   go_wp2_with (first
    | (with_reducible show wpList _ _ _ (Oper.mk (some 17) (Op.load _ _) _ _ _ _ :: _) _ _; go_must (refine wpList_load_at rfl 38 _ rfl (ad.add (k * 106)) 106 rfl (Ev.cl m) HC.out _ Tryz.underlying38 rfl info_Ev HML.out ?_))
    | (with_reducible show wpList _ _ _ (Oper.mk _ (Op.alloc _) _ _ _ _ :: _) _ _; refine wpList_alloc_i rfl 38 rfl (.agg zeroEvC.toArray) zero_EvC ?_))
   intro r w6 h6 hl6 hg6 hs6
   have H6 := Lib.hid h6
   have HL6 := Lib.hid hl6
   have HG6 := Lib.hid hg6
   have HSZ := Lib.hid (show (Ev.cl m).toArray.size = 106 by rw [List.size_toArray, HML.out])
   clear h6 hl6 hg6 hs6
   go_wp2_with (with_reducible show wpList _ _ _ (Oper.mk _ (Op.store 38 _ _) _ _ _ _ :: _) _ _; go_must (refine wpList_store_bk rfl 38 _ _ rfl r rfl (.agg (Ev.cl m).toArray) rfl _ _ H6.out (by rw [agg_sz HSZ.out]; exact info_Ev) (by rw [agg_sz HSZ.out]; exact by rw [List.size_toArray, zeroEvC_len]) (ev_one m) ?_))
   intro w7 h7 hg7 hs7
   have HL7 := Lib.hid (below_grown2 HL6.out hg7 HG6.out HL6.out.size)
   have H7 := Lib.hid (show Bk w7 r (Ev.cl m).toArray 38 from h7)
   have HW7 := Lib.hid (HW2.out.below HL7.out)
   have HR7 := Lib.hid (HR2.out.below HL7.out)
   have HS7 := Lib.hid (show B ≤ w7.heap.size by have := HE2.out.size; have := HL7.out.size; omega)
   clear h7 hg7 hs7
   go_wp2_with (with_reducible show wpList _ _ _ (Oper.mk (some 20) (Op.load _ _) _ _ _ _ :: _) _ _; go_must (refine wpList_load_part rfl 38 _ rfl r 0 106 rfl _ _ _ H7.out Tryz.underlying38 rfl info_Ev (by rw [HSZ.out]; omega) (Ev.cl m).toArray (arr_all HSZ.out) ?_); go_wp2_with fail)
   refine (putEvidence_any _ B g _ m HMO.out HMP.out.a HMP.out.b HW7.out (by simp only [List.length_append]; have h1 := HL.out k; have h2 : 166 * k ≤ 166 * n := Nat.mul_le_mul_left _ hk; omega)).mono ?_
   rintro e w8 ⟨rfl, hw8, e8⟩
   have HW8 := Lib.hid hw8
   have HR8 := Lib.hid (rd_eff HR7.out e8 HS7.out HA.out)
   have HE8 := Lib.hid (HE2.out.trans ((Eff.of_below HL7.out _ _).trans e8))
   clear hw8 e8
   go_wp2
   go_round
   case rel => exact ⟨k + 1, by omega, by go_num, by rw [HT.out, ← List.append_assoc]; exact HW8.out, HR8.out, HE8.out⟩
   case measure => simp [intOf]; omega
  ·have hk7 : k = n := by omega
   subst hk7
   have HT := Lib.hid (show ms.take k = ms from List.take_of_length_le (by rw [HN.out]; exact Nat.le_refl _))
   rw [HT.out] at HW2
   go_wp2
   go_end0
   refine ⟨rfl, ?_, HE2.out⟩
   simpa only [List.append_assoc] using HW2.out
theorem putVotes_take (ms : List Vote) (k : Nat) (hk : k < ms.length) : (ms.take (k + 1)).flatMap formVote = (ms.take k).flatMap formVote ++ formVote ms[k] := by
 rw [List.take_succ_eq_append_getElem hk, List.flatMap_append]; simp
theorem putVotes_len {ms : List Vote} (h : ∀ m ∈ ms, (formVote m).length ≤ 83) : ∀ k, ((ms.take k).flatMap formVote).length ≤ 83 * k := by
 intro k
 induction k with
 | zero => simp
 | succ k ih =>
  rcases Nat.lt_or_ge k ms.length with hl | hl
  ·rw [putVotes_take ms k hl, List.length_append]
   have := h _ (List.getElem_mem hl)
   omega
  ·rw [List.take_of_length_le (by omega)]
   rw [List.take_of_length_le (by omega)] at ih
   omega
set_option maxHeartbeats 1000000 in
theorem putVotes_any (w : World) (B g : Nat) (bs : List UInt8) (A : Option Addr) (n c : Nat) (ms : List Vote) (hm : ∀ m ∈ ms, Vote.ok m) (hp : ∀ m ∈ ms, VoteB m) (hle : ∀ m ∈ ms, (formVote m).length ≤ 83) (hn : n = ms.length) (hl : n ≤ 1000) (hr : Rd w A (ms.flatMap Vote.cl)) (hA : ∀ ad, A = some ad → ms.flatMap Vote.cl ≠ [] → ad.block < B) (hB : B ≤ w.heap.size) (hw : Wr w B g bs) (hb : bs.length + 83 * n + 210 ≤ room46) :
  Calls Tryz.prog 198 #[.pointer (some ⟨g, 0, none⟩), .slice A n c, .func (.func 29) #[] #[]] w fun e w' => e = .returned (.tuple #[]) ∧ Wr w' B g (bs ++ (varB n ++ ms.flatMap formVote)) ∧ Eff B WrT w w' := by
 have HM := Lib.hid hm
 have HP := Lib.hid hp
 have HN := Lib.hid hn
 have HA := Lib.hid hA
 have HR := Lib.hid hr
 have HL := Lib.hid (putVotes_len hle)
 have HLN := Lib.hid (show ∀ m ∈ ms, (Vote.cl m).length = 53 from fun m h => m.cl_len (hm m h))
 have hv := varB_ten (n := n) (by unfold two64; omega)
 clear hm hp hn hA hr hle
 go_enter Tryz.func198, Tryz.ntmps198
 go_wp2_with (go_at_call 139; go_must (refine (count_any _ B g bs n hw (by omega) (by omega)).mono ?_); rintro e w1 ⟨rfl, hw1, e1⟩)
 have HW1 := Lib.hid hw1
 have HE1 := Lib.hid e1
 have HR1 := Lib.hid (rd_eff HR.out e1 hB HA.out)
 clear hw1 e1
 go_loopw [14] (fun i wr => ∃ k : Nat, k ≤ n ∧ i = .int .i64 (k : Int) ∧ Wr wr B g (bs ++ varB n ++ (ms.take k).flatMap formVote) ∧ Rd wr A (ms.flatMap Vote.cl) ∧ Eff B WrT w wr) (fun i _ => n - (intOf i).toNat)
 case atStart => exact ⟨0, by omega, rfl, by simpa using HW1.out, HR1.out, HE1.out⟩
 case round =>
  clear HW1 HE1 HR1
  obtain ⟨k, hk, rfl, hw2, hr2, e2⟩ := hrel
  have HW2 := Lib.hid hw2
  have HR2 := Lib.hid hr2
  have HE2 := Lib.hid e2
  clear hw2 hr2 e2
  by_cases hlt : k < n
  ·have hkl : k < ms.length := by rw [← HN.out]; exact hlt
   obtain ⟨ad, hA, hcell⟩ := rd_elem (by omega) HLN.out HR2.out hkl
   obtain ⟨m, hmk⟩ : ∃ m, ms[k] = m := ⟨_, rfl⟩
   have hmem : m ∈ ms := by rw [← hmk]; exact List.getElem_mem hkl
   have HMO := Lib.hid (HM.out m hmem)
   have HMP := Lib.hid (HP.out m hmem)
   have HML := Lib.hid (HLN.out m hmem)
   have HT := Lib.hid (show (ms.take (k + 1)).flatMap formVote = (ms.take k).flatMap formVote ++ formVote m by rw [putVotes_take ms k hkl, hmk])
   rw [hmk] at hcell
   subst hA
   have HC := Lib.hid hcell
   clear hcell hmem hmk
   have hi1 : (k : Int) < n := by omega
   go_wp2_with (first
    | (with_reducible show wpList _ _ _ (Oper.mk (some 17) (Op.load _ _) _ _ _ _ :: _) _ _; go_must (refine wpList_load_at rfl 31 _ rfl (ad.add (k * 53)) 53 rfl (Vote.cl m) HC.out _ Tryz.underlying31 rfl info_Vote HML.out ?_))
    | (with_reducible show wpList _ _ _ (Oper.mk _ (Op.alloc _) _ _ _ _ :: _) _ _; refine wpList_alloc_i rfl 31 rfl (.agg zeroVote.toArray) zero_Vote ?_))
   intro r w6 h6 hl6 hg6 hs6
   have H6 := Lib.hid h6
   have HL6 := Lib.hid hl6
   have HG6 := Lib.hid hg6
   have HSZ := Lib.hid (show (Vote.cl m).toArray.size = 53 by rw [List.size_toArray, HML.out])
   clear h6 hl6 hg6 hs6
   go_wp2_with (with_reducible show wpList _ _ _ (Oper.mk _ (Op.store 31 _ _) _ _ _ _ :: _) _ _; go_must (refine wpList_store_bk rfl 31 _ _ rfl r rfl (.agg (Vote.cl m).toArray) rfl _ _ H6.out (by rw [agg_sz HSZ.out]; exact info_Vote) (by rw [agg_sz HSZ.out]; exact by rw [List.size_toArray, zeroVote_len]) (vote_one m) ?_))
   intro w7 h7 hg7 hs7
   have HL7 := Lib.hid (below_grown2 HL6.out hg7 HG6.out HL6.out.size)
   have H7 := Lib.hid (show Bk w7 r (Vote.cl m).toArray 31 from h7)
   have HW7 := Lib.hid (HW2.out.below HL7.out)
   have HR7 := Lib.hid (HR2.out.below HL7.out)
   have HS7 := Lib.hid (show B ≤ w7.heap.size by have := HE2.out.size; have := HL7.out.size; omega)
   clear h7 hg7 hs7
   go_wp2_with (with_reducible show wpList _ _ _ (Oper.mk (some 20) (Op.load _ _) _ _ _ _ :: _) _ _; go_must (refine wpList_load_part rfl 31 _ rfl r 0 53 rfl _ _ _ H7.out Tryz.underlying31 rfl info_Vote (by rw [HSZ.out]; omega) (Vote.cl m).toArray (arr_all HSZ.out) ?_); go_wp2_with fail)
   refine (putSealedVote_any _ B g _ m HMO.out HMP.out HW7.out (by simp only [List.length_append]; have h1 := HL.out k; have h2 : 83 * k ≤ 83 * n := Nat.mul_le_mul_left _ hk; omega)).mono ?_
   rintro e w8 ⟨rfl, hw8, e8⟩
   have HW8 := Lib.hid hw8
   have HR8 := Lib.hid (rd_eff HR7.out e8 HS7.out HA.out)
   have HE8 := Lib.hid (HE2.out.trans ((Eff.of_below HL7.out _ _).trans e8))
   clear hw8 e8
   go_wp2
   go_round
   case rel => exact ⟨k + 1, by omega, by go_num, by rw [HT.out, ← List.append_assoc]; exact HW8.out, HR8.out, HE8.out⟩
   case measure => simp [intOf]; omega
  ·have hk7 : k = n := by omega
   subst hk7
   have HT := Lib.hid (show ms.take k = ms from List.take_of_length_le (by rw [HN.out]; exact Nat.le_refl _))
   rw [HT.out] at HW2
   go_wp2
   go_end0
   refine ⟨rfl, ?_, HE2.out⟩
   simpa only [List.append_assoc] using HW2.out
end Go.Proofs.YtlhnhjglcbggmaaGreatRR

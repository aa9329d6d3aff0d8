/-
  The document's own TxBytes, VoteBytes, ProposalBytes: the same error or bytes as package wire's. Condition: each number fits its kind.
  The reference's TxId. Conditions: each number fits its kind; the table reads as it was laid.
  The reference's TxId. Conditions: each number fits its kind; the table reads as it was laid.
-/
import Derived.Test.YtjdegphpalhapaaDoorKRef4
import Derived.Test.YtjdegphpalhapaaDoorK18
namespace Go.Proofs.YtjdegphpalhapaaDoor
set_option linter.unusedSimpArgs false
set_option linter.unusedVariables false
open Go.RowKit
set_option maxRecDepth 100000

theorem firstErr_nil : firstErr [] = 0 := rfl
theorem firstErr_cons (a : Int) (l : List Int) : firstErr (a :: l) = if a = 0 then firstErr l else a := by
  by_cases h : a = 0
  · subst h; simp [firstErr]
  · simp [firstErr, h]
set_option maxHeartbeats 4000000 in
theorem plainTxR_eq (x : Tx) : plainTxR x = plainTx x := by
  unfold plainTxR plainTx kind amount field
  simp only [firstErr_cons, firstErr_nil]
  by_cases h1 : x.kind < 1
  · simp [h1]
  by_cases h2 : 4 < x.kind
  · simp [h1, h2]
  rcases e3 : (x.frm == 0) with _ | _
  case true => simp [h1, h2, e3]
  rcases e4 : (x.kind == 1) with _ | _ <;> rcases e5 : (x.to == 0) with _ | _ <;> rcases e7 : (x.kind == 4) with _ | _ <;> rcases e8 : (x.amount == 0) with _ | _ <;> by_cases h6 : 1152921504606846975 < x.amount <;> by_cases h9 : 1152921504606846975 < x.fee <;> simp [h1, h2, e3, e4, e5, h6, e7, e8, h9, bne]
theorem kind_two (k : Int) : (k != 1 && k != 2) = decide (k < 1 ∨ 2 < k) := by
  by_cases h1 : k = 1
  · subst h1; rfl
  · by_cases h2 : k = 2
    · subst h2; rfl
    · rw [decide_eq_true (by omega)]; simp [h1, h2]
set_option maxHeartbeats 4000000 in
theorem plainVoteR_eq (x : Vote) : plainVoteR x = plainVote x := by
  unfold plainVoteR plainVote
  rw [kind_two]
  unfold kind height round moment field
  simp only [firstErr_cons, firstErr_nil]
  by_cases h1 : x.kind < 1 ∨ 2 < x.kind
  · simp [h1]
  by_cases h2 : x.height < 1 ∨ 1099511627776 < x.height
  · simp [h1, h2]
  by_cases h3 : x.round < 0 ∨ 65535 < x.round
  · simp [h1, h2, h3]
  by_cases h4 : 1125899906842624 < x.time
  · simp [h1, h2, h3, h4]
  rcases e5 : (x.time == 0) with _ | _ <;> rcases e6 : (x.kind == 1) with _ | _ <;> rcases e7 : (x.id == zeros 32) with _ | _ <;> rcases e8 : (x.frm == 0) with _ | _ <;> simp [h1, h2, h3, h4, e5, e6, e7, e8, bne]
set_option maxHeartbeats 4000000 in
theorem plainProposalR_eq (x : Proposal) : plainProposalR x = plainProposal x := by
  unfold plainProposalR plainProposal height round field
  simp only [firstErr_cons, firstErr_nil]
  by_cases h2 : x.height < 1 ∨ 1099511627776 < x.height
  · simp [h2]
  by_cases h3 : x.round < 0 ∨ 65535 < x.round
  · simp [h2, h3]
  by_cases h4 : x.valid < -1 <;> by_cases h5 : x.round ≤ x.valid <;> rcases e7 : (x.id == zeros 32) with _ | _ <;> rcases e8 : (x.frm == 0) with _ | _ <;> simp [h2, h3, h4, h5, e7, e8]

/-- a slice of one byte, full -/
def OneK (b : UInt8) : Known := fun v w => ∃ g, v = .slice (some ⟨g, 0, none⟩) 1 1 ∧ w.cell? ⟨g, 0, none⟩ = some (.int .u8 b.toNat) ∧ g < w.heap.size
theorem OneK.steady (b : UInt8) : Steady (OneK b) := fun _ _ _ ⟨g, h1, h2, h3⟩ hb => ⟨g, h1, (hb.cell h3).trans h2, Nat.lt_of_lt_of_le h3 hb.size⟩
def BsK (B : Nat) (l : List UInt8) : Known := fun v w => Bs w B v l
theorem BsK.steady (B : Nat) (l : List UInt8) : Steady (BsK B l) := fun _ _ _ h hb => Bs.below h hb
/-- append onto a full slice of one byte: into new memory -/
theorem wpList_app_one {ops : Array Oper} {rest : List Oper} {o : Oper} {a : Act} {w : World} {Q : Exit → Act → World → Prop} (hgd : o.guard = none) (s x : Operand)
    (ho : o.op = .call { callee := .builtin .append, args := #[s, x], argTypes := #[57, 57] }) (g : Nat) (b : UInt8) (hs : a.eval s = .slice (some ⟨g, 0, none⟩) 1 1) (hc : w.cell? ⟨g, 0, none⟩ = some (.int .u8 b.toNat))
    (A : Option Addr) (n c : Nat) (l2 : List UInt8) (hx : a.eval x = .slice A n c) (hn : l2.length = n) (hr : Rd w A (bv l2)) (hne : 1 ≤ l2.length) (hlen : l2.length ≤ reach47)
    (h : ∀ v' w', Bs w' w.heap.size v' (b :: l2) → Below w.heap.size w w' → wpList Tryd.prog ops Q rest (a.put o.dst v') w') : wpList Tryd.prog ops Q (o :: rest) a w := by
  obtain ⟨i0, hi, hz0, hz1, hz2⟩ := info_u8'
  subst hn
  have hA : ∃ ad, A = some ad := by
    cases l2 with
    | nil => simp at hne
    | cons u l =>
      obtain ⟨ad, ha, _⟩ := hr 0 _ rfl
      exact ⟨ad, ha⟩
  obtain ⟨ad, rfl⟩ := hA
  refine wpList_append_grows w hgd s x 57 ho 5 i0 (.int .u8 0) 1 1 Tryd.underlying57 hi hz0 hz1 hz2 rfl (by decide) (some ⟨g, 0, none⟩) 1 1 (bv [b]) hs (by intro h; cases h) (by simp [bv]) ?_ ad _ c (bv l2) hx (by rw [bv_length, Nat.mul_one]) ?_ (bv_one _) (by omega) (by unfold reach47 at hlen; unfold maxLen; omega) (by unfold reach47 at hlen; omega) ?_
  · intro bb hb j u hu
    cases hb
    cases j with
    | zero => simp only [bv, List.map_cons, List.map_nil, List.getElem?_cons_zero, Option.some.injEq] at hu; rw [addr_add, ← hu]; exact hc
    | succ j => simp [bv] at hu
  · intro j u hu
    obtain ⟨ad', he, hcc⟩ := hr j u hu
    cases he
    exact hcc
  · intro v' w' hown hg
    refine h v' w' ?_ ((Below.refl _ _).grown hg (Nat.le_refl _) (by intro k hk; cases hk))
    unfold Bs
    rw [show (b :: l2).length = 1 + l2.length by simp; omega]
    simpa [bv] using hown
theorem named_zero {n : Nat} (h : (named n == 0) = true) : 1 ≤ n ∧ n ≤ 16 := by
  have := of_decide_eq_false (field_zero (by simpa using h : named n = 0))
  omega
theorem named_err {n : Nat} (h : (named n == 0) = false) : named n = 41 := by
  by_cases hh : n < 1 ∨ 16 < n
  · unfold named field; rw [decide_eq_true hh]; rfl
  · exfalso; unfold named field at h; rw [decide_eq_false hh] at h; cases h


theorem refTx_eq (x : Tx) : refTx x false = encTx x := by simp [refTx, encTx, optB]
theorem refVote_eq (x : Vote) : refVote x false = encVote x := by simp [refVote, encVote, optB]
theorem refProposal_eq (x : Proposal) : refProposal x false = encProposal x := by simp [refProposal, encProposal, optB]
end Go.Proofs.YtjdegphpalhapaaDoor
namespace Go.Proofs.YtjdegphpalhapaaDoor
set_option linter.unusedSimpArgs false
set_option linter.unusedVariables false
open Go.RowKit
set_option maxRecDepth 100000

/-- the reference's table reads as it was laid -/
structure RTab (w : World) : Prop where
  ad : Adds w 0
  lt : 0 < w.heap.size
theorem RTab.below {w w' : World} {B : Nat} (h : RTab w) (hb : Below B w w') (hB : 0 < B) (hs : w.heap.size ≤ w'.heap.size) : RTab w' :=
  ⟨fun i hi => (hb.cell hB).trans (h.ad i hi), Nat.lt_of_lt_of_le h.lt hs⟩
theorem refTx_form (x : Tx) : refTx x true = formTx x := by
  unfold refTx formTx encTx optB; simp [List.append_assoc]

/-- the digest of a letter and a form that lie in new memory -/
theorem rSum_bs (w : World) (B : Nat) (v : Value) (b : List UInt8) (h : Bs w B v b) (hne : b ≠ []) (hb : b.length + 200 ≤ room46) (ht : RTab w) :
    Calls Tryd.prog 25 #[v] w fun e w' => e = .returned (.agg (bv (sha b)).toArray) ∧ Below w.heap.size w w' := by
  obtain ⟨A, c, rfl⟩ := h.form
  have hl : 0 < (bv b).length := by rw [bv_length]; exact List.length_pos_iff.2 hne
  obtain ⟨ad, ha, _⟩ := h.rd.at_ hl
  subst ha
  exact rSum_any w ad _ c b rfl (own_cap h) h.rd hb ht.ad ht.lt
end Go.Proofs.YtjdegphpalhapaaDoor
namespace Go.Proofs.YtjdegphpalhapaaDoor
set_option linter.unusedSimpArgs false
set_option linter.unusedVariables false
open Go.RowKit
set_option maxRecDepth 100000

set_option maxHeartbeats 1000000 in
theorem rTxId_any (w : World) (x : Tx) (hx : x.ok) (ht : RTab w) :
    Calls Tryd.prog 8 #[.agg x.cl.toArray] w (HashRes w (plainTx x) (idTx x)) := by
  have HX := Lib.hid hx
  have HT := Lib.hid ht
  have HL := Lib.hid (x.cl_len hx)
  clear hx ht
  go_enter Tryd.func8, Tryd.ntmps8
  go_wp2_with (with_reducible show wpList _ _ _ (Oper.mk _ (Op.box _ _) _ _ _ _ :: _) _ _; refine wpList_box_i rfl _ _ rfl _ rfl ?_)
  intro bx w1 hk1 hl1 hg1 hs1
  go_wp2_with (with_reducible show wpList _ _ _ (Oper.mk _ (Op.alloc _) _ _ _ _ :: _) _ _; refine wpList_alloc_i rfl 29 rfl (.agg (bv (zer 32)).toArray) zero_hash ?_)
  intro r w2 h2 hl2 hg2 hs2
  have HK2 := Lib.hid (bk_eqT (cs' := x.cl.toArray) (hk1.below hl2 hk1.lt) rfl)
  have H2 := Lib.hid h2
  have HL2 := Lib.hid (hl1.trans (hl2.mono hl1.size))
  have HR := Lib.hid (show w.heap.size ≤ r by have := hl1.size; omega)
  clear hk1 hl1 h2 hl2 hg1 hs1 hg2
  go_wp2_with (with_reducible show wpList _ _ _ (Oper.mk (some 5) (Op.load _ _) _ _ _ _ :: _) _ _; go_must (refine wpList_load_part rfl 27 _ rfl bx 0 22 rfl _ _ _ HK2.out Tryd.underlying27 rfl info_Tx (by simp [HL.out]) _ (cl_all HL.out) ?_); go_wp2_with fail)
  refine (rPlainTx_any w2 x).mono ?_
  rintro en w3 ⟨rfl, hl3⟩
  have HL3 := Lib.hid (HL2.out.trans (hl3.mono HL2.out.size))
  have H3 := Lib.hid (H2.out.below hl3 H2.out.lt)
  have HK3 := Lib.hid (HK2.out.below hl3 HK2.out.lt)
  clear hl3 HK2 H2
  rw [plainTxR_eq]
  obtain ⟨E, hE⟩ : ∃ E, plainTx x = E := ⟨_, rfl⟩
  have HE := Lib.hid hE
  rw [hE]
  clear hE
  by_cases he : E = 0
  · have f1 : (E != 0) = false := by simp [he]
    have f2 : (E == 0) = true := by simp [he]
    have HE0 := Lib.hid he
    have hB := txB (HE.out.trans he)
    have HTB := Lib.hid hB
    have HFL := Lib.hid (formTx_len HX.out (HE.out.trans he))
    clear he hB
    go_wp2_with (with_reducible show wpList _ _ _ (Oper.mk (some 12) (Op.load _ _) _ _ _ _ :: _) _ _; go_must (refine wpList_load_part rfl 27 _ rfl bx 0 22 rfl _ _ _ (HK3.out.below ((Below.refl _ _).alloc (Nat.le_refl _) _) HK3.out.lt) Tryd.underlying27 rfl info_Tx (by simp [HL.out]) _ (cl_all HL.out) ?_); go_wp2_with fail)
    have k1 := HTB.out.k1
    have k2 := HTB.out.k2
    have HBA := Lib.hid (show Below w3.heap.size w3 (w3.alloc (.cells #[.int .u8 16] 5)) from (Below.refl _ _).alloc (Nat.le_refl _) _)
    have HKA := Lib.hid (show Bk (w3.alloc (.cells #[.int .u8 16] 5)) w3.heap.size #[.int .u8 16] 5 from Bk.new w3 _ _)
    obtain ⟨wa, hwa⟩ : ∃ wa, w3.alloc (.cells #[.int .u8 16] 5) = wa := ⟨_, rfl⟩
    obtain ⟨g0, hg0⟩ : ∃ g0, w3.heap.size = g0 := ⟨_, rfl⟩
    rw [hwa] at HBA HKA ⊢
    rw [hg0] at HBA HKA ⊢
    refine (rTx_any wa x true HX.out (by omega) (by omega) (by rw [refTx_form]; have := HFL.out; unfold reach47; omega)).mono ?_
    rintro en w5 ⟨v, rfl, hv, hl5⟩
    rw [refTx_form] at hv
    obtain ⟨A, c, rfl⟩ := hv.form
    have HV := Lib.hid hv
    have HK5 := Lib.hid (HKA.out.below hl5 HKA.out.lt)
    have HL5 := Lib.hid (HL3.out.trans (((by rw [hg0]; exact HBA.out : Below w3.heap.size w3 wa).trans (hl5.mono HBA.out.size)).mono HL3.out.size))
    have H5 := Lib.hid (((H3.out.below (by rw [hg0]; exact HBA.out) H3.out.lt)).below hl5 (by have := H3.out.lt; have := HBA.out.size; omega))
    have c16 : w5.cell? ⟨g0, 0, none⟩ = some (.int .u8 (16 : UInt8).toNat) := HK5.out.cell 0
    have HNE := Lib.hid (show 1 ≤ (formTx x).length by unfold formTx encTx; simp)
    clear hv hl5 hwa hg0
    go_wp2_with (at_builtin; go_must (refine wpList_app_one rfl _ _ rfl g0 16 rfl c16 A _ c (formTx x) rfl rfl HV.out.rd HNE.out (by have := HFL.out; unfold reach47; omega) ?_); intro v6 w6 own6 hl6)
    have HL6 := Lib.hid (HL5.out.trans (hl6.mono HL5.out.size))
    have H6 := Lib.hid (H5.out.below hl6 H5.out.lt)
    clear hl6
    refine (rSum_bs w6 _ v6 (16 :: formTx x) own6 (by simp) (by have := HFL.out; unfold room46; simp only [List.length_cons]; omega) (HT.out.below HL6.out HT.out.lt HL6.out.size)).mono ?_
    rintro en w7 ⟨rfl, hl7⟩
    have HL7 := Lib.hid (HL6.out.trans (hl7.mono HL6.out.size))
    have H7 := Lib.hid (H6.out.below hl7 H6.out.lt)
    have HY := Lib.hid (bv_sz (sha_len (16 :: formTx x)))
    clear hl7
    go_wp2_with (with_reducible show wpList _ _ _ (Oper.mk _ (Op.store 29 _ _) _ _ _ _ :: _) _ _; go_must (refine wpList_store_bk rfl 29 _ _ rfl r rfl (.agg (bv (sha (16 :: formTx x))).toArray) rfl _ _ H7.out (by rw [agg_sz HY.out]; exact info_h32) (by rw [agg_sz HY.out]; simp [bv, zer]) (by simpa [Value.cells] using bv_one (sha (16 :: formTx x))) ?_))
    intro w8 h8 hg8 hs8
    have HB := Lib.hid (below_grown2 HL7.out hg8 HR.out HL7.out.size)
    have H8 := Lib.hid h8
    clear h8 hg8 hs8
    go_wp2
    exact bodyPost_ct (x := .int .i64 0) rfl rfl rfl H8.out Tryd.underlying29 rfl info_h32 HY.out.symm rfl ⟨HB.out, by rw [HE.out, HE0.out]; unfold hashOr idTx; rw [if_pos rfl]⟩
  · have f1 : (E != 0) = true := by simp [he]
    have f2 : (E == 0) = false := by simp [he]
    have HE0 := Lib.hid he
    clear he
    go_wp2_with (first
      | (with_reducible show wpList _ _ _ (Oper.mk _ (Op.build _ _) _ _ _ _ :: _) _ _; go_must (refine wpList_buildv rfl 29 [] rfl [] rfl _ built_hash ?_))
      | (with_reducible show wpList _ _ _ (Oper.mk _ (Op.store 29 _ _) _ _ _ _ :: _) _ _; go_must (refine wpList_store_bk rfl 29 _ _ rfl r rfl (.agg (bv (zer 32)).toArray) rfl _ _ H3.out (by rw [agg_sz (bv_sz (n := 32) rfl)]; exact info_h32) rfl (by simpa [Value.cells] using bv_one (zer 32)) ?_)))
    intro w5 h5 hg5 hs5
    have HB := Lib.hid (below_grown2 HL3.out hg5 HR.out HL3.out.size)
    have H5 := Lib.hid (show Bk w5 r (bv (zer 32)).toArray 29 from h5)
    clear h5 hg5 hs5
    go_wp2
    exact bodyPost_ct (x := .int .i64 E) rfl rfl rfl H5.out Tryd.underlying29 rfl info_h32 (bv_sz (n := 32) rfl).symm rfl ⟨HB.out, by rw [HE.out]; unfold hashOr; rw [if_neg HE0.out]⟩
end Go.Proofs.YtjdegphpalhapaaDoor

/-
  The document's own forms: a transfer, a vote, a proposal, without and with their seals. Conditions: the numbers fit their types.
-/
import Derived.Test.YtjdegphpalhapaaDoorK18
namespace Go.Proofs.YtjdegphpalhapaaDoor
set_option linter.unusedSimpArgs false
set_option linter.unusedVariables false
open Go.RowKit
set_option maxRecDepth 100000

theorem Tx.cl_sl (x : Tx) (h : x.sl.length = 16) : x.cl.toArray.extract 6 (6 + 16) = (bv x.sl).toArray := by
  refine extract_cl _ _ _ _ ?_
  have e : x.cl.drop 6 = bv x.sl ++ [] := by simp [Tx.cl]
  rw [e, show 6 + 16 - 6 = (bv x.sl).length from by rw [bv_length, h]]
  exact List.take_left
theorem Vote.cl_sl (x : Vote) (h : x.ok) : x.cl.toArray.extract 37 (37 + 16) = (bv x.sl).toArray := by
  refine extract_cl _ _ _ _ ?_
  have e : x.cl.drop 37 = bv x.sl := by simp [Vote.cl, bv_length, h.id, List.drop_append]
  rw [e, show 37 + 16 - 37 = (bv x.sl).length from by rw [bv_length, h.sl]]
  exact List.take_length
theorem Proposal.cl_sl (x : Proposal) (h : x.ok) : x.cl.toArray.extract 36 (36 + 16) = (bv x.sl).toArray := by
  refine extract_cl _ _ _ _ ?_
  have e : x.cl.drop 36 = bv x.sl := by simp [Proposal.cl, bv_length, h.id, List.drop_append]
  rw [e, show 36 + 16 - 36 = (bv x.sl).length from by rw [bv_length, h.sl]]
  exact List.take_length
def optB (b : Bool) (l : List UInt8) : List UInt8 := if b then l else []
theorem rSealed_any (w : World) (h : List UInt8) (hl : h.length = 16) (b : Bool) :
    Calls Tryd.prog 56 #[.agg (bv h).toArray, .bool b] w fun e w' => ∃ v, e = .returned v ∧ Bs w' w.heap.size v (optB b h) ∧ Below w.heap.size w w' := by
  cases b
  · exact rSealed_no w _
  · exact rSealed_yes w h hl

def refTx (x : Tx) (b : Bool) : List UInt8 := [UInt8.ofNat x.kind.toNat] ++ varB x.frm.toNat ++ varB x.to.toNat ++ varB x.amount.toNat ++ varB x.fee.toNat ++ varB x.nonce.toNat ++ optB b x.sl
set_option maxHeartbeats 4000000 in
theorem rTx_any (w : World) (x : Tx) (b : Bool) (hx : x.ok) (hk0 : 0 ≤ x.kind) (hk1 : x.kind < 256) (hl : (refTx x b).length ≤ reach47) :
    Calls Tryd.prog 26 #[.agg x.cl.toArray, .bool b] w fun e w' => ∃ v, e = .returned v ∧ Bs w' w.heap.size v (refTx x b) ∧ Below w.heap.size w w' := by
  have hlen := Lib.hid (x.cl_len hx)
  have n_frm : 0 ≤ x.frm ∧ x.frm < two64 := ⟨hx.frm.1, by have := hx.frm.2; unfold two64; omega⟩
  have n_to : 0 ≤ x.to ∧ x.to < two64 := ⟨hx.to.1, by have := hx.to.2; unfold two64; omega⟩
  have n_amount : 0 ≤ x.amount ∧ x.amount < two64 := ⟨hx.amount.1, by have := hx.amount.2; unfold two64; omega⟩
  have n_fee : 0 ≤ x.fee ∧ x.fee < two64 := ⟨hx.fee.1, by have := hx.fee.2; unfold two64; omega⟩
  have n_nonce : 0 ≤ x.nonce ∧ x.nonce < two64 := ⟨hx.nonce.1, by have := hx.nonce.2; unfold two64; omega⟩
  have hkind : Hid ((#[Value.int .u8 x.kind] : Array Value).toList = bv [UInt8.ofNat x.kind.toNat]) := Lib.hid (by
    show [Value.int .u8 x.kind] = [Value.int .u8 ((UInt8.ofNat x.kind.toNat).toNat : Int)]
    rw [byte_of, Int.emod_eq_of_lt (by omega) (by omega)]
    congr 2; omega)
  have m_kind : x.kind % 256 = x.kind := Int.emod_eq_of_lt hk0 hk1
  go_enter Tryd.func26, Tryd.ntmps26
  go_wp2_with (with_reducible show wpList _ _ _ (Oper.mk _ (Op.box _ _) _ _ _ _ :: _) _ _; refine wpList_box_bk rfl _ _ rfl _ rfl ?_)
  intro g w1 hb0 hbl hg hs
  clear hg hs
  have hb : Bk w1.drew g x.cl.toArray _ := hb0.drew
  go_wp2_with fail
  refine wp_region_free [(5, []), (6, [(0, 5)]), (7, [(1, 6)]), (8, [(2, 7)]), (9, []), (10, [(4, 9)]), (11, [(5, 10)]), (12, []), (13, [(7, 12)]), (14, [(8, 13)]), (15, []), (16, [(10, 15)]), (17, [(11, 16)]), (18, []), (19, [(13, 18)]), (20, [(14, 19)]), (21, []), (22, [(16, 21)]), (23, [(17, 22)]), (24, []), (25, [(19, 24)]), (26, []), (27, [(20, 25), (21, 26)])]
    [Is ?v0, Is ?v1, Is ?v2, PartK ([UInt8.ofNat x.kind.toNat]), Is ?v4, Is ?v5, PartK (varB x.frm.toNat), Is ?v7, Is ?v8, PartK (varB x.to.toNat), Is ?v10, Is ?v11, PartK (varB x.amount.toNat), Is ?v13, Is ?v14, PartK (varB x.fee.toNat), Is ?v16, Is ?v17, PartK (varB x.nonce.toNat), Is ?v19, Is ?v20, Is ?v21, PartK (optB b x.sl)]
    (by kernel_rfl) (by kernel_rfl) (by rfl) ?st ?steps ?fin
  case st => exact ⟨Is.steady _, Is.steady _, Is.steady _, PartK.steady _, Is.steady _, Is.steady _, PartK.steady _, Is.steady _, Is.steady _, PartK.steady _, Is.steady _, Is.steady _, PartK.steady _, Is.steady _, Is.steady _, PartK.steady _, Is.steady _, Is.steady _, PartK.steady _, Is.steady _, Is.steady _, Is.steady _, PartK.steady _, trivial⟩
  case steps =>
    refine FreeSteps.cons (fun w2 hw2 => ?_) ?_
    · (refine FreeStep.det rfl rfl rfl (by rfl) rfl rfl ?_; (try simp only [Act.put, List.setIfInBounds_toArray, List.set_cons_zero, List.set_cons_succ]); go_simp; (try with_reducible rfl))
    refine FreeSteps.cons (fun w2 hw2 => FreeStep.is rfl ?_) ?_
    · have c : w2.cell? ⟨g, 0, none⟩ = some (.int .i64 x.kind) := ((hb.below hw2 hb.lt).cell 0)
      (refine FreeStep.det rfl rfl rfl (by rfl) rfl rfl ?_; (try simp only [Act.put, List.setIfInBounds_toArray, List.set_cons_zero, List.set_cons_succ]); go_simp; (try with_reducible rfl))
    refine FreeSteps.cons (fun w2 hw2 => FreeStep.is rfl ?_) ?_
    · (refine FreeStep.det rfl rfl rfl (by rfl) rfl rfl ?_; (try simp only [Act.put, List.setIfInBounds_toArray, List.set_cons_zero, List.set_cons_succ]); go_simp; (try with_reducible rfl))
    refine FreeSteps.cons (fun w2 hw2 => FreeStep.is rfl ?_) ?_
    · refine FreeStep.op rfl rfl ?_
      (try simp only [Act.put, List.setIfInBounds_toArray, List.set_cons_zero, List.set_cons_succ])
      go_wp2_with fail
      refine QStep.mk rfl ((Below.refl _ _).alloc (Nat.le_refl _) _) ?_
      exact (Bs.made w2 w2.heap.size _ [UInt8.ofNat x.kind.toNat] hkind.out (Nat.le_refl _) (by unfold reach47; simp)).part
    refine FreeSteps.cons (fun w2 hw2 => ?_) ?_
    · (refine FreeStep.det rfl rfl rfl (by rfl) rfl rfl ?_; (try simp only [Act.put, List.setIfInBounds_toArray, List.set_cons_zero, List.set_cons_succ]); go_simp; (try with_reducible rfl))
    refine FreeSteps.cons (fun w2 hw2 => FreeStep.is rfl ?_) ?_
    · have c : w2.cell? ⟨g, 1, none⟩ = some (.int .u64 x.frm) := ((hb.below hw2 hb.lt).cell 1)
      (refine FreeStep.det rfl rfl rfl (by rfl) rfl rfl ?_; (try simp only [Act.put, List.setIfInBounds_toArray, List.set_cons_zero, List.set_cons_succ]); go_simp; (try with_reducible rfl))
    refine FreeSteps.cons (fun w2 hw2 => FreeStep.is rfl ?_) ?_
    · refine FreeStep.call rfl rfl rfl (by rfl) rfl rfl (by (try simp only [Act.put, List.setIfInBounds_toArray, List.set_cons_zero, List.set_cons_succ]); go_simp; (try with_reducible rfl)) (rNum_any w2 _ n_frm.1 n_frm.2) ?_
      rintro e w3 ⟨v, rfl, hv, hb3⟩; exact ⟨v, rfl, hb3, hv.part⟩
    refine FreeSteps.cons (fun w2 hw2 => ?_) ?_
    · (refine FreeStep.det rfl rfl rfl (by rfl) rfl rfl ?_; (try simp only [Act.put, List.setIfInBounds_toArray, List.set_cons_zero, List.set_cons_succ]); go_simp; (try with_reducible rfl))
    refine FreeSteps.cons (fun w2 hw2 => FreeStep.is rfl ?_) ?_
    · have c : w2.cell? ⟨g, 2, none⟩ = some (.int .u64 x.to) := ((hb.below hw2 hb.lt).cell 2)
      (refine FreeStep.det rfl rfl rfl (by rfl) rfl rfl ?_; (try simp only [Act.put, List.setIfInBounds_toArray, List.set_cons_zero, List.set_cons_succ]); go_simp; (try with_reducible rfl))
    refine FreeSteps.cons (fun w2 hw2 => FreeStep.is rfl ?_) ?_
    · refine FreeStep.call rfl rfl rfl (by rfl) rfl rfl (by (try simp only [Act.put, List.setIfInBounds_toArray, List.set_cons_zero, List.set_cons_succ]); go_simp; (try with_reducible rfl)) (rNum_any w2 _ n_to.1 n_to.2) ?_
      rintro e w3 ⟨v, rfl, hv, hb3⟩; exact ⟨v, rfl, hb3, hv.part⟩
    refine FreeSteps.cons (fun w2 hw2 => ?_) ?_
    · (refine FreeStep.det rfl rfl rfl (by rfl) rfl rfl ?_; (try simp only [Act.put, List.setIfInBounds_toArray, List.set_cons_zero, List.set_cons_succ]); go_simp; (try with_reducible rfl))
    refine FreeSteps.cons (fun w2 hw2 => FreeStep.is rfl ?_) ?_
    · have c : w2.cell? ⟨g, 3, none⟩ = some (.int .u64 x.amount) := ((hb.below hw2 hb.lt).cell 3)
      (refine FreeStep.det rfl rfl rfl (by rfl) rfl rfl ?_; (try simp only [Act.put, List.setIfInBounds_toArray, List.set_cons_zero, List.set_cons_succ]); go_simp; (try with_reducible rfl))
    refine FreeSteps.cons (fun w2 hw2 => FreeStep.is rfl ?_) ?_
    · refine FreeStep.call rfl rfl rfl (by rfl) rfl rfl (by (try simp only [Act.put, List.setIfInBounds_toArray, List.set_cons_zero, List.set_cons_succ]); go_simp; (try with_reducible rfl)) (rNum_any w2 _ n_amount.1 n_amount.2) ?_
      rintro e w3 ⟨v, rfl, hv, hb3⟩; exact ⟨v, rfl, hb3, hv.part⟩
    refine FreeSteps.cons (fun w2 hw2 => ?_) ?_
    · (refine FreeStep.det rfl rfl rfl (by rfl) rfl rfl ?_; (try simp only [Act.put, List.setIfInBounds_toArray, List.set_cons_zero, List.set_cons_succ]); go_simp; (try with_reducible rfl))
    refine FreeSteps.cons (fun w2 hw2 => FreeStep.is rfl ?_) ?_
    · have c : w2.cell? ⟨g, 4, none⟩ = some (.int .u64 x.fee) := ((hb.below hw2 hb.lt).cell 4)
      (refine FreeStep.det rfl rfl rfl (by rfl) rfl rfl ?_; (try simp only [Act.put, List.setIfInBounds_toArray, List.set_cons_zero, List.set_cons_succ]); go_simp; (try with_reducible rfl))
    refine FreeSteps.cons (fun w2 hw2 => FreeStep.is rfl ?_) ?_
    · refine FreeStep.call rfl rfl rfl (by rfl) rfl rfl (by (try simp only [Act.put, List.setIfInBounds_toArray, List.set_cons_zero, List.set_cons_succ]); go_simp; (try with_reducible rfl)) (rNum_any w2 _ n_fee.1 n_fee.2) ?_
      rintro e w3 ⟨v, rfl, hv, hb3⟩; exact ⟨v, rfl, hb3, hv.part⟩
    refine FreeSteps.cons (fun w2 hw2 => ?_) ?_
    · (refine FreeStep.det rfl rfl rfl (by rfl) rfl rfl ?_; (try simp only [Act.put, List.setIfInBounds_toArray, List.set_cons_zero, List.set_cons_succ]); go_simp; (try with_reducible rfl))
    refine FreeSteps.cons (fun w2 hw2 => FreeStep.is rfl ?_) ?_
    · have c : w2.cell? ⟨g, 5, none⟩ = some (.int .u64 x.nonce) := ((hb.below hw2 hb.lt).cell 5)
      (refine FreeStep.det rfl rfl rfl (by rfl) rfl rfl ?_; (try simp only [Act.put, List.setIfInBounds_toArray, List.set_cons_zero, List.set_cons_succ]); go_simp; (try with_reducible rfl))
    refine FreeSteps.cons (fun w2 hw2 => FreeStep.is rfl ?_) ?_
    · refine FreeStep.call rfl rfl rfl (by rfl) rfl rfl (by (try simp only [Act.put, List.setIfInBounds_toArray, List.set_cons_zero, List.set_cons_succ]); go_simp; (try with_reducible rfl)) (rNum_any w2 _ n_nonce.1 n_nonce.2) ?_
      rintro e w3 ⟨v, rfl, hv, hb3⟩; exact ⟨v, rfl, hb3, hv.part⟩
    refine FreeSteps.cons (fun w2 hw2 => ?_) ?_
    · (refine FreeStep.det rfl rfl rfl (by rfl) rfl rfl ?_; (try simp only [Act.put, List.setIfInBounds_toArray, List.set_cons_zero, List.set_cons_succ]); go_simp; (try with_reducible rfl))
    refine FreeSteps.cons (fun w2 hw2 => FreeStep.is rfl ?_) ?_
    · refine FreeStep.load_part 25 _ rfl rfl rfl rfl (by rfl) rfl rfl g 6 16 rfl _ _ _ (hb.below hw2 hb.lt) Tryd.underlying25 rfl info_seal (by have := hlen.out; simp [this]) _ (x.cl_sl hx.sl) ?_
      with_reducible rfl
    refine FreeSteps.cons (fun w2 hw2 => ?_) ?_
    · (refine FreeStep.det rfl rfl rfl (by rfl) rfl rfl ?_; (try simp only [Act.put, List.setIfInBounds_toArray, List.set_cons_zero, List.set_cons_succ]); go_simp; (try with_reducible rfl))
    refine FreeSteps.cons (fun w2 hw2 => FreeStep.is rfl (FreeStep.is rfl ?_)) ?_
    · refine FreeStep.call rfl rfl rfl (by rfl) rfl rfl (by (try simp only [Act.put, List.setIfInBounds_toArray, List.set_cons_zero, List.set_cons_succ]); go_simp; (try with_reducible rfl)) (rSealed_any w2 x.sl hx.sl b) ?_
      rintro e w3 ⟨v, rfl, hv, hb3⟩; exact ⟨v, rfl, hb3, hv.part⟩
    exact FreeSteps.nil
  case fin =>
    intro w2 hw2
    refine FreeEnd.is rfl ?_
    refine FreeEnd.is rfl ?_
    refine FreeEnd.is rfl ?_
    refine FreeEnd.cons rfl fun v hv => ?_
    obtain ⟨A3, c3, rfl, r3⟩ := hv
    refine FreeEnd.is rfl ?_
    refine FreeEnd.is rfl ?_
    refine FreeEnd.cons rfl fun v hv => ?_
    obtain ⟨A6, c6, rfl, r6⟩ := hv
    refine FreeEnd.is rfl ?_
    refine FreeEnd.is rfl ?_
    refine FreeEnd.cons rfl fun v hv => ?_
    obtain ⟨A9, c9, rfl, r9⟩ := hv
    refine FreeEnd.is rfl ?_
    refine FreeEnd.is rfl ?_
    refine FreeEnd.cons rfl fun v hv => ?_
    obtain ⟨A12, c12, rfl, r12⟩ := hv
    refine FreeEnd.is rfl ?_
    refine FreeEnd.is rfl ?_
    refine FreeEnd.cons rfl fun v hv => ?_
    obtain ⟨A15, c15, rfl, r15⟩ := hv
    refine FreeEnd.is rfl ?_
    refine FreeEnd.is rfl ?_
    refine FreeEnd.cons rfl fun v hv => ?_
    obtain ⟨A18, c18, rfl, r18⟩ := hv
    refine FreeEnd.is rfl ?_
    refine FreeEnd.is rfl ?_
    refine FreeEnd.is rfl ?_
    refine FreeEnd.cons rfl fun v hv => ?_
    obtain ⟨A22, c22, rfl, r22⟩ := hv
    refine FreeEnd.nil ?_
    (try simp only [Act.put, List.setIfInBounds_toArray, List.set_cons_zero, List.set_cons_succ])
    simp only [List.length_cons, List.length_nil, Nat.reduceAdd, List.drop_succ_cons, List.drop_zero]
    have hj : joined [(Value.slice A3 ([UInt8.ofNat x.kind.toNat]).length c3, [UInt8.ofNat x.kind.toNat]), (Value.slice A6 (varB x.frm.toNat).length c6, varB x.frm.toNat), (Value.slice A9 (varB x.to.toNat).length c9, varB x.to.toNat), (Value.slice A12 (varB x.amount.toNat).length c12, varB x.amount.toNat), (Value.slice A15 (varB x.fee.toNat).length c15, varB x.fee.toNat), (Value.slice A18 (varB x.nonce.toNat).length c18, varB x.nonce.toNat), (Value.slice A22 (optB b x.sl).length c22, optB b x.sl)] = refTx x b := by
      simp only [joined, refTx, List.flatMap_cons, List.flatMap_nil, List.append_nil, List.append_assoc]
    rw [← hj] at hl
    have hpp : Parts (w2.alloc (.cells #[Value.slice A3 ([UInt8.ofNat x.kind.toNat]).length c3, Value.slice A6 (varB x.frm.toNat).length c6, Value.slice A9 (varB x.to.toNat).length c9, Value.slice A12 (varB x.amount.toNat).length c12, Value.slice A15 (varB x.fee.toNat).length c15, Value.slice A18 (varB x.nonce.toNat).length c18, Value.slice A22 (optB b x.sl).length c22] 57)) [(Value.slice A3 ([UInt8.ofNat x.kind.toNat]).length c3, [UInt8.ofNat x.kind.toNat]), (Value.slice A6 (varB x.frm.toNat).length c6, varB x.frm.toNat), (Value.slice A9 (varB x.to.toNat).length c9, varB x.to.toNat), (Value.slice A12 (varB x.amount.toNat).length c12, varB x.amount.toNat), (Value.slice A15 (varB x.fee.toNat).length c15, varB x.fee.toNat), (Value.slice A18 (varB x.nonce.toNat).length c18, varB x.nonce.toNat), (Value.slice A22 (optB b x.sl).length c22, optB b x.sl)] := by
      intro p hp
      simp only [List.mem_cons, List.not_mem_nil, or_false] at hp
      rcases hp with rfl | rfl | rfl | rfl | rfl | rfl | rfl
      · exact Part.below ⟨A3, c3, rfl, r3⟩ ((Below.refl _ _).alloc (Nat.le_refl _) _)
      · exact Part.below ⟨A6, c6, rfl, r6⟩ ((Below.refl _ _).alloc (Nat.le_refl _) _)
      · exact Part.below ⟨A9, c9, rfl, r9⟩ ((Below.refl _ _).alloc (Nat.le_refl _) _)
      · exact Part.below ⟨A12, c12, rfl, r12⟩ ((Below.refl _ _).alloc (Nat.le_refl _) _)
      · exact Part.below ⟨A15, c15, rfl, r15⟩ ((Below.refl _ _).alloc (Nat.le_refl _) _)
      · exact Part.below ⟨A18, c18, rfl, r18⟩ ((Below.refl _ _).alloc (Nat.le_refl _) _)
      · exact Part.below ⟨A22, c22, rfl, r22⟩ ((Below.refl _ _).alloc (Nat.le_refl _) _)
    have hrr : Rd (w2.alloc (.cells #[Value.slice A3 ([UInt8.ofNat x.kind.toNat]).length c3, Value.slice A6 (varB x.frm.toNat).length c6, Value.slice A9 (varB x.to.toNat).length c9, Value.slice A12 (varB x.amount.toNat).length c12, Value.slice A15 (varB x.fee.toNat).length c15, Value.slice A18 (varB x.nonce.toNat).length c18, Value.slice A22 (optB b x.sl).length c22] 57)) (some ⟨w2.heap.size, 0, none⟩) ([(Value.slice A3 ([UInt8.ofNat x.kind.toNat]).length c3, [UInt8.ofNat x.kind.toNat]), (Value.slice A6 (varB x.frm.toNat).length c6, varB x.frm.toNat), (Value.slice A9 (varB x.to.toNat).length c9, varB x.to.toNat), (Value.slice A12 (varB x.amount.toNat).length c12, varB x.amount.toNat), (Value.slice A15 (varB x.fee.toNat).length c15, varB x.fee.toNat), (Value.slice A18 (varB x.nonce.toNat).length c18, varB x.nonce.toNat), (Value.slice A22 (optB b x.sl).length c22, optB b x.sl)].map (·.1)) := Rd.of_bk (Bk.new w2 _ _) 0 _ (fun j u hu => by simpa using hu)
    go_wp2_with (go_at_call 54; go_must (refine (join_any _ _ 7 7 _ hrr rfl hpp hl (by omega)).mono ?_); rintro e w3 ⟨v, rfl, hv, hb3⟩)
    go_ret
    rw [hj] at hv
    have hs3 : w.heap.size ≤ w2.heap.size := Nat.le_trans hbl.size hw2.size
    refine ⟨_, rfl, hv.mono (by simp; omega), ?_⟩
    exact (((hbl.drew).trans (hw2.mono hbl.size)).alloc hs3 _).trans (hb3.mono (by simp; omega))

def refVote (x : Vote) (b : Bool) : List UInt8 := [UInt8.ofNat x.kind.toNat] ++ varB x.height.toNat ++ varB x.round.toNat ++ x.id ++ varB x.time.toNat ++ varB x.frm.toNat ++ optB b x.sl
set_option maxHeartbeats 4000000 in
theorem rVote_any (w : World) (x : Vote) (b : Bool) (hx : x.ok) (hk0 : 0 ≤ x.kind) (hk1 : x.kind < 256) (hr0 : 0 ≤ x.round) (hl : (refVote x b).length ≤ reach47) :
    Calls Tryd.prog 71 #[.agg x.cl.toArray, .bool b] w fun e w' => ∃ v, e = .returned v ∧ Bs w' w.heap.size v (refVote x b) ∧ Below w.heap.size w w' := by
  have hlen := Lib.hid (x.cl_len hx)
  have n_height : 0 ≤ x.height ∧ x.height < two64 := ⟨hx.height.1, by have := hx.height.2; unfold two64; omega⟩
  have n_round : 0 ≤ x.round ∧ x.round < two64 := ⟨hr0, by have := hx.round.2; unfold two64; omega⟩
  have n_time : 0 ≤ x.time ∧ x.time < two64 := ⟨hx.time.1, by have := hx.time.2; unfold two64; omega⟩
  have n_frm : 0 ≤ x.frm ∧ x.frm < two64 := ⟨hx.frm.1, by have := hx.frm.2; unfold two64; omega⟩
  have hkind : Hid ((#[Value.int .u8 x.kind] : Array Value).toList = bv [UInt8.ofNat x.kind.toNat]) := Lib.hid (by
    show [Value.int .u8 x.kind] = [Value.int .u8 ((UInt8.ofNat x.kind.toNat).toNat : Int)]
    rw [byte_of, Int.emod_eq_of_lt (by omega) (by omega)]
    congr 2; omega)
  have m_kind : x.kind % 256 = x.kind := Int.emod_eq_of_lt hk0 hk1
  have m_round : IntKind.u64.wrap x.round = x.round := by
    rw [IntKind.wrap_u64]; exact Int.emod_eq_of_lt hr0 (by have := hx.round.2; omega)
  go_enter Tryd.func71, Tryd.ntmps71
  go_wp2_with (with_reducible show wpList _ _ _ (Oper.mk _ (Op.box _ _) _ _ _ _ :: _) _ _; refine wpList_box_bk rfl _ _ rfl _ rfl ?_)
  intro g w1 hb0 hbl hg hs
  clear hg hs
  have hb : Bk w1.drew g x.cl.toArray _ := hb0.drew
  go_wp2_with fail
  refine wp_region_free [(5, []), (6, [(0, 5)]), (7, [(1, 6)]), (8, [(2, 7)]), (9, []), (10, [(4, 9)]), (11, [(5, 10)]), (12, []), (13, [(7, 12)]), (14, [(8, 13)]), (15, [(9, 14)]), (16, []), (17, [(11, 16)]), (18, [(12, 17)]), (19, []), (20, [(14, 19)]), (21, [(15, 20)]), (22, []), (23, [(17, 22)]), (24, [(18, 23)]), (25, []), (26, [(20, 25)]), (27, []), (28, [(21, 26), (22, 27)])]
    [Is ?v0, Is ?v1, Is ?v2, PartK ([UInt8.ofNat x.kind.toNat]), Is ?v4, Is ?v5, PartK (varB x.height.toNat), Is ?v7, Is ?v8, Is ?v9, PartK (varB x.round.toNat), Is ?v11, Is ?v12, PartK (x.id), Is ?v14, Is ?v15, PartK (varB x.time.toNat), Is ?v17, Is ?v18, PartK (varB x.frm.toNat), Is ?v20, Is ?v21, Is ?v22, PartK (optB b x.sl)]
    (by kernel_rfl) (by kernel_rfl) (by rfl) ?st ?steps ?fin
  case st => exact ⟨Is.steady _, Is.steady _, Is.steady _, PartK.steady _, Is.steady _, Is.steady _, PartK.steady _, Is.steady _, Is.steady _, Is.steady _, PartK.steady _, Is.steady _, Is.steady _, PartK.steady _, Is.steady _, Is.steady _, PartK.steady _, Is.steady _, Is.steady _, PartK.steady _, Is.steady _, Is.steady _, Is.steady _, PartK.steady _, trivial⟩
  case steps =>
    refine FreeSteps.cons (fun w2 hw2 => ?_) ?_
    · (refine FreeStep.det rfl rfl rfl (by rfl) rfl rfl ?_; (try simp only [Act.put, List.setIfInBounds_toArray, List.set_cons_zero, List.set_cons_succ]); go_simp; (try with_reducible rfl))
    refine FreeSteps.cons (fun w2 hw2 => FreeStep.is rfl ?_) ?_
    · have c : w2.cell? ⟨g, 0, none⟩ = some (.int .i64 x.kind) := ((hb.below hw2 hb.lt).cell 0)
      (refine FreeStep.det rfl rfl rfl (by rfl) rfl rfl ?_; (try simp only [Act.put, List.setIfInBounds_toArray, List.set_cons_zero, List.set_cons_succ]); go_simp; (try with_reducible rfl))
    refine FreeSteps.cons (fun w2 hw2 => FreeStep.is rfl ?_) ?_
    · (refine FreeStep.det rfl rfl rfl (by rfl) rfl rfl ?_; (try simp only [Act.put, List.setIfInBounds_toArray, List.set_cons_zero, List.set_cons_succ]); go_simp; (try with_reducible rfl))
    refine FreeSteps.cons (fun w2 hw2 => FreeStep.is rfl ?_) ?_
    · refine FreeStep.op rfl rfl ?_
      (try simp only [Act.put, List.setIfInBounds_toArray, List.set_cons_zero, List.set_cons_succ])
      go_wp2_with fail
      refine QStep.mk rfl ((Below.refl _ _).alloc (Nat.le_refl _) _) ?_
      exact (Bs.made w2 w2.heap.size _ [UInt8.ofNat x.kind.toNat] hkind.out (Nat.le_refl _) (by unfold reach47; simp)).part
    refine FreeSteps.cons (fun w2 hw2 => ?_) ?_
    · (refine FreeStep.det rfl rfl rfl (by rfl) rfl rfl ?_; (try simp only [Act.put, List.setIfInBounds_toArray, List.set_cons_zero, List.set_cons_succ]); go_simp; (try with_reducible rfl))
    refine FreeSteps.cons (fun w2 hw2 => FreeStep.is rfl ?_) ?_
    · have c : w2.cell? ⟨g, 1, none⟩ = some (.int .u64 x.height) := ((hb.below hw2 hb.lt).cell 1)
      (refine FreeStep.det rfl rfl rfl (by rfl) rfl rfl ?_; (try simp only [Act.put, List.setIfInBounds_toArray, List.set_cons_zero, List.set_cons_succ]); go_simp; (try with_reducible rfl))
    refine FreeSteps.cons (fun w2 hw2 => FreeStep.is rfl ?_) ?_
    · refine FreeStep.call rfl rfl rfl (by rfl) rfl rfl (by (try simp only [Act.put, List.setIfInBounds_toArray, List.set_cons_zero, List.set_cons_succ]); go_simp; (try with_reducible rfl)) (rNum_any w2 _ n_height.1 n_height.2) ?_
      rintro e w3 ⟨v, rfl, hv, hb3⟩; exact ⟨v, rfl, hb3, hv.part⟩
    refine FreeSteps.cons (fun w2 hw2 => ?_) ?_
    · (refine FreeStep.det rfl rfl rfl (by rfl) rfl rfl ?_; (try simp only [Act.put, List.setIfInBounds_toArray, List.set_cons_zero, List.set_cons_succ]); go_simp; (try with_reducible rfl))
    refine FreeSteps.cons (fun w2 hw2 => FreeStep.is rfl ?_) ?_
    · have c : w2.cell? ⟨g, 2, none⟩ = some (.int .i64 x.round) := ((hb.below hw2 hb.lt).cell 2)
      (refine FreeStep.det rfl rfl rfl (by rfl) rfl rfl ?_; (try simp only [Act.put, List.setIfInBounds_toArray, List.set_cons_zero, List.set_cons_succ]); go_simp; (try with_reducible rfl))
    refine FreeSteps.cons (fun w2 hw2 => FreeStep.is rfl ?_) ?_
    · (refine FreeStep.det rfl rfl rfl (by rfl) rfl rfl ?_; (try simp only [Act.put, List.setIfInBounds_toArray, List.set_cons_zero, List.set_cons_succ]); go_simp; (try with_reducible rfl))
    refine FreeSteps.cons (fun w2 hw2 => FreeStep.is rfl ?_) ?_
    · refine FreeStep.call rfl rfl rfl (by rfl) rfl rfl (by (try simp only [Act.put, List.setIfInBounds_toArray, List.set_cons_zero, List.set_cons_succ]); go_simp; (try with_reducible rfl)) (rNum_any w2 _ n_round.1 n_round.2) ?_
      rintro e w3 ⟨v, rfl, hv, hb3⟩; exact ⟨v, rfl, hb3, hv.part⟩
    refine FreeSteps.cons (fun w2 hw2 => ?_) ?_
    · (refine FreeStep.det rfl rfl rfl (by rfl) rfl rfl ?_; (try simp only [Act.put, List.setIfInBounds_toArray, List.set_cons_zero, List.set_cons_succ]); go_simp; (try with_reducible rfl))
    refine FreeSteps.cons (fun w2 hw2 => FreeStep.is rfl ?_) ?_
    · refine FreeStep.load_part 29 _ rfl rfl rfl rfl (by rfl) rfl rfl g 3 32 rfl _ _ _ (hb.below hw2 hb.lt) Tryd.underlying29 rfl info_hash (by have := hlen.out; simp [this]) _ (x.cl_id hx.id) ?_
      with_reducible rfl
    refine FreeSteps.cons (fun w2 hw2 => FreeStep.is rfl ?_) ?_
    · refine FreeStep.call rfl rfl rfl (by rfl) rfl rfl (by (try simp only [Act.put, List.setIfInBounds_toArray, List.set_cons_zero, List.set_cons_succ]); go_simp; (try with_reducible rfl)) (rHash_any w2 x.id hx.id) ?_
      rintro e w3 ⟨v, rfl, hv, hb3⟩; exact ⟨v, rfl, hb3, hv.part⟩
    refine FreeSteps.cons (fun w2 hw2 => ?_) ?_
    · (refine FreeStep.det rfl rfl rfl (by rfl) rfl rfl ?_; (try simp only [Act.put, List.setIfInBounds_toArray, List.set_cons_zero, List.set_cons_succ]); go_simp; (try with_reducible rfl))
    refine FreeSteps.cons (fun w2 hw2 => FreeStep.is rfl ?_) ?_
    · have c : w2.cell? ⟨g, 35, none⟩ = some (.int .u64 x.time) := ((hb.below hw2 hb.lt).cell 35).trans (x.cl_35 hx.id)
      (refine FreeStep.det rfl rfl rfl (by rfl) rfl rfl ?_; (try simp only [Act.put, List.setIfInBounds_toArray, List.set_cons_zero, List.set_cons_succ]); go_simp; (try with_reducible rfl))
    refine FreeSteps.cons (fun w2 hw2 => FreeStep.is rfl ?_) ?_
    · refine FreeStep.call rfl rfl rfl (by rfl) rfl rfl (by (try simp only [Act.put, List.setIfInBounds_toArray, List.set_cons_zero, List.set_cons_succ]); go_simp; (try with_reducible rfl)) (rNum_any w2 _ n_time.1 n_time.2) ?_
      rintro e w3 ⟨v, rfl, hv, hb3⟩; exact ⟨v, rfl, hb3, hv.part⟩
    refine FreeSteps.cons (fun w2 hw2 => ?_) ?_
    · (refine FreeStep.det rfl rfl rfl (by rfl) rfl rfl ?_; (try simp only [Act.put, List.setIfInBounds_toArray, List.set_cons_zero, List.set_cons_succ]); go_simp; (try with_reducible rfl))
    refine FreeSteps.cons (fun w2 hw2 => FreeStep.is rfl ?_) ?_
    · have c : w2.cell? ⟨g, 36, none⟩ = some (.int .u64 x.frm) := ((hb.below hw2 hb.lt).cell 36).trans (x.cl_36 hx.id)
      (refine FreeStep.det rfl rfl rfl (by rfl) rfl rfl ?_; (try simp only [Act.put, List.setIfInBounds_toArray, List.set_cons_zero, List.set_cons_succ]); go_simp; (try with_reducible rfl))
    refine FreeSteps.cons (fun w2 hw2 => FreeStep.is rfl ?_) ?_
    · refine FreeStep.call rfl rfl rfl (by rfl) rfl rfl (by (try simp only [Act.put, List.setIfInBounds_toArray, List.set_cons_zero, List.set_cons_succ]); go_simp; (try with_reducible rfl)) (rNum_any w2 _ n_frm.1 n_frm.2) ?_
      rintro e w3 ⟨v, rfl, hv, hb3⟩; exact ⟨v, rfl, hb3, hv.part⟩
    refine FreeSteps.cons (fun w2 hw2 => ?_) ?_
    · (refine FreeStep.det rfl rfl rfl (by rfl) rfl rfl ?_; (try simp only [Act.put, List.setIfInBounds_toArray, List.set_cons_zero, List.set_cons_succ]); go_simp; (try with_reducible rfl))
    refine FreeSteps.cons (fun w2 hw2 => FreeStep.is rfl ?_) ?_
    · refine FreeStep.load_part 25 _ rfl rfl rfl rfl (by rfl) rfl rfl g 37 16 rfl _ _ _ (hb.below hw2 hb.lt) Tryd.underlying25 rfl info_seal (by have := hlen.out; simp [this]) _ (x.cl_sl hx) ?_
      with_reducible rfl
    refine FreeSteps.cons (fun w2 hw2 => ?_) ?_
    · (refine FreeStep.det rfl rfl rfl (by rfl) rfl rfl ?_; (try simp only [Act.put, List.setIfInBounds_toArray, List.set_cons_zero, List.set_cons_succ]); go_simp; (try with_reducible rfl))
    refine FreeSteps.cons (fun w2 hw2 => FreeStep.is rfl (FreeStep.is rfl ?_)) ?_
    · refine FreeStep.call rfl rfl rfl (by rfl) rfl rfl (by (try simp only [Act.put, List.setIfInBounds_toArray, List.set_cons_zero, List.set_cons_succ]); go_simp; (try with_reducible rfl)) (rSealed_any w2 x.sl hx.sl b) ?_
      rintro e w3 ⟨v, rfl, hv, hb3⟩; exact ⟨v, rfl, hb3, hv.part⟩
    exact FreeSteps.nil
  case fin =>
    intro w2 hw2
    refine FreeEnd.is rfl ?_
    refine FreeEnd.is rfl ?_
    refine FreeEnd.is rfl ?_
    refine FreeEnd.cons rfl fun v hv => ?_
    obtain ⟨A3, c3, rfl, r3⟩ := hv
    refine FreeEnd.is rfl ?_
    refine FreeEnd.is rfl ?_
    refine FreeEnd.cons rfl fun v hv => ?_
    obtain ⟨A6, c6, rfl, r6⟩ := hv
    refine FreeEnd.is rfl ?_
    refine FreeEnd.is rfl ?_
    refine FreeEnd.is rfl ?_
    refine FreeEnd.cons rfl fun v hv => ?_
    obtain ⟨A10, c10, rfl, r10⟩ := hv
    refine FreeEnd.is rfl ?_
    refine FreeEnd.is rfl ?_
    refine FreeEnd.cons rfl fun v hv => ?_
    obtain ⟨A13, c13, rfl, r13⟩ := hv
    refine FreeEnd.is rfl ?_
    refine FreeEnd.is rfl ?_
    refine FreeEnd.cons rfl fun v hv => ?_
    obtain ⟨A16, c16, rfl, r16⟩ := hv
    refine FreeEnd.is rfl ?_
    refine FreeEnd.is rfl ?_
    refine FreeEnd.cons rfl fun v hv => ?_
    obtain ⟨A19, c19, rfl, r19⟩ := hv
    refine FreeEnd.is rfl ?_
    refine FreeEnd.is rfl ?_
    refine FreeEnd.is rfl ?_
    refine FreeEnd.cons rfl fun v hv => ?_
    obtain ⟨A23, c23, rfl, r23⟩ := hv
    refine FreeEnd.nil ?_
    (try simp only [Act.put, List.setIfInBounds_toArray, List.set_cons_zero, List.set_cons_succ])
    simp only [List.length_cons, List.length_nil, Nat.reduceAdd, List.drop_succ_cons, List.drop_zero]
    have hj : joined [(Value.slice A3 ([UInt8.ofNat x.kind.toNat]).length c3, [UInt8.ofNat x.kind.toNat]), (Value.slice A6 (varB x.height.toNat).length c6, varB x.height.toNat), (Value.slice A10 (varB x.round.toNat).length c10, varB x.round.toNat), (Value.slice A13 (x.id).length c13, x.id), (Value.slice A16 (varB x.time.toNat).length c16, varB x.time.toNat), (Value.slice A19 (varB x.frm.toNat).length c19, varB x.frm.toNat), (Value.slice A23 (optB b x.sl).length c23, optB b x.sl)] = refVote x b := by
      simp only [joined, refVote, List.flatMap_cons, List.flatMap_nil, List.append_nil, List.append_assoc]
    rw [← hj] at hl
    have hpp : Parts (w2.alloc (.cells #[Value.slice A3 ([UInt8.ofNat x.kind.toNat]).length c3, Value.slice A6 (varB x.height.toNat).length c6, Value.slice A10 (varB x.round.toNat).length c10, Value.slice A13 (x.id).length c13, Value.slice A16 (varB x.time.toNat).length c16, Value.slice A19 (varB x.frm.toNat).length c19, Value.slice A23 (optB b x.sl).length c23] 57)) [(Value.slice A3 ([UInt8.ofNat x.kind.toNat]).length c3, [UInt8.ofNat x.kind.toNat]), (Value.slice A6 (varB x.height.toNat).length c6, varB x.height.toNat), (Value.slice A10 (varB x.round.toNat).length c10, varB x.round.toNat), (Value.slice A13 (x.id).length c13, x.id), (Value.slice A16 (varB x.time.toNat).length c16, varB x.time.toNat), (Value.slice A19 (varB x.frm.toNat).length c19, varB x.frm.toNat), (Value.slice A23 (optB b x.sl).length c23, optB b x.sl)] := by
      intro p hp
      simp only [List.mem_cons, List.not_mem_nil, or_false] at hp
      rcases hp with rfl | rfl | rfl | rfl | rfl | rfl | rfl
      · exact Part.below ⟨A3, c3, rfl, r3⟩ ((Below.refl _ _).alloc (Nat.le_refl _) _)
      · exact Part.below ⟨A6, c6, rfl, r6⟩ ((Below.refl _ _).alloc (Nat.le_refl _) _)
      · exact Part.below ⟨A10, c10, rfl, r10⟩ ((Below.refl _ _).alloc (Nat.le_refl _) _)
      · exact Part.below ⟨A13, c13, rfl, r13⟩ ((Below.refl _ _).alloc (Nat.le_refl _) _)
      · exact Part.below ⟨A16, c16, rfl, r16⟩ ((Below.refl _ _).alloc (Nat.le_refl _) _)
      · exact Part.below ⟨A19, c19, rfl, r19⟩ ((Below.refl _ _).alloc (Nat.le_refl _) _)
      · exact Part.below ⟨A23, c23, rfl, r23⟩ ((Below.refl _ _).alloc (Nat.le_refl _) _)
    have hrr : Rd (w2.alloc (.cells #[Value.slice A3 ([UInt8.ofNat x.kind.toNat]).length c3, Value.slice A6 (varB x.height.toNat).length c6, Value.slice A10 (varB x.round.toNat).length c10, Value.slice A13 (x.id).length c13, Value.slice A16 (varB x.time.toNat).length c16, Value.slice A19 (varB x.frm.toNat).length c19, Value.slice A23 (optB b x.sl).length c23] 57)) (some ⟨w2.heap.size, 0, none⟩) ([(Value.slice A3 ([UInt8.ofNat x.kind.toNat]).length c3, [UInt8.ofNat x.kind.toNat]), (Value.slice A6 (varB x.height.toNat).length c6, varB x.height.toNat), (Value.slice A10 (varB x.round.toNat).length c10, varB x.round.toNat), (Value.slice A13 (x.id).length c13, x.id), (Value.slice A16 (varB x.time.toNat).length c16, varB x.time.toNat), (Value.slice A19 (varB x.frm.toNat).length c19, varB x.frm.toNat), (Value.slice A23 (optB b x.sl).length c23, optB b x.sl)].map (·.1)) := Rd.of_bk (Bk.new w2 _ _) 0 _ (fun j u hu => by simpa using hu)
    go_wp2_with (go_at_call 54; go_must (refine (join_any _ _ 7 7 _ hrr rfl hpp hl (by omega)).mono ?_); rintro e w3 ⟨v, rfl, hv, hb3⟩)
    go_ret
    rw [hj] at hv
    have hs3 : w.heap.size ≤ w2.heap.size := Nat.le_trans hbl.size hw2.size
    refine ⟨_, rfl, hv.mono (by simp; omega), ?_⟩
    exact (((hbl.drew).trans (hw2.mono hbl.size)).alloc hs3 _).trans (hb3.mono (by simp; omega))

def refProposal (x : Proposal) (b : Bool) : List UInt8 := varB x.height.toNat ++ varB x.round.toNat ++ varB (x.valid + 1).toNat ++ x.id ++ varB x.frm.toNat ++ optB b x.sl
end Go.Proofs.YtjdegphpalhapaaDoor

/-
  The document's own TxBytes, VoteBytes, ProposalBytes: the same error or bytes as package wire's. Condition: each number fits its kind.
-/
import Derived.Test.YtocgcalaiejbiaaRef4
namespace Go.Proofs.Ytocgcalaiejbiaa
set_option linter.unusedSimpArgs false
set_option linter.unusedVariables false
open Go.RowKit
set_option maxRecDepth 100000

theorem firstErr_nil : firstErr [] = 0 := rfl
theorem firstErr_cons (a : Int) (l : List Int) : firstErr (a :: l) = if a = 0 then firstErr l else a := by
  by_cases h : a = 0
  · subst h; simp [firstErr]
  · simp [firstErr, h]
set_option maxHeartbeats 4000000 in
theorem plainTxR_eq (x : Tx) : plainTxR x = plainTx x := by
  unfold plainTxR plainTx kind amount field
  simp only [firstErr_cons, firstErr_nil]
  by_cases h1 : x.kind < 1
  · simp [h1]
  by_cases h2 : 4 < x.kind
  · simp [h1, h2]
  rcases e3 : (x.frm == 0) with _ | _
  case true => simp [h1, h2, e3]
  rcases e4 : (x.kind == 1) with _ | _ <;> rcases e5 : (x.to == 0) with _ | _ <;> rcases e7 : (x.kind == 4) with _ | _ <;> rcases e8 : (x.amount == 0) with _ | _ <;> by_cases h6 : 1152921504606846975 < x.amount <;> by_cases h9 : 1152921504606846975 < x.fee <;> simp [h1, h2, e3, e4, e5, h6, e7, e8, h9, bne]
theorem kind_two (k : Int) : (k != 1 && k != 2) = decide (k < 1 ∨ 2 < k) := by
  by_cases h1 : k = 1
  · subst h1; rfl
  · by_cases h2 : k = 2
    · subst h2; rfl
    · rw [decide_eq_true (by omega)]; simp [h1, h2]
set_option maxHeartbeats 4000000 in
theorem plainVoteR_eq (x : Vote) : plainVoteR x = plainVote x := by
  unfold plainVoteR plainVote
  rw [kind_two]
  unfold kind height round moment field
  simp only [firstErr_cons, firstErr_nil]
  by_cases h1 : x.kind < 1 ∨ 2 < x.kind
  · simp [h1]
  by_cases h2 : x.height < 1 ∨ 1099511627776 < x.height
  · simp [h1, h2]
  by_cases h3 : x.round < 0 ∨ 65535 < x.round
  · simp [h1, h2, h3]
  by_cases h4 : 1125899906842624 < x.time
  · simp [h1, h2, h3, h4]
  rcases e5 : (x.time == 0) with _ | _ <;> rcases e6 : (x.kind == 1) with _ | _ <;> rcases e7 : (x.id == zeros 32) with _ | _ <;> rcases e8 : (x.frm == 0) with _ | _ <;> simp [h1, h2, h3, h4, e5, e6, e7, e8, bne]
set_option maxHeartbeats 4000000 in
theorem plainProposalR_eq (x : Proposal) : plainProposalR x = plainProposal x := by
  unfold plainProposalR plainProposal height round field
  simp only [firstErr_cons, firstErr_nil]
  by_cases h2 : x.height < 1 ∨ 1099511627776 < x.height
  · simp [h2]
  by_cases h3 : x.round < 0 ∨ 65535 < x.round
  · simp [h2, h3]
  by_cases h4 : x.valid < -1 <;> by_cases h5 : x.round ≤ x.valid <;> rcases e7 : (x.id == zeros 32) with _ | _ <;> rcases e8 : (x.frm == 0) with _ | _ <;> simp [h2, h3, h4, h5, e7, e8]

/-- a slice of one byte, full -/
def OneK (b : UInt8) : Known := fun v w => ∃ g, v = .slice (some ⟨g, 0, none⟩) 1 1 ∧ w.cell? ⟨g, 0, none⟩ = some (.int .u8 b.toNat) ∧ g < w.heap.size
theorem OneK.steady (b : UInt8) : Steady (OneK b) := fun _ _ _ ⟨g, h1, h2, h3⟩ hb => ⟨g, h1, (hb.cell h3).trans h2, Nat.lt_of_lt_of_le h3 hb.size⟩
def BsK (B : Nat) (l : List UInt8) : Known := fun v w => Bs w B v l
theorem BsK.steady (B : Nat) (l : List UInt8) : Steady (BsK B l) := fun _ _ _ h hb => Bs.below h hb
/-- append onto a full slice of one byte: into new memory -/
theorem wpList_app_one {ops : Array Oper} {rest : List Oper} {o : Oper} {a : Act} {w : World} {Q : Exit → Act → World → Prop} (hgd : o.guard = none) (s x : Operand)
    (ho : o.op = .call { callee := .builtin .append, args := #[s, x], argTypes := #[36, 36] }) (g : Nat) (b : UInt8) (hs : a.eval s = .slice (some ⟨g, 0, none⟩) 1 1) (hc : w.cell? ⟨g, 0, none⟩ = some (.int .u8 b.toNat))
    (A : Option Addr) (n c : Nat) (l2 : List UInt8) (hx : a.eval x = .slice A n c) (hn : l2.length = n) (hr : Rd w A (bv l2)) (hne : 1 ≤ l2.length) (hlen : l2.length ≤ reach47)
    (h : ∀ v' w', Bs w' w.heap.size v' (b :: l2) → Below w.heap.size w w' → wpList Try.prog ops Q rest (a.put o.dst v') w') : wpList Try.prog ops Q (o :: rest) a w := by
  obtain ⟨i0, hi, hz0, hz1, hz2⟩ := info_u8'
  subst hn
  have hA : ∃ ad, A = some ad := by
    cases l2 with
    | nil => simp at hne
    | cons u l =>
      obtain ⟨ad, ha, _⟩ := hr 0 _ rfl
      exact ⟨ad, ha⟩
  obtain ⟨ad, rfl⟩ := hA
  refine wpList_append_grows w hgd s x 36 ho 5 i0 (.int .u8 0) 1 1 Try.underlying36 hi hz0 hz1 hz2 rfl (by decide) (some ⟨g, 0, none⟩) 1 1 (bv [b]) hs (by intro h; cases h) (by simp [bv]) ?_ ad _ c (bv l2) hx (by rw [bv_length, Nat.mul_one]) ?_ (bv_one _) (by omega) (by unfold reach47 at hlen; unfold maxLen; omega) (by unfold reach47 at hlen; omega) ?_
  · intro bb hb j u hu
    cases hb
    cases j with
    | zero => simp only [bv, List.map_cons, List.map_nil, List.getElem?_cons_zero, Option.some.injEq] at hu; rw [addr_add, ← hu]; exact hc
    | succ j => simp [bv] at hu
  · intro j u hu
    obtain ⟨ad', he, hcc⟩ := hr j u hu
    cases he
    exact hcc
  · intro v' w' hown hg
    refine h v' w' ?_ ((Below.refl _ _).grown hg (Nat.le_refl _) (by intro k hk; cases hk))
    unfold Bs
    rw [show (b :: l2).length = 1 + l2.length by simp; omega]
    simpa [bv] using hown
theorem named_zero {n : Nat} (h : (named n == 0) = true) : 1 ≤ n ∧ n ≤ 16 := by
  have := of_decide_eq_false (field_zero (by simpa using h : named n = 0))
  omega
theorem named_err {n : Nat} (h : (named n == 0) = false) : named n = 41 := by
  by_cases hh : n < 1 ∨ 16 < n
  · unfold named field; rw [decide_eq_true hh]; rfl
  · exfalso; unfold named field at h; rw [decide_eq_false hh] at h; cases h


theorem refTx_eq (x : Tx) : refTx x false = encTx x := by simp [refTx, encTx, optB]
set_option maxHeartbeats 2000000 in
theorem rTxBytes_any (w : World) (chain : ByteArray) (x : Tx) (hx : x.ok) (hc : chain.size ≤ 9223372036854775807) :
    Calls Try.prog 10 #[.string chain, .agg x.cl.toArray] w (BytesRes w (saidErr chain (plainTx x)) (bytesTx chain x)) := by
  have Hc := Lib.hid hc; clear hc
  have Hlen := Lib.hid (x.cl_len hx)
  obtain ⟨q, hq⟩ : ∃ q, (named chain.size == 0) = q := ⟨_, rfl⟩
  cases q
  · have he : saidErr chain (plainTx x) = 41 := by unfold saidErr; rw [firstErr_cons, named_err hq]; rfl
    have HE := Lib.hid he; clear he
    go_enter Try.func10, Try.ntmps10
    go_wp2_with (with_reducible show wpList _ _ _ (Oper.mk _ (Op.box _ _) _ _ _ _ :: _) _ _; refine wpList_box_bk rfl _ _ rfl _ rfl ?_)
    intro bx w2 hk1 hbl hg hs
    clear hg hs
    go_wp2_with (go_at_call 37; go_must (refine (rNamed_any w2 chain Hc.out).mono ?_); rintro e w3 ⟨rfl, rfl⟩)
    go_ret2
    refine ⟨hbl, .inl ⟨by rw [HE.out]; decide, by rw [HE.out]; rfl⟩⟩
  · obtain ⟨n1, n2⟩ := named_zero hq
    have hn0 : named chain.size = 0 := by simpa using hq
    have he : saidErr chain (plainTx x) = plainTx x := by unfold saidErr; rw [firstErr_cons, hn0, if_pos rfl, firstErr_cons]; by_cases hz : plainTx x = 0 <;> simp [hz, firstErr]
    have HE := Lib.hid he; clear he hn0
    have N1 := Lib.hid n1; clear n1
    have N2 := Lib.hid n2; clear n2
    obtain ⟨q2, hq2⟩ : ∃ q, (plainTx x != 0) = q := ⟨_, rfl⟩
    have HQ2 := Lib.hid hq2
    cases q2
    all_goals
      go_enter Try.func10, Try.ntmps10
      go_wp2_with (with_reducible show wpList _ _ _ (Oper.mk _ (Op.box _ _) _ _ _ _ :: _) _ _; refine wpList_box_bk rfl _ _ rfl _ rfl ?_)
      intro bx w2 hk1 hbl hg hs
      clear hg hs
      go_wp2_with (first
        | (go_at_call 37; go_must (refine (rNamed_any w2 chain Hc.out).mono ?_); rintro e w3 ⟨rfl, rfl⟩)
        | (with_reducible show wpList _ _ _ (Oper.mk _ (Op.load _ _) _ _ _ _ :: _) _ _; refine wpList_load_part rfl 27 _ rfl bx 0 22 rfl _ _ _ hk1 Try.underlying27 rfl info_Tx (by have := Hlen.out; simp [this]) _ (cl_all Hlen.out) ?_)
        | (go_at_call 38; go_must (refine (rPlainTx_any w2 x).mono ?_); rintro e w3 ⟨rfl, e3⟩; rw [plainTxR_eq]))
    · have hz : plainTx x = 0 := by have := HQ2.out; simpa using this
      have HB := Lib.hid (txB hz)
      have HZ := Lib.hid hz; clear hz
      have lc := varB_ten (n := chain.size) (by unfold two64; have := N2.out; omega)
      have hl : (refTx x false).length ≤ reach47 := by rw [refTx_eq]; have := encTx_len hx HB.out; unfold reach47; omega
      have hk3 := (hk1.below e3 hk1.lt).drew
      have ht : (textB chain).length ≤ 100 := by
        have e : chain.data.size = chain.size := rfl
        have := N2.out
        simp only [textB, List.length_append, Array.length_toList]; omega
      have ht1 : 1 ≤ (textB chain).length := by
        have e : chain.data.size = chain.size := rfl
        have := N1.out
        simp only [textB, List.length_append, Array.length_toList]; omega
      refine wp_region_free [(15, []), (16, []), (17, [(1, 16)]), (18, [(0, 15), (2, 17)]), (19, []), (20, [(4, 19)])]
        [OneK 84, Is ?v1, PartK (textB chain), BsK w3.heap.size (84 :: textB chain), Is ?v4, PartK (refTx x false)]
        (by kernel_rfl) (by kernel_rfl) (by rfl) ?st ?steps ?fin
      case st => exact ⟨OneK.steady _, Is.steady _, PartK.steady _, BsK.steady _ _, Is.steady _, PartK.steady _, trivial⟩
      case steps =>
        refine FreeSteps.cons (fun w4 hw4 => ?_) ?_
        · refine FreeStep.op rfl rfl ?_
          (try simp only [Act.put, List.setIfInBounds_toArray, List.set_cons_zero, List.set_cons_succ])
          go_wp2_with fail
          refine QStep.mk rfl ((Below.refl _ _).alloc (Nat.le_refl _) _) ?_
          exact ⟨_, rfl, (Bk.new w4 _ _).cell 0, by simp⟩
        refine FreeSteps.cons (fun w4 hw4 => ?_) ?_
        · (refine FreeStep.det rfl rfl rfl (by rfl) rfl rfl ?_; (try simp only [Act.put, List.setIfInBounds_toArray, List.set_cons_zero, List.set_cons_succ]); go_simp; (try with_reducible rfl))
        refine FreeSteps.cons (fun w4 hw4 => FreeStep.is rfl ?_) ?_
        · refine FreeStep.call rfl rfl rfl (by rfl) rfl rfl (by (try simp only [Act.put, List.setIfInBounds_toArray, List.set_cons_zero, List.set_cons_succ]); go_simp; (try with_reducible rfl)) (rText_any w4 chain (by have := N2.out; unfold reach47; omega)) ?_
          rintro e w5 ⟨v, rfl, hv, hb5⟩; exact ⟨v, rfl, hb5, hv.part⟩
        refine FreeSteps.cons (fun w4 hw4 => FreeStep.dep rfl fun va ha => FreeStep.dep rfl fun vb hb => ?_) ?_
        · obtain ⟨g1, rfl, hc1, hg1⟩ := ha
          obtain ⟨A2, c2, rfl, r2⟩ := hb
          refine FreeStep.op rfl rfl ?_
          (try simp only [Act.put, List.setIfInBounds_toArray, List.set_cons_zero, List.set_cons_succ])
          refine wpList_app_one rfl _ _ rfl g1 84 rfl hc1 A2 _ c2 (textB chain) rfl rfl r2 ht1 (by unfold reach47; omega) ?_
          intro v' w5 hown hb5
          refine QStep.mk rfl hb5 ?_
          exact hown.mono hw4.size
        refine FreeSteps.cons (fun w4 hw4 => ?_) ?_
        · refine FreeStep.load_part 27 _ rfl rfl rfl rfl (by rfl) rfl rfl bx 0 22 rfl _ _ _ (hk3.below hw4 hk3.lt) Try.underlying27 rfl info_Tx (by have := Hlen.out; simp [this]) _ (cl_all Hlen.out) ?_
          with_reducible rfl
        refine FreeSteps.cons (fun w4 hw4 => FreeStep.is rfl ?_) ?_
        · refine FreeStep.call rfl rfl rfl (by rfl) rfl rfl (by (try simp only [Act.put, List.setIfInBounds_toArray, List.set_cons_zero, List.set_cons_succ]); go_simp; (try with_reducible rfl)) (rTx_any w4 x false hx (by have := HB.out.k1; omega) (by have := HB.out.k2; omega) hl) ?_
          rintro e w5 ⟨v, rfl, hv, hb5⟩; exact ⟨v, rfl, hb5, hv.part⟩
        exact FreeSteps.nil
      case fin =>
        intro w4 hw4
        refine FreeEnd.cons rfl fun va _ => ?_
        refine FreeEnd.is rfl ?_
        refine FreeEnd.cons rfl fun vb _ => ?_
        refine FreeEnd.cons rfl fun vc hvc => ?_
        refine FreeEnd.is rfl ?_
        refine FreeEnd.cons rfl fun vd hvd => ?_
        obtain ⟨A5, c5, rfl, r5⟩ := hvd
        have hvc : Bs w4 w3.heap.size vc (84 :: textB chain) := hvc
        refine FreeEnd.nil ?_
        (try simp only [Act.put, List.setIfInBounds_toArray, List.set_cons_zero, List.set_cons_succ])
        simp only [List.length_cons, List.length_nil, Nat.reduceAdd, List.drop_succ_cons, List.drop_zero]
        obtain ⟨A3, c3, rfl⟩ := hvc.form
        have hl3 : (84 :: textB chain).length + (refTx x false).length ≤ reach47 + 64 := by
          rw [refTx_eq]; have := encTx_len hx HB.out
          simp only [List.length_cons]; unfold reach47; omega
        have hs4 : w3.heap.size ≤ w4.heap.size := hw4.size
        refine wpList_app rfl _ _ rfl w3.heap.size _ _ rfl hvc A5 _ c5 (refTx x false) rfl rfl r5 hl3 hs4 ?_
        intro A' c' w5 hown5 hg5 hat5
        have hb5 : Below w3.heap.size w3 w5 := below_app ((Below.refl _ _).drew.trans hw4) hvc hg5 hs4
        go_wp2
        go_ret2
        refine ⟨hbl.trans ((e3.mono hbl.size).trans (hb5.mono (Nat.le_trans hbl.size e3.size))), .inr ⟨by rw [HE.out, HZ.out], _, rfl, ?_⟩⟩
        have hbs : bytesTx chain x = (84 :: textB chain) ++ refTx x false := by rw [refTx_eq]; simp [bytesTx]
        rw [hbs]
        exact hown5.mono (Nat.le_trans hbl.size e3.size)
    · have hz : plainTx x ≠ 0 := by have := HQ2.out; simpa using this
      have HZ := Lib.hid hz; clear hz
      go_ret2
      refine ⟨hbl.trans (e3.mono hbl.size), .inl ⟨by rw [HE.out]; exact HZ.out, by rw [HE.out]; rfl⟩⟩

theorem refVote_eq (x : Vote) : refVote x false = encVote x := by simp [refVote, encVote, optB]
set_option maxHeartbeats 2000000 in
theorem rVoteBytes_any (w : World) (chain : ByteArray) (x : Vote) (hx : x.ok) (hc : chain.size ≤ 9223372036854775807) :
    Calls Try.prog 11 #[.string chain, .agg x.cl.toArray] w (BytesRes w (saidErr chain (plainVote x)) (bytesVote chain x)) := by
  have Hc := Lib.hid hc; clear hc
  have Hlen := Lib.hid (x.cl_len hx)
  obtain ⟨q, hq⟩ : ∃ q, (named chain.size == 0) = q := ⟨_, rfl⟩
  cases q
  · have he : saidErr chain (plainVote x) = 41 := by unfold saidErr; rw [firstErr_cons, named_err hq]; rfl
    have HE := Lib.hid he; clear he
    go_enter Try.func11, Try.ntmps11
    go_wp2_with (with_reducible show wpList _ _ _ (Oper.mk _ (Op.box _ _) _ _ _ _ :: _) _ _; refine wpList_box_bk rfl _ _ rfl _ rfl ?_)
    intro bx w2 hk1 hbl hg hs
    clear hg hs
    go_wp2_with (go_at_call 37; go_must (refine (rNamed_any w2 chain Hc.out).mono ?_); rintro e w3 ⟨rfl, rfl⟩)
    go_ret2
    refine ⟨hbl, .inl ⟨by rw [HE.out]; decide, by rw [HE.out]; rfl⟩⟩
  · obtain ⟨n1, n2⟩ := named_zero hq
    have hn0 : named chain.size = 0 := by simpa using hq
    have he : saidErr chain (plainVote x) = plainVote x := by unfold saidErr; rw [firstErr_cons, hn0, if_pos rfl, firstErr_cons]; by_cases hz : plainVote x = 0 <;> simp [hz, firstErr]
    have HE := Lib.hid he; clear he hn0
    have N1 := Lib.hid n1; clear n1
    have N2 := Lib.hid n2; clear n2
    obtain ⟨q2, hq2⟩ : ∃ q, (plainVote x != 0) = q := ⟨_, rfl⟩
    have HQ2 := Lib.hid hq2
    cases q2
    all_goals
      go_enter Try.func11, Try.ntmps11
      go_wp2_with (with_reducible show wpList _ _ _ (Oper.mk _ (Op.box _ _) _ _ _ _ :: _) _ _; refine wpList_box_bk rfl _ _ rfl _ rfl ?_)
      intro bx w2 hk1 hbl hg hs
      clear hg hs
      go_wp2_with (first
        | (go_at_call 37; go_must (refine (rNamed_any w2 chain Hc.out).mono ?_); rintro e w3 ⟨rfl, rfl⟩)
        | (with_reducible show wpList _ _ _ (Oper.mk _ (Op.load _ _) _ _ _ _ :: _) _ _; refine wpList_load_part rfl 31 _ rfl bx 0 53 rfl _ _ _ hk1 Try.underlying31 rfl info_Vote (by have := Hlen.out; simp [this]) _ (cl_all Hlen.out) ?_)
        | (go_at_call 41; go_must (refine (rPlainVote_any w2 x hx).mono ?_); rintro e w3 ⟨rfl, e3⟩; rw [plainVoteR_eq]))
    · have hz : plainVote x = 0 := by have := HQ2.out; simpa using this
      have HB := Lib.hid (voteB hx hz)
      have HZ := Lib.hid hz; clear hz
      have lc := varB_ten (n := chain.size) (by unfold two64; have := N2.out; omega)
      have hl : (refVote x false).length ≤ reach47 := by rw [refVote_eq]; have := encVote_len hx HB.out; unfold reach47; omega
      have hk3 := (hk1.below e3 hk1.lt).drew
      have ht : (textB chain).length ≤ 100 := by
        have e : chain.data.size = chain.size := rfl
        have := N2.out
        simp only [textB, List.length_append, Array.length_toList]; omega
      have ht1 : 1 ≤ (textB chain).length := by
        have e : chain.data.size = chain.size := rfl
        have := N1.out
        simp only [textB, List.length_append, Array.length_toList]; omega
      refine wp_region_free [(15, []), (16, []), (17, [(1, 16)]), (18, [(0, 15), (2, 17)]), (19, []), (20, [(4, 19)])]
        [OneK 86, Is ?v1, PartK (textB chain), BsK w3.heap.size (86 :: textB chain), Is ?v4, PartK (refVote x false)]
        (by kernel_rfl) (by kernel_rfl) (by rfl) ?st ?steps ?fin
      case st => exact ⟨OneK.steady _, Is.steady _, PartK.steady _, BsK.steady _ _, Is.steady _, PartK.steady _, trivial⟩
      case steps =>
        refine FreeSteps.cons (fun w4 hw4 => ?_) ?_
        · refine FreeStep.op rfl rfl ?_
          (try simp only [Act.put, List.setIfInBounds_toArray, List.set_cons_zero, List.set_cons_succ])
          go_wp2_with fail
          refine QStep.mk rfl ((Below.refl _ _).alloc (Nat.le_refl _) _) ?_
          exact ⟨_, rfl, (Bk.new w4 _ _).cell 0, by simp⟩
        refine FreeSteps.cons (fun w4 hw4 => ?_) ?_
        · (refine FreeStep.det rfl rfl rfl (by rfl) rfl rfl ?_; (try simp only [Act.put, List.setIfInBounds_toArray, List.set_cons_zero, List.set_cons_succ]); go_simp; (try with_reducible rfl))
        refine FreeSteps.cons (fun w4 hw4 => FreeStep.is rfl ?_) ?_
        · refine FreeStep.call rfl rfl rfl (by rfl) rfl rfl (by (try simp only [Act.put, List.setIfInBounds_toArray, List.set_cons_zero, List.set_cons_succ]); go_simp; (try with_reducible rfl)) (rText_any w4 chain (by have := N2.out; unfold reach47; omega)) ?_
          rintro e w5 ⟨v, rfl, hv, hb5⟩; exact ⟨v, rfl, hb5, hv.part⟩
        refine FreeSteps.cons (fun w4 hw4 => FreeStep.dep rfl fun va ha => FreeStep.dep rfl fun vb hb => ?_) ?_
        · obtain ⟨g1, rfl, hc1, hg1⟩ := ha
          obtain ⟨A2, c2, rfl, r2⟩ := hb
          refine FreeStep.op rfl rfl ?_
          (try simp only [Act.put, List.setIfInBounds_toArray, List.set_cons_zero, List.set_cons_succ])
          refine wpList_app_one rfl _ _ rfl g1 86 rfl hc1 A2 _ c2 (textB chain) rfl rfl r2 ht1 (by unfold reach47; omega) ?_
          intro v' w5 hown hb5
          refine QStep.mk rfl hb5 ?_
          exact hown.mono hw4.size
        refine FreeSteps.cons (fun w4 hw4 => ?_) ?_
        · refine FreeStep.load_part 31 _ rfl rfl rfl rfl (by rfl) rfl rfl bx 0 53 rfl _ _ _ (hk3.below hw4 hk3.lt) Try.underlying31 rfl info_Vote (by have := Hlen.out; simp [this]) _ (cl_all Hlen.out) ?_
          with_reducible rfl
        refine FreeSteps.cons (fun w4 hw4 => FreeStep.is rfl ?_) ?_
        · refine FreeStep.call rfl rfl rfl (by rfl) rfl rfl (by (try simp only [Act.put, List.setIfInBounds_toArray, List.set_cons_zero, List.set_cons_succ]); go_simp; (try with_reducible rfl)) (rVote_any w4 x false hx (by have := HB.out.k1; omega) (by have := HB.out.k2; omega) HB.out.r1 hl) ?_
          rintro e w5 ⟨v, rfl, hv, hb5⟩; exact ⟨v, rfl, hb5, hv.part⟩
        exact FreeSteps.nil
      case fin =>
        intro w4 hw4
        refine FreeEnd.cons rfl fun va _ => ?_
        refine FreeEnd.is rfl ?_
        refine FreeEnd.cons rfl fun vb _ => ?_
        refine FreeEnd.cons rfl fun vc hvc => ?_
        refine FreeEnd.is rfl ?_
        refine FreeEnd.cons rfl fun vd hvd => ?_
        obtain ⟨A5, c5, rfl, r5⟩ := hvd
        have hvc : Bs w4 w3.heap.size vc (86 :: textB chain) := hvc
        refine FreeEnd.nil ?_
        (try simp only [Act.put, List.setIfInBounds_toArray, List.set_cons_zero, List.set_cons_succ])
        simp only [List.length_cons, List.length_nil, Nat.reduceAdd, List.drop_succ_cons, List.drop_zero]
        obtain ⟨A3, c3, rfl⟩ := hvc.form
        have hl3 : (86 :: textB chain).length + (refVote x false).length ≤ reach47 + 64 := by
          rw [refVote_eq]; have := encVote_len hx HB.out
          simp only [List.length_cons]; unfold reach47; omega
        have hs4 : w3.heap.size ≤ w4.heap.size := hw4.size
        refine wpList_app rfl _ _ rfl w3.heap.size _ _ rfl hvc A5 _ c5 (refVote x false) rfl rfl r5 hl3 hs4 ?_
        intro A' c' w5 hown5 hg5 hat5
        have hb5 : Below w3.heap.size w3 w5 := below_app ((Below.refl _ _).drew.trans hw4) hvc hg5 hs4
        go_wp2
        go_ret2
        refine ⟨hbl.trans ((e3.mono hbl.size).trans (hb5.mono (Nat.le_trans hbl.size e3.size))), .inr ⟨by rw [HE.out, HZ.out], _, rfl, ?_⟩⟩
        have hbs : bytesVote chain x = (86 :: textB chain) ++ refVote x false := by rw [refVote_eq]; simp [bytesVote]
        rw [hbs]
        exact hown5.mono (Nat.le_trans hbl.size e3.size)
    · have hz : plainVote x ≠ 0 := by have := HQ2.out; simpa using this
      have HZ := Lib.hid hz; clear hz
      go_ret2
      refine ⟨hbl.trans (e3.mono hbl.size), .inl ⟨by rw [HE.out]; exact HZ.out, by rw [HE.out]; rfl⟩⟩

theorem refProposal_eq (x : Proposal) : refProposal x false = encProposal x := by simp [refProposal, encProposal, optB]
set_option maxHeartbeats 2000000 in
theorem rProposalBytes_any (w : World) (chain : ByteArray) (x : Proposal) (hx : x.ok) (hc : chain.size ≤ 9223372036854775807) :
    Calls Try.prog 12 #[.string chain, .agg x.cl.toArray] w (BytesRes w (saidErr chain (plainProposal x)) (bytesProposal chain x)) := by
  have Hc := Lib.hid hc; clear hc
  have Hlen := Lib.hid (x.cl_len hx)
  obtain ⟨q, hq⟩ : ∃ q, (named chain.size == 0) = q := ⟨_, rfl⟩
  cases q
  · have he : saidErr chain (plainProposal x) = 41 := by unfold saidErr; rw [firstErr_cons, named_err hq]; rfl
    have HE := Lib.hid he; clear he
    go_enter Try.func12, Try.ntmps12
    go_wp2_with (with_reducible show wpList _ _ _ (Oper.mk _ (Op.box _ _) _ _ _ _ :: _) _ _; refine wpList_box_bk rfl _ _ rfl _ rfl ?_)
    intro bx w2 hk1 hbl hg hs
    clear hg hs
    go_wp2_with (go_at_call 37; go_must (refine (rNamed_any w2 chain Hc.out).mono ?_); rintro e w3 ⟨rfl, rfl⟩)
    go_ret2
    refine ⟨hbl, .inl ⟨by rw [HE.out]; decide, by rw [HE.out]; rfl⟩⟩
  · obtain ⟨n1, n2⟩ := named_zero hq
    have hn0 : named chain.size = 0 := by simpa using hq
    have he : saidErr chain (plainProposal x) = plainProposal x := by unfold saidErr; rw [firstErr_cons, hn0, if_pos rfl, firstErr_cons]; by_cases hz : plainProposal x = 0 <;> simp [hz, firstErr]
    have HE := Lib.hid he; clear he hn0
    have N1 := Lib.hid n1; clear n1
    have N2 := Lib.hid n2; clear n2
    obtain ⟨q2, hq2⟩ : ∃ q, (plainProposal x != 0) = q := ⟨_, rfl⟩
    have HQ2 := Lib.hid hq2
    cases q2
    all_goals
      go_enter Try.func12, Try.ntmps12
      go_wp2_with (with_reducible show wpList _ _ _ (Oper.mk _ (Op.box _ _) _ _ _ _ :: _) _ _; refine wpList_box_bk rfl _ _ rfl _ rfl ?_)
      intro bx w2 hk1 hbl hg hs
      clear hg hs
      go_wp2_with (first
        | (go_at_call 37; go_must (refine (rNamed_any w2 chain Hc.out).mono ?_); rintro e w3 ⟨rfl, rfl⟩)
        | (with_reducible show wpList _ _ _ (Oper.mk _ (Op.load _ _) _ _ _ _ :: _) _ _; refine wpList_load_part rfl 33 _ rfl bx 0 52 rfl _ _ _ hk1 Try.underlying33 rfl info_Proposal (by have := Hlen.out; simp [this]) _ (cl_all Hlen.out) ?_)
        | (go_at_call 43; go_must (refine (rPlainProposal_any w2 x hx).mono ?_); rintro e w3 ⟨rfl, e3⟩; rw [plainProposalR_eq]))
    · have hz : plainProposal x = 0 := by have := HQ2.out; simpa using this
      have HB := Lib.hid (proposalB hx hz)
      have HZ := Lib.hid hz; clear hz
      have lc := varB_ten (n := chain.size) (by unfold two64; have := N2.out; omega)
      have hl : (refProposal x false).length ≤ reach47 := by rw [refProposal_eq]; have := encProposal_len hx HB.out; unfold reach47; omega
      have hk3 := (hk1.below e3 hk1.lt).drew
      have ht : (textB chain).length ≤ 100 := by
        have e : chain.data.size = chain.size := rfl
        have := N2.out
        simp only [textB, List.length_append, Array.length_toList]; omega
      have ht1 : 1 ≤ (textB chain).length := by
        have e : chain.data.size = chain.size := rfl
        have := N1.out
        simp only [textB, List.length_append, Array.length_toList]; omega
      refine wp_region_free [(15, []), (16, []), (17, [(1, 16)]), (18, [(0, 15), (2, 17)]), (19, []), (20, [(4, 19)])]
        [OneK 80, Is ?v1, PartK (textB chain), BsK w3.heap.size (80 :: textB chain), Is ?v4, PartK (refProposal x false)]
        (by kernel_rfl) (by kernel_rfl) (by rfl) ?st ?steps ?fin
      case st => exact ⟨OneK.steady _, Is.steady _, PartK.steady _, BsK.steady _ _, Is.steady _, PartK.steady _, trivial⟩
      case steps =>
        refine FreeSteps.cons (fun w4 hw4 => ?_) ?_
        · refine FreeStep.op rfl rfl ?_
          (try simp only [Act.put, List.setIfInBounds_toArray, List.set_cons_zero, List.set_cons_succ])
          go_wp2_with fail
          refine QStep.mk rfl ((Below.refl _ _).alloc (Nat.le_refl _) _) ?_
          exact ⟨_, rfl, (Bk.new w4 _ _).cell 0, by simp⟩
        refine FreeSteps.cons (fun w4 hw4 => ?_) ?_
        · (refine FreeStep.det rfl rfl rfl (by rfl) rfl rfl ?_; (try simp only [Act.put, List.setIfInBounds_toArray, List.set_cons_zero, List.set_cons_succ]); go_simp; (try with_reducible rfl))
        refine FreeSteps.cons (fun w4 hw4 => FreeStep.is rfl ?_) ?_
        · refine FreeStep.call rfl rfl rfl (by rfl) rfl rfl (by (try simp only [Act.put, List.setIfInBounds_toArray, List.set_cons_zero, List.set_cons_succ]); go_simp; (try with_reducible rfl)) (rText_any w4 chain (by have := N2.out; unfold reach47; omega)) ?_
          rintro e w5 ⟨v, rfl, hv, hb5⟩; exact ⟨v, rfl, hb5, hv.part⟩
        refine FreeSteps.cons (fun w4 hw4 => FreeStep.dep rfl fun va ha => FreeStep.dep rfl fun vb hb => ?_) ?_
        · obtain ⟨g1, rfl, hc1, hg1⟩ := ha
          obtain ⟨A2, c2, rfl, r2⟩ := hb
          refine FreeStep.op rfl rfl ?_
          (try simp only [Act.put, List.setIfInBounds_toArray, List.set_cons_zero, List.set_cons_succ])
          refine wpList_app_one rfl _ _ rfl g1 80 rfl hc1 A2 _ c2 (textB chain) rfl rfl r2 ht1 (by unfold reach47; omega) ?_
          intro v' w5 hown hb5
          refine QStep.mk rfl hb5 ?_
          exact hown.mono hw4.size
        refine FreeSteps.cons (fun w4 hw4 => ?_) ?_
        · refine FreeStep.load_part 33 _ rfl rfl rfl rfl (by rfl) rfl rfl bx 0 52 rfl _ _ _ (hk3.below hw4 hk3.lt) Try.underlying33 rfl info_Proposal (by have := Hlen.out; simp [this]) _ (cl_all Hlen.out) ?_
          with_reducible rfl
        refine FreeSteps.cons (fun w4 hw4 => FreeStep.is rfl ?_) ?_
        · refine FreeStep.call rfl rfl rfl (by rfl) rfl rfl (by (try simp only [Act.put, List.setIfInBounds_toArray, List.set_cons_zero, List.set_cons_succ]); go_simp; (try with_reducible rfl)) (rProposal_any w4 x false hx HB.out.r1 HB.out.v1 (by have := HB.out.v2; have := HB.out.r2; omega) hl) ?_
          rintro e w5 ⟨v, rfl, hv, hb5⟩; exact ⟨v, rfl, hb5, hv.part⟩
        exact FreeSteps.nil
      case fin =>
        intro w4 hw4
        refine FreeEnd.cons rfl fun va _ => ?_
        refine FreeEnd.is rfl ?_
        refine FreeEnd.cons rfl fun vb _ => ?_
        refine FreeEnd.cons rfl fun vc hvc => ?_
        refine FreeEnd.is rfl ?_
        refine FreeEnd.cons rfl fun vd hvd => ?_
        obtain ⟨A5, c5, rfl, r5⟩ := hvd
        have hvc : Bs w4 w3.heap.size vc (80 :: textB chain) := hvc
        refine FreeEnd.nil ?_
        (try simp only [Act.put, List.setIfInBounds_toArray, List.set_cons_zero, List.set_cons_succ])
        simp only [List.length_cons, List.length_nil, Nat.reduceAdd, List.drop_succ_cons, List.drop_zero]
        obtain ⟨A3, c3, rfl⟩ := hvc.form
        have hl3 : (80 :: textB chain).length + (refProposal x false).length ≤ reach47 + 64 := by
          rw [refProposal_eq]; have := encProposal_len hx HB.out
          simp only [List.length_cons]; unfold reach47; omega
        have hs4 : w3.heap.size ≤ w4.heap.size := hw4.size
        refine wpList_app rfl _ _ rfl w3.heap.size _ _ rfl hvc A5 _ c5 (refProposal x false) rfl rfl r5 hl3 hs4 ?_
        intro A' c' w5 hown5 hg5 hat5
        have hb5 : Below w3.heap.size w3 w5 := below_app ((Below.refl _ _).drew.trans hw4) hvc hg5 hs4
        go_wp2
        go_ret2
        refine ⟨hbl.trans ((e3.mono hbl.size).trans (hb5.mono (Nat.le_trans hbl.size e3.size))), .inr ⟨by rw [HE.out, HZ.out], _, rfl, ?_⟩⟩
        have hbs : bytesProposal chain x = (80 :: textB chain) ++ refProposal x false := by rw [refProposal_eq]; simp [bytesProposal]
        rw [hbs]
        exact hown5.mono (Nat.le_trans hbl.size e3.size)
    · have hz : plainProposal x ≠ 0 := by have := HQ2.out; simpa using this
      have HZ := Lib.hid hz; clear hz
      go_ret2
      refine ⟨hbl.trans (e3.mono hbl.size), .inl ⟨by rw [HE.out]; exact HZ.out, by rw [HE.out]; rfl⟩⟩
end Go.Proofs.Ytocgcalaiejbiaa

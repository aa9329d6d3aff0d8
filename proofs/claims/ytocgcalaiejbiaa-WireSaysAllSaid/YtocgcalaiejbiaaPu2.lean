/-
  What can be read as what is signed is just that; what is signed is read back; what is signed of two things is the same only if they are the same but for the seals. No condition.
-/
import Derived.Test.YtocgcalaiejbiaaPu1
import Derived.Test.YtocgcalaiejbiaaRr7
namespace Go.Proofs.Ytocgcalaiejbiaa
set_option linter.unusedSimpArgs false
set_option linter.unusedVariables false
open Go.RowKit
set_option maxRecDepth 100000

theorem textB_list (l : List UInt8) : textB ⟨l.toArray⟩ = varB l.length ++ l := by
  unfold textB
  have e : (ByteArray.mk l.toArray).size = l.length := by simp [ByteArray.size]
  rw [e]
theorem saidErr_list (l : List UInt8) (e : Int) : saidErr ⟨l.toArray⟩ e = firstErr [named l.length, e] := by
  unfold saidErr
  have e : (ByteArray.mk l.toArray).size = l.length := by simp [ByteArray.size]
  rw [e]

theorem heardVote_bw {l : List UInt8} (h : (heardVote l).1 = 0) : bytesVote ⟨(heardVote l).2.1.toArray⟩ (heardVote l).2.2 = l ∧ (heardVote l).2.2.sl = zeros 16 ∧ saidErr ⟨(heardVote l).2.1.toArray⟩ (plainVote (heardVote l).2.2) = 0 ∧ (readByte l 0 0).err = 0 ∧ (readByte l 0 0).val = 86 := by
  by_cases hb : (readByte l 0 0).err = 0 ∧ (readByte l 0 0).val ≠ 86
  · rw [heardVote_bad hb] at h; cases h
  · obtain ⟨K2, hK2⟩ : ∃ K, readText 16 l (readByte l 0 0).at' (readByte l 0 0).err = K := ⟨_, rfl⟩
    obtain ⟨K3, hK3⟩ : ∃ K, rdVote l K2.at' K2.err = K := ⟨_, rfl⟩
    rw [heardVote_go hb K2 hK2 K3 hK3] at h ⊢
    by_cases hE : endErr l K3.at' K3.err = 0
    · rw [if_neg (fun x => x hE)] at h ⊢
      by_cases hF : firstErr [named K2.val.length, plainVote K3.val] = 0
      · rw [if_neg (fun x => x hF)]
        simp only
        obtain ⟨e3, d3⟩ := bw_end hE
        have hpl : plainVote K3.val = 0 := firstErr_zero hF _ (by simp)
        have hok : K3.val.ok := by rw [← hK3]; exact rdVote_ok _ _ _
        have hvb := voteB hok hpl
        have ht2 : K2.err = 0 := by
          apply Classical.byContradiction
          intro hne
          have := rdVote_err (l := l) (p := K2.at') hne
          rw [hK3] at this
          exact hne (this.symm.trans e3)
        have h1 : (readByte l 0 0).err = 0 := by rw [← hK2] at ht2; exact after_err ht2
        have hval : (readByte l 0 0).val = 86 := Classical.byContradiction fun hv => hb ⟨h1, hv⟩
        obtain ⟨_, b1, q1, _, _⟩ := bw_byte rfl h1 (Nat.zero_le _)
        obtain ⟨_, b2, q2⟩ := bw_text hK2 ht2 q1
        obtain ⟨_, b3, q3, hsl⟩ := bw_vote hK3 e3 q2 hvb.r2
        refine ⟨?_, hsl, by rw [saidErr_list]; exact hF, h1, hval⟩
        unfold bytesVote
        rw [textB_list]
        rw [hval] at b1
        rw [b2, b3, d3] at b1
        have : l.drop 0 = l := rfl
        rw [this] at b1
        rw [List.append_nil] at b1
        rw [List.append_assoc]
        exact b1.symm
      · rw [if_pos hF] at h; exact absurd h hF
    · rw [if_pos hE] at h; exact absurd h hE
theorem heardProposal_bw {l : List UInt8} (h : (heardProposal l).1 = 0) : bytesProposal ⟨(heardProposal l).2.1.toArray⟩ (heardProposal l).2.2 = l ∧ (heardProposal l).2.2.sl = zeros 16 ∧ saidErr ⟨(heardProposal l).2.1.toArray⟩ (plainProposal (heardProposal l).2.2) = 0 ∧ (readByte l 0 0).err = 0 ∧ (readByte l 0 0).val = 80 := by
  by_cases hb : (readByte l 0 0).err = 0 ∧ (readByte l 0 0).val ≠ 80
  · rw [heardProposal_bad hb] at h; cases h
  · obtain ⟨K2, hK2⟩ : ∃ K, readText 16 l (readByte l 0 0).at' (readByte l 0 0).err = K := ⟨_, rfl⟩
    obtain ⟨K3, hK3⟩ : ∃ K, rdProposal l K2.at' K2.err = K := ⟨_, rfl⟩
    rw [heardProposal_go hb K2 hK2 K3 hK3] at h ⊢
    by_cases hE : endErr l K3.at' K3.err = 0
    · rw [if_neg (fun x => x hE)] at h ⊢
      by_cases hF : firstErr [named K2.val.length, plainProposal K3.val] = 0
      · rw [if_neg (fun x => x hF)]
        simp only
        obtain ⟨e3, d3⟩ := bw_end hE
        have hpl : plainProposal K3.val = 0 := firstErr_zero hF _ (by simp)
        have hok : K3.val.ok := by rw [← hK3]; exact rdProposal_ok _ _ _
        have hvb := proposalB hok hpl
        have ht2 : K2.err = 0 := by
          apply Classical.byContradiction
          intro hne
          have := rdProposal_err (l := l) (p := K2.at') hne
          rw [hK3] at this
          exact hne (this.symm.trans e3)
        have h1 : (readByte l 0 0).err = 0 := by rw [← hK2] at ht2; exact after_err ht2
        have hval : (readByte l 0 0).val = 80 := Classical.byContradiction fun hv => hb ⟨h1, hv⟩
        obtain ⟨_, b1, q1, _, _⟩ := bw_byte rfl h1 (Nat.zero_le _)
        obtain ⟨_, b2, q2⟩ := bw_text hK2 ht2 q1
        obtain ⟨_, b3, q3, hsl⟩ := bw_proposal hK3 e3 q2 hvb.r2 hvb.v2
        refine ⟨?_, hsl, by rw [saidErr_list]; exact hF, h1, hval⟩
        unfold bytesProposal
        rw [textB_list]
        rw [hval] at b1
        rw [b2, b3, d3] at b1
        have : l.drop 0 = l := rfl
        rw [this] at b1
        rw [List.append_nil] at b1
        rw [List.append_assoc]
        exact b1.symm
      · rw [if_pos hF] at h; exact absurd h hF
    · rw [if_pos hE] at h; exact absurd h hE

theorem textB_eq (s : ByteArray) : textB s = varB s.data.toList.length ++ s.data.toList := by
  unfold textB
  rfl
theorem first_byte (b : UInt8) (r : List UInt8) : readByte (b :: r) 0 0 = ⟨(b.toNat : Int), 1, 0⟩ := fw_byte (l := b :: r) (r := r) (p := 0) (Nat.zero_le _) rfl

theorem heardVote_fw {c : ByteArray} {x : Vote} (hx : x.ok) (h : saidErr c (plainVote x) = 0) : heardVote (bytesVote c x) = (0, c.data.toList, { x with sl := zeros 16 }) := by
  obtain ⟨hp, n1, n2⟩ := saidErr_zero h
  have hvb := voteB hx hp
  have hsz : c.size = c.data.toList.length := rfl
  obtain ⟨l, hl⟩ : ∃ l, bytesVote c x = l := ⟨_, rfl⟩
  have hd0 : l.drop 0 = [86] ++ ((varB c.data.toList.length ++ c.data.toList) ++ (encVote x ++ [])) := by
    rw [← hl]
    unfold bytesVote
    rw [textB_eq]
    simp
  have b1 := fw_byte (Nat.zero_le _) hd0
  obtain ⟨d1, q1⟩ := drop_app hd0 (Nat.zero_le _)
  have b2 := fw_text (n := 16) q1 d1 (by omega) (by omega)
  obtain ⟨d2, q2⟩ := drop_app d1 q1
  have b3 := fw_vote hx hvb q2 d2
  obtain ⟨d3, q3⟩ := drop_app d2 q2
  have hu : ((86 : UInt8).toNat : Int) = 86 := rfl
  rw [hl, heardVote_go (by rw [b1]; exact fun h => h.2 hu) ⟨c.data.toList, _, 0⟩ (by rw [b1]; exact b2) ⟨{ x with sl := zeros 16 }, _, 0⟩ b3]
  have hE : endErr l ((0 + [86].length + (varB c.data.toList.length ++ c.data.toList).length) + (encVote x).length) 0 = 0 := fw_end d3
  rw [if_neg (fun h => h hE)]
  have hF : firstErr [named c.data.toList.length, plainVote { x with sl := zeros 16 }] = 0 := h
  rw [if_neg (fun h => h hF)]
theorem heardProposal_fw {c : ByteArray} {x : Proposal} (hx : x.ok) (h : saidErr c (plainProposal x) = 0) : heardProposal (bytesProposal c x) = (0, c.data.toList, { x with sl := zeros 16 }) := by
  obtain ⟨hp, n1, n2⟩ := saidErr_zero h
  have hvb := proposalB hx hp
  have hsz : c.size = c.data.toList.length := rfl
  obtain ⟨l, hl⟩ : ∃ l, bytesProposal c x = l := ⟨_, rfl⟩
  have hd0 : l.drop 0 = [80] ++ ((varB c.data.toList.length ++ c.data.toList) ++ (encProposal x ++ [])) := by
    rw [← hl]
    unfold bytesProposal
    rw [textB_eq]
    simp
  have b1 := fw_byte (Nat.zero_le _) hd0
  obtain ⟨d1, q1⟩ := drop_app hd0 (Nat.zero_le _)
  have b2 := fw_text (n := 16) q1 d1 (by omega) (by omega)
  obtain ⟨d2, q2⟩ := drop_app d1 q1
  have b3 := fw_proposal hx hvb q2 d2
  obtain ⟨d3, q3⟩ := drop_app d2 q2
  have hu : ((80 : UInt8).toNat : Int) = 80 := rfl
  rw [hl, heardProposal_go (by rw [b1]; exact fun h => h.2 hu) ⟨c.data.toList, _, 0⟩ (by rw [b1]; exact b2) ⟨{ x with sl := zeros 16 }, _, 0⟩ b3]
  have hE : endErr l ((0 + [80].length + (varB c.data.toList.length ++ c.data.toList).length) + (encProposal x).length) 0 = 0 := fw_end d3
  rw [if_neg (fun h => h hE)]
  have hF : firstErr [named c.data.toList.length, plainProposal { x with sl := zeros 16 }] = 0 := h
  rw [if_neg (fun h => h hF)]

theorem heardProposal_of_vote (c : ByteArray) (x : Vote) : heardProposal (bytesVote c x) = (40, [], zeroProposal) := by
  have e : bytesVote c x = 86 :: (textB c ++ encVote x) := by unfold bytesVote; simp
  rw [e]
  exact heardProposal_bad (by rw [first_byte]; exact ⟨rfl, by decide⟩)
theorem heardVote_of_proposal (c : ByteArray) (x : Proposal) : heardVote (bytesProposal c x) = (40, [], zeroVote) := by
  have e : bytesProposal c x = 80 :: (textB c ++ encProposal x) := by unfold bytesProposal; simp
  rw [e]
  exact heardVote_bad (by rw [first_byte]; exact ⟨rfl, by decide⟩)

/-- a transaction read without its seal: for the proof alone -/
def parseTx (l : List UInt8) : List UInt8 × Tx :=
  let a := readByte l 0 0
  let b := readText 16 l a.at' a.err
  let k := readByte l b.at' b.err
  let f := readVar l k.at' k.err
  let t := readVar l f.at' f.err
  let m := readVar l t.at' t.err
  let e := readVar l m.at' m.err
  let n := readVar l e.at' e.err
  (b.val, ⟨k.val, f.val, t.val, m.val, e.val, n.val, zeros 16⟩)
theorem parseTx_fw {c : ByteArray} {x : Tx} (hx : x.ok) (h : saidErr c (plainTx x) = 0) : parseTx (bytesTx c x) = (c.data.toList, { x with sl := zeros 16 }) := by
  obtain ⟨hp, n1, n2⟩ := saidErr_zero h
  have hvb := txB hp
  have hsz : c.size = c.data.toList.length := rfl
  obtain ⟨l, hl⟩ : ∃ l, bytesTx c x = l := ⟨_, rfl⟩
  have hd0 : l.drop 0 = [84] ++ ((varB c.data.toList.length ++ c.data.toList) ++ ([UInt8.ofNat x.kind.toNat] ++ (varB x.frm.toNat ++ (varB x.to.toNat ++ (varB x.amount.toNat ++ (varB x.fee.toNat ++ (varB x.nonce.toNat ++ []))))))) := by
    rw [← hl]
    unfold bytesTx encTx
    rw [textB_eq]
    simp
  have u1 := hx.frm
  have u2 := hx.to
  have u3 := hx.amount
  have u4 := hx.fee
  have u5 := hx.nonce
  unfold U64 at u1 u2 u3 u4 u5
  have k1 := hvb.k1
  have k2 := hvb.k2
  have b1 := fw_byte (Nat.zero_le _) hd0
  obtain ⟨d1, q1⟩ := drop_app hd0 (Nat.zero_le _)
  have b2 := fw_text (n := 16) q1 d1 (by omega) (by omega)
  obtain ⟨d2, q2⟩ := drop_app d1 q1
  have b3 := fw_byte q2 d2
  obtain ⟨d3, q3⟩ := drop_app d2 q2
  have b4 := fw_var d3 (by omega)
  obtain ⟨d4, q4⟩ := drop_app d3 q3
  have b5 := fw_var d4 (by omega)
  obtain ⟨d5, q5⟩ := drop_app d4 q4
  have b6 := fw_var d5 (by omega)
  obtain ⟨d6, q6⟩ := drop_app d5 q5
  have b7 := fw_var d6 (by omega)
  obtain ⟨d7, q7⟩ := drop_app d6 q6
  have b8 := fw_var d7 (by omega)
  rw [hl]
  unfold parseTx
  simp only [List.length_cons, List.length_nil] at b1 b2 b3 b4 b5 b6 b7 b8
  simp only [b1, b2, b3, b4, b5, b6, b7, b8]
  have hk : ((UInt8.ofNat x.kind.toNat).toNat : Int) = x.kind := by rw [byte_of]; omega
  have j1 : (x.frm.toNat : Int) = x.frm := by omega
  have j2 : (x.to.toNat : Int) = x.to := by omega
  have j3 : (x.amount.toNat : Int) = x.amount := by omega
  have j4 : (x.fee.toNat : Int) = x.fee := by omega
  have j5 : (x.nonce.toNat : Int) = x.nonce := by omega
  rw [hk, j1, j2, j3, j4, j5]
end Go.Proofs.Ytocgcalaiejbiaa

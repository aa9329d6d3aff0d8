/-
  What is laid down is read back; what is read was laid down: numbers, bytes, texts; votes and proposals. No condition.
-/
import Derived.Test.YtocgcalaiejbiaaRd14
import Derived.Test.YtocgcalaiejbiaaSl2
namespace Go.Proofs.Ytocgcalaiejbiaa
set_option linter.unusedSimpArgs false
set_option linter.unusedVariables false
open Go.RowKit
set_option maxRecDepth 100000

theorem pow128_pos (k : Nat) : 0 < 128 ^ k := Nat.pow_pos (by omega)
/-- a number that was laid down is read back -/
theorem groups_fw (v : Nat) : ∀ (k acc : Nat) (rest : List UInt8), v * 128 ^ k < 18446744073709551616 → (0 < k → 0 < v) → k ≤ 9 → groups (varB v ++ rest) k acc = .inr (acc + v * 128 ^ k, k + (varB v).length) := by
  induction v using Nat.strongRecOn with
  | _ v ih =>
    intro k acc rest hv hk hk9
    have e9 : (128 : Nat) ^ 9 = 9223372036854775808 := by decide
    by_cases h : v < 128
    · rw [varB_small h]
      have hb : (UInt8.ofNat v).toNat = v := by simp; omega
      show groups (UInt8.ofNat v :: rest) k acc = _
      rw [groups_last (by
        rw [hb]
        rintro (⟨h9, h1⟩ | ⟨h0, h1⟩)
        · subst h9
          rw [e9] at hv
          omega
        · have := hk h0; omega) (by rw [hb]; exact h), hb]
      rfl
    · have h128 : 128 ≤ v := by omega
      rw [varB_big h128]
      have hb : (UInt8.ofNat (v % 128 + 128)).toNat = v % 128 + 128 := by simp; omega
      have hlt : 128 * 128 ^ k ≤ v * 128 ^ k := Nat.mul_le_mul_right _ h128
      have hk8 : k ≤ 8 := by
        rcases Nat.lt_or_ge k 9 with h | h
        · omega
        · have : k = 9 := by omega
          subst this
          rw [e9] at hlt hv
          omega
      show groups (UInt8.ofNat (v % 128 + 128) :: (varB (v / 128) ++ rest)) k acc = _
      rw [groups_more (by
        rw [hb]
        rintro (⟨h9, _⟩ | ⟨_, h1⟩) <;> omega) (by rw [hb]; omega) (by rw [hb]; omega), hb]
      have e1 : (v % 128 + 128) % 128 = v % 128 := by omega
      have e2 : v / 128 * 128 ^ (k + 1) + v % 128 * 128 ^ k = v * 128 ^ k := by
        rw [Nat.pow_succ, Nat.mul_comm (128 ^ k) 128, ← Nat.mul_assoc, ← Nat.add_mul]
        congr 1
        omega
      have hle : v / 128 * 128 ^ (k + 1) ≤ v * 128 ^ k := by omega
      rw [ih (v / 128) (by omega) (k + 1) _ rest (by omega) (fun _ => by omega) (by omega), e1]
      congr 2
      · omega
      · simp only [List.length_cons]; omega

/-- what was read as a number was laid down as one -/
theorem groups_bw (l : List UInt8) : ∀ (k acc v n : Nat), groups l k acc = .inr (v, n) → ∃ u rest, l = varB u ++ rest ∧ v = acc + u * 128 ^ k ∧ n = k + (varB u).length ∧ (0 < k → 0 < u) := by
  induction l with
  | nil => intro k acc v n h; unfold groups at h; cases h
  | cons b l ih =>
    intro k acc v n h
    have hb := UInt8.toNat_lt b
    unfold groups at h
    split at h
    · cases h
    · rename_i hbad
      split at h
      · rename_i hlt
        cases h
        refine ⟨b.toNat, l, ?_, rfl, ?_, ?_⟩
        · rw [varB_small hlt]; simp
        · rw [varB_small hlt]; rfl
        · intro h0; omega
      · rename_i hge
        obtain ⟨u, rest, rfl, h2, h3, h4⟩ := ih _ _ _ _ h
        have hu := h4 (by omega)
        have e1 : (u * 128 + (b.toNat - 128)) / 128 = u := by omega
        have e2 : (u * 128 + (b.toNat - 128)) % 128 + 128 = b.toNat := by omega
        refine ⟨u * 128 + (b.toNat - 128), rest, ?_, ?_, ?_, fun _ => by omega⟩
        · rw [varB_big (n := u * 128 + (b.toNat - 128)) (by omega), e1, e2]; simp
        · rw [h2, Nat.pow_succ, Nat.add_mul, Nat.mul_assoc, Nat.mul_comm 128 (128 ^ k)]; omega
        · rw [varB_big (n := u * 128 + (b.toNat - 128)) (by omega), e1]; simp only [List.length_cons]; omega

theorem drop_app {l a r : List UInt8} {p : Nat} (h : l.drop p = a ++ r) (hp : p ≤ l.length) : l.drop (p + a.length) = r ∧ p + a.length ≤ l.length := by
  constructor
  · rw [← List.drop_drop, h]; exact List.drop_left
  · have := congrArg List.length h
    simp at this
    omega

/-! forward -/
theorem fw_byte {l r : List UInt8} {p : Nat} {b : UInt8} (hp : p ≤ l.length) (h : l.drop p = [b] ++ r) : readByte l p 0 = ⟨(b.toNat : Int), p + 1, 0⟩ := by
  have hlt : p < l.length := by have := congrArg List.length h; simp at this; omega
  have hb : l[p] = b := by
    have h' : l[p] :: l.drop (p + 1) = b :: r := by rw [← List.drop_eq_getElem_cons hlt]; exact h
    exact (List.cons.inj h').1
  unfold readByte
  rw [after_zero]
  unfold coreByte
  rw [List.getElem?_eq_getElem hlt, hb]
theorem fw_var {l r : List UInt8} {p v : Nat} (h : l.drop p = varB v ++ r) (hv : v < 18446744073709551616) : readVar l p 0 = ⟨v, p + (varB v).length, 0⟩ := by
  unfold readVar
  rw [after_zero]
  unfold coreVar
  rw [h, groups_fw v 0 0 r (by simpa using hv) (fun h => by omega) (by omega)]
  simp
theorem fw_raw {l a r : List UInt8} {p : Nat} (hp : p ≤ l.length) (h : l.drop p = a ++ r) : readRaw a.length l p 0 = ⟨a, p + a.length, 0⟩ := by
  have hlen := congrArg List.length h
  simp at hlen
  unfold readRaw
  rw [after_zero]
  unfold coreRaw
  rw [if_neg (by omega), h]
  simp
theorem fw_text {l a r : List UInt8} {p n : Nat} (hp : p ≤ l.length) (h : l.drop p = (varB a.length ++ a) ++ r) (ha : a.length ≤ n) (hn : n < 18446744073709551616) : readText n l p 0 = ⟨a, p + (varB a.length ++ a).length, 0⟩ := by
  have h' : l.drop p = varB a.length ++ (a ++ r) := by rw [h, List.append_assoc]
  obtain ⟨h2, h3⟩ := drop_app h' hp
  have hlen := congrArg List.length h2
  simp at hlen
  unfold readText
  rw [after_zero]
  unfold coreText
  rw [h', groups_fw a.length 0 0 (a ++ r) (by simp; omega) (fun h => by omega) (by omega)]
  simp only [Nat.zero_add, Nat.pow_zero, Nat.mul_one]
  rw [if_neg (by omega), if_neg (by omega), h2]
  simp [Nat.add_assoc]
theorem fw_end {l : List UInt8} {p : Nat} (h : l.drop p = []) : endErr l p 0 = 0 := by
  have := congrArg List.length h
  simp at this
  unfold endErr
  rw [if_pos rfl, if_neg (by omega)]

/-! backward -/
theorem after_err {α : Type} {z : α} {p : Nat} {e : Int} {k : Got α} (h : (after z p e k).err = 0) : e = 0 := by
  by_cases he : e = 0
  · exact he
  · rw [after_ne _ _ _ he] at h; exact absurd h he
theorem bw_byte {l : List UInt8} {p : Nat} {e : Int} {K : Got Int} (hK : readByte l p e = K) (h : K.err = 0) (hp : p ≤ l.length) : e = 0 ∧ l.drop p = [UInt8.ofNat K.val.toNat] ++ l.drop K.at' ∧ K.at' ≤ l.length ∧ 0 ≤ K.val ∧ K.val < 256 := by
  subst hK
  have he : e = 0 := after_err h
  subst he
  unfold readByte at *
  rw [after_zero] at *
  unfold coreByte at *
  cases hq : l[p]? with
  | none => rw [hq] at h; cases h
  | some b =>
    obtain ⟨hlt, hb⟩ := List.getElem?_eq_some_iff.1 hq
    have := UInt8.toNat_lt b
    refine ⟨rfl, ?_, by simp only; omega, by simp only; omega, by simp only; omega⟩
    rw [List.drop_eq_getElem_cons hlt, hb]
    simp
theorem bw_var {l : List UInt8} {p : Nat} {e : Int} {K : Got Nat} (hK : readVar l p e = K) (h : K.err = 0) (hp : p ≤ l.length) : e = 0 ∧ l.drop p = varB K.val ++ l.drop K.at' ∧ K.at' ≤ l.length := by
  subst hK
  have he : e = 0 := after_err h
  subst he
  unfold readVar at *
  rw [after_zero] at *
  unfold coreVar at *
  cases hq : groups (l.drop p) 0 0 with
  | inl x =>
    rw [hq] at h
    have : x = 0 := h
    rcases groups_err hq with h' | h' <;> omega
  | inr x =>
    obtain ⟨v, n⟩ := x
    obtain ⟨u, rest, h1, h2, h3, _⟩ := groups_bw _ _ _ _ _ hq
    have hu : v = u := by rw [h2]; simp
    subst hu
    have hn : n = (varB v).length := by omega
    subst hn
    have := drop_app h1 hp
    refine ⟨rfl, ?_, this.2⟩
    rw [this.1]
    exact h1
theorem bw_raw {l : List UInt8} {n p : Nat} {e : Int} {K : Got (List UInt8)} (hK : readRaw n l p e = K) (h : K.err = 0) (hp : p ≤ l.length) : e = 0 ∧ l.drop p = K.val ++ l.drop K.at' ∧ K.at' ≤ l.length ∧ K.val.length = n := by
  subst hK
  have he : e = 0 := after_err h
  subst he
  unfold readRaw at *
  rw [after_zero] at *
  unfold coreRaw at *
  by_cases hlt : l.length - p < n
  · rw [if_pos hlt] at h; cases h
  · rw [if_neg hlt]
    refine ⟨rfl, ?_, by simp only; omega, by simp; omega⟩
    simp only
    rw [← List.drop_drop]
    exact (List.take_append_drop n (l.drop p)).symm
theorem bw_text {l : List UInt8} {n p : Nat} {e : Int} {K : Got (List UInt8)} (hK : readText n l p e = K) (h : K.err = 0) (hp : p ≤ l.length) : e = 0 ∧ l.drop p = (varB K.val.length ++ K.val) ++ l.drop K.at' ∧ K.at' ≤ l.length := by
  subst hK
  have he : e = 0 := after_err h
  subst he
  unfold readText at *
  rw [after_zero] at *
  unfold coreText at *
  cases hq : groups (l.drop p) 0 0 with
  | inl x =>
    rw [hq] at h
    have : x = 0 := h
    rcases groups_err hq with h' | h' <;> omega
  | inr x =>
    obtain ⟨v, k⟩ := x
    rw [hq] at h
    simp only at h ⊢
    by_cases h1 : n < v
    · rw [if_pos h1] at h; cases h
    · rw [if_neg h1] at h ⊢
      by_cases h2 : l.length - (p + k) < v
      · rw [if_pos h2] at h; cases h
      · rw [if_neg h2]
        obtain ⟨u, rest, e1, e2, e3, _⟩ := groups_bw _ _ _ _ _ hq
        have hu : v = u := by rw [e2]; simp
        subst hu
        have hn : k = (varB v).length := by omega
        subst hn
        have hd := drop_app e1 hp
        have hlen : ((l.drop (p + (varB v).length)).take v).length = v := by simp; omega
        refine ⟨trivial, ?_, by simp only; omega⟩
        simp only
        rw [hlen, List.append_assoc, e1, ← hd.1, ← List.drop_drop (i := v)]
        congr 1
        exact (List.take_append_drop v _).symm
theorem bw_end {l : List UInt8} {p : Nat} {e : Int} (h : endErr l p e = 0) : e = 0 ∧ l.drop p = [] := by
  unfold endErr at h
  by_cases he : e = 0
  · rw [if_pos he] at h
    by_cases hp : p < l.length
    · rw [if_pos hp] at h; cases h
    · exact ⟨he, List.drop_of_length_le (by omega)⟩
  · rw [if_neg he] at h; exact absurd h he

theorem padded_full {n : Nat} {l : List UInt8} (h : l.length = n) : padded n l = l := by
  unfold padded
  rw [h, Nat.sub_self]
  simp [zeros]
theorem small_id {n : Nat} (h : (small n : Int) ≤ 65535) : small n = n := by unfold small at *; omega
theorem small_le {n : Nat} (h : n ≤ 65535) : small n = n := by unfold small; omega

theorem bw_vote {l : List UInt8} {p : Nat} {e : Int} {K : Got Vote} (hK : rdVote l p e = K) (h : K.err = 0) (hp : p ≤ l.length) (hr : K.val.round ≤ 65535) : e = 0 ∧ l.drop p = encVote K.val ++ l.drop K.at' ∧ K.at' ≤ l.length ∧ K.val.sl = zeros 16 := by
  subst hK
  unfold rdVote at *
  simp only at h hr ⊢
  generalize h1 : readByte l p e = K1 at *
  generalize h2 : readVar l K1.at' K1.err = K2 at *
  generalize h3 : readVar l K2.at' K2.err = K3 at *
  generalize h4 : readRaw 32 l K3.at' K3.err = K4 at *
  generalize h5 : readVar l K4.at' K4.err = K5 at *
  generalize h6 : readVar l K5.at' K5.err = K6 at *
  have hp1 : K1.err = 0 → K1.at' ≤ l.length := fun h => (bw_byte h1 h hp).2.2.1
  have hs := small_id hr
  have go : K1.err = 0 ∧ K2.err = 0 ∧ K3.err = 0 ∧ K4.err = 0 ∧ K5.err = 0 := by
    have a5 : K5.err = 0 := by subst h6; exact after_err h
    have a4 : K4.err = 0 := by subst h5; exact after_err a5
    have a3 : K3.err = 0 := by subst h4; exact after_err a4
    have a2 : K2.err = 0 := by subst h3; exact after_err a3
    have a1 : K1.err = 0 := by subst h2; exact after_err a2
    exact ⟨a1, a2, a3, a4, a5⟩
  obtain ⟨a1, a2, a3, a4, a5⟩ := go
  obtain ⟨b0, b1, q1, _, _⟩ := bw_byte h1 a1 hp
  obtain ⟨_, b2, q2⟩ := bw_var h2 a2 q1
  obtain ⟨_, b3, q3⟩ := bw_var h3 a3 q2
  obtain ⟨_, b4, q4, l4⟩ := bw_raw h4 a4 q3
  obtain ⟨_, b5, q5⟩ := bw_var h5 a5 q4
  obtain ⟨_, b6, q6⟩ := bw_var h6 h q5
  refine ⟨b0, ?_, q6, trivial⟩
  unfold encVote
  simp only [Int.toNat_natCast, padded_full l4, hs]
  rw [b1, b2, b3, b4, b5, b6]
  simp
theorem bw_proposal {l : List UInt8} {p : Nat} {e : Int} {K : Got Proposal} (hK : rdProposal l p e = K) (h : K.err = 0) (hp : p ≤ l.length) (hr : K.val.round ≤ 65535) (hv : K.val.valid < K.val.round) : e = 0 ∧ l.drop p = encProposal K.val ++ l.drop K.at' ∧ K.at' ≤ l.length ∧ K.val.sl = zeros 16 := by
  subst hK
  unfold rdProposal at *
  simp only at h hr hv ⊢
  generalize h1 : readVar l p e = K1 at *
  generalize h2 : readVar l K1.at' K1.err = K2 at *
  generalize h3 : readVar l K2.at' K2.err = K3 at *
  generalize h4 : readRaw 32 l K3.at' K3.err = K4 at *
  generalize h5 : readVar l K4.at' K4.err = K5 at *
  have hs := small_id hr
  have hvv : (validOf K3.val + 1).toNat = K3.val := by
    unfold validOf at *
    split
    · omega
    · rename_i hn
      rw [if_neg hn] at hv
      have := small_id (n := K3.val - 1) (by omega)
      omega
  have a4 : K4.err = 0 := by subst h5; exact after_err h
  have a3 : K3.err = 0 := by subst h4; exact after_err a4
  have a2 : K2.err = 0 := by subst h3; exact after_err a3
  have a1 : K1.err = 0 := by subst h2; exact after_err a2
  obtain ⟨b0, b1, q1⟩ := bw_var h1 a1 hp
  obtain ⟨_, b2, q2⟩ := bw_var h2 a2 q1
  obtain ⟨_, b3, q3⟩ := bw_var h3 a3 q2
  obtain ⟨_, b4, q4, l4⟩ := bw_raw h4 a4 q3
  obtain ⟨_, b5, q5⟩ := bw_var h5 h q4
  refine ⟨b0, ?_, q5, trivial⟩
  unfold encProposal
  simp only [Int.toNat_natCast, padded_full l4, hs, hvv]
  rw [b1, b2, b3, b4, b5]
  simp

theorem fw_vote {l r : List UInt8} {p : Nat} {x : Vote} (hx : x.ok) (hb : VoteB x) (hp : p ≤ l.length) (h : l.drop p = encVote x ++ r) : rdVote l p 0 = ⟨{ x with sl := zeros 16 }, p + (encVote x).length, 0⟩ := by
  obtain ⟨k1, k2, h1, h2, r1, r2, t1, t2, _, f1, f2⟩ := hb
  unfold encVote at h ⊢
  simp only [List.append_assoc] at h
  obtain ⟨d1, q1⟩ := drop_app h hp
  obtain ⟨d2, q2⟩ := drop_app d1 q1
  obtain ⟨d3, q3⟩ := drop_app d2 q2
  obtain ⟨d4, q4⟩ := drop_app d3 q3
  obtain ⟨d5, q5⟩ := drop_app d4 q4
  unfold rdVote
  simp only
  have e1 := fw_byte hp h
  have hid := hx.id
  rw [e1]
  simp only
  have e2 := fw_var d1 (by omega)
  simp only [List.length_cons, List.length_nil] at e2 d2 d3 d4 d5 q2 q3 q4 q5
  rw [e2]
  simp only
  have e3 := fw_var d2 (by omega)
  rw [e3]
  simp only
  have e4 := fw_raw q3 d3
  rw [hid] at e4
  rw [e4]
  simp only
  rw [hid] at d4 d5
  have e5 := fw_var d4 (show x.time.toNat < 18446744073709551616 by omega)
  rw [e5]
  simp only
  have e6 := fw_var d5 (show x.frm.toNat < 18446744073709551616 by omega)
  rw [e6, padded_full hid, small_le (by omega)]
  have hk : ((UInt8.ofNat x.kind.toNat).toNat : Int) = x.kind := by rw [byte_of]; omega
  rw [hk]
  simp only [List.length_append, List.length_cons, List.length_nil, hid]
  have j1 : (x.height.toNat : Int) = x.height := by omega
  have j2 : (x.round.toNat : Int) = x.round := by omega
  have j3 : (x.time.toNat : Int) = x.time := by omega
  have j4 : (x.frm.toNat : Int) = x.frm := by omega
  rw [j1, j2, j3, j4]
  congr 1
  omega
theorem fw_proposal {l r : List UInt8} {p : Nat} {x : Proposal} (hx : x.ok) (hb : ProposalB x) (hp : p ≤ l.length) (h : l.drop p = encProposal x ++ r) : rdProposal l p 0 = ⟨{ x with sl := zeros 16 }, p + (encProposal x).length, 0⟩ := by
  obtain ⟨h1, h2, r1, r2, v1, v2, _, f1, f2⟩ := hb
  unfold encProposal at h ⊢
  simp only [List.append_assoc] at h
  obtain ⟨d1, q1⟩ := drop_app h hp
  obtain ⟨d2, q2⟩ := drop_app d1 q1
  obtain ⟨d3, q3⟩ := drop_app d2 q2
  obtain ⟨d4, q4⟩ := drop_app d3 q3
  unfold rdProposal
  simp only
  have hid := hx.id
  rw [fw_var h (by omega)]
  simp only
  rw [fw_var d1 (by omega)]
  simp only
  rw [fw_var d2 (by omega)]
  simp only
  have e4 := fw_raw q3 d3
  rw [hid] at e4
  rw [e4]
  simp only
  rw [hid] at d4
  have e5 := fw_var d4 (show x.frm.toNat < 18446744073709551616 by omega)
  rw [e5, padded_full hid, small_le (by omega)]
  have hvv : validOf (x.valid + 1).toNat = x.valid := by
    unfold validOf
    split
    · omega
    · rw [small_le (by omega)]; omega
  rw [hvv]
  simp only [List.length_append, hid]
  have j1 : (x.height.toNat : Int) = x.height := by omega
  have j2 : (x.round.toNat : Int) = x.round := by omega
  have j4 : (x.frm.toNat : Int) = x.frm := by omega
  rw [j1, j2, j4]
  congr 1
  omega
end Go.Proofs.Ytocgcalaiejbiaa

/-
  The reference: opened. Condition: the bytes are within reach.
-/
import Derived.Test.YtocgcalaiejbiaaRr5
import Derived.Test.YtocgcalaiejbiaaRr6
import Derived.Test.YtocgcalaiejbiaaRd14
import Derived.Test.YtocgcalaiejbiaaRef5
namespace Go.Proofs.Ytocgcalaiejbiaa
set_option linter.unusedSimpArgs false
set_option linter.unusedVariables false
open Go.RowKit
set_option maxRecDepth 100000

structure Rhd (w0 : World) (g : Nat) (A : Option Addr) (c : Nat) (l : List UInt8) (b1 : Nat) (Z : Array Value) (T : TypeId) (w : World) (p : Nat) (e : Int) : Prop where
  re : Rr w g A c l p e
  bel : Below w0.heap.size w0 w
  z1 : Bk w b1 Z T
structure RhS (w0 : World) (g : Nat) (A : Option Addr) (b1 : Nat) : Prop where
  b : w0.heap.size ≤ b1
  g : b1 < g
  a : ∀ a, A = some a → b1 < a.block
section
variable {w0 w w' : World} {g : Nat} {A : Option Addr} {c : Nat} {l : List UInt8} {b1 b : Nat} {Z : Array Value} {T : TypeId} {p : Nat} {e : Int}
theorem Rhd.call {p' : Nat} {e' : Int} (h : Rhd w0 g A c l b1 Z T w p e) (s : RhS w0 g A b1) (ch : Ch [g] w w') (re : Rr w' g A c l p' e') : Rhd w0 g A c l b1 Z T w' p' e' :=
  ⟨re, h.bel.trans (ch.below h.bel.size (fun k hk => by have := s.b; have := s.g; simp at hk; omega)), h.z1.ch ch (by have := s.g; simp; omega)⟩
theorem Rhd.below (h : Rhd w0 g A c l b1 Z T w p e) (hb : Below w.heap.size w w') : Rhd w0 g A c l b1 Z T w' p e :=
  ⟨h.re.below hb, h.bel.trans (hb.mono h.bel.size), h.z1.below hb h.z1.lt⟩
theorem Rhd.drew (h : Rhd w0 g A c l b1 Z T w p e) : Rhd w0 g A c l b1 Z T w.drew p e := ⟨h.re.any rfl, h.bel.drew, h.z1⟩
theorem Rhd.own (h : Rhd w0 g A c l b1 Z T w p e) (hg : w.grownBy w' (some b)) (h1 : g < b) (h2 : ∀ a, A = some a → a.block < b) (h3 : b1 < b) (h5 : w0.heap.size ≤ b) : Rhd w0 g A c l b1 Z T w' p e :=
  ⟨h.re.own hg h1 h2, h.bel.grown hg h.bel.size (fun k hk => by cases hk; exact h5), h.z1.grown hg (by simp; omega)⟩
end

def opn (l : List UInt8) (first : Int) : Int × List UInt8 :=
  let a := readByte l 0 0
  if a.err ≠ 0 then (a.err, []) else if a.val ≠ first then (40, []) else (0, (readText 16 l a.at' a.err).val)
def OpnRes (l : List UInt8) (first : Int) (w : World) (en : Ending) (w' : World) : Prop :=
  ∃ g A c, en = .returned (.tuple #[.pointer (some ⟨g, 0, none⟩), toStr (opn l first).2, .int .i64 (opn l first).1]) ∧ Below w.heap.size w w' ∧ w.heap.size ≤ g ∧ (∀ a, A = some a → w.heap.size ≤ a.block) ∧
    ((opn l first).1 = 0 → Rr w' g A c l (readText 16 l (readByte l 0 0).at' (readByte l 0 0).err).at' (readText 16 l (readByte l 0 0).at' (readByte l 0 0).err).err)

set_option maxHeartbeats 2000000 in
theorem opened_any (w : World) (A : Option Addr) (n c : Nat) (l : List UInt8) (first : Int) (hr : Rd w A (bv l)) (hn : n = l.length) (hl : l.length ≤ reach47) :
    Calls Try.prog 49 #[.slice A n c, .int .u8 first] w (OpnRes l first w) := by
  have HR := Lib.hid hr
  have HN := Lib.hid hn
  have HL := Lib.hid hl
  clear hr hn hl
  obtain ⟨K1, hK1⟩ : ∃ K, readByte l 0 0 = K := ⟨_, rfl⟩
  obtain ⟨K2, hK2⟩ : ∃ K, readText 16 l K1.at' K1.err = K := ⟨_, rfl⟩
  have HO := Lib.hid (show opn l first = if K1.err ≠ 0 then (K1.err, []) else if K1.val ≠ first then (40, []) else (0, K2.val) from by unfold opn; simp only [hK1, hK2])
  have HK1 := Lib.hid hK1
  have HK2 := Lib.hid hK2
  clear hK1 hK2
  by_cases he : K1.err = 0
  · by_cases hv : K1.val = first
    · have HO2 := Lib.hid (show opn l first = (0, K2.val) from by rw [HO.out, if_neg (fun h => h he), if_neg (fun h => h hv)])
      have t1 : (K1.val != first) = false := by simp [hv]
      have t2 : (K1.val == first) = true := by simp [hv]
      have t3 : (K1.err != 0) = false := by simp [he]
      have t4 : (K1.err == 0) = true := by simp [he]
      clear he hv
      go_enter Try.func49, Try.ntmps49
      go_wp2_with fail
      refine (rrNew_any w A n c l HR.out HN.out HL.out).mono ?_
      rintro en w1 ⟨g, A', c', rfl, r1, g1, a1, b1⟩
      have HB := Lib.hid b1
      have HG := Lib.hid (show w.heap.size ≤ g ∧ ∀ a, A' = some a → w.heap.size ≤ a.block from ⟨g1, a1⟩)
      have R1 := Lib.hid r1
      clear g1 a1 b1 r1
      go_wp2_with fail
      refine (rrByte_any w1 g A' c' l 0 0 R1.out).mono ?_
      rintro en w2 ⟨rfl, ch, re⟩
      rw [HK1.out] at re ⊢
      have R2 := Lib.hid re
      have HB2 := Lib.hid (HB.out.trans (ch.below HB.out.size (fun k hk => by have := HG.out.1; simp at hk; omega)))
      have c2 : w2.cell? ⟨g, 2, none⟩ = some (.int .i64 K1.err) := re.bk.cell 2
      clear ch re R1 HB
      go_wp2_with fail
      refine (rrText_any w2 g A' c' l _ _ R2.out).mono ?_
      rintro en w3 ⟨rfl, ch, re⟩
      rw [HK2.out] at re ⊢
      have R3 := Lib.hid re
      have HB3 := Lib.hid (HB2.out.trans (ch.below HB2.out.size (fun k hk => by have := HG.out.1; simp at hk; omega)))
      clear ch re c2
      go_wp2
      go_ret3
      refine ⟨g, A', c', ?_, HB3.out, HG.out.1, HG.out.2, fun _ => ?_⟩
      · rw [HO2.out]; rfl
      · rw [HK1.out, HK2.out]; exact R3.out
    · have HO2 := Lib.hid (show opn l first = (40, []) from by rw [HO.out, if_neg (fun h => h he), if_pos hv])
      have t1 : (K1.val != first) = true := by simp [hv]
      have t2 : (K1.val == first) = false := by simp [hv]
      have t3 : (K1.err != 0) = false := by simp [he]
      have t4 : (K1.err == 0) = true := by simp [he]
      clear he hv
      go_enter Try.func49, Try.ntmps49
      go_wp2_with fail
      refine (rrNew_any w A n c l HR.out HN.out HL.out).mono ?_
      rintro en w1 ⟨g, A', c', rfl, r1, g1, a1, b1⟩
      have HB := Lib.hid b1
      have HG := Lib.hid (show w.heap.size ≤ g ∧ ∀ a, A' = some a → w.heap.size ≤ a.block from ⟨g1, a1⟩)
      have R1 := Lib.hid r1
      clear g1 a1 b1 r1
      go_wp2_with fail
      refine (rrByte_any w1 g A' c' l 0 0 R1.out).mono ?_
      rintro en w2 ⟨rfl, ch, re⟩
      rw [HK1.out] at re ⊢
      have HB2 := Lib.hid (HB.out.trans (ch.below HB.out.size (fun k hk => by have := HG.out.1; simp at hk; omega)))
      have c2 : w2.cell? ⟨g, 2, none⟩ = some (.int .i64 K1.err) := re.bk.cell 2
      clear ch re R1 HB
      go_wp2
      go_ret3
      refine ⟨g, A', c', ?_, HB2.out, HG.out.1, HG.out.2, fun h => ?_⟩
      · rw [HO2.out]; rfl
      · rw [HO2.out] at h; cases h
  · have HO2 := Lib.hid (show opn l first = (K1.err, []) from by rw [HO.out, if_pos he])
    have HE := Lib.hid he
    have t3 : (K1.err != 0) = true := by simp [he]
    have t4 : (K1.err == 0) = false := by simp [he]
    clear he
    go_enter Try.func49, Try.ntmps49
    go_wp2_with fail
    refine (rrNew_any w A n c l HR.out HN.out HL.out).mono ?_
    rintro en w1 ⟨g, A', c', rfl, r1, g1, a1, b1⟩
    have HB := Lib.hid b1
    have HG := Lib.hid (show w.heap.size ≤ g ∧ ∀ a, A' = some a → w.heap.size ≤ a.block from ⟨g1, a1⟩)
    have R1 := Lib.hid r1
    clear g1 a1 b1 r1
    go_wp2_with fail
    refine (rrByte_any w1 g A' c' l 0 0 R1.out).mono ?_
    rintro en w2 ⟨rfl, ch, re⟩
    rw [HK1.out] at re ⊢
    have HB2 := Lib.hid (HB.out.trans (ch.below HB.out.size (fun k hk => by have := HG.out.1; simp at hk; omega)))
    have c2 : w2.cell? ⟨g, 2, none⟩ = some (.int .i64 K1.err) := re.bk.cell 2
    clear ch re R1 HB
    go_wp2
    go_quiet (fail)
    go_wp2
    go_ret3
    refine ⟨g, A', c', ?_, below_drewN HB2.out, HG.out.1, HG.out.2, fun h => ?_⟩
    · rw [HO2.out]; rfl
    · rw [HO2.out] at h; exact absurd h HE.out

theorem readText_err {n : Nat} {l : List UInt8} {p : Nat} {e : Int} (h : e ≠ 0) : readText n l p e = ⟨[], p, e⟩ := after_ne _ _ _ h
theorem rdVote_err {l : List UInt8} {p : Nat} {e : Int} (h : e ≠ 0) : (rdVote l p e).err = e := by
  unfold rdVote readByte readVar readRaw
  simp only [after_ne _ _ _ h]
theorem rdProposal_err {l : List UInt8} {p : Nat} {e : Int} (h : e ≠ 0) : (rdProposal l p e).err = e := by
  unfold rdProposal readVar readRaw
  simp only [after_ne _ _ _ h]
theorem endErr_ne {l : List UInt8} {p : Nat} {e : Int} (h : e ≠ 0) : endErr l p e = e := if_neg h
theorem readText_max {n : Nat} {l : List UInt8} {p : Nat} {e : Int} : (readText n l p e).val.length ≤ n := by
  unfold readText after coreText
  split
  · split
    · simp
    · split
      · simp
      · split
        · simp
        · simp; omega
  · simp
theorem named_ok {n : Nat} (h1 : 1 ≤ n) (h2 : n ≤ 16) : named n = 0 := by unfold named; rw [decide_eq_false (by omega)]; rfl
theorem named_nil : named 0 = 41 := by decide
theorem firstErr_named {k : Nat} {x : Int} (h1 : 1 ≤ k) (h2 : k ≤ 16) : firstErr [named k, x] = x := by
  rw [named_ok h1 h2]
  unfold firstErr firstErr firstErr
  by_cases hx : x = 0 <;> simp [hx]
theorem heardVote_bad {l : List UInt8} (h : (readByte l 0 0).err = 0 ∧ (readByte l 0 0).val ≠ 86) : heardVote l = (40, [], zeroVote) := if_pos h
theorem heardVote_go {l : List UInt8} (h : ¬ ((readByte l 0 0).err = 0 ∧ (readByte l 0 0).val ≠ 86)) (b : Got (List UInt8)) (hb : readText 16 l (readByte l 0 0).at' (readByte l 0 0).err = b) (v : Got Vote) (hv : rdVote l b.at' b.err = v) :
    heardVote l = if endErr l v.at' v.err ≠ 0 then (endErr l v.at' v.err, [], zeroVote) else
      if firstErr [named b.val.length, plainVote v.val] ≠ 0 then (firstErr [named b.val.length, plainVote v.val], [], zeroVote) else (0, b.val, v.val) := by
  subst hv hb
  exact if_neg h
theorem heardVote_eq (l : List UInt8) : heardVote l = (
    if (opn l 86).1 ≠ 0 then ((opn l 86).1, [], zeroVote) else
    let v := rdVote l (readText 16 l (readByte l 0 0).at' (readByte l 0 0).err).at' (readText 16 l (readByte l 0 0).at' (readByte l 0 0).err).err
    if endErr l v.at' v.err ≠ 0 then (endErr l v.at' v.err, [], zeroVote) else
    if (opn l 86).2 = [] then (41, [], zeroVote) else
    if plainVote v.val ≠ 0 then (plainVote v.val, [], zeroVote) else (0, (opn l 86).2, v.val)) := by
  by_cases he : (readByte l 0 0).err = 0
  · by_cases hv : (readByte l 0 0).val = 86
    · have ho : opn l 86 = (0, (readText 16 l (readByte l 0 0).at' (readByte l 0 0).err).val) := (if_neg (fun h => h he)).trans (if_neg (fun h => h hv))
      rw [ho]
      have hmx := readText_max (n := 16) (l := l) (p := (readByte l 0 0).at') (e := (readByte l 0 0).err)
      obtain ⟨K2, hK2⟩ : ∃ K, readText 16 l (readByte l 0 0).at' (readByte l 0 0).err = K := ⟨_, rfl⟩
      obtain ⟨K3, hK3⟩ : ∃ K, rdVote l K2.at' K2.err = K := ⟨_, rfl⟩
      rw [heardVote_go (fun h => h.2 hv) K2 hK2 K3 hK3, hK2]
      rw [hK2] at hmx
      simp only [ne_eq, not_true_eq_false, if_false]
      rw [hK3]
      generalize endErr l K3.at' K3.err = E at *
      by_cases hz : E = 0
      · subst hz
        simp only [not_true_eq_false, if_false]
        by_cases hn : K2.val = []
        · rw [if_pos hn, hn]
          have : firstErr [named ([] : List UInt8).length, plainVote K3.val] = 41 := by
            show firstErr [named 0, _] = 41
            rw [named_nil]; rfl
          rw [this, if_pos (by decide)]
        · have h1 : 1 ≤ K2.val.length := by
            cases hq : K2.val with
            | nil => exact absurd hq hn
            | cons b r => simp
          rw [if_neg hn, firstErr_named h1 hmx]
      · rw [if_pos hz, if_pos hz]
    · have ho : opn l 86 = (40, []) := (if_neg (fun h => h he)).trans (if_pos hv)
      rw [ho, heardVote_bad ⟨he, hv⟩]
      rfl
  · have ho : opn l 86 = ((readByte l 0 0).err, []) := if_pos he
    rw [ho]
    simp only
    rw [if_pos he]
    have ht := readText_err (n := 16) (l := l) (p := (readByte l 0 0).at') he
    rw [heardVote_go (fun h => he h.1) _ ht _ rfl]
    simp only
    rw [rdVote_err he, endErr_ne he, if_pos he]
theorem valid_eq {n : Nat} (h : n < 2147483648) : validOf n = (small n : Int) - 1 := by
  unfold validOf small
  split <;> omega
theorem field_nz (b : Bool) : field b = 0 ∨ field b = 41 := by cases b <;> simp [field]
theorem plainProposal_41 (x : Proposal) : plainProposal x = 0 ∨ plainProposal x = 41 := by
  have key : ∀ es : List Int, (∀ e ∈ es, e = 0 ∨ e = 41) → firstErr es = 0 ∨ firstErr es = 41 := by
    intro es
    induction es with
    | nil => intro _; left; rfl
    | cons e es ih =>
      intro h
      unfold firstErr
      by_cases he : e ≠ 0
      · rw [if_pos he]; exact h e (List.mem_cons_self ..)
      · rw [if_neg he]; exact ih fun x hx => h x (List.mem_cons_of_mem _ hx)
  unfold plainProposal
  refine key _ ?_
  intro e he
  simp only [List.mem_cons, List.not_mem_nil, or_false] at he
  rcases he with rfl | rfl | rfl | rfl | rfl
  · unfold height; exact field_nz _
  · unfold round; exact field_nz _
  · exact field_nz _
  · exact field_nz _
  · exact field_nz _
theorem plain_big {x y : Proposal} {n : Nat} (h : 2147483648 ≤ n) (hx : x.valid = validOf n) (hy : y.valid = (small n : Int) - 1) : plainProposal x = 41 ∧ plainProposal y = 41 := by
  have v1 : x.valid = 2147483647 := by rw [hx]; unfold validOf small; rw [if_neg (by omega)]; omega
  have v2 : y.valid = 2147483646 := by rw [hy]; unfold small; omega
  have key : ∀ z : Proposal, 65536 ≤ z.valid → plainProposal z = 41 := by
    intro z hz
    rcases plainProposal_41 z with h | h
    · exfalso
      have hall := firstErr_zero h
      have a3 := of_decide_eq_false (field_zero (hall (round z.round) (by simp)))
      have a4 := field_zero (hall (field (decide (z.valid < -1) || decide (z.round ≤ z.valid))) (by simp))
      simp only [Bool.or_eq_false_iff, decide_eq_false_iff_not] at a4
      omega
    · exact h
  exact ⟨key x (by omega), key y (by omega)⟩
theorem heardProposal_bad {l : List UInt8} (h : (readByte l 0 0).err = 0 ∧ (readByte l 0 0).val ≠ 80) : heardProposal l = (40, [], zeroProposal) := if_pos h
theorem heardProposal_go {l : List UInt8} (h : ¬ ((readByte l 0 0).err = 0 ∧ (readByte l 0 0).val ≠ 80)) (b : Got (List UInt8)) (hb : readText 16 l (readByte l 0 0).at' (readByte l 0 0).err = b) (v : Got Proposal) (hv : rdProposal l b.at' b.err = v) :
    heardProposal l = if endErr l v.at' v.err ≠ 0 then (endErr l v.at' v.err, [], zeroProposal) else
      if firstErr [named b.val.length, plainProposal v.val] ≠ 0 then (firstErr [named b.val.length, plainProposal v.val], [], zeroProposal) else (0, b.val, v.val) := by
  subst hv hb
  exact if_neg h
theorem heardProposal_eq (l : List UInt8) : heardProposal l = (
    if (opn l 80).1 ≠ 0 then ((opn l 80).1, [], zeroProposal) else
    let v := rdProposalR l (readText 16 l (readByte l 0 0).at' (readByte l 0 0).err).at' (readText 16 l (readByte l 0 0).at' (readByte l 0 0).err).err
    if endErr l v.at' v.err ≠ 0 then (endErr l v.at' v.err, [], zeroProposal) else
    if (opn l 80).2 = [] then (41, [], zeroProposal) else
    if plainProposal v.val ≠ 0 then (plainProposal v.val, [], zeroProposal) else (0, (opn l 80).2, v.val)) := by
  by_cases he : (readByte l 0 0).err = 0
  · by_cases hv : (readByte l 0 0).val = 80
    · have ho : opn l 80 = (0, (readText 16 l (readByte l 0 0).at' (readByte l 0 0).err).val) := (if_neg (fun h => h he)).trans (if_neg (fun h => h hv))
      rw [ho]
      have hmx := readText_max (n := 16) (l := l) (p := (readByte l 0 0).at') (e := (readByte l 0 0).err)
      obtain ⟨K2, hK2⟩ : ∃ K, readText 16 l (readByte l 0 0).at' (readByte l 0 0).err = K := ⟨_, rfl⟩
      obtain ⟨K3, hK3⟩ : ∃ K, rdProposal l K2.at' K2.err = K := ⟨_, rfl⟩
      rw [heardProposal_go (fun h => h.2 hv) K2 hK2 K3 hK3, hK2]
      rw [hK2] at hmx
      simp only [ne_eq, not_true_eq_false, if_false]
      have hsame : (rdProposalR l K2.at' K2.err).at' = (rdProposal l K2.at' K2.err).at' ∧ (rdProposalR l K2.at' K2.err).err = (rdProposal l K2.at' K2.err).err := ⟨rfl, rfl⟩
      have hcase : rdProposalR l K2.at' K2.err = rdProposal l K2.at' K2.err ∨ (plainProposal (rdProposal l K2.at' K2.err).val = 41 ∧ plainProposal (rdProposalR l K2.at' K2.err).val = 41) := by
        rcases Nat.lt_or_ge (readVar l (readVar l (readVar l K2.at' K2.err).at' (readVar l K2.at' K2.err).err).at' (readVar l (readVar l K2.at' K2.err).at' (readVar l K2.at' K2.err).err).err).val 2147483648 with hn | hn
        · left
          unfold rdProposalR rdProposal
          simp only [valid_eq hn]
        · right
          exact plain_big hn rfl rfl
      rw [hK3] at hsame hcase
      generalize rdProposalR l K2.at' K2.err = K4 at *
      rw [hsame.1, hsame.2]
      generalize endErr l K3.at' K3.err = E at *
      by_cases hz : E = 0
      · subst hz
        simp only [not_true_eq_false, if_false]
        by_cases hn : K2.val = []
        · rw [if_pos hn, hn]
          have : firstErr [named ([] : List UInt8).length, plainProposal K3.val] = 41 := by
            show firstErr [named 0, _] = 41
            rw [named_nil]; rfl
          rw [this, if_pos (by decide)]
        · have h1 : 1 ≤ K2.val.length := by
            cases hq : K2.val with
            | nil => exact absurd hq hn
            | cons b r => simp
          rw [if_neg hn, firstErr_named h1 hmx]
          rcases hcase with h | ⟨h2, h3⟩
          · rw [h]
          · rw [h2, h3, if_pos (by decide), if_pos (by decide)]
      · rw [if_pos hz, if_pos hz]
    · have ho : opn l 80 = (40, []) := (if_neg (fun h => h he)).trans (if_pos hv)
      rw [ho, heardProposal_bad ⟨he, hv⟩]
      rfl
  · have ho : opn l 80 = ((readByte l 0 0).err, []) := if_pos he
    rw [ho]
    simp only
    rw [if_pos he]
    have ht := readText_err (n := 16) (l := l) (p := (readByte l 0 0).at') he
    rw [heardProposal_go (fun h => he h.1) _ ht _ rfl]
    simp only
    rw [rdProposal_err he, endErr_ne he, if_pos he]
end Go.Proofs.Ytocgcalaiejbiaa

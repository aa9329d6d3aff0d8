/-
  heard: what is read as what is signed of a vote, of a proposal: the error, or the chain's name and the thing. Condition: the bytes are within reach.
-/
import Derived.Test.YtocgcalaiejbiaaRd11
import Derived.Test.YtocgcalaiejbiaaFree2
import Derived.Test.YtocgcalaiejbiaaFreeR
import Derived.Test.YtocgcalaiejbiaaSaid
namespace Go.Proofs.Ytocgcalaiejbiaa
set_option linter.unusedSimpArgs false
set_option linter.unusedVariables false
open Go.RowKit
set_option maxRecDepth 100000

def IntK (n : Int) : Known := Is (.int .i64 n)
structure Hd (w0 : World) (g : Nat) (A : Option Addr) (c : Nat) (l : List UInt8) (b1 b2 : Nat) (Z : Array Value) (T : TypeId) (w : World) (p : Nat) (e : Int) : Prop where
  re : Re w g A c l p e
  bel : Below w0.heap.size w0 w
  z1 : Bk w b1 Z T
  z2 : Bk w b2 Z T
structure HdS (w0 : World) (g : Nat) (A : Option Addr) (b1 b2 : Nat) : Prop where
  b : w0.heap.size ≤ b1
  b12 : b1 < b2
  g : b2 < g
  a : ∀ a, A = some a → b2 < a.block
section
variable {w0 w w' : World} {g : Nat} {A : Option Addr} {c : Nat} {l : List UInt8} {b1 b2 : Nat} {Z : Array Value} {T : TypeId} {p : Nat} {e : Int}
theorem Hd.call {p' : Nat} {e' : Int} (h : Hd w0 g A c l b1 b2 Z T w p e) (s : HdS w0 g A b1 b2) (ch : Ch [g] w w') (re : Re w' g A c l p' e') : Hd w0 g A c l b1 b2 Z T w' p' e' :=
  ⟨re, h.bel.trans (ch.below (by have := h.bel.size; omega) (fun k hk => by have := s.b; have := s.b12; have := s.g; simp at hk; omega)),
    h.z1.ch ch (by have := s.b12; have := s.g; simp; omega), h.z2.ch ch (by have := s.g; simp; omega)⟩
theorem Hd.below (h : Hd w0 g A c l b1 b2 Z T w p e) (hb : Below w.heap.size w w') : Hd w0 g A c l b1 b2 Z T w' p e :=
  ⟨h.re.below hb, h.bel.trans (hb.mono h.bel.size), h.z1.below hb h.z1.lt, h.z2.below hb h.z2.lt⟩
theorem Hd.drew (h : Hd w0 g A c l b1 b2 Z T w p e) : Hd w0 g A c l b1 b2 Z T w.drew p e := ⟨re_any h.re rfl, h.bel.drew, h.z1, h.z2⟩
end
theorem I64.of_small (n : Nat) : I64 (small n) := by unfold I64 small; omega
theorem U64.of_bd {n : Nat} (h : n < 18446744073709551616) : U64 (n : Int) := ⟨by omega, by omega⟩
theorem rdVote_ok (l : List UInt8) (p : Nat) (e : Int) : (rdVote l p e).val.ok :=
  ⟨show I64 (readByte l p e).val from by have h1 := readByte_bd l p e; unfold I64; omega, U64.of_bd (readVar_bd _ _ _), I64.of_small _, padded_len readRaw_le, U64.of_bd (readVar_bd _ _ _), U64.of_bd (readVar_bd _ _ _), zeros_len 16⟩
theorem I64.of_valid (n : Nat) : I64 (validOf n) := by
  unfold validOf
  split
  · unfold I64; omega
  · exact I64.of_small _
theorem rdProposal_ok (l : List UInt8) (p : Nat) (e : Int) : (rdProposal l p e).val.ok :=
  ⟨U64.of_bd (readVar_bd _ _ _), I64.of_small _, I64.of_valid _, padded_len readRaw_le, U64.of_bd (readVar_bd _ _ _), zeros_len 16⟩

theorem cell_block {w : World} {a : Addr} (h : w.cell? a ≠ none) : a.block < w.heap.size := by
  cases hc : w.cell? a with
  | none => exact absurd hc h
  | some v => exact World.block_lt_of_cell? w a hc
theorem splice_same {xs ys : List Value} {n : Nat} (h : xs.length = n) (h2 : ys.length = n) : splice ys.toArray 0 xs = xs.toArray := by
  unfold splice
  apply Array.ext'
  simp only [List.take_zero, List.nil_append, Nat.zero_add]
  rw [List.drop_of_length_le (by omega), List.append_nil]
theorem named_len (w : World) (l : List UInt8) (h : l.length ≤ reach47) :
    Calls Try.prog 56 #[toStr l] w fun e w' => e = .returned (.int .i64 (named l.length)) ∧ w = w' := by
  have e : (ByteArray.mk l.toArray).size = l.length := by simp [ByteArray.size]
  have := named_any w ⟨l.toArray⟩ (by rw [e]; unfold reach47 at h; omega)
  rw [e] at this
  exact this
theorem readText_le {l : List UInt8} {p : Nat} {e : Int} {K : Got (List UInt8)} (h : readText 16 l p e = K) : K.val.length ≤ l.length := by
  subst h
  unfold readText after coreText
  split
  · split
    · simp
    · split
      · simp
      · split
        · simp
        · simp; omega
  · simp
theorem Hd.own {w0 w w' : World} {g : Nat} {A : Option Addr} {c : Nat} {l : List UInt8} {b1 b2 b : Nat} {Z : Array Value} {T : TypeId} {p : Nat} {e : Int} (h : Hd w0 g A c l b1 b2 Z T w p e) (hg : w.grownBy w' (some b)) (h1 : g < b) (h2 : ∀ a, A = some a → a.block < b) (h3 : b1 < b) (h4 : b2 < b) (h5 : w0.heap.size ≤ b) : Hd w0 g A c l b1 b2 Z T w' p e :=
  ⟨re_own h.re hg h1 h2, h.bel.grown hg h.bel.size (fun k hk => by cases hk; exact h5), h.z1.grown hg (by simp; omega), h.z2.grown hg (by simp; omega)⟩

def heardVote (l : List UInt8) : Int × List UInt8 × Vote :=
  let a := readByte l 0 0
  if a.err = 0 ∧ a.val ≠ 86 then (40, [], zeroVote) else
  let b := readText 16 l a.at' a.err
  let v := rdVote l b.at' b.err
  if endErr l v.at' v.err ≠ 0 then (endErr l v.at' v.err, [], zeroVote) else
  if firstErr [named b.val.length, plainVote v.val] ≠ 0 then (firstErr [named b.val.length, plainVote v.val], [], zeroVote) else (0, b.val, v.val)
def HeardResVote (k : Int × List UInt8 × Vote) (w : World) (en : Ending) (w' : World) : Prop :=
  en = .returned (.tuple #[toStr k.2.1, .agg k.2.2.cl.toArray, .int .i64 k.1]) ∧ Below w.heap.size w w'

set_option maxHeartbeats 8000000 in
theorem heardVote_any (w : World) (A : Option Addr) (n c : Nat) (l : List UInt8) (hr : Rd w A (bv l)) (hn : n = l.length) (hl : l.length ≤ reach47) :
    Calls Try.prog 45 #[.int .u8 86, .slice A n c, .func (.func 46) #[] #[], .func (.func 31) #[] #[]] w (HeardResVote (heardVote l) w) := by
  have HR := Lib.hid hr
  have HN := Lib.hid hn
  have HL := Lib.hid hl
  clear hr hn hl
  obtain ⟨K1, hK1⟩ : ∃ K, readByte l 0 0 = K := ⟨_, rfl⟩
  obtain ⟨K2, hK2⟩ : ∃ K, readText 16 l K1.at' K1.err = K := ⟨_, rfl⟩
  obtain ⟨K3, hK3⟩ : ∃ K, rdVote l K2.at' K2.err = K := ⟨_, rfl⟩
  obtain ⟨E, hE⟩ : ∃ E, endErr l K3.at' K3.err = E := ⟨_, rfl⟩
  obtain ⟨F, hF⟩ : ∃ F, firstErr [named K2.val.length, plainVote K3.val] = F := ⟨_, rfl⟩
  have hk : heardVote l = if K1.err = 0 ∧ K1.val ≠ 86 then (40, [], zeroVote) else if E ≠ 0 then (E, [], zeroVote) else if F ≠ 0 then (F, [], zeroVote) else (0, K2.val, K3.val) := by
    unfold heardVote
    simp only [hK1, hK2, hK3, hE, hF]
  have HK0 := Lib.hid hk
  clear hk
  have hok : K3.val.ok := by rw [← hK3]; exact rdVote_ok _ _ _
  have HK1 := Lib.hid hK1
  have HK2 := Lib.hid hK2
  have HK3 := Lib.hid hK3
  have HE := Lib.hid hE
  have HF := Lib.hid hF
  have HOK := Lib.hid hok
  have HZL := Lib.hid (show zeroVote.cl.length = 53 from by rfl)
  have HKL := Lib.hid (vote_len K3.val hok.id hok.sl)
  clear hK1 hK2 hK3 hE hF hok
  go_enter Try.func45, Try.ntmps45
  go_wp2_with (with_reducible show wpList _ _ _ (Oper.mk (some 9) (Op.alloc _) _ _ _ _ :: _) _ _; refine wpList_alloc_bk rfl _ rfl (.agg zeroVote.cl.toArray) (by kernel_rfl) ?_)
  intro b1 w1 hk1 hb1 hg1 hs1
  have HG1 := Lib.hid hg1
  have HS1 := Lib.hid hs1
  clear hg1 hs1
  go_wp2_with (with_reducible show wpList _ _ _ (Oper.mk (some 11) (Op.alloc _) _ _ _ _ :: _) _ _; refine wpList_alloc_bk rfl _ rfl (.agg zeroVote.cl.toArray) (by kernel_rfl) ?_)
  intro b2 w2 hk2 hb2 hg2 hs2
  have B12 := Lib.hid (show w.heap.size ≤ b1 ∧ b1 < b2 ∧ b2 < w2.heap.size by have := HG1.out; have := HS1.out; omega)
  have H2 := Lib.hid (hb1.trans (hb2.mono hb1.size))
  have Z1 := Lib.hid (hk1.below hb2 hk1.lt)
  have Z2 := Lib.hid hk2
  clear hk1 hk2 hb1 hb2 hg2 hs2
  go_wp2_with fail
  refine (newReader_any w2 A n c l ((HR.out).of_cells (fun ad j _ hn => H2.out.cell (cell_block hn))) HN.out HL.out).mono ?_
  rintro en w3 ⟨g, A', c', rfl, r3, g3, a3, b3⟩
  have HS := Lib.hid (HdS.mk (w0 := w) (g := g) (A := A') (b1 := b1) (b2 := b2) B12.out.1 B12.out.2.1 (by have := B12.out; omega) (fun a ha => by have := a3 a ha; have := B12.out; omega))
  have D3 := Lib.hid (Hd.mk (T := 31) r3 (H2.out.trans (b3.mono H2.out.size)) (Z1.out.below b3 Z1.out.lt) (Z2.out.below b3 Z2.out.lt))
  clear r3 g3 a3 b3 Z1 Z2 H2 HR
  go_wp2_with fail
  refine (Byte_rd w3 g A' c' l 0 0 D3.out.re).mono ?_
  rintro en w4 ⟨rfl, ch, re⟩
  rw [HK1.out] at re ⊢
  have D4 := Lib.hid (D3.out.call HS.out ch re)
  clear ch re D3
  go_wp2_with fail
  refine (Err_any w4 g A' c' l _ _ D4.out.re).mono ?_
  rintro en w5 ⟨rfl, rfl⟩
  by_cases hbad : K1.err = 0 ∧ K1.val ≠ 86
  · have HK := Lib.hid (HK0.out.trans (if_pos hbad))
    have t1 : (K1.err == 0) = true := by simp [hbad.1]
    have t2 : (K1.val != 86) = true := by simp [hbad.2]
    have t3 : (K1.val == 86) = false := by simp [hbad.2]
    clear hbad
    go_wp2_with fail
    refine wp_region_freeR (RBk b1 53 (zeroVote).cl.toArray 31) (RBk.pre b1 53 (zeroVote).cl.toArray 31) [(some 30, []), (some 8, []), (none, [(0, 30)])]
      [Is (.agg zeroVote.cl.toArray), Is (.string ⟨#[]⟩), BkK b1 (zeroVote).cl.toArray 31]
      (by kernel_rfl) (by kernel_rfl) (by rfl) ?sta ?stepsa ?fina
    case sta => exact ⟨SteadyR.is _ _, SteadyR.is _ _, BkK.steady b1 53 _ _, trivial⟩
    case stepsa =>
      refine FreeStepsR.cons (fun w2 hw2 => ?_) ?_
      · refine FreeStepR.load_part (RBk.pre b1 53 (zeroVote).cl.toArray 31) 31 _ rfl rfl rfl rfl (by rfl) rfl rfl b2 0 53 rfl _ _ _ (hw2.bk D4.out.drew.z2 (by have := HS.out.b12; omega)) Try.underlying31 rfl info_vote53 (by have := HZL.out; simp [this]) _ (cl_all HZL.out) ?_
        with_reducible rfl
      refine FreeStepsR.cons (fun w2 hw2 => ?_) ?_
      · (refine FreeStepR.det (RBk.pre b1 53 (zeroVote).cl.toArray 31) rfl rfl rfl (by rfl) rfl rfl ?_; (try simp only [Act.put, List.setIfInBounds_toArray, List.set_cons_zero, List.set_cons_succ]); go_simp; (try with_reducible rfl))
      refine FreeStepsR.cons (fun w2 hw2 => (FreeStepR.is rfl ?_)) ?_
      · exact FreeStepR.fill 31 _ _ rfl rfl rfl rfl rfl b1 53 rfl (zeroVote).cl.toArray rfl 31 (hw2.sized ⟨_, D4.out.drew.z1, by have := HZL.out; simp [this]⟩) info_vote53 (by have := HZL.out; simp [this]) (vote_one _) rfl
      exact FreeStepsR.nil
    case fina =>
      intro wa hwa
      refine FreeEndR.is rfl ?_
      refine FreeEndR.is rfl ?_
      refine FreeEndR.cons rfl fun va_2 hva_2 => ?_
      refine FreeEndR.nil ?_
      simp only [act_put_none]
      (try simp only [Act.put, List.setIfInBounds_toArray, List.set_cons_zero, List.set_cons_succ])
      simp only [List.length_cons, List.length_nil, Nat.reduceAdd, List.drop_succ_cons, List.drop_zero]
      have BZ := Lib.hid (hwa.below D4.out.drew.bel B12.out.1 D4.out.drew.bel.size)
      have hkz : Bk wa b1 (zeroVote).cl.toArray 31 := hva_2
      clear hwa hva_2
      go_wp2
      rw [HK.out]
      exact bodyPost_tct Try.results45 rfl rfl rfl hkz Try.underlying31 rfl info_vote53 (by simp [HZL.out]) rfl ⟨rfl, BZ.out⟩
  · have HK2_ := Lib.hid (HK0.out.trans (if_neg hbad))
    have t12 : ((K1.err == 0) && (K1.val != 86)) = false := by
      by_cases h1 : K1.err = 0
      · have h2 : K1.val = 86 := Classical.byContradiction fun h => hbad ⟨h1, h⟩
        simp [h1, h2]
      · simp [h1]
    clear hbad
    have rest : ∀ (Q : Prop), (Calls Try.prog 0 #[] w fun _ _ => True) → Q → Q := fun _ _ q => q
    clear rest
    obtain ⟨q1, hq1⟩ : ∃ q, (K1.err == 0) = q := ⟨_, rfl⟩
    rw [hq1] at t12
    have hq2 : q1 = true → (K1.val != 86) = false ∧ (K1.val == 86) = true := by
      rintro rfl
      have h2 : (K1.val != 86) = false := by simpa using t12
      refine ⟨h2, ?_⟩
      cases hq : (K1.val == 86) with
      | true => rfl
      | false => unfold bne at h2; rw [hq] at h2; cases h2
    clear t12
    cases q1
    · go_wp2_with fail
      refine (Text_rd w4 g A' c' l _ _ D4.out.re).mono ?_
      rintro en w6 ⟨rfl, ch, re⟩
      rw [HK2.out] at re ⊢
      have D6 := Lib.hid (D4.out.call HS.out ch re)
      clear ch re D4
      go_wp2_with fail
      refine (getVote_no w6 g A' c' l _ _ D6.out.re).mono ?_
      rintro en w7 ⟨rfl, ch, re⟩
      rw [HK3.out] at re ⊢
      have D7 := Lib.hid (D6.out.call HS.out ch re)
      clear ch re D6
      go_wp2_with (first
        | (with_reducible show wpList _ _ _ (Oper.mk (some 15) (Op.alloc _) _ _ _ _ :: _) _ _; refine wpList_alloc_bk rfl _ rfl (.agg zeroVote.cl.toArray) (by kernel_rfl) ?_; intro b3 w8 hk8 hb8 hg8 hs8; have D8 := Lib.hid (D7.out.below hb8); have B3 := Lib.hid (show w.heap.size ≤ b3 ∧ b2 < b3 ∧ g < b3 ∧ (∀ a, A' = some a → a.block < b3) from ⟨by have := D7.out.bel.size; omega, by have := D7.out.z2.lt; omega, by have := D7.out.re.bk.lt; omega, fun a ha => by have := D7.out.re.lt a ha; omega⟩); have X8 := Lib.hid hk8; clear hk8 hb8 hg8 hs8 D7)
        | (with_reducible show wpList _ _ _ (Oper.mk _ (Op.store 31 _ _) _ _ _ _ :: _) _ _; go_must (refine wpList_st rfl 31 _ _ rfl b3 0 rfl (.agg K3.val.cl.toArray) rfl K3.val.cl rfl 53 info_vote53 HKL.out _ _ X8.out (by have := HZL.out; simp [Value.cells, this]) (vote_one _) ?_; intro w9 hk9 hg9 hs9)))
      have hk9 := bk_eq hk9 (splice_same HKL.out HZL.out)
      have D9 := Lib.hid (Hd.own D8.out hg9 (by have := B3.out.2.2.1; omega) B3.out.2.2.2 (by have := HS.out.b12; have := B3.out.2.1; omega) (by have := B3.out.2.1; omega) B3.out.1)
      have X9 := Lib.hid hk9
      clear hk9 hg9 hs9 D8 X8
      refine (End_any w9 g A' c' l _ _ D9.out.re).mono ?_
      rintro en w10 ⟨rfl, ch, re⟩
      rw [HE.out]
      have D10 := Lib.hid (D9.out.call HS.out ch re)
      have X10 := Lib.hid (X9.out.ch ch (by have := B3.out.2.2.1; simp; omega))
      clear ch re D9 X9
      by_cases hz : E = 0
      · have HK3_ := Lib.hid (HK2_.out.trans (if_neg (fun h => h hz)))
        clear HK2_
        subst hz
        go_wp2_with fail
        refine wp_region_free [(42, []), (43, [(0, 42)]), (44, []), (45, []), (46, [(2, 44), (3, 45)])]
          [Is (toStr K2.val), Is (.int .i64 (named K2.val.length)), Is (.func (.func 31) #[] #[]), Is (.agg K3.val.cl.toArray), Is (.int .i64 (plainVote K3.val))]
          (by kernel_rfl) (by kernel_rfl) (by rfl) ?stc ?stepsc ?finc
        case stc => exact ⟨Is.steady _, Is.steady _, Is.steady _, Is.steady _, Is.steady _, trivial⟩
        case stepsc =>
          refine FreeSteps.cons (fun w2 hw2 => ?_) ?_
          · (refine FreeStep.det rfl rfl rfl (by rfl) rfl rfl ?_; (try simp only [Act.put, List.setIfInBounds_toArray, List.set_cons_zero, List.set_cons_succ]); go_simp; (try with_reducible rfl))
          refine FreeSteps.cons (fun w2 hw2 => (FreeStep.is rfl ?_)) ?_
          · refine FreeStep.call rfl rfl rfl (by rfl) rfl rfl (by (try simp only [Act.put, List.setIfInBounds_toArray, List.set_cons_zero, List.set_cons_succ]); go_simp; (try with_reducible rfl)) (named_len w2 K2.val (Nat.le_trans (readText_le HK2.out) HL.out)) ?_
            rintro e w3' ⟨rfl, rfl⟩; exact ⟨_, rfl, Below.refl _ _, rfl⟩
          refine FreeSteps.cons (fun w2 hw2 => ?_) ?_
          · (refine FreeStep.det rfl rfl rfl (by rfl) rfl rfl ?_; (try simp only [Act.put, List.setIfInBounds_toArray, List.set_cons_zero, List.set_cons_succ]); go_simp; (try with_reducible rfl))
          refine FreeSteps.cons (fun w2 hw2 => ?_) ?_
          · refine FreeStep.load_part 31 _ rfl rfl rfl rfl (by rfl) rfl rfl b3 0 53 rfl _ _ _ (Bk.below (w := w10.drew) X10.out hw2 X10.out.lt) Try.underlying31 rfl info_vote53 (by have := HKL.out; simp [this]) _ (cl_all HKL.out) ?_
            with_reducible rfl
          refine FreeSteps.cons (fun w2 hw2 => (FreeStep.is rfl (FreeStep.is rfl ?_))) ?_
          · refine FreeStep.call rfl rfl rfl (by rfl) rfl rfl (by (try simp only [Act.put, List.setIfInBounds_toArray, List.set_cons_zero, List.set_cons_succ]); go_simp; (try with_reducible rfl)) (plainVote_any w2 K3.val HOK.out) ?_
            rintro e w3' ⟨rfl, hb3⟩; exact ⟨_, rfl, hb3, rfl⟩
          exact FreeSteps.nil
        case finc =>
          intro wc hwc
          refine FreeEnd.is rfl ?_
          refine FreeEnd.cons rfl fun vc_1 hvc_1 => ?_
          cases hvc_1
          refine FreeEnd.is rfl ?_
          refine FreeEnd.is rfl ?_
          refine FreeEnd.cons rfl fun vc_4 hvc_4 => ?_
          cases hvc_4
          refine FreeEnd.nil ?_
          (try simp only [Act.put, List.setIfInBounds_toArray, List.set_cons_zero, List.set_cons_succ])
          simp only [List.length_cons, List.length_nil, Nat.reduceAdd, List.drop_succ_cons, List.drop_zero]
          have D11 := Lib.hid (D10.out.drew.below hwc)
          have X11 := Lib.hid (Bk.below (w := w10.drew) X10.out hwc X10.out.lt)
          clear hwc D10 X10
          have hr := rd_errs wc #[.int .i64 (named K2.val.length), .int .i64 (plainVote K3.val)] [named K2.val.length, plainVote K3.val] rfl
          have HRR := Lib.hid hr
          have BAL : Below wc.heap.size wc (wc.alloc (.cells #[.int .i64 (named K2.val.length), .int .i64 (plainVote K3.val)] 37)) := (Below.refl _ _).alloc (Nat.le_refl _) _
          have D12 := Lib.hid (D11.out.below BAL)
          have X12 := Lib.hid (X11.out.below BAL X11.out.lt)
          clear hr BAL D11 X11
          go_wp2_with fail
          refine (all_any _ _ 2 2 [named K2.val.length, plainVote K3.val] HRR.out rfl (by omega)).mono ?_
          rintro e wd ⟨rfl, rfl⟩
          generalize wc.alloc (.cells #[.int .i64 (named K2.val.length), .int .i64 (plainVote K3.val)] 37) = wd at *
          rw [HF.out]
          clear HRR
          by_cases hf : F = 0
          · have HK := Lib.hid (HK3_.out.trans (if_neg (fun h => h hf)))
            subst hf
            go_wp2_with fail
            refine wp_region_freeR (RBk b1 53 (K3.val).cl.toArray 31) (RBk.pre b1 53 (K3.val).cl.toArray 31) [(some 53, []), (some 54, []), (some 8, [(0, 53)]), (none, [(1, 54)])]
              [Is (toStr K2.val), Is (.agg K3.val.cl.toArray), Is (toStr K2.val), BkK b1 (K3.val).cl.toArray 31]
              (by kernel_rfl) (by kernel_rfl) (by rfl) ?std ?stepsd ?find
            case std => exact ⟨SteadyR.is _ _, SteadyR.is _ _, SteadyR.is _ _, BkK.steady b1 53 _ _, trivial⟩
            case stepsd =>
              refine FreeStepsR.cons (fun w2 hw2 => ?_) ?_
              · (refine FreeStepR.det (RBk.pre b1 53 (K3.val).cl.toArray 31) rfl rfl rfl (by rfl) rfl rfl ?_; (try simp only [Act.put, List.setIfInBounds_toArray, List.set_cons_zero, List.set_cons_succ]); go_simp; (try with_reducible rfl))
              refine FreeStepsR.cons (fun w2 hw2 => ?_) ?_
              · refine FreeStepR.load_part (RBk.pre b1 53 (K3.val).cl.toArray 31) 31 _ rfl rfl rfl rfl (by rfl) rfl rfl b3 0 53 rfl _ _ _ (hw2.bk (Bk.drew X12.out) (by have := B3.out.2.1; have := HS.out.b12; omega)) Try.underlying31 rfl info_vote53 (by have := HKL.out; simp [this]) _ (cl_all HKL.out) ?_
                with_reducible rfl
              refine FreeStepsR.cons (fun w2 hw2 => (FreeStepR.is rfl ?_)) ?_
              · (refine FreeStepR.det (RBk.pre b1 53 (K3.val).cl.toArray 31) rfl rfl rfl (by rfl) rfl rfl ?_; (try simp only [Act.put, List.setIfInBounds_toArray, List.set_cons_zero, List.set_cons_succ]); go_simp; (try with_reducible rfl))
              refine FreeStepsR.cons (fun w2 hw2 => (FreeStepR.is rfl ?_)) ?_
              · exact FreeStepR.fill 31 _ _ rfl rfl rfl rfl rfl b1 53 rfl (K3.val).cl.toArray rfl 31 (hw2.sized ⟨_, D12.out.drew.z1, by have := HZL.out; simp [this]⟩) info_vote53 (by have := HKL.out; simp [this]) (vote_one _) rfl
              exact FreeStepsR.nil
            case find =>
              intro we hwe
              refine FreeEndR.is rfl ?_
              refine FreeEndR.is rfl ?_
              refine FreeEndR.is rfl ?_
              refine FreeEndR.cons rfl fun vd_3 hvd_3 => ?_
              refine FreeEndR.nil ?_
              simp only [act_put_none]
              (try simp only [Act.put, List.setIfInBounds_toArray, List.set_cons_zero, List.set_cons_succ])
              simp only [List.length_cons, List.length_nil, Nat.reduceAdd, List.drop_succ_cons, List.drop_zero]
              have BZ := Lib.hid (hwe.below D12.out.drew.bel B12.out.1 D12.out.drew.bel.size)
              have hkz : Bk we b1 (K3.val).cl.toArray 31 := hvd_3
              clear hwe hvd_3
              go_wp2
              rw [HK.out]
              exact bodyPost_tct Try.results45 rfl rfl rfl hkz Try.underlying31 rfl info_vote53 (by simp [HKL.out]) rfl ⟨rfl, BZ.out⟩
          · have u1 : (F != 0) = true := by simp [hf]
            have u2 : (F == 0) = false := by simp [hf]
            have HK := Lib.hid (HK3_.out.trans (if_pos hf))
            clear hf
            go_wp2_with fail
            refine wp_region_freeR (RBk b1 53 (zeroVote).cl.toArray 31) (RBk.pre b1 53 (zeroVote).cl.toArray 31) [(some 51, []), (some 52, []), (some 8, []), (none, [(0, 51)])]
              [Is (.agg zeroVote.cl.toArray), Is (.int .i64 F), Is (.string ⟨#[]⟩), BkK b1 (zeroVote).cl.toArray 31]
              (by kernel_rfl) (by kernel_rfl) (by rfl) ?ste ?stepse ?fine
            case ste => exact ⟨SteadyR.is _ _, SteadyR.is _ _, SteadyR.is _ _, BkK.steady b1 53 _ _, trivial⟩
            case stepse =>
              refine FreeStepsR.cons (fun w2 hw2 => ?_) ?_
              · refine FreeStepR.load_part (RBk.pre b1 53 (zeroVote).cl.toArray 31) 31 _ rfl rfl rfl rfl (by rfl) rfl rfl b2 0 53 rfl _ _ _ (hw2.bk D12.out.drew.z2 (by have := HS.out.b12; omega)) Try.underlying31 rfl info_vote53 (by have := HZL.out; simp [this]) _ (cl_all HZL.out) ?_
                with_reducible rfl
              refine FreeStepsR.cons (fun w2 hw2 => ?_) ?_
              · (refine FreeStepR.det (RBk.pre b1 53 (zeroVote).cl.toArray 31) rfl rfl rfl (by rfl) rfl rfl ?_; (try simp only [Act.put, List.setIfInBounds_toArray, List.set_cons_zero, List.set_cons_succ]); go_simp; (try with_reducible rfl))
              refine FreeStepsR.cons (fun w2 hw2 => ?_) ?_
              · (refine FreeStepR.det (RBk.pre b1 53 (zeroVote).cl.toArray 31) rfl rfl rfl (by rfl) rfl rfl ?_; (try simp only [Act.put, List.setIfInBounds_toArray, List.set_cons_zero, List.set_cons_succ]); go_simp; (try with_reducible rfl))
              refine FreeStepsR.cons (fun w2 hw2 => (FreeStepR.is rfl ?_)) ?_
              · exact FreeStepR.fill 31 _ _ rfl rfl rfl rfl rfl b1 53 rfl (zeroVote).cl.toArray rfl 31 (hw2.sized ⟨_, D12.out.drew.z1, by have := HZL.out; simp [this]⟩) info_vote53 (by have := HZL.out; simp [this]) (vote_one _) rfl
              exact FreeStepsR.nil
            case fine =>
              intro wf hwf
              refine FreeEndR.is rfl ?_
              refine FreeEndR.is rfl ?_
              refine FreeEndR.is rfl ?_
              refine FreeEndR.cons rfl fun ve_3 hve_3 => ?_
              refine FreeEndR.nil ?_
              simp only [act_put_none]
              (try simp only [Act.put, List.setIfInBounds_toArray, List.set_cons_zero, List.set_cons_succ])
              simp only [List.length_cons, List.length_nil, Nat.reduceAdd, List.drop_succ_cons, List.drop_zero]
              have BZ := Lib.hid (hwf.below D12.out.drew.bel B12.out.1 D12.out.drew.bel.size)
              have hkz : Bk wf b1 (zeroVote).cl.toArray 31 := hve_3
              clear hwf hve_3
              go_wp2
              rw [HK.out]
              exact bodyPost_tct Try.results45 rfl rfl rfl hkz Try.underlying31 rfl info_vote53 (by simp [HZL.out]) rfl ⟨rfl, BZ.out⟩
      · have u1 : (E != 0) = true := by simp [hz]
        have u2 : (E == 0) = false := by simp [hz]
        have HK := Lib.hid (HK2_.out.trans (if_pos hz))
        clear hz HK2_
        go_wp2_with fail
        refine wp_region_freeR (RBk b1 53 (zeroVote).cl.toArray 31) (RBk.pre b1 53 (zeroVote).cl.toArray 31) [(some 40, []), (some 41, []), (some 8, []), (none, [(0, 40)])]
          [Is (.agg zeroVote.cl.toArray), Is (.int .i64 E), Is (.string ⟨#[]⟩), BkK b1 (zeroVote).cl.toArray 31]
          (by kernel_rfl) (by kernel_rfl) (by rfl) ?stb ?stepsb ?finb
        case stb => exact ⟨SteadyR.is _ _, SteadyR.is _ _, SteadyR.is _ _, BkK.steady b1 53 _ _, trivial⟩
        case stepsb =>
          refine FreeStepsR.cons (fun w2 hw2 => ?_) ?_
          · refine FreeStepR.load_part (RBk.pre b1 53 (zeroVote).cl.toArray 31) 31 _ rfl rfl rfl rfl (by rfl) rfl rfl b2 0 53 rfl _ _ _ (hw2.bk D10.out.drew.z2 (by have := HS.out.b12; omega)) Try.underlying31 rfl info_vote53 (by have := HZL.out; simp [this]) _ (cl_all HZL.out) ?_
            with_reducible rfl
          refine FreeStepsR.cons (fun w2 hw2 => ?_) ?_
          · (refine FreeStepR.det (RBk.pre b1 53 (zeroVote).cl.toArray 31) rfl rfl rfl (by rfl) rfl rfl ?_; (try simp only [Act.put, List.setIfInBounds_toArray, List.set_cons_zero, List.set_cons_succ]); go_simp; (try with_reducible rfl))
          refine FreeStepsR.cons (fun w2 hw2 => ?_) ?_
          · (refine FreeStepR.det (RBk.pre b1 53 (zeroVote).cl.toArray 31) rfl rfl rfl (by rfl) rfl rfl ?_; (try simp only [Act.put, List.setIfInBounds_toArray, List.set_cons_zero, List.set_cons_succ]); go_simp; (try with_reducible rfl))
          refine FreeStepsR.cons (fun w2 hw2 => (FreeStepR.is rfl ?_)) ?_
          · exact FreeStepR.fill 31 _ _ rfl rfl rfl rfl rfl b1 53 rfl (zeroVote).cl.toArray rfl 31 (hw2.sized ⟨_, D10.out.drew.z1, by have := HZL.out; simp [this]⟩) info_vote53 (by have := HZL.out; simp [this]) (vote_one _) rfl
          exact FreeStepsR.nil
        case finb =>
          intro wb hwb
          refine FreeEndR.is rfl ?_
          refine FreeEndR.is rfl ?_
          refine FreeEndR.is rfl ?_
          refine FreeEndR.cons rfl fun vb_3 hvb_3 => ?_
          refine FreeEndR.nil ?_
          simp only [act_put_none]
          (try simp only [Act.put, List.setIfInBounds_toArray, List.set_cons_zero, List.set_cons_succ])
          simp only [List.length_cons, List.length_nil, Nat.reduceAdd, List.drop_succ_cons, List.drop_zero]
          have BZ := Lib.hid (hwb.below D10.out.drew.bel B12.out.1 D10.out.drew.bel.size)
          have hkz : Bk wb b1 (zeroVote).cl.toArray 31 := hvb_3
          clear hwb hvb_3
          go_wp2
          rw [HK.out]
          exact bodyPost_tct Try.results45 rfl rfl rfl hkz Try.underlying31 rfl info_vote53 (by simp [HZL.out]) rfl ⟨rfl, BZ.out⟩
    · obtain ⟨t2, t3⟩ := hq2 rfl
      go_wp2_with fail
      refine (Text_rd w4 g A' c' l _ _ D4.out.re).mono ?_
      rintro en w6 ⟨rfl, ch, re⟩
      rw [HK2.out] at re ⊢
      have D6 := Lib.hid (D4.out.call HS.out ch re)
      clear ch re D4
      go_wp2_with fail
      refine (getVote_no w6 g A' c' l _ _ D6.out.re).mono ?_
      rintro en w7 ⟨rfl, ch, re⟩
      rw [HK3.out] at re ⊢
      have D7 := Lib.hid (D6.out.call HS.out ch re)
      clear ch re D6
      go_wp2_with (first
        | (with_reducible show wpList _ _ _ (Oper.mk (some 15) (Op.alloc _) _ _ _ _ :: _) _ _; refine wpList_alloc_bk rfl _ rfl (.agg zeroVote.cl.toArray) (by kernel_rfl) ?_; intro b3 w8 hk8 hb8 hg8 hs8; have D8 := Lib.hid (D7.out.below hb8); have B3 := Lib.hid (show w.heap.size ≤ b3 ∧ b2 < b3 ∧ g < b3 ∧ (∀ a, A' = some a → a.block < b3) from ⟨by have := D7.out.bel.size; omega, by have := D7.out.z2.lt; omega, by have := D7.out.re.bk.lt; omega, fun a ha => by have := D7.out.re.lt a ha; omega⟩); have X8 := Lib.hid hk8; clear hk8 hb8 hg8 hs8 D7)
        | (with_reducible show wpList _ _ _ (Oper.mk _ (Op.store 31 _ _) _ _ _ _ :: _) _ _; go_must (refine wpList_st rfl 31 _ _ rfl b3 0 rfl (.agg K3.val.cl.toArray) rfl K3.val.cl rfl 53 info_vote53 HKL.out _ _ X8.out (by have := HZL.out; simp [Value.cells, this]) (vote_one _) ?_; intro w9 hk9 hg9 hs9)))
      have hk9 := bk_eq hk9 (splice_same HKL.out HZL.out)
      have D9 := Lib.hid (Hd.own D8.out hg9 (by have := B3.out.2.2.1; omega) B3.out.2.2.2 (by have := HS.out.b12; have := B3.out.2.1; omega) (by have := B3.out.2.1; omega) B3.out.1)
      have X9 := Lib.hid hk9
      clear hk9 hg9 hs9 D8 X8
      refine (End_any w9 g A' c' l _ _ D9.out.re).mono ?_
      rintro en w10 ⟨rfl, ch, re⟩
      rw [HE.out]
      have D10 := Lib.hid (D9.out.call HS.out ch re)
      have X10 := Lib.hid (X9.out.ch ch (by have := B3.out.2.2.1; simp; omega))
      clear ch re D9 X9
      by_cases hz : E = 0
      · have HK3_ := Lib.hid (HK2_.out.trans (if_neg (fun h => h hz)))
        clear HK2_
        subst hz
        go_wp2_with fail
        refine wp_region_free [(42, []), (43, [(0, 42)]), (44, []), (45, []), (46, [(2, 44), (3, 45)])]
          [Is (toStr K2.val), Is (.int .i64 (named K2.val.length)), Is (.func (.func 31) #[] #[]), Is (.agg K3.val.cl.toArray), Is (.int .i64 (plainVote K3.val))]
          (by kernel_rfl) (by kernel_rfl) (by rfl) ?stc ?stepsc ?finc
        case stc => exact ⟨Is.steady _, Is.steady _, Is.steady _, Is.steady _, Is.steady _, trivial⟩
        case stepsc =>
          refine FreeSteps.cons (fun w2 hw2 => ?_) ?_
          · (refine FreeStep.det rfl rfl rfl (by rfl) rfl rfl ?_; (try simp only [Act.put, List.setIfInBounds_toArray, List.set_cons_zero, List.set_cons_succ]); go_simp; (try with_reducible rfl))
          refine FreeSteps.cons (fun w2 hw2 => (FreeStep.is rfl ?_)) ?_
          · refine FreeStep.call rfl rfl rfl (by rfl) rfl rfl (by (try simp only [Act.put, List.setIfInBounds_toArray, List.set_cons_zero, List.set_cons_succ]); go_simp; (try with_reducible rfl)) (named_len w2 K2.val (Nat.le_trans (readText_le HK2.out) HL.out)) ?_
            rintro e w3' ⟨rfl, rfl⟩; exact ⟨_, rfl, Below.refl _ _, rfl⟩
          refine FreeSteps.cons (fun w2 hw2 => ?_) ?_
          · (refine FreeStep.det rfl rfl rfl (by rfl) rfl rfl ?_; (try simp only [Act.put, List.setIfInBounds_toArray, List.set_cons_zero, List.set_cons_succ]); go_simp; (try with_reducible rfl))
          refine FreeSteps.cons (fun w2 hw2 => ?_) ?_
          · refine FreeStep.load_part 31 _ rfl rfl rfl rfl (by rfl) rfl rfl b3 0 53 rfl _ _ _ (Bk.below (w := w10.drew) X10.out hw2 X10.out.lt) Try.underlying31 rfl info_vote53 (by have := HKL.out; simp [this]) _ (cl_all HKL.out) ?_
            with_reducible rfl
          refine FreeSteps.cons (fun w2 hw2 => (FreeStep.is rfl (FreeStep.is rfl ?_))) ?_
          · refine FreeStep.call rfl rfl rfl (by rfl) rfl rfl (by (try simp only [Act.put, List.setIfInBounds_toArray, List.set_cons_zero, List.set_cons_succ]); go_simp; (try with_reducible rfl)) (plainVote_any w2 K3.val HOK.out) ?_
            rintro e w3' ⟨rfl, hb3⟩; exact ⟨_, rfl, hb3, rfl⟩
          exact FreeSteps.nil
        case finc =>
          intro wc hwc
          refine FreeEnd.is rfl ?_
          refine FreeEnd.cons rfl fun vc_1 hvc_1 => ?_
          cases hvc_1
          refine FreeEnd.is rfl ?_
          refine FreeEnd.is rfl ?_
          refine FreeEnd.cons rfl fun vc_4 hvc_4 => ?_
          cases hvc_4
          refine FreeEnd.nil ?_
          (try simp only [Act.put, List.setIfInBounds_toArray, List.set_cons_zero, List.set_cons_succ])
          simp only [List.length_cons, List.length_nil, Nat.reduceAdd, List.drop_succ_cons, List.drop_zero]
          have D11 := Lib.hid (D10.out.drew.below hwc)
          have X11 := Lib.hid (Bk.below (w := w10.drew) X10.out hwc X10.out.lt)
          clear hwc D10 X10
          have hr := rd_errs wc #[.int .i64 (named K2.val.length), .int .i64 (plainVote K3.val)] [named K2.val.length, plainVote K3.val] rfl
          have HRR := Lib.hid hr
          have BAL : Below wc.heap.size wc (wc.alloc (.cells #[.int .i64 (named K2.val.length), .int .i64 (plainVote K3.val)] 37)) := (Below.refl _ _).alloc (Nat.le_refl _) _
          have D12 := Lib.hid (D11.out.below BAL)
          have X12 := Lib.hid (X11.out.below BAL X11.out.lt)
          clear hr BAL D11 X11
          go_wp2_with fail
          refine (all_any _ _ 2 2 [named K2.val.length, plainVote K3.val] HRR.out rfl (by omega)).mono ?_
          rintro e wd ⟨rfl, rfl⟩
          generalize wc.alloc (.cells #[.int .i64 (named K2.val.length), .int .i64 (plainVote K3.val)] 37) = wd at *
          rw [HF.out]
          clear HRR
          by_cases hf : F = 0
          · have HK := Lib.hid (HK3_.out.trans (if_neg (fun h => h hf)))
            subst hf
            go_wp2_with fail
            refine wp_region_freeR (RBk b1 53 (K3.val).cl.toArray 31) (RBk.pre b1 53 (K3.val).cl.toArray 31) [(some 53, []), (some 54, []), (some 8, [(0, 53)]), (none, [(1, 54)])]
              [Is (toStr K2.val), Is (.agg K3.val.cl.toArray), Is (toStr K2.val), BkK b1 (K3.val).cl.toArray 31]
              (by kernel_rfl) (by kernel_rfl) (by rfl) ?std ?stepsd ?find
            case std => exact ⟨SteadyR.is _ _, SteadyR.is _ _, SteadyR.is _ _, BkK.steady b1 53 _ _, trivial⟩
            case stepsd =>
              refine FreeStepsR.cons (fun w2 hw2 => ?_) ?_
              · (refine FreeStepR.det (RBk.pre b1 53 (K3.val).cl.toArray 31) rfl rfl rfl (by rfl) rfl rfl ?_; (try simp only [Act.put, List.setIfInBounds_toArray, List.set_cons_zero, List.set_cons_succ]); go_simp; (try with_reducible rfl))
              refine FreeStepsR.cons (fun w2 hw2 => ?_) ?_
              · refine FreeStepR.load_part (RBk.pre b1 53 (K3.val).cl.toArray 31) 31 _ rfl rfl rfl rfl (by rfl) rfl rfl b3 0 53 rfl _ _ _ (hw2.bk (Bk.drew X12.out) (by have := B3.out.2.1; have := HS.out.b12; omega)) Try.underlying31 rfl info_vote53 (by have := HKL.out; simp [this]) _ (cl_all HKL.out) ?_
                with_reducible rfl
              refine FreeStepsR.cons (fun w2 hw2 => (FreeStepR.is rfl ?_)) ?_
              · (refine FreeStepR.det (RBk.pre b1 53 (K3.val).cl.toArray 31) rfl rfl rfl (by rfl) rfl rfl ?_; (try simp only [Act.put, List.setIfInBounds_toArray, List.set_cons_zero, List.set_cons_succ]); go_simp; (try with_reducible rfl))
              refine FreeStepsR.cons (fun w2 hw2 => (FreeStepR.is rfl ?_)) ?_
              · exact FreeStepR.fill 31 _ _ rfl rfl rfl rfl rfl b1 53 rfl (K3.val).cl.toArray rfl 31 (hw2.sized ⟨_, D12.out.drew.z1, by have := HZL.out; simp [this]⟩) info_vote53 (by have := HKL.out; simp [this]) (vote_one _) rfl
              exact FreeStepsR.nil
            case find =>
              intro we hwe
              refine FreeEndR.is rfl ?_
              refine FreeEndR.is rfl ?_
              refine FreeEndR.is rfl ?_
              refine FreeEndR.cons rfl fun vd_3 hvd_3 => ?_
              refine FreeEndR.nil ?_
              simp only [act_put_none]
              (try simp only [Act.put, List.setIfInBounds_toArray, List.set_cons_zero, List.set_cons_succ])
              simp only [List.length_cons, List.length_nil, Nat.reduceAdd, List.drop_succ_cons, List.drop_zero]
              have BZ := Lib.hid (hwe.below D12.out.drew.bel B12.out.1 D12.out.drew.bel.size)
              have hkz : Bk we b1 (K3.val).cl.toArray 31 := hvd_3
              clear hwe hvd_3
              go_wp2
              rw [HK.out]
              exact bodyPost_tct Try.results45 rfl rfl rfl hkz Try.underlying31 rfl info_vote53 (by simp [HKL.out]) rfl ⟨rfl, BZ.out⟩
          · have u1 : (F != 0) = true := by simp [hf]
            have u2 : (F == 0) = false := by simp [hf]
            have HK := Lib.hid (HK3_.out.trans (if_pos hf))
            clear hf
            go_wp2_with fail
            refine wp_region_freeR (RBk b1 53 (zeroVote).cl.toArray 31) (RBk.pre b1 53 (zeroVote).cl.toArray 31) [(some 51, []), (some 52, []), (some 8, []), (none, [(0, 51)])]
              [Is (.agg zeroVote.cl.toArray), Is (.int .i64 F), Is (.string ⟨#[]⟩), BkK b1 (zeroVote).cl.toArray 31]
              (by kernel_rfl) (by kernel_rfl) (by rfl) ?ste ?stepse ?fine
            case ste => exact ⟨SteadyR.is _ _, SteadyR.is _ _, SteadyR.is _ _, BkK.steady b1 53 _ _, trivial⟩
            case stepse =>
              refine FreeStepsR.cons (fun w2 hw2 => ?_) ?_
              · refine FreeStepR.load_part (RBk.pre b1 53 (zeroVote).cl.toArray 31) 31 _ rfl rfl rfl rfl (by rfl) rfl rfl b2 0 53 rfl _ _ _ (hw2.bk D12.out.drew.z2 (by have := HS.out.b12; omega)) Try.underlying31 rfl info_vote53 (by have := HZL.out; simp [this]) _ (cl_all HZL.out) ?_
                with_reducible rfl
              refine FreeStepsR.cons (fun w2 hw2 => ?_) ?_
              · (refine FreeStepR.det (RBk.pre b1 53 (zeroVote).cl.toArray 31) rfl rfl rfl (by rfl) rfl rfl ?_; (try simp only [Act.put, List.setIfInBounds_toArray, List.set_cons_zero, List.set_cons_succ]); go_simp; (try with_reducible rfl))
              refine FreeStepsR.cons (fun w2 hw2 => ?_) ?_
              · (refine FreeStepR.det (RBk.pre b1 53 (zeroVote).cl.toArray 31) rfl rfl rfl (by rfl) rfl rfl ?_; (try simp only [Act.put, List.setIfInBounds_toArray, List.set_cons_zero, List.set_cons_succ]); go_simp; (try with_reducible rfl))
              refine FreeStepsR.cons (fun w2 hw2 => (FreeStepR.is rfl ?_)) ?_
              · exact FreeStepR.fill 31 _ _ rfl rfl rfl rfl rfl b1 53 rfl (zeroVote).cl.toArray rfl 31 (hw2.sized ⟨_, D12.out.drew.z1, by have := HZL.out; simp [this]⟩) info_vote53 (by have := HZL.out; simp [this]) (vote_one _) rfl
              exact FreeStepsR.nil
            case fine =>
              intro wf hwf
              refine FreeEndR.is rfl ?_
              refine FreeEndR.is rfl ?_
              refine FreeEndR.is rfl ?_
              refine FreeEndR.cons rfl fun ve_3 hve_3 => ?_
              refine FreeEndR.nil ?_
              simp only [act_put_none]
              (try simp only [Act.put, List.setIfInBounds_toArray, List.set_cons_zero, List.set_cons_succ])
              simp only [List.length_cons, List.length_nil, Nat.reduceAdd, List.drop_succ_cons, List.drop_zero]
              have BZ := Lib.hid (hwf.below D12.out.drew.bel B12.out.1 D12.out.drew.bel.size)
              have hkz : Bk wf b1 (zeroVote).cl.toArray 31 := hve_3
              clear hwf hve_3
              go_wp2
              rw [HK.out]
              exact bodyPost_tct Try.results45 rfl rfl rfl hkz Try.underlying31 rfl info_vote53 (by simp [HZL.out]) rfl ⟨rfl, BZ.out⟩
      · have u1 : (E != 0) = true := by simp [hz]
        have u2 : (E == 0) = false := by simp [hz]
        have HK := Lib.hid (HK2_.out.trans (if_pos hz))
        clear hz HK2_
        go_wp2_with fail
        refine wp_region_freeR (RBk b1 53 (zeroVote).cl.toArray 31) (RBk.pre b1 53 (zeroVote).cl.toArray 31) [(some 40, []), (some 41, []), (some 8, []), (none, [(0, 40)])]
          [Is (.agg zeroVote.cl.toArray), Is (.int .i64 E), Is (.string ⟨#[]⟩), BkK b1 (zeroVote).cl.toArray 31]
          (by kernel_rfl) (by kernel_rfl) (by rfl) ?stb ?stepsb ?finb
        case stb => exact ⟨SteadyR.is _ _, SteadyR.is _ _, SteadyR.is _ _, BkK.steady b1 53 _ _, trivial⟩
        case stepsb =>
          refine FreeStepsR.cons (fun w2 hw2 => ?_) ?_
          · refine FreeStepR.load_part (RBk.pre b1 53 (zeroVote).cl.toArray 31) 31 _ rfl rfl rfl rfl (by rfl) rfl rfl b2 0 53 rfl _ _ _ (hw2.bk D10.out.drew.z2 (by have := HS.out.b12; omega)) Try.underlying31 rfl info_vote53 (by have := HZL.out; simp [this]) _ (cl_all HZL.out) ?_
            with_reducible rfl
          refine FreeStepsR.cons (fun w2 hw2 => ?_) ?_
          · (refine FreeStepR.det (RBk.pre b1 53 (zeroVote).cl.toArray 31) rfl rfl rfl (by rfl) rfl rfl ?_; (try simp only [Act.put, List.setIfInBounds_toArray, List.set_cons_zero, List.set_cons_succ]); go_simp; (try with_reducible rfl))
          refine FreeStepsR.cons (fun w2 hw2 => ?_) ?_
          · (refine FreeStepR.det (RBk.pre b1 53 (zeroVote).cl.toArray 31) rfl rfl rfl (by rfl) rfl rfl ?_; (try simp only [Act.put, List.setIfInBounds_toArray, List.set_cons_zero, List.set_cons_succ]); go_simp; (try with_reducible rfl))
          refine FreeStepsR.cons (fun w2 hw2 => (FreeStepR.is rfl ?_)) ?_
          · exact FreeStepR.fill 31 _ _ rfl rfl rfl rfl rfl b1 53 rfl (zeroVote).cl.toArray rfl 31 (hw2.sized ⟨_, D10.out.drew.z1, by have := HZL.out; simp [this]⟩) info_vote53 (by have := HZL.out; simp [this]) (vote_one _) rfl
          exact FreeStepsR.nil
        case finb =>
          intro wb hwb
          refine FreeEndR.is rfl ?_
          refine FreeEndR.is rfl ?_
          refine FreeEndR.is rfl ?_
          refine FreeEndR.cons rfl fun vb_3 hvb_3 => ?_
          refine FreeEndR.nil ?_
          simp only [act_put_none]
          (try simp only [Act.put, List.setIfInBounds_toArray, List.set_cons_zero, List.set_cons_succ])
          simp only [List.length_cons, List.length_nil, Nat.reduceAdd, List.drop_succ_cons, List.drop_zero]
          have BZ := Lib.hid (hwb.below D10.out.drew.bel B12.out.1 D10.out.drew.bel.size)
          have hkz : Bk wb b1 (zeroVote).cl.toArray 31 := hvb_3
          clear hwb hvb_3
          go_wp2
          rw [HK.out]
          exact bodyPost_tct Try.results45 rfl rfl rfl hkz Try.underlying31 rfl info_vote53 (by simp [HZL.out]) rfl ⟨rfl, BZ.out⟩

end Go.Proofs.Ytocgcalaiejbiaa

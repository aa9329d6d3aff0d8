/-
  The program's digests of an item and of two beside one another. Conditions: the item lies in memory; the tables read as they were laid.
  The program's top of a list's leaves. Conditions: the leaves lie in memory, each of 32 bytes; the tables read as they were laid.
  The program's digest of a number and a top. Conditions: the number is below a million; the tables read as they were laid.
-/
import Derived.Test.YtjdegphpalhapaaDoorK26
namespace Go.Proofs.YtjdegphpalhapaaDoor
set_option linter.unusedSimpArgs false
set_option linter.unusedVariables false
open Go.RowKit
set_option maxRecDepth 100000

theorem leafH_len (b : List UInt8) : (leafH b).length = 32 := sha_len _
theorem innerH_len (l r : List UInt8) : (innerH l r).length = 32 := sha_len _
theorem rootH_len (n : Nat) (t : List UInt8) : (rootH n t).length = 32 := sha_len _
set_option maxHeartbeats 1000000 in
theorem Leaf_any (w : World) (p : Piece) (hp : p.ok w) (hl : p.b.length + 300 ≤ room46) (ht : Tabs w) :
    Calls Tryd.prog 111 #[p.val] w fun e w' => e = .returned (.agg (bv (leafH p.b)).toArray) ∧ Below w.heap.size w w' := by
  obtain ⟨Ap, cp, b⟩ := p
  have HP := Lib.hid hp
  have HL := Lib.hid hl
  have HT := Lib.hid ht
  obtain ⟨m, hm⟩ : ∃ m, b.length = m := ⟨_, rfl⟩
  have HM := Lib.hid hm
  simp only [Piece.val, hm]
  clear hp hl ht hm
  go_enter Tryd.func111, Tryd.ntmps111
  go_wp2_with (with_reducible show wpList _ _ _ (Oper.mk _ (Op.alloc _) _ _ _ _ :: _) _ _; refine wpList_alloc_i rfl 29 rfl (.agg (bv (zer 32)).toArray) zero_hash ?_)
  intro r w1 h1 hl1 hg1 hs1
  have H1 := Lib.hid h1
  have HL1 := Lib.hid hl1
  clear h1 hl1
  go_wp2_with fail
  obtain ⟨o1, ho1⟩ : ∃ o1, Obj.cells #[Value.int .u8 0] 5 = o1 := ⟨_, rfl⟩
  rw [ho1]
  have HA1 := Lib.hid ((Below.refl w1.heap.size w1).alloc (Nat.le_refl _) o1)
  have HB1 := Lib.hid (show Bk (w1.alloc o1) w1.heap.size #[Value.int .u8 0] 5 from by rw [← ho1]; exact Bk.new w1 _ _)
  obtain ⟨w2, hw2⟩ : ∃ w2, w1.alloc o1 = w2 := ⟨_, rfl⟩
  have HS2 := Lib.hid (show w2.heap.size = w1.heap.size + 1 by rw [← hw2]; simp)
  rw [hw2] at HA1 HB1 ⊢
  have HA2 := Lib.hid ((Below.refl w2.heap.size w2).alloc (Nat.le_refl _) (Obj.cells #[Value.slice (some ⟨w1.heap.size, 0, none⟩) 1 1, Value.slice Ap m cp] 57))
  have HLW := Lib.hid (HL1.out.trans (HA1.out.mono HL1.out.size))
  have HT2 := Lib.hid ((HT.out.below HLW.out).below HA2.out)
  have HP2 := Lib.hid ((HP.out.below HLW.out).below HA2.out)
  have HQ2 := Lib.hid (show (⟨some ⟨w1.heap.size, 0, none⟩, 1, [0]⟩ : Piece).ok (w2.alloc (Obj.cells #[Value.slice (some ⟨w1.heap.size, 0, none⟩) 1 1, Value.slice Ap m cp] 57)) from
    ⟨(show Rd w2 (some ⟨w1.heap.size, 0, none⟩) (bv [0]) from Rd.of_bk HB1.out 0 _ (fun j u hu => by simpa [bv] using hu)).alloc _, Nat.le_refl _, fun ad ha => by injection ha with ha; subst ha; simp [HS2.out]; omega⟩)
  have HR2 := Lib.hid (show Rd (w2.alloc (Obj.cells #[Value.slice (some ⟨w1.heap.size, 0, none⟩) 1 1, Value.slice Ap m cp] 57)) (some ⟨w1.heap.size + 1, 0, none⟩) ([(⟨some ⟨w1.heap.size, 0, none⟩, 1, [0]⟩ : Piece), ⟨Ap, cp, b⟩].map Piece.val) from by
    rw [← HS2.out]
    exact Rd.of_bk (Bk.new w2 _ _) 0 _ (fun j u hu => by rw [← HM.out]; simpa [Piece.val] using hu))
  have HE := Lib.hid (show allOf [(⟨some ⟨w1.heap.size, 0, none⟩, 1, [0]⟩ : Piece), ⟨Ap, cp, b⟩] = 0 :: b by simp [allOf])
  refine (joined_any _ _ 2 2 [⟨some ⟨w1.heap.size, 0, none⟩, 1, [0]⟩, ⟨Ap, cp, b⟩] rfl HR2.out (by intro p hp; simp only [List.mem_cons, List.not_mem_nil, or_false] at hp; rcases hp with rfl | rfl; exact HQ2.out; exact HP2.out) (by rw [HE.out, List.length_cons]; have := HL.out; have := HM.out; omega) HT2.out (by omega)).mono ?_
  rw [HE.out]
  rintro en w6 ⟨rfl, hl6⟩
  have HX := Lib.hid (HA2.out.trans (hl6.mono (by simp)))
  have HW6 := Lib.hid (HLW.out.trans (HX.out.mono HLW.out.size))
  have H6 := Lib.hid ((H1.out.below HA1.out H1.out.lt).below HX.out (by have := H1.out.lt; rw [HS2.out]; omega))
  have HZ := Lib.hid (show (bv (sha (0 :: b))).toArray.size = 32 by rw [List.size_toArray, bv_length, sha_len])
  clear hl6 HT2 HP2 HR2 HA2 HQ2 HX
  go_wp2_with (with_reducible show wpList _ _ _ (Oper.mk _ (Op.store 29 _ _) _ _ _ _ :: _) _ _; go_must (refine wpList_store_bk rfl 29 _ _ rfl r rfl (.agg (bv (sha (0 :: b))).toArray) rfl _ _ H6.out (by rw [agg_sz HZ.out]; exact info_h32) (by rw [agg_sz HZ.out]; simp [bv, zer]) (by simpa [Value.cells] using bv_one (sha (0 :: b))) ?_))
  intro w11 h11 hg11 hs11
  have HB11 := Lib.hid (below_grown2 HW6.out hg11 hg1 HW6.out.size)
  have H11 := Lib.hid h11
  clear h11 hg11 hs11
  go_wp2
  exact bodyPost_cell rfl rfl H11.out Tryd.underlying29 rfl info_h32 HZ.out.symm rfl ⟨rfl, HB11.out⟩

/-- a slice value with bytes, as a piece -/
def PieceK (l : List UInt8) : Known := fun v w => ∃ A c, v = .slice A l.length c ∧ (⟨A, c, l⟩ : Piece).ok w
theorem PieceK.steady (l : List UInt8) : Steady (PieceK l) := fun _ _ _ h hb => by
  obtain ⟨A, c, h1, h3⟩ := h
  exact ⟨A, c, h1, h3.below hb⟩
theorem pieceK_made (w : World) (b : UInt8) : PieceK [b] (.slice (some ⟨w.heap.size, 0, none⟩) 1 1) (w.alloc (.cells #[.int .u8 (b.toNat : Int)] 5)) :=
  ⟨some ⟨w.heap.size, 0, none⟩, 1, rfl, Rd.of_bk (Bk.new w _ _) 0 _ (fun j u hu => by simpa [bv] using hu), Nat.le_refl _, fun ad ha => by injection ha with ha; subst ha; simp⟩
set_option maxHeartbeats 2000000 in
theorem Inner_any (w : World) (l r : List UInt8) (hl : l.length = 32) (hr : r.length = 32) (ht : Tabs w) :
    Calls Tryd.prog 113 #[.agg (bv l).toArray, .agg (bv r).toArray] w fun e w' => e = .returned (.agg (bv (innerH l r)).toArray) ∧ Below w.heap.size w w' := by
  have HL := Lib.hid hl
  have HR := Lib.hid hr
  have HT := Lib.hid ht
  clear hl hr ht
  go_enter Tryd.func113, Tryd.ntmps113
  go_wp2_with (with_reducible show wpList _ _ _ (Oper.mk _ (Op.box _ _) _ _ _ _ :: _) _ _; refine wpList_box_i rfl _ _ rfl _ rfl ?_)
  intro g1 w1 hk1 hb1 hg1 hs1
  go_wp2_with (with_reducible show wpList _ _ _ (Oper.mk _ (Op.box _ _) _ _ _ _ :: _) _ _; refine wpList_box_i rfl _ _ rfl _ rfl ?_)
  intro g2 w2 hk2 hb2 hg2 hs2
  go_wp2_with (with_reducible show wpList _ _ _ (Oper.mk _ (Op.alloc _) _ _ _ _ :: _) _ _; refine wpList_alloc_i rfl 29 rfl (.agg (bv (zer 32)).toArray) zero_hash ?_)
  intro q w3 h3 hl3 hg3 hs3
  have HK1 := Lib.hid ((bk_eqT (cs' := (bv l).toArray) hk1 rfl).below (hb2.trans (hl3.mono hb2.size)) hk1.lt)
  have HK2 := Lib.hid ((bk_eqT (cs' := (bv r).toArray) hk2 rfl).below hl3 hk2.lt)
  have H3 := Lib.hid h3
  have HL3 := Lib.hid (hb1.trans ((hb2.trans (hl3.mono hb2.size)).mono hb1.size))
  have HG := Lib.hid (show w.heap.size ≤ q by have := hb1.size; have := hb2.size; omega)
  have HT3 := Lib.hid (HT.out.below HL3.out)
  clear hk1 hb1 hg1 hs1 hk2 hb2 hg2 hs2 h3 hl3 hg3 hs3 HT
  go_wp2_with fail
  refine wp_region_free [(5, []), (6, []), (7, [])] [PieceK [1], Is (.slice (some ⟨g1, 0, none⟩) 32 32), Is (.slice (some ⟨g2, 0, none⟩) 32 32)]
    (by kernel_rfl) (by kernel_rfl) (by rfl) ?st ?steps ?fin
  case st => exact ⟨PieceK.steady _, Is.steady _, Is.steady _, trivial⟩
  case steps =>
    refine FreeSteps.cons (fun w4 hw4 => ?_) ?_
    · refine FreeStep.op rfl rfl ?_
      (try simp only [Act.put, List.setIfInBounds_toArray, List.set_cons_zero, List.set_cons_succ])
      go_wp2_with fail
      refine QStep.mk rfl ((Below.refl _ _).alloc (Nat.le_refl _) _) ?_
      exact pieceK_made w4 1
    refine FreeSteps.cons (fun w4 hw4 => ?_) ?_
    · refine FreeStep.op rfl rfl ?_
      (try simp only [Act.put, List.setIfInBounds_toArray, List.set_cons_zero, List.set_cons_succ])
      go_wp2_with fail
      exact QStep.mk rfl (Below.refl _ _) rfl
    refine FreeSteps.cons (fun w4 hw4 => ?_) ?_
    · refine FreeStep.op rfl rfl ?_
      (try simp only [Act.put, List.setIfInBounds_toArray, List.set_cons_zero, List.set_cons_succ])
      go_wp2_with fail
      exact QStep.mk rfl (Below.refl _ _) rfl
    exact FreeSteps.nil
  case fin =>
    intro w4 hw4
    refine FreeEnd.cons rfl fun v hv => ?_
    obtain ⟨A0, c0, rfl, r0⟩ := hv
    refine FreeEnd.is rfl ?_
    refine FreeEnd.is rfl ?_
    refine FreeEnd.nil ?_
    (try simp only [Act.put, List.setIfInBounds_toArray, List.set_cons_zero, List.set_cons_succ])
    simp only [List.length_cons, List.length_nil, Nat.reduceAdd, List.drop_succ_cons, List.drop_zero]
    have HW4 := Lib.hid (show Below w3.heap.size w3 w4 from (Below.refl _ _).drew.trans hw4)
    obtain ⟨o1, ho1⟩ : ∃ o1, Obj.cells #[Value.slice A0 1 c0, Value.slice (some ⟨g1, 0, none⟩) 32 32, Value.slice (some ⟨g2, 0, none⟩) 32 32] 57 = o1 := ⟨_, rfl⟩
    have HA5 := Lib.hid ((Below.refl w4.heap.size w4).alloc (Nat.le_refl _) o1)
    have HX := Lib.hid (HW4.out.trans (HA5.out.mono HW4.out.size))
    have HK1x := Lib.hid (HK1.out.below HX.out HK1.out.lt)
    have HK2x := Lib.hid (HK2.out.below HX.out HK2.out.lt)
    have HRR := Lib.hid (show Rd (w4.alloc o1) (some ⟨w4.heap.size, 0, none⟩) ([(⟨A0, c0, [1]⟩ : Piece), ⟨some ⟨g1, 0, none⟩, 32, l⟩, ⟨some ⟨g2, 0, none⟩, 32, r⟩].map Piece.val) from by
      rw [← ho1]
      exact Rd.of_bk (Bk.new w4 _ _) 0 _ (fun j u hu => by simpa [Piece.val, HL.out, HR.out] using hu))
    have HPP := Lib.hid (show ∀ p ∈ [(⟨A0, c0, [1]⟩ : Piece), ⟨some ⟨g1, 0, none⟩, 32, l⟩, ⟨some ⟨g2, 0, none⟩, 32, r⟩], p.ok (w4.alloc o1) from by
      intro p hp
      simp only [List.mem_cons, List.not_mem_nil, or_false] at hp
      rcases hp with rfl | rfl | rfl
      · exact r0.below ((Below.refl _ _).alloc (Nat.le_refl _) _)
      · exact ⟨Rd.of_bk HK1x.out 0 _ (fun j u hu => by simpa using hu), Nat.le_of_eq HL.out, fun ad ha => by injection ha with ha; subst ha; exact HK1x.out.lt⟩
      · exact ⟨Rd.of_bk HK2x.out 0 _ (fun j u hu => by simpa using hu), Nat.le_of_eq HR.out, fun ad ha => by injection ha with ha; subst ha; exact HK2x.out.lt⟩)
    have HE := Lib.hid (show allOf [(⟨A0, c0, [1]⟩ : Piece), ⟨some ⟨g1, 0, none⟩, 32, l⟩, ⟨some ⟨g2, 0, none⟩, 32, r⟩] = 1 :: (l ++ r) by simp [allOf])
    have HTX := Lib.hid ((HT3.out.below HW4.out).below HA5.out)
    have H5 := Lib.hid (H3.out.below HX.out H3.out.lt)
    have HLX := Lib.hid (HL3.out.trans (HX.out.mono HL3.out.size))
    clear hw4 r0 HK1 HK2 HK1x HK2x HX HA5 HW4
    go_wp2_with (first
      | (go_at_call 80; go_must (refine (joined_any _ _ 3 3 [⟨A0, c0, [1]⟩, ⟨some ⟨g1, 0, none⟩, 32, l⟩, ⟨some ⟨g2, 0, none⟩, 32, r⟩] rfl HRR.out HPP.out (by rw [HE.out, List.length_cons, List.length_append, HL.out, HR.out]; unfold room46; omega) HTX.out (by omega)).mono ?_); rw [HE.out]; rintro en w6 ⟨rfl, hl6⟩; have HW6 := Lib.hid (HLX.out.trans (hl6.mono HLX.out.size)); have H6 := Lib.hid (H5.out.below hl6 H5.out.lt); have HZ := Lib.hid (show (bv (sha (1 :: (l ++ r)))).toArray.size = 32 by rw [List.size_toArray, bv_length, sha_len]); clear hl6 HTX HRR HPP)
      | (with_reducible show wpList _ _ _ (Oper.mk _ (Op.store 29 _ _) _ _ _ _ :: _) _ _; go_must (refine wpList_store_bk rfl 29 _ _ rfl q rfl (.agg (bv (sha (1 :: (l ++ r)))).toArray) rfl _ _ H6.out (by rw [agg_sz HZ.out]; exact info_h32) (by rw [agg_sz HZ.out]; simp [bv, zer]) (by simpa [Value.cells] using bv_one (sha (1 :: (l ++ r)))) ?_)))
    intro w11 h11 hg11 hs11
    have HB11 := Lib.hid (below_grown2 HW6.out hg11 HG.out HW6.out.size)
    have H11 := Lib.hid h11
    clear h11 hg11 hs11
    go_wp2
    exact bodyPost_cell rfl rfl H11.out Tryd.underlying29 rfl info_h32 HZ.out.symm rfl ⟨rfl, HB11.out⟩
end Go.Proofs.YtjdegphpalhapaaDoor
namespace Go.Proofs.YtjdegphpalhapaaDoor
set_option linter.unusedSimpArgs false
set_option linter.unusedVariables false
open Go.RowKit
set_option maxRecDepth 100000

/-- hashes, one behind the other -/
def hv (hs : List (List UInt8)) : List Value := hs.flatMap bv
theorem hv_at : ∀ (hs : List (List UInt8)) (_ : ∀ h ∈ hs, h.length = 32) (k : Nat) (hk : k < hs.length) (j : Nat) (u : Value), (bv hs[k])[j]? = some u → (hv hs)[32 * k + j]? = some u
  | h :: hs, hm, 0, hk, j, u, hu => by
    rw [hv, List.flatMap_cons, Nat.mul_zero, Nat.zero_add]
    exact List.getElem?_append_left (List.getElem?_eq_some_iff.1 hu).1 |>.trans hu
  | h :: hs, hm, k + 1, hk, j, u, hu => by
    have hl : (bv h).length = 32 := by rw [bv_length]; exact hm h (List.mem_cons_self ..)
    rw [hv, List.flatMap_cons, List.getElem?_append_right (by omega), hl, show 32 * (k + 1) + j - 32 = 32 * k + j by omega]
    exact hv_at hs (fun m' h' => hm m' (List.mem_cons_of_mem _ h')) k (by simpa using hk) j u (by simpa using hu)
theorem hv_len : ∀ (hs : List (List UInt8)) (_ : ∀ h ∈ hs, h.length = 32), (hv hs).length = 32 * hs.length
  | [], _ => rfl
  | h :: hs, hm => by
    have hl : (bv h).length = 32 := by rw [bv_length]; exact hm h (List.mem_cons_self ..)
    have := hv_len hs (fun m' h' => hm m' (List.mem_cons_of_mem _ h'))
    unfold hv at this ⊢
    rw [List.flatMap_cons, List.length_append, hl, this, List.length_cons]; omega
theorem hv_take (hs : List (List UInt8)) (hm : ∀ h ∈ hs, h.length = 32) (k : Nat) (hk : k ≤ hs.length) : hv hs = hv (hs.take k) ++ hv (hs.drop k) := by
  unfold hv
  rw [← List.flatMap_append, List.take_append_drop]
theorem rd_cells {w : World} {ad : Addr} {xs : List Value} (h : Rd w (some ad) xs) : ∀ j u, xs[j]? = some u → w.cell? (ad.add j) = some u := fun j u hu => by
  obtain ⟨a', ha, hc⟩ := h j u hu
  injection ha with ha
  rw [ha]; exact hc
theorem rd_left {w : World} {A : Option Addr} {xs ys : List Value} (h : Rd w A (xs ++ ys)) : Rd w A xs := fun j u hu => h j u (by
  rw [List.getElem?_append_left (List.getElem?_eq_some_iff.1 hu).1]; exact hu)
theorem add_comm' (ad : Addr) (p j : Nat) : (ad.add p).add j = ad.add (p + j) := by
  unfold Addr.add
  split <;> split <;> simp_all <;> omega
theorem rd_right {w : World} {ad : Addr} {xs ys : List Value} (n : Nat) (hn : xs.length = n) (h : Rd w (some ad) (xs ++ ys)) : Rd w (some (ad.add n)) ys := fun j u hu => by
  obtain ⟨a', ha, hc⟩ := h (n + j) u (by rw [List.getElem?_append_right (by omega), show n + j - xs.length = j by omega]; exact hu)
  injection ha with ha
  subst ha
  exact ⟨_, rfl, by rw [add_comm']; exact hc⟩

set_option maxHeartbeats 4000000 in
theorem top_any : ∀ (f : Nat) (w : World) (A : Option Addr) (n c : Nat) (hs : List (List UInt8)) (_ : hs.length = n) (_ : n ≤ f) (_ : n ≤ c) (_ : Rd w A (hv hs)) (_ : ∀ h ∈ hs, h.length = 32) (_ : n ≤ 1000000) (_ : Tabs w),
    Calls Tryd.prog 94 #[.slice A n c] w fun e w' => e = .returned (.agg (bv (topH hs)).toArray) ∧ Below w.heap.size w w' := by
  intro f
  induction f with
  | zero =>
    intro w A n c hs hn hf hc hr h32 hm ht
    have hn0 : n = 0 := by omega
    subst hn0
    obtain rfl := List.eq_nil_of_length_eq_zero hn
    have HT := Lib.hid ht
    clear hr h32 hn ht
    rw [topH_nil]
    go_enter Tryd.func94, Tryd.ntmps94
    go_wp2_with (with_reducible show wpList _ _ _ (Oper.mk _ (Op.alloc _) _ _ _ _ :: _) _ _; refine wpList_alloc_i rfl 29 rfl (.agg (bv (zer 32)).toArray) zero_hash ?_)
    intro r w1 h1 hl1 hg1 hs1
    have H1 := Lib.hid h1
    have HL1 := Lib.hid hl1
    clear h1 hl1
    go_wp2_with fail
    refine (dSum_any w1 ⟨none, 0, []⟩ ⟨Rd.nil _ _, Nat.le_refl _, fun ad ha => by cases ha⟩ (by unfold room46; simp) (HT.out.below HL1.out)).mono ?_
    rintro e w2 ⟨rfl, hl2⟩
    have H2 := Lib.hid (H1.out.below hl2 H1.out.lt)
    have HL2 := Lib.hid (HL1.out.trans (hl2.mono HL1.out.size))
    have HZ := Lib.hid (show (bv (sha [])).toArray.size = 32 by rw [List.size_toArray, bv_length, sha_len])
    clear hl2
    go_wp2_with (with_reducible show wpList _ _ _ (Oper.mk _ (Op.store 29 _ _) _ _ _ _ :: _) _ _; go_must (refine wpList_store_bk rfl 29 _ _ rfl r rfl (.agg (bv (sha [])).toArray) rfl _ _ H2.out (by rw [agg_sz HZ.out]; exact info_h32) (by rw [agg_sz HZ.out]; simp [bv, zer]) (by simpa [Value.cells] using bv_one (sha [])) ?_))
    intro w11 h11 hg11 hs11
    have HB11 := Lib.hid (below_grown2 HL2.out hg11 hg1 HL2.out.size)
    have H11 := Lib.hid h11
    clear h11 hg11 hs11
    go_wp2
    exact bodyPost_cell rfl rfl H11.out Tryd.underlying29 rfl info_h32 HZ.out.symm rfl ⟨rfl, HB11.out⟩
  | succ f ih =>
    intro w A n c hs hn hf hc hr h32 hm ht
    rcases Nat.lt_or_ge n 1 with h0 | h0
    · have := ih w A n c hs hn (by omega) hc hr h32 hm ht
      exact this
    have hne : hv hs ≠ [] := by
      intro e
      have := hv_len hs h32
      rw [e, List.length_nil] at this
      omega
    obtain ⟨ad, rfl⟩ : ∃ ad, A = some ad := by
      obtain ⟨a, ha, _⟩ := hr 0 _ (List.getElem?_eq_getElem (List.length_pos_iff.2 hne))
      exact ⟨a, ha⟩
    have HN := Lib.hid hn
    have HR := Lib.hid hr
    have H32 := Lib.hid h32
    have HT := Lib.hid ht
    clear hr h32 hne ht
    rcases Nat.lt_or_ge n 2 with h1 | h1
    · have hn1 : n = 1 := by omega
      subst hn1
      obtain ⟨x, rfl⟩ : ∃ x, hs = [x] := by
        match hs, hn with
        | [x], _ => exact ⟨x, rfl⟩
      clear hn
      have HX := Lib.hid (H32.out x (by simp))
      rw [topH_one]
      go_enter Tryd.func94, Tryd.ntmps94
      go_wp2_with (with_reducible show wpList _ _ _ (Oper.mk _ (Op.alloc _) _ _ _ _ :: _) _ _; refine wpList_alloc_i rfl 29 rfl (.agg (bv (zer 32)).toArray) zero_hash ?_)
      intro r w1 h1 hl1 hg1 hs1
      have H1 := Lib.hid h1
      have HL1 := Lib.hid hl1
      have HRX := Lib.hid (show Rd w1 (some ad) (bv x) from by have := HR.out.below hl1; simpa [hv] using this)
      have HZ := Lib.hid (show (bv x).toArray.size = 32 by rw [List.size_toArray, bv_length, HX.out])
      clear h1 hl1
      go_wp2_with (first
        | (with_reducible show wpList _ _ _ (Oper.mk (some 13) (Op.load 29 _) _ _ _ _ :: _) _ _; go_must (refine wpList_load_at rfl 29 _ rfl ad 32 rfl (bv x) (rd_cells HRX.out) _ Tryd.underlying29 rfl info_h32 (by rw [bv_length, HX.out]) ?_))
        | (with_reducible show wpList _ _ _ (Oper.mk _ (Op.store 29 _ _) _ _ _ _ :: _) _ _; go_must (refine wpList_store_bk rfl 29 _ _ rfl r rfl (.agg (bv x).toArray) rfl _ _ H1.out (by rw [agg_sz HZ.out]; exact info_h32) (by rw [agg_sz HZ.out]; simp [bv, zer]) (by simpa [Value.cells] using bv_one x) ?_)))
      intro w11 h11 hg11 hs11
      have HB11 := Lib.hid (below_grown2 HL1.out hg11 hg1 HL1.out.size)
      have H11 := Lib.hid h11
      clear h11 hg11 hs11
      go_wp2
      exact bodyPost_cell rfl rfl H11.out Tryd.underlying29 rfl info_h32 HZ.out.symm rfl ⟨rfl, HB11.out⟩
    · have HTT := Lib.hid (topH_two (ls := hs) (by omega))
      have hsl := spl_lt h1
      have hsp := spl_pos n
      rw [HTT.out, HN.out]
      obtain ⟨k, hk⟩ : ∃ k, spl n = k := ⟨_, rfl⟩
      rw [hk] at hsl hsp ⊢
      have HK := Lib.hid hk
      obtain ⟨tl, htl⟩ : ∃ t, topH (hs.take k) = t := ⟨_, rfl⟩
      obtain ⟨tr, htr⟩ : ∃ t, topH (hs.drop k) = t := ⟨_, rfl⟩
      rw [htl, htr]
      have HTL := Lib.hid htl
      have HTR := Lib.hid htr
      have LTL := Lib.hid (show tl.length = 32 by rw [← htl]; exact topH_len _ _ (Nat.le_refl _) (fun l hl => H32.out l (List.mem_of_mem_take hl)))
      have LTR := Lib.hid (show tr.length = 32 by rw [← htr]; exact topH_len _ _ (Nat.le_refl _) (fun l hl => H32.out l (List.mem_of_mem_drop hl)))
      have hd0 : ¬ (n : Int) = 0 := by omega
      have hd1 : ¬ (n : Int) = 1 := by omega
      clear hk htl htr hn
      go_enter Tryd.func94, Tryd.ntmps94
      go_wp2_with (with_reducible show wpList _ _ _ (Oper.mk _ (Op.alloc _) _ _ _ _ :: _) _ _; refine wpList_alloc_i rfl 29 rfl (.agg (bv (zer 32)).toArray) zero_hash ?_)
      intro r w1 h1' hl1 hg1 hs1
      have H1 := Lib.hid h1'
      have HL1 := Lib.hid hl1
      clear h1' hl1
      go_wp2_with (go_at_call 112; go_must (refine (split_any _ n h1 hm).mono ?_); rintro e wx ⟨rfl, rfl⟩; rw [HK.out])
      refine wp_region_free [(17, []), (18, []), (19, [(0, 17), (1, 18)]), (20, [(2, 19)]), (21, []), (22, []), (23, [(4, 21), (5, 22)]), (24, [(6, 23)])]
        [Is ?v0, Is ?v1, Is (.slice (some ad) k c), Is (.agg (bv tl).toArray), Is ?v4, Is ?v5, Is (.slice (some (ad.add (k * 32))) (n - k) (c - k)), Is (.agg (bv tr).toArray)]
        (by kernel_rfl) (by kernel_rfl) (by rfl) ?st ?steps ?fin
      case st => exact ⟨Is.steady _, Is.steady _, Is.steady _, Is.steady _, Is.steady _, Is.steady _, Is.steady _, Is.steady _, trivial⟩
      case steps =>
        refine FreeSteps.cons (fun w4 hw4 => ?_) ?_
        · (refine FreeStep.det rfl rfl rfl (by rfl) rfl rfl ?_; (try simp only [Act.put, List.setIfInBounds_toArray, List.set_cons_zero, List.set_cons_succ]); go_simp; (try with_reducible rfl))
        refine FreeSteps.cons (fun w4 hw4 => ?_) ?_
        · (refine FreeStep.det rfl rfl rfl (by rfl) rfl rfl ?_; (try simp only [Act.put, List.setIfInBounds_toArray, List.set_cons_zero, List.set_cons_succ]); go_simp; (try with_reducible rfl))
        refine FreeSteps.cons (fun w4 hw4 => FreeStep.is rfl (FreeStep.is rfl ?_)) ?_
        · have i1 : (k : Int) ≤ c := by omega
          refine FreeStep.op rfl rfl ?_
          (try simp only [Act.put, List.setIfInBounds_toArray, List.set_cons_zero, List.set_cons_succ])
          go_wp2_with fail
          exact QStep.mk rfl (Below.refl _ _) rfl
        refine FreeSteps.cons (fun w4 hw4 => FreeStep.is rfl ?_) ?_
        · have HW4 := Lib.hid (HL1.out.drew.trans (hw4.mono HL1.out.size))
          refine FreeStep.call rfl rfl rfl (by rfl) rfl rfl (by (try simp only [Act.put, List.setIfInBounds_toArray, List.set_cons_zero, List.set_cons_succ]); go_simp; (try with_reducible rfl)) (ih w4 (some ad) k c (hs.take k) (by rw [List.length_take, HN.out]; omega) (by omega) (by omega) (rd_left (by rw [← hv_take hs H32.out k (by rw [HN.out]; omega)]; exact HR.out.below HW4.out)) (fun l hl => H32.out l (List.mem_of_mem_take hl)) (by omega) (HT.out.below HW4.out)) ?_
          rintro e w5 ⟨rfl, hb5⟩
          exact ⟨_, rfl, hb5, by rw [HTL.out]; rfl⟩
        refine FreeSteps.cons (fun w4 hw4 => ?_) ?_
        · (refine FreeStep.det rfl rfl rfl (by rfl) rfl rfl ?_; (try simp only [Act.put, List.setIfInBounds_toArray, List.set_cons_zero, List.set_cons_succ]); go_simp; (try with_reducible rfl))
        refine FreeSteps.cons (fun w4 hw4 => ?_) ?_
        · (refine FreeStep.det rfl rfl rfl (by rfl) rfl rfl ?_; (try simp only [Act.put, List.setIfInBounds_toArray, List.set_cons_zero, List.set_cons_succ]); go_simp; (try with_reducible rfl))
        refine FreeSteps.cons (fun w4 hw4 => FreeStep.is rfl (FreeStep.is rfl ?_)) ?_
        · have i1 : (k : Int) ≤ n := by omega
          have i2 : ¬ (c = k) := by omega
          have i3 : (n : Int) ≤ c := by omega
          refine FreeStep.op rfl rfl ?_
          (try simp only [Act.put, List.setIfInBounds_toArray, List.set_cons_zero, List.set_cons_succ])
          go_wp2_with fail
          exact QStep.mk rfl (Below.refl _ _) rfl
        refine FreeSteps.cons (fun w4 hw4 => FreeStep.is rfl ?_) ?_
        · have HW4 := Lib.hid (HL1.out.drew.trans (hw4.mono HL1.out.size))
          refine FreeStep.call rfl rfl rfl (by rfl) rfl rfl (by (try simp only [Act.put, List.setIfInBounds_toArray, List.set_cons_zero, List.set_cons_succ]); go_simp; (try with_reducible rfl)) (ih w4 (some (ad.add (k * 32))) (n - k) (c - k) (hs.drop k) (by rw [List.length_drop, HN.out]) (by omega) (by omega) (rd_right (xs := hv (hs.take k)) (k * 32) (by rw [hv_len _ (fun l hl => H32.out l (List.mem_of_mem_take hl)), List.length_take, HN.out]; omega) (by rw [← hv_take hs H32.out k (by rw [HN.out]; omega)]; exact HR.out.below HW4.out)) (fun l hl => H32.out l (List.mem_of_mem_drop hl)) (by omega) (HT.out.below HW4.out)) ?_
          rintro e w5 ⟨rfl, hb5⟩
          exact ⟨_, rfl, hb5, by rw [HTR.out]; rfl⟩
        exact FreeSteps.nil
      case fin =>
        intro w2 hw2
        refine FreeEnd.is rfl ?_
        refine FreeEnd.is rfl ?_
        refine FreeEnd.is rfl ?_
        refine FreeEnd.is rfl ?_
        refine FreeEnd.is rfl ?_
        refine FreeEnd.is rfl ?_
        refine FreeEnd.is rfl ?_
        refine FreeEnd.is rfl ?_
        refine FreeEnd.nil ?_
        (try simp only [Act.put, List.setIfInBounds_toArray, List.set_cons_zero, List.set_cons_succ])
        simp only [List.length_cons, List.length_nil, Nat.reduceAdd, List.drop_succ_cons, List.drop_zero]
        have HW2 := Lib.hid (HL1.out.drew.trans (hw2.mono HL1.out.size))
        have H2 := Lib.hid (H1.out.below ((Below.refl _ _).drew.trans hw2) H1.out.lt)
        clear hw2
        go_wp2_with (first
          | (go_at_call 113; go_must (refine (Inner_any _ tl tr LTL.out LTR.out (HT.out.below HW2.out)).mono ?_); rintro en w6 ⟨rfl, hl6⟩; have HW6 := Lib.hid (HW2.out.trans (hl6.mono HW2.out.size)); have H6 := Lib.hid (H2.out.below hl6 H2.out.lt); have HZ := Lib.hid (show (bv (innerH tl tr)).toArray.size = 32 by rw [List.size_toArray, bv_length, innerH_len]); clear hl6)
          | (with_reducible show wpList _ _ _ (Oper.mk _ (Op.store 29 _ _) _ _ _ _ :: _) _ _; go_must (refine wpList_store_bk rfl 29 _ _ rfl r rfl (.agg (bv (innerH tl tr)).toArray) rfl _ _ H6.out (by rw [agg_sz HZ.out]; exact info_h32) (by rw [agg_sz HZ.out]; simp [bv, zer]) (by simpa [Value.cells] using bv_one (innerH tl tr)) ?_)))
        intro w11 h11 hg11 hs11
        have HB11 := Lib.hid (below_grown2 HW6.out hg11 hg1 HW6.out.size)
        have H11 := Lib.hid h11
        clear h11 hg11 hs11
        go_wp2
        exact bodyPost_cell rfl rfl H11.out Tryd.underlying29 rfl info_h32 HZ.out.symm rfl ⟨rfl, HB11.out⟩
end Go.Proofs.YtjdegphpalhapaaDoor
namespace Go.Proofs.YtjdegphpalhapaaDoor
set_option linter.unusedSimpArgs false
set_option linter.unusedVariables false
open Go.RowKit
set_option maxRecDepth 100000

theorem splice_mid {xs ys zs ws : List Value} {n : Nat} (h : xs.length = n) (hl : ws.length = ys.length) : splice (xs ++ (ys ++ zs)).toArray n ws = (xs ++ (ws ++ zs)).toArray := by
  subst h
  unfold splice
  apply Array.ext'
  rw [hl]
  simp
theorem zero_b8 : (Tryd.prog.info? 160).bind (·.zero) = some (.agg (bv (zer 8)).toArray) := by kernel_rfl
theorem info_b8 : (Tryd.prog.info? 160).map (·.size) = some 8 := by kernel_rfl
theorem le8_take (n k : Nat) (hk : k < 8) : (le8 n).take (k + 1) = (le8 n).take k ++ [UInt8.ofNat (n / 2 ^ (8 * k))] := by
  rw [List.take_succ_eq_append_getElem (by rw [le8_len]; exact hk)]
  simp [le8]
theorem le8_byte (n k : Nat) : (n : Int) / 2 ^ (8 * k) % 256 = ((UInt8.ofNat (n / 2 ^ (8 * k))).toNat : Int) := by
  rw [byte_of]; push_cast; rfl

set_option maxHeartbeats 2000000 in
theorem under_any (w : World) (n : Nat) (t : List UInt8) (hn : n ≤ 1000000) (htl : t.length = 32) (ht : Tabs w) :
    Calls Tryd.prog 93 #[.int .i64 (n : Int), .agg (bv t).toArray] w fun e w' => e = .returned (.agg (bv (rootH n t)).toArray) ∧ Below w.heap.size w w' := by
  have HL := Lib.hid htl
  have HT := Lib.hid ht
  have p_n : IntKind.u64.wrap (n : Int) = n := by rw [IntKind.wrap_u64]; omega
  clear htl ht
  go_enter Tryd.func93, Tryd.ntmps93
  go_wp2_with (with_reducible show wpList _ _ _ (Oper.mk _ (Op.box _ _) _ _ _ _ :: _) _ _; refine wpList_box_i rfl _ _ rfl _ rfl ?_)
  intro g1 w1 hk1 hb1 hg1 hs1
  go_wp2_with (with_reducible show wpList _ _ _ (Oper.mk _ (Op.alloc _) _ _ _ _ :: _) _ _; refine wpList_alloc_i rfl 29 rfl (.agg (bv (zer 32)).toArray) zero_hash ?_)
  intro q w2 h2 hl2 hg2 hs2
  go_wp2_with (with_reducible show wpList _ _ _ (Oper.mk _ (Op.alloc _) _ _ _ _ :: _) _ _; refine wpList_alloc_i rfl 160 rfl (.agg (bv (zer 8)).toArray) zero_b8 ?_)
  intro b w3 h3 hl3 hg3 hs3
  have HK1 := Lib.hid ((bk_eqT (cs' := (bv t).toArray) hk1 rfl).below (hl2.trans (hl3.mono hl2.size)) hk1.lt)
  have HQ := Lib.hid (h2.below hl3 h2.lt)
  have HKB := Lib.hid (bk_eqT (cs' := (bv ((le8 n).take 0) ++ bv (zer 8)).toArray) h3 (by simp [bv]))
  have HL3 := Lib.hid (hb1.trans ((hl2.trans (hl3.mono hl2.size)).mono hb1.size))
  have HG1 := Lib.hid (show w.heap.size ≤ q by have := hb1.size; omega)
  have HG2 := Lib.hid (show w.heap.size ≤ b by have := hb1.size; have := hl2.size; omega)
  have HNQ := Lib.hid (show q ≠ b by omega)
  have HNG := Lib.hid (show g1 ≠ b by have := hl2.size; omega)
  clear hk1 hb1 hg1 hs1 h2 hl2 hg2 hs2 h3 hl3 hg3 hs3
  go_wp2
  go_loopw [7] (fun i wr => ∃ (k : Nat) (rs : List Value), k ≤ 8 ∧ rs.length = 8 - k ∧ i = .int .i64 (k : Int) ∧ Bk wr b (bv ((le8 n).take k) ++ rs).toArray 160 ∧ Bk wr g1 (bv t).toArray 29 ∧ Bk wr q (bv (zer 32)).toArray 29 ∧ Below w.heap.size w wr) (fun i _ => 8 - (intOf i).toNat)
  case atStart => exact ⟨0, bv (zer 8), by omega, rfl, rfl, HKB.out, HK1.out, HQ.out, HL3.out⟩
  case round =>
    clear HKB HK1 HQ HL3
    obtain ⟨k, rs, hk, hrs, rfl, h4, h5, h6, h7⟩ := hrel
    have HB := Lib.hid h4
    have HK := Lib.hid h5
    have HQ := Lib.hid h6
    have HW := Lib.hid h7
    have HRS := Lib.hid hrs
    clear h4 h5 h6 h7 hrs
    by_cases hlt : k < 8
    · have p0 : (k : Int) < 8 := by omega
      have p1 : IntKind.i64.wrap (8 * (k : Int)) = 8 * (k : Int) := by rw [IntKind.wrap_i64]; omega
      have p2 : (8 * (k : Int)).toNat = 8 * k := by omega
      have p3 : (0 : Int) ≤ 8 * (k : Int) := by omega
      obtain ⟨r0, rs', hrr⟩ : ∃ r0 rs', rs = r0 :: rs' := by
        match rs, HRS.out with
        | [], h => simp at h; omega
        | a :: l, _ => exact ⟨a, l, rfl⟩
      subst hrr
      have HBT := Lib.hid (le8_byte n k)
      have HTK := Lib.hid (le8_take n k hlt)
      have HLN := Lib.hid (show (bv ((le8 n).take k)).length = k by rw [bv_length, List.length_take, le8_len]; omega)
      have HSZ := Lib.hid (show k < (bv ((le8 n).take k) ++ r0 :: rs').toArray.size by simp [HLN.out])
      go_wp2_with (with_reducible show wpList _ _ _ (Oper.mk _ (Op.store 5 _ _) _ _ _ _ :: _) _ _; go_must (refine wpList_store_w rfl 5 _ _ rfl b k rfl .u8 _ rfl _ _ HB.out (by kernel_rfl) HSZ.out ?_))
      intro w5 h5 hg5 hs5
      have HB5 := Lib.hid (show Bk w5 b (bv ((le8 n).take (k + 1)) ++ rs').toArray 160 from bk_eqT h5 (by
        rw [HTK.out, HBT.out, show (r0 :: rs' : List Value) = [r0] ++ rs' from rfl, splice_mid (ys := [r0]) (ws := [Value.int .u8 ((UInt8.ofNat (n / 2 ^ (8 * k))).toNat : Int)]) (zs := rs') HLN.out rfl]
        simp [bv]))
      have HK5 := Lib.hid (HK.out.grown hg5 (by have := HNG.out; intro e; injection e with e; omega))
      have HQ5 := Lib.hid (HQ.out.grown hg5 (by have := HNQ.out; intro e; injection e with e; omega))
      have HW5 := Lib.hid (below_grown2 HW.out hg5 HG2.out HW.out.size)
      clear h5 hg5 hs5 HB HK HQ HW HBT
      go_wp2
      go_round
      case rel => exact ⟨k + 1, rs', by omega, by have := HRS.out; simp only [List.length_cons] at this; omega, by go_num, HB5.out, HK5.out, HQ5.out, HW5.out⟩
      case measure => simp [intOf]; omega
    · have hk8 : k = 8 := by omega
      subst hk8
      have hrs0 : rs = [] := List.eq_nil_of_length_eq_zero (by have := HRS.out; omega)
      subst hrs0
      have HB8 := Lib.hid (bk_eqT (cs' := (bv (le8 n)).toArray) HB.out (by rw [List.append_nil, List.take_of_length_le (by rw [le8_len]; exact Nat.le_refl _)]))
      have HTW := Lib.hid (HT.out.below HW.out)
      clear HB hlt
      go_wp2_with fail
      refine wp_region_free [(19, []), (20, []), (21, [])] [PieceK [2], Is (.slice (some ⟨b, 0, none⟩) 8 8), Is (.slice (some ⟨g1, 0, none⟩) 32 32)]
        (by kernel_rfl) (by kernel_rfl) (by rfl) ?st ?steps ?fin
      case st => exact ⟨PieceK.steady _, Is.steady _, Is.steady _, trivial⟩
      case steps =>
        refine FreeSteps.cons (fun w4 hw4 => ?_) ?_
        · refine FreeStep.op rfl rfl ?_
          (try simp only [Act.put, List.setIfInBounds_toArray, List.set_cons_zero, List.set_cons_succ])
          go_wp2_with fail
          refine QStep.mk rfl ((Below.refl _ _).alloc (Nat.le_refl _) _) ?_
          exact pieceK_made w4 2
        refine FreeSteps.cons (fun w4 hw4 => ?_) ?_
        · refine FreeStep.op rfl rfl ?_
          (try simp only [Act.put, List.setIfInBounds_toArray, List.set_cons_zero, List.set_cons_succ])
          go_wp2_with fail
          exact QStep.mk rfl (Below.refl _ _) rfl
        refine FreeSteps.cons (fun w4 hw4 => ?_) ?_
        · refine FreeStep.op rfl rfl ?_
          (try simp only [Act.put, List.setIfInBounds_toArray, List.set_cons_zero, List.set_cons_succ])
          go_wp2_with fail
          exact QStep.mk rfl (Below.refl _ _) rfl
        exact FreeSteps.nil
      case fin =>
        intro w4 hw4
        refine FreeEnd.cons rfl fun v hv => ?_
        obtain ⟨A0, c0, rfl, r0⟩ := hv
        refine FreeEnd.is rfl ?_
        refine FreeEnd.is rfl ?_
        refine FreeEnd.nil ?_
        (try simp only [Act.put, List.setIfInBounds_toArray, List.set_cons_zero, List.set_cons_succ])
        simp only [List.length_cons, List.length_nil, Nat.reduceAdd, List.drop_succ_cons, List.drop_zero]
        have HW4 := Lib.hid (show Below wr.heap.size wr w4 from (Below.refl _ _).drew.trans hw4)
        obtain ⟨o1, ho1⟩ : ∃ o1, Obj.cells #[Value.slice A0 1 c0, Value.slice (some ⟨b, 0, none⟩) 8 8, Value.slice (some ⟨g1, 0, none⟩) 32 32] 57 = o1 := ⟨_, rfl⟩
        have HA5 := Lib.hid ((Below.refl w4.heap.size w4).alloc (Nat.le_refl _) o1)
        have HX := Lib.hid (HW4.out.trans (HA5.out.mono HW4.out.size))
        have HK1x := Lib.hid (HB8.out.below HX.out HB8.out.lt)
        have HK2x := Lib.hid (HK.out.below HX.out HK.out.lt)
        have HRR := Lib.hid (show Rd (w4.alloc o1) (some ⟨w4.heap.size, 0, none⟩) ([(⟨A0, c0, [2]⟩ : Piece), ⟨some ⟨b, 0, none⟩, 8, le8 n⟩, ⟨some ⟨g1, 0, none⟩, 32, t⟩].map Piece.val) from by
          rw [← ho1]
          exact Rd.of_bk (Bk.new w4 _ _) 0 _ (fun j u hu => by simpa [Piece.val, HL.out, le8_len] using hu))
        have HPP := Lib.hid (show ∀ p ∈ [(⟨A0, c0, [2]⟩ : Piece), ⟨some ⟨b, 0, none⟩, 8, le8 n⟩, ⟨some ⟨g1, 0, none⟩, 32, t⟩], p.ok (w4.alloc o1) from by
          intro p hp
          simp only [List.mem_cons, List.not_mem_nil, or_false] at hp
          rcases hp with rfl | rfl | rfl
          · exact r0.below ((Below.refl _ _).alloc (Nat.le_refl _) _)
          · exact ⟨Rd.of_bk HK1x.out 0 _ (fun j u hu => by simpa using hu), Nat.le_of_eq (le8_len n), fun ad ha => by injection ha with ha; subst ha; exact HK1x.out.lt⟩
          · exact ⟨Rd.of_bk HK2x.out 0 _ (fun j u hu => by simpa using hu), Nat.le_of_eq HL.out, fun ad ha => by injection ha with ha; subst ha; exact HK2x.out.lt⟩)
        have HE := Lib.hid (show allOf [(⟨A0, c0, [2]⟩ : Piece), ⟨some ⟨b, 0, none⟩, 8, le8 n⟩, ⟨some ⟨g1, 0, none⟩, 32, t⟩] = 2 :: (le8 n ++ t) by simp [allOf])
        have HTX := Lib.hid ((HTW.out.below HW4.out).below HA5.out)
        have H5 := Lib.hid (HQ.out.below HX.out HQ.out.lt)
        have HLX := Lib.hid (HW.out.trans (HX.out.mono HW.out.size))
        clear hw4 r0 HB8 HK HK1x HK2x HX HA5 HW4 HW HQ
        go_wp2_with (first
          | (go_at_call 80; go_must (refine (joined_any _ _ 3 3 [⟨A0, c0, [2]⟩, ⟨some ⟨b, 0, none⟩, 8, le8 n⟩, ⟨some ⟨g1, 0, none⟩, 32, t⟩] rfl HRR.out HPP.out (by rw [HE.out, List.length_cons, List.length_append, HL.out, le8_len]; unfold room46; omega) HTX.out (by omega)).mono ?_); rw [HE.out]; rintro en w6 ⟨rfl, hl6⟩; have HW6 := Lib.hid (HLX.out.trans (hl6.mono HLX.out.size)); have H6 := Lib.hid (H5.out.below hl6 H5.out.lt); have HZ := Lib.hid (show (bv (sha (2 :: (le8 n ++ t)))).toArray.size = 32 by rw [List.size_toArray, bv_length, sha_len]); clear hl6 HTX HRR HPP)
          | (with_reducible show wpList _ _ _ (Oper.mk _ (Op.store 29 _ _) _ _ _ _ :: _) _ _; go_must (refine wpList_store_bk rfl 29 _ _ rfl q rfl (.agg (bv (sha (2 :: (le8 n ++ t)))).toArray) rfl _ _ H6.out (by rw [agg_sz HZ.out]; exact info_h32) (by rw [agg_sz HZ.out]; simp [bv, zer]) (by simpa [Value.cells] using bv_one (sha (2 :: (le8 n ++ t)))) ?_)))
        intro w11 h11 hg11 hs11
        have HB11 := Lib.hid (below_grown2 HW6.out hg11 HG1.out HW6.out.size)
        have H11 := Lib.hid h11
        clear h11 hg11 hs11
        go_wp2
        exact bodyPost_cell rfl rfl H11.out Tryd.underlying29 rfl info_h32 HZ.out.symm rfl ⟨rfl, HB11.out⟩
end Go.Proofs.YtjdegphpalhapaaDoor

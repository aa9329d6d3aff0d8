/-
  The reference's header: its form. Conditions: each number fits its kind; the chain's name is short.
-/
import Derived.Test.YtjdegphpalhapaaDoorK20
namespace Go.Proofs.YtjdegphpalhapaaDoor
set_option linter.unusedSimpArgs false
set_option linter.unusedVariables false
open Go.RowKit
set_option maxRecDepth 100000

def hdrA (x : Hdr) : List UInt8 := textB x.chain ++ varB x.height.toNat ++ varB x.time.toNat ++ hpart x.hh 0 ++ hpart x.hh 1 ++ hpart x.hh 2 ++ hpart x.hh 3
def hdrB' (x : Hdr) : List UInt8 := hdrA x ++ hpart x.hh 4 ++ hpart x.hh 5 ++ hpart x.hh 6 ++ varB x.prop.toNat
theorem hh_bytes (l : List UInt8) (h : l.length = 224) : l = hpart l 0 ++ (hpart l 1 ++ (hpart l 2 ++ (hpart l 3 ++ (hpart l 4 ++ (hpart l 5 ++ hpart l 6))))) := by
  have e7 : l.take (32 * 7) = l := List.take_of_length_le (by omega)
  rw [← e7]
  have hp : ∀ k, k < 7 → hpart (l.take (32 * 7)) k = hpart l k := fun k _ => by rw [e7]
  rw [hp 0 (by omega), hp 1 (by omega), hp 2 (by omega), hp 3 (by omega), hp 4 (by omega), hp 5 (by omega), hp 6 (by omega)]
  rw [← hpart_take l 6, ← hpart_take l 5, ← hpart_take l 4, ← hpart_take l 3, ← hpart_take l 2, ← hpart_take l 1, ← hpart_take l 0]
  simp
theorem hdrB'_len {x : Hdr} (hx : x.ok) (hp : HdrB x) : (hdrB' x).length ≤ 300 := by
  obtain ⟨c1, c2, h1, h2, t1, t2, p1, p2⟩ := hp
  have l0 := varB_ten (n := x.chain.size) (by unfold two64; omega)
  have l1 := varB_int (n := x.height) (by omega) (by unfold two64; omega)
  have l2 := varB_int (n := x.time) (by omega) (by unfold two64; omega)
  have l3 := varB_int (n := x.prop) (by omega) (by unfold two64; omega)
  have lc : x.chain.data.toList.length = x.chain.size := by rw [Array.length_toList]; rfl
  have hh := fun k (hk : k < 7) => hpart_len hx.hh hk
  have := hh 0 (by omega); have := hh 1 (by omega); have := hh 2 (by omega); have := hh 3 (by omega); have := hh 4 (by omega); have := hh 5 (by omega); have := hh 6 (by omega)
  simp only [hdrB', hdrA, textB, List.length_append]
  omega
theorem hdrA_len {x : Hdr} (hx : x.ok) (hp : HdrB x) : (hdrA x).length ≤ 300 := by
  have := hdrB'_len hx hp
  simp only [hdrB', List.length_append] at this
  omega
set_option maxHeartbeats 8000000 in
theorem rHeader_any (w : World) (x : Hdr) (hx : x.ok) (hp : HdrB x) :
    Calls Tryd.prog 28 #[.agg x.cl.toArray] w fun e w' => ∃ v, e = .returned v ∧ Bs w' w.heap.size v (hdrB' x) ∧ Below w.heap.size w w' := by
  have HX := Lib.hid hx
  have hlen := Lib.hid (x.cl_len hx)
  have n_chain : x.chain.size ≤ reach47 := by have := hp.c2; unfold reach47; omega
  have n_height : 0 ≤ x.height ∧ x.height < two64 := ⟨hx.height.1, by have := hx.height.2; unfold two64; omega⟩
  have n_time : 0 ≤ x.time ∧ x.time < two64 := ⟨hx.time.1, by have := hx.time.2; unfold two64; omega⟩
  have n_prop : 0 ≤ x.prop ∧ x.prop < two64 := ⟨hx.prop.1, by have := hx.prop.2; unfold two64; omega⟩
  have HLA : (hdrA x).length ≤ reach47 := by have := hdrA_len hx hp; unfold reach47; omega
  have HLB : (hdrB' x).length ≤ reach47 := by have := hdrB'_len hx hp; unfold reach47; omega
  go_enter Tryd.func28, Tryd.ntmps28
  go_wp2_with (with_reducible show wpList _ _ _ (Oper.mk _ (Op.box _ _) _ _ _ _ :: _) _ _; refine wpList_box_bk rfl _ _ rfl _ rfl ?_)
  intro g w1 hb0 hbl hg hs
  clear hg hs
  have hb : Bk w1.drew g x.cl.toArray _ := hb0.drew
  go_wp2_with fail
  refine wp_region_free [(4, []), (5, [(0, 4)]), (6, [(1, 5)]), (7, []), (8, [(3, 7)]), (9, [(4, 8)]), (10, []), (11, [(6, 10)]), (12, [(7, 11)]), (13, []), (14, [(9, 13)]), (15, [(10, 14)]), (16, []), (17, [(12, 16)]), (18, [(13, 17)]), (19, []), (20, [(15, 19)]), (21, [(16, 20)]), (22, []), (23, [(18, 22)]), (24, [(19, 23)])]
    [Is ?v0, Is ?v1, PartK (textB x.chain), Is ?v3, Is ?v4, PartK (varB x.height.toNat), Is ?v6, Is ?v7, PartK (varB x.time.toNat), Is ?v9, Is ?v10, PartK (hpart x.hh 0), Is ?v12, Is ?v13, PartK (hpart x.hh 1), Is ?v15, Is ?v16, PartK (hpart x.hh 2), Is ?v18, Is ?v19, PartK (hpart x.hh 3)]
    (by kernel_rfl) (by kernel_rfl) (by rfl) ?st ?steps ?fin
  case st => exact ⟨Is.steady _, Is.steady _, PartK.steady _, Is.steady _, Is.steady _, PartK.steady _, Is.steady _, Is.steady _, PartK.steady _, Is.steady _, Is.steady _, PartK.steady _, Is.steady _, Is.steady _, PartK.steady _, Is.steady _, Is.steady _, PartK.steady _, Is.steady _, Is.steady _, PartK.steady _, trivial⟩
  case steps =>
    refine FreeSteps.cons (fun w2 hw2 => ?_) ?_
    · (refine FreeStep.det rfl rfl rfl (by rfl) rfl rfl ?_; (try simp only [Act.put, List.setIfInBounds_toArray, List.set_cons_zero, List.set_cons_succ]); go_simp; (try with_reducible rfl))
    refine FreeSteps.cons (fun w2 hw2 => FreeStep.is rfl ?_) ?_
    · have c : w2.cell? ⟨g, 0, none⟩ = some (.string x.chain) := ((hb.below hw2 hb.lt).cell 0)
      (refine FreeStep.det rfl rfl rfl (by rfl) rfl rfl ?_; (try simp only [Act.put, List.setIfInBounds_toArray, List.set_cons_zero, List.set_cons_succ]); go_simp; (try with_reducible rfl))
    refine FreeSteps.cons (fun w2 hw2 => FreeStep.is rfl ?_) ?_
    · refine FreeStep.call rfl rfl rfl (by rfl) rfl rfl (by (try simp only [Act.put, List.setIfInBounds_toArray, List.set_cons_zero, List.set_cons_succ]); go_simp; (try with_reducible rfl)) (rText_any w2 _ n_chain) ?_
      rintro e w3 ⟨v, rfl, hv, hb3⟩; exact ⟨v, rfl, hb3, hv.part⟩
    refine FreeSteps.cons (fun w2 hw2 => ?_) ?_
    · (refine FreeStep.det rfl rfl rfl (by rfl) rfl rfl ?_; (try simp only [Act.put, List.setIfInBounds_toArray, List.set_cons_zero, List.set_cons_succ]); go_simp; (try with_reducible rfl))
    refine FreeSteps.cons (fun w2 hw2 => FreeStep.is rfl ?_) ?_
    · have c : w2.cell? ⟨g, 1, none⟩ = some (.int .u64 x.height) := ((hb.below hw2 hb.lt).cell 1)
      (refine FreeStep.det rfl rfl rfl (by rfl) rfl rfl ?_; (try simp only [Act.put, List.setIfInBounds_toArray, List.set_cons_zero, List.set_cons_succ]); go_simp; (try with_reducible rfl))
    refine FreeSteps.cons (fun w2 hw2 => FreeStep.is rfl ?_) ?_
    · refine FreeStep.call rfl rfl rfl (by rfl) rfl rfl (by (try simp only [Act.put, List.setIfInBounds_toArray, List.set_cons_zero, List.set_cons_succ]); go_simp; (try with_reducible rfl)) (rNum_any w2 _ n_height.1 n_height.2) ?_
      rintro e w3 ⟨v, rfl, hv, hb3⟩; exact ⟨v, rfl, hb3, hv.part⟩
    refine FreeSteps.cons (fun w2 hw2 => ?_) ?_
    · (refine FreeStep.det rfl rfl rfl (by rfl) rfl rfl ?_; (try simp only [Act.put, List.setIfInBounds_toArray, List.set_cons_zero, List.set_cons_succ]); go_simp; (try with_reducible rfl))
    refine FreeSteps.cons (fun w2 hw2 => FreeStep.is rfl ?_) ?_
    · have c : w2.cell? ⟨g, 2, none⟩ = some (.int .u64 x.time) := ((hb.below hw2 hb.lt).cell 2)
      (refine FreeStep.det rfl rfl rfl (by rfl) rfl rfl ?_; (try simp only [Act.put, List.setIfInBounds_toArray, List.set_cons_zero, List.set_cons_succ]); go_simp; (try with_reducible rfl))
    refine FreeSteps.cons (fun w2 hw2 => FreeStep.is rfl ?_) ?_
    · refine FreeStep.call rfl rfl rfl (by rfl) rfl rfl (by (try simp only [Act.put, List.setIfInBounds_toArray, List.set_cons_zero, List.set_cons_succ]); go_simp; (try with_reducible rfl)) (rNum_any w2 _ n_time.1 n_time.2) ?_
      rintro e w3 ⟨v, rfl, hv, hb3⟩; exact ⟨v, rfl, hb3, hv.part⟩
    refine FreeSteps.cons (fun w2 hw2 => ?_) ?_
    · (refine FreeStep.det rfl rfl rfl (by rfl) rfl rfl ?_; (try simp only [Act.put, List.setIfInBounds_toArray, List.set_cons_zero, List.set_cons_succ]); go_simp; (try with_reducible rfl))
    refine FreeSteps.cons (fun w2 hw2 => FreeStep.is rfl ?_) ?_
    · refine FreeStep.load_part 29 _ rfl rfl rfl rfl (by rfl) rfl rfl g (3 + 32 * 0) 32 rfl _ _ _ (hb.below hw2 hb.lt) Tryd.underlying29 rfl info_hash (by have := hlen.out; simp [this]) _ (x.cl_hh HX.out 0 (by omega)) ?_
      with_reducible rfl
    refine FreeSteps.cons (fun w2 hw2 => FreeStep.is rfl ?_) ?_
    · refine FreeStep.call rfl rfl rfl (by rfl) rfl rfl (by (try simp only [Act.put, List.setIfInBounds_toArray, List.set_cons_zero, List.set_cons_succ]); go_simp; (try with_reducible rfl)) (rHash_any w2 (hpart x.hh 0) (hpart_len HX.out.hh (by omega))) ?_
      rintro e w3 ⟨v, rfl, hv, hb3⟩; exact ⟨v, rfl, hb3, hv.part⟩
    refine FreeSteps.cons (fun w2 hw2 => ?_) ?_
    · (refine FreeStep.det rfl rfl rfl (by rfl) rfl rfl ?_; (try simp only [Act.put, List.setIfInBounds_toArray, List.set_cons_zero, List.set_cons_succ]); go_simp; (try with_reducible rfl))
    refine FreeSteps.cons (fun w2 hw2 => FreeStep.is rfl ?_) ?_
    · refine FreeStep.load_part 29 _ rfl rfl rfl rfl (by rfl) rfl rfl g (3 + 32 * 1) 32 rfl _ _ _ (hb.below hw2 hb.lt) Tryd.underlying29 rfl info_hash (by have := hlen.out; simp [this]) _ (x.cl_hh HX.out 1 (by omega)) ?_
      with_reducible rfl
    refine FreeSteps.cons (fun w2 hw2 => FreeStep.is rfl ?_) ?_
    · refine FreeStep.call rfl rfl rfl (by rfl) rfl rfl (by (try simp only [Act.put, List.setIfInBounds_toArray, List.set_cons_zero, List.set_cons_succ]); go_simp; (try with_reducible rfl)) (rHash_any w2 (hpart x.hh 1) (hpart_len HX.out.hh (by omega))) ?_
      rintro e w3 ⟨v, rfl, hv, hb3⟩; exact ⟨v, rfl, hb3, hv.part⟩
    refine FreeSteps.cons (fun w2 hw2 => ?_) ?_
    · (refine FreeStep.det rfl rfl rfl (by rfl) rfl rfl ?_; (try simp only [Act.put, List.setIfInBounds_toArray, List.set_cons_zero, List.set_cons_succ]); go_simp; (try with_reducible rfl))
    refine FreeSteps.cons (fun w2 hw2 => FreeStep.is rfl ?_) ?_
    · refine FreeStep.load_part 29 _ rfl rfl rfl rfl (by rfl) rfl rfl g (3 + 32 * 2) 32 rfl _ _ _ (hb.below hw2 hb.lt) Tryd.underlying29 rfl info_hash (by have := hlen.out; simp [this]) _ (x.cl_hh HX.out 2 (by omega)) ?_
      with_reducible rfl
    refine FreeSteps.cons (fun w2 hw2 => FreeStep.is rfl ?_) ?_
    · refine FreeStep.call rfl rfl rfl (by rfl) rfl rfl (by (try simp only [Act.put, List.setIfInBounds_toArray, List.set_cons_zero, List.set_cons_succ]); go_simp; (try with_reducible rfl)) (rHash_any w2 (hpart x.hh 2) (hpart_len HX.out.hh (by omega))) ?_
      rintro e w3 ⟨v, rfl, hv, hb3⟩; exact ⟨v, rfl, hb3, hv.part⟩
    refine FreeSteps.cons (fun w2 hw2 => ?_) ?_
    · (refine FreeStep.det rfl rfl rfl (by rfl) rfl rfl ?_; (try simp only [Act.put, List.setIfInBounds_toArray, List.set_cons_zero, List.set_cons_succ]); go_simp; (try with_reducible rfl))
    refine FreeSteps.cons (fun w2 hw2 => FreeStep.is rfl ?_) ?_
    · refine FreeStep.load_part 29 _ rfl rfl rfl rfl (by rfl) rfl rfl g (3 + 32 * 3) 32 rfl _ _ _ (hb.below hw2 hb.lt) Tryd.underlying29 rfl info_hash (by have := hlen.out; simp [this]) _ (x.cl_hh HX.out 3 (by omega)) ?_
      with_reducible rfl
    refine FreeSteps.cons (fun w2 hw2 => FreeStep.is rfl ?_) ?_
    · refine FreeStep.call rfl rfl rfl (by rfl) rfl rfl (by (try simp only [Act.put, List.setIfInBounds_toArray, List.set_cons_zero, List.set_cons_succ]); go_simp; (try with_reducible rfl)) (rHash_any w2 (hpart x.hh 3) (hpart_len HX.out.hh (by omega))) ?_
      rintro e w3 ⟨v, rfl, hv, hb3⟩; exact ⟨v, rfl, hb3, hv.part⟩
    exact FreeSteps.nil
  case fin =>
    intro w2 hw2
    refine FreeEnd.is rfl ?_
    refine FreeEnd.is rfl ?_
    refine FreeEnd.cons rfl fun v hv => ?_
    obtain ⟨A6, c6, rfl, r6⟩ := hv
    refine FreeEnd.is rfl ?_
    refine FreeEnd.is rfl ?_
    refine FreeEnd.cons rfl fun v hv => ?_
    obtain ⟨A9, c9, rfl, r9⟩ := hv
    refine FreeEnd.is rfl ?_
    refine FreeEnd.is rfl ?_
    refine FreeEnd.cons rfl fun v hv => ?_
    obtain ⟨A12, c12, rfl, r12⟩ := hv
    refine FreeEnd.is rfl ?_
    refine FreeEnd.is rfl ?_
    refine FreeEnd.cons rfl fun v hv => ?_
    obtain ⟨A15, c15, rfl, r15⟩ := hv
    refine FreeEnd.is rfl ?_
    refine FreeEnd.is rfl ?_
    refine FreeEnd.cons rfl fun v hv => ?_
    obtain ⟨A18, c18, rfl, r18⟩ := hv
    refine FreeEnd.is rfl ?_
    refine FreeEnd.is rfl ?_
    refine FreeEnd.cons rfl fun v hv => ?_
    obtain ⟨A21, c21, rfl, r21⟩ := hv
    refine FreeEnd.is rfl ?_
    refine FreeEnd.is rfl ?_
    refine FreeEnd.cons rfl fun v hv => ?_
    obtain ⟨A24, c24, rfl, r24⟩ := hv
    refine FreeEnd.nil ?_
    (try simp only [Act.put, List.setIfInBounds_toArray, List.set_cons_zero, List.set_cons_succ])
    simp only [List.length_cons, List.length_nil, Nat.reduceAdd, List.drop_succ_cons, List.drop_zero]
    have hj : joined [(Value.slice A6 (textB x.chain).length c6, textB x.chain), (Value.slice A9 (varB x.height.toNat).length c9, varB x.height.toNat), (Value.slice A12 (varB x.time.toNat).length c12, varB x.time.toNat), (Value.slice A15 (hpart x.hh 0).length c15, hpart x.hh 0), (Value.slice A18 (hpart x.hh 1).length c18, hpart x.hh 1), (Value.slice A21 (hpart x.hh 2).length c21, hpart x.hh 2), (Value.slice A24 (hpart x.hh 3).length c24, hpart x.hh 3)] = hdrA x := by
      simp only [joined, hdrA, hdrB', List.flatMap_cons, List.flatMap_nil, List.append_nil, List.append_assoc]
    have hpp : Parts (w2.alloc (.cells #[Value.slice A6 (textB x.chain).length c6, Value.slice A9 (varB x.height.toNat).length c9, Value.slice A12 (varB x.time.toNat).length c12, Value.slice A15 (hpart x.hh 0).length c15, Value.slice A18 (hpart x.hh 1).length c18, Value.slice A21 (hpart x.hh 2).length c21, Value.slice A24 (hpart x.hh 3).length c24] 57)) [(Value.slice A6 (textB x.chain).length c6, textB x.chain), (Value.slice A9 (varB x.height.toNat).length c9, varB x.height.toNat), (Value.slice A12 (varB x.time.toNat).length c12, varB x.time.toNat), (Value.slice A15 (hpart x.hh 0).length c15, hpart x.hh 0), (Value.slice A18 (hpart x.hh 1).length c18, hpart x.hh 1), (Value.slice A21 (hpart x.hh 2).length c21, hpart x.hh 2), (Value.slice A24 (hpart x.hh 3).length c24, hpart x.hh 3)] := by
      intro p hp
      simp only [List.mem_cons, List.not_mem_nil, or_false] at hp
      rcases hp with rfl | rfl | rfl | rfl | rfl | rfl | rfl
      · exact Part.below ⟨A6, c6, rfl, r6⟩ ((Below.refl _ _).alloc (Nat.le_refl _) _)
      · exact Part.below ⟨A9, c9, rfl, r9⟩ ((Below.refl _ _).alloc (Nat.le_refl _) _)
      · exact Part.below ⟨A12, c12, rfl, r12⟩ ((Below.refl _ _).alloc (Nat.le_refl _) _)
      · exact Part.below ⟨A15, c15, rfl, r15⟩ ((Below.refl _ _).alloc (Nat.le_refl _) _)
      · exact Part.below ⟨A18, c18, rfl, r18⟩ ((Below.refl _ _).alloc (Nat.le_refl _) _)
      · exact Part.below ⟨A21, c21, rfl, r21⟩ ((Below.refl _ _).alloc (Nat.le_refl _) _)
      · exact Part.below ⟨A24, c24, rfl, r24⟩ ((Below.refl _ _).alloc (Nat.le_refl _) _)
    have hrr : Rd (w2.alloc (.cells #[Value.slice A6 (textB x.chain).length c6, Value.slice A9 (varB x.height.toNat).length c9, Value.slice A12 (varB x.time.toNat).length c12, Value.slice A15 (hpart x.hh 0).length c15, Value.slice A18 (hpart x.hh 1).length c18, Value.slice A21 (hpart x.hh 2).length c21, Value.slice A24 (hpart x.hh 3).length c24] 57)) (some ⟨w2.heap.size, 0, none⟩) ([(Value.slice A6 (textB x.chain).length c6, textB x.chain), (Value.slice A9 (varB x.height.toNat).length c9, varB x.height.toNat), (Value.slice A12 (varB x.time.toNat).length c12, varB x.time.toNat), (Value.slice A15 (hpart x.hh 0).length c15, hpart x.hh 0), (Value.slice A18 (hpart x.hh 1).length c18, hpart x.hh 1), (Value.slice A21 (hpart x.hh 2).length c21, hpart x.hh 2), (Value.slice A24 (hpart x.hh 3).length c24, hpart x.hh 3)].map (·.1)) := Rd.of_bk (Bk.new _ _ _) 0 _ (fun j u hu => by simpa using hu)
    go_wp2_with (go_at_call 54; go_must (refine (join_any _ _ 7 7 _ hrr rfl hpp (by rw [hj]; exact HLA) (by omega)).mono ?_); rintro e w3 ⟨v, rfl, hv, hb3⟩; go_wp2_with fail)
    rw [hj] at hv
    obtain ⟨A3, c3, rfl⟩ := hv.form
    have hs3 : w.heap.size ≤ w2.heap.size := Nat.le_trans hbl.size hw2.size
    have hB3 : Below w.heap.size w w3 := ((hbl.drew.trans (hw2.mono hbl.size)).alloc hs3 _).trans (hb3.mono (by simp; omega))
    have hk3' : Bk w3 g x.cl.toArray _ := ((hb.below hw2 hb.lt).below ((Below.refl _ _).alloc (Nat.le_refl _) _) (hb.below hw2 hb.lt).lt).below hb3 (((hb.below hw2 hb.lt).below ((Below.refl _ _).alloc (Nat.le_refl _) _) (hb.below hw2 hb.lt).lt)).lt
    have hk3 : Bk w3.drew g x.cl.toArray _ := hk3'.drew
    have HV3 := Lib.hid hv
    have HB3 := Lib.hid hB3
    clear hv hB3 hk3' hb3 hj hpp hrr hw2 hb hb0 hbl
    go_wp2_with fail
    refine wp_region_free [(27, []), (28, []), (29, [(1, 28)]), (30, [(2, 29)]), (31, []), (32, [(4, 31)]), (33, [(5, 32)]), (34, []), (35, [(7, 34)]), (36, [(8, 35)]), (37, []), (38, [(10, 37)]), (39, [(11, 38)])]
      [Is ?u0, Is ?u1, Is ?u2, PartK (hpart x.hh 4), Is ?u4, Is ?u5, PartK (hpart x.hh 5), Is ?u7, Is ?u8, PartK (hpart x.hh 6), Is ?u10, Is ?u11, PartK (varB x.prop.toNat)]
      (by kernel_rfl) (by kernel_rfl) (by rfl) ?st ?steps ?fin
    case st => exact ⟨Is.steady _, Is.steady _, Is.steady _, PartK.steady _, Is.steady _, Is.steady _, PartK.steady _, Is.steady _, Is.steady _, PartK.steady _, Is.steady _, Is.steady _, PartK.steady _, trivial⟩
    case steps =>
      refine FreeSteps.cons (fun w2 hw2 => ?_) ?_
      · (refine FreeStep.det rfl rfl rfl (by rfl) rfl rfl ?_; (try simp only [Act.put, List.setIfInBounds_toArray, List.set_cons_zero, List.set_cons_succ]); go_simp; (try with_reducible rfl))
      refine FreeSteps.cons (fun w2 hw2 => ?_) ?_
      · (refine FreeStep.det rfl rfl rfl (by rfl) rfl rfl ?_; (try simp only [Act.put, List.setIfInBounds_toArray, List.set_cons_zero, List.set_cons_succ]); go_simp; (try with_reducible rfl))
      refine FreeSteps.cons (fun w2 hw2 => FreeStep.is rfl ?_) ?_
      · refine FreeStep.load_part 29 _ rfl rfl rfl rfl (by rfl) rfl rfl g (3 + 32 * 4) 32 rfl _ _ _ (hk3.below hw2 hk3.lt) Tryd.underlying29 rfl info_hash (by have := hlen.out; simp [this]) _ (x.cl_hh HX.out 4 (by omega)) ?_
        with_reducible rfl
      refine FreeSteps.cons (fun w2 hw2 => FreeStep.is rfl ?_) ?_
      · refine FreeStep.call rfl rfl rfl (by rfl) rfl rfl (by (try simp only [Act.put, List.setIfInBounds_toArray, List.set_cons_zero, List.set_cons_succ]); go_simp; (try with_reducible rfl)) (rHash_any w2 (hpart x.hh 4) (hpart_len HX.out.hh (by omega))) ?_
        rintro e w3 ⟨v, rfl, hv, hb3⟩; exact ⟨v, rfl, hb3, hv.part⟩
      refine FreeSteps.cons (fun w2 hw2 => ?_) ?_
      · (refine FreeStep.det rfl rfl rfl (by rfl) rfl rfl ?_; (try simp only [Act.put, List.setIfInBounds_toArray, List.set_cons_zero, List.set_cons_succ]); go_simp; (try with_reducible rfl))
      refine FreeSteps.cons (fun w2 hw2 => FreeStep.is rfl ?_) ?_
      · refine FreeStep.load_part 29 _ rfl rfl rfl rfl (by rfl) rfl rfl g (3 + 32 * 5) 32 rfl _ _ _ (hk3.below hw2 hk3.lt) Tryd.underlying29 rfl info_hash (by have := hlen.out; simp [this]) _ (x.cl_hh HX.out 5 (by omega)) ?_
        with_reducible rfl
      refine FreeSteps.cons (fun w2 hw2 => FreeStep.is rfl ?_) ?_
      · refine FreeStep.call rfl rfl rfl (by rfl) rfl rfl (by (try simp only [Act.put, List.setIfInBounds_toArray, List.set_cons_zero, List.set_cons_succ]); go_simp; (try with_reducible rfl)) (rHash_any w2 (hpart x.hh 5) (hpart_len HX.out.hh (by omega))) ?_
        rintro e w3 ⟨v, rfl, hv, hb3⟩; exact ⟨v, rfl, hb3, hv.part⟩
      refine FreeSteps.cons (fun w2 hw2 => ?_) ?_
      · (refine FreeStep.det rfl rfl rfl (by rfl) rfl rfl ?_; (try simp only [Act.put, List.setIfInBounds_toArray, List.set_cons_zero, List.set_cons_succ]); go_simp; (try with_reducible rfl))
      refine FreeSteps.cons (fun w2 hw2 => FreeStep.is rfl ?_) ?_
      · refine FreeStep.load_part 29 _ rfl rfl rfl rfl (by rfl) rfl rfl g (3 + 32 * 6) 32 rfl _ _ _ (hk3.below hw2 hk3.lt) Tryd.underlying29 rfl info_hash (by have := hlen.out; simp [this]) _ (x.cl_hh HX.out 6 (by omega)) ?_
        with_reducible rfl
      refine FreeSteps.cons (fun w2 hw2 => FreeStep.is rfl ?_) ?_
      · refine FreeStep.call rfl rfl rfl (by rfl) rfl rfl (by (try simp only [Act.put, List.setIfInBounds_toArray, List.set_cons_zero, List.set_cons_succ]); go_simp; (try with_reducible rfl)) (rHash_any w2 (hpart x.hh 6) (hpart_len HX.out.hh (by omega))) ?_
        rintro e w3 ⟨v, rfl, hv, hb3⟩; exact ⟨v, rfl, hb3, hv.part⟩
      refine FreeSteps.cons (fun w2 hw2 => ?_) ?_
      · (refine FreeStep.det rfl rfl rfl (by rfl) rfl rfl ?_; (try simp only [Act.put, List.setIfInBounds_toArray, List.set_cons_zero, List.set_cons_succ]); go_simp; (try with_reducible rfl))
      refine FreeSteps.cons (fun w2 hw2 => FreeStep.is rfl ?_) ?_
      · have c : w2.cell? ⟨g, 227, none⟩ = some (.int .u64 x.prop) := ((hk3.below hw2 hk3.lt).cell 227).trans (x.cl_prop HX.out)
        (refine FreeStep.det rfl rfl rfl (by rfl) rfl rfl ?_; (try simp only [Act.put, List.setIfInBounds_toArray, List.set_cons_zero, List.set_cons_succ]); go_simp; (try with_reducible rfl))
      refine FreeSteps.cons (fun w2 hw2 => FreeStep.is rfl ?_) ?_
      · refine FreeStep.call rfl rfl rfl (by rfl) rfl rfl (by (try simp only [Act.put, List.setIfInBounds_toArray, List.set_cons_zero, List.set_cons_succ]); go_simp; (try with_reducible rfl)) (rNum_any w2 _ n_prop.1 n_prop.2) ?_
        rintro e w3 ⟨v, rfl, hv, hb3⟩; exact ⟨v, rfl, hb3, hv.part⟩
      exact FreeSteps.nil
    case fin =>
      intro w2 hw2
      refine FreeEnd.is rfl ?_
      refine FreeEnd.is rfl ?_
      refine FreeEnd.is rfl ?_
      refine FreeEnd.cons rfl fun v hv => ?_
      obtain ⟨A30, c30, rfl, r30⟩ := hv
      refine FreeEnd.is rfl ?_
      refine FreeEnd.is rfl ?_
      refine FreeEnd.cons rfl fun v hv => ?_
      obtain ⟨A33, c33, rfl, r33⟩ := hv
      refine FreeEnd.is rfl ?_
      refine FreeEnd.is rfl ?_
      refine FreeEnd.cons rfl fun v hv => ?_
      obtain ⟨A36, c36, rfl, r36⟩ := hv
      refine FreeEnd.is rfl ?_
      refine FreeEnd.is rfl ?_
      refine FreeEnd.cons rfl fun v hv => ?_
      obtain ⟨A39, c39, rfl, r39⟩ := hv
      refine FreeEnd.nil ?_
      (try simp only [Act.put, List.setIfInBounds_toArray, List.set_cons_zero, List.set_cons_succ])
      simp only [List.length_cons, List.length_nil, Nat.reduceAdd, List.drop_succ_cons, List.drop_zero]
      have r3 := (HV3.out.rd.below ((Below.refl _ _).drew)).below hw2
      have hj : joined [(Value.slice A3 (hdrA x).length c3, hdrA x), (Value.slice A30 (hpart x.hh 4).length c30, hpart x.hh 4), (Value.slice A33 (hpart x.hh 5).length c33, hpart x.hh 5), (Value.slice A36 (hpart x.hh 6).length c36, hpart x.hh 6), (Value.slice A39 (varB x.prop.toNat).length c39, varB x.prop.toNat)] = hdrB' x := by
        simp only [joined, hdrA, hdrB', List.flatMap_cons, List.flatMap_nil, List.append_nil, List.append_assoc]
      have hpp : Parts (w2.alloc (.cells #[Value.slice A3 (hdrA x).length c3, Value.slice A30 (hpart x.hh 4).length c30, Value.slice A33 (hpart x.hh 5).length c33, Value.slice A36 (hpart x.hh 6).length c36, Value.slice A39 (varB x.prop.toNat).length c39] 57)) [(Value.slice A3 (hdrA x).length c3, hdrA x), (Value.slice A30 (hpart x.hh 4).length c30, hpart x.hh 4), (Value.slice A33 (hpart x.hh 5).length c33, hpart x.hh 5), (Value.slice A36 (hpart x.hh 6).length c36, hpart x.hh 6), (Value.slice A39 (varB x.prop.toNat).length c39, varB x.prop.toNat)] := by
        intro p hp
        simp only [List.mem_cons, List.not_mem_nil, or_false] at hp
        rcases hp with rfl | rfl | rfl | rfl | rfl
        · exact Part.below ⟨A3, c3, rfl, r3⟩ ((Below.refl _ _).alloc (Nat.le_refl _) _)
        · exact Part.below ⟨A30, c30, rfl, r30⟩ ((Below.refl _ _).alloc (Nat.le_refl _) _)
        · exact Part.below ⟨A33, c33, rfl, r33⟩ ((Below.refl _ _).alloc (Nat.le_refl _) _)
        · exact Part.below ⟨A36, c36, rfl, r36⟩ ((Below.refl _ _).alloc (Nat.le_refl _) _)
        · exact Part.below ⟨A39, c39, rfl, r39⟩ ((Below.refl _ _).alloc (Nat.le_refl _) _)
      have hrr : Rd (w2.alloc (.cells #[Value.slice A3 (hdrA x).length c3, Value.slice A30 (hpart x.hh 4).length c30, Value.slice A33 (hpart x.hh 5).length c33, Value.slice A36 (hpart x.hh 6).length c36, Value.slice A39 (varB x.prop.toNat).length c39] 57)) (some ⟨w2.heap.size, 0, none⟩) ([(Value.slice A3 (hdrA x).length c3, hdrA x), (Value.slice A30 (hpart x.hh 4).length c30, hpart x.hh 4), (Value.slice A33 (hpart x.hh 5).length c33, hpart x.hh 5), (Value.slice A36 (hpart x.hh 6).length c36, hpart x.hh 6), (Value.slice A39 (varB x.prop.toNat).length c39, varB x.prop.toNat)].map (·.1)) := Rd.of_bk (Bk.new _ _ _) 0 _ (fun j u hu => by simpa using hu)
      go_wp2_with (go_at_call 54; go_must (refine (join_any _ _ 5 5 _ hrr rfl hpp (by rw [hj]; exact HLB) (by omega)).mono ?_); rintro e w3 ⟨v, rfl, hv, hb3⟩; go_wp2_with fail)
      go_ret
      rw [hj] at hv
      have hs4 : w.heap.size ≤ w2.heap.size := Nat.le_trans HB3.out.size hw2.size
      exact ⟨_, rfl, hv.mono (by simp; omega), ((HB3.out.drew.trans (hw2.mono HB3.out.size)).alloc hs4 _).trans (hb3.mono (by simp; omega))⟩
theorem hdrB_enc (x : Hdr) (hx : x.ok) : hdrB' x = encHdr x := by
  have e := hh_bytes x.hh hx.hh
  unfold hdrB' hdrA encHdr textB
  conv => rhs; rw [e]
  simp only [List.append_assoc]
theorem rHdr_any (w : World) (x : Hdr) (hx : x.ok) (hp : HdrB x) :
    Calls Tryd.prog 28 #[.agg x.cl.toArray] w fun e w' => ∃ v, e = .returned v ∧ Bs w' w.heap.size v (encHdr x) ∧ Below w.heap.size w w' := by
  rw [← hdrB_enc x hx]
  exact rHeader_any w x hx hp
end Go.Proofs.YtjdegphpalhapaaDoor

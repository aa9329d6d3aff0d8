/-
  The reference's digest of no bytes. Condition: the table reads as it was laid.
  The reference's texts under a digest, and its digests of an item and of two beside one another. Conditions: the item lies in memory; the table reads as it was laid.
-/
import Derived.Test.YtjdegphpalhapaaDoorKSha10
import Derived.Test.YtjdegphpalhapaaDoorK26
namespace Go.Proofs.YtjdegphpalhapaaDoor
set_option linter.unusedSimpArgs false
set_option linter.unusedVariables false
open Go.RowKit
set_option maxRecDepth 100000
set_option maxHeartbeats 4000000 in
theorem rSum_none (w : World) (n cp : Nat) (b : List UInt8) (hn : b.length = n) (hn0 : n = 0) (hcp : cp = 0) (hb : n + 200 ≤ room46) (ha : Adds w 0) (hG : 0 < w.heap.size) :
    Calls Tryd.prog 25 #[.slice none n cp] w fun e w' => e = .returned (.agg (bv (sha b)).toArray) ∧ Below w.heap.size w w' := by
  have HN := Lib.hid hn
  have HN0 := Lib.hid hn0
  have HCP := Lib.hid hcp
  have HA := Lib.hid ha
  unfold room46 at hb
  clear hn ha hn0 hcp
  go_enter Tryd.func25, Tryd.ntmps25
  go_wp2_with (with_reducible show wpList _ _ _ (Oper.mk _ (Op.alloc _) _ _ _ _ :: _) _ _; refine wpList_alloc_i rfl 29 rfl (.agg (bv (zer 32)).toArray) zero_hash ?_)
  intro r w1 h1 hl1 hg1 hs1
  go_wp2_with (first
    | (with_reducible show wpList _ _ _ (Oper.mk _ (Op.build _ _) _ _ _ _ :: _) _ _; go_must (refine wpList_buildv rfl 96 [(0, .const (.int .u32 1779033703)), (1, .const (.int .u32 3144134277)), (2, .const (.int .u32 1013904242)), (3, .const (.int .u32 2773480762)), (4, .const (.int .u32 1359893119)), (5, .const (.int .u32 2600822924)), (6, .const (.int .u32 528734635)), (7, .const (.int .u32 1541459225))] rfl [(0, .int .u32 1779033703), (1, .int .u32 3144134277), (2, .int .u32 1013904242), (3, .int .u32 2773480762), (4, .int .u32 1359893119), (5, .int .u32 2600822924), (6, .int .u32 528734635), (7, .int .u32 1541459225)] rfl _ built_w8 ?_))
    | (with_reducible show wpList _ _ _ (Oper.mk _ (Op.alloc _) _ _ _ _ :: _) _ _; refine wpList_alloc_i rfl 96 rfl (.agg (zerosU 8).toArray) zero_w8 ?_))
  intro bh w2 h2 hl2 hg2 hs2
  go_wp2_with (with_reducible show wpList _ _ _ (Oper.mk _ (Op.store 96 _ _) _ _ _ _ :: _) _ _; go_must (refine wpList_store_bk rfl 96 _ _ rfl bh rfl (.agg (uv begin256.list).toArray) rfl _ _ h2 (by rw [size_state]; exact info_w8) (by rw [size_state]; simp [zerosU]) (uv_one _) ?_))
  intro w3 h3 hg3 hs3
  have HX := Lib.hid (show Rx w w3 r bh begin256 from by
    have z1 := hl1.size
    have z2 := hl2.size
    exact ⟨(h1.below hl2 h1.lt).grown hg3 (by intro e; injection e with e; omega), h3, ((HA.out.below hl1 hG).below hl2 (by omega)).grown hg3 (by omega) (by omega), (hl1.trans (hl2.mono z1)).trans ⟨hg3.os, hg3.tape, hg3.output, hg3.size, fun k hk => hg3.block k (by omega) (fun e => by injection e with e; omega)⟩, by omega⟩)
  clear h1 hl1 hg1 hs1 h2 hl2 hg2 hs2 h3 hg3 hs3 HA
  go_wp2
  go_loopw [4] (fun i wr => ∃ k : Nat, 64 * k ≤ n ∧ i = .int .i64 (64 * (k : Int)) ∧ Rx w wr r bh (eat comp begin256 (b.take (64 * k)))) (fun i _ => n - (intOf i).toNat)
  case atStart => exact ⟨0, by omega, rfl, by rw [Nat.mul_zero, List.take_zero, eat_short (by simp)]; exact HX.out⟩
  case round =>
    clear HX
    obtain ⟨k, hk, rfl, X⟩ := hrel
    obtain ⟨s, hs⟩ : ∃ s, eat comp begin256 (b.take (64 * k)) = s := ⟨_, rfl⟩
    rw [hs] at X
    have HSS := Lib.hid hs
    have HX := Lib.hid X
    clear hs X
    by_cases hlt : 64 * k + 64 ≤ n
    · have := HN0.out; omega
    · have hj : n < 64 * k + 64 := by omega
      have j1 : (n : Int) < 64 * (k : Int) + 64 := by omega
      have j2 : IntKind.i64.wrap (64 * (k : Int) + 64) = 64 * (k : Int) + 64 := by rw [IntKind.wrap_i64]; omega
      have j3 : (64 * (k : Int)).toNat = 64 * k := by omega
      have j4 : (0 : Int) ≤ 64 * (k : Int) := by omega
      have j5 : 64 * (k : Int) ≤ n := by omega
      clear hlt
      go_upto_region 7 with fail
      go_cut [5] (fun v5 wx => Rx w wx r bh s ∧ Bs wx w.heap.size v5 (b.drop (64 * k)))
      case first =>
        have hdl : (b.drop (64 * k)).length = n - 64 * k := by rw [List.length_drop, HN.out]
        have hn0 := HN0.out
        have hcp := HCP.out
        have hk0 : k = 0 := by omega
        subst hk0 hn0 hcp
        have hc2 : b.drop (64 * 0) = [] := List.drop_eq_nil_of_le (by rw [HN.out]; omega)
        have HC2 := Lib.hid hc2
        have HDL := Lib.hid hdl
        clear hc2 hdl
        go_wp2_with (at_builtin; go_must (refine wpList_app rfl _ _ rfl w.heap.size _ [] rfl (Bs.nil _ _) none 0 0 (b.drop (64 * 0)) rfl (by rw [HDL.out]) (by rw [HC2.out]; exact Rd.nil _ _) (by rw [HDL.out]; unfold reach47; simp) HX.out.be.size ?_); intro A' c' w1 hown1 hg1 hat1)
        go_meet
        exact ⟨HX.out.row hg1 (Bs.nil _ _) hG, by have h9 := hown1; simp only [List.nil_append, List.length_nil, Nat.zero_add] at h9; exact h9⟩
      case rest =>
        obtain ⟨X5, own5⟩ := hcut
        have hrest : b.drop (64 * k) = rest b := by unfold rest; rw [HN.out, show 64 * (n / 64) = 64 * k by omega]
        have hse : eat comp begin256 b = s := by
          rw [← HSS.out, ← eat_full]
          congr 1
          unfold full
          rw [HN.out, show 64 * (n / 64) = 64 * k by omega]
        rw [hrest] at own5
        obtain ⟨A5, c5, rfl⟩ := own5.form
        obtain ⟨m5, hm5⟩ : ∃ m, (rest b).length = m := ⟨_, rfl⟩
        have hm6 : m5 = n % 64 := by rw [← hm5, rest_len, HN.out]
        have HM6 := Lib.hid hm6
        have HM5 := Lib.hid hm5
        have HSE := Lib.hid hse
        have HX5 := Lib.hid X5
        rw [hm5] at own5
        have HO5 := Lib.hid own5
        have hm64 : m5 < 64 := by omega
        rw [hm5]
        clear HX HSS hrest hse own5 X5 hm5 hm6 j1 j2 j3 j4 j5
        go_upto_region 8 with fail
        have hr8 := rd_lit wc #[.int .u8 128] [128] rfl
        go_wp2_with (at_builtin; go_must (refine wpList_app rfl _ _ rfl w.heap.size _ (rest b) rfl (Bs.alloc HO5.out _) _ 1 1 [128] rfl rfl hr8 (by rw [HM5.out]; unfold reach47; simp; omega) (by have := HX5.out.be.size; simp; omega) ?_); intro A6 c6 w6 own6 hg6 hat6)
        rw [HM5.out] at own6
        have HX6 := Lib.hid (Rx.row (HX5.out.below ((Below.refl _ _).alloc (Nat.le_refl _) _) hG) hg6 (Bs.alloc HO5.out _) hG)
        have HO6 := Lib.hid own6
        rw [HM5.out]
        clear own6 hg6 hat6 hr8 HX5 HO5
        go_loopw [5] (fun v wr => ∃ j : Nat, j ≤ gap n ∧ Rx w wr r bh s ∧ Bs wr w.heap.size v (rest b ++ [128] ++ zer j)) (fun v _ => match v with | .slice _ m _ => (120 - m % 64) % 64 | _ => 0)
        case atStart => exact ⟨0, by omega, HX6.out, by simpa [zer] using HO6.out⟩
        case round =>
          clear HX6 HO6
          obtain ⟨j, hj, X7, own7⟩ := hrel
          obtain ⟨A7, c7, rfl⟩ := own7.form
          have hlen : (rest b ++ [128] ++ zer j).length = m5 + 1 + j := by simp [zer, HM5.out]; omega
          have HLEN := Lib.hid hlen
          rw [hlen] at own7 ⊢
          have HX7 := Lib.hid X7
          have HO7 := Lib.hid own7
          have hg64 : gap n ≤ 64 := by unfold gap; omega
          have hmm := HM6.out
          clear X7 own7 hlen
          by_cases hlt : j < gap n
          · have hne : (m5 + 1 + j) % 64 ≠ 56 := by
              have := (gap_lt hlt).2
              omega
            obtain ⟨M, hM⟩ : ∃ M, m5 + 1 + j = M := ⟨_, rfl⟩
            have HMM := Lib.hid hM
            rw [hM] at hne HO7 ⊢
            have hMb : M < 200 := by omega
            obtain ⟨q, hq⟩ : ∃ q, M % 64 = q := ⟨_, rfl⟩
            rw [hq] at hne
            have HQ := Lib.hid hq
            have q1 : ((M : Int) % 64) = (q : Int) := by omega
            have q2 : ((q : Int) != 56) = true := by simp; omega
            have q3 : ((q : Int) == 56) = false := by simp; omega
            clear hM hq hmm
            have hr9 := rd_lit wr #[.int .u8 0] [0] rfl
            go_wp2_with (at_builtin; go_must (refine wpList_app rfl _ _ rfl w.heap.size _ (rest b ++ [128] ++ zer j) rfl (Bs.alloc HO7.out _) _ 1 1 [0] rfl rfl hr9 (by rw [HLEN.out]; unfold reach47; simp; omega) (by have := HX7.out.be.size; simp; omega) ?_); intro A8 c8 w8 own8 hg8 hat8)
            rw [HLEN.out] at own8
            have HX8 := Lib.hid (Rx.row (HX7.out.below ((Below.refl _ _).alloc (Nat.le_refl _) _) hG) hg8 (Bs.alloc HO7.out _) hG)
            have HO8 := Lib.hid own8
            have e9 : (rest b).length + ((zer j).length + 1) + 1 = M + 1 := by have := HMM.out; have := HM5.out; simp only [zer, List.length_replicate]; omega
            have e10 : rest b ++ [128] ++ zer j ++ [0] = rest b ++ [128] ++ zer (j + 1) := by
              have e11 : zer (j + 1) = zer j ++ [0] := by unfold zer; rw [List.replicate_succ']
              rw [e11, ← List.append_assoc]
            have e12 : m5 + 1 + j + 1 = M + 1 := by have := HMM.out; omega
            rw [e9]
            refine ⟨⟨j + 1, by omega, HX8.out, ?_⟩, ?_⟩
            · have h9 := HO8.out
              rw [e10, e12] at h9
              exact h9
            · show (120 - (M + 1) % 64) % 64 < (120 - M % 64) % 64
              have := HQ.out
              omega
          · have hjg : j = gap n := by omega
            subst hjg
            have h56 : (m5 + 1 + gap n) % 64 = 56 := by have := gap_fits n; omega
            obtain ⟨M, hM⟩ : ∃ M, m5 + 1 + gap n = M := ⟨_, rfl⟩
            rw [hM] at HO7 HLEN h56 ⊢
            have hMb : M < 200 := by omega
            have q1 : ((M : Int) % 64) = 56 := by omega
            obtain ⟨l3, hl3⟩ : ∃ l3, rest b ++ [128] ++ zer (gap n) = l3 := ⟨_, rfl⟩
            rw [hl3] at HO7 HLEN
            obtain ⟨tl, htl⟩ : ∃ tl, tail8 (UInt64.ofNat (n * 8)) = tl := ⟨_, rfl⟩
            have HTL := Lib.hid htl
            have HTN := Lib.hid (show tl.length = 8 by rw [← htl]; rfl)
            have HL3 := Lib.hid hl3
            have H56 := Lib.hid h56
            have e8 : IntKind.u64.wrap ((n : Int) * 8) = (n : Int) * 8 := by rw [IntKind.wrap_u64]; omega
            have e7 : IntKind.u64.wrap (n : Int) = n := by rw [IntKind.wrap_u64]; omega
            clear hlt hj hM hl3 htl h56 hmm
            go_wp2
            go_loopw [5, 7] (fun v i wr => ∃ j : Nat, j ≤ 8 ∧ i = .int .i64 (7 - (j : Int)) ∧ Rx w wr r bh s ∧ Bs wr w.heap.size v (l3 ++ tl.take j)) (fun _ i _ => (intOf i + 1).toNat)
            case atStart => exact ⟨0, by omega, rfl, HX7.out, by simpa using HO7.out⟩
            case round =>
              clear HX7 HO7 e8 e7 q1
              obtain ⟨j, hj, rfl, X7, own7⟩ := hrel
              obtain ⟨A7, c7, rfl⟩ := own7.form
              have hlen : (l3 ++ tl.take j).length = M + j := by rw [List.length_append, HLEN.out, List.length_take, HTN.out]; omega
              have HLJ := Lib.hid hlen
              rw [hlen] at own7 ⊢
              have HX7 := Lib.hid X7
              have HO7 := Lib.hid own7
              clear X7 own7 hlen
              by_cases hlt : j < 8
              · have p0 : (0 : Int) ≤ 7 - (j : Int) := by omega
                have p1 : (0 : Int) ≤ 8 * (7 - (j : Int)) := by omega
                have p2 : 8 * (7 - (j : Int)) ≤ 64 := by omega
                obtain ⟨y, hy⟩ : ∃ y, tl.getD j 0 = y := ⟨_, rfl⟩
                have hv : (n : Int) * 8 / 2 ^ (8 * (7 - j)) % 256 = (y.toNat : Int) := by
                  rw [← hy, ← HTL.out, ← tail8_int' n (by omega) j hlt, show 8 * (7 - j) = 56 - 8 * j by omega]
                have hr9 := rd_lit wr #[.int .u8 ((n : Int) * 8 / 2 ^ (8 * (7 - j)) % 256)] [y] (by rw [hv]; rfl)
                have HR9 := Lib.hid hr9
                have HTJ := Lib.hid (show tl.take (j + 1) = tl.take j ++ [y] by
                  rw [← hy, List.take_succ_eq_append_getElem (by rw [HTN.out]; exact hlt), List.getD_eq_getElem?_getD, List.getElem?_eq_getElem (by rw [HTN.out]; exact hlt)]
                  rfl)
                clear hy hv hr9
                go_wp2_with (at_builtin; go_must (refine wpList_app rfl _ _ rfl w.heap.size _ (l3 ++ tl.take j) rfl (Bs.alloc HO7.out _) _ 1 1 [y] rfl rfl HR9.out (by rw [HLJ.out]; unfold reach47; simp; omega) (by have := HX7.out.be.size; simp; omega) ?_); intro A8 c8 w8 own8 hg8 hat8)
                rw [HLJ.out] at own8
                have HX8 := Lib.hid (Rx.row (HX7.out.below ((Below.refl _ _).alloc (Nat.le_refl _) _) hG) hg8 (Bs.alloc HO7.out _) hG)
                have HO8 := Lib.hid own8
                have e9 : l3.length + min j tl.length + 1 = M + j + 1 := by
                  have h1 := HLJ.out
                  rw [List.length_append, List.length_take] at h1
                  omega
                rw [e9]
                refine ⟨⟨j + 1, by omega, by congr 1; omega, HX8.out, ?_⟩, by simp [intOf]; omega⟩
                rw [HTJ.out, ← List.append_assoc]
                exact HO8.out
              · have hj8 : j = 8 := by omega
                subst hj8
                have e4 : tl.take 8 = tl := List.take_of_length_le (by rw [HTN.out]; exact Nat.le_refl _)
                rw [e4] at HO7 HLJ
                obtain ⟨l4, hl4⟩ : ∃ l4, l3 ++ tl = l4 := ⟨_, rfl⟩
                rw [hl4] at HO7 HLJ
                have HL4 := Lib.hid hl4
                clear hlt hj e4 hl4
                have hm8 : M + 8 ≤ 300 := by omega
                have hm9 : (M + 8) % 64 = 0 := by have := H56.out; omega
                have HM9 := Lib.hid hm9
                clear hm9
                go_wp2
                go_loopw [8] (fun i wr => ∃ j : Nat, 64 * j ≤ M + 8 ∧ i = .int .i64 (64 * (j : Int)) ∧ Rx w wr r bh (eat comp s (l4.take (64 * j))) ∧ Bs wr w.heap.size (.slice A7 (M + 8) c7) l4) (fun i _ => M + 8 - (intOf i).toNat)
                case atStart => exact ⟨0, by omega, rfl, by rw [Nat.mul_zero, List.take_zero, eat_short (by simp)]; exact HX7.out, HO7.out⟩
                case round =>
                  clear HX7 HO7
                  obtain ⟨j, hj, rfl, X8, own8⟩ := hrel
                  obtain ⟨s4, hs4⟩ : ∃ s4, eat comp s (l4.take (64 * j)) = s4 := ⟨_, rfl⟩
                  rw [hs4] at X8
                  have HS4 := Lib.hid hs4
                  have HX8 := Lib.hid X8
                  have HO8 := Lib.hid own8
                  clear hs4 X8 own8
                  by_cases hlt : 64 * j < M + 8
                  · have hj64 : 64 * j + 64 ≤ M + 8 := by have := HM9.out; omega
                    have hr4 := (HO8.out).rd
                    obtain ⟨ad4, hA4, hx4⟩ := hr4.at_ (j := 0) (by rw [bv_length, HLJ.out]; omega)
                    subst hA4
                    have HR4 := Lib.hid hr4
                    clear hx4 hr4
                    obtain ⟨c0, c1, c2, c3, c4, c5x, c6x, c7x⟩ := cells8 HX8.out.hk
                    have hcap : M + 8 ≤ c7 := own_cap HO8.out
                    have i1 : 64 * (j : Int) + 64 ≤ (M : Int) + 8 := by omega
                    have i1b : 64 * (j : Int) < (M : Int) + 8 := by omega
                    have i2 : (64 * (j : Int)).toNat = 64 * j := by omega
                    have i3 : (64 * (j : Int) + 64).toNat = 64 * j + 64 := by omega
                    have i4 : (0 : Int) ≤ 64 * (j : Int) := by omega
                    have i5 : (64 * (j : Int)) ≤ 64 * (j : Int) + 64 := by omega
                    have i6 : IntKind.i64.wrap (64 * (j : Int) + 64) = 64 * (j : Int) + 64 := by rw [IntKind.wrap_i64]; omega
                    have i7 : ¬ (c7 = 64 * j) := by omega
                    have i8 : (64 * (j : Int) + 64) ≤ c7 := by omega
                    have i9 : 64 * j + 64 - 64 * j = 64 := by omega
                    go_wp2
                    go_still_tail 6, (by kernel_rfl)
                    change wpList _ _ _ _ _ wr.drew
                    clear c0 c1 c2 c3 c4 c5x c6x c7x i2 i3 i4 i5 i7 i8 i9
                    go_wp2_with fail
                    refine (block_any wr.drew s4 (some (ad4.add (64 * j))) (c7 - 64 * j) ((l4.drop (64 * j)).take 64) (by rw [List.length_take, List.length_drop, HLJ.out]; omega) (take_rd (drop_rd (w := wr.drew) HR4.out)) (Adds.eq_ HX8.out.ad rfl) (Nat.lt_of_lt_of_le hG HX8.out.be.size)).mono ?_
                    rintro en w5 ⟨rfl, hb5⟩
                    have HX5 := Lib.hid (Rx.below (wr := wr.drew) (HX8.out.drewR) hb5 hG)
                    have HO5 := Lib.hid (Bs.below (w := wr.drew) HO8.out hb5)
                    clear hb5 HX8 HO8
                    go_wp2_with (with_reducible show wpList _ _ _ (Oper.mk _ (Op.store 96 _ _) _ _ _ _ :: _) _ _; go_must (refine wpList_store_bk rfl 96 _ _ rfl bh rfl (.agg (uv (comp s4 ((l4.drop (64 * j)).take 64)).list).toArray) rfl _ _ HX5.out.hk (by rw [size_state]; exact info_w8) (by rw [size_state, arr_state]) (uv_one _) ?_))
                    intro w6 h6 hg6 hs6
                    have HX6 := Lib.hid (show Rx w w6 r bh (eat comp s (l4.take (64 * (j + 1)))) from by
                      rw [eat_next (by rw [HLJ.out]; exact hj64), HS4.out]
                      exact HX5.out.set hg6 h6 hG)
                    have HO6 := Lib.hid (Bs.apart HO5.out hg6 HX5.out.hk (by decide))
                    clear h6 hg6 hs6 HX5 HO5
                    go_wp2
                    go_roundw
                    case rel => first | exact ⟨j + 1, by omega, by push_cast; go_num, HX6.out, HO6.out⟩ | ((repeat apply Exists.intro); exact ⟨⟨j + 1, by omega, by go_num, HX6.out, HO6.out⟩, rfl⟩)
                    case measure => simp [intOf]; omega
                  · have hjj : 64 * j = M + 8 := by omega
                    have jj : 64 * (j : Int) = (M : Int) + 8 := by omega
                    have e5 : l4.take (64 * j) = l4 := List.take_of_length_le (by rw [HLJ.out, hjj]; exact Nat.le_refl _)
                    rw [e5] at HS4
                    have HSH := Lib.hid (show sha b = s4.bytes from by
                      rw [sha, ← HS4.out, ← HSE.out, ← HL4.out, ← HL3.out, ← HTL.out]
                      congr 1
                      have e6 : shaPad b = b ++ ([128] ++ zer (gap n) ++ tail8 (UInt64.ofNat (n * 8))) := by unfold shaPad zer; rw [HN.out]
                      rw [e6, ← eat_more]
                      simp only [List.append_assoc])
                    clear hlt e5 hj
                    have jT : (64 * (j : Int) < (M : Int) + 8) = False := by simp; omega
                    go_wp2_with (with_reducible show wpList _ _ _ (Oper.mk _ (Op.alloc _) _ _ _ _ :: _) _ _; refine wpList_alloc_i rfl 29 rfl (.agg (bv (zer 32)).toArray) zero_hash ?_)
                    intro b9 w9 h9 hl9 hg9 hs9
                    have HX9 := Lib.hid (HX8.out.below hl9 hG)
                    have H9 := Lib.hid h9
                    have HE9 := Lib.hid (show bh < b9 ∧ r < b9 ∧ w.heap.size ≤ b9 by have := HX8.out.hk.lt; have := HX8.out.res.lt; have := HX8.out.be.size; omega)
                    have HB9 := Lib.hid (s4.bytes_len)
                    clear h9 hl9 hg9 hs9 HX8 HO8 jT
                    go_wp2
                    go_loopw [10] (fun i wr => ∃ k : Nat, k ≤ 32 ∧ i = .int .i64 k ∧ Rx w wr r bh s4 ∧ Bk wr b9 (bv (s4.bytes.take k ++ zer (32 - k))).toArray 29) (fun i _ => 32 - (intOf i).toNat)
                    case atStart => exact ⟨0, by omega, rfl, HX9.out, H9.out⟩
                    case round =>
                      clear HX9 H9
                      obtain ⟨i, hi, rfl, X9, h9⟩ := hrel
                      have HX9 := Lib.hid X9
                      have H9 := Lib.hid h9
                      clear X9 h9
                      by_cases hlt : i < 32
                      · have hq : i / 4 < 8 := by omega
                        have x4 := (HX9.out.hk.cell (i / 4)).trans (words_at (l := s4.list) hq)
                        obtain ⟨x, hx⟩ : ∃ x, s4.list.getD (i / 4) 0 = x := ⟨_, rfl⟩
                        rw [hx] at x4
                        have HXX := Lib.hid hx
                        obtain ⟨iq, hiq⟩ : ∃ q, i / 4 = q := ⟨_, rfl⟩
                        obtain ⟨ir, hir⟩ : ∃ q, i % 4 = q := ⟨_, rfl⟩
                        rw [hiq] at x4
                        have HIQ := Lib.hid hiq
                        have HIR := Lib.hid hir
                        have d1 : ((i : Int) / 4) = (iq : Int) := by omega
                        have d2 : ((i : Int) % 4) = (ir : Int) := by omega
                        have d3 : (iq : Int) < 8 := by omega
                        have d4 : (ir : Int) < 4 := by omega
                        have d5 : (0 : Int) ≤ 24 - 8 * (ir : Int) := by omega
                        have d6 : 24 - 8 * (ir : Int) ≤ 32 := by omega
                        have li : (i : Int) < 32 := by omega
                        have li2 : (0 : Int) ≤ (i : Int) := by omega
                        clear hx hiq hir hq
                        go_wp2_with (with_reducible show wpList _ _ _ (Oper.mk _ (Op.store 5 _ _) _ _ _ _ :: _) _ _; go_must (refine wpList_store_w rfl 5 _ _ rfl b9 i rfl _ _ rfl _ _ H9.out info_su8 (by rw [bytes_size HB9.out (by omega)]; omega) ?_))
                        intro w10 h10 hg10 hs10
                        have hb : s4.bytes.getD i 0 = (bytes4 x).getD ir 0 := by
                          have h1 := bytes_at s4 iq ir (by omega) (by omega)
                          have h2 : 4 * iq + ir = i := by have := HIQ.out; have := HIR.out; omega
                          rw [h2] at h1
                          rw [h1, ← HIQ.out, HXX.out]
                        have H10 := Lib.hid (show Bk w10 b9 (bv (s4.bytes.take (i + 1) ++ zer (32 - (i + 1)))).toArray 29 from by
                          rw [← splice_bytes i HB9.out hlt, hb, ← byte4_int' x ir (by omega)]
                          exact h10)
                        have HX10 := Lib.hid (HX9.out.apart hg10 HE9.out.1 HE9.out.2.1 hG HE9.out.2.2)
                        clear h10 hg10 hs10 HX9 H9 d1 d2 d3 d4 d5 d6 li2 x4 hb
                        go_wp2
                        go_roundw
                        case rel => first | exact ⟨i + 1, by omega, by go_num, HX10.out, H10.out⟩ | ((repeat apply Exists.intro); exact ⟨⟨i + 1, by omega, by go_num, HX10.out, H10.out⟩, rfl⟩)
                        case measure => simp [intOf]; omega
                      · have hi32 : i = 32 := by omega
                        subst hi32
                        clear hlt hi
                        have HF := Lib.hid (show Bk wr b9 (bv s4.bytes).toArray 29 from by
                          have e : s4.bytes.take 32 ++ zer (32 - 32) = s4.bytes := by rw [List.take_of_length_le (by rw [HB9.out]; exact Nat.le_refl _)]; simp [zer]
                          rw [← e]; exact H9.out)
                        have HZ := Lib.hid (show (bv s4.bytes).toArray.size = 32 by rw [List.size_toArray, bv_length, HB9.out])
                        go_wp2_with (first
                          | (with_reducible show wpList _ _ _ (Oper.mk _ (Op.load 29 _) _ _ _ _ :: _) _ _; go_must (refine wpList_load_part rfl 29 _ rfl b9 0 32 rfl _ _ _ HF.out Tryd.underlying29 rfl info_h32 (by rw [HZ.out]; decide) _ (ext_all HZ.out) ?_))
                          | (with_reducible show wpList _ _ _ (Oper.mk _ (Op.store 29 _ _) _ _ _ _ :: _) _ _; go_must (refine wpList_store_bk rfl 29 _ _ rfl r rfl (.agg (bv s4.bytes).toArray) rfl _ _ HX9.out.res (by rw [agg_sz HZ.out]; exact info_h32) (by rw [agg_sz HZ.out]; simp [bv, zer]) (by simpa [Value.cells] using bv_one s4.bytes) ?_)))
                        intro w11 h11 hg11 hs11
                        have HB11 := Lib.hid (below_grown2 HX9.out.be hg11 HX9.out.lt.1 HX9.out.be.size)
                        have H11 := Lib.hid h11
                        clear h11 hg11 hs11
                        go_wp2
                        rw [HSH.out]
                        exact bodyPost_cell rfl rfl H11.out Tryd.underlying29 rfl info_h32 HZ.out.symm rfl ⟨rfl, HB11.out⟩
theorem rSum_nil (w : World) (ha : Adds w 0) (hG : 0 < w.heap.size) :
    Calls Tryd.prog 25 #[.slice none 0 0] w fun e w' => e = .returned (.agg (bv (sha [])).toArray) ∧ Below w.heap.size w w' :=
  rSum_none w 0 0 [] rfl rfl rfl (by unfold room46; omega) ha hG
end Go.Proofs.YtjdegphpalhapaaDoor
namespace Go.Proofs.YtjdegphpalhapaaDoor
set_option linter.unusedSimpArgs false
set_option linter.unusedVariables false
open Go.RowKit
set_option maxRecDepth 100000

set_option maxHeartbeats 400000 in
theorem rLeafText_any (w : World) (A : Option Addr) (n c : Nat) (b : List UInt8) (hn : b.length = n) (hr : Rd w A (bv b)) (hl : n + 300 ≤ room46) :
    Calls Tryd.prog 115 #[.slice A n c] w fun e w' => ∃ v, e = .returned v ∧ Bs w' w.heap.size v (0 :: b) ∧ Below w.heap.size w w' := by
  have hm := Lib.hid (Bs.made w w.heap.size #[.int .u8 0] [0] rfl (Nat.le_refl _) (by unfold reach47; simp))
  have hr2 := Lib.hid (hr.alloc (.cells #[.int .u8 0] 5))
  have hlen := Lib.hid (show ([0] : List UInt8).length + b.length ≤ reach47 + 64 by unfold reach47; unfold room46 at hl; simp; omega)
  have HN := Lib.hid hn
  clear hn hr
  go_enter Tryd.func115, Tryd.ntmps115
  go_wp2_with (at_builtin; go_must (refine wpList_app rfl _ _ rfl w.heap.size _ [0] rfl hm.out A n c b rfl HN.out hr2.out hlen.out (by simp) ?_); intro A' c' w2 hown1 hg1 hat1)
  go_ret
  exact ⟨.slice A' (1 + n) c', rfl, hown1, below_app ((Below.refl _ _).alloc (Nat.le_refl _) _) hm.out hg1 (by simp)⟩

set_option maxHeartbeats 1000000 in
theorem rLeaf_any (w : World) (A : Option Addr) (n c : Nat) (b : List UInt8) (hn : b.length = n) (hr : Rd w A (bv b)) (hl : n + 300 ≤ room46) (ht : RTab w) :
    Calls Tryd.prog 98 #[.slice A n c] w fun e w' => e = .returned (.agg (bv (leafH b)).toArray) ∧ Below w.heap.size w w' := by
  have HN := Lib.hid hn
  have HR := Lib.hid hr
  have HT := Lib.hid ht
  clear hn hr ht
  go_enter Tryd.func98, Tryd.ntmps98
  go_wp2_with (with_reducible show wpList _ _ _ (Oper.mk _ (Op.alloc _) _ _ _ _ :: _) _ _; refine wpList_alloc_i rfl 29 rfl (.agg (bv (zer 32)).toArray) zero_hash ?_)
  intro r w1 h1 hl1 hg1 hs1
  have H1 := Lib.hid h1
  have HL1 := Lib.hid hl1
  clear h1 hl1
  go_wp2_with fail
  refine (rLeafText_any w1 A n c b HN.out (HR.out.below HL1.out) hl).mono ?_
  rintro e w2 ⟨v, rfl, hv, hl2⟩
  have H2 := Lib.hid (H1.out.below hl2 H1.out.lt)
  have HL2 := Lib.hid (HL1.out.trans (hl2.mono HL1.out.size))
  have HV := Lib.hid hv
  clear hv hl2
  go_wp2_with fail
  refine (rSum_bs w2 _ v (0 :: b) HV.out (by simp) (by rw [List.length_cons, HN.out]; omega) (HT.out.below HL2.out HT.out.lt HL2.out.size)).mono ?_
  rintro e w3 ⟨rfl, hl3⟩
  have H3 := Lib.hid (H2.out.below hl3 H2.out.lt)
  have HL3 := Lib.hid (HL2.out.trans (hl3.mono HL2.out.size))
  have HZ := Lib.hid (show (bv (sha (0 :: b))).toArray.size = 32 by rw [List.size_toArray, bv_length, sha_len])
  clear hl3
  go_wp2_with (with_reducible show wpList _ _ _ (Oper.mk _ (Op.store 29 _ _) _ _ _ _ :: _) _ _; go_must (refine wpList_store_bk rfl 29 _ _ rfl r rfl (.agg (bv (sha (0 :: b))).toArray) rfl _ _ H3.out (by rw [agg_sz HZ.out]; exact info_h32) (by rw [agg_sz HZ.out]; simp [bv, zer]) (by simpa [Value.cells] using bv_one (sha (0 :: b))) ?_))
  intro w11 h11 hg11 hs11
  have HB11 := Lib.hid (below_grown2 HL3.out hg11 hg1 HL3.out.size)
  have H11 := Lib.hid h11
  clear h11 hg11 hs11
  go_wp2
  exact bodyPost_cell rfl rfl H11.out Tryd.underlying29 rfl info_h32 HZ.out.symm rfl ⟨rfl, HB11.out⟩

set_option maxHeartbeats 1000000 in
theorem rInnerText_any (w : World) (l r : List UInt8) (hl : l.length = 32) (hr : r.length = 32) :
    Calls Tryd.prog 116 #[.agg (bv l).toArray, .agg (bv r).toArray] w fun e w' => ∃ v, e = .returned v ∧ Bs w' w.heap.size v (1 :: (l ++ r)) ∧ Below w.heap.size w w' := by
  have HL := Lib.hid hl
  have HR := Lib.hid hr
  clear hl hr
  go_enter Tryd.func116, Tryd.ntmps116
  go_wp2_with (with_reducible show wpList _ _ _ (Oper.mk _ (Op.box _ _) _ _ _ _ :: _) _ _; refine wpList_box_i rfl _ _ rfl _ rfl ?_)
  intro g1 w1 hk1 hb1 hg1 hs1
  go_wp2_with (with_reducible show wpList _ _ _ (Oper.mk _ (Op.box _ _) _ _ _ _ :: _) _ _; refine wpList_box_i rfl _ _ rfl _ rfl ?_)
  intro g2 w2 hk2 hb2 hg2 hs2
  have hrl := Lib.hid (show Rd w2 (some ⟨g1, 0, none⟩) (bv l) from Rd.of_bk (hk1.below hb2 hk1.lt) 0 _ (fun j u hu => by simpa using hu))
  have hrr := Lib.hid (show Rd w2 (some ⟨g2, 0, none⟩) (bv r) from Rd.of_bk hk2 0 _ (fun j u hu => by simpa using hu))
  have HB2 := Lib.hid (hb1.trans (hb2.mono hb1.size))
  have hm := Lib.hid (show Bs (w2.alloc (.cells #[.int .u8 1] 5)) w2.heap.size (.slice (some ⟨w2.heap.size, 0, none⟩) 1 1) ([1] : List UInt8) from Bs.made w2 w2.heap.size #[.int .u8 1] [1] rfl (Nat.le_refl _) (by unfold reach47; simp))
  have hr2 := Lib.hid (hrl.out.alloc (.cells #[.int .u8 1] 5))
  have hba := Lib.hid (show Below w2.heap.size w2 (w2.alloc (.cells #[.int .u8 1] 5)) from (Below.refl _ _).alloc (Nat.le_refl _) _)
  clear hk1 hb1 hg1 hs1 hk2 hb2 hg2 hs2 hrl
  go_wp2_with (first
    | (with_reducible show wpList _ _ _ (Oper.mk (some 9) (Op.call _) _ _ _ _ :: _) _ _; go_must (refine wpList_app rfl _ _ rfl w2.heap.size (.slice (some ⟨w2.heap.size, 0, none⟩) 1 1) [1] rfl hm.out _ 32 32 l rfl HL.out hr2.out (by rw [HL.out]; unfold reach47; simp) (by simp) ?_); intro A' c' w3 hown1 hg1 hat1; have HB3 := Lib.hid (below_app hba.out hm.out hg1 (by simp)); have HO3 := Lib.hid hown1; have hr3 := Lib.hid (hrr.out.below HB3.out); clear hown1 hg1 hat1 hm hr2 hba)
    | (with_reducible show wpList _ _ _ (Oper.mk (some 12) (Op.call _) _ _ _ _ :: _) _ _; go_must (refine wpList_app rfl _ _ rfl w2.heap.size (.slice A' 33 c') ([1] ++ l) rfl HO3.out _ 32 32 r rfl HR.out hr3.out (by rw [HR.out, List.length_append, HL.out]; unfold reach47; simp) HB3.out.size ?_); intro A'' c'' w4 hown2 hg2 hat2))
  have HB4 := Lib.hid (below_app HB3.out HO3.out hg2 HB3.out.size)
  have HO4 := Lib.hid hown2
  clear hown2 hg2 hat2
  go_ret
  exact ⟨.slice A'' (l.length + 1 + 32) c'', rfl, HO4.out.mono HB2.out.size, HB2.out.trans (HB4.out.mono HB2.out.size)⟩

set_option maxHeartbeats 1000000 in
theorem rInner_any (w : World) (l r : List UInt8) (hl : l.length = 32) (hr : r.length = 32) (ht : RTab w) :
    Calls Tryd.prog 100 #[.agg (bv l).toArray, .agg (bv r).toArray] w fun e w' => e = .returned (.agg (bv (innerH l r)).toArray) ∧ Below w.heap.size w w' := by
  have HL := Lib.hid hl
  have HR := Lib.hid hr
  have HT := Lib.hid ht
  clear hl hr ht
  go_enter Tryd.func100, Tryd.ntmps100
  go_wp2_with (with_reducible show wpList _ _ _ (Oper.mk _ (Op.box _ _) _ _ _ _ :: _) _ _; refine wpList_box_i rfl _ _ rfl _ rfl ?_)
  intro g1 w1 hk1 hb1 hg1 hs1
  go_wp2_with (with_reducible show wpList _ _ _ (Oper.mk _ (Op.box _ _) _ _ _ _ :: _) _ _; refine wpList_box_i rfl _ _ rfl _ rfl ?_)
  intro g2 w2 hk2 hb2 hg2 hs2
  go_wp2_with (with_reducible show wpList _ _ _ (Oper.mk _ (Op.alloc _) _ _ _ _ :: _) _ _; refine wpList_alloc_i rfl 29 rfl (.agg (bv (zer 32)).toArray) zero_hash ?_)
  intro q w3 h3 hl3 hg3 hs3
  have HK1 := Lib.hid ((bk_eqT (cs' := (bv l).toArray) hk1 rfl).below (hb2.trans (hl3.mono hb2.size)) hk1.lt)
  have HK2 := Lib.hid ((bk_eqT (cs' := (bv r).toArray) hk2 rfl).below hl3 hk2.lt)
  have H3 := Lib.hid h3
  have HL3 := Lib.hid (hb1.trans ((hb2.trans (hl3.mono hb2.size)).mono hb1.size))
  have HG := Lib.hid (show w.heap.size ≤ q by have := hb1.size; have := hb2.size; omega)
  clear hk1 hb1 hg1 hs1 hk2 hb2 hg2 hs2 h3 hl3 hg3 hs3
  go_wp2_with (first
    | (with_reducible show wpList _ _ _ (Oper.mk (some 5) (Op.load 29 _) _ _ _ _ :: _) _ _; go_must (refine wpList_load_part rfl 29 _ rfl g1 0 32 rfl _ _ _ HK1.out Tryd.underlying29 rfl info_h32 (by rw [bv_sz (n := 32) HL.out]; omega) (bv l).toArray (arr_all (bv_sz HL.out)) ?_))
    | (with_reducible show wpList _ _ _ (Oper.mk (some 6) (Op.load 29 _) _ _ _ _ :: _) _ _; go_must (refine wpList_load_part rfl 29 _ rfl g2 0 32 rfl _ _ _ HK2.out Tryd.underlying29 rfl info_h32 (by rw [bv_sz (n := 32) HR.out]; omega) (bv r).toArray (arr_all (bv_sz HR.out)) ?_)))
  refine (rInnerText_any w3 l r HL.out HR.out).mono ?_
  rintro e w4 ⟨v, rfl, hv, hl4⟩
  have H4 := Lib.hid (H3.out.below hl4 H3.out.lt)
  have HL4 := Lib.hid (HL3.out.trans (hl4.mono HL3.out.size))
  have HV := Lib.hid hv
  clear hv hl4
  go_wp2_with fail
  refine (rSum_bs w4 _ v (1 :: (l ++ r)) HV.out (by simp) (by rw [List.length_cons, List.length_append, HL.out, HR.out]; unfold room46; omega) (HT.out.below HL4.out HT.out.lt HL4.out.size)).mono ?_
  rintro e w5 ⟨rfl, hl5⟩
  have H5 := Lib.hid (H4.out.below hl5 H4.out.lt)
  have HL5 := Lib.hid (HL4.out.trans (hl5.mono HL4.out.size))
  have HZ := Lib.hid (show (bv (sha (1 :: (l ++ r)))).toArray.size = 32 by rw [List.size_toArray, bv_length, sha_len])
  clear hl5
  go_wp2_with (with_reducible show wpList _ _ _ (Oper.mk _ (Op.store 29 _ _) _ _ _ _ :: _) _ _; go_must (refine wpList_store_bk rfl 29 _ _ rfl q rfl (.agg (bv (sha (1 :: (l ++ r)))).toArray) rfl _ _ H5.out (by rw [agg_sz HZ.out]; exact info_h32) (by rw [agg_sz HZ.out]; simp [bv, zer]) (by simpa [Value.cells] using bv_one (sha (1 :: (l ++ r)))) ?_))
  intro w11 h11 hg11 hs11
  have HB11 := Lib.hid (below_grown2 HL5.out hg11 HG.out HL5.out.size)
  have H11 := Lib.hid h11
  clear h11 hg11 hs11
  go_wp2
  exact bodyPost_cell rfl rfl H11.out Tryd.underlying29 rfl info_h32 HZ.out.symm rfl ⟨rfl, HB11.out⟩
end Go.Proofs.YtjdegphpalhapaaDoor

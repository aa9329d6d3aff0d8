/-
  The program's leaves of a list, and its root. Conditions: the items lie in memory; there are at most 65536, each of at most a thousand bytes; the tables read as they were laid.
  The reference's root of a list. Conditions: the items lie in memory; there are at most 65536, each of at most a thousand bytes; the table reads as it was laid.
-/
import Derived.Test.YtjdegphpalhapaaDoorK28
import Derived.OwnWalk
import Derived.Test.YtjdegphpalhapaaDoorK27
namespace Go.Proofs.YtjdegphpalhapaaDoor
set_option linter.unusedSimpArgs false
set_option linter.unusedVariables false
open Go.RowKit
set_option maxRecDepth 100000

set_option maxHeartbeats 400000 in
theorem bigItem_any (w : World) (A : Option Addr) (n c : Nat) (hn : n ≤ 1000) :
    Calls Tryd.prog 110 #[.slice A n c] w fun e w' => e = .returned (.bool false) ∧ w = w' := by
  go_enter Tryd.func110, Tryd.ntmps110
  have h1 : ¬ (1048576 < (n : Int)) := by omega
  go_wp2
  go_ret
  exact ⟨rfl, rfl⟩
set_option maxHeartbeats 400000 in
theorem indexFunc_any (w : World) (A : Option Addr) (n c : Nat) (ps : List Piece) (hn : ps.length = n) (hr : Rd w A (ps.map Piece.val)) (hs : ∀ p ∈ ps, p.b.length ≤ 1000) (hm : n ≤ 65536) :
    Calls Tryd.prog 120 #[.slice A n c, .func (.func 110) #[] #[]] w fun e w' => e = .returned (.int .i64 (-1)) ∧ w = w' := by
  have HN := Lib.hid hn
  have HR := Lib.hid hr
  have HS := Lib.hid hs
  clear hn hr hs
  go_enter Tryd.func120, Tryd.ntmps120
  go_wp2
  go_loopw [8] (fun i wr => ∃ k : Nat, k ≤ n ∧ i = .int .i64 (k : Int) ∧ wr = w) (fun i _ => n - (intOf i).toNat)
  case atStart => exact ⟨0, by omega, rfl, rfl⟩
  case round =>
    obtain ⟨k, hk, rfl, rfl⟩ := hrel
    by_cases hlt : k < n
    · have hkl : k < ps.length := by rw [HN.out]; exact hlt
      obtain ⟨ad, hA, hcell⟩ := rd_at HR.out (j := k) (u := (ps[k]).val) (by simp [hkl])
      obtain ⟨Ap, cp, b, hp⟩ : ∃ Ap cp b, ps[k] = ⟨Ap, cp, b⟩ := ⟨_, _, _, rfl⟩
      have hb := HS.out _ (List.getElem_mem hkl)
      rw [hp] at hcell hb
      simp only [Piece.val] at hcell hb
      obtain ⟨m, hm'⟩ : ∃ m, b.length = m := ⟨_, rfl⟩
      rw [hm'] at hcell hb
      clear hp hm'
      subst hA
      have hi : (k : Int) < n := by omega
      go_wp2_with fail
      refine (bigItem_any _ Ap m cp hb).mono ?_
      rintro e w2 ⟨rfl, rfl⟩
      go_wp2
      go_round
      case rel => exact ⟨k + 1, by omega, by go_num, trivial⟩
      case measure => simp [intOf]; omega
    · have hk' : k = n := by omega
      have hi : ¬ (k : Int) < n := by omega
      go_wp2
      go_ret
      exact ⟨rfl, rfl⟩
set_option maxHeartbeats 400000 in
theorem containsFunc_any (w : World) (A : Option Addr) (n c : Nat) (ps : List Piece) (hn : ps.length = n) (hr : Rd w A (ps.map Piece.val)) (hs : ∀ p ∈ ps, p.b.length ≤ 1000) (hm : n ≤ 65536) :
    Calls Tryd.prog 109 #[.slice A n c, .func (.func 110) #[] #[]] w fun e w' => e = .returned (.bool false) ∧ w = w' := by
  go_enter Tryd.func109, Tryd.ntmps109
  go_wp2_with fail
  refine (indexFunc_any w A n c ps hn hr hs hm).mono ?_
  rintro e w2 ⟨rfl, rfl⟩
  go_wp2
  go_ret
  exact ⟨rfl, rfl⟩
def lvs (ps : List Piece) : List (List UInt8) := ps.map fun p => leafH p.b
theorem lvs_len (ps : List Piece) : (lvs ps).length = ps.length := by simp [lvs]
theorem lvs_32 (ps : List Piece) : ∀ h ∈ lvs ps, h.length = 32 := by
  intro h hh
  obtain ⟨p, _, rfl⟩ := List.mem_map.1 hh
  exact leafH_len _
theorem hv_lvs_take (ps : List Piece) (k : Nat) (hk : k < ps.length) : hv (lvs (ps.take (k + 1))) = hv (lvs (ps.take k)) ++ bv (leafH (ps[k]).b) := by
  rw [List.take_succ_eq_append_getElem hk]
  simp only [lvs, hv, List.map_append, List.flatMap_append, List.map_cons, List.map_nil, List.flatMap_cons, List.flatMap_nil, List.append_nil]
theorem info_hash3 : (Tryd.prog.info? 29).map (fun i => (i.zero, i.size, i.bytes)) = some (some (.agg (bv (zer 32)).toArray), 32, 32) := by kernel_rfl

set_option maxHeartbeats 2000000 in
theorem leavesOf_any (w : World) (A : Option Addr) (n c : Nat) (ps : List Piece) (hn : ps.length = n) (hr : Rd w A (ps.map Piece.val)) (hp : ∀ p ∈ ps, p.ok w) (hs : ∀ p ∈ ps, p.b.length ≤ 1000) (hm : n ≤ 65536) (ht : Tabs w) :
    Calls Tryd.prog 92 #[.slice A n c] w fun e w' => ∃ g, e = .returned (.tuple #[.slice (some ⟨g, 0, none⟩) n n, .int .i64 0]) ∧ Rd w' (some ⟨g, 0, none⟩) (hv (lvs ps)) ∧ Below w.heap.size w w' := by
  have HN := Lib.hid hn
  have HR := Lib.hid hr
  have HP := Lib.hid hp
  have HS := Lib.hid hs
  have HT := Lib.hid ht
  have d1 : ¬ (65536 : Int) < n := by omega
  clear hn hr hp hs ht
  go_enter Tryd.func92, Tryd.ntmps92
  go_wp2_with fail
  refine (containsFunc_any w A n c ps HN.out HR.out HS.out hm).mono ?_
  rintro e w1 ⟨rfl, rfl⟩
  obtain ⟨i0, hi, hz0, hz1, hz2⟩ := info_parts info_hash3
  go_wp2_with (with_reducible show wpList _ _ _ (Oper.mk _ (Op.makeSlice _ _ _) _ _ _ _ :: _) _ _; go_must (refine wpList_make_full w rfl _ _ 136 rfl w.heap.size 29 i0 (.agg (bv (zer 32)).toArray) 32 Tryd.underlying136 hi hz0 hz1 .i64 .i64 _ _ n rfl rfl rfl rfl (by rw [hz2]; omega) (by unfold maxLen; omega) (Nat.le_refl _) ?_))
  intro w2 own2 hg2
  obtain ⟨g, hg⟩ : ∃ g, w.heap.size = g := ⟨_, rfl⟩
  have HB2 := Lib.hid (show ∃ rs : List Value, rs.length = n * 32 ∧ Bk w2 g rs.toArray 29 from by
    rcases own2.2 with ⟨h1, _⟩ | ⟨g', cap, cur, h1, _, h2, h3, _, h4, h5⟩
    · cases h1
    · injection h1 with e1 e2 e3
      injection e1 with e1
      injection e1 with e1 _
      subst e1 e3
      refine ⟨cur.toList, by simp [h4], ?_⟩
      rw [← hg]
      exact bk_eqT h2 (by simp))
  have HW2 := Lib.hid (show Below w.heap.size w w2 from ⟨hg2.os, hg2.tape, hg2.output, hg2.size, fun k hk => hg2.block k hk (by intro e; cases e)⟩)
  have HG := Lib.hid hg
  clear own2 hg2 hi hz0 hz1 hz2
  rw [hg]
  clear hg
  go_wp2
  go_loopw [19] (fun i wr => ∃ (k : Nat) (rs : List Value), k ≤ n ∧ rs.length = (n - k) * 32 ∧ i = .int .i64 (k : Int) ∧ Bk wr g (hv (lvs (ps.take k)) ++ rs).toArray 29 ∧ Below w.heap.size w wr) (fun i _ => n - (intOf i).toNat)
  case atStart =>
    obtain ⟨rs, h1, h2⟩ := HB2.out
    exact ⟨0, rs, by omega, by omega, rfl, by simpa [hv, lvs] using h2, HW2.out⟩
  case round =>
    clear HB2 HW2
    obtain ⟨k, rs, hk, hrs, rfl, h4, h5⟩ := hrel
    have HB := Lib.hid h4
    have HW := Lib.hid h5
    have HRS := Lib.hid hrs
    clear h4 h5 hrs
    by_cases hlt : k < n
    · have hkl : k < ps.length := by rw [HN.out]; exact hlt
      obtain ⟨ad, hA, hcell⟩ := rd_at (HR.out.below HW.out) (j := k) (u := (ps[k]).val) (by simp [hkl])
      have HTK := Lib.hid (hv_lvs_take ps k hkl)
      obtain ⟨p, hpk⟩ : ∃ p, ps[k] = p := ⟨_, rfl⟩
      have HPK := Lib.hid ((HP.out _ (List.getElem_mem hkl)).below HW.out)
      have HSK := Lib.hid (HS.out _ (List.getElem_mem hkl))
      rw [hpk] at hcell HTK HPK HSK
      obtain ⟨Ap, cp, b⟩ := p
      simp only [Piece.val] at hcell
      obtain ⟨m, hm'⟩ : ∃ m, b.length = m := ⟨_, rfl⟩
      rw [hm'] at hcell
      have HM := Lib.hid hm'
      clear hm' hpk
      subst hA
      have hi : (k : Int) < n := by omega
      have HLN := Lib.hid (show (hv (lvs (ps.take k))).length = k * 32 by rw [hv_len _ (lvs_32 _), lvs_len, List.length_take, HN.out]; omega)
      have HSZ := Lib.hid (show (hv (lvs (ps.take k)) ++ rs).toArray.size = n * 32 by
        rw [List.size_toArray, List.length_append, HLN.out, HRS.out, ← Nat.add_mul, show k + (n - k) = n by omega])
      have HL32 := Lib.hid (show (bv (leafH b)).toArray.size = 32 by rw [List.size_toArray, bv_length, leafH_len])
      have HLF := Lib.hid (Leaf_any wr ⟨Ap, cp, b⟩ HPK.out (by have := HSK.out; unfold room46; simp only at this ⊢; omega) (HT.out.below HW.out))
      have HLF2 := Lib.hid (show Calls Tryd.prog 111 #[.slice Ap m cp] wr fun e w' => e = .returned (.agg (bv (leafH b)).toArray) ∧ Below wr.heap.size wr w' from by have h := HLF.out; simp only [Piece.val, HM.out] at h; exact h)
      clear HLF
      go_wp2_with (first
        | (go_at_call 111; go_must (refine HLF2.out.mono ?_); rintro e w4 ⟨rfl, hl4⟩; have HB4 := Lib.hid (HB.out.below hl4 HB.out.lt); have HW4 := Lib.hid (HW.out.trans (hl4.mono HW.out.size)); clear hl4)
        | (with_reducible show wpList _ _ _ (Oper.mk _ (Op.store 29 _ _) _ _ _ _ :: _) _ _; go_must (refine wpList_store_part rfl 29 _ _ rfl g (k * 32) rfl (.agg (bv (leafH b)).toArray) rfl _ _ HB4.out (by rw [agg_sz HL32.out]; exact info_h32) (by rw [agg_sz HL32.out, HSZ.out]; omega) (by simpa [Value.cells] using bv_one (leafH b)) ?_)))
      intro w5 h5 hg5 hs5
      have HB5 := Lib.hid (show Bk w5 g (hv (lvs (ps.take (k + 1))) ++ rs.drop 32).toArray 29 from bk_eqT h5 (by
        have h1 : 1 ≤ n - k := by omega
        have e := splice_mid (xs := hv (lvs (ps.take k))) (ys := rs.take 32) (zs := rs.drop 32) (ws := bv (leafH b)) HLN.out (by rw [bv_length, leafH_len, List.length_take, HRS.out]; omega)
        rw [HTK.out, List.append_assoc, ← e]
        show splice (hv (lvs (ps.take k)) ++ rs).toArray (k * 32) (bv (leafH b)) = _
        rw [List.take_append_drop]))
      have HW5 := Lib.hid (below_grown2 HW4.out hg5 (by rw [HG.out]; exact Nat.le_refl _) HW4.out.size)
      clear h5 hg5 hs5 HB HW HB4 HW4
      go_wp2
      go_round
      case rel => exact ⟨k + 1, rs.drop 32, by omega, by rw [List.length_drop, HRS.out, show n - k = n - (k + 1) + 1 by omega, Nat.add_mul]; omega, by go_num, HB5.out, HW5.out⟩
      case measure => simp [intOf]; omega
    · have hk' : k = n := by omega
      have hi : ¬ (k : Int) < n := by omega
      subst hk'
      have hrs0 : rs = [] := List.eq_nil_of_length_eq_zero (by have := HRS.out; simpa using this)
      subst hrs0
      have HZ := Lib.hid (show Rd wr (some ⟨g, 0, none⟩) (hv (lvs ps)) from Rd.of_bk HB.out 0 _ (fun j u hu => by
        rw [List.append_nil, List.take_of_length_le (by rw [HN.out]; exact Nat.le_refl _)]
        simpa using hu))
      clear hlt
      go_wp2
      go_ret2
      exact ⟨g, rfl, HZ.out, HW.out⟩

set_option maxHeartbeats 2000000 in
theorem Root_any (w : World) (A : Option Addr) (n c : Nat) (ps : List Piece) (hn : ps.length = n) (hr : Rd w A (ps.map Piece.val)) (hp : ∀ p ∈ ps, p.ok w) (hs : ∀ p ∈ ps, p.b.length ≤ 1000) (hm : n ≤ 65536) (ht : Tabs w) :
    Calls Tryd.prog 62 #[.slice A n c] w (HashRes w 0 (rootOf (ps.map Piece.b))) := by
  have HN := Lib.hid hn
  have HT := Lib.hid ht
  have HLV := Lib.hid (leavesOf_any w A n c ps hn hr hp hs hm ht)
  have HLV := Lib.hid (fun w1 (hb : Below w.heap.size w w1) => leavesOf_any w1 A n c ps hn (hr.below hb) (fun p h => (hp p h).below hb) hs hm (ht.below hb))
  have HRO := Lib.hid (show rootOf (ps.map Piece.b) = rootH n (topH (lvs ps)) by unfold rootOf lvs; rw [List.length_map, hn, List.map_map]; rfl)
  clear hn hr hp hs ht
  go_enter Tryd.func62, Tryd.ntmps62
  go_wp2_with (with_reducible show wpList _ _ _ (Oper.mk _ (Op.alloc _) _ _ _ _ :: _) _ _; refine wpList_alloc_i rfl 29 rfl (.agg (bv (zer 32)).toArray) zero_hash ?_)
  intro r w1 h1 hl1 hg1 hs1
  have H1 := Lib.hid h1
  have HL1 := Lib.hid hl1
  clear h1 hl1
  go_wp2_with fail
  refine (HLV.out w1 HL1.out).mono ?_
  rintro e w2 ⟨g, rfl, hr2, hl2⟩
  have H2 := Lib.hid (H1.out.below hl2 H1.out.lt)
  have HL2 := Lib.hid (HL1.out.trans (hl2.mono HL1.out.size))
  have HR2 := Lib.hid hr2
  have LT := Lib.hid (show (topH (lvs ps)).length = 32 from topH_len _ _ (Nat.le_refl _) (lvs_32 ps))
  have HZ := Lib.hid (show (bv (rootH n (topH (lvs ps)))).toArray.size = 32 by rw [List.size_toArray, bv_length, rootH_len])
  clear hl2 hr2 HLV
  go_wp2_with (first
    | (go_at_call 94; go_must (refine (top_any n w2 _ n n (lvs ps) (by rw [lvs_len, HN.out]) (Nat.le_refl _) (Nat.le_refl _) HR2.out (lvs_32 ps) (by omega) (HT.out.below HL2.out)).mono ?_); rintro e w3 ⟨rfl, hl3⟩; have H3 := Lib.hid (H2.out.below hl3 H2.out.lt); have HL3 := Lib.hid (HL2.out.trans (hl3.mono HL2.out.size)); clear hl3)
    | (go_at_call 93; go_must (refine (under_any w3 n (topH (lvs ps)) (by omega) LT.out (HT.out.below HL3.out)).mono ?_); rintro e w4 ⟨rfl, hl4⟩; have H4 := Lib.hid (H3.out.below hl4 H3.out.lt); have HL4 := Lib.hid (HL3.out.trans (hl4.mono HL3.out.size)); clear hl4)
    | (with_reducible show wpList _ _ _ (Oper.mk _ (Op.store 29 _ _) _ _ _ _ :: _) _ _; go_must (refine wpList_store_bk rfl 29 _ _ rfl r rfl (.agg (bv (rootH n (topH (lvs ps)))).toArray) rfl _ _ H4.out (by rw [agg_sz HZ.out]; exact info_h32) (by rw [agg_sz HZ.out]; simp [bv, zer]) (by simpa [Value.cells] using bv_one (rootH n (topH (lvs ps)))) ?_)))
  intro w8 h8 hg8 hs8
  have HB := Lib.hid (below_grown2 HL4.out hg8 hg1 HL4.out.size)
  have H8 := Lib.hid h8
  clear h8 hg8 hs8
  go_wp2
  exact bodyPost_ct (x := .int .i64 0) rfl rfl rfl H8.out Tryd.underlying29 rfl info_h32 HZ.out.symm rfl ⟨HB.out, by rw [HRO.out]; unfold hashOr; rw [if_pos rfl]⟩
end Go.Proofs.YtjdegphpalhapaaDoor
namespace Go.Proofs.YtjdegphpalhapaaDoor
set_option linter.unusedSimpArgs false
set_option linter.unusedVariables false
open Go.RowKit
set_option maxRecDepth 100000

set_option maxHeartbeats 2000000 in
theorem rRootText_any (w : World) (n : Nat) (t : List UInt8) (hn : n ≤ 1000000) (htl : t.length = 32) :
    Calls Tryd.prog 68 #[.int .i64 (n : Int), .agg (bv t).toArray] w fun e w' => ∃ v, e = .returned v ∧ Bs w' w.heap.size v (2 :: (le8 n ++ t)) ∧ Below w.heap.size w w' := by
  have HL := Lib.hid htl
  have p_n : IntKind.u64.wrap (n : Int) = n := by rw [IntKind.wrap_u64]; omega
  clear htl
  go_enter Tryd.func68, Tryd.ntmps68
  go_wp2_with (with_reducible show wpList _ _ _ (Oper.mk _ (Op.box _ _) _ _ _ _ :: _) _ _; refine wpList_box_i rfl _ _ rfl _ rfl ?_)
  intro g1 w1 hk1 hb1 hg1 hs1
  have HK1 := Lib.hid (bk_eqT (cs' := (bv t).toArray) hk1 rfl)
  have HB1 := Lib.hid hb1
  have HM1 := Lib.hid (show Bs (w1.alloc (.cells #[.int .u8 2] 5)) w1.heap.size (.slice (some ⟨w1.heap.size, 0, none⟩) 1 1) ([2] : List UInt8) from Bs.made w1 w1.heap.size #[.int .u8 2] [2] rfl (Nat.le_refl _) (by unfold reach47; simp))
  have HA1 := Lib.hid (show Below w1.heap.size w1 (w1.alloc (.cells #[.int .u8 2] 5)) from (Below.refl _ _).alloc (Nat.le_refl _) _)
  clear hk1 hb1 hg1 hs1
  go_wp2
  go_loopw [5, 6] (fun v i wr => ∃ k : Nat, k ≤ 8 ∧ i = .int .i64 (k : Int) ∧ Bs wr w1.heap.size v (2 :: (le8 n).take k) ∧ Below w1.heap.size w1 wr) (fun _ i _ => 8 - (intOf i).toNat)
  case atStart => exact ⟨0, by omega, rfl, HM1.out, HA1.out⟩
  case round =>
    clear HM1 HA1
    obtain ⟨k, hk, rfl, own7, h8⟩ := hrel
    have hlen : (2 :: (le8 n).take k : List UInt8).length = k + 1 := by simp [le8_len]; omega
    obtain ⟨A7, c7, rfl⟩ := own7.form
    rw [hlen] at own7 ⊢
    have HLJ := Lib.hid hlen
    have HO := Lib.hid own7
    have HW := Lib.hid h8
    clear own7 h8 hlen
    by_cases hlt : k < 8
    · have p0 : (k : Int) < 8 := by omega
      have p1 : IntKind.i64.wrap (8 * (k : Int)) = 8 * (k : Int) := by rw [IntKind.wrap_i64]; omega
      have p2 : (8 * (k : Int)).toNat = 8 * k := by omega
      have p3 : (0 : Int) ≤ 8 * (k : Int) := by omega
      have p4 : IntKind.u64.wrap (8 * (k : Int)) = 8 * (k : Int) := by rw [IntKind.wrap_u64]; omega
      obtain ⟨y, hy⟩ : ∃ y, UInt8.ofNat (n / 2 ^ (8 * k)) = y := ⟨_, rfl⟩
      have HTJ := Lib.hid (show (2 :: (le8 n).take (k + 1) : List UInt8) = (2 :: (le8 n).take k) ++ [y] by rw [le8_take n k hlt, hy]; rfl)
      have HR9 := Lib.hid (rd_lit wr #[.int .u8 ((n : Int) / 2 ^ (8 * k) % 256)] [y] (by rw [le8_byte, hy]; rfl))
      clear hy
      go_wp2_with (at_builtin; go_must (refine wpList_app rfl _ _ rfl w1.heap.size _ (2 :: (le8 n).take k) rfl (Bs.alloc HO.out _) _ 1 1 [y] rfl rfl HR9.out (by rw [HLJ.out]; unfold reach47; simp; omega) (by have := HW.out.size; simp; omega) ?_); intro A8 c8 w8 own8 hg8 hat8)
      rw [HLJ.out] at own8
      rw [show min k (le8 n).length + 1 + 1 = k + 1 + 1 by rw [le8_len]; omega]
      have HO8 := Lib.hid own8
      have HW8 := Lib.hid (below_app (HW.out.alloc HW.out.size _) (Bs.alloc HO.out _) hg8 (by have := HW.out.size; simp; omega))
      clear own8 hg8 hat8
      refine ⟨⟨k + 1, by omega, by go_num, ?_, HW8.out⟩, by simp [intOf]; omega⟩
      rw [HTJ.out]
      exact HO8.out
    · have hk8 : k = 8 := by omega
      subst hk8
      have e4 : (le8 n).take 8 = le8 n := List.take_of_length_le (by rw [le8_len]; exact Nat.le_refl _)
      rw [e4] at HO HLJ
      have HRT := Lib.hid (show Rd wr (some ⟨g1, 0, none⟩) (bv t) from Rd.of_bk (HK1.out.below HW.out HK1.out.lt) 0 _ (fun j u hu => by simpa using hu))
      clear e4 hlt
      go_wp2_with (at_builtin; go_must (refine wpList_app rfl _ _ rfl w1.heap.size (.slice A7 (8 + 1) c7) (2 :: le8 n) rfl HO.out _ 32 32 t rfl HL.out HRT.out (by rw [HL.out, HLJ.out]; unfold reach47; simp) HW.out.size ?_); intro A8 c8 w8 own8 hg8 hat8)
      have HO8 := Lib.hid (own8.mono HB1.out.size)
      have HW8 := Lib.hid (below_app HW.out HO.out hg8 HW.out.size)
      clear own8 hg8 hat8
      go_ret
      exact ⟨_, rfl, HO8.out, HB1.out.trans (HW8.out.mono HB1.out.size)⟩

set_option maxHeartbeats 400000 in
theorem rLarge_any (w : World) (A : Option Addr) (n c : Nat) (ps : List Piece) (hn : ps.length = n) (hr : Rd w A (ps.map Piece.val)) (hs : ∀ p ∈ ps, p.b.length ≤ 1000) (hm : n ≤ 65536) :
    Calls Tryd.prog 66 #[.slice A n c] w fun e w' => e = .returned (.bool false) ∧ w = w' := by
  have HN := Lib.hid hn
  have HR := Lib.hid hr
  have HS := Lib.hid hs
  have d1 : ¬ (65536 : Int) < n := by omega
  clear hn hr hs
  go_enter Tryd.func66, Tryd.ntmps66
  go_wp2
  go_loopw [3] (fun i wr => ∃ k : Nat, k ≤ n ∧ i = .int .i64 (k : Int) ∧ wr = w) (fun i _ => n - (intOf i).toNat)
  case atStart => exact ⟨0, by omega, rfl, rfl⟩
  case round =>
    obtain ⟨k, hk, rfl, rfl⟩ := hrel
    by_cases hlt : k < n
    · have hkl : k < ps.length := by rw [HN.out]; exact hlt
      obtain ⟨ad, hA, hcell⟩ := rd_at HR.out (j := k) (u := (ps[k]).val) (by simp [hkl])
      obtain ⟨Ap, cp, b, hp⟩ : ∃ Ap cp b, ps[k] = ⟨Ap, cp, b⟩ := ⟨_, _, _, rfl⟩
      have hb := HS.out _ (List.getElem_mem hkl)
      rw [hp] at hcell hb
      simp only [Piece.val] at hcell hb
      obtain ⟨m, hm'⟩ : ∃ m, b.length = m := ⟨_, rfl⟩
      rw [hm'] at hcell hb
      clear hp hm'
      subst hA
      have hi : (k : Int) < n := by omega
      have hi2 : ¬ (1048576 < (m : Int)) := by omega
      go_wp2
      go_round
      case rel => exact ⟨k + 1, by omega, by go_num, trivial⟩
      case measure => simp [intOf]; omega
    · have hk' : k = n := by omega
      have hi : ¬ (k : Int) < n := by omega
      go_wp2
      go_ret
      exact ⟨rfl, rfl⟩

theorem lvs_take (ps : List Piece) (k : Nat) : (lvs ps).take k = lvs (ps.take k) := by simp [lvs, List.map_take]
theorem lvs_drop (ps : List Piece) (k : Nat) : (lvs ps).drop k = lvs (ps.drop k) := by simp [lvs, List.map_drop]
set_option maxHeartbeats 4000000 in
theorem rTop_any : ∀ (f : Nat) (w : World) (A : Option Addr) (n c : Nat) (ps : List Piece) (_ : ps.length = n) (_ : n ≤ f) (_ : n ≤ c) (_ : Rd w A (ps.map Piece.val)) (_ : ∀ p ∈ ps, p.ok w) (_ : ∀ p ∈ ps, p.b.length ≤ 1000) (_ : n ≤ 1000000) (_ : RTab w),
    Calls Tryd.prog 67 #[.slice A n c] w fun e w' => e = .returned (.agg (bv (topH (lvs ps))).toArray) ∧ Below w.heap.size w w' := by
  intro f
  induction f with
  | zero =>
    intro w A n c ps hn hf hc hr hp hs hm ht
    have hn0 : n = 0 := by omega
    subst hn0
    obtain rfl := List.eq_nil_of_length_eq_zero hn
    have HT := Lib.hid ht
    clear hr hp hs hn ht
    rw [show lvs [] = [] from rfl, topH_nil]
    go_enter Tryd.func67, Tryd.ntmps67
    go_wp2_with (with_reducible show wpList _ _ _ (Oper.mk _ (Op.alloc _) _ _ _ _ :: _) _ _; refine wpList_alloc_i rfl 29 rfl (.agg (bv (zer 32)).toArray) zero_hash ?_)
    intro r w1 h1 hl1 hg1 hs1
    have H1 := Lib.hid h1
    have HL1 := Lib.hid hl1
    have HT1 := Lib.hid (HT.out.below hl1 HT.out.lt hl1.size)
    clear h1 hl1
    go_wp2_with fail
    refine (rSum_nil w1 HT1.out.ad HT1.out.lt).mono ?_
    rintro e w2 ⟨rfl, hl2⟩
    have H2 := Lib.hid (H1.out.below hl2 H1.out.lt)
    have HL2 := Lib.hid (HL1.out.trans (hl2.mono HL1.out.size))
    have HZ := Lib.hid (show (bv (sha [])).toArray.size = 32 by rw [List.size_toArray, bv_length, sha_len])
    clear hl2
    go_wp2_with (with_reducible show wpList _ _ _ (Oper.mk _ (Op.store 29 _ _) _ _ _ _ :: _) _ _; go_must (refine wpList_store_bk rfl 29 _ _ rfl r rfl (.agg (bv (sha [])).toArray) rfl _ _ H2.out (by rw [agg_sz HZ.out]; exact info_h32) (by rw [agg_sz HZ.out]; simp [bv, zer]) (by simpa [Value.cells] using bv_one (sha [])) ?_))
    intro w11 h11 hg11 hs11
    have HB11 := Lib.hid (below_grown2 HL2.out hg11 hg1 HL2.out.size)
    have H11 := Lib.hid h11
    clear h11 hg11 hs11
    go_wp2
    exact bodyPost_cell rfl rfl H11.out Tryd.underlying29 rfl info_h32 HZ.out.symm rfl ⟨rfl, HB11.out⟩
  | succ f ih =>
    intro w A n c ps hn hf hc hr hp hs hm ht
    rcases Nat.lt_or_ge n 1 with h0 | h0
    · exact ih w A n c ps hn (by omega) hc hr hp hs hm ht
    have hne : ps ≠ [] := by rintro rfl; simp at hn; omega
    obtain ⟨ad, rfl⟩ : ∃ ad, A = some ad := by
      obtain ⟨a, ha, _⟩ := hr 0 _ (List.getElem?_eq_getElem (by simpa using List.length_pos_iff.2 hne))
      exact ⟨a, ha⟩
    have HN := Lib.hid hn
    have HR := Lib.hid hr
    have HP := Lib.hid hp
    have HS := Lib.hid hs
    have HT := Lib.hid ht
    clear hr hp hs hne ht
    rcases Nat.lt_or_ge n 2 with h1 | h1
    · have hn1 : n = 1 := by omega
      subst hn1
      obtain ⟨p, rfl⟩ : ∃ p, ps = [p] := by
        match ps, hn with
        | [x], _ => exact ⟨x, rfl⟩
      clear hn
      obtain ⟨Ap, cp, b⟩ := p
      have HX := Lib.hid (HP.out ⟨Ap, cp, b⟩ (by simp))
      have HSB := Lib.hid (show b.length ≤ 1000 from HS.out ⟨Ap, cp, b⟩ (by simp))
      obtain ⟨m, hm'⟩ : ∃ m, b.length = m := ⟨_, rfl⟩
      have HM := Lib.hid hm'
      rw [show lvs [(⟨Ap, cp, b⟩ : Piece)] = [leafH b] from rfl, topH_one]
      go_enter Tryd.func67, Tryd.ntmps67
      go_wp2_with (with_reducible show wpList _ _ _ (Oper.mk _ (Op.alloc _) _ _ _ _ :: _) _ _; refine wpList_alloc_i rfl 29 rfl (.agg (bv (zer 32)).toArray) zero_hash ?_)
      intro r w1 h1 hl1 hg1 hs1
      have H1 := Lib.hid h1
      have HL1 := Lib.hid hl1
      have hcell : w1.cell? ad = some (.slice Ap m cp) := by
        have := rd_cells (HR.out.below hl1) 0 (.slice Ap m cp) (by simp [Piece.val, hm'])
        simpa [Addr.add] using this
      have HZ := Lib.hid (show (bv (leafH b)).toArray.size = 32 by rw [List.size_toArray, bv_length, leafH_len])
      clear h1 hl1 hm'
      go_wp2_with (first
        | (go_at_call 98; go_must (refine (rLeaf_any w1 Ap m cp b HM.out (HX.out.rd.below HL1.out) (by have := HSB.out; have := HM.out; unfold room46; omega) (HT.out.below HL1.out HT.out.lt HL1.out.size)).mono ?_); rintro e w2 ⟨rfl, hl2⟩; have H2 := Lib.hid (H1.out.below hl2 H1.out.lt); have HL2 := Lib.hid (HL1.out.trans (hl2.mono HL1.out.size)); clear hl2)
        | (with_reducible show wpList _ _ _ (Oper.mk _ (Op.store 29 _ _) _ _ _ _ :: _) _ _; go_must (refine wpList_store_bk rfl 29 _ _ rfl r rfl (.agg (bv (leafH b)).toArray) rfl _ _ H2.out (by rw [agg_sz HZ.out]; exact info_h32) (by rw [agg_sz HZ.out]; simp [bv, zer]) (by simpa [Value.cells] using bv_one (leafH b)) ?_)))
      intro w11 h11 hg11 hs11
      have HB11 := Lib.hid (below_grown2 HL2.out hg11 hg1 HL2.out.size)
      have H11 := Lib.hid h11
      clear h11 hg11 hs11
      go_wp2
      exact bodyPost_cell rfl rfl H11.out Tryd.underlying29 rfl info_h32 HZ.out.symm rfl ⟨rfl, HB11.out⟩
    · have HTT := Lib.hid (topH_two (ls := lvs ps) (by rw [lvs_len]; omega))
      have hsl := spl_lt h1
      have hsp := spl_pos n
      rw [HTT.out, lvs_len, HN.out, lvs_take, lvs_drop]
      obtain ⟨k, hk⟩ : ∃ k, spl n = k := ⟨_, rfl⟩
      rw [hk] at hsl hsp ⊢
      have HK := Lib.hid hk
      obtain ⟨tl, htl⟩ : ∃ t, topH (lvs (ps.take k)) = t := ⟨_, rfl⟩
      obtain ⟨tr, htr⟩ : ∃ t, topH (lvs (ps.drop k)) = t := ⟨_, rfl⟩
      rw [htl, htr]
      have HTL := Lib.hid htl
      have HTR := Lib.hid htr
      have LTL := Lib.hid (show tl.length = 32 by rw [← htl]; exact topH_len _ _ (Nat.le_refl _) (lvs_32 _))
      have LTR := Lib.hid (show tr.length = 32 by rw [← htr]; exact topH_len _ _ (Nat.le_refl _) (lvs_32 _))
      have hd0 : ¬ (n : Int) = 0 := by omega
      have hd1 : ¬ (n : Int) = 1 := by omega
      have i1 : (k : Int) ≤ c := by omega
      have i2 : (k : Int) ≤ n := by omega
      have i3 : ¬ (c = k) := by omega
      have i4 : (n : Int) ≤ c := by omega
      clear hk htl htr hn
      go_enter Tryd.func67, Tryd.ntmps67
      go_wp2_with (with_reducible show wpList _ _ _ (Oper.mk _ (Op.alloc _) _ _ _ _ :: _) _ _; refine wpList_alloc_i rfl 29 rfl (.agg (bv (zer 32)).toArray) zero_hash ?_)
      intro r w1 h1' hl1 hg1 hs1
      have H1 := Lib.hid h1'
      have HL1 := Lib.hid hl1
      clear h1' hl1 hs1
      go_wp2_with (first
        | (go_at_call 99; go_must (refine (rSplit_any _ n h1 hm).mono ?_); rintro e wx ⟨rfl, rfl⟩; rw [HK.out])
        | (go_at_call 67; go_must (refine (ih w1 (some ad) k c (ps.take k) (by rw [List.length_take, HN.out]; omega) (by omega) (by omega) (by rw [List.map_take]; exact rd_left (ys := (ps.map Piece.val).drop k) (by rw [List.take_append_drop]; exact HR.out.below HL1.out)) (fun p hp => (HP.out p (List.mem_of_mem_take hp)).below HL1.out) (fun p hp => HS.out p (List.mem_of_mem_take hp)) (by omega) (HT.out.below HL1.out HT.out.lt HL1.out.size)).mono ?_); rw [HTL.out]; rintro e w2 ⟨rfl, hl2⟩; have H2 := Lib.hid (H1.out.below hl2 H1.out.lt); have HL2 := Lib.hid (HL1.out.trans (hl2.mono HL1.out.size)); clear hl2)
        | (with_reducible show wpList _ _ _ (Oper.mk _ (Op.alloc _) _ _ _ _ :: _) _ _; refine wpList_alloc_i rfl 29 rfl (.agg (bv (zer 32)).toArray) zero_hash ?_))
      intro r4 w3 h3 hl3 hg3 hs3
      have HZL := Lib.hid (show (bv tl).toArray.size = 32 by rw [List.size_toArray, bv_length, LTL.out])
      have HZR := Lib.hid (show (bv tr).toArray.size = 32 by rw [List.size_toArray, bv_length, LTR.out])
      have H3 := Lib.hid h3
      have HL3' := Lib.hid hl3
      have HG3 := Lib.hid hg3
      clear h3 hl3 hg3 hs3
      go_wp2_with (with_reducible show wpList _ _ _ (Oper.mk _ (Op.store 29 _ _) _ _ _ _ :: _) _ _; go_must (refine wpList_store_bk rfl 29 _ _ rfl r4 rfl (.agg (bv tl).toArray) rfl _ _ H3.out (by rw [agg_sz HZL.out]; exact info_h32) (by rw [agg_sz HZL.out]; simp [bv, zer]) (by simpa [Value.cells] using bv_one tl) ?_))
      intro w4 h4 hg4 hs4
      have HS4 := Lib.hid (below_grown2 HL3'.out hg4 HG3.out HL3'.out.size)
      have H4 := Lib.hid (show Bk w4 r4 (bv tl).toArray 29 from h4)
      have HR4 := Lib.hid (H2.out.below HS4.out H2.out.lt)
      have HL4 := Lib.hid (HL2.out.trans (HS4.out.mono HL2.out.size))
      clear h4 hg4 hs4 H3 HL3' HG3 HS4 H2 H1
      go_wp2_with (first
        | (go_at_call 67; go_must (refine (ih w4 (some (ad.add k)) (n - k) (c - k) (ps.drop k) (by rw [List.length_drop, HN.out]) (by omega) (by omega) (by rw [List.map_drop]; exact rd_right (xs := (ps.map Piece.val).take k) k (by rw [List.length_take, List.length_map, HN.out]; omega) (by rw [List.take_append_drop]; exact HR.out.below HL4.out)) (fun p hp => (HP.out p (List.mem_of_mem_drop hp)).below HL4.out) (fun p hp => HS.out p (List.mem_of_mem_drop hp)) (by omega) (HT.out.below HL4.out HT.out.lt HL4.out.size)).mono ?_); rw [HTR.out]; rintro e w5 ⟨rfl, hl5⟩; have HR5 := Lib.hid (HR4.out.below hl5 HR4.out.lt); have H5 := Lib.hid (H4.out.below hl5 H4.out.lt); have HL5 := Lib.hid (HL4.out.trans (hl5.mono HL4.out.size)); clear hl5)
        | (with_reducible show wpList _ _ _ (Oper.mk _ (Op.alloc _) _ _ _ _ :: _) _ _; refine wpList_alloc_i rfl 29 rfl (.agg (bv (zer 32)).toArray) zero_hash ?_))
      intro r5 w6 h6 hl6 hg6 hs6
      have H6 := Lib.hid h6
      have HL6' := Lib.hid hl6
      have HG6 := Lib.hid hg6
      clear h6 hl6 hg6 hs6
      go_wp2_with (with_reducible show wpList _ _ _ (Oper.mk _ (Op.store 29 _ _) _ _ _ _ :: _) _ _; go_must (refine wpList_store_bk rfl 29 _ _ rfl r5 rfl (.agg (bv tr).toArray) rfl _ _ H6.out (by rw [agg_sz HZR.out]; exact info_h32) (by rw [agg_sz HZR.out]; simp [bv, zer]) (by simpa [Value.cells] using bv_one tr) ?_))
      intro w7 h7 hg7 hs7
      have HS7 := Lib.hid (below_grown2 HL6'.out hg7 HG6.out HL6'.out.size)
      have H7 := Lib.hid (show Bk w7 r5 (bv tr).toArray 29 from h7)
      have HR7 := Lib.hid (HR5.out.below HS7.out HR5.out.lt)
      have H47 := Lib.hid (H5.out.below HS7.out H5.out.lt)
      have HL7 := Lib.hid (HL5.out.trans (HS7.out.mono HL5.out.size))
      clear h7 hg7 hs7 H6 HL6' HG6 HS7 HR5 H5
      go_wp2_with (first
        | (with_reducible show wpList _ _ _ (Oper.mk (some 28) (Op.load 29 _) _ _ _ _ :: _) _ _; go_must (refine wpList_load_part rfl 29 _ rfl r4 0 32 rfl _ _ _ H47.out Tryd.underlying29 rfl info_h32 (by rw [HZL.out]; omega) (bv tl).toArray (arr_all HZL.out) ?_))
        | (with_reducible show wpList _ _ _ (Oper.mk (some 29) (Op.load 29 _) _ _ _ _ :: _) _ _; go_must (refine wpList_load_part rfl 29 _ rfl r5 0 32 rfl _ _ _ H7.out Tryd.underlying29 rfl info_h32 (by rw [HZR.out]; omega) (bv tr).toArray (arr_all HZR.out) ?_))
        | (go_at_call 100; go_must (refine (rInner_any w7 tl tr LTL.out LTR.out (HT.out.below HL7.out HT.out.lt HL7.out.size)).mono ?_); rintro e w8 ⟨rfl, hl8⟩; have H8 := Lib.hid (HR7.out.below hl8 HR7.out.lt); have HL8 := Lib.hid (HL7.out.trans (hl8.mono HL7.out.size)); have HZ := Lib.hid (show (bv (innerH tl tr)).toArray.size = 32 by rw [List.size_toArray, bv_length, innerH_len]); clear hl8)
        | (with_reducible show wpList _ _ _ (Oper.mk _ (Op.store 29 _ _) _ _ _ _ :: _) _ _; go_must (refine wpList_store_bk rfl 29 _ _ rfl r rfl (.agg (bv (innerH tl tr)).toArray) rfl _ _ H8.out (by rw [agg_sz HZ.out]; exact info_h32) (by rw [agg_sz HZ.out]; simp [bv, zer]) (by simpa [Value.cells] using bv_one (innerH tl tr)) ?_)))
      intro w11 h11 hg11 hs11
      have HB11 := Lib.hid (below_grown2 HL8.out hg11 hg1 HL8.out.size)
      have H11 := Lib.hid h11
      clear h11 hg11 hs11
      go_wp2
      exact bodyPost_cell rfl rfl H11.out Tryd.underlying29 rfl info_h32 HZ.out.symm rfl ⟨rfl, HB11.out⟩

set_option maxHeartbeats 2000000 in
theorem rRoot_any (w : World) (A : Option Addr) (n c : Nat) (ps : List Piece) (hn : ps.length = n) (hc : n ≤ c) (hr : Rd w A (ps.map Piece.val)) (hp : ∀ p ∈ ps, p.ok w) (hs : ∀ p ∈ ps, p.b.length ≤ 1000) (hm : n ≤ 65536) (ht : RTab w) :
    Calls Tryd.prog 37 #[.slice A n c] w (HashRes w 0 (rootOf (ps.map Piece.b))) := by
  have HN := Lib.hid hn
  have HT := Lib.hid ht
  have HR := Lib.hid hr
  have HP := Lib.hid hp
  have HS := Lib.hid hs
  obtain ⟨t, htt⟩ : ∃ t, topH (lvs ps) = t := ⟨_, rfl⟩
  have HTT := Lib.hid htt
  have LT := Lib.hid (show t.length = 32 by rw [← htt]; exact topH_len _ _ (Nat.le_refl _) (lvs_32 ps))
  have HRO := Lib.hid (show rootOf (ps.map Piece.b) = rootH n t by rw [← htt]; unfold rootOf lvs; rw [List.length_map, hn, List.map_map]; rfl)
  have HZ := Lib.hid (show (bv (rootH n t)).toArray.size = 32 by rw [List.size_toArray, bv_length, rootH_len])
  have HZT := Lib.hid (show (bv t).toArray.size = 32 by rw [List.size_toArray, bv_length, LT.out])
  clear hn hr hp hs ht htt
  go_enter Tryd.func37, Tryd.ntmps37
  go_wp2_with (with_reducible show wpList _ _ _ (Oper.mk _ (Op.alloc _) _ _ _ _ :: _) _ _; refine wpList_alloc_i rfl 29 rfl (.agg (bv (zer 32)).toArray) zero_hash ?_)
  intro r w1 h1 hl1 hg1 hs1
  have H1 := Lib.hid h1
  have HL1 := Lib.hid hl1
  clear h1 hl1 hs1
  go_wp2_with (first
    | (go_at_call 66; go_must (refine (rLarge_any w1 A n c ps HN.out (HR.out.below HL1.out) HS.out hm).mono ?_); rintro e wx ⟨rfl, rfl⟩)
    | (go_at_call 67; go_must (refine (rTop_any n w1 A n c ps HN.out (Nat.le_refl _) hc (HR.out.below HL1.out) (fun p hp => (HP.out p hp).below HL1.out) HS.out (by omega) (HT.out.below HL1.out HT.out.lt HL1.out.size)).mono ?_); rw [HTT.out]; rintro e w2 ⟨rfl, hl2⟩; have H2 := Lib.hid (H1.out.below hl2 H1.out.lt); have HL2 := Lib.hid (HL1.out.trans (hl2.mono HL1.out.size)); clear hl2)
    | (with_reducible show wpList _ _ _ (Oper.mk _ (Op.alloc _) _ _ _ _ :: _) _ _; refine wpList_alloc_i rfl 29 rfl (.agg (bv (zer 32)).toArray) zero_hash ?_))
  intro r4 w3 h3 hl3 hg3 hs3
  have H3 := Lib.hid h3
  have HL3' := Lib.hid hl3
  have HG3 := Lib.hid hg3
  clear h3 hl3 hg3 hs3
  go_wp2_with (with_reducible show wpList _ _ _ (Oper.mk _ (Op.store 29 _ _) _ _ _ _ :: _) _ _; go_must (refine wpList_store_bk rfl 29 _ _ rfl r4 rfl (.agg (bv t).toArray) rfl _ _ H3.out (by rw [agg_sz HZT.out]; exact info_h32) (by rw [agg_sz HZT.out]; simp [bv, zer]) (by simpa [Value.cells] using bv_one t) ?_))
  intro w4 h4 hg4 hs4
  have HS4 := Lib.hid (below_grown2 HL3'.out hg4 HG3.out HL3'.out.size)
  have H4 := Lib.hid (show Bk w4 r4 (bv t).toArray 29 from h4)
  have HR4 := Lib.hid (H2.out.below HS4.out H2.out.lt)
  have HL4 := Lib.hid (HL2.out.trans (HS4.out.mono HL2.out.size))
  clear h4 hg4 hs4 H3 HL3' HG3 HS4 H2 H1
  go_wp2_with (first
    | (with_reducible show wpList _ _ _ (Oper.mk (some 13) (Op.load 29 _) _ _ _ _ :: _) _ _; go_must (refine wpList_load_part rfl 29 _ rfl r4 0 32 rfl _ _ _ H4.out Tryd.underlying29 rfl info_h32 (by rw [HZT.out]; omega) (bv t).toArray (arr_all HZT.out) ?_))
    | (go_at_call 68; go_must (refine (rRootText_any w4 n t (by omega) LT.out).mono ?_); rintro e w5 ⟨v, rfl, hv5, hl5⟩; have HV5 := Lib.hid hv5; have HR5 := Lib.hid (HR4.out.below hl5 HR4.out.lt); have HL5 := Lib.hid (HL4.out.trans (hl5.mono HL4.out.size)); clear hl5 hv5)
    | (go_at_call 25; go_must (refine (rSum_bs w5 _ v (2 :: (le8 n ++ t)) HV5.out (by simp) (by rw [List.length_cons, List.length_append, le8_len, LT.out]; unfold room46; omega) (HT.out.below HL5.out HT.out.lt HL5.out.size)).mono ?_); rintro e w6 ⟨rfl, hl6⟩; have HR6 := Lib.hid (HR5.out.below hl6 HR5.out.lt); have HL6 := Lib.hid (HL5.out.trans (hl6.mono HL5.out.size)); clear hl6)
    | (with_reducible show wpList _ _ _ (Oper.mk _ (Op.alloc _) _ _ _ _ :: _) _ _; refine wpList_alloc_i rfl 29 rfl (.agg (bv (zer 32)).toArray) zero_hash ?_))
  intro r5 w7 h7 hl7 hg7 hs7
  have H7 := Lib.hid h7
  have HL7' := Lib.hid hl7
  have HG7 := Lib.hid hg7
  clear h7 hl7 hg7 hs7
  go_wp2_with (with_reducible show wpList _ _ _ (Oper.mk _ (Op.store 29 _ _) _ _ _ _ :: _) _ _; go_must (refine wpList_store_bk rfl 29 _ _ rfl r5 rfl (.agg (bv (rootH n t)).toArray) rfl _ _ H7.out (by rw [agg_sz HZ.out]; exact info_h32) (by rw [agg_sz HZ.out]; simp [bv, zer]) (by simpa [Value.cells] using bv_one (rootH n t)) ?_))
  intro w8 h8 hg8 hs8
  have HS8 := Lib.hid (below_grown2 HL7'.out hg8 HG7.out HL7'.out.size)
  have H8 := Lib.hid (show Bk w8 r5 (bv (rootH n t)).toArray 29 from h8)
  have HR8 := Lib.hid (HR6.out.below HS8.out HR6.out.lt)
  have HL8 := Lib.hid (HL6.out.trans (HS8.out.mono HL6.out.size))
  clear h8 hg8 hs8 H7 HL7' HG7 HS8
  go_wp2_with (first
    | (with_reducible show wpList _ _ _ (Oper.mk (some 16) (Op.load 29 _) _ _ _ _ :: _) _ _; go_must (refine wpList_load_part rfl 29 _ rfl r5 0 32 rfl _ _ _ H8.out Tryd.underlying29 rfl info_h32 (by rw [HZ.out]; omega) (bv (rootH n t)).toArray (arr_all HZ.out) ?_))
    | (with_reducible show wpList _ _ _ (Oper.mk _ (Op.store 29 _ _) _ _ _ _ :: _) _ _; go_must (refine wpList_store_bk rfl 29 _ _ rfl r rfl (.agg (bv (rootH n t)).toArray) rfl _ _ HR8.out (by rw [agg_sz HZ.out]; exact info_h32) (by rw [agg_sz HZ.out]; simp [bv, zer]) (by simpa [Value.cells] using bv_one (rootH n t)) ?_)))
  intro w9 h9 hg9 hs9
  have HB := Lib.hid (below_grown2 HL8.out hg9 hg1 HL8.out.size)
  have H9 := Lib.hid h9
  clear h9 hg9 hs9
  go_wp2
  exact bodyPost_ct (x := .int .i64 0) rfl rfl rfl H9.out Tryd.underlying29 rfl info_h32 HZ.out.symm rfl ⟨HB.out, by rw [HRO.out]; unfold hashOr; rw [if_pos rfl]⟩
end Go.Proofs.YtjdegphpalhapaaDoor

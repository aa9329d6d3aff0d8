/-
  The document's digest (assentref02.Sum): it is sha of the bytes. Conditions: the bytes lie in memory; there are not too many; the table of the rounds reads as it was laid.
-/
import Derived.Test.YtjdegphpalhapaaDoorK10
import Derived.Test.YtjdegphpalhapaaDoorKSha4
import Derived.Test.YtjdegphpalhapaaDoorKRef2
import Derived.Deep.DeepCutAuto
import Derived.Deep.CutBlock
namespace Go.Proofs.YtjdegphpalhapaaDoor
set_option linter.unusedSimpArgs false
set_option linter.unusedVariables false
open Go.RowKit
set_option maxRecDepth 100000

theorem built_w8 : Tryd.prog.built 96 [(0, .int .u32 1779033703), (1, .int .u32 3144134277), (2, .int .u32 1013904242), (3, .int .u32 2773480762), (4, .int .u32 1359893119), (5, .int .u32 2600822924), (6, .int .u32 528734635), (7, .int .u32 1541459225)] = some (uv begin256.list).toArray := by kernel_rfl
theorem Bs.apart {w w' : World} {B g : Nat} {v : Value} {l : List UInt8} {cs : Array Value} {t : TypeId} (h : Bs w B v l) (hg : w.grownBy w' (some g)) (hk : Bk w g cs t) (ht : 5 ≠ t) : Bs w' B v l := by
  have hne := own_ne_bk h hk ht
  refine ⟨h.1, h.2.imp id ?_⟩
  rintro ⟨g', cap, cur, hv, hb, hh, rest⟩
  refine ⟨g', cap, cur, hv, hb, (hg.block g' (Array.getElem?_eq_some_iff.1 hh).1 (fun e => hne (by rw [hv]; simp [Value.ownBlock]; injection e with e))).trans hh, rest⟩
/-- the variables of Sum: the result's block, the words' block -/
structure Rx (w0 wr : World) (r bh : Nat) (s : S8) : Prop where
  res : Bk wr r (bv (zer 32)).toArray 29
  hk : Bk wr bh (uv s.list).toArray 96
  ad : Adds wr 0
  be : Below w0.heap.size w0 wr
  lt : w0.heap.size ≤ r ∧ r < bh
theorem Rx.below {w0 wr w' : World} {r bh : Nat} {s : S8} (h : Rx w0 wr r bh s) (hb : Below wr.heap.size wr w') (hG : 0 < w0.heap.size) : Rx w0 w' r bh s := by
  have z := h.be.size
  exact ⟨h.res.below hb h.res.lt, h.hk.below hb h.hk.lt, h.ad.below hb (by omega), h.be.trans (hb.mono z), h.lt⟩
theorem Rx.set {w0 wr w' : World} {r bh : Nat} {s s' : S8} (h : Rx w0 wr r bh s) (hg : wr.grownBy w' (some bh)) (hk : Bk w' bh (uv s'.list).toArray 96) (hG : 0 < w0.heap.size) : Rx w0 w' r bh s' := by
  obtain ⟨h1, h2, h3, h4, h5⟩ := h
  have z := h4.size
  exact ⟨h1.grown hg (by intro e; injection e with e; omega), hk, h3.grown hg (by omega) (by omega), h4.trans ⟨hg.os, hg.tape, hg.output, hg.size, fun k hk => hg.block k (by omega) (fun e => by injection e with e; omega)⟩, h5⟩
theorem Rx.apart {w0 wr w' : World} {r bh b : Nat} {s : S8} (h : Rx w0 wr r bh s) (hg : wr.grownBy w' (some b)) (h1 : bh < b) (h2 : r < b) (hG : 0 < w0.heap.size) (hB : w0.heap.size ≤ b) : Rx w0 w' r bh s := by
  obtain ⟨a1, a2, a3, a4, a5⟩ := h
  have z := a4.size
  exact ⟨a1.grown hg (by intro e; injection e with e; omega), a2.grown hg (by intro e; injection e with e; omega), a3.grown hg (by omega) (by omega), a4.trans ⟨hg.os, hg.tape, hg.output, hg.size, fun k hk => hg.block k (by omega) (fun e => by injection e with e; omega)⟩, a5⟩
theorem Rx.row {w0 wr w' : World} {r bh : Nat} {s : S8} {v : Value} {l : List UInt8} (h : Rx w0 wr r bh s) (hg : wr.grownBy w' v.ownBlock) (hs : Bs wr w0.heap.size v l) (hG : 0 < w0.heap.size) : Rx w0 w' r bh s := by
  obtain ⟨h1, h2, h3, h4, h5⟩ := h
  have z := h4.size
  have n1 := own_ne_bk hs h1 (by decide)
  have n2 := own_ne_bk hs h2 (by decide)
  have n3 := Bs.blk hs
  exact ⟨h1.grown hg (fun e => n1 e.symm), h2.grown hg (fun e => n2 e.symm), h3.eq_ (hg.block _ (by omega) (fun e => by have := n3 _ e.symm; omega)), h4.grown hg z (fun k hk => n3 k hk), h5⟩
theorem Rx.drewR {w0 wr : World} {r bh : Nat} {s : S8} (h : Rx w0 wr r bh s) : Rx w0 wr.drew r bh s := ⟨h.res, h.hk, h.ad, h.be.trans ⟨rfl, rfl, rfl, Nat.le_refl _, fun _ _ => rfl⟩, h.lt⟩
theorem own_cap {w : World} {B n c : Nat} {A : Option Addr} {l : List UInt8} (h : Bs w B (.slice A n c) l) : n ≤ c := by
  obtain ⟨A', c', e⟩ := h.form
  injection e with e1 e2 e3
  rcases h.2 with ⟨hv, hn⟩ | ⟨g', cap, cur, hv, _, _, hc, _⟩
  · injection hv with a1 a2 a3; omega
  · injection hv with a1 a2 a3; omega
theorem eat_next {s : S8} {l : List UInt8} {k : Nat} (h : 64 * k + 64 ≤ l.length) : eat comp s (l.take (64 * (k + 1))) = comp (eat comp s (l.take (64 * k))) ((l.drop (64 * k)).take 64) := by
  have e : l.take (64 * (k + 1)) = l.take (64 * k) ++ (l.drop (64 * k)).take 64 := by
    rw [show 64 * (k + 1) = 64 * k + 64 by omega, List.take_add]
  rw [e, eat_app k s _ _ (by rw [List.length_take]; omega)]
  have hl : ((l.drop (64 * k)).take 64).length = 64 := by rw [List.length_take, List.length_drop]; omega
  generalize (l.drop (64 * k)).take 64 = c at hl ⊢
  have t1 : c.take 64 = c := List.take_of_length_le (by omega)
  have t2 : c.drop 64 = [] := List.drop_eq_nil_of_le (by omega)
  rw [eat_step (l := c) (by omega), t1, t2, eat_short (l := []) (by simp)]
theorem take_rd {w : World} {A : Option Addr} {b : List UInt8} {n : Nat} (h : Rd w A (bv b)) : Rd w A (bv (b.take n)) := fun j u hu => h j u (bv_take rfl hu)
theorem cells8 {w : World} {b : Nat} {s : S8} {t : TypeId} (h : Bk w b (uv s.list).toArray t) : w.cell? ⟨b, 0, none⟩ = some (.int .u32 (uI s.a)) ∧ w.cell? ⟨b, 1, none⟩ = some (.int .u32 (uI s.b)) ∧ w.cell? ⟨b, 2, none⟩ = some (.int .u32 (uI s.c)) ∧ w.cell? ⟨b, 3, none⟩ = some (.int .u32 (uI s.d)) ∧ w.cell? ⟨b, 4, none⟩ = some (.int .u32 (uI s.e)) ∧ w.cell? ⟨b, 5, none⟩ = some (.int .u32 (uI s.f)) ∧ w.cell? ⟨b, 6, none⟩ = some (.int .u32 (uI s.g)) ∧ w.cell? ⟨b, 7, none⟩ = some (.int .u32 (uI s.h)) :=
  ⟨(h.cell 0).trans (state_0 s), (h.cell 1).trans (state_1 s), (h.cell 2).trans (state_2 s), (h.cell 3).trans (state_3 s), (h.cell 4).trans (state_4 s), (h.cell 5).trans (state_5 s), (h.cell 6).trans (state_6 s), (h.cell 7).trans (state_7 s)⟩

set_option maxHeartbeats 4000000 in
theorem rSum_any (w : World) (ad : Addr) (n cp : Nat) (b : List UInt8) (hn : b.length = n) (hcp : n ≤ cp) (hr : Rd w (some ad) (bv b)) (hb : n + 200 ≤ room46) (ha : Adds w 0) (hG : 0 < w.heap.size) :
    Calls Tryd.prog 25 #[.slice (some ad) n cp] w fun e w' => e = .returned (.agg (bv (sha b)).toArray) ∧ Below w.heap.size w w' := by
  have HN := Lib.hid hn
  have HR := Lib.hid hr
  have HA := Lib.hid ha
  unfold room46 at hb
  clear hn hr ha
  go_enter Tryd.func25, Tryd.ntmps25
  go_wp2_with (with_reducible show wpList _ _ _ (Oper.mk _ (Op.alloc _) _ _ _ _ :: _) _ _; refine wpList_alloc_i rfl 29 rfl (.agg (bv (zer 32)).toArray) zero_hash ?_)
  intro r w1 h1 hl1 hg1 hs1
  go_wp2_with (first
    | (with_reducible show wpList _ _ _ (Oper.mk _ (Op.build _ _) _ _ _ _ :: _) _ _; go_must (refine wpList_buildv rfl 96 [(0, .const (.int .u32 1779033703)), (1, .const (.int .u32 3144134277)), (2, .const (.int .u32 1013904242)), (3, .const (.int .u32 2773480762)), (4, .const (.int .u32 1359893119)), (5, .const (.int .u32 2600822924)), (6, .const (.int .u32 528734635)), (7, .const (.int .u32 1541459225))] rfl [(0, .int .u32 1779033703), (1, .int .u32 3144134277), (2, .int .u32 1013904242), (3, .int .u32 2773480762), (4, .int .u32 1359893119), (5, .int .u32 2600822924), (6, .int .u32 528734635), (7, .int .u32 1541459225)] rfl _ built_w8 ?_))
    | (with_reducible show wpList _ _ _ (Oper.mk _ (Op.alloc _) _ _ _ _ :: _) _ _; refine wpList_alloc_i rfl 96 rfl (.agg (zerosU 8).toArray) zero_w8 ?_))
  intro bh w2 h2 hl2 hg2 hs2
  go_wp2_with (with_reducible show wpList _ _ _ (Oper.mk _ (Op.store 96 _ _) _ _ _ _ :: _) _ _; go_must (refine wpList_store_bk rfl 96 _ _ rfl bh rfl (.agg (uv begin256.list).toArray) rfl _ _ h2 (by rw [size_state]; exact info_w8) (by rw [size_state]; simp [zerosU]) (uv_one _) ?_))
  intro w3 h3 hg3 hs3
  have HX := Lib.hid (show Rx w w3 r bh begin256 from by
    have z1 := hl1.size
    have z2 := hl2.size
    exact ⟨(h1.below hl2 h1.lt).grown hg3 (by intro e; injection e with e; omega), h3, ((HA.out.below hl1 hG).below hl2 (by omega)).grown hg3 (by omega) (by omega), (hl1.trans (hl2.mono z1)).trans ⟨hg3.os, hg3.tape, hg3.output, hg3.size, fun k hk => hg3.block k (by omega) (fun e => by injection e with e; omega)⟩, by omega⟩)
  clear h1 hl1 hg1 hs1 h2 hl2 hg2 hs2 h3 hg3 hs3 HA
  go_wp2
  go_loopw [4] (fun i wr => ∃ k : Nat, 64 * k ≤ n ∧ i = .int .i64 (64 * (k : Int)) ∧ Rx w wr r bh (eat comp begin256 (b.take (64 * k)))) (fun i _ => n - (intOf i).toNat)
  case atStart => exact ⟨0, by omega, rfl, by rw [Nat.mul_zero, List.take_zero, eat_short (by simp)]; exact HX.out⟩
  case round =>
    clear HX
    obtain ⟨k, hk, rfl, X⟩ := hrel
    obtain ⟨s, hs⟩ : ∃ s, eat comp begin256 (b.take (64 * k)) = s := ⟨_, rfl⟩
    rw [hs] at X
    have HSS := Lib.hid hs
    have HX := Lib.hid X
    clear hs X
    by_cases hlt : 64 * k + 64 ≤ n
    · -- [1
      obtain ⟨c0, c1, c2, c3, c4, c5, c6, c7⟩ := cells8 HX.out.hk
      have i1 : 64 * (k : Int) + 64 ≤ n := by omega
      have i2 : (64 * (k : Int)).toNat = 64 * k := by omega
      have i3 : (64 * (k : Int) + 64).toNat = 64 * k + 64 := by omega
      have i4 : (0 : Int) ≤ 64 * (k : Int) := by omega
      have i5 : (64 * (k : Int)) ≤ 64 * (k : Int) + 64 := by omega
      have i6 : IntKind.i64.wrap (64 * (k : Int) + 64) = 64 * (k : Int) + 64 := by rw [IntKind.wrap_i64]; omega
      have i7 : ¬ (cp = 64 * k) := by omega
      have i8 : (64 * (k : Int) + 64) ≤ cp := by omega
      have i9 : 64 * k + 64 - 64 * k = 64 := by omega
      go_wp2
      go_still_tail 6, (by kernel_rfl)
      change wpList _ _ _ _ _ wr.drew
      clear c0 c1 c2 c3 c4 c5 c6 c7 i2 i3 i4 i5 i7 i8 i9
      go_wp2_with fail
      refine (block_any wr.drew s (some (ad.add (64 * k))) (cp - 64 * k) ((b.drop (64 * k)).take 64) (by rw [List.length_take, List.length_drop, HN.out]; omega) (take_rd (drop_rd (w := wr.drew) (HR.out.below HX.out.drewR.be))) (Adds.eq_ HX.out.ad rfl) (Nat.lt_of_lt_of_le hG HX.out.be.size)).mono ?_
      rintro en w5 ⟨rfl, hb5⟩
      have HX5 := Lib.hid (Rx.below (wr := wr.drew) (HX.out.drewR) hb5 hG)
      clear hb5 HX
      go_wp2_with (with_reducible show wpList _ _ _ (Oper.mk _ (Op.store 96 _ _) _ _ _ _ :: _) _ _; go_must (refine wpList_store_bk rfl 96 _ _ rfl bh rfl (.agg (uv (comp s ((b.drop (64 * k)).take 64)).list).toArray) rfl _ _ HX5.out.hk (by rw [size_state]; exact info_w8) (by rw [size_state, arr_state]) (uv_one _) ?_))
      intro w6 h6 hg6 hs6
      have HX6 := Lib.hid (show Rx w w6 r bh (eat comp begin256 (b.take (64 * (k + 1)))) from by
        rw [eat_next (by rw [HN.out]; exact hlt), HSS.out]
        exact HX5.out.set hg6 h6 hG)
      clear h6 hg6 hs6 HX5
      go_wp2
      go_roundw
      case rel => first | exact ⟨k + 1, by omega, by push_cast; go_num, HX6.out⟩ | ((repeat apply Exists.intro); exact ⟨⟨k + 1, by omega, by go_num, HX6.out⟩, rfl⟩)
      case measure => simp [intOf]; omega
      -- ]1
    · have hj : n < 64 * k + 64 := by omega
      have j1 : (n : Int) < 64 * (k : Int) + 64 := by omega
      have j2 : IntKind.i64.wrap (64 * (k : Int) + 64) = 64 * (k : Int) + 64 := by rw [IntKind.wrap_i64]; omega
      have j3 : (64 * (k : Int)).toNat = 64 * k := by omega
      have j4 : (0 : Int) ≤ 64 * (k : Int) := by omega
      have j5 : 64 * (k : Int) ≤ n := by omega
      clear hlt
      go_upto_region 7 with fail
      go_cut [5] (fun v5 wx => Rx w wx r bh s ∧ Bs wx w.heap.size v5 (b.drop (64 * k)))
      case first =>
        have hdl : (b.drop (64 * k)).length = n - 64 * k := by rw [List.length_drop, HN.out]
        by_cases hc : cp = 64 * k
        · have hc2 : b.drop (64 * k) = [] := List.drop_eq_nil_of_le (by rw [HN.out]; omega)
          have HC2 := Lib.hid hc2
          have HDL := Lib.hid hdl
          have hcT : (cp = 64 * k) = True := by simp [hc]
          clear hc2 hdl hc
          go_wp2_with (at_builtin; go_must (refine wpList_app rfl _ _ rfl w.heap.size _ [] rfl (Bs.nil _ _) _ _ _ (b.drop (64 * k)) rfl (by rw [HDL.out]) (by rw [HC2.out]; exact Rd.nil _ _) (by rw [HDL.out]; unfold reach47; simp; omega) HX.out.be.size ?_); intro A' c' w1 hown1 hg1 hat1)
          go_meet
          exact ⟨HX.out.row hg1 (Bs.nil _ _) hG, by have h9 := hown1; simp only [List.nil_append, List.length_nil, Nat.zero_add] at h9; exact h9⟩
        · have HDL := Lib.hid hdl
          clear hdl
          go_wp2_with (at_builtin; go_must (refine wpList_app rfl _ _ rfl w.heap.size _ [] rfl (Bs.nil _ _) _ _ _ (b.drop (64 * k)) rfl (by rw [HDL.out]) (drop_rd (HR.out.below HX.out.be)) (by rw [HDL.out]; unfold reach47; simp; omega) HX.out.be.size ?_); intro A' c' w1 hown1 hg1 hat1)
          go_meet
          exact ⟨HX.out.row hg1 (Bs.nil _ _) hG, by have h9 := hown1; simp only [List.nil_append, List.length_nil, Nat.zero_add] at h9; exact h9⟩
      case rest =>
        obtain ⟨X5, own5⟩ := hcut
        have hrest : b.drop (64 * k) = rest b := by unfold rest; rw [HN.out, show 64 * (n / 64) = 64 * k by omega]
        have hse : eat comp begin256 b = s := by
          rw [← HSS.out, ← eat_full]
          congr 1
          unfold full
          rw [HN.out, show 64 * (n / 64) = 64 * k by omega]
        rw [hrest] at own5
        obtain ⟨A5, c5, rfl⟩ := own5.form
        obtain ⟨m5, hm5⟩ : ∃ m, (rest b).length = m := ⟨_, rfl⟩
        have hm6 : m5 = n % 64 := by rw [← hm5, rest_len, HN.out]
        have HM6 := Lib.hid hm6
        have HM5 := Lib.hid hm5
        have HSE := Lib.hid hse
        have HX5 := Lib.hid X5
        rw [hm5] at own5
        have HO5 := Lib.hid own5
        have hm64 : m5 < 64 := by omega
        rw [hm5]
        clear HX HSS hrest hse own5 X5 hm5 hm6 j1 j2 j3 j4 j5
        go_upto_region 8 with fail
        have hr8 := rd_lit wc #[.int .u8 128] [128] rfl
        go_wp2_with (at_builtin; go_must (refine wpList_app rfl _ _ rfl w.heap.size _ (rest b) rfl (Bs.alloc HO5.out _) _ 1 1 [128] rfl rfl hr8 (by rw [HM5.out]; unfold reach47; simp; omega) (by have := HX5.out.be.size; simp; omega) ?_); intro A6 c6 w6 own6 hg6 hat6)
        rw [HM5.out] at own6
        have HX6 := Lib.hid (Rx.row (HX5.out.below ((Below.refl _ _).alloc (Nat.le_refl _) _) hG) hg6 (Bs.alloc HO5.out _) hG)
        have HO6 := Lib.hid own6
        rw [HM5.out]
        clear own6 hg6 hat6 hr8 HX5 HO5
        go_loopw [5] (fun v wr => ∃ j : Nat, j ≤ gap n ∧ Rx w wr r bh s ∧ Bs wr w.heap.size v (rest b ++ [128] ++ zer j)) (fun v _ => match v with | .slice _ m _ => (120 - m % 64) % 64 | _ => 0)
        case atStart => exact ⟨0, by omega, HX6.out, by simpa [zer] using HO6.out⟩
        case round =>
          clear HX6 HO6
          obtain ⟨j, hj, X7, own7⟩ := hrel
          obtain ⟨A7, c7, rfl⟩ := own7.form
          have hlen : (rest b ++ [128] ++ zer j).length = m5 + 1 + j := by simp [zer, HM5.out]; omega
          have HLEN := Lib.hid hlen
          rw [hlen] at own7 ⊢
          have HX7 := Lib.hid X7
          have HO7 := Lib.hid own7
          have hg64 : gap n ≤ 64 := by unfold gap; omega
          have hmm := HM6.out
          clear X7 own7 hlen
          by_cases hlt : j < gap n
          · have hne : (m5 + 1 + j) % 64 ≠ 56 := by
              have := (gap_lt hlt).2
              omega
            obtain ⟨M, hM⟩ : ∃ M, m5 + 1 + j = M := ⟨_, rfl⟩
            have HMM := Lib.hid hM
            rw [hM] at hne HO7 ⊢
            have hMb : M < 200 := by omega
            obtain ⟨q, hq⟩ : ∃ q, M % 64 = q := ⟨_, rfl⟩
            rw [hq] at hne
            have HQ := Lib.hid hq
            have q1 : ((M : Int) % 64) = (q : Int) := by omega
            have q2 : ((q : Int) != 56) = true := by simp; omega
            have q3 : ((q : Int) == 56) = false := by simp; omega
            clear hM hq hmm
            have hr9 := rd_lit wr #[.int .u8 0] [0] rfl
            go_wp2_with (at_builtin; go_must (refine wpList_app rfl _ _ rfl w.heap.size _ (rest b ++ [128] ++ zer j) rfl (Bs.alloc HO7.out _) _ 1 1 [0] rfl rfl hr9 (by rw [HLEN.out]; unfold reach47; simp; omega) (by have := HX7.out.be.size; simp; omega) ?_); intro A8 c8 w8 own8 hg8 hat8)
            rw [HLEN.out] at own8
            have HX8 := Lib.hid (Rx.row (HX7.out.below ((Below.refl _ _).alloc (Nat.le_refl _) _) hG) hg8 (Bs.alloc HO7.out _) hG)
            have HO8 := Lib.hid own8
            have e9 : (rest b).length + ((zer j).length + 1) + 1 = M + 1 := by have := HMM.out; have := HM5.out; simp only [zer, List.length_replicate]; omega
            have e10 : rest b ++ [128] ++ zer j ++ [0] = rest b ++ [128] ++ zer (j + 1) := by
              have e11 : zer (j + 1) = zer j ++ [0] := by unfold zer; rw [List.replicate_succ']
              rw [e11, ← List.append_assoc]
            have e12 : m5 + 1 + j + 1 = M + 1 := by have := HMM.out; omega
            rw [e9]
            refine ⟨⟨j + 1, by omega, HX8.out, ?_⟩, ?_⟩
            · have h9 := HO8.out
              rw [e10, e12] at h9
              exact h9
            · show (120 - (M + 1) % 64) % 64 < (120 - M % 64) % 64
              have := HQ.out
              omega
          · have hjg : j = gap n := by omega
            subst hjg
            have h56 : (m5 + 1 + gap n) % 64 = 56 := by have := gap_fits n; omega
            obtain ⟨M, hM⟩ : ∃ M, m5 + 1 + gap n = M := ⟨_, rfl⟩
            rw [hM] at HO7 HLEN h56 ⊢
            have hMb : M < 200 := by omega
            have q1 : ((M : Int) % 64) = 56 := by omega
            obtain ⟨l3, hl3⟩ : ∃ l3, rest b ++ [128] ++ zer (gap n) = l3 := ⟨_, rfl⟩
            rw [hl3] at HO7 HLEN
            obtain ⟨tl, htl⟩ : ∃ tl, tail8 (UInt64.ofNat (n * 8)) = tl := ⟨_, rfl⟩
            have HTL := Lib.hid htl
            have HTN := Lib.hid (show tl.length = 8 by rw [← htl]; rfl)
            have HL3 := Lib.hid hl3
            have H56 := Lib.hid h56
            have e8 : IntKind.u64.wrap ((n : Int) * 8) = (n : Int) * 8 := by rw [IntKind.wrap_u64]; omega
            have e7 : IntKind.u64.wrap (n : Int) = n := by rw [IntKind.wrap_u64]; omega
            clear hlt hj hM hl3 htl h56 hmm
            go_wp2
            go_loopw [5, 7] (fun v i wr => ∃ j : Nat, j ≤ 8 ∧ i = .int .i64 (7 - (j : Int)) ∧ Rx w wr r bh s ∧ Bs wr w.heap.size v (l3 ++ tl.take j)) (fun _ i _ => (intOf i + 1).toNat)
            case atStart => exact ⟨0, by omega, rfl, HX7.out, by simpa using HO7.out⟩
            case round =>
              clear HX7 HO7 e8 e7 q1
              obtain ⟨j, hj, rfl, X7, own7⟩ := hrel
              obtain ⟨A7, c7, rfl⟩ := own7.form
              have hlen : (l3 ++ tl.take j).length = M + j := by rw [List.length_append, HLEN.out, List.length_take, HTN.out]; omega
              have HLJ := Lib.hid hlen
              rw [hlen] at own7 ⊢
              have HX7 := Lib.hid X7
              have HO7 := Lib.hid own7
              clear X7 own7 hlen
              by_cases hlt : j < 8
              · have p0 : (0 : Int) ≤ 7 - (j : Int) := by omega
                have p1 : (0 : Int) ≤ 8 * (7 - (j : Int)) := by omega
                have p2 : 8 * (7 - (j : Int)) ≤ 64 := by omega
                obtain ⟨y, hy⟩ : ∃ y, tl.getD j 0 = y := ⟨_, rfl⟩
                have hv : (n : Int) * 8 / 2 ^ (8 * (7 - j)) % 256 = (y.toNat : Int) := by
                  rw [← hy, ← HTL.out, ← tail8_int' n (by omega) j hlt, show 8 * (7 - j) = 56 - 8 * j by omega]
                have hr9 := rd_lit wr #[.int .u8 ((n : Int) * 8 / 2 ^ (8 * (7 - j)) % 256)] [y] (by rw [hv]; rfl)
                have HR9 := Lib.hid hr9
                have HTJ := Lib.hid (show tl.take (j + 1) = tl.take j ++ [y] by
                  rw [← hy, List.take_succ_eq_append_getElem (by rw [HTN.out]; exact hlt), List.getD_eq_getElem?_getD, List.getElem?_eq_getElem (by rw [HTN.out]; exact hlt)]
                  rfl)
                clear hy hv hr9
                go_wp2_with (at_builtin; go_must (refine wpList_app rfl _ _ rfl w.heap.size _ (l3 ++ tl.take j) rfl (Bs.alloc HO7.out _) _ 1 1 [y] rfl rfl HR9.out (by rw [HLJ.out]; unfold reach47; simp; omega) (by have := HX7.out.be.size; simp; omega) ?_); intro A8 c8 w8 own8 hg8 hat8)
                rw [HLJ.out] at own8
                have HX8 := Lib.hid (Rx.row (HX7.out.below ((Below.refl _ _).alloc (Nat.le_refl _) _) hG) hg8 (Bs.alloc HO7.out _) hG)
                have HO8 := Lib.hid own8
                have e9 : l3.length + min j tl.length + 1 = M + j + 1 := by
                  have h1 := HLJ.out
                  rw [List.length_append, List.length_take] at h1
                  omega
                rw [e9]
                refine ⟨⟨j + 1, by omega, by congr 1; omega, HX8.out, ?_⟩, by simp [intOf]; omega⟩
                rw [HTJ.out, ← List.append_assoc]
                exact HO8.out
              · have hj8 : j = 8 := by omega
                subst hj8
                have e4 : tl.take 8 = tl := List.take_of_length_le (by rw [HTN.out]; exact Nat.le_refl _)
                rw [e4] at HO7 HLJ
                obtain ⟨l4, hl4⟩ : ∃ l4, l3 ++ tl = l4 := ⟨_, rfl⟩
                rw [hl4] at HO7 HLJ
                have HL4 := Lib.hid hl4
                clear hlt hj e4 hl4
                have hm8 : M + 8 ≤ 300 := by omega
                have hm9 : (M + 8) % 64 = 0 := by have := H56.out; omega
                have HM9 := Lib.hid hm9
                clear hm9
                go_wp2
                go_loopw [8] (fun i wr => ∃ j : Nat, 64 * j ≤ M + 8 ∧ i = .int .i64 (64 * (j : Int)) ∧ Rx w wr r bh (eat comp s (l4.take (64 * j))) ∧ Bs wr w.heap.size (.slice A7 (M + 8) c7) l4) (fun i _ => M + 8 - (intOf i).toNat)
                case atStart => exact ⟨0, by omega, rfl, by rw [Nat.mul_zero, List.take_zero, eat_short (by simp)]; exact HX7.out, HO7.out⟩
                case round =>
                  clear HX7 HO7
                  obtain ⟨j, hj, rfl, X8, own8⟩ := hrel
                  obtain ⟨s4, hs4⟩ : ∃ s4, eat comp s (l4.take (64 * j)) = s4 := ⟨_, rfl⟩
                  rw [hs4] at X8
                  have HS4 := Lib.hid hs4
                  have HX8 := Lib.hid X8
                  have HO8 := Lib.hid own8
                  clear hs4 X8 own8
                  by_cases hlt : 64 * j < M + 8
                  · have hj64 : 64 * j + 64 ≤ M + 8 := by have := HM9.out; omega
                    have hr4 := (HO8.out).rd
                    obtain ⟨ad4, hA4, hx4⟩ := hr4.at_ (j := 0) (by rw [bv_length, HLJ.out]; omega)
                    subst hA4
                    have HR4 := Lib.hid hr4
                    clear hx4 hr4
                    obtain ⟨c0, c1, c2, c3, c4, c5x, c6x, c7x⟩ := cells8 HX8.out.hk
                    have hcap : M + 8 ≤ c7 := own_cap HO8.out
                    have i1 : 64 * (j : Int) + 64 ≤ (M : Int) + 8 := by omega
                    have i1b : 64 * (j : Int) < (M : Int) + 8 := by omega
                    have i2 : (64 * (j : Int)).toNat = 64 * j := by omega
                    have i3 : (64 * (j : Int) + 64).toNat = 64 * j + 64 := by omega
                    have i4 : (0 : Int) ≤ 64 * (j : Int) := by omega
                    have i5 : (64 * (j : Int)) ≤ 64 * (j : Int) + 64 := by omega
                    have i6 : IntKind.i64.wrap (64 * (j : Int) + 64) = 64 * (j : Int) + 64 := by rw [IntKind.wrap_i64]; omega
                    have i7 : ¬ (c7 = 64 * j) := by omega
                    have i8 : (64 * (j : Int) + 64) ≤ c7 := by omega
                    have i9 : 64 * j + 64 - 64 * j = 64 := by omega
                    go_wp2
                    go_still_tail 6, (by kernel_rfl)
                    change wpList _ _ _ _ _ wr.drew
                    clear c0 c1 c2 c3 c4 c5x c6x c7x i2 i3 i4 i5 i7 i8 i9
                    go_wp2_with fail
                    refine (block_any wr.drew s4 (some (ad4.add (64 * j))) (c7 - 64 * j) ((l4.drop (64 * j)).take 64) (by rw [List.length_take, List.length_drop, HLJ.out]; omega) (take_rd (drop_rd (w := wr.drew) HR4.out)) (Adds.eq_ HX8.out.ad rfl) (Nat.lt_of_lt_of_le hG HX8.out.be.size)).mono ?_
                    rintro en w5 ⟨rfl, hb5⟩
                    have HX5 := Lib.hid (Rx.below (wr := wr.drew) (HX8.out.drewR) hb5 hG)
                    have HO5 := Lib.hid (Bs.below (w := wr.drew) HO8.out hb5)
                    clear hb5 HX8 HO8
                    go_wp2_with (with_reducible show wpList _ _ _ (Oper.mk _ (Op.store 96 _ _) _ _ _ _ :: _) _ _; go_must (refine wpList_store_bk rfl 96 _ _ rfl bh rfl (.agg (uv (comp s4 ((l4.drop (64 * j)).take 64)).list).toArray) rfl _ _ HX5.out.hk (by rw [size_state]; exact info_w8) (by rw [size_state, arr_state]) (uv_one _) ?_))
                    intro w6 h6 hg6 hs6
                    have HX6 := Lib.hid (show Rx w w6 r bh (eat comp s (l4.take (64 * (j + 1)))) from by
                      rw [eat_next (by rw [HLJ.out]; exact hj64), HS4.out]
                      exact HX5.out.set hg6 h6 hG)
                    have HO6 := Lib.hid (Bs.apart HO5.out hg6 HX5.out.hk (by decide))
                    clear h6 hg6 hs6 HX5 HO5
                    go_wp2
                    go_roundw
                    case rel => first | exact ⟨j + 1, by omega, by push_cast; go_num, HX6.out, HO6.out⟩ | ((repeat apply Exists.intro); exact ⟨⟨j + 1, by omega, by go_num, HX6.out, HO6.out⟩, rfl⟩)
                    case measure => simp [intOf]; omega
                  · have hjj : 64 * j = M + 8 := by omega
                    have jj : 64 * (j : Int) = (M : Int) + 8 := by omega
                    have e5 : l4.take (64 * j) = l4 := List.take_of_length_le (by rw [HLJ.out, hjj]; exact Nat.le_refl _)
                    rw [e5] at HS4
                    have HSH := Lib.hid (show sha b = s4.bytes from by
                      rw [sha, ← HS4.out, ← HSE.out, ← HL4.out, ← HL3.out, ← HTL.out]
                      congr 1
                      have e6 : shaPad b = b ++ ([128] ++ zer (gap n) ++ tail8 (UInt64.ofNat (n * 8))) := by unfold shaPad zer; rw [HN.out]
                      rw [e6, ← eat_more]
                      simp only [List.append_assoc])
                    clear hlt e5 hj
                    have jT : (64 * (j : Int) < (M : Int) + 8) = False := by simp; omega
                    go_wp2_with (with_reducible show wpList _ _ _ (Oper.mk _ (Op.alloc _) _ _ _ _ :: _) _ _; refine wpList_alloc_i rfl 29 rfl (.agg (bv (zer 32)).toArray) zero_hash ?_)
                    intro b9 w9 h9 hl9 hg9 hs9
                    have HX9 := Lib.hid (HX8.out.below hl9 hG)
                    have H9 := Lib.hid h9
                    have HE9 := Lib.hid (show bh < b9 ∧ r < b9 ∧ w.heap.size ≤ b9 by have := HX8.out.hk.lt; have := HX8.out.res.lt; have := HX8.out.be.size; omega)
                    have HB9 := Lib.hid (s4.bytes_len)
                    clear h9 hl9 hg9 hs9 HX8 HO8 jT
                    go_wp2
                    go_loopw [10] (fun i wr => ∃ k : Nat, k ≤ 32 ∧ i = .int .i64 k ∧ Rx w wr r bh s4 ∧ Bk wr b9 (bv (s4.bytes.take k ++ zer (32 - k))).toArray 29) (fun i _ => 32 - (intOf i).toNat)
                    case atStart => exact ⟨0, by omega, rfl, HX9.out, H9.out⟩
                    case round =>
                      clear HX9 H9
                      obtain ⟨i, hi, rfl, X9, h9⟩ := hrel
                      have HX9 := Lib.hid X9
                      have H9 := Lib.hid h9
                      clear X9 h9
                      by_cases hlt : i < 32
                      · have hq : i / 4 < 8 := by omega
                        have x4 := (HX9.out.hk.cell (i / 4)).trans (words_at (l := s4.list) hq)
                        obtain ⟨x, hx⟩ : ∃ x, s4.list.getD (i / 4) 0 = x := ⟨_, rfl⟩
                        rw [hx] at x4
                        have HXX := Lib.hid hx
                        obtain ⟨iq, hiq⟩ : ∃ q, i / 4 = q := ⟨_, rfl⟩
                        obtain ⟨ir, hir⟩ : ∃ q, i % 4 = q := ⟨_, rfl⟩
                        rw [hiq] at x4
                        have HIQ := Lib.hid hiq
                        have HIR := Lib.hid hir
                        have d1 : ((i : Int) / 4) = (iq : Int) := by omega
                        have d2 : ((i : Int) % 4) = (ir : Int) := by omega
                        have d3 : (iq : Int) < 8 := by omega
                        have d4 : (ir : Int) < 4 := by omega
                        have d5 : (0 : Int) ≤ 24 - 8 * (ir : Int) := by omega
                        have d6 : 24 - 8 * (ir : Int) ≤ 32 := by omega
                        have li : (i : Int) < 32 := by omega
                        have li2 : (0 : Int) ≤ (i : Int) := by omega
                        clear hx hiq hir hq
                        go_wp2_with (with_reducible show wpList _ _ _ (Oper.mk _ (Op.store 5 _ _) _ _ _ _ :: _) _ _; go_must (refine wpList_store_w rfl 5 _ _ rfl b9 i rfl _ _ rfl _ _ H9.out info_su8 (by rw [bytes_size HB9.out (by omega)]; omega) ?_))
                        intro w10 h10 hg10 hs10
                        have hb : s4.bytes.getD i 0 = (bytes4 x).getD ir 0 := by
                          have h1 := bytes_at s4 iq ir (by omega) (by omega)
                          have h2 : 4 * iq + ir = i := by have := HIQ.out; have := HIR.out; omega
                          rw [h2] at h1
                          rw [h1, ← HIQ.out, HXX.out]
                        have H10 := Lib.hid (show Bk w10 b9 (bv (s4.bytes.take (i + 1) ++ zer (32 - (i + 1)))).toArray 29 from by
                          rw [← splice_bytes i HB9.out hlt, hb, ← byte4_int' x ir (by omega)]
                          exact h10)
                        have HX10 := Lib.hid (HX9.out.apart hg10 HE9.out.1 HE9.out.2.1 hG HE9.out.2.2)
                        clear h10 hg10 hs10 HX9 H9 d1 d2 d3 d4 d5 d6 li2 x4 hb
                        go_wp2
                        go_roundw
                        case rel => first | exact ⟨i + 1, by omega, by go_num, HX10.out, H10.out⟩ | ((repeat apply Exists.intro); exact ⟨⟨i + 1, by omega, by go_num, HX10.out, H10.out⟩, rfl⟩)
                        case measure => simp [intOf]; omega
                      · have hi32 : i = 32 := by omega
                        subst hi32
                        clear hlt hi
                        have HF := Lib.hid (show Bk wr b9 (bv s4.bytes).toArray 29 from by
                          have e : s4.bytes.take 32 ++ zer (32 - 32) = s4.bytes := by rw [List.take_of_length_le (by rw [HB9.out]; exact Nat.le_refl _)]; simp [zer]
                          rw [← e]; exact H9.out)
                        have HZ := Lib.hid (show (bv s4.bytes).toArray.size = 32 by rw [List.size_toArray, bv_length, HB9.out])
                        go_wp2_with (first
                          | (with_reducible show wpList _ _ _ (Oper.mk _ (Op.load 29 _) _ _ _ _ :: _) _ _; go_must (refine wpList_load_part rfl 29 _ rfl b9 0 32 rfl _ _ _ HF.out Tryd.underlying29 rfl info_h32 (by rw [HZ.out]; decide) _ (ext_all HZ.out) ?_))
                          | (with_reducible show wpList _ _ _ (Oper.mk _ (Op.store 29 _ _) _ _ _ _ :: _) _ _; go_must (refine wpList_store_bk rfl 29 _ _ rfl r rfl (.agg (bv s4.bytes).toArray) rfl _ _ HX9.out.res (by rw [agg_sz HZ.out]; exact info_h32) (by rw [agg_sz HZ.out]; simp [bv, zer]) (by simpa [Value.cells] using bv_one s4.bytes) ?_)))
                        intro w11 h11 hg11 hs11
                        have HB11 := Lib.hid (below_grown2 HX9.out.be hg11 HX9.out.lt.1 HX9.out.be.size)
                        have H11 := Lib.hid h11
                        clear h11 hg11 hs11
                        go_wp2
                        rw [HSH.out]
                        exact bodyPost_cell rfl rfl H11.out Tryd.underlying29 rfl info_h32 HZ.out.symm rfl ⟨rfl, HB11.out⟩
end Go.Proofs.YtjdegphpalhapaaDoor

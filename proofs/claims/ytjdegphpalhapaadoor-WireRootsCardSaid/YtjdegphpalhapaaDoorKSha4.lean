/-
  The compression of one chunk: the document's block (assentref02): it comes to what package digest's mix comes to.
-/
import Derived.Test.YtjdegphpalhapaaDoorKSha3
import Derived.Deep.Cut
namespace Go.Proofs.YtjdegphpalhapaaDoor
set_option linter.unusedSimpArgs false
set_option linter.unusedVariables false
open Go.RowKit
set_option maxRecDepth 100000

/-- the variables of block -/
structure Nx (w0 wr : World) (b0 b2 b3 : Nat) (S R W : Array Value) : Prop where
  k0 : Bk wr b0 S 96
  k2 : Bk wr b2 R 96
  k3 : Bk wr b3 W 134
  ad : Adds wr 0
  be : Below w0.heap.size w0 wr
theorem zero_w8 : (Tryd.prog.info? 96).bind (·.zero) = some (.agg (zerosU 8).toArray) := by kernel_rfl
theorem info_w8 : (Tryd.prog.info? 96).map (·.size) = some 8 := by kernel_rfl
theorem Nx.w3 {w0 wr w5 : World} {b0 b2 b3 : Nat} {S R W W' : Array Value} (M : Nx w0 wr b0 b2 b3 S R W) (hlt : b0 < b2 ∧ b2 < b3 ∧ w0.heap.size ≤ b0) (hG : 0 < w0.heap.size)
    (hg : wr.drew.grownBy w5 (some b3)) (hk : Bk w5 b3 W' 134) : Nx w0 w5 b0 b2 b3 S R W' := by
  have hs := M.be.size
  refine ⟨?_, ?_, hk, ?_, ?_⟩
  · exact Bk.grown (w := wr.drew) M.k0 hg (by intro e; injection e with e; omega)
  · exact Bk.grown (w := wr.drew) M.k2 hg (by intro e; injection e with e; omega)
  · exact M.ad.eq_ (hg.block _ (by show _ < wr.heap.size; omega) (by intro e; injection e with e; omega))
  · exact below_grown M.be hg (by omega) hs
theorem Nx.drewN {w0 wr : World} {b0 b2 b3 : Nat} {S R W : Array Value} (M : Nx w0 wr b0 b2 b3 S R W) (n : Nat) : Nx w0 (wr.drewN n) b0 b2 b3 S R W :=
  ⟨M.k0, M.k2, M.k3, M.ad, M.be.trans ⟨rfl, rfl, rfl, Nat.le_refl _, fun _ _ => rfl⟩⟩
/-- and the variable v -/
structure Ny (w0 wr : World) (b0 b2 b3 b4 : Nat) (S R W V : Array Value) : Prop extends Nx w0 wr b0 b2 b3 S R W where
  k4 : Bk wr b4 V 96
  lt : b0 < b4 ∧ b2 < b4 ∧ b3 < b4 ∧ 0 < b4 ∧ w0.heap.size ≤ b4
theorem Nx.new {w0 wr w5 : World} {b0 b2 b3 b4 : Nat} {S R W V : Array Value} (M : Nx w0 wr b0 b2 b3 S R W) (hl : Below wr.heap.size wr w5) (hs : b4 < w5.heap.size) (hg : wr.heap.size ≤ b4) (h : Bk w5 b4 V 96) (hG : 0 < w0.heap.size) : Ny w0 w5 b0 b2 b3 b4 S R W V := by
  have a0 := M.k0.lt
  have a2 := M.k2.lt
  have a3 := M.k3.lt
  have a4 := M.be.size
  exact ⟨⟨M.k0.below hl a0, M.k2.below hl a2, M.k3.below hl a3, M.ad.below hl (by omega), M.be.trans (hl.mono a4)⟩, h, by omega⟩
theorem Ny.w4 {w0 wr w5 : World} {b0 b2 b3 b4 : Nat} {S R W V V' : Array Value} (M : Ny w0 wr b0 b2 b3 b4 S R W V) (hg : wr.grownBy w5 (some b4)) (h : Bk w5 b4 V' 96) : Ny w0 w5 b0 b2 b3 b4 S R W V' := by
  obtain ⟨⟨k0, k2, k3, ad, be⟩, k4, lt⟩ := M
  have l4 := k4.lt
  refine ⟨⟨k0.grown hg (by intro e; injection e with e; omega), k2.grown hg (by intro e; injection e with e; omega), k3.grown hg (by intro e; injection e with e; omega), ad.eq_ (hg.block _ (by omega) (by intro e; injection e with e; omega)), ?_⟩, h, lt⟩
  exact be.trans ⟨hg.os, hg.tape, hg.output, hg.size, fun k hk => hg.block k (Nat.lt_of_lt_of_le hk be.size) (fun e => by injection e with e; omega)⟩
theorem Ny.w0 {w0 wr w5 : World} {b0 b2 b3 b4 : Nat} {S R W V S' : Array Value} (M : Ny w0 wr b0 b2 b3 b4 S R W V) (hlt : b0 < b2 ∧ b2 < b3 ∧ w0.heap.size ≤ b0) (hG : 0 < w0.heap.size)
    (hg : wr.drew.grownBy w5 (some b0)) (hk : Bk w5 b0 S' 96) : Ny w0 w5 b0 b2 b3 b4 S' R W V := by
  obtain ⟨⟨k0, k2, k3, ad, be⟩, k4, lt⟩ := M
  have hs := be.size
  refine ⟨⟨hk, ?_, ?_, ?_, ?_⟩, ?_, lt⟩
  · exact Bk.grown (w := wr.drew) k2 hg (by intro e; injection e with e; omega)
  · exact Bk.grown (w := wr.drew) k3 hg (by intro e; injection e with e; omega)
  · exact ad.eq_ (hg.block _ (by show _ < wr.heap.size; omega) (by intro e; injection e with e; omega))
  · exact below_grown be hg (by omega) hs
  · exact Bk.grown (w := wr.drew) k4 hg (by intro e; injection e with e; omega)
theorem Ny.set_ {w0 wr : World} {b0 b2 b3 b4 : Nat} {S R W V : Array Value} (M : Ny w0 wr b0 b2 b3 b4 S R W V) (i : Nat) (u : Value) : Ny w0 (wr.setCell ⟨b4, i, none⟩ u) b0 b2 b3 b4 S R W (V.setIfInBounds i u) :=
  M.w4 ⟨rfl, rfl, rfl, by simp [World.setCell], fun k _ hne => Below.heap_setCell _ _ _ _ (fun e => hne (by rw [e]))⟩ (M.k4.set_ i u)
theorem Ny.drewN {w0 wr : World} {b0 b2 b3 b4 : Nat} {S R W V : Array Value} (M : Ny w0 wr b0 b2 b3 b4 S R W V) (n : Nat) : Ny w0 (wr.drewN n) b0 b2 b3 b4 S R W V := ⟨M.toNx.drewN n, M.k4, M.lt⟩
theorem Ny.ofEnd {w0 wr : World} {b0 b2 b3 b4 : Nat} {S R V : Array Value} {l : List UInt32} (M : Ny w0 wr b0 b2 b3 b4 S R (uv l ++ zerosU (64 - 64)).toArray V) : Ny w0 wr b0 b2 b3 b4 S R (uv l).toArray V := by
  have e : (uv l ++ zerosU (64 - 64)) = uv l := by simp [zerosU]
  rw [e] at M
  exact M
structure Ds (wr : World) (b3 b4 k : Nat) (v : S8) (kw ka : UInt32) : Prop where
  x0 : wr.cell? ⟨b4, 0, none⟩ = some (.int .u32 (uI v.a))
  x1 : wr.cell? ⟨b4, 1, none⟩ = some (.int .u32 (uI v.b))
  x2 : wr.cell? ⟨b4, 2, none⟩ = some (.int .u32 (uI v.c))
  x3 : wr.cell? ⟨b4, 3, none⟩ = some (.int .u32 (uI v.d))
  x4 : wr.cell? ⟨b4, 4, none⟩ = some (.int .u32 (uI v.e))
  x5 : wr.cell? ⟨b4, 5, none⟩ = some (.int .u32 (uI v.f))
  x6 : wr.cell? ⟨b4, 6, none⟩ = some (.int .u32 (uI v.g))
  x7 : wr.cell? ⟨b4, 7, none⟩ = some (.int .u32 (uI v.h))
  xw : wr.cell? ⟨b3, k, none⟩ = some (.int .u32 (uI kw))
  xt : wr.cell? ⟨0, k, none⟩ = some (.int .u32 (uI ka))
theorem Ds.heap {w w' : World} {b3 b4 k : Nat} {v : S8} {kw ka : UInt32} (h : Ds w b3 b4 k v kw ka) (e : w'.heap = w.heap) : Ds w' b3 b4 k v kw ka := by
  obtain ⟨x0, x1, x2, x3, x4, x5, x6, x7, xw, xt⟩ := h
  exact ⟨(cell_heap e _).trans x0, (cell_heap e _).trans x1, (cell_heap e _).trans x2, (cell_heap e _).trans x3, (cell_heap e _).trans x4, (cell_heap e _).trans x5, (cell_heap e _).trans x6, (cell_heap e _).trans x7, (cell_heap e _).trans xw, (cell_heap e _).trans xt⟩
theorem Ny.cells {w0 wr : World} {b0 b2 b3 b4 k : Nat} {S R : Array Value} {W : List UInt32} {v : S8} (M : Ny w0 wr b0 b2 b3 b4 S R (uv W).toArray (uv v.list).toArray) (hk : k < 64) (hW : k < W.length) : Ds wr b3 b4 k v (W.getD k 0) (adds256.getD k 0) :=
  ⟨(M.k4.cell 0).trans (state_0 v), (M.k4.cell 1).trans (state_1 v), (M.k4.cell 2).trans (state_2 v), (M.k4.cell 3).trans (state_3 v), (M.k4.cell 4).trans (state_4 v), (M.k4.cell 5).trans (state_5 v), (M.k4.cell 6).trans (state_6 v), (M.k4.cell 7).trans (state_7 v), (M.k3.cell k).trans (words_at hW), M.ad k hk⟩
theorem chunk_get {c : List UInt8} (hc : c.length = 64) {j : Nat} (hj : j < 64) : (bv c)[j]? = some (.int .u8 ((c.getD j 0).toNat : Int)) := by
  rw [bv_get, List.getElem?_eq_getElem (by omega), List.getD_eq_getElem?_getD, List.getElem?_eq_getElem (by omega)]
  rfl

set_option maxHeartbeats 20000000 in
theorem block_any (w : World) (s : S8) (A : Option Addr) (cp : Nat) (c : List UInt8) (hc : c.length = 64) (hr : Rd w A (bv c)) (ha : Adds w 0) (hg : 0 < w.heap.size) :
    Calls Tryd.prog 53 #[.agg (uv s.list).toArray, .slice A 64 cp] w fun e w' => e = .returned (.agg (uv (comp s c).list).toArray) ∧ Below w.heap.size w w' := by
  obtain ⟨ad, rfl, hx⟩ := hr.at_ (j := 0) (by rw [bv_length]; omega)
  clear hx
  have HR := Lib.hid hr; clear hr
  have HC := Lib.hid hc; clear hc
  have HA := Lib.hid ha; clear ha
  go_enter Tryd.func53, Tryd.ntmps53
  go_wp2_with (with_reducible show wpList _ _ _ (Oper.mk _ (Op.box _ _) _ _ _ _ :: _) _ _; refine wpList_box_i rfl _ _ rfl _ rfl ?_)
  intro b0 w1 h0 hl1 hg1 hs1
  go_wp2_with (refine wpList_alloc_i rfl 96 rfl (.agg (zerosU 8).toArray) zero_w8 ?_)
  intro b2 w3 h2 hl3 hg3 hs3
  go_wp2_with (refine wpList_alloc_i rfl 134 rfl (.agg (zerosU 64).toArray) zero_w64 ?_)
  intro b3 w4 h3 hl4 hg4 hs4
  obtain ⟨M, hlt⟩ : Nx w w4 b0 b2 b3 (uv s.list).toArray (zerosU 8).toArray (zerosU 64).toArray ∧ (b0 < b2 ∧ b2 < b3 ∧ w.heap.size ≤ b0) := by
    have a1 := HA.out.below hl1 hg
    have z1 := hl1.size
    have z3 := hl3.size
    have a3 := a1.below hl3 (by omega)
    have a4 := a3.below hl4 (by omega)
    refine ⟨⟨?_, ?_, h3, a4, ?_⟩, by omega⟩
    · exact (h0.below hl3 (by omega)).below hl4 (by omega)
    · exact h2.below hl4 (by omega)
    · exact hl1.trans ((hl3.mono (by omega)).trans (hl4.mono (by omega)))
  have HM := Lib.hid M
  have HL := Lib.hid hlt
  have HG := Lib.hid hg
  clear M h0 h2 h3 hl1 hl3 hl4 hg1 hg3 hg4 hs1 hs3 hs4 hlt HA hg
  go_wp2
  go_loopw [6] (fun i wr => ∃ k : Nat, k ≤ 16 ∧ i = .int .i64 k ∧ Nx w wr b0 b2 b3 (uv s.list).toArray (zerosU 8).toArray (uv (wk c k) ++ zerosU (64 - k)).toArray) (fun i _ => 16 - (intOf i).toNat)
  case atStart => exact ⟨0, by omega, rfl, HM.out⟩
  case round =>
    clear HM
    obtain ⟨k, hk, rfl, M⟩ := hrel
    by_cases hlt : k < 16
    · -- [1
      have HCL := HC.out
      have hr1 := HR.out.below M.be
      obtain ⟨_, hA0, x0⟩ := hr1 (4 * k) _ (chunk_get HCL (by omega))
      injection hA0 with hA0; subst hA0
      obtain ⟨_, hA1, x1⟩ := hr1 (4 * k + 1) _ (chunk_get HCL (by omega))
      injection hA1 with hA1; subst hA1
      obtain ⟨_, hA2, x2⟩ := hr1 (4 * k + 2) _ (chunk_get HCL (by omega))
      injection hA2 with hA2; subst hA2
      obtain ⟨_, hA3, x3⟩ := hr1 (4 * k + 3) _ (chunk_get HCL (by omega))
      injection hA3 with hA3; subst hA3
      clear hr1
      rw [Addr.add, if_neg (by omega)] at x1 x2 x3
      obtain ⟨a0, ha0⟩ : ∃ n, (c.getD (4 * k) 0).toNat = n := ⟨_, rfl⟩
      rw [ha0] at x0
      have A0 := Lib.hid ha0
      obtain ⟨a1, ha1⟩ : ∃ n, (c.getD (4 * k + 1) 0).toNat = n := ⟨_, rfl⟩
      rw [ha1] at x1
      have A1 := Lib.hid ha1
      obtain ⟨a2, ha2⟩ : ∃ n, (c.getD (4 * k + 2) 0).toNat = n := ⟨_, rfl⟩
      rw [ha2] at x2
      have A2 := Lib.hid ha2
      obtain ⟨a3, ha3⟩ : ∃ n, (c.getD (4 * k + 3) 0).toNat = n := ⟨_, rfl⟩
      rw [ha3] at x3
      have A3 := Lib.hid ha3
      have e0 : IntKind.i64.wrap (4 * (k : Int)) = 4 * (k : Int) := by rw [IntKind.wrap_i64]; omega
      have n0 : (4 * (k : Int)).toNat = 4 * k := by omega
      have m0 : 0 ≤ 4 * (k : Int) := by omega
      have l0 : 4 * (k : Int) < 64 := by omega
      have e1 : IntKind.i64.wrap (4 * (k : Int) + 1) = 4 * (k : Int) + 1 := by rw [IntKind.wrap_i64]; omega
      have n1 : (4 * (k : Int) + 1).toNat = 4 * k + 1 := by omega
      have m1 : 0 ≤ 4 * (k : Int) + 1 := by omega
      have l1 : 4 * (k : Int) + 1 < 64 := by omega
      have e2 : IntKind.i64.wrap (4 * (k : Int) + 2) = 4 * (k : Int) + 2 := by rw [IntKind.wrap_i64]; omega
      have n2 : (4 * (k : Int) + 2).toNat = 4 * k + 2 := by omega
      have m2 : 0 ≤ 4 * (k : Int) + 2 := by omega
      have l2 : 4 * (k : Int) + 2 < 64 := by omega
      have e3 : IntKind.i64.wrap (4 * (k : Int) + 3) = 4 * (k : Int) + 3 := by rw [IntKind.wrap_i64]; omega
      have n3 : (4 * (k : Int) + 3).toNat = 4 * k + 3 := by omega
      have m3 : 0 ≤ 4 * (k : Int) + 3 := by omega
      have l3 : 4 * (k : Int) + 3 < 64 := by omega
      have lk : (k : Int) < 64 := by omega
      have HM := Lib.hid M
      clear HCL M ha0 ha1 ha2 ha3
      go_wp2
      go_still_tail 35, (by kernel_rfl)
      clear e0 e1 e2 e3 n0 n1 n2 n3 m0 m1 m2 m3 l0 l1 l2 l3 x0 x1 x2 x3
      change wpList _ _ _ _ _ wr.drew
      refine wpList_store_w rfl 95 _ _ rfl b3 k rfl _ _ rfl _ _ (w := wr.drew) HM.out.k3 info_u32 (by simp [uv_length, wk_len, zerosU]; omega) ?_
      intro w5 hk5 hg5 hs5
      have hk6 : Bk w5 b3 (uv (wk c (k + 1)) ++ zerosU (64 - (k + 1))).toArray 134 := by
        have e : wk c (k + 1) = wk c k ++ [wordAt c k] := by simp [wk, hlt]
        rw [e, ← splice_word (wk_len c k) (by omega), wordAt, ← word_int, A0.out, A1.out, A2.out, A3.out]
        exact hk5
      have HM6 := Lib.hid (HM.out.w3 HL.out HG.out hg5 hk6)
      clear hk5 hg5 hs5 hk6 HM A0 A1 A2 A3
      go_wp2
      go_roundw
      case rel => first | exact ⟨k + 1, by omega, by go_num, HM6.out⟩ | ((repeat apply Exists.intro); exact ⟨⟨k + 1, by omega, by go_num, HM6.out⟩, rfl⟩)
      case measure => simp [intOf]; omega
      -- ]1
    · have hk16 : k = 16 := by omega
      subst hk16
      have HM := Lib.hid M
      clear M hlt hk
      go_wp2
      go_loopw [7] (fun i wr => ∃ k : Nat, 16 ≤ k ∧ k ≤ 64 ∧ i = .int .i64 k ∧ Nx w wr b0 b2 b3 (uv s.list).toArray (zerosU 8).toArray (uv (wk c k) ++ zerosU (64 - k)).toArray) (fun i _ => 64 - (intOf i).toNat)
      case atStart => exact ⟨16, by omega, by omega, rfl, HM.out⟩
      case round =>
        clear HM
        obtain ⟨k, hk, hk2, rfl, M⟩ := hrel
        by_cases hlt : k < 64
        · -- [2
          have x15 := M.k3.cell (k - 15)
          rw [word_at (wk_len c k) (by omega)] at x15
          obtain ⟨y15, h15⟩ : ∃ n, (wk c k).getD (k - 15) 0 = n := ⟨_, rfl⟩
          rw [h15] at x15
          have H15 := Lib.hid h15
          have x2 := M.k3.cell (k - 2)
          rw [word_at (wk_len c k) (by omega)] at x2
          obtain ⟨y2, h2⟩ : ∃ n, (wk c k).getD (k - 2) 0 = n := ⟨_, rfl⟩
          rw [h2] at x2
          have H2 := Lib.hid h2
          have x16 := M.k3.cell (k - 16)
          rw [word_at (wk_len c k) (by omega)] at x16
          obtain ⟨y16, h16⟩ : ∃ n, (wk c k).getD (k - 16) 0 = n := ⟨_, rfl⟩
          rw [h16] at x16
          have H16 := Lib.hid h16
          have x7 := M.k3.cell (k - 7)
          rw [word_at (wk_len c k) (by omega)] at x7
          obtain ⟨y7, h7⟩ : ∃ n, (wk c k).getD (k - 7) 0 = n := ⟨_, rfl⟩
          rw [h7] at x7
          have H7 := Lib.hid h7
          have e15 : IntKind.i64.wrap ((k : Int) - 15) = (k : Int) - 15 := by rw [IntKind.wrap_i64]; omega
          have n15 : ((k : Int) - 15).toNat = k - 15 := by omega
          have m15 : (15 : Int) ≤ k := by omega
          have l15 : (k : Int) - 15 < 64 := by omega
          have e2 : IntKind.i64.wrap ((k : Int) - 2) = (k : Int) - 2 := by rw [IntKind.wrap_i64]; omega
          have n2 : ((k : Int) - 2).toNat = k - 2 := by omega
          have m2 : (2 : Int) ≤ k := by omega
          have l2 : (k : Int) - 2 < 64 := by omega
          have e16 : IntKind.i64.wrap ((k : Int) - 16) = (k : Int) - 16 := by rw [IntKind.wrap_i64]; omega
          have n16 : ((k : Int) - 16).toNat = k - 16 := by omega
          have m16 : (16 : Int) ≤ k := by omega
          have l16 : (k : Int) - 16 < 64 := by omega
          have e7 : IntKind.i64.wrap ((k : Int) - 7) = (k : Int) - 7 := by rw [IntKind.wrap_i64]; omega
          have n7 : ((k : Int) - 7).toNat = k - 7 := by omega
          have m7 : (7 : Int) ≤ k := by omega
          have l7 : (k : Int) - 7 < 64 := by omega
          have lk : (k : Int) < 64 := by omega
          have HM := Lib.hid M
          clear M h15 h2 h16 h7
          go_wp2
          refine wp_region_quiet_lit (by kernel_rfl) (by kernel_rfl) ?_
          repeat (first
            | (refine wpQuiet_step (fun K hK => ?_); refine quiet_exec rfl (exec_xor rfl rfl rfl) ?_; go_simp; refine hK _ ?_; clear hK K)
            | (refine wpQuiet_step (fun K hK => ?_); refine quiet_exec rfl (exec_shr3 rfl rfl (fun _ => rfl)) ?_; go_simp; refine hK _ ?_; clear hK K)
            | quiet_step ((go_at_call 90; with_reducible exact quiet_same (turnU _ _ _ (by decide)))))
          refine wpQuiet_nil ?_
          intro _ hw'
          obtain ⟨nq, hw''⟩ := hw'
          subst hw''
          obtain ⟨wq, hwq⟩ : ∃ wq, wr.drewN nq = wq := ⟨_, rfl⟩
          have HM2 := Lib.hid (show Nx w wq b0 b2 b3 _ _ _ from hwq ▸ HM.out.drewN nq)
          have z2 : wq.cell? ⟨b3, k - 2, none⟩ = some (.int .u32 (uI y2)) := by rw [← hwq]; exact x2
          have z16 : wq.cell? ⟨b3, k - 16, none⟩ = some (.int .u32 (uI y16)) := by rw [← hwq]; exact x16
          have z7 : wq.cell? ⟨b3, k - 7, none⟩ = some (.int .u32 (uI y7)) := by rw [← hwq]; exact x7
          rw [hwq]
          generalize hX : rotr y15 7 ^^^ rotr y15 18 ^^^ y15 >>> 3 = X
          have HX := Lib.hid hX
          clear x15 x2 x16 x7 hwq HM hX e15 n15 m15 l15
          go_wp2
          refine wp_region_quiet_lit (by kernel_rfl) (by kernel_rfl) ?_
          repeat (first
            | (refine wpQuiet_step (fun K hK => ?_); refine quiet_exec rfl (exec_xor rfl rfl rfl) ?_; go_simp; refine hK _ ?_; clear hK K)
            | (refine wpQuiet_step (fun K hK => ?_); refine quiet_exec rfl (exec_shr10 rfl rfl (fun _ => rfl)) ?_; go_simp; refine hK _ ?_; clear hK K)
            | quiet_step ((go_at_call 90; with_reducible exact quiet_same (turnU _ _ _ (by decide)))))
          refine wpQuiet_nil ?_
          intro _ hw'
          obtain ⟨nq, hw''⟩ := hw'
          subst hw''
          obtain ⟨wp, hwp⟩ : ∃ wp, wq.drewN nq = wp := ⟨_, rfl⟩
          have HM3 := Lib.hid (show Nx w wp b0 b2 b3 _ _ _ from hwp ▸ HM2.out.drewN nq)
          have u16 : wp.cell? ⟨b3, k - 16, none⟩ = some (.int .u32 (uI y16)) := by rw [← hwp]; exact z16
          have u7 : wp.cell? ⟨b3, k - 7, none⟩ = some (.int .u32 (uI y7)) := by rw [← hwp]; exact z7
          rw [hwp]
          generalize hY : rotr y2 17 ^^^ rotr y2 19 ^^^ y2 >>> 10 = Y
          have HY := Lib.hid hY
          clear z2 z16 z7 hwp HM2 hY e2 n2 m2 l2
          go_wp2
          go_still_tail 15, (by kernel_rfl)
          clear e16 e7 n16 n7 m16 m7 l16 l7 lk u16 u7
          change wpList _ _ _ _ _ wp.drew
          refine wpList_store_w rfl 95 _ _ rfl b3 k rfl _ _ rfl _ _ (w := wp.drew) HM3.out.k3 info_u32 (by simp [uv_length, wk_len, zerosU]; omega) ?_
          intro w5 hk5 hg5 hs5
          have hk6 : Bk w5 b3 (uv (wk c (k + 1)) ++ zerosU (64 - (k + 1))).toArray 134 := by
            have e : wk c (k + 1) = wk c k ++ [y16 + X + y7 + Y] := by
              rw [wk, if_neg (by omega), nextW, H15.out, H2.out, H16.out, H7.out, ← HX.out, ← HY.out]
              rfl
            rw [e, ← splice_word (wk_len c k) (by omega), ← uI_add, ← uI_add, ← uI_add]
            exact hk5
          have HM6 := Lib.hid (HM3.out.w3 HL.out HG.out hg5 hk6)
          clear hk5 hg5 hs5 hk6 HM3 H15 H2 H16 H7 HX HY
          go_wp2
          go_roundw
          case rel => first | exact ⟨k + 1, by omega, by omega, by go_num, HM6.out⟩ | ((repeat apply Exists.intro); exact ⟨⟨k + 1, by omega, by omega, by go_num, HM6.out⟩, rfl⟩)
          case measure => simp [intOf]; omega
          -- ]2
        · have hk64 : k = 64 := by omega
          subst hk64
          have HM := Lib.hid M
          clear M hlt hk hk2
          go_wp2_with (first
            | (with_reducible show wpList _ _ _ (Oper.mk _ (Op.load 96 _) _ _ _ _ :: _) _ _; refine wpList_load_part rfl 96 _ rfl b0 0 8 rfl _ _ _ HM.out.k0 Tryd.underlying96 rfl info_w8 (by simp [uv_length, S8.list]) (uv s.list).toArray (by simp [S8.list, uv]) ?_)
            | (with_reducible show wpList _ _ _ (Oper.mk _ (Op.alloc _) _ _ _ _ :: _) _ _; refine wpList_alloc_i rfl 96 rfl (.agg (zerosU 8).toArray) zero_w8 ?_))
          intro b4 w5 h4 hl5 hg5 hs5
          have HN := Lib.hid (HM.out.new hl5 hs5 hg5 h4 HG.out)
          clear h4 hl5 hg5 hs5 HM
          go_wp2_with (with_reducible show wpList _ _ _ (Oper.mk _ (Op.store 96 _ _) _ _ _ _ :: _) _ _; refine wpList_store_bk rfl 96 _ _ rfl b4 rfl (.agg (uv s.list).toArray) rfl _ _ HN.out.k4 (by rw [size_state]; exact info_w8) (by rw [size_state]; simp [zerosU]) (uv_one _) ?_)
          intro w6 h6 hg6 hs6
          have HN6 := Lib.hid (HN.out.w4 hg6 h6)
          clear h6 hg6 hs6 HN
          go_wp2
          go_loopw [11] (fun i wr => ∃ k : Nat, k ≤ 64 ∧ i = .int .i64 k ∧ Ny w wr b0 b2 b3 b4 (uv s.list).toArray (zerosU 8).toArray (uv (wk c 64)).toArray (uv (rounds8 s (wk c 64) k).list).toArray) (fun i _ => 64 - (intOf i).toNat)
          case atStart => exact ⟨0, by omega, rfl, HN6.out.ofEnd⟩
          case round =>
            clear HN6
            obtain ⟨k, hk, rfl, M⟩ := hrel
            obtain ⟨W, hW⟩ : ∃ W, wk c 64 = W := ⟨_, rfl⟩
            rw [hW] at M
            have HW := Lib.hid hW
            clear hW
            by_cases hlt : k < 64
            · -- [3
              obtain ⟨v, hv⟩ : ∃ v, rounds8 s W k = v := ⟨_, rfl⟩
              rw [hv] at M
              have HV := Lib.hid hv
              clear hv
              have HX := Lib.hid (M.cells hlt (by rw [← HW.out, wk_len]; exact hlt))
              obtain ⟨kw, hkw⟩ : ∃ n, W.getD k 0 = n := ⟨_, rfl⟩
              obtain ⟨ka, hka⟩ : ∃ n, adds256.getD k 0 = n := ⟨_, rfl⟩
              rw [hkw, hka] at HX
              have HKW := Lib.hid hkw
              have HKA := Lib.hid hka
              clear hkw hka
              obtain ⟨va, vb, vc, vd, ve, vf, vg, vh⟩ := v
              have HM := Lib.hid M
              clear M
              obtain ⟨x0, x1, x2, x3, x4, x5, x6, x7, xw, xt⟩ := HX.out
              clear x0 x1 x2 x3 x5 x6 x7 xw xt
              have lk : (k : Int) < 64 := by omega
              go_wp2
              refine wp_region_quiet_lit (by kernel_rfl) (by kernel_rfl) ?_
              repeat (first
                | (refine wpQuiet_step (fun K hK => ?_); refine quiet_exec rfl (exec_xor rfl rfl rfl) ?_; go_simp; refine hK _ ?_; clear hK K)
                | quiet_step ((go_at_call 90; with_reducible exact quiet_same (turnU _ _ _ (by decide)))))
              refine wpQuiet_nil ?_
              intro _ hw'
              obtain ⟨nq, hw''⟩ := hw'
              subst hw''
              obtain ⟨wq, hwq⟩ : ∃ wq, wr.drewN nq = wq := ⟨_, rfl⟩
              have HM2 := Lib.hid (show Ny w wq b0 b2 b3 b4 _ _ _ _ from hwq ▸ HM.out.drewN nq)
              have HX2 := Lib.hid (HX.out.heap (w' := wq) (by rw [← hwq]; rfl))
              rw [hwq]
              clear hwq HM HX x4
              generalize hZS : rotr ve 6 ^^^ rotr ve 11 ^^^ rotr ve 25 = ZS
              have HZS := Lib.hid hZS
              clear hZS
              obtain ⟨x0, x1, x2, x3, x4, x5, x6, x7, xw, xt⟩ := HX2.out
              clear x0 x1 x2 x3 x7 xw xt
              go_wp2_with (first
                | (with_reducible show wpList _ _ _ (Oper.mk _ (Op.binOp BinOp.xor 95 _ _ _) _ _ _ _ :: _) _ _; refine wpList_exec rfl (exec_xor rfl rfl rfl) ?_)
                | (with_reducible show wpList _ _ _ (Oper.mk _ (Op.binOp BinOp.and 95 _ _ _) _ _ _ _ :: _) _ _; refine wpList_exec rfl (exec_and rfl rfl rfl) ?_)
                | (with_reducible show wpList _ _ _ (Oper.mk _ (Op.unOp _ _ _) _ _ _ _ :: _) _ _; refine wpList_exec rfl (exec_not rfl rfl) ?_))
              generalize hZC : ve &&& vf ^^^ ~~~ve &&& vg = ZC
              have HZC := Lib.hid hZC
              clear hZC
              clear x4 x5 x6
              obtain ⟨x0, x1, x2, x3, x4, x5, x6, x7, xw, xt⟩ := HX2.out
              clear x0 x1 x2 x3 x4 x5 x6
              refine wp_region_quiet_lit (by kernel_rfl) (by kernel_rfl) ?_
              repeat (first
                | (refine wpQuiet_step (fun K hK => ?_); refine quiet_exec rfl (exec_add rfl rfl rfl) ?_; go_simp; refine hK _ ?_; clear hK K)
                | quiet_step ((go_at_call 90; with_reducible exact quiet_same (turnU _ _ _ (by decide)))))
              refine wpQuiet_nil ?_
              intro _ hw'
              obtain ⟨nq, hw''⟩ := hw'
              subst hw''
              obtain ⟨wp, hwp⟩ : ∃ wp, wq.drewN nq = wp := ⟨_, rfl⟩
              have HM3 := Lib.hid (show Ny w wp b0 b2 b3 b4 _ _ _ _ from hwp ▸ HM2.out.drewN nq)
              have HX3 := Lib.hid (HX2.out.heap (w' := wp) (by rw [← hwp]; rfl))
              rw [hwp]
              clear hwp HM2 HX2 x7 xw xt
              generalize hZT : vh + ZS + ZC + ka + kw = ZT
              have HZT := Lib.hid hZT
              clear hZT
              obtain ⟨x0, x1, x2, x3, x4, x5, x6, x7, xw, xt⟩ := HX3.out
              clear x1 x2 x3 x4 x5 x6 x7 xw xt
              go_wp2
              refine wp_region_quiet_lit (by kernel_rfl) (by kernel_rfl) ?_
              repeat (first
                | (refine wpQuiet_step (fun K hK => ?_); refine quiet_exec rfl (exec_xor rfl rfl rfl) ?_; go_simp; refine hK _ ?_; clear hK K)
                | quiet_step ((go_at_call 90; with_reducible exact quiet_same (turnU _ _ _ (by decide)))))
              refine wpQuiet_nil ?_
              intro _ hw'
              obtain ⟨nq, hw''⟩ := hw'
              subst hw''
              obtain ⟨wo, hwo⟩ : ∃ wo, wp.drewN nq = wo := ⟨_, rfl⟩
              have HM4 := Lib.hid (show Ny w wo b0 b2 b3 b4 _ _ _ _ from hwo ▸ HM3.out.drewN nq)
              have HX4 := Lib.hid (HX3.out.heap (w' := wo) (by rw [← hwo]; rfl))
              rw [hwo]
              clear hwo HM3 HX3 x0
              generalize hZZ : rotr va 2 ^^^ rotr va 13 ^^^ rotr va 22 = ZZ
              have HZZ := Lib.hid hZZ
              clear hZZ
              obtain ⟨x0, x1, x2, x3, x4, x5, x6, x7, xw, xt⟩ := HX4.out
              clear x7 xw xt
              have hf := HM4.out.k4.frozen
              go_upto_region 21 with (first
                | (with_reducible show wpList _ _ _ (Oper.mk _ (Op.binOp BinOp.xor 95 _ _ _) _ _ _ _ :: _) _ _; refine wpList_exec rfl (exec_xor rfl rfl rfl) ?_)
                | (with_reducible show wpList _ _ _ (Oper.mk _ (Op.binOp BinOp.and 95 _ _ _) _ _ _ _ :: _) _ _; refine wpList_exec rfl (exec_and rfl rfl rfl) ?_))
              generalize hZM : va &&& vb ^^^ va &&& vc ^^^ vb &&& vc = ZM
              have HZM := Lib.hid hZM
              clear hZM
              clear hf x0 x1 x2 x3 x4 x5 x6 HX4
              have x6 := (HM4.out.k4.cell 6).trans (state_6 _)
              go_wp2_with (first
                | (with_reducible show wpList _ _ _ (Oper.mk _ (Op.binOp BinOp.add 95 _ _ _) _ _ _ _ :: _) _ _; refine wpList_exec rfl (exec_add rfl rfl rfl) ?_)
                | (with_reducible show wpList _ _ _ (Oper.mk _ (Op.store 95 _ _) _ _ _ _ :: _) _ _; refine wpList_store_w rfl 95 _ _ rfl b4 7 rfl .u32 (uI (vg)) rfl _ _ HM4.out.k4 info_u32 (by rw [arr_state]; decide) ?_))
              intro wv7 hk7 hg7 hs7
              have HV7 := Lib.hid (HM4.out.w4 hg7 (show Bk wv7 b4 (uv (S8.mk va vb vc vd ve vf vg vg).list).toArray 96 from hk7))
              clear hk7 hg7 hs7 HM4 x6
              have x5 := (HV7.out.k4.cell 5).trans (state_5 _)
              go_wp2_with (first
                | (with_reducible show wpList _ _ _ (Oper.mk _ (Op.binOp BinOp.add 95 _ _ _) _ _ _ _ :: _) _ _; refine wpList_exec rfl (exec_add rfl rfl rfl) ?_)
                | (with_reducible show wpList _ _ _ (Oper.mk _ (Op.store 95 _ _) _ _ _ _ :: _) _ _; refine wpList_store_w rfl 95 _ _ rfl b4 6 rfl .u32 (uI (vf)) rfl _ _ HV7.out.k4 info_u32 (by rw [arr_state]; decide) ?_))
              intro wv6 hk6 hg6 hs6
              have HV6 := Lib.hid (HV7.out.w4 hg6 (show Bk wv6 b4 (uv (S8.mk va vb vc vd ve vf vf vg).list).toArray 96 from hk6))
              clear hk6 hg6 hs6 HV7 x5
              have x4 := (HV6.out.k4.cell 4).trans (state_4 _)
              go_wp2_with (first
                | (with_reducible show wpList _ _ _ (Oper.mk _ (Op.binOp BinOp.add 95 _ _ _) _ _ _ _ :: _) _ _; refine wpList_exec rfl (exec_add rfl rfl rfl) ?_)
                | (with_reducible show wpList _ _ _ (Oper.mk _ (Op.store 95 _ _) _ _ _ _ :: _) _ _; refine wpList_store_w rfl 95 _ _ rfl b4 5 rfl .u32 (uI (ve)) rfl _ _ HV6.out.k4 info_u32 (by rw [arr_state]; decide) ?_))
              intro wv5 hk5 hg5 hs5
              have HV5 := Lib.hid (HV6.out.w4 hg5 (show Bk wv5 b4 (uv (S8.mk va vb vc vd ve ve vf vg).list).toArray 96 from hk5))
              clear hk5 hg5 hs5 HV6 x4
              have x3 := (HV5.out.k4.cell 3).trans (state_3 _)
              go_wp2_with (first
                | (with_reducible show wpList _ _ _ (Oper.mk _ (Op.binOp BinOp.add 95 _ _ _) _ _ _ _ :: _) _ _; refine wpList_exec rfl (exec_add rfl rfl rfl) ?_)
                | (with_reducible show wpList _ _ _ (Oper.mk _ (Op.store 95 _ _) _ _ _ _ :: _) _ _; refine wpList_store_w rfl 95 _ _ rfl b4 4 rfl .u32 (uI (vd + ZT)) rfl _ _ HV5.out.k4 info_u32 (by rw [arr_state]; decide) ?_))
              intro wv4 hk4 hg4 hs4
              have HV4 := Lib.hid (HV5.out.w4 hg4 (show Bk wv4 b4 (uv (S8.mk va vb vc vd (vd + ZT) ve vf vg).list).toArray 96 from hk4))
              clear hk4 hg4 hs4 HV5 x3
              have x2 := (HV4.out.k4.cell 2).trans (state_2 _)
              go_wp2_with (first
                | (with_reducible show wpList _ _ _ (Oper.mk _ (Op.binOp BinOp.add 95 _ _ _) _ _ _ _ :: _) _ _; refine wpList_exec rfl (exec_add rfl rfl rfl) ?_)
                | (with_reducible show wpList _ _ _ (Oper.mk _ (Op.store 95 _ _) _ _ _ _ :: _) _ _; refine wpList_store_w rfl 95 _ _ rfl b4 3 rfl .u32 (uI (vc)) rfl _ _ HV4.out.k4 info_u32 (by rw [arr_state]; decide) ?_))
              intro wv3 hk3 hg3 hs3
              have HV3 := Lib.hid (HV4.out.w4 hg3 (show Bk wv3 b4 (uv (S8.mk va vb vc vc (vd + ZT) ve vf vg).list).toArray 96 from hk3))
              clear hk3 hg3 hs3 HV4 x2
              have x1 := (HV3.out.k4.cell 1).trans (state_1 _)
              go_wp2_with (first
                | (with_reducible show wpList _ _ _ (Oper.mk _ (Op.binOp BinOp.add 95 _ _ _) _ _ _ _ :: _) _ _; refine wpList_exec rfl (exec_add rfl rfl rfl) ?_)
                | (with_reducible show wpList _ _ _ (Oper.mk _ (Op.store 95 _ _) _ _ _ _ :: _) _ _; refine wpList_store_w rfl 95 _ _ rfl b4 2 rfl .u32 (uI (vb)) rfl _ _ HV3.out.k4 info_u32 (by rw [arr_state]; decide) ?_))
              intro wv2 hk2 hg2 hs2
              have HV2 := Lib.hid (HV3.out.w4 hg2 (show Bk wv2 b4 (uv (S8.mk va vb vb vc (vd + ZT) ve vf vg).list).toArray 96 from hk2))
              clear hk2 hg2 hs2 HV3 x1
              have x0 := (HV2.out.k4.cell 0).trans (state_0 _)
              go_wp2_with (first
                | (with_reducible show wpList _ _ _ (Oper.mk _ (Op.binOp BinOp.add 95 _ _ _) _ _ _ _ :: _) _ _; refine wpList_exec rfl (exec_add rfl rfl rfl) ?_)
                | (with_reducible show wpList _ _ _ (Oper.mk _ (Op.store 95 _ _) _ _ _ _ :: _) _ _; refine wpList_store_w rfl 95 _ _ rfl b4 1 rfl .u32 (uI (va)) rfl _ _ HV2.out.k4 info_u32 (by rw [arr_state]; decide) ?_))
              intro wv1 hk1 hg1 hs1
              have HV1 := Lib.hid (HV2.out.w4 hg1 (show Bk wv1 b4 (uv (S8.mk va va vb vc (vd + ZT) ve vf vg).list).toArray 96 from hk1))
              clear hk1 hg1 hs1 HV2 x0
              go_wp2_with (first
                | (with_reducible show wpList _ _ _ (Oper.mk _ (Op.binOp BinOp.add 95 _ _ _) _ _ _ _ :: _) _ _; refine wpList_exec rfl (exec_add rfl rfl rfl) ?_)
                | (with_reducible show wpList _ _ _ (Oper.mk _ (Op.store 95 _ _) _ _ _ _ :: _) _ _; refine wpList_store_w rfl 95 _ _ rfl b4 0 rfl .u32 (uI (ZT + ZZ + ZM)) rfl _ _ HV1.out.k4 info_u32 (by rw [arr_state]; decide) ?_))
              intro wv0 hk0 hg0 hs0
              have HV0 := Lib.hid (HV1.out.w4 hg0 (show Bk wv0 b4 (uv (S8.mk (ZT + ZZ + ZM) va vb vc (vd + ZT) ve vf vg).list).toArray 96 from hk0))
              clear hk0 hg0 hs0 HV1
              go_wp2
              go_roundw
              case rel =>
                have e : rounds8 s (wk c 64) (k + 1) = S8.mk (ZT + ZZ + ZM) va vb vc (vd + ZT) ve vf vg := by
                  rw [rounds8, HW.out, HV.out, HKW.out, HKA.out, ← HZT.out, ← HZZ.out, ← HZM.out, ← HZS.out, ← HZC.out, UInt32.add_assoc]
                  rfl
                have f := HV0.out
                rw [← e] at f
                rw [← HW.out] at f
                first | exact ⟨k + 1, by omega, by go_num, f⟩ | ((repeat apply Exists.intro); exact ⟨⟨k + 1, by omega, by go_num, f⟩, rfl⟩)
              case measure => simp [intOf]; omega
              -- ]3
            · have hk64 : k = 64 := by omega
              subst hk64
              obtain ⟨v, hv⟩ : ∃ v, rounds8 s W 64 = v := ⟨_, rfl⟩
              rw [hv] at M
              have HV := Lib.hid hv
              have HM := Lib.hid M
              clear hv M hlt hk
              go_wp2
              go_loopw [17] (fun i wr => ∃ k : Nat, k ≤ 8 ∧ i = .int .i64 k ∧ Ny w wr b0 b2 b3 b4 (uv (mixL s v k)).toArray (zerosU 8).toArray (uv W).toArray (uv v.list).toArray) (fun i _ => 8 - (intOf i).toNat)
              case atStart => exact ⟨0, by omega, rfl, HM.out⟩
              case round =>
                clear HM
                obtain ⟨k, hk, rfl, M⟩ := hrel
                by_cases hlt : k < 8
                · have x0 := M.k0.cell k
                  have x4 := M.k4.cell k
                  rw [mix_at s v k hlt] at x0
                  rw [words_at (l := v.list) hlt] at x4
                  obtain ⟨p, hp⟩ : ∃ n, s.list.getD k 0 = n := ⟨_, rfl⟩
                  obtain ⟨q, hq⟩ : ∃ n, v.list.getD k 0 = n := ⟨_, rfl⟩
                  rw [hp] at x0
                  rw [hq] at x4
                  have HP := Lib.hid hp
                  have HQ := Lib.hid hq
                  have HM := Lib.hid M
                  have lk : (k : Int) < 8 := by omega
                  clear M hp hq
                  go_wp2
                  go_still_tail 9, (by kernel_rfl)
                  clear x0 x4
                  change wpList _ _ _ _ _ wr.drew
                  refine wpList_store_w rfl 95 _ _ rfl b0 k rfl _ _ rfl _ _ (w := wr.drew) HM.out.k0 info_u32 (by rw [mix_size]; exact hlt) ?_
                  intro w5 hk5 hg5 hs5
                  have hk6 : Bk w5 b0 (uv (mixL s v (k + 1))).toArray 96 := by
                    rw [← splice_mix s v k hlt, HP.out, HQ.out, ← uI_add]
                    exact hk5
                  have HM6 := Lib.hid (HM.out.w0 HL.out HG.out hg5 hk6)
                  clear hk5 hg5 hs5 hk6 HM
                  go_wp2
                  go_roundw
                  case rel => first | exact ⟨k + 1, by omega, by go_num, HM6.out⟩ | ((repeat apply Exists.intro); exact ⟨⟨k + 1, by omega, by go_num, HM6.out⟩, rfl⟩)
                  case measure => simp [intOf]; omega
                · have hk8 : k = 8 := by omega
                  subst hk8
                  have HM := Lib.hid M
                  clear M hlt hk
                  go_wp2_with (first
                    | (with_reducible show wpList _ _ _ (Oper.mk _ (Op.load 96 _) _ _ _ _ :: _) _ _; refine wpList_load_part rfl 96 _ rfl b0 0 8 rfl _ _ _ HM.out.k0 Tryd.underlying96 rfl info_w8 (by rw [mix_size]; exact Nat.le_refl _) (uv (add8 s v).list).toArray rfl ?_)
                    | (with_reducible show wpList _ _ _ (Oper.mk _ (Op.store 96 _ _) _ _ _ _ :: _) _ _; refine wpList_store_bk rfl 96 _ _ rfl b2 rfl (.agg (uv (add8 s v).list).toArray) rfl _ _ HM.out.k2 (by rw [size_state]; exact info_w8) (by rw [size_state]; simp [zerosU]) (uv_one _) ?_))
                  intro w6 h6 hg6 hs6
                  have HB := Lib.hid (below_grown2 HM.out.be hg6 (by have := HL.out; omega) HM.out.be.size)
                  have H6 := Lib.hid h6
                  clear h6 hg6 hs6 HM
                  go_wp2
                  have e : comp s c = add8 s v := by rw [comp, HW.out, HV.out]
                  rw [e]
                  exact bodyPost_cell rfl rfl H6.out Tryd.underlying96 rfl info_w8 rfl rfl ⟨rfl, HB.out⟩
end Go.Proofs.YtjdegphpalhapaaDoor

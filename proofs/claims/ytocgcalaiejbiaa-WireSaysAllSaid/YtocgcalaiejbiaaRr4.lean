/-
  The reference: readHash, readSeal (not read), readVote, readProposal without the seal. Condition: the reader was made by New (Rr).
-/
import Derived.Test.YtocgcalaiejbiaaRr3
namespace Go.Proofs.Ytocgcalaiejbiaa
set_option linter.unusedSimpArgs false
set_option linter.unusedVariables false
open Go.RowKit
set_option maxRecDepth 100000

theorem ch_low' {w w1 w3 w4 : World} {g B : Nat} (h1 : Below w.heap.size w w1) (ch3 : Ch [g] w1.drew w3) (hb : Below B w3 w4) (hB : w.heap.size ≤ B) : Ch [g] w w4 := ch_low h1 ch3 hb hB

set_option maxHeartbeats 2000000 in
theorem rrHash_any (w : World) (g : Nat) (A : Option Addr) (c : Nat) (l : List UInt8) (p : Nat) (e : Int) (h : Rr w g A c l p e) :
    Calls Try.prog 92 #[.pointer (some ⟨g, 0, none⟩)] w (RrRes g A c l (readRaw 32 l p e) (toHash 32) w) := by
  have H := Lib.hid h
  have hgl : g < w.heap.size := h.bk.lt
  clear h
  have hle : (readRaw 32 l p e).val.length ≤ 32 := after_le
  have key0 := fun (wx : World) (hx : Rr wx g A c l p e) => rrRaw_any wx g A c l p e 32 (by omega) hx
  generalize readRaw 32 l p e = K at *
  have HLE := Lib.hid hle
  have HKEY := Lib.hid key0
  clear hle key0
  go_enter Try.func92, Try.ntmps92
  go_wp2_with (with_reducible show wpList _ _ _ (Oper.mk (some 2) (Op.alloc _) _ _ _ _ :: _) _ _; refine wpList_alloc_bk rfl _ rfl (.agg (bv (zeros 32)).toArray) (by kernel_rfl) ?_)
  intro br w0 hk0 hb0 hg0 hs0
  have HG0 := Lib.hid hg0
  have HS0 := Lib.hid hs0
  clear hg0 hs0
  go_wp2_with (with_reducible show wpList _ _ _ (Oper.mk (some 3) (Op.alloc _) _ _ _ _ :: _) _ _; refine wpList_alloc_bk rfl _ rfl (.agg (bv (zeros 32)).toArray) (by kernel_rfl) ?_)
  intro bh w1 hk1 hb1 hg1 hs1
  have HB := Lib.hid (hb0.trans (hb1.mono hb0.size))
  have HR := Lib.hid (H.out.below HB.out)
  have HK := Lib.hid hk1
  have HK0 := Lib.hid (hk0.below hb1 hk0.lt)
  have HG := Lib.hid (show w.heap.size ≤ br ∧ br < bh by have := HG0.out; have := HS0.out; omega)
  have HN := Lib.hid (show bh ≠ g ∧ br ≠ g by have := HG.out; omega)
  clear hk0 hb0 hb1 hk1 hg1 hs1
  go_wp2
  go_region_law (first
    | (refine step_copy_splice rfl (.tmp 4) (.tmp 6) 36 36 rfl 5 Try.underlying36 (by kernel_rfl) (some ⟨bh, 0, none⟩) A3 32 32 m3 c3 (by simp [Act.eval, Act.put]) (by simp [Act.eval, Act.put]) bh 0 (bv (zeros 32)) 29 HK3.out (bv K.val) (by rw [bv_length, HM3.out]; exact (Nat.min_eq_left HLE.out).symm) (fun h0 => ⟨rfl, rd_pos HS3.out.rd h0⟩) (by have := HLE.out; simp [bv_length, zeros]; omega) (bv_one _) bh w3 (Below.refl _ _) (Nat.le_refl _) ?_; intro w4 hg4 hb4)
    | (refine step_call rfl (by go_simp) (HKEY.out _ (HR.out.any rfl)) ?_; rintro e3 w3 ⟨A3, m3, c3, hm3, rfl, hs3, ch3, re3⟩; refine ⟨_, rfl, ?_⟩; have HM3 := Lib.hid hm3; have HS3 := Lib.hid hs3; have HC3 := Lib.hid ch3; have HR3 := Lib.hid re3; have HK3 := Lib.hid (Bk.ch (w := w1.drew) HK.out ch3 (by simpa using HN.out.1)); have HK03 := Lib.hid (Bk.ch (w := w1.drew) HK0.out ch3 (by simpa using HN.out.2)); clear hm3 hs3 ch3 re3))
  have R4 := HR3.out.low hb4 (by have := HG.out; omega) (fun a ha => by have := H.out.lt a ha; have := HG.out; omega)
  have C4 := ch_low (w := w) (HB.out) (ch3 := HC3.out) hb4 (by have := HG.out; omega)
  have K04 := HK03.out.below hb4 HG.out.2
  have hg4' := hg4.out
  rw [splice_zero] at hg4'
  have B4 : Bk w4 bh (bv (padded 32 K.val)).toArray 29 := hg4'
  clear hg4' hg4 hb4
  have hpl : (bv (padded 32 K.val)).length = 32 := by have := HLE.out; simp [bv_length, padded, zeros]; omega
  have HPL := Lib.hid hpl
  have HR4 := Lib.hid R4
  have HC4 := Lib.hid C4
  have HK4 := Lib.hid K04
  clear R4 C4 hpl K04
  go_wp2_with (first
    | (with_reducible show wpList _ _ _ (Oper.mk _ (Op.load _ _) _ _ _ _ :: _) _ _; refine wpList_load_part rfl 29 _ rfl bh 0 32 rfl _ _ _ B4 Try.underlying29 rfl info_hash32 (by simp [HPL.out]) _ (cl_all HPL.out) ?_)
    | (with_reducible show wpList _ _ _ (Oper.mk _ (Op.store _ _ _) _ _ _ _ :: _) _ _; go_must (refine wpList_st rfl 29 _ _ rfl br 0 rfl (.agg (bv (padded 32 K.val)).toArray) rfl (bv (padded 32 K.val)) rfl 32 info_hash32 HPL.out _ _ HK4.out (by simp [bv, zeros]) (bv_one _) ?_; intro w5 hk5 hg5 hs5)))
  have HC5 := Lib.hid (ch_own (w := w) HC4.out hg5 (by have := HG.out; omega))
  have HR5 := Lib.hid (HR4.out.own hg5 (by have := HG.out; omega) (fun a ha => by have := H.out.lt a ha; have := HG.out; omega))
  have hk5 := bk_eq hk5 (splice_same HPL.out (by rw [bv_length]; exact zeros_len 32))
  exact bodyPost_cell Try.results92 rfl hk5 Try.underlying29 rfl info_hash32 (by simp [HPL.out]) rfl ⟨rfl, HC5.out, HR5.out⟩

theorem z16l : (bv (zeros 16)).length = 16 := by rw [bv_length]; exact zeros_len 16
set_option maxHeartbeats 1000000 in
theorem rrSeal_no (w : World) (u : Value) :
    Calls Try.prog 93 #[u, .bool false] w fun en w' => en = .returned (.agg (bv (zeros 16)).toArray) ∧ Below w.heap.size w w' := by
  go_enter Try.func93, Try.ntmps93
  go_wp2_with (first
    | (with_reducible show wpList _ _ _ (Oper.mk (some 4) (Op.alloc _) _ _ _ _ :: _) _ _; refine wpList_alloc_bk rfl _ rfl (.agg (bv (zeros 16)).toArray) (by kernel_rfl) ?_; intro br w0 hk0 hb0 hg0 hs0; have HK0 := Lib.hid hk0; have HB0 := Lib.hid hb0; have HG0 := Lib.hid hg0; clear hk0 hb0 hg0 hs0)
    | (with_reducible show wpList _ _ _ (Oper.mk (some 5) (Op.alloc _) _ _ _ _ :: _) _ _; go_must (refine wpList_alloc_bk rfl _ rfl (.agg (bv (zeros 16)).toArray) (by kernel_rfl) ?_; intro bh w1 hk1 hb1 hg1 hs1; have HK := Lib.hid (bk_eq (cs' := (bv (zeros 16)).toArray) hk1 rfl); have HK1 := Lib.hid (HK0.out.below hb1 HK0.out.lt); have HB := Lib.hid (HB0.out.trans (hb1.mono HB0.out.size)); clear hk1 hb1 hg1 hs1))
    | (with_reducible show wpList _ _ _ (Oper.mk _ (Op.load _ _) _ _ _ _ :: _) _ _; refine wpList_load_part rfl 25 _ rfl bh 0 16 rfl _ _ _ HK.out Try.underlying25 rfl info_seal16 (by simp [z16l]) _ (cl_all z16l) ?_)
    | (with_reducible show wpList _ _ _ (Oper.mk _ (Op.store _ _ _) _ _ _ _ :: _) _ _; go_must (refine wpList_store_bk rfl 25 _ _ rfl br rfl (.agg (bv (zeros 16)).toArray) rfl _ _ HK1.out (by kernel_rfl) rfl (by simpa [Value.cells] using bv_one (zeros 16)) ?_; intro w5 hk5 hg5 hs5)))
  exact bodyPost_cell Try.results93 rfl hk5 Try.underlying25 rfl info_seal16 (by simp [Value.cells, bv, zeros]) rfl ⟨rfl, HB.out.grown hg5 (by have := HB.out.size; omega) (fun k hk => by cases hk; have := HG0.out; omega)⟩

/-- a thing under way, for the reference -/
structure RBd (w0 : World) (g : Nat) (A : Option Addr) (c : Nat) (l : List UInt8) (br : Nat) (Z : Array Value) (T : TypeId) (w : World) (p : Nat) (e : Int) : Prop where
  re : Rr w g A c l p e
  ch : Ch [g] w0 w
  res : Bk w br Z T
structure RSd (w0 : World) (g : Nat) (A : Option Addr) (br : Nat) : Prop where
  g : g < w0.heap.size
  a : ∀ a, A = some a → a.block < w0.heap.size
  r : w0.heap.size ≤ br
section
variable {w0 w w' : World} {g : Nat} {A : Option Addr} {c : Nat} {l : List UInt8} {br bx : Nat} {T t : TypeId} {p : Nat} {e : Int} {X Y X' Z : Array Value}
theorem RBd.call {p' : Nat} {e' : Int} (h : RBd w0 g A c l br Z T w p e) (s : RSd w0 g A br) (ch : Ch [g] w w') (re : Rr w' g A c l p' e') : RBd w0 g A c l br Z T w' p' e' :=
  ⟨re, h.ch.same ch, h.res.ch ch (by have := s.g; have := s.r; simp; omega)⟩
theorem RBd.below (h : RBd w0 g A c l br Z T w p e) (hb : Below w.heap.size w w') : RBd w0 g A c l br Z T w' p e :=
  ⟨h.re.below hb, h.ch.same (Ch.of_below _ hb), h.res.below hb h.res.lt⟩
theorem RBd.store (h : RBd w0 g A c l br Z T w p e) (s : RSd w0 g A br) (hx : br < bx) (hg : w.grownBy w' (some bx)) : RBd w0 g A c l br Z T w' p e :=
  ⟨h.re.own hg (by have := s.g; have := s.r; omega) (fun a ha => by have := s.a a ha; have := s.r; omega), ch_own h.ch hg (by have := s.r; omega), h.res.grown hg (by simp; omega)⟩
theorem bx_ch (hk : Bk w bx X t) (s : RSd w0 g A br) (hx : br < bx) (ch : Ch [g] w w') : Bk w' bx X t := hk.ch ch (by have := s.g; have := s.r; simp; omega)
end

end Go.Proofs.Ytocgcalaiejbiaa

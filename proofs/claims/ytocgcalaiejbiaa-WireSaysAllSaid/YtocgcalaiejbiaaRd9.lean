/-
  getHash, getSeal, signed: so many bytes in an array, zeros where they can't be read. Condition: the Reader was made by NewReader (Re).
-/
import Derived.Test.YtocgcalaiejbiaaRd8
import Derived.Test.YtocgcalaiejbiaaLoad3
import Derived.Deep.RegionLaw
import Derived.Laws.CopyOwn
namespace Go.Proofs.Ytocgcalaiejbiaa
set_option linter.unusedSimpArgs false
set_option linter.unusedVariables false
open Go.RowKit
set_option maxRecDepth 100000

theorem step_call {P : Program} {ops : Array Oper} {o : Oper} {a : Act} {w : World} {K : Act → World → Prop} {Q : Exit → Act → World → Prop} {E : Prop} (hgd : o.guard = none) {f : FuncId} {vs : Array Value} {post : Ending → World → Prop}
    (hrun : (execOp a.eval o).run P w = .ok (.enter f vs) w) (hc : Calls P f vs w post) (hK : ∀ e w', post e w' → ∃ v, e = .returned v ∧ K (a.put o.dst v) w') :
    if Region.wanted o (yielded ops a.tmps) = true then Oper.wp P o a w K Q else E := by
  have hw : Region.wanted o (yielded ops a.tmps) = true := by simp [Region.wanted, hgd]
  rw [if_pos hw]
  unfold Oper.wp
  rw [hrun]
  refine Calls.mono hc fun e w' he => ?_
  obtain ⟨v, rfl, hv⟩ := hK e w' he
  exact hv

/-- bytes laid into so many cells -/
def padded (n : Nat) (l : List UInt8) : List UInt8 := l ++ zeros (n - l.length)
theorem splice_zero (n : Nat) (l : List UInt8) : Go.splice (bv (zeros n)) 0 (bv l) = bv (padded n l) := by
  unfold Go.splice padded
  rw [bv_append]
  simp [bv, zeros]
theorem coreRaw_le {l : List UInt8} {n p : Nat} : (coreRaw l n p).val.length ≤ n := by
  unfold coreRaw
  split
  · simp
  · simp; omega
theorem after_le {l : List UInt8} {n p : Nat} {e : Int} : (after [] p e (coreRaw l n p)).val.length ≤ n := by
  unfold after
  split
  · exact coreRaw_le
  · simp
theorem re_any {w w' : World} {g : Nat} {A : Option Addr} {c : Nat} {l : List UInt8} {p : Nat} {e : Int} (h : Re w g A c l p e) (hh : w'.heap = w.heap) : Re w' g A c l p e :=
  ⟨by unfold Bk; rw [hh]; exact h.bk, fun j u hu => by
      obtain ⟨ad, ha, hc⟩ := h.rd j u hu
      exact ⟨ad, ha, by rw [World.cell?_of_block (w := w) (by rw [hh])]; exact hc⟩, h.ne, fun a ha => by rw [hh]; exact h.lt a ha, h.le, h.cap, h.room, h.reach⟩

theorem info_u8s : True := trivial
theorem rd_pos {w : World} {A : Option Addr} {xs : List Value} (h : Rd w A xs) (h0 : 0 < xs.length) : ∃ ad, A = some ad ∧ ∀ j v, xs[j]? = some v → w.cell? (ad.add j) = some v := by
  obtain ⟨ad, ha, _⟩ := h.at_ h0
  subst ha
  exact ⟨ad, rfl, fun j v hj => by
    obtain ⟨ad', ha', hc⟩ := h j v hj
    cases ha'
    exact hc⟩
theorem re_low {w w' : World} {g : Nat} {A : Option Addr} {c : Nat} {l : List UInt8} {p : Nat} {e : Int} {B : Nat} (h : Re w g A c l p e) (hb : Below B w w') (hg : g < B) (hA : ∀ a, A = some a → a.block < B) : Re w' g A c l p e :=
  ⟨h.bk.below hb hg, h.rd.of_cells fun ad j ha _ => hb.cell (by rw [add_block]; exact hA ad ha), h.ne, fun a ha => Nat.lt_of_lt_of_le (h.lt a ha) hb.size, h.le, h.cap, h.room, h.reach⟩
theorem re_own {w w' : World} {g : Nat} {A : Option Addr} {c : Nat} {l : List UInt8} {p : Nat} {e : Int} {b : Nat} (h : Re w g A c l p e) (hg' : w.grownBy w' (some b)) (hg : g < b) (hA : ∀ a, A = some a → a.block < b) : Re w' g A c l p e :=
  h.ch (Ch.of_grown hg') (by simp; omega) (fun a ha => by have := hA a ha; simp; omega)
theorem ch_own {w w4 w5 : World} {g b : Nat} (h : Ch [g] w w4) (hg' : w4.grownBy w5 (some b)) (hb : w.heap.size ≤ b) : Ch [g] w w5 :=
  h.trans (Ch.of_grown hg') (fun k hk => .inr (by simp at hk; omega))
theorem ch_low {w w1 w3 w4 : World} {g B : Nat} (h1 : Below w.heap.size w w1) (ch3 : Ch [g] w1.drew w3) (hb : Below B w3 w4) (hB : w.heap.size ≤ B) : Ch [g] w w4 :=
  ⟨(hb.os.trans ch3.os).trans h1.os, (hb.tape.trans ch3.tape).trans h1.tape, (hb.output.trans ch3.output).trans h1.output, Nat.le_trans (Nat.le_trans h1.size ch3.size) hb.size, fun k hk hn => by
    rw [hb.block k (by omega), ch3.block k (Nat.lt_of_lt_of_le hk h1.size) hn]
    exact h1.block k hk⟩

set_option maxHeartbeats 2000000 in
theorem getHash_any (w : World) (g : Nat) (A : Option Addr) (c : Nat) (l : List UInt8) (p : Nat) (e : Int) (h : Re w g A c l p e) :
    Calls Try.prog 85 #[.pointer (some ⟨g, 0, none⟩)] w (RdRes g A c l (after [] p e (coreRaw l 32 p)) (fun x => .agg (bv (padded 32 x)).toArray) w) := by
  have H := Lib.hid h
  have hgl : g < w.heap.size := h.bk.lt
  clear h
  have hle : (after [] p e (coreRaw l 32 p)).val.length ≤ 32 := after_le
  have key0 := fun (wx : World) (hx : Re wx g A c l p e) => Raw_any wx g A c l p e 32 (by omega) hx
  generalize after [] p e (coreRaw l 32 p) = K at *
  have HLE := Lib.hid hle
  have HKEY := Lib.hid key0
  clear hle key0
  go_enter Try.func85, Try.ntmps85
  go_wp2_with (with_reducible show wpList _ _ _ (Oper.mk _ (Op.alloc _) _ _ _ _ :: _) _ _; refine wpList_alloc_bk rfl _ rfl (.agg (bv (zeros 32)).toArray) (by kernel_rfl) ?_)
  intro bh w1 hk1 hb1 hg1 hs1
  have HR := Lib.hid (H.out.below hb1)
  have HB := Lib.hid hb1
  have HK := Lib.hid hk1
  have HG := Lib.hid hg1
  have HN := Lib.hid (show bh ≠ g by omega)
  clear hb1 hk1 hg1 hs1
  go_wp2
  go_region_law (first
    | (refine step_copy_splice rfl (.tmp 3) (.tmp 5) 36 36 rfl 5 Try.underlying36 (by kernel_rfl) (some ⟨bh, 0, none⟩) A3 32 32 K.val.length c3 (by simp [Act.eval, Act.put]) (by simp [Act.eval, Act.put]) bh 0 (bv (zeros 32)) 29 HK3.out (bv K.val) (by rw [bv_length]; exact (Nat.min_eq_left HLE.out).symm) (fun h0 => ⟨rfl, rd_pos HS3.out.rd h0⟩) (by have := HLE.out; simp [bv_length, zeros]; omega) (bv_one _) bh w3 (Below.refl _ _) (Nat.le_refl _) ?_; intro w4 hg4 hb4)
    | (refine step_call rfl (by go_simp) (HKEY.out _ (re_any HR.out rfl)) ?_; rintro e3 w3 ⟨A3, c3, rfl, hs3, ch3, re3⟩; refine ⟨_, rfl, ?_⟩; have HS3 := Lib.hid hs3; have HC3 := Lib.hid ch3; have HR3 := Lib.hid re3; have HK3 := Lib.hid (Bk.ch (w := w1.drew) HK.out ch3 (by simpa using HN.out)); clear hs3 ch3 re3))
  have R4 := re_low HR3.out hb4 (by have := HG.out; omega) (fun a ha => by have := H.out.lt a ha; have := HG.out; omega)
  have C4 := ch_low (w := w) (HB.out) (ch3 := HC3.out) hb4 (by have := HG.out; omega)
  have hg4' := hg4.out
  rw [splice_zero] at hg4'
  have B4 : Bk w4 bh (bv (padded 32 K.val)).toArray 29 := hg4'
  clear hg4' hg4 hb4
  have hpl : (bv (padded 32 K.val)).length = 32 := by have := HLE.out; simp [bv_length, padded, zeros]; omega
  have HPL := Lib.hid hpl
  have HR4 := Lib.hid R4
  have HC4 := Lib.hid C4
  clear R4 C4 hpl
  have HSZ := Lib.hid (show ((Try.prog.info? 29).map (·.size)) = some (Value.agg (bv (padded 32 K.val)).toArray).cells.size from by
    rw [show ((Try.prog.info? 29).map (·.size)) = some 32 from by kernel_rfl]
    exact congrArg some (by simp [Value.cells, HPL.out]))
  have HONE := Lib.hid (show ∀ u ∈ (Value.agg (bv (padded 32 K.val)).toArray).cells.toList, u.oneCell' = true from by
    simpa [Value.cells] using bv_one (padded 32 K.val))
  go_wp2_with (first
    | (with_reducible show wpList _ _ _ (Oper.mk _ (Op.load _ _) _ _ _ _ :: _) _ _; refine wpList_load_part rfl 29 _ rfl bh 0 32 rfl _ _ _ B4 Try.underlying29 rfl (by kernel_rfl) (by simp [HPL.out]) _ (cl_all HPL.out) ?_)
    | (with_reducible show wpList _ _ _ (Oper.mk _ (Op.store _ _ _) _ _ _ _ :: _) _ _; go_must (refine wpList_store_bk rfl 29 _ _ rfl bh rfl (.agg (bv (padded 32 K.val)).toArray) rfl _ _ B4 HSZ.out rfl HONE.out ?_; intro w5 hk5 hg5 hs5)))
  have HC5 := Lib.hid (ch_own (w := w) HC4.out hg5 (by have := HG.out; omega))
  have HR5 := Lib.hid (re_own HR4.out hg5 (by have := HG.out; omega) (fun a ha => by have := H.out.lt a ha; have := HG.out; omega))
  exact bodyPost_cell Try.results85 rfl hk5 Try.underlying29 rfl (show ((Try.prog.info? 29).map (·.size)) = some 32 from by kernel_rfl) (by simp [Value.cells, HPL.out]) rfl ⟨rfl, HC5.out, HR5.out⟩

set_option maxHeartbeats 2000000 in
theorem getSeal_any (w : World) (g : Nat) (A : Option Addr) (c : Nat) (l : List UInt8) (p : Nat) (e : Int) (h : Re w g A c l p e) :
    Calls Try.prog 110 #[.pointer (some ⟨g, 0, none⟩)] w (RdRes g A c l (after [] p e (coreRaw l 16 p)) (fun x => .agg (bv (padded 16 x)).toArray) w) := by
  have H := Lib.hid h
  have hgl : g < w.heap.size := h.bk.lt
  clear h
  have hle : (after [] p e (coreRaw l 16 p)).val.length ≤ 16 := after_le
  have key0 := fun (wx : World) (hx : Re wx g A c l p e) => Raw_any wx g A c l p e 16 (by omega) hx
  generalize after [] p e (coreRaw l 16 p) = K at *
  have HLE := Lib.hid hle
  have HKEY := Lib.hid key0
  clear hle key0
  go_enter Try.func110, Try.ntmps110
  go_wp2_with (with_reducible show wpList _ _ _ (Oper.mk _ (Op.alloc _) _ _ _ _ :: _) _ _; refine wpList_alloc_bk rfl _ rfl (.agg (bv (zeros 16)).toArray) (by kernel_rfl) ?_)
  intro bh w1 hk1 hb1 hg1 hs1
  have HR := Lib.hid (H.out.below hb1)
  have HB := Lib.hid hb1
  have HK := Lib.hid hk1
  have HG := Lib.hid hg1
  have HN := Lib.hid (show bh ≠ g by omega)
  clear hb1 hk1 hg1 hs1
  go_wp2
  go_region_law (first
    | (refine step_copy_splice rfl (.tmp 3) (.tmp 5) 36 36 rfl 5 Try.underlying36 (by kernel_rfl) (some ⟨bh, 0, none⟩) A3 16 16 K.val.length c3 (by simp [Act.eval, Act.put]) (by simp [Act.eval, Act.put]) bh 0 (bv (zeros 16)) 25 HK3.out (bv K.val) (by rw [bv_length]; exact (Nat.min_eq_left HLE.out).symm) (fun h0 => ⟨rfl, rd_pos HS3.out.rd h0⟩) (by have := HLE.out; simp [bv_length, zeros]; omega) (bv_one _) bh w3 (Below.refl _ _) (Nat.le_refl _) ?_; intro w4 hg4 hb4)
    | (refine step_call rfl (by go_simp) (HKEY.out _ (re_any HR.out rfl)) ?_; rintro e3 w3 ⟨A3, c3, rfl, hs3, ch3, re3⟩; refine ⟨_, rfl, ?_⟩; have HS3 := Lib.hid hs3; have HC3 := Lib.hid ch3; have HR3 := Lib.hid re3; have HK3 := Lib.hid (Bk.ch (w := w1.drew) HK.out ch3 (by simpa using HN.out)); clear hs3 ch3 re3))
  have R4 := re_low HR3.out hb4 (by have := HG.out; omega) (fun a ha => by have := H.out.lt a ha; have := HG.out; omega)
  have C4 := ch_low (w := w) (HB.out) (ch3 := HC3.out) hb4 (by have := HG.out; omega)
  have hg4' := hg4.out
  rw [splice_zero] at hg4'
  have B4 : Bk w4 bh (bv (padded 16 K.val)).toArray 25 := hg4'
  clear hg4' hg4 hb4
  have hpl : (bv (padded 16 K.val)).length = 16 := by have := HLE.out; simp [bv_length, padded, zeros]; omega
  have HPL := Lib.hid hpl
  have HR4 := Lib.hid R4
  have HC4 := Lib.hid C4
  clear R4 C4 hpl
  have HSZ := Lib.hid (show ((Try.prog.info? 25).map (·.size)) = some (Value.agg (bv (padded 16 K.val)).toArray).cells.size from by
    rw [show ((Try.prog.info? 25).map (·.size)) = some 16 from by kernel_rfl]
    exact congrArg some (by simp [Value.cells, HPL.out]))
  have HONE := Lib.hid (show ∀ u ∈ (Value.agg (bv (padded 16 K.val)).toArray).cells.toList, u.oneCell' = true from by
    simpa [Value.cells] using bv_one (padded 16 K.val))
  go_wp2_with (first
    | (with_reducible show wpList _ _ _ (Oper.mk _ (Op.load _ _) _ _ _ _ :: _) _ _; refine wpList_load_part rfl 25 _ rfl bh 0 16 rfl _ _ _ B4 Try.underlying25 rfl (by kernel_rfl) (by simp [HPL.out]) _ (cl_all HPL.out) ?_)
    | (with_reducible show wpList _ _ _ (Oper.mk _ (Op.store _ _ _) _ _ _ _ :: _) _ _; go_must (refine wpList_store_bk rfl 25 _ _ rfl bh rfl (.agg (bv (padded 16 K.val)).toArray) rfl _ _ B4 HSZ.out rfl HONE.out ?_; intro w5 hk5 hg5 hs5)))
  have HC5 := Lib.hid (ch_own (w := w) HC4.out hg5 (by have := HG.out; omega))
  have HR5 := Lib.hid (re_own HR4.out hg5 (by have := HG.out; omega) (fun a ha => by have := H.out.lt a ha; have := HG.out; omega))
  exact bodyPost_cell Try.results110 rfl hk5 Try.underlying25 rfl (show ((Try.prog.info? 25).map (·.size)) = some 16 from by kernel_rfl) (by simp [Value.cells, HPL.out]) rfl ⟨rfl, HC5.out, HR5.out⟩

end Go.Proofs.Ytocgcalaiejbiaa

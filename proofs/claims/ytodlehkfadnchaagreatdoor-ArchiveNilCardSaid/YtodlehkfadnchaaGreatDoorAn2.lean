/-
  ArchiveNil, further pieces: Save, Note, From of an archive that was not opened; zero blocks and certificates compared. Condition: as in the first text.
-/
import Derived.Test.YtodlehkfadnchaaGreatDoorAn1
namespace Go.Proofs.YtodlehkfadnchaaGreatDoor
set_option linter.unusedSimpArgs false
set_option linter.unusedVariables false
open Go.RowKit
set_option maxRecDepth 100000
theorem one_at (v : Value) : (#[v] : Array Value)[0]? = some v := rfl
theorem zc0 : zeroCertL.toArray[0]? = some (.int .u64 0) := rfl
theorem zc1 : zeroCertL.toArray[1]? = some (.int .i64 0) := rfl
theorem zc34 : zeroCertL.toArray[34]? = some (.slice none 0 0) := rfl
theorem nilA_none (w : World) : NilA w (.pointer none) := Or.inl rfl
theorem one_u (n : Int) : ∀ u ∈ (Value.int .u64 n).cells.toList, u.oneCell' = true := by
  intro u hu
  have e : u = .int .u64 n := by simpa [Value.cells] using hu
  rw [e]
  rfl
theorem fits_rep (n : Nat) : Fits (List.replicate n (.int .u8)) (List.replicate n (.int .u8 0)) := by
  induction n with
  | zero => trivial
  | succ n ih => exact ⟨rfl, ih⟩

set_option maxHeartbeats 4000000 in
theorem save_any (w : World) (v : Value) (cb cc : Array Value) (n : Int) (h : NilA w v) (h1 : cb[1]? = some (.int .u64 n)) :
    Calls Tryz.prog 9 #[v, .agg cb, .agg cc] w fun e w' => e = .returned (.int .i64 1) ∧ Below w.heap.size w w' := by
  have H := Lib.hid h
  have H1 := Lib.hid h1
  clear h1
  rcases h with rfl | ⟨g, rfl, hc⟩
  · clear H
    go_enter Tryz.func9, Tryz.ntmps9
    go_wp2_with (first
      | (with_reducible show wpList _ _ _ (Oper.mk (some 3) (Op.box _ _) _ _ _ _ :: _) _ _; go_must (refine wpList_box_bk rfl _ _ rfl (.pointer none) rfl ?_; intro g1 w1 hk hb hg hs; have A1 := Lib.hid hb; have K1 := Lib.hid (bk_eqA (cs' := #[.pointer none]) hk rfl); clear hk hb hg hs))
      | (with_reducible show wpList _ _ _ (Oper.mk (some 4) (Op.box _ _) _ _ _ _ :: _) _ _; go_must (refine wpList_box_bk rfl _ _ rfl (.agg cb) rfl ?_; intro g2 w2 hk hb hg hs; have A2 := Lib.hid (A1.out.trans (hb.mono A1.out.size)); have K2 := Lib.hid (bk_eqA (cs' := cb) hk rfl); have K12 := Lib.hid (K1.out.below hb K1.out.lt); clear hk hb hg hs))
      | (with_reducible show wpList _ _ _ (Oper.mk (some 5) (Op.box _ _) _ _ _ _ :: _) _ _; go_must (refine wpList_box_bk rfl _ _ rfl (.agg cc) rfl ?_; intro g3 w3 hk hb hg hs; have A3 := Lib.hid (A2.out.trans (hb.mono A2.out.size)); have K13 := Lib.hid (K12.out.below hb K12.out.lt); have c2 : w3.cell? ⟨g2, 1, none⟩ = some (.int .u64 n) := ((K2.out.below hb K2.out.lt).cell 1).trans H1.out; clear hk hb hg hs))
      | (with_reducible show wpList _ _ _ (Oper.mk (some 7) (Op.alloc _) _ _ _ _ :: _) _ _; go_must (refine wpList_alloc_bk rfl _ rfl (.int .u64 0) (by kernel_rfl) ?_; intro g4 w4 hk hb hg hs; have A4 := Lib.hid (A3.out.trans (hb.mono A3.out.size)); have G4 := Lib.hid hg; have K4 := Lib.hid (bk_eqA (cs' := #[.int .u64 0]) hk rfl); have K14 := Lib.hid (K13.out.below hb K13.out.lt); have k13 := K13.out.lt; clear hk hb hg hs))
      | (with_reducible show wpList _ _ _ (Oper.mk _ (Op.store _ _ _) _ _ _ _ :: _) _ _; go_must (refine wpList_store_bk rfl _ _ _ rfl g4 rfl (.int .u64 n) rfl _ _ K4.out (by kernel_rfl) rfl (one_u n) ?_; intro w5 hk hg hs; have A5 := Lib.hid (A4.out.grown hg A4.out.size (fun k hk => by cases hk; have := G4.out; have := A3.out.size; omega)); have K15 := Lib.hid (K14.out.grown hg (fun h => by cases h; have := G4.out; omega)); have c15 : w5.cell? ⟨g1, 0, none⟩ = some (.pointer none) := (K15.out.cell 0).trans (one_at _); have N5 := Lib.hid (nilA_none w5); clear hk hg hs))
      | (go_at_call 24; go_must (refine (change_any _ _ _ _ N5.out).mono ?_; rintro e wx ⟨rfl, rfl⟩)))
    go_ret
    exact ⟨rfl, A5.out⟩
  · clear hc
    go_enter Tryz.func9, Tryz.ntmps9
    go_wp2_with (first
      | (with_reducible show wpList _ _ _ (Oper.mk (some 3) (Op.box _ _) _ _ _ _ :: _) _ _; go_must (refine wpList_box_bk rfl _ _ rfl (.pointer (some ⟨g, 0, none⟩)) rfl ?_; intro g1 w1 hk hb hg hs; have A1 := Lib.hid hb; have K1 := Lib.hid (bk_eqA (cs' := #[.pointer (some ⟨g, 0, none⟩)]) hk rfl); clear hk hb hg hs))
      | (with_reducible show wpList _ _ _ (Oper.mk (some 4) (Op.box _ _) _ _ _ _ :: _) _ _; go_must (refine wpList_box_bk rfl _ _ rfl (.agg cb) rfl ?_; intro g2 w2 hk hb hg hs; have A2 := Lib.hid (A1.out.trans (hb.mono A1.out.size)); have K2 := Lib.hid (bk_eqA (cs' := cb) hk rfl); have K12 := Lib.hid (K1.out.below hb K1.out.lt); clear hk hb hg hs))
      | (with_reducible show wpList _ _ _ (Oper.mk (some 5) (Op.box _ _) _ _ _ _ :: _) _ _; go_must (refine wpList_box_bk rfl _ _ rfl (.agg cc) rfl ?_; intro g3 w3 hk hb hg hs; have A3 := Lib.hid (A2.out.trans (hb.mono A2.out.size)); have K13 := Lib.hid (K12.out.below hb K12.out.lt); have c2 : w3.cell? ⟨g2, 1, none⟩ = some (.int .u64 n) := ((K2.out.below hb K2.out.lt).cell 1).trans H1.out; clear hk hb hg hs))
      | (with_reducible show wpList _ _ _ (Oper.mk (some 7) (Op.alloc _) _ _ _ _ :: _) _ _; go_must (refine wpList_alloc_bk rfl _ rfl (.int .u64 0) (by kernel_rfl) ?_; intro g4 w4 hk hb hg hs; have A4 := Lib.hid (A3.out.trans (hb.mono A3.out.size)); have G4 := Lib.hid hg; have K4 := Lib.hid (bk_eqA (cs' := #[.int .u64 0]) hk rfl); have K14 := Lib.hid (K13.out.below hb K13.out.lt); have k13 := K13.out.lt; clear hk hb hg hs))
      | (with_reducible show wpList _ _ _ (Oper.mk _ (Op.store _ _ _) _ _ _ _ :: _) _ _; go_must (refine wpList_store_bk rfl _ _ _ rfl g4 rfl (.int .u64 n) rfl _ _ K4.out (by kernel_rfl) rfl (one_u n) ?_; intro w5 hk hg hs; have A5 := Lib.hid (A4.out.grown hg A4.out.size (fun k hk => by cases hk; have := G4.out; have := A3.out.size; omega)); have K15 := Lib.hid (K14.out.grown hg (fun h => by cases h; have := G4.out; omega)); have c15 : w5.cell? ⟨g1, 0, none⟩ = some (.pointer (some ⟨g, 0, none⟩)) := (K15.out.cell 0).trans (one_at _); have N5 := Lib.hid (H.out.below A5.out); clear hk hg hs))
      | (go_at_call 24; go_must (refine (change_any _ _ _ _ N5.out).mono ?_; rintro e wx ⟨rfl, rfl⟩)))
    go_ret
    exact ⟨rfl, A5.out⟩

set_option maxHeartbeats 4000000 in
theorem note_any (w : World) (v : Value) (cs : Array Value) (h : NilA w v) :
    Calls Tryz.prog 10 #[v, .agg cs] w fun e w' => e = .returned (.int .i64 1) ∧ Below w.heap.size w w' := by
  have H := Lib.hid h
  rcases h with rfl | ⟨g, rfl, hc⟩
  · clear H
    go_enter Tryz.func10, Tryz.ntmps10
    go_wp2_with (first
      | (with_reducible show wpList _ _ _ (Oper.mk (some 2) (Op.box _ _) _ _ _ _ :: _) _ _; go_must (refine wpList_box_bk rfl _ _ rfl (.pointer none) rfl ?_; intro g1 w1 hk hb hg hs; have A1 := Lib.hid hb; have K1 := Lib.hid (bk_eqA (cs' := #[.pointer none]) hk rfl); clear hk hb hg hs))
      | (with_reducible show wpList _ _ _ (Oper.mk (some 3) (Op.box _ _) _ _ _ _ :: _) _ _; go_must (refine wpList_box_bk rfl _ _ rfl (.agg cs) rfl ?_; intro g2 w5 hk hb hg hs; have A5 := Lib.hid (A1.out.trans (hb.mono A1.out.size)); have c15 : w5.cell? ⟨g1, 0, none⟩ = some (.pointer none) := ((K1.out.below hb K1.out.lt).cell 0).trans (one_at _); have N5 := Lib.hid (nilA_none w5); clear hk hb hg hs))
      | (go_at_call 24; go_must (refine (change_any _ _ _ _ N5.out).mono ?_; rintro e wx ⟨rfl, rfl⟩)))
    go_ret
    exact ⟨rfl, A5.out⟩
  · clear hc
    go_enter Tryz.func10, Tryz.ntmps10
    go_wp2_with (first
      | (with_reducible show wpList _ _ _ (Oper.mk (some 2) (Op.box _ _) _ _ _ _ :: _) _ _; go_must (refine wpList_box_bk rfl _ _ rfl (.pointer (some ⟨g, 0, none⟩)) rfl ?_; intro g1 w1 hk hb hg hs; have A1 := Lib.hid hb; have K1 := Lib.hid (bk_eqA (cs' := #[.pointer (some ⟨g, 0, none⟩)]) hk rfl); clear hk hb hg hs))
      | (with_reducible show wpList _ _ _ (Oper.mk (some 3) (Op.box _ _) _ _ _ _ :: _) _ _; go_must (refine wpList_box_bk rfl _ _ rfl (.agg cs) rfl ?_; intro g2 w5 hk hb hg hs; have A5 := Lib.hid (A1.out.trans (hb.mono A1.out.size)); have c15 : w5.cell? ⟨g1, 0, none⟩ = some (.pointer (some ⟨g, 0, none⟩)) := ((K1.out.below hb K1.out.lt).cell 0).trans (one_at _); have N5 := Lib.hid (H.out.below A5.out); clear hk hb hg hs))
      | (go_at_call 24; go_must (refine (change_any _ _ _ _ N5.out).mono ?_; rintro e wx ⟨rfl, rfl⟩)))
    go_ret
    exact ⟨rfl, A5.out⟩

def FromRes (w : World) (v : Value) (n : Int) (e : Ending) (w' : World) : Prop := ∃ g1 g2, e = .returned (.func (.func 35) #[] #[.pointer (some ⟨g2, 0, none⟩), .pointer (some ⟨g1, 0, none⟩)]) ∧ w'.cell? ⟨g1, 0, none⟩ = some v ∧ w'.cell? ⟨g2, 0, none⟩ = some (.int .u64 n) ∧ Below w.heap.size w w'
set_option maxHeartbeats 4000000 in
theorem from_any (w : World) (v : Value) (n : Int) (h : NilA w v) :
    Calls Tryz.prog 13 #[v, .int .u64 n] w (FromRes w v n) := by
  rcases h with rfl | ⟨g, rfl, hc⟩
  · skip
    go_enter Tryz.func13, Tryz.ntmps13
    go_wp2_with (first
      | (with_reducible show wpList _ _ _ (Oper.mk (some 2) (Op.box _ _) _ _ _ _ :: _) _ _; go_must (refine wpList_box_bk rfl _ _ rfl (.pointer none) rfl ?_; intro g1 w1 hk hb hg hs; have A1 := Lib.hid hb; have K1 := Lib.hid (bk_eqA (cs' := #[.pointer none]) hk rfl); clear hk hb hg hs))
      | (with_reducible show wpList _ _ _ (Oper.mk (some 3) (Op.box _ _) _ _ _ _ :: _) _ _; go_must (refine wpList_box_bk rfl _ _ rfl (.int .u64 n) rfl ?_; intro g2 w5 hk hb hg hs; have A5 := Lib.hid (A1.out.trans (hb.mono A1.out.size)); have K15 := Lib.hid (K1.out.below hb K1.out.lt); have K25 := Lib.hid (bk_eqA (cs' := #[.int .u64 n]) hk rfl); clear hk hb hg hs)))
    go_ret
    exact ⟨g1, g2, rfl, K15.out.cell 0, K25.out.cell 0, A5.out⟩
  · clear hc
    go_enter Tryz.func13, Tryz.ntmps13
    go_wp2_with (first
      | (with_reducible show wpList _ _ _ (Oper.mk (some 2) (Op.box _ _) _ _ _ _ :: _) _ _; go_must (refine wpList_box_bk rfl _ _ rfl (.pointer (some ⟨g, 0, none⟩)) rfl ?_; intro g1 w1 hk hb hg hs; have A1 := Lib.hid hb; have K1 := Lib.hid (bk_eqA (cs' := #[.pointer (some ⟨g, 0, none⟩)]) hk rfl); clear hk hb hg hs))
      | (with_reducible show wpList _ _ _ (Oper.mk (some 3) (Op.box _ _) _ _ _ _ :: _) _ _; go_must (refine wpList_box_bk rfl _ _ rfl (.int .u64 n) rfl ?_; intro g2 w5 hk hb hg hs; have A5 := Lib.hid (A1.out.trans (hb.mono A1.out.size)); have K15 := Lib.hid (K1.out.below hb K1.out.lt); have K25 := Lib.hid (bk_eqA (cs' := #[.int .u64 n]) hk rfl); clear hk hb hg hs)))
    go_ret
    exact ⟨g1, g2, rfl, K15.out.cell 0, K25.out.cell 0, A5.out⟩

def certKs : List CK := List.replicate 32 (.int .u8)
theorem flatH : flat Tryz.prog 2 24 = some (List.replicate 32 (.int .u8)) := by kernel_rfl
theorem aggH : isAggT Tryz.prog 24 = true := by kernel_rfl
theorem guardH : Tryz.prog.eqGuardType Tryz.prog.depth 24 = false := by kernel_rfl
theorem iH : (Tryz.prog.info? 24).map (·.size) = some 32 := by kernel_rfl
theorem fitsH : Fits (List.replicate 32 (.int .u8)) (List.replicate 32 (.int .u8 0)) := fits_rep 32
theorem exH : zeroCertL.toArray.extract 2 (2 + 32) = (List.replicate 32 (Value.int .u8 0)).toArray := by rfl
set_option maxHeartbeats 4000000 in
theorem sameCert_any (w : World) :
    Calls Tryz.prog 12 #[.agg zeroCertL.toArray, .agg zeroCertL.toArray] w fun e w' => e = .returned (.bool true) ∧ Below w.heap.size w w' := by
  go_enter Tryz.func12, Tryz.ntmps12
  go_wp2_with (first
    | (with_reducible show wpList _ _ _ (Oper.mk (some 2) (Op.box _ _) _ _ _ _ :: _) _ _; go_must (refine wpList_box_bk rfl _ _ rfl (.agg zeroCertL.toArray) rfl ?_; intro g1 w1 hk hb hg hs; have A1 := Lib.hid hb; have K1 := Lib.hid (bk_eqA (cs' := zeroCertL.toArray) hk rfl); clear hk hb hg hs))
    | (with_reducible show wpList _ _ _ (Oper.mk (some 3) (Op.box _ _) _ _ _ _ :: _) _ _; go_must (refine wpList_box_bk rfl _ _ rfl (.agg zeroCertL.toArray) rfl ?_; intro g2 w2 hk hb hg hs; have A2 := Lib.hid (A1.out.trans (hb.mono A1.out.size)); have K12 := Lib.hid (K1.out.below hb K1.out.lt); have K22 := Lib.hid (bk_eqA (cs' := zeroCertL.toArray) hk rfl); have c1 : w2.cell? ⟨g1, 0, none⟩ = some (.int .u64 0) := (K12.out.cell 0).trans zc0; have c2 : w2.cell? ⟨g2, 0, none⟩ = some (.int .u64 0) := (K22.out.cell 0).trans zc0; have c3 : w2.cell? ⟨g1, 1, none⟩ = some (.int .i64 0) := (K12.out.cell 1).trans zc1; have c4 : w2.cell? ⟨g2, 1, none⟩ = some (.int .i64 0) := (K22.out.cell 1).trans zc1; have c5 : w2.cell? ⟨g1, 34, none⟩ = some (.slice none 0 0) := (K12.out.cell 34).trans zc34; have c6 : w2.cell? ⟨g2, 34, none⟩ = some (.slice none 0 0) := (K22.out.cell 34).trans zc34; clear hk hb hg hs))
    | (with_reducible show wpList _ _ _ (Oper.mk (some 20) (Op.load _ _) _ _ _ _ :: _) _ _; go_must (refine wpList_load_part rfl 24 _ rfl g1 2 32 rfl _ _ _ K12.out Tryz.underlying24 rfl iH (by rw [lC]; omega) _ exH ?_))
    | (with_reducible show wpList _ _ _ (Oper.mk (some 22) (Op.load _ _) _ _ _ _ :: _) _ _; go_must (refine wpList_load_part rfl 24 _ rfl g2 2 32 rfl _ _ _ K22.out Tryz.underlying24 rfl iH (by rw [lC]; omega) _ exH ?_))
    | (with_reducible show wpList _ _ _ (Oper.mk (some 23) (Op.binOp _ _ _ _ _) _ _ _ _ :: _) _ _; go_must (refine wpList_neq_flat rfl 24 _ _ _ rfl _ _ rfl rfl 2 _ flatH (by omega) aggH guardH fitsH fitsH true (by simp) ?_)))
  go_loopw [5] (fun i wr => i = .int .i64 0 ∧ wr = w2) (fun _ _ => 0)
  case atStart => exact ⟨rfl, rfl⟩
  case round =>
    obtain ⟨rfl, rfl⟩ := hrel
    go_wp2
    go_ret
    exact ⟨rfl, A2.out⟩
end Go.Proofs.YtodlehkfadnchaaGreatDoor

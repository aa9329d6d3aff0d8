/-
  ArchiveNil, further pieces: two zero blocks compared; the closure that From gives. Condition: as in the first text.
-/
import Derived.Test.YtodlehkfadnchaaGreatDoorAn2
namespace Go.Proofs.YtodlehkfadnchaaGreatDoor
set_option linter.unusedSimpArgs false
set_option linter.unusedVariables false
open Go.RowKit
set_option maxRecDepth 100000

def headKs : List CK := [.str, .int .u64, .int .u64] ++ List.replicate 224 (.int .u8) ++ [.int .u64]
theorem flatHd : flat Tryz.prog 3 27 = some headKs := by kernel_rfl
theorem aggHd : isAggT Tryz.prog 27 = true := by kernel_rfl
theorem guardHd : Tryz.prog.eqGuardType Tryz.prog.depth 27 = false := by kernel_rfl
theorem iHd : (Tryz.prog.info? 27).map (·.size) = some 228 := by kernel_rfl
theorem fitsHd : Fits headKs zeroHeader := Fits.app (Fits.app (ks := [.str, .int .u64, .int .u64]) (vs := [.string ByteArray.empty, .int .u64 0, .int .u64 0]) ⟨trivial, rfl, rfl, trivial⟩ (fits_rep 224)) (ks' := [.int .u64]) (vs' := [.int .u64 0]) ⟨rfl, trivial⟩
theorem exHd : zeroBlockL.toArray.extract 0 (0 + 228) = zeroHeader.toArray := by rfl
theorem exCt : zeroBlockL.toArray.extract 230 (230 + 35) = zeroCertL.toArray := by rfl
theorem zb228 : zeroBlockL.toArray[228]? = some (.slice none 0 0) := rfl
theorem zb229 : zeroBlockL.toArray[229]? = some (.slice none 0 0) := rfl
set_option maxHeartbeats 8000000 in
theorem sameBlock_any (w : World) :
    Calls Tryz.prog 11 #[.agg zeroBlockL.toArray, .agg zeroBlockL.toArray] w fun e w' => e = .returned (.bool true) ∧ Below w.heap.size w w' := by
  go_enter Tryz.func11, Tryz.ntmps11
  go_wp2_with (first
    | (with_reducible show wpList _ _ _ (Oper.mk (some 2) (Op.box _ _) _ _ _ _ :: _) _ _; go_must (refine wpList_box_bk rfl _ _ rfl (.agg zeroBlockL.toArray) rfl ?_; intro g1 w1 hk hb hg hs; have A1 := Lib.hid hb; have K1 := Lib.hid (bk_eqA (cs' := zeroBlockL.toArray) hk rfl); clear hk hb hg hs))
    | (with_reducible show wpList _ _ _ (Oper.mk (some 3) (Op.box _ _) _ _ _ _ :: _) _ _; go_must (refine wpList_box_bk rfl _ _ rfl (.agg zeroBlockL.toArray) rfl ?_; intro g2 w2 hk hb hg hs; have A2 := Lib.hid (A1.out.trans (hb.mono A1.out.size)); have K12 := Lib.hid (K1.out.below hb K1.out.lt); have K22 := Lib.hid (bk_eqA (cs' := zeroBlockL.toArray) hk rfl); have c1 : w2.cell? ⟨g1, 228, none⟩ = some (.slice none 0 0) := (K12.out.cell 228).trans zb228; have c2 : w2.cell? ⟨g2, 228, none⟩ = some (.slice none 0 0) := (K22.out.cell 228).trans zb228; have c3 : w2.cell? ⟨g1, 229, none⟩ = some (.slice none 0 0) := (K12.out.cell 229).trans zb229; have c4 : w2.cell? ⟨g2, 229, none⟩ = some (.slice none 0 0) := (K22.out.cell 229).trans zb229; clear hk hb hg hs))
    | (with_reducible show wpList _ _ _ (Oper.mk (some 8) (Op.load _ _) _ _ _ _ :: _) _ _; go_must (refine wpList_load_part rfl 27 _ rfl g1 0 228 rfl _ _ _ K12.out Tryz.underlying27 rfl iHd (by rw [lB]; omega) _ exHd ?_))
    | (with_reducible show wpList _ _ _ (Oper.mk (some 10) (Op.load _ _) _ _ _ _ :: _) _ _; go_must (refine wpList_load_part rfl 27 _ rfl g2 0 228 rfl _ _ _ K22.out Tryz.underlying27 rfl iHd (by rw [lB]; omega) _ exHd ?_))
    | (with_reducible show wpList _ _ _ (Oper.mk (some 11) (Op.binOp _ _ _ _ _) _ _ _ _ :: _) _ _; go_must (refine wpList_neq_flat rfl 27 _ _ _ rfl zeroHeader zeroHeader rfl rfl 3 _ flatHd (by omega) aggHd guardHd fitsHd fitsHd true (by simp) ?_))
    | (with_reducible show wpList _ _ _ (Oper.mk (some 32) (Op.load _ _) _ _ _ _ :: _) _ _; go_must (refine wpList_load_part rfl 32 _ rfl g1 230 35 rfl _ _ _ K12.out Tryz.underlying32 rfl iC (by rw [lB]; omega) _ exCt ?_))
    | (with_reducible show wpList _ _ _ (Oper.mk (some 34) (Op.load _ _) _ _ _ _ :: _) _ _; go_must (refine wpList_load_part rfl 32 _ rfl g2 230 35 rfl _ _ _ K22.out Tryz.underlying32 rfl iC (by rw [lB]; omega) _ exCt ?_)))
  refine (sameCert_any w2).mono ?_
  rintro e w3 ⟨rfl, hb⟩
  have A3 := Lib.hid (A2.out.trans (hb.mono A2.out.size))
  have K13 := Lib.hid (K12.out.below hb K12.out.lt)
  have K23 := Lib.hid (K22.out.below hb K22.out.lt)
  have d1 : w3.cell? ⟨g1, 228, none⟩ = some (.slice none 0 0) := (K13.out.cell 228).trans zb228
  have d2 : w3.cell? ⟨g1, 229, none⟩ = some (.slice none 0 0) := (K13.out.cell 229).trans zb229
  clear hb K12 K22 c1 c2 c3 c4 K1 A2
  go_wp2
  go_loopw [5] (fun i wr => i = .int .i64 0 ∧ wr = w3) (fun _ _ => 0)
  case atStart => exact ⟨rfl, rfl⟩
  case round =>
    obtain ⟨rfl, rfl⟩ := hrel
    go_wp2
    go_loopw [6] (fun i ws => i = .int .i64 0 ∧ ws = wr) (fun _ _ => 0)
    case atStart => exact ⟨rfl, rfl⟩
    case round =>
      obtain ⟨rfl, rfl⟩ := hrel
      go_wp2
      go_ret
      exact ⟨rfl, A3.out⟩
end Go.Proofs.YtodlehkfadnchaaGreatDoor

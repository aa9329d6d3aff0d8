/-
  Messages and inputs as cells; their parts gathered. Conditions: each number fits its kind.
-/
import Derived.Test.YtlhnhjglcbggmaaGreatRRYPb10
namespace Go.Proofs.YtlhnhjglcbggmaaGreatRR
set_option linter.unusedSimpArgs false
set_option linter.unusedVariables false
open Go.RowKit
set_option maxRecDepth 100000

theorem fill_step {pl : Nat → Option (Nat × Nat)} {i off n : Nat} {v : Value} {p pre mid post l l' : List Value} {ps : List (Nat × Value)} (hl : l = pre ++ (mid ++ post)) (hl' : l' = pre ++ (p ++ post)) (hpl : pl i = some (off, n)) (hv : v.cells = p.toArray) (hpn : p.length = n) (hm : mid.length = n) (hpre : pre.length = off) :
  Instr.fill pl l.toArray ((i, v) :: ps) = Instr.fill pl l'.toArray ps := by
 subst hl; subst hl'
 have e1 := fold_set off p 0 pre mid post (by omega) (by omega)
 rw [Instr.fill]
 simp only [hpl, hv, List.size_toArray, hpn, ne_eq, not_true_eq_false]
 rw [if_neg (by simp only [decide_false, Bool.false_or, decide_eq_true_eq]; simp only [List.length_append]; omega)]
 have e3 : ∀ cs : Array Value, p.toArray.zipIdx.foldl (fun cs (x : Value × Nat) => cs.setIfInBounds (off + x.2) x.1) cs = (p.zipIdx 0).foldl (fun (cs : Array Value) (q : Value × Nat) => cs.setIfInBounds (off + q.2) q.1) cs := fun cs => by
  rw [← Array.foldl_toList]; simp
 rw [e3, ← List.append_assoc, e1, List.append_assoc]
def zeroCt : Crt := ⟨0, 0, zer 32, none, 0, 0, []⟩
theorem zeroCt_ok : zeroCt.ok := ⟨u0, i0, zer_len 32, rfl, fun m hm => (by cases hm)⟩
def zeroBk : Blk := ⟨zeroH, none, 0, 0, [], none, 0, 0, [], zeroCt⟩
theorem zeroBk_ok : zeroBk.ok := ⟨zeroH_ok, rfl, fun t h => (by cases h), by decide, rfl, fun t h => (by cases h), by decide, zeroCt_ok, by decide⟩
def zeroPr : Prts := ⟨zeroP, zeroBk, none, 0, 0, [], zeroCt, zeroT, zeroE, 0, 0, false, 0⟩
def placesP : Array (Nat × Nat) := #[(0, 52), (52, 265), (317, 1), (318, 35), (353, 22), (375, 106), (481, 1), (482, 1), (483, 1), (484, 1)]
theorem built_fill (ps : List (Nat × Value)) : Tryz.prog.built 177 ps = Instr.fill (placesP[·]?) zeroPr.cl.toArray ps := by kernel_rfl
theorem built_msg (p : Prts) (hp : p.ok) (hg : p.good = false) (hs : p.step = 0) : Tryz.prog.built 177 [(0, .agg p.prop.cl.toArray), (1, .agg p.blk.cl.toArray), (2, .slice p.vA p.vn p.vc), (3, .agg p.crt.cl.toArray), (4, .agg p.tx.cl.toArray), (5, .agg p.ev.cl.toArray), (6, .int .u64 p.height), (7, .int .i64 p.round)] = some p.cl.toArray := by
 have l0 : zeroPr.cl = zeroP.cl ++ (zeroBk.cl ++ ([.slice none 0 0] ++ (zeroCt.cl ++ (zeroT.cl ++ (zeroE.cl ++ ([.int .u64 0] ++ ([.int .i64 0] ++ ([.bool false] ++ ([.int .i64 0]))))))))) := by simp [Prts.cl, zeroPr]
 rw [built_fill, l0]
 rw [fill_step (i := 0) (pre := []) (mid := zeroP.cl) (p := p.prop.cl) (post := zeroBk.cl ++ ([.slice none 0 0] ++ (zeroCt.cl ++ (zeroT.cl ++ (zeroE.cl ++ ([.int .u64 0] ++ ([.int .i64 0] ++ ([.bool false] ++ ([.int .i64 0]))))))))) (l' := p.prop.cl ++ (zeroBk.cl ++ ([.slice none 0 0] ++ (zeroCt.cl ++ (zeroT.cl ++ (zeroE.cl ++ ([.int .u64 0] ++ ([.int .i64 0] ++ ([.bool false] ++ ([.int .i64 0])))))))))) (by simp) (by simp) rfl rfl (p.prop.cl_len hp.prop) (zeroP.cl_len zeroP_ok) (by simp [p.prop.cl_len hp.prop, p.blk.len hp.blk, p.crt.cl_len hp.crt, p.tx.cl_len hp.tx, p.ev.cl_len hp.ev, zeroP.cl_len zeroP_ok, zeroBk.len zeroBk_ok, zeroCt.cl_len zeroCt_ok, zeroT.cl_len zeroT_ok, zeroE.cl_len zeroE_ok])]
 rw [fill_step (i := 1) (pre := p.prop.cl) (mid := zeroBk.cl) (p := p.blk.cl) (post := [.slice none 0 0] ++ (zeroCt.cl ++ (zeroT.cl ++ (zeroE.cl ++ ([.int .u64 0] ++ ([.int .i64 0] ++ ([.bool false] ++ ([.int .i64 0])))))))) (l' := p.prop.cl ++ (p.blk.cl ++ ([.slice none 0 0] ++ (zeroCt.cl ++ (zeroT.cl ++ (zeroE.cl ++ ([.int .u64 0] ++ ([.int .i64 0] ++ ([.bool false] ++ ([.int .i64 0])))))))))) (by simp) (by simp) rfl rfl (p.blk.len hp.blk) (zeroBk.len zeroBk_ok) (by simp [p.prop.cl_len hp.prop, p.blk.len hp.blk, p.crt.cl_len hp.crt, p.tx.cl_len hp.tx, p.ev.cl_len hp.ev, zeroP.cl_len zeroP_ok, zeroBk.len zeroBk_ok, zeroCt.cl_len zeroCt_ok, zeroT.cl_len zeroT_ok, zeroE.cl_len zeroE_ok])]
 rw [fill_step (i := 2) (pre := p.prop.cl ++ (p.blk.cl)) (mid := [.slice none 0 0]) (p := [.slice p.vA p.vn p.vc]) (post := zeroCt.cl ++ (zeroT.cl ++ (zeroE.cl ++ ([.int .u64 0] ++ ([.int .i64 0] ++ ([.bool false] ++ ([.int .i64 0]))))))) (l' := p.prop.cl ++ (p.blk.cl ++ ([.slice p.vA p.vn p.vc] ++ (zeroCt.cl ++ (zeroT.cl ++ (zeroE.cl ++ ([.int .u64 0] ++ ([.int .i64 0] ++ ([.bool false] ++ ([.int .i64 0])))))))))) (by simp) (by simp) rfl rfl (rfl) (rfl) (by simp [p.prop.cl_len hp.prop, p.blk.len hp.blk, p.crt.cl_len hp.crt, p.tx.cl_len hp.tx, p.ev.cl_len hp.ev, zeroP.cl_len zeroP_ok, zeroBk.len zeroBk_ok, zeroCt.cl_len zeroCt_ok, zeroT.cl_len zeroT_ok, zeroE.cl_len zeroE_ok])]
 rw [fill_step (i := 3) (pre := p.prop.cl ++ (p.blk.cl ++ ([.slice p.vA p.vn p.vc]))) (mid := zeroCt.cl) (p := p.crt.cl) (post := zeroT.cl ++ (zeroE.cl ++ ([.int .u64 0] ++ ([.int .i64 0] ++ ([.bool false] ++ ([.int .i64 0])))))) (l' := p.prop.cl ++ (p.blk.cl ++ ([.slice p.vA p.vn p.vc] ++ (p.crt.cl ++ (zeroT.cl ++ (zeroE.cl ++ ([.int .u64 0] ++ ([.int .i64 0] ++ ([.bool false] ++ ([.int .i64 0])))))))))) (by simp) (by simp) rfl rfl (p.crt.cl_len hp.crt) (zeroCt.cl_len zeroCt_ok) (by simp [p.prop.cl_len hp.prop, p.blk.len hp.blk, p.crt.cl_len hp.crt, p.tx.cl_len hp.tx, p.ev.cl_len hp.ev, zeroP.cl_len zeroP_ok, zeroBk.len zeroBk_ok, zeroCt.cl_len zeroCt_ok, zeroT.cl_len zeroT_ok, zeroE.cl_len zeroE_ok])]
 rw [fill_step (i := 4) (pre := p.prop.cl ++ (p.blk.cl ++ ([.slice p.vA p.vn p.vc] ++ (p.crt.cl)))) (mid := zeroT.cl) (p := p.tx.cl) (post := zeroE.cl ++ ([.int .u64 0] ++ ([.int .i64 0] ++ ([.bool false] ++ ([.int .i64 0]))))) (l' := p.prop.cl ++ (p.blk.cl ++ ([.slice p.vA p.vn p.vc] ++ (p.crt.cl ++ (p.tx.cl ++ (zeroE.cl ++ ([.int .u64 0] ++ ([.int .i64 0] ++ ([.bool false] ++ ([.int .i64 0])))))))))) (by simp) (by simp) rfl rfl (p.tx.cl_len hp.tx) (zeroT.cl_len zeroT_ok) (by simp [p.prop.cl_len hp.prop, p.blk.len hp.blk, p.crt.cl_len hp.crt, p.tx.cl_len hp.tx, p.ev.cl_len hp.ev, zeroP.cl_len zeroP_ok, zeroBk.len zeroBk_ok, zeroCt.cl_len zeroCt_ok, zeroT.cl_len zeroT_ok, zeroE.cl_len zeroE_ok])]
 rw [fill_step (i := 5) (pre := p.prop.cl ++ (p.blk.cl ++ ([.slice p.vA p.vn p.vc] ++ (p.crt.cl ++ (p.tx.cl))))) (mid := zeroE.cl) (p := p.ev.cl) (post := [.int .u64 0] ++ ([.int .i64 0] ++ ([.bool false] ++ ([.int .i64 0])))) (l' := p.prop.cl ++ (p.blk.cl ++ ([.slice p.vA p.vn p.vc] ++ (p.crt.cl ++ (p.tx.cl ++ (p.ev.cl ++ ([.int .u64 0] ++ ([.int .i64 0] ++ ([.bool false] ++ ([.int .i64 0])))))))))) (by simp) (by simp) rfl rfl (p.ev.cl_len hp.ev) (zeroE.cl_len zeroE_ok) (by simp [p.prop.cl_len hp.prop, p.blk.len hp.blk, p.crt.cl_len hp.crt, p.tx.cl_len hp.tx, p.ev.cl_len hp.ev, zeroP.cl_len zeroP_ok, zeroBk.len zeroBk_ok, zeroCt.cl_len zeroCt_ok, zeroT.cl_len zeroT_ok, zeroE.cl_len zeroE_ok])]
 rw [fill_step (i := 6) (pre := p.prop.cl ++ (p.blk.cl ++ ([.slice p.vA p.vn p.vc] ++ (p.crt.cl ++ (p.tx.cl ++ (p.ev.cl)))))) (mid := [.int .u64 0]) (p := [.int .u64 p.height]) (post := [.int .i64 0] ++ ([.bool false] ++ ([.int .i64 0]))) (l' := p.prop.cl ++ (p.blk.cl ++ ([.slice p.vA p.vn p.vc] ++ (p.crt.cl ++ (p.tx.cl ++ (p.ev.cl ++ ([.int .u64 p.height] ++ ([.int .i64 0] ++ ([.bool false] ++ ([.int .i64 0])))))))))) (by simp) (by simp) rfl rfl (rfl) (rfl) (by simp [p.prop.cl_len hp.prop, p.blk.len hp.blk, p.crt.cl_len hp.crt, p.tx.cl_len hp.tx, p.ev.cl_len hp.ev, zeroP.cl_len zeroP_ok, zeroBk.len zeroBk_ok, zeroCt.cl_len zeroCt_ok, zeroT.cl_len zeroT_ok, zeroE.cl_len zeroE_ok])]
 rw [fill_step (i := 7) (pre := p.prop.cl ++ (p.blk.cl ++ ([.slice p.vA p.vn p.vc] ++ (p.crt.cl ++ (p.tx.cl ++ (p.ev.cl ++ ([.int .u64 p.height]))))))) (mid := [.int .i64 0]) (p := [.int .i64 p.round]) (post := [.bool false] ++ ([.int .i64 0])) (l' := p.prop.cl ++ (p.blk.cl ++ ([.slice p.vA p.vn p.vc] ++ (p.crt.cl ++ (p.tx.cl ++ (p.ev.cl ++ ([.int .u64 p.height] ++ ([.int .i64 p.round] ++ ([.bool false] ++ ([.int .i64 0])))))))))) (by simp) (by simp) rfl rfl (rfl) (rfl) (by simp [p.prop.cl_len hp.prop, p.blk.len hp.blk, p.crt.cl_len hp.crt, p.tx.cl_len hp.tx, p.ev.cl_len hp.ev, zeroP.cl_len zeroP_ok, zeroBk.len zeroBk_ok, zeroCt.cl_len zeroCt_ok, zeroT.cl_len zeroT_ok, zeroE.cl_len zeroE_ok])]
 rw [Instr.fill]
 simp [Prts.cl, hg, hs]
theorem built_input (p : Prts) (hp : p.ok) (hc : p.crt = zeroCt) (ht : p.tx = zeroT) (he : p.ev = zeroE) (hh : p.height = 0) : Tryz.prog.built 177 [(0, .agg p.prop.cl.toArray), (1, .agg p.blk.cl.toArray), (2, .slice p.vA p.vn p.vc), (8, .bool p.good), (9, .int .i64 p.step), (7, .int .i64 p.round)] = some p.cl.toArray := by
 have l0 : zeroPr.cl = zeroP.cl ++ (zeroBk.cl ++ ([.slice none 0 0] ++ (zeroCt.cl ++ (zeroT.cl ++ (zeroE.cl ++ ([.int .u64 0] ++ ([.int .i64 0] ++ ([.bool false] ++ ([.int .i64 0]))))))))) := by simp [Prts.cl, zeroPr]
 rw [built_fill, l0]
 rw [fill_step (i := 0) (pre := []) (mid := zeroP.cl) (p := p.prop.cl) (post := zeroBk.cl ++ ([.slice none 0 0] ++ (zeroCt.cl ++ (zeroT.cl ++ (zeroE.cl ++ ([.int .u64 0] ++ ([.int .i64 0] ++ ([.bool false] ++ ([.int .i64 0]))))))))) (l' := p.prop.cl ++ (zeroBk.cl ++ ([.slice none 0 0] ++ (zeroCt.cl ++ (zeroT.cl ++ (zeroE.cl ++ ([.int .u64 0] ++ ([.int .i64 0] ++ ([.bool false] ++ ([.int .i64 0])))))))))) (by simp) (by simp) rfl rfl (p.prop.cl_len hp.prop) (zeroP.cl_len zeroP_ok) (by simp [p.prop.cl_len hp.prop, p.blk.len hp.blk, p.crt.cl_len hp.crt, p.tx.cl_len hp.tx, p.ev.cl_len hp.ev, zeroP.cl_len zeroP_ok, zeroBk.len zeroBk_ok, zeroCt.cl_len zeroCt_ok, zeroT.cl_len zeroT_ok, zeroE.cl_len zeroE_ok])]
 rw [fill_step (i := 1) (pre := p.prop.cl) (mid := zeroBk.cl) (p := p.blk.cl) (post := [.slice none 0 0] ++ (zeroCt.cl ++ (zeroT.cl ++ (zeroE.cl ++ ([.int .u64 0] ++ ([.int .i64 0] ++ ([.bool false] ++ ([.int .i64 0])))))))) (l' := p.prop.cl ++ (p.blk.cl ++ ([.slice none 0 0] ++ (zeroCt.cl ++ (zeroT.cl ++ (zeroE.cl ++ ([.int .u64 0] ++ ([.int .i64 0] ++ ([.bool false] ++ ([.int .i64 0])))))))))) (by simp) (by simp) rfl rfl (p.blk.len hp.blk) (zeroBk.len zeroBk_ok) (by simp [p.prop.cl_len hp.prop, p.blk.len hp.blk, p.crt.cl_len hp.crt, p.tx.cl_len hp.tx, p.ev.cl_len hp.ev, zeroP.cl_len zeroP_ok, zeroBk.len zeroBk_ok, zeroCt.cl_len zeroCt_ok, zeroT.cl_len zeroT_ok, zeroE.cl_len zeroE_ok])]
 rw [fill_step (i := 2) (pre := p.prop.cl ++ (p.blk.cl)) (mid := [.slice none 0 0]) (p := [.slice p.vA p.vn p.vc]) (post := zeroCt.cl ++ (zeroT.cl ++ (zeroE.cl ++ ([.int .u64 0] ++ ([.int .i64 0] ++ ([.bool false] ++ ([.int .i64 0]))))))) (l' := p.prop.cl ++ (p.blk.cl ++ ([.slice p.vA p.vn p.vc] ++ (zeroCt.cl ++ (zeroT.cl ++ (zeroE.cl ++ ([.int .u64 0] ++ ([.int .i64 0] ++ ([.bool false] ++ ([.int .i64 0])))))))))) (by simp) (by simp) rfl rfl (rfl) (rfl) (by simp [p.prop.cl_len hp.prop, p.blk.len hp.blk, p.crt.cl_len hp.crt, p.tx.cl_len hp.tx, p.ev.cl_len hp.ev, zeroP.cl_len zeroP_ok, zeroBk.len zeroBk_ok, zeroCt.cl_len zeroCt_ok, zeroT.cl_len zeroT_ok, zeroE.cl_len zeroE_ok])]
 rw [fill_step (i := 8) (pre := p.prop.cl ++ (p.blk.cl ++ ([.slice p.vA p.vn p.vc] ++ (zeroCt.cl ++ (zeroT.cl ++ (zeroE.cl ++ ([.int .u64 0] ++ ([.int .i64 0])))))))) (mid := [.bool false]) (p := [.bool p.good]) (post := [.int .i64 0]) (l' := p.prop.cl ++ (p.blk.cl ++ ([.slice p.vA p.vn p.vc] ++ (zeroCt.cl ++ (zeroT.cl ++ (zeroE.cl ++ ([.int .u64 0] ++ ([.int .i64 0] ++ ([.bool p.good] ++ ([.int .i64 0])))))))))) (by simp) (by simp) rfl rfl (rfl) (rfl) (by simp [p.prop.cl_len hp.prop, p.blk.len hp.blk, p.crt.cl_len hp.crt, p.tx.cl_len hp.tx, p.ev.cl_len hp.ev, zeroP.cl_len zeroP_ok, zeroBk.len zeroBk_ok, zeroCt.cl_len zeroCt_ok, zeroT.cl_len zeroT_ok, zeroE.cl_len zeroE_ok])]
 rw [fill_step (i := 9) (pre := p.prop.cl ++ (p.blk.cl ++ ([.slice p.vA p.vn p.vc] ++ (zeroCt.cl ++ (zeroT.cl ++ (zeroE.cl ++ ([.int .u64 0] ++ ([.int .i64 0] ++ ([.bool p.good]))))))))) (mid := [.int .i64 0]) (p := [.int .i64 p.step]) (post := []) (l' := p.prop.cl ++ (p.blk.cl ++ ([.slice p.vA p.vn p.vc] ++ (zeroCt.cl ++ (zeroT.cl ++ (zeroE.cl ++ ([.int .u64 0] ++ ([.int .i64 0] ++ ([.bool p.good] ++ ([.int .i64 p.step])))))))))) (by simp) (by simp) rfl rfl (rfl) (rfl) (by simp [p.prop.cl_len hp.prop, p.blk.len hp.blk, p.crt.cl_len hp.crt, p.tx.cl_len hp.tx, p.ev.cl_len hp.ev, zeroP.cl_len zeroP_ok, zeroBk.len zeroBk_ok, zeroCt.cl_len zeroCt_ok, zeroT.cl_len zeroT_ok, zeroE.cl_len zeroE_ok])]
 rw [fill_step (i := 7) (pre := p.prop.cl ++ (p.blk.cl ++ ([.slice p.vA p.vn p.vc] ++ (zeroCt.cl ++ (zeroT.cl ++ (zeroE.cl ++ ([.int .u64 0]))))))) (mid := [.int .i64 0]) (p := [.int .i64 p.round]) (post := [.bool p.good] ++ ([.int .i64 p.step])) (l' := p.prop.cl ++ (p.blk.cl ++ ([.slice p.vA p.vn p.vc] ++ (zeroCt.cl ++ (zeroT.cl ++ (zeroE.cl ++ ([.int .u64 0] ++ ([.int .i64 p.round] ++ ([.bool p.good] ++ ([.int .i64 p.step])))))))))) (by simp) (by simp) rfl rfl (rfl) (rfl) (by simp [p.prop.cl_len hp.prop, p.blk.len hp.blk, p.crt.cl_len hp.crt, p.tx.cl_len hp.tx, p.ev.cl_len hp.ev, zeroP.cl_len zeroP_ok, zeroBk.len zeroBk_ok, zeroCt.cl_len zeroCt_ok, zeroT.cl_len zeroT_ok, zeroE.cl_len zeroE_ok])]
 rw [Instr.fill]
 simp [Prts.cl, hc, ht, he, hh]
/-- a message: its kind, its parts -/
def msgCl (k : Int) (p : Prts) : List Value := [.int .i64 k] ++ (p.prop.cl ++ (p.blk.cl ++ ([.slice p.vA p.vn p.vc] ++ (p.crt.cl ++ (p.tx.cl ++ (p.ev.cl ++ [.int .u64 p.height, .int .i64 p.round]))))))
def inputCl (k now : Int) (p : Prts) : List Value := [.int .i64 k, .int .u64 now] ++ (p.prop.cl ++ (p.blk.cl ++ [.slice p.vA p.vn p.vc, .bool p.good, .int .i64 p.step, .int .i64 p.round]))
structure MsgOk (k : Int) (p : Prts) : Prop where
 ik : I64 k
 ok : p.ok
 good : p.good = false
 step : p.step = 0
structure InputOk (k now : Int) (p : Prts) : Prop where
 ik : I64 k
 now : U64 now
 ok : p.ok
 crt : p.crt = zeroCt
 tx : p.tx = zeroT
 ev : p.ev = zeroE
 height : p.height = 0
theorem msgCl_prop (k : Int) (p : Prts) (hp : p.ok) : (msgCl k p).toArray.extract 1 (1 + 52) = (p.prop.cl).toArray := seg_ex (A := [.int .i64 k]) (C := p.blk.cl ++ ([.slice p.vA p.vn p.vc] ++ (p.crt.cl ++ (p.tx.cl ++ (p.ev.cl ++ ([.int .u64 p.height] ++ ([.int .i64 p.round]))))))) (by simp [msgCl]) (by simp [p.prop.cl_len hp.prop, p.blk.len hp.blk, p.crt.cl_len hp.crt, p.tx.cl_len hp.tx, p.ev.cl_len hp.ev, zeroP.cl_len zeroP_ok, zeroBk.len zeroBk_ok, zeroCt.cl_len zeroCt_ok, zeroT.cl_len zeroT_ok, zeroE.cl_len zeroE_ok]) (p.prop.cl_len hp.prop)
theorem msgCl_blk (k : Int) (p : Prts) (hp : p.ok) : (msgCl k p).toArray.extract 53 (53 + 265) = (p.blk.cl).toArray := seg_ex (A := [.int .i64 k] ++ (p.prop.cl)) (C := [.slice p.vA p.vn p.vc] ++ (p.crt.cl ++ (p.tx.cl ++ (p.ev.cl ++ ([.int .u64 p.height] ++ ([.int .i64 p.round])))))) (by simp [msgCl]) (by simp [p.prop.cl_len hp.prop, p.blk.len hp.blk, p.crt.cl_len hp.crt, p.tx.cl_len hp.tx, p.ev.cl_len hp.ev, zeroP.cl_len zeroP_ok, zeroBk.len zeroBk_ok, zeroCt.cl_len zeroCt_ok, zeroT.cl_len zeroT_ok, zeroE.cl_len zeroE_ok]) (p.blk.len hp.blk)
theorem msgCl_v (k : Int) (p : Prts) (hp : p.ok) : (msgCl k p).toArray[318]? = some (.slice p.vA p.vn p.vc) := seg_at (A := [.int .i64 k] ++ (p.prop.cl ++ (p.blk.cl))) (C := p.crt.cl ++ (p.tx.cl ++ (p.ev.cl ++ ([.int .u64 p.height] ++ ([.int .i64 p.round]))))) (by simp [msgCl]) (by simp [p.prop.cl_len hp.prop, p.blk.len hp.blk, p.crt.cl_len hp.crt, p.tx.cl_len hp.tx, p.ev.cl_len hp.ev, zeroP.cl_len zeroP_ok, zeroBk.len zeroBk_ok, zeroCt.cl_len zeroCt_ok, zeroT.cl_len zeroT_ok, zeroE.cl_len zeroE_ok])
theorem msgCl_crt (k : Int) (p : Prts) (hp : p.ok) : (msgCl k p).toArray.extract 319 (319 + 35) = (p.crt.cl).toArray := seg_ex (A := [.int .i64 k] ++ (p.prop.cl ++ (p.blk.cl ++ ([.slice p.vA p.vn p.vc])))) (C := p.tx.cl ++ (p.ev.cl ++ ([.int .u64 p.height] ++ ([.int .i64 p.round])))) (by simp [msgCl]) (by simp [p.prop.cl_len hp.prop, p.blk.len hp.blk, p.crt.cl_len hp.crt, p.tx.cl_len hp.tx, p.ev.cl_len hp.ev, zeroP.cl_len zeroP_ok, zeroBk.len zeroBk_ok, zeroCt.cl_len zeroCt_ok, zeroT.cl_len zeroT_ok, zeroE.cl_len zeroE_ok]) (p.crt.cl_len hp.crt)
theorem msgCl_tx (k : Int) (p : Prts) (hp : p.ok) : (msgCl k p).toArray.extract 354 (354 + 22) = (p.tx.cl).toArray := seg_ex (A := [.int .i64 k] ++ (p.prop.cl ++ (p.blk.cl ++ ([.slice p.vA p.vn p.vc] ++ (p.crt.cl))))) (C := p.ev.cl ++ ([.int .u64 p.height] ++ ([.int .i64 p.round]))) (by simp [msgCl]) (by simp [p.prop.cl_len hp.prop, p.blk.len hp.blk, p.crt.cl_len hp.crt, p.tx.cl_len hp.tx, p.ev.cl_len hp.ev, zeroP.cl_len zeroP_ok, zeroBk.len zeroBk_ok, zeroCt.cl_len zeroCt_ok, zeroT.cl_len zeroT_ok, zeroE.cl_len zeroE_ok]) (p.tx.cl_len hp.tx)
theorem msgCl_ev (k : Int) (p : Prts) (hp : p.ok) : (msgCl k p).toArray.extract 376 (376 + 106) = (p.ev.cl).toArray := seg_ex (A := [.int .i64 k] ++ (p.prop.cl ++ (p.blk.cl ++ ([.slice p.vA p.vn p.vc] ++ (p.crt.cl ++ (p.tx.cl)))))) (C := [.int .u64 p.height] ++ ([.int .i64 p.round])) (by simp [msgCl]) (by simp [p.prop.cl_len hp.prop, p.blk.len hp.blk, p.crt.cl_len hp.crt, p.tx.cl_len hp.tx, p.ev.cl_len hp.ev, zeroP.cl_len zeroP_ok, zeroBk.len zeroBk_ok, zeroCt.cl_len zeroCt_ok, zeroT.cl_len zeroT_ok, zeroE.cl_len zeroE_ok]) (p.ev.cl_len hp.ev)
theorem msgCl_height (k : Int) (p : Prts) (hp : p.ok) : (msgCl k p).toArray[482]? = some (.int .u64 p.height) := seg_at (A := [.int .i64 k] ++ (p.prop.cl ++ (p.blk.cl ++ ([.slice p.vA p.vn p.vc] ++ (p.crt.cl ++ (p.tx.cl ++ (p.ev.cl))))))) (C := [.int .i64 p.round]) (by simp [msgCl]) (by simp [p.prop.cl_len hp.prop, p.blk.len hp.blk, p.crt.cl_len hp.crt, p.tx.cl_len hp.tx, p.ev.cl_len hp.ev, zeroP.cl_len zeroP_ok, zeroBk.len zeroBk_ok, zeroCt.cl_len zeroCt_ok, zeroT.cl_len zeroT_ok, zeroE.cl_len zeroE_ok])
theorem msgCl_round (k : Int) (p : Prts) (hp : p.ok) : (msgCl k p).toArray[483]? = some (.int .i64 p.round) := seg_at (A := [.int .i64 k] ++ (p.prop.cl ++ (p.blk.cl ++ ([.slice p.vA p.vn p.vc] ++ (p.crt.cl ++ (p.tx.cl ++ (p.ev.cl ++ ([.int .u64 p.height])))))))) (C := []) (by simp [msgCl]) (by simp [p.prop.cl_len hp.prop, p.blk.len hp.blk, p.crt.cl_len hp.crt, p.tx.cl_len hp.tx, p.ev.cl_len hp.ev, zeroP.cl_len zeroP_ok, zeroBk.len zeroBk_ok, zeroCt.cl_len zeroCt_ok, zeroT.cl_len zeroT_ok, zeroE.cl_len zeroE_ok])
theorem msgCl_len (k : Int) (p : Prts) (hp : p.ok) : (msgCl k p).length = 484 := by simp [msgCl, p.prop.cl_len hp.prop, p.blk.len hp.blk, p.crt.cl_len hp.crt, p.tx.cl_len hp.tx, p.ev.cl_len hp.ev, zeroP.cl_len zeroP_ok, zeroBk.len zeroBk_ok, zeroCt.cl_len zeroCt_ok, zeroT.cl_len zeroT_ok, zeroE.cl_len zeroE_ok]
theorem inputCl_prop (k now : Int) (p : Prts) (hp : p.ok) : (inputCl k now p).toArray.extract 2 (2 + 52) = (p.prop.cl).toArray := seg_ex (A := [.int .i64 k, .int .u64 now]) (C := p.blk.cl ++ ([.slice p.vA p.vn p.vc] ++ ([.bool p.good] ++ ([.int .i64 p.step] ++ ([.int .i64 p.round]))))) (by simp [inputCl]) (by simp [p.prop.cl_len hp.prop, p.blk.len hp.blk, p.crt.cl_len hp.crt, p.tx.cl_len hp.tx, p.ev.cl_len hp.ev, zeroP.cl_len zeroP_ok, zeroBk.len zeroBk_ok, zeroCt.cl_len zeroCt_ok, zeroT.cl_len zeroT_ok, zeroE.cl_len zeroE_ok]) (p.prop.cl_len hp.prop)
theorem inputCl_blk (k now : Int) (p : Prts) (hp : p.ok) : (inputCl k now p).toArray.extract 54 (54 + 265) = (p.blk.cl).toArray := seg_ex (A := [.int .i64 k, .int .u64 now] ++ (p.prop.cl)) (C := [.slice p.vA p.vn p.vc] ++ ([.bool p.good] ++ ([.int .i64 p.step] ++ ([.int .i64 p.round])))) (by simp [inputCl]) (by simp [p.prop.cl_len hp.prop, p.blk.len hp.blk, p.crt.cl_len hp.crt, p.tx.cl_len hp.tx, p.ev.cl_len hp.ev, zeroP.cl_len zeroP_ok, zeroBk.len zeroBk_ok, zeroCt.cl_len zeroCt_ok, zeroT.cl_len zeroT_ok, zeroE.cl_len zeroE_ok]) (p.blk.len hp.blk)
theorem inputCl_v (k now : Int) (p : Prts) (hp : p.ok) : (inputCl k now p).toArray[319]? = some (.slice p.vA p.vn p.vc) := seg_at (A := [.int .i64 k, .int .u64 now] ++ (p.prop.cl ++ (p.blk.cl))) (C := [.bool p.good] ++ ([.int .i64 p.step] ++ ([.int .i64 p.round]))) (by simp [inputCl]) (by simp [p.prop.cl_len hp.prop, p.blk.len hp.blk, p.crt.cl_len hp.crt, p.tx.cl_len hp.tx, p.ev.cl_len hp.ev, zeroP.cl_len zeroP_ok, zeroBk.len zeroBk_ok, zeroCt.cl_len zeroCt_ok, zeroT.cl_len zeroT_ok, zeroE.cl_len zeroE_ok])
theorem inputCl_good (k now : Int) (p : Prts) (hp : p.ok) : (inputCl k now p).toArray[320]? = some (.bool p.good) := seg_at (A := [.int .i64 k, .int .u64 now] ++ (p.prop.cl ++ (p.blk.cl ++ ([.slice p.vA p.vn p.vc])))) (C := [.int .i64 p.step] ++ ([.int .i64 p.round])) (by simp [inputCl]) (by simp [p.prop.cl_len hp.prop, p.blk.len hp.blk, p.crt.cl_len hp.crt, p.tx.cl_len hp.tx, p.ev.cl_len hp.ev, zeroP.cl_len zeroP_ok, zeroBk.len zeroBk_ok, zeroCt.cl_len zeroCt_ok, zeroT.cl_len zeroT_ok, zeroE.cl_len zeroE_ok])
theorem inputCl_step (k now : Int) (p : Prts) (hp : p.ok) : (inputCl k now p).toArray[321]? = some (.int .i64 p.step) := seg_at (A := [.int .i64 k, .int .u64 now] ++ (p.prop.cl ++ (p.blk.cl ++ ([.slice p.vA p.vn p.vc] ++ ([.bool p.good]))))) (C := [.int .i64 p.round]) (by simp [inputCl]) (by simp [p.prop.cl_len hp.prop, p.blk.len hp.blk, p.crt.cl_len hp.crt, p.tx.cl_len hp.tx, p.ev.cl_len hp.ev, zeroP.cl_len zeroP_ok, zeroBk.len zeroBk_ok, zeroCt.cl_len zeroCt_ok, zeroT.cl_len zeroT_ok, zeroE.cl_len zeroE_ok])
theorem inputCl_round (k now : Int) (p : Prts) (hp : p.ok) : (inputCl k now p).toArray[322]? = some (.int .i64 p.round) := seg_at (A := [.int .i64 k, .int .u64 now] ++ (p.prop.cl ++ (p.blk.cl ++ ([.slice p.vA p.vn p.vc] ++ ([.bool p.good] ++ ([.int .i64 p.step])))))) (C := []) (by simp [inputCl]) (by simp [p.prop.cl_len hp.prop, p.blk.len hp.blk, p.crt.cl_len hp.crt, p.tx.cl_len hp.tx, p.ev.cl_len hp.ev, zeroP.cl_len zeroP_ok, zeroBk.len zeroBk_ok, zeroCt.cl_len zeroCt_ok, zeroT.cl_len zeroT_ok, zeroE.cl_len zeroE_ok])
theorem inputCl_len (k now : Int) (p : Prts) (hp : p.ok) : (inputCl k now p).length = 323 := by simp [inputCl, p.prop.cl_len hp.prop, p.blk.len hp.blk, p.crt.cl_len hp.crt, p.tx.cl_len hp.tx, p.ev.cl_len hp.ev, zeroP.cl_len zeroP_ok, zeroBk.len zeroBk_ok, zeroCt.cl_len zeroCt_ok, zeroT.cl_len zeroT_ok, zeroE.cl_len zeroE_ok]
theorem info_Msg : (Tryz.prog.info? 47).map (·.size) = some 484 := by kernel_rfl
theorem info_Input : (Tryz.prog.info? 49).map (·.size) = some 323 := by kernel_rfl
/-- the parts, boxed in the call's own memory -/
def PartsR (w w' : World) (p : Prts) (v : Value) : Prop := Below w.heap.size w w' ∧ ∃ a, v = .pointer (some ⟨a, 0, none⟩) ∧ Bk w' a p.cl.toArray 177

set_option maxHeartbeats 2000000 in
theorem ofMsg_any (w : World) (k : Int) (p : Prts) (hx : MsgOk k p) :
  Calls Tryz.prog 54 #[.agg (msgCl k p).toArray] w fun e w' => ∃ v, e = .returned v ∧ PartsR w w' p v := by
 have HX := Lib.hid hx
 have HP := Lib.hid hx.ok
 have HL := Lib.hid (msgCl_len k p hx.ok)
 have HB := Lib.hid (built_msg p hx.ok hx.good hx.step)
 clear hx
 go_enter Tryz.func54, Tryz.ntmps54
 go_wp2_with (with_reducible show wpList _ _ _ (Oper.mk (some 1) (Op.box _ _) _ _ _ _ :: _) _ _; refine wpList_box_bk rfl _ _ rfl _ rfl ?_)
 intro g w1 hk hbl hg hs
 clear hg hs
 have HK := Lib.hid (bk_eqT (cs' := (msgCl k p).toArray) hk rfl)
 have HB1 := Lib.hid hbl
 clear hk hbl
 have c2 : w1.cell? ⟨g, 318, none⟩ = some (.slice p.vA p.vn p.vc) := (HK.out.cell 318).trans (msgCl_v k p HP.out)
 have c6 : w1.cell? ⟨g, 482, none⟩ = some (.int .u64 p.height) := (HK.out.cell 482).trans (msgCl_height k p HP.out)
 have c7 : w1.cell? ⟨g, 483, none⟩ = some (.int .i64 p.round) := (HK.out.cell 483).trans (msgCl_round k p HP.out)
 go_wp2_with (first
  | (with_reducible show wpList _ _ _ (Oper.mk (some 4) (Op.load _ _) _ _ _ _ :: _) _ _; go_must (refine wpList_load_part rfl 33 _ rfl g 1 52 rfl _ _ _ HK.out Tryz.underlying33 rfl info_PropB (by simp [HL.out]) _ (msgCl_prop k p HP.out) ?_))
  | (with_reducible show wpList _ _ _ (Oper.mk (some 6) (Op.load _ _) _ _ _ _ :: _) _ _; go_must (refine wpList_load_part rfl 44 _ rfl g 53 265 rfl _ _ _ HK.out Tryz.underlying44 rfl info_BlkB (by simp [HL.out]) _ (msgCl_blk k p HP.out) ?_))
  | (with_reducible show wpList _ _ _ (Oper.mk (some 10) (Op.load _ _) _ _ _ _ :: _) _ _; go_must (refine wpList_load_part rfl 36 _ rfl g 319 35 rfl _ _ _ HK.out Tryz.underlying36 rfl info_Crt (by simp [HL.out]) _ (msgCl_crt k p HP.out) ?_))
  | (with_reducible show wpList _ _ _ (Oper.mk (some 12) (Op.load _ _) _ _ _ _ :: _) _ _; go_must (refine wpList_load_part rfl 27 _ rfl g 354 22 rfl _ _ _ HK.out Tryz.underlying27 rfl info_Tx (by simp [HL.out]) _ (msgCl_tx k p HP.out) ?_))
  | (with_reducible show wpList _ _ _ (Oper.mk (some 14) (Op.load _ _) _ _ _ _ :: _) _ _; go_must (refine wpList_load_part rfl 38 _ rfl g 376 106 rfl _ _ _ HK.out Tryz.underlying38 rfl info_EvB (by simp [HL.out]) _ (msgCl_ev k p HP.out) ?_))
  | ((with_reducible show wpList _ _ _ (Oper.mk _ (Op.build _ _) _ _ _ _ :: _) _ _); go_must (refine wpList_buildv rfl 177 [(0, _), (1, _), (2, _), (3, _), (4, _), (5, _), (6, _), (7, _)] rfl _ rfl _ HB.out ?_))
  | (with_reducible show wpList _ _ _ (Oper.mk _ (Op.box _ _) _ _ _ _ :: _) _ _; refine wpList_box_bk rfl _ _ rfl _ rfl ?_; intro a w2 hk2 hb2 hg2 hs2; have HK2 := Lib.hid (bk_eqT (cs' := p.cl.toArray) hk2 rfl); have HB2 := Lib.hid (HB1.out.trans (hb2.mono HB1.out.size)); clear hk2 hb2 hg2 hs2))
 go_ret
 exact ⟨_, rfl, HB2.out, _, rfl, HK2.out⟩

set_option maxHeartbeats 2000000 in
theorem ofInput_any (w : World) (k now : Int) (p : Prts) (hx : InputOk k now p) :
  Calls Tryz.prog 60 #[.agg (inputCl k now p).toArray] w fun e w' => ∃ v, e = .returned v ∧ PartsR w w' p v := by
 have HX := Lib.hid hx
 have HP := Lib.hid hx.ok
 have HL := Lib.hid (inputCl_len k now p hx.ok)
 have HB := Lib.hid (built_input p hx.ok hx.crt hx.tx hx.ev hx.height)
 clear hx
 go_enter Tryz.func60, Tryz.ntmps60
 go_wp2_with (with_reducible show wpList _ _ _ (Oper.mk (some 1) (Op.box _ _) _ _ _ _ :: _) _ _; refine wpList_box_bk rfl _ _ rfl _ rfl ?_)
 intro g w1 hk hbl hg hs
 clear hg hs
 have HK := Lib.hid (bk_eqT (cs' := (inputCl k now p).toArray) hk rfl)
 have HB1 := Lib.hid hbl
 clear hk hbl
 have c2 : w1.cell? ⟨g, 319, none⟩ = some (.slice p.vA p.vn p.vc) := (HK.out.cell 319).trans (inputCl_v k now p HP.out)
 have c3 : w1.cell? ⟨g, 320, none⟩ = some (.bool p.good) := (HK.out.cell 320).trans (inputCl_good k now p HP.out)
 have c4 : w1.cell? ⟨g, 321, none⟩ = some (.int .i64 p.step) := (HK.out.cell 321).trans (inputCl_step k now p HP.out)
 have c5 : w1.cell? ⟨g, 322, none⟩ = some (.int .i64 p.round) := (HK.out.cell 322).trans (inputCl_round k now p HP.out)
 go_wp2_with (first
  | (with_reducible show wpList _ _ _ (Oper.mk (some 4) (Op.load _ _) _ _ _ _ :: _) _ _; go_must (refine wpList_load_part rfl 33 _ rfl g 2 52 rfl _ _ _ HK.out Tryz.underlying33 rfl info_PropB (by simp [HL.out]) _ (inputCl_prop k now p HP.out) ?_))
  | (with_reducible show wpList _ _ _ (Oper.mk (some 6) (Op.load _ _) _ _ _ _ :: _) _ _; go_must (refine wpList_load_part rfl 44 _ rfl g 54 265 rfl _ _ _ HK.out Tryz.underlying44 rfl info_BlkB (by simp [HL.out]) _ (inputCl_blk k now p HP.out) ?_))
  | ((with_reducible show wpList _ _ _ (Oper.mk _ (Op.build _ _) _ _ _ _ :: _) _ _); go_must (refine wpList_buildv rfl 177 [(0, _), (1, _), (2, _), (8, _), (9, _), (7, _)] rfl _ rfl _ HB.out ?_))
  | (with_reducible show wpList _ _ _ (Oper.mk _ (Op.box _ _) _ _ _ _ :: _) _ _; refine wpList_box_bk rfl _ _ rfl _ rfl ?_; intro a w2 hk2 hb2 hg2 hs2; have HK2 := Lib.hid (bk_eqT (cs' := p.cl.toArray) hk2 rfl); have HB2 := Lib.hid (HB1.out.trans (hb2.mono HB1.out.size)); clear hk2 hb2 hg2 hs2))
 go_ret
 exact ⟨_, rfl, HB2.out, _, rfl, HK2.out⟩
end Go.Proofs.YtlhnhjglcbggmaaGreatRR

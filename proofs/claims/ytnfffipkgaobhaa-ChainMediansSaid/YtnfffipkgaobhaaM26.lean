/-
  The law's blocks: are they alike? Conditions: each number fits its kind; the lists lie in the world.
  The walk of WireRoots: true, and nothing that was there is changed. Conditions: each number fits its kind; the lists lie in the world; the tables read as they were laid.
-/
import Derived.Test.YtnfffipkgaobhaaM25
namespace Go.Proofs.Ytnfffipkgaobhaa
set_option linter.unusedSimpArgs false
set_option linter.unusedVariables false
open Go.RowKit
set_option maxRecDepth 100000

theorem flat_Tx : flat Try.prog 3 55 = some ([.int .i64, .int .u64, .int .u64, .int .u64, .int .u64, .int .u64] ++ List.replicate 16 (.int .u8)) := by kernel_rfl
theorem agg_Tx : isAggT Try.prog 55 = true := by kernel_rfl
theorem guard_Tx : Try.prog.eqGuardType Try.prog.depth 55 = false := by kernel_rfl
theorem fits_Tx {m : Tx} (h : m.ok) : Fits ([.int .i64, .int .u64, .int .u64, .int .u64, .int .u64, .int .u64] ++ List.replicate 16 (.int .u8)) m.cl := Fits.app ⟨rfl, rfl, rfl, rfl, rfl, rfl, trivial⟩ (by rw [← h.sl]; exact Fits.bytes m.sl)
def voteKs : List CK := [.int .i64, .int .u64, .int .i64] ++ List.replicate 32 (.int .u8) ++ [.int .u64, .int .u64] ++ List.replicate 16 (.int .u8)
theorem flat_Ev : flat Try.prog 4 59 = some (voteKs ++ voteKs) := by kernel_rfl
theorem agg_Ev : isAggT Try.prog 59 = true := by kernel_rfl
theorem guard_Ev : Try.prog.eqGuardType Try.prog.depth 59 = false := by kernel_rfl
theorem fits_VoteK {m : Vote} (h : m.ok) : Fits voteKs m.cl := Fits.app (Fits.app (Fits.app ⟨rfl, rfl, rfl, trivial⟩ (by rw [← h.id]; exact Fits.bytes m.id)) ⟨rfl, rfl, trivial⟩) (by rw [← h.sl]; exact Fits.bytes m.sl)
theorem fits_Ev {m : Ev} (h : m.ok) : Fits (voteKs ++ voteKs) m.cl := Fits.app (fits_VoteK h.a) (fits_VoteK h.b)
def hdrKs : List CK := [.str, .int .u64, .int .u64] ++ List.replicate 224 (.int .u8) ++ [.int .u64]
theorem flat_Hdr : flat Try.prog 3 34 = some hdrKs := by kernel_rfl
theorem agg_Hdr : isAggT Try.prog 34 = true := by kernel_rfl
theorem guard_Hdr : Try.prog.eqGuardType Try.prog.depth 34 = false := by kernel_rfl
theorem fits_Hdr {m : Hdr} (h : m.ok) : Fits hdrKs m.cl := Fits.app (Fits.app ⟨trivial, rfl, rfl, trivial⟩ (by rw [← h.hh]; exact Fits.bytes m.hh)) ⟨rfl, trivial⟩
theorem info_HdrB : (Try.prog.info? 34).map (·.size) = some 228 := by kernel_rfl

end Go.Proofs.Ytnfffipkgaobhaa
namespace Go.Proofs.Ytnfffipkgaobhaa
set_option linter.unusedSimpArgs false
set_option linter.unusedVariables false
open Go.RowKit
set_option maxRecDepth 100000

theorem rootOf_len (l : List (List UInt8)) : (rootOf l).length = 32 := sha_len _
theorem rd_pre {w : World} {A : Option Addr} {xs ys : List Value} (h : Rd w A (xs ++ ys)) : Rd w A xs := fun j u hu => h j u (by rw [List.getElem?_append_left (List.getElem?_eq_some_iff.1 hu).1]; exact hu)
theorem Blk.cl_len (x : Blk) (hx : x.ok) : x.cl.length = 265 := bl_len (x.hd.cl_len hx.hd) (x.ct.cl_len hx.ct)
theorem Blk.cl_228 (x : Blk) (hx : x.ok) : x.cl.toArray[228]? = some (.slice x.tA x.tn x.tc) := bl_at1 (x.hd.cl_len hx.hd)
theorem Blk.cl_229 (x : Blk) (hx : x.ok) : x.cl.toArray[229]? = some (.slice x.eA x.en x.ec) := bl_at2 (x.hd.cl_len hx.hd)
theorem Blk.alike_ok {x : Blk} (hx : x.ok) (tB : Option Addr) (td : Nat) (eB : Option Addr) (ed : Nat) (cB : Option Addr) (cd : Nat) : (x.alike tB td eB ed cB cd).ok := ⟨hx.hd, hx.tn, hx.ts, hx.tb, hx.en, hx.es, hx.eb, ⟨hx.ct.height, hx.ct.round, hx.ct.id, hx.ct.n, hx.ct.ms⟩, hx.cb⟩

end Go.Proofs.Ytnfffipkgaobhaa

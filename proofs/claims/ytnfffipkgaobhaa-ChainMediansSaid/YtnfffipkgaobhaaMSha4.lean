/-
  The compression of one chunk: the document's block (assentref02): it comes to what package digest's mix comes to.
-/
import Derived.Test.YtnfffipkgaobhaaM05
import Derived.Deep.Cut
namespace Go.Proofs.Ytnfffipkgaobhaa
set_option linter.unusedSimpArgs false
set_option linter.unusedVariables false
open Go.RowKit
set_option maxRecDepth 100000

theorem chunk_get {c : List UInt8} (hc : c.length = 64) {j : Nat} (hj : j < 64) : (bv c)[j]? = some (.int .u8 ((c.getD j 0).toNat : Int)) := by
  rw [bv_get, List.getElem?_eq_getElem (by omega), List.getD_eq_getElem?_getD, List.getElem?_eq_getElem (by omega)]
  rfl

end Go.Proofs.Ytnfffipkgaobhaa

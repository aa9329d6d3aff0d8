/-
  SHA-256 in plain Lean: the words, the rounds, bytes eaten 64 at a time; a hasher that takes them piece by piece comes to what one that takes them at once does. No program.
  The turns of a 32-bit word: math/bits.RotateLeft32 at a negative count, the document's turn. No condition but that the word fits.
  More laws at single operations: a new variable under a name of its own. No condition: lemmas over any program.
  Results that lie in memory, read out at the return. No condition: lemmas over any program.
  Words of 32 bits kept as words: one operation at a time, inside a region that draws its order and outside one. No condition: lemmas over any program.
-/
import Derived.Test.YtnfffipkgaobhaaChecked
import Derived.Test.YtnfffipkgaobhaaM01
import Derived.Test.YtnfffipkgaobhaaM02
namespace Go.Proofs.Ytnfffipkgaobhaa
set_option linter.unusedSimpArgs false
set_option linter.unusedVariables false

section
variable {S : Type}
def eat (m : S → List UInt8 → S) (s : S) (l : List UInt8) : S :=
  if h : l.length < 64 then s else eat m (m s (l.take 64)) (l.drop 64)
termination_by l.length
decreasing_by rw [List.length_drop]; omega

theorem eat_short {m : S → List UInt8 → S} {s : S} {l : List UInt8} (h : l.length < 64) : eat m s l = s := by
  rw [eat, dif_pos h]
theorem eat_step {m : S → List UInt8 → S} {s : S} {l : List UInt8} (h : 64 ≤ l.length) : eat m s l = eat m (m s (l.take 64)) (l.drop 64) := by
  rw [eat, dif_neg (by omega)]
theorem eat_app {m : S → List UInt8 → S} : ∀ (n : Nat) (s : S) (a b : List UInt8), a.length = 64 * n → eat m s (a ++ b) = eat m (eat m s a) b
  | 0, s, a, b, h => by
    obtain rfl : a = [] := List.length_eq_zero_iff.1 (by omega)
    rw [eat_short (l := []) (by simp)]
    rfl
  | n + 1, s, a, b, h => by
    rw [eat_step (l := a ++ b) (by rw [List.length_append]; omega), eat_step (l := a) (by omega), List.take_append_of_le_length (by omega), List.drop_append_of_le_length (by omega)]
    exact eat_app n _ _ _ (by rw [List.length_drop]; omega)
def full (l : List UInt8) : List UInt8 := l.take (64 * (l.length / 64))
def rest (l : List UInt8) : List UInt8 := l.drop (64 * (l.length / 64))
theorem full_rest (l : List UInt8) : full l ++ rest l = l := List.take_append_drop _ _
theorem full_len (l : List UInt8) : (full l).length = 64 * (l.length / 64) := by unfold full; rw [List.length_take]; omega
theorem rest_len (l : List UInt8) : (rest l).length = l.length % 64 := by unfold rest; rw [List.length_drop]; omega
theorem eat_full {m : S → List UInt8 → S} (s : S) (l : List UInt8) : eat m s (full l) = eat m s l := by
  have e := full_rest l
  have h := eat_app (m := m) (l.length / 64) s (full l) (rest l) (full_len l)
  rw [e, eat_short (l := rest l) (by rw [rest_len]; omega)] at h
  exact h.symm
/-- what was eaten, and what is held back: after more bytes -/
theorem eat_more {m : S → List UInt8 → S} (s : S) (l b : List UInt8) : eat m (eat m s l) (rest l ++ b) = eat m s (l ++ b) := by
  have e : l ++ b = full l ++ (rest l ++ b) := by rw [← List.append_assoc, full_rest]
  rw [e, eat_app _ _ _ _ (full_len l), eat_full]
end
theorem rest_more (l b : List UInt8) : rest (rest l ++ b) = rest (l ++ b) := by
  have e : l ++ b = full l ++ (rest l ++ b) := by rw [← List.append_assoc, full_rest]
  have hf := full_len l
  generalize rest l ++ b = r at e ⊢
  rw [e]
  unfold rest
  rw [List.length_append, hf]
  have e1 : 64 * ((64 * (l.length / 64) + r.length) / 64) = (full l).length + 64 * (r.length / 64) := by rw [hf]; omega
  have e2 : List.drop ((full l).length + 64 * (r.length / 64)) (full l ++ r) = List.drop (64 * (r.length / 64)) r := by
    rw [List.drop_append, List.drop_eq_nil_of_le (by omega), List.nil_append, Nat.add_sub_cancel_left]
  rw [e1, e2]
theorem rest_short {l : List UInt8} (h : l.length < 64) : rest l = l := by
  unfold rest; rw [show 64 * (l.length / 64) = 0 by omega]; rfl
theorem rest_full {l : List UInt8} (h : l.length = 64) : rest l = [] := by
  unfold rest; exact List.drop_eq_nil_of_le (by omega)

/-! the words -/
def rotr (x n : UInt32) : UInt32 := x >>> n ||| x <<< (32 - n)
def sg0 (x : UInt32) : UInt32 := rotr x 7 ^^^ rotr x 18 ^^^ (x >>> 3)
def sg1 (x : UInt32) : UInt32 := rotr x 17 ^^^ rotr x 19 ^^^ (x >>> 10)
def bg0 (x : UInt32) : UInt32 := rotr x 2 ^^^ rotr x 13 ^^^ rotr x 22
def bg1 (x : UInt32) : UInt32 := rotr x 6 ^^^ rotr x 11 ^^^ rotr x 25
def chs (e f g : UInt32) : UInt32 := (e &&& f) ^^^ (~~~e &&& g)
def maj (a b c : UInt32) : UInt32 := (a &&& b) ^^^ (a &&& c) ^^^ (b &&& c)
def word4 (a b c d : UInt8) : UInt32 := a.toUInt32 <<< 24 ||| b.toUInt32 <<< 16 ||| c.toUInt32 <<< 8 ||| d.toUInt32
/-- the i-th word of a chunk -/
def wordAt (c : List UInt8) (i : Nat) : UInt32 := word4 (c.getD (4 * i) 0) (c.getD (4 * i + 1) 0) (c.getD (4 * i + 2) 0) (c.getD (4 * i + 3) 0)
/-- the next word of the list that the rounds add -/
def nextW (l : List UInt32) (i : Nat) : UInt32 := l.getD (i - 16) 0 + sg0 (l.getD (i - 15) 0) + l.getD (i - 7) 0 + sg1 (l.getD (i - 2) 0)
/-- the first k words -/
def wk (c : List UInt8) : Nat → List UInt32
  | 0 => []
  | k + 1 => wk c k ++ [if k < 16 then wordAt c k else nextW (wk c k) k]
theorem wk_len (c : List UInt8) : ∀ k, (wk c k).length = k
  | 0 => rfl
  | k + 1 => by rw [wk, List.length_append, wk_len c k]; rfl
structure S8 where
  (a b c d e f g h : UInt32)
deriving DecidableEq
def adds256 : List UInt32 := [
  0x428a2f98, 0x71374491, 0xb5c0fbcf, 0xe9b5dba5, 0x3956c25b, 0x59f111f1, 0x923f82a4, 0xab1c5ed5,
  0xd807aa98, 0x12835b01, 0x243185be, 0x550c7dc3, 0x72be5d74, 0x80deb1fe, 0x9bdc06a7, 0xc19bf174,
  0xe49b69c1, 0xefbe4786, 0x0fc19dc6, 0x240ca1cc, 0x2de92c6f, 0x4a7484aa, 0x5cb0a9dc, 0x76f988da,
  0x983e5152, 0xa831c66d, 0xb00327c8, 0xbf597fc7, 0xc6e00bf3, 0xd5a79147, 0x06ca6351, 0x14292967,
  0x27b70a85, 0x2e1b2138, 0x4d2c6dfc, 0x53380d13, 0x650a7354, 0x766a0abb, 0x81c2c92e, 0x92722c85,
  0xa2bfe8a1, 0xa81a664b, 0xc24b8b70, 0xc76c51a3, 0xd192e819, 0xd6990624, 0xf40e3585, 0x106aa070,
  0x19a4c116, 0x1e376c08, 0x2748774c, 0x34b0bcb5, 0x391c0cb3, 0x4ed8aa4a, 0x5b9cca4f, 0x682e6ff3,
  0x748f82ee, 0x78a5636f, 0x84c87814, 0x8cc70208, 0x90befffa, 0xa4506ceb, 0xbef9a3f7, 0xc67178f2]
theorem adds_len : adds256.length = 64 := rfl
def begin256 : S8 := ⟨0x6a09e667, 0xbb67ae85, 0x3c6ef372, 0xa54ff53a, 0x510e527f, 0x9b05688c, 0x1f83d9ab, 0x5be0cd19⟩
/-- one round -/
def round8 (v : S8) (k w : UInt32) : S8 :=
  let t := v.h + bg1 v.e + chs v.e v.f v.g + k + w
  ⟨t + (bg0 v.a + maj v.a v.b v.c), v.a, v.b, v.c, v.d + t, v.e, v.f, v.g⟩
def rounds8 (s : S8) (ws : List UInt32) : Nat → S8
  | 0 => s
  | i + 1 => round8 (rounds8 s ws i) (adds256.getD i 0) (ws.getD i 0)
def add8 (s v : S8) : S8 := ⟨s.a + v.a, s.b + v.b, s.c + v.c, s.d + v.d, s.e + v.e, s.f + v.f, s.g + v.g, s.h + v.h⟩
def comp (s : S8) (c : List UInt8) : S8 := add8 s (rounds8 s (wk c 64) 64)
def S8.list (s : S8) : List UInt32 := [s.a, s.b, s.c, s.d, s.e, s.f, s.g, s.h]
def bytes4 (x : UInt32) : List UInt8 := [(x >>> 24).toUInt8, (x >>> 16).toUInt8, (x >>> 8).toUInt8, x.toUInt8]
def S8.bytes (s : S8) : List UInt8 := s.list.flatMap bytes4
theorem S8.bytes_len (s : S8) : s.bytes.length = 32 := rfl
/-- the number of bytes, in eight -/
def tail8 (n : UInt64) : List UInt8 := [(n >>> 56).toUInt8, (n >>> 48).toUInt8, (n >>> 40).toUInt8, (n >>> 32).toUInt8, (n >>> 24).toUInt8, (n >>> 16).toUInt8, (n >>> 8).toUInt8, n.toUInt8]
theorem tail8_len (n : UInt64) : (tail8 n).length = 8 := rfl
/-- how many zeros stand behind the mark -/
def gap (n : Nat) : Nat := (119 - n % 64) % 64
theorem gap_fits (n : Nat) : (n + 1 + gap n) % 64 = 56 := by unfold gap; omega
def shaPad (l : List UInt8) : List UInt8 := l ++ ([0x80] ++ List.replicate (gap l.length) 0 ++ tail8 (UInt64.ofNat (l.length * 8)))
theorem shaPad_len (l : List UInt8) : (shaPad l).length % 64 = 0 := by
  have := gap_fits l.length
  unfold shaPad
  simp only [List.length_append, List.length_replicate, List.length_cons, List.length_nil, tail8_len]
  omega
def sha (l : List UInt8) : List UInt8 := (eat comp begin256 (shaPad l)).bytes
theorem sha_len (l : List UInt8) : (sha l).length = 32 := rfl
end Go.Proofs.Ytnfffipkgaobhaa
namespace Go.Proofs.Ytnfffipkgaobhaa
set_option linter.unusedSimpArgs false
set_option linter.unusedVariables false
open Go.RowKit
set_option maxRecDepth 100000

/-- a word as the model's number -/
def uI (x : UInt32) : Int := (x.toNat : Int)
theorem uI_range (x : UInt32) : 0 ≤ uI x ∧ uI x ≤ 4294967295 := by
  unfold uI; have := x.toNat_lt; omega
theorem uI_bv (x : UInt32) : BitVec.ofInt 32 (uI x) = x.toBitVec := by
  apply BitVec.eq_of_toNat_eq
  unfold uI
  simp
theorem uI_wrap (x : BitVec 32) : IntKind.u32.wrap (x.toNat : Int) = uI ⟨x⟩ := by
  have := x.isLt
  rw [IntKind.wrap_u32]; unfold uI; simp [UInt32.toNat]; omega
theorem uI_xor (x y : UInt32) : bits .xor .u32 (uI x) (uI y) = uI (x ^^^ y) := by
  unfold bits
  simp only [IntKind.bits, uI_bv]
  exact uI_wrap _
theorem uI_and (x y : UInt32) : bits .and .u32 (uI x) (uI y) = uI (x &&& y) := by
  unfold bits
  simp only [IntKind.bits, uI_bv]
  exact uI_wrap _
theorem uI_or (x y : UInt32) : bits .or .u32 (uI x) (uI y) = uI (x ||| y) := by
  unfold bits
  simp only [IntKind.bits, uI_bv]
  exact uI_wrap _
theorem uI_add (x y : UInt32) : IntKind.u32.wrap (uI x + uI y) = uI (x + y) := by
  rw [IntKind.wrap_u32]
  unfold uI
  simp
theorem uI_shr (x : UInt32) (n : Nat) (h : n < 32) : uI x / 2 ^ n = uI (x >>> UInt32.ofNat n) := by
  unfold uI
  simp only [UInt32.toNat_shiftRight, UInt32.toNat_ofNat']
  rw [Nat.mod_eq_of_lt (by omega : n < 2 ^ 32), Nat.mod_eq_of_lt h, Nat.shiftRight_eq_div_pow]
  norm_cast
theorem uI_shl (x : UInt32) (n : Nat) (h : n < 32) : IntKind.u32.wrap (uI x * 2 ^ n) = uI (x <<< UInt32.ofNat n) := by
  rw [IntKind.wrap_u32]
  unfold uI
  simp only [UInt32.toNat_shiftLeft, UInt32.toNat_ofNat']
  rw [Nat.mod_eq_of_lt (by omega : n < 2 ^ 32), Nat.mod_eq_of_lt h, Nat.shiftLeft_eq]
  have e : (x.toNat : Int) * 2 ^ n = ((x.toNat * 2 ^ n : Nat) : Int) := by simp
  rw [e]
  generalize x.toNat * 2 ^ n = k
  omega
theorem ret_u32 {a b : Int} (h : a = b) : Ending.returned (.int .u32 a) = .returned (.int .u32 b) := by rw [h]
theorem bor_comm (a b : Int) : bits .or .u32 a b = bits .or .u32 b a := by
  unfold bits
  simp only [BitVec.or_comm]
def rotI (x : Int) (n : Nat) : Int := bits .or .u32 (x / 2 ^ n) (IntKind.u32.wrap (x * 2 ^ (32 - n)))
theorem rotI_of (x : UInt32) (n : Nat) (h0 : 0 < n) (h : n < 32) : rotI (uI x) n = uI (rotr x (UInt32.ofNat n)) := by
  unfold rotI rotr
  rw [uI_shr x n h, uI_shl x (32 - n) (by omega), uI_or]
  congr 3
  apply UInt32.toNat_inj.1
  rw [UInt32.toNat_sub_of_le]
  · simp; omega
  · rw [UInt32.le_iff_toNat_le]; simp; omega
def rotList : List Int := [-2, -6, -7, -11, -13, -17, -18, -19, -22, -25]
def turnList : List Int := [2, 6, 7, 11, 13, 17, 18, 19, 22, 25]
end Go.Proofs.Ytnfffipkgaobhaa
namespace Go.Proofs.Ytnfffipkgaobhaa
set_option linter.unusedSimpArgs false
set_option linter.unusedVariables false
open Go.RowKit

section
variable {P : Program}
theorem run_zero {t : TypeId} {z : Value} (hz : (P.info? t).bind (·.zero) = some z) (w : World) : (zeroValue t).run P w = .ok z w := by
  cases hq : P.info? t with
  | none => simp [hq] at hz
  | some i =>
    simp [hq] at hz
    simp [zeroValue, typeInfo, hq, hz]
/-- a new variable, zero -/
theorem wpList_alloc_bk {ops : Array Oper} {rest : List Oper} {o : Oper} {a : Act} {w : World} {Q : Exit → Act → World → Prop} (hgd : o.guard = none) (t : TypeId) (ho : o.op = .alloc t) (z : Value) (hz : (P.info? t).bind (·.zero) = some z)
    (h : ∀ g w', Bk w' g z.cells t → Below w.heap.size w w' → w.heap.size = g → w'.heap.size = g + 1 → wpList P ops Q rest (a.put o.dst (.pointer (some ⟨g, 0, none⟩))) w') : wpList P ops Q (o :: rest) a w := by
  refine wpList_plain hgd fun K hK => ?_
  unfold Oper.wp execOp
  simp only [ho, Instr.alloc, run_zero hz, newVar, newRow, newObj, Sem.run_bind, Sem.run_pure, Result.andThen_ok]
  refine hK _ _ (h w.heap.size (w.alloc (.cells z.cells t)) (Bk.new w t _) ((Below.refl _ _).alloc (Nat.le_refl _) _) rfl (by simp))
end
end Go.Proofs.Ytnfffipkgaobhaa
namespace Go.Proofs.Ytnfffipkgaobhaa
set_option linter.unusedSimpArgs false
set_option linter.unusedVariables false
open Go.RowKit

section
variable {P : Program}
theorem run_results_cell {fn : Func} {a t : Nat} {tmps : Array Value} {ad : Addr} {v : Value} {w : World} (hr : fn.results = #[.cell a t]) (ht : tmps.getD a undef = .pointer (some ad)) (hl : (loadVar t ad).run P w = .ok v w) :
    (results fn tmps).run P w = .ok v w := by
  simp only [Array.getD_eq_getD_getElem?] at ht
  simp [results, hr, ht, hl, asAddr, Sem.run_bind, Sem.run_pure]
theorem run_results_tct {fn : Func} {a b c t : Nat} {tmps : Array Value} {ad : Addr} {u v x : Value} {w : World} (hr : fn.results = #[.tmp a, .cell b t, .tmp c]) (ha : tmps.getD a undef = u) (ht : tmps.getD b undef = .pointer (some ad)) (hc : tmps.getD c undef = x) (hl : (loadVar t ad).run P w = .ok v w) :
    (results fn tmps).run P w = .ok (.tuple #[u, v, x]) w := by
  simp only [Array.getD_eq_getD_getElem?] at ha ht hc
  simp [results, hr, ha, ht, hc, hl, asAddr, Sem.run_bind, Sem.run_pure]
theorem bodyPost_cell {fn : Func} {R : Ending → World → Prop} {act : Act} {w : World} {a t n g : Nat} {cs : Array Value} {bt : TypeId} {d : TypeDesc} (hr : fn.results = #[.cell a t]) (ht : act.tmps.getD a undef = .pointer (some ⟨g, 0, none⟩)) (hk : Bk w g cs bt) (hu : P.underlying t = some d) (hda : aggD d = true) (hi : (P.info? t).map (·.size) = some n) (hn : n = cs.size) (hd : act.defers = []) (hR : R (.returned (.agg cs)) w) : bodyPost P fn R .ret act w := by
  have hl := run_loadVar_part (P := P) (off := 0) hk hu hda hi (by omega)
  have e : cs.extract 0 (0 + n) = cs := by subst hn; simp
  rw [e] at hl
  exact bodyPost_ret (run_results_cell hr ht hl) hd hR
theorem bodyPost_tct {fn : Func} {R : Ending → World → Prop} {act : Act} {w : World} {a b c t n g : Nat} {u x : Value} {cs : Array Value} {bt : TypeId} {d : TypeDesc} (hr : fn.results = #[.tmp a, .cell b t, .tmp c]) (ha : act.tmps.getD a undef = u) (ht : act.tmps.getD b undef = .pointer (some ⟨g, 0, none⟩)) (hc : act.tmps.getD c undef = x) (hk : Bk w g cs bt) (hu : P.underlying t = some d) (hda : aggD d = true) (hi : (P.info? t).map (·.size) = some n) (hn : n = cs.size) (hd : act.defers = []) (hR : R (.returned (.tuple #[u, .agg cs, x])) w) : bodyPost P fn R .ret act w := by
  have hl := run_loadVar_part (P := P) (off := 0) hk hu hda hi (by omega)
  have e : cs.extract 0 (0 + n) = cs := by subst hn; simp
  rw [e] at hl
  exact bodyPost_ret (run_results_tct hr ha ht hc hl) hd hR
/-- a variable written whole -/
theorem wpList_store_bk {ops : Array Oper} {rest : List Oper} {o : Oper} {a : Act} {w : World} {Q : Exit → Act → World → Prop} (hw : Region.wanted o (yielded ops a.tmps) = true) (ty : TypeId) (x y : Operand) (ho : o.op = .store ty x y)
    (g : Nat) (hx : a.eval x = .pointer (some ⟨g, 0, none⟩)) (v : Value) (hy : a.eval y = v) (cs : Array Value) (t : TypeId) (hk : Bk w g cs t) (hi : (P.info? ty).map (·.size) = some v.cells.size) (hn : v.cells.size = cs.size) (h1 : ∀ u ∈ v.cells.toList, u.oneCell' = true)
    (h : ∀ w', Bk w' g v.cells t → w.grownBy w' (some g) → w'.heap.size = w.heap.size → wpList P ops Q rest (a.put o.dst undef) w') : wpList P ops Q (o :: rest) a w := by
  refine wpList_store_part hw ty x y ho g 0 hx v hy cs t hk hi (by omega) h1 fun w' hk' hg hs => h w' ?_ hg hs
  have e : splice cs 0 v.cells.toList = v.cells := by
    apply Array.ext'
    simp [splice, hn]
  rw [e] at hk'
  exact hk'
end
end Go.Proofs.Ytnfffipkgaobhaa
namespace Go.Proofs.Ytnfffipkgaobhaa
set_option linter.unusedSimpArgs false
set_option linter.unusedVariables false
open Go.RowKit
set_option maxRecDepth 100000

section
variable {P : Program} {ρ : Operand → Value} {o : Oper} {ty ty' : TypeId} {x y : Operand} {p q : UInt32}
theorem exec_add (ho : o.op = .binOp .add ty x y ty') (hx : ρ x = .int .u32 (uI p)) (hy : ρ y = .int .u32 (uI q)) (w : World) : (execOp ρ o).run P w = .ok (.value (.int .u32 (uI (p + q)))) w := by
  unfold execOp
  simp only [ho, hx, hy]
  simp [go_sem, uI_add]
theorem exec_xor (ho : o.op = .binOp .xor ty x y ty') (hx : ρ x = .int .u32 (uI p)) (hy : ρ y = .int .u32 (uI q)) (w : World) : (execOp ρ o).run P w = .ok (.value (.int .u32 (uI (p ^^^ q)))) w := by
  unfold execOp
  simp only [ho, hx, hy]
  simp [go_sem, uI_xor]
theorem exec_and (ho : o.op = .binOp .and ty x y ty') (hx : ρ x = .int .u32 (uI p)) (hy : ρ y = .int .u32 (uI q)) (w : World) : (execOp ρ o).run P w = .ok (.value (.int .u32 (uI (p &&& q)))) w := by
  unfold execOp
  simp only [ho, hx, hy]
  simp [go_sem, uI_and]
theorem exec_or (ho : o.op = .binOp .or ty x y ty') (hx : ρ x = .int .u32 (uI p)) (hy : ρ y = .int .u32 (uI q)) (w : World) : (execOp ρ o).run P w = .ok (.value (.int .u32 (uI (p ||| q)))) w := by
  unfold execOp
  simp only [ho, hx, hy]
  simp [go_sem, uI_or]
theorem uI_not (p : UInt32) : bits .xor .u32 (if IntKind.u32.signed = true then -1 else IntKind.u32.max) (uI p) = uI (~~~p) := by
  have e : (if IntKind.u32.signed = true then -1 else IntKind.u32.max) = uI 0xffffffff := by decide
  rw [e, uI_xor]
  have e2 : (0xffffffff : UInt32) ^^^ p = ~~~p := by
    apply UInt32.toBitVec_inj.1
    show (BitVec.allOnes 32) ^^^ p.toBitVec = ~~~p.toBitVec
    exact BitVec.allOnes_xor
  rw [e2]
theorem exec_not (ho : o.op = .unOp .xor ty x) (hx : ρ x = .int .u32 (uI p)) (w : World) : (execOp ρ o).run P w = .ok (.value (.int .u32 (uI (~~~p)))) w := by
  unfold execOp
  simp only [ho, hx]
  simp [go_sem, uI_not]
theorem exec_shr3 (ho : o.op = .binOp .shr ty x (.const (.int .u64 3)) ty') (hx : ρ x = .int .u32 (uI p)) (hc : ∀ v, ρ (.const v) = v) (w : World) : (execOp ρ o).run P w = .ok (.value (.int .u32 (uI (p >>> 3)))) w := by
  have e := uI_shr p 3 (by decide)
  unfold execOp
  simp only [ho, hx, hc]
  simp [go_sem]
  exact e
theorem exec_shr10 (ho : o.op = .binOp .shr ty x (.const (.int .u64 10)) ty') (hx : ρ x = .int .u32 (uI p)) (hc : ∀ v, ρ (.const v) = v) (w : World) : (execOp ρ o).run P w = .ok (.value (.int .u32 (uI (p >>> 10)))) w := by
  have e := uI_shr p 10 (by decide)
  unfold execOp
  simp only [ho, hx, hc]
  simp [go_sem]
  exact e
end
section
variable {P : Program} {ops : Array Oper} {C : World → Prop} {o : Oper} {a : Act} {K : Act → Prop} {w : World} {Q : Exit → Act → World → Prop} {rest : List Oper}
theorem quiet_exec (hw : Region.wanted o (yielded ops a.tmps) = true) {v : Value} (hr : ∀ w, (execOp a.eval o).run P w = .ok (.value v) w) (h : K (a.put o.dst v)) :
    if Region.wanted o (yielded ops a.tmps) then o.quiet P a C K else K (a.put o.dst undef) := by
  rw [if_pos hw]
  exact ⟨v, fun w _ => by unfold Oper.quietAt; rw [hr]; exact ⟨rfl, rfl⟩, h⟩
theorem wpList_exec (hw : Region.wanted o (yielded ops a.tmps) = true) {v : Value} (hr : ∀ w, (execOp a.eval o).run P w = .ok (.value v) w) (h : wpList P ops Q rest (a.put o.dst v) w) : wpList P ops Q (o :: rest) a w := by
  refine wpList_want hw fun K hK => ?_
  unfold Oper.wp
  rw [hr]
  exact hK _ _ h
end
end Go.Proofs.Ytnfffipkgaobhaa

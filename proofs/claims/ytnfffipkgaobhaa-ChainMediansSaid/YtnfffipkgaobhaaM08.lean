/-
  A Hasher's digest: (*Hasher).Sum is sha of what it took. Condition: the Hasher has taken l; l is not too long; the table of the rounds reads as it was laid.
  The digest of parts, one behind the other (joined); the digest of bytes (Sum of package digest). Conditions: the parts lie in memory; they are not too long; the two tables read as they were laid.
-/
import Derived.Test.YtnfffipkgaobhaaM07
namespace Go.Proofs.Ytnfffipkgaobhaa
set_option linter.unusedSimpArgs false
set_option linter.unusedVariables false
open Go.RowKit
set_option maxRecDepth 100000

theorem zero_hash : (Try.prog.info? 27).bind (·.zero) = some (.agg (bv (zer 32)).toArray) := by kernel_rfl
def hasher0 : List Value := (.bool false :: List.replicate 8 (.int .u32 0)) ++ (bv (zer 64) ++ [.int .i64 0, .int .u64 0])
theorem ext_all {cs : Array Value} {n : Nat} (h : cs.size = n) : cs.extract 0 (0 + n) = cs := by
  subst h; simp
theorem info_h32 : (Try.prog.info? 27).map (·.size) = some 32 := by kernel_rfl
theorem hc_one (s : S8) (part : List UInt8) (h t : Int) : ∀ u ∈ (Value.agg (hc s part h t).toArray).cells.toList, u.oneCell' = true := by
  intro u hu
  simp only [Value.cells, List.toList_toArray, hc, List.mem_append, List.mem_cons, List.mem_nil_iff, or_false] at hu
  rcases hu with (rfl | hu) | hu | rfl | rfl
  · rfl
  · simp only [uv, List.mem_map] at hu; obtain ⟨_, _, rfl⟩ := hu; rfl
  · exact bv_one part u hu
  · rfl
  · rfl
theorem agg_size {s : S8} {part : List UInt8} {h t : Int} (hp : part.length = 64) : (Value.agg (hc s part h t).toArray).cells.size = 75 := hc_size hp
theorem hasher0_size : hasher0.toArray.size = 75 := by simp [hasher0, bv, zer]
theorem tail8_int' (L : Nat) (h : L * 8 < 18446744073709551616) (k : Nat) (hk : k < 8) : (L : Int) * 8 / 2 ^ (56 - 8 * k) % 256 = (((tail8 (UInt64.ofNat (L * 8))).getD k 0).toNat : Int) := by
  have h1 := tail8_int (L * 8) h k hk
  rw [IntKind.wrap_u8, show (56 - 8 * (k : Int)).toNat = 56 - 8 * k by omega] at h1
  rw [← h1]
  simp
theorem byte4_int' (x : UInt32) (k : Nat) (hk : k < 4) : uI x / 2 ^ (24 - 8 * k) % 256 = (((bytes4 x).getD k 0).toNat : Int) := by
  have h1 := byte4_int x k hk
  rw [IntKind.wrap_u8, show (24 - 8 * (k : Int)).toNat = 24 - 8 * k by omega] at h1
  exact h1
theorem agg_sz {a : Array Value} {n : Nat} (h : a.size = n) : (Value.agg a).cells.size = n := h
theorem gap_lt {n k : Nat} (h : k < gap n) : ((n + 1 + k) % 64 == 56) = false ∧ (n + 1 + k) % 64 ≠ 56 := by
  have := gap_fits n
  unfold gap at *
  have h2 : (n + 1 + k) % 64 ≠ 56 := by omega
  exact ⟨by simpa using h2, h2⟩

def heldOf (w : World) (e : Nat) : Nat := match w.cell? ⟨e, 73, none⟩ with | some (.int _ h) => h.toNat | _ => 0

end Go.Proofs.Ytnfffipkgaobhaa
namespace Go.Proofs.Ytnfffipkgaobhaa
set_option linter.unusedSimpArgs false
set_option linter.unusedVariables false
open Go.RowKit
set_option maxRecDepth 100000

/-- a slice of bytes that lies in memory -/
structure Piece where
  A : Option Addr
  c : Nat
  b : List UInt8
def Piece.val (p : Piece) : Value := .slice p.A p.b.length p.c
structure Piece.ok (w : World) (p : Piece) : Prop where
  rd : Rd w p.A (bv p.b)
  le : p.b.length ≤ p.c
  lt : ∀ ad, p.A = some ad → ad.block < w.heap.size
theorem Piece.ok.below {w w' : World} {p : Piece} (h : p.ok w) (hb : Below w.heap.size w w') : p.ok w' := ⟨h.rd.below hb, h.le, fun ad ha => Nat.lt_of_lt_of_le (h.lt ad ha) hb.size⟩
def allOf (ps : List Piece) : List UInt8 := ps.flatMap Piece.b
theorem rd_below {w w' : World} {A : Option Addr} {xs : List Value} {B : Nat} (h : Rd w A xs) (hb : Below B w w') (hB : B = w.heap.size) : Rd w' A xs := by subst hB; exact h.below hb

end Go.Proofs.Ytnfffipkgaobhaa

/-
  What reading comes to, in plain Lean: a byte, so many bytes, a number in groups of seven bits. No condition.
-/
import Derived.Test.YtocgcalaiejbiaaCodW
namespace Go.Proofs.Ytocgcalaiejbiaa
set_option linter.unusedSimpArgs false
set_option linter.unusedVariables false

/-- what a read answers: the value, the place behind, the error -/
structure Got (α : Type) where
  val : α
  at' : Nat
  err : Int
/-- so many bytes from a place -/
def rdRaw (l : List UInt8) (n p : Nat) (e : Int) : Got (List UInt8) :=
  if e ≠ 0 then ⟨[], p, e⟩ else if l.length - p < n then ⟨[], p, 10⟩ else ⟨(l.drop p).take n, p + n, 0⟩
def rdByte (l : List UInt8) (p : Nat) (e : Int) : Got Int :=
  if e ≠ 0 then ⟨0, p, e⟩ else match l[p]? with
    | none => ⟨0, p, 10⟩
    | some b => ⟨(b.toNat : Int), p + 1, 0⟩
/-- the groups: the bytes yet to be read, how many were, what they came to: an error, or the number and how many -/
def groups : List UInt8 → Nat → Nat → Int ⊕ (Nat × Nat)
  | [], _, _ => .inl 10
  | c :: rest, k, acc =>
    if (k = 9 ∧ 1 < c.toNat) ∨ (0 < k ∧ c.toNat = 0) then .inl 11
    else if c.toNat < 128 then .inr (acc + c.toNat * 128 ^ k, k + 1)
    else groups rest (k + 1) (acc + (c.toNat - 128) * 128 ^ k)
def rdVar (l : List UInt8) (p : Nat) (e : Int) : Got Nat :=
  if e ≠ 0 then ⟨0, p, e⟩ else match groups (l.drop p) 0 0 with
    | .inl x => ⟨0, p, x⟩
    | .inr (v, k) => ⟨v, p + k, 0⟩
def rdText (most : Nat) (l : List UInt8) (p : Nat) (e : Int) : Got (List UInt8) :=
  if e ≠ 0 then ⟨[], p, e⟩ else match groups (l.drop p) 0 0 with
    | .inl x => ⟨[], p, x⟩
    | .inr (v, k) => if most < v then ⟨[], p, 12⟩ else if l.length - (p + k) < v then ⟨[], p, 10⟩ else ⟨(l.drop (p + k)).take v, p + k + v, 0⟩
def rdEnd (l : List UInt8) (p : Nat) (e : Int) : Int := if e ≠ 0 then e else if p < l.length then 13 else 0
end Go.Proofs.Ytocgcalaiejbiaa

/-
  A Reader of package codec: what it holds, and what its calls may change. No condition: each is a lemma.
-/
import Derived.Test.YtocgcalaiejbiaaTurn
namespace Go.Proofs.Ytocgcalaiejbiaa
set_option linter.unusedSimpArgs false
set_option linter.unusedVariables false
open Go.RowKit
set_option maxRecDepth 100000

/-- what may change between two worlds: of the old blocks these alone -/
structure Ch (ks : List Nat) (w w' : World) : Prop where
  os : w'.os = w.os
  tape : w'.tape = w.tape
  output : w'.output = w.output
  size : w.heap.size ≤ w'.heap.size
  block : ∀ k, k < w.heap.size → k ∉ ks → w'.heap[k]? = w.heap[k]?
theorem Ch.refl (ks : List Nat) (w : World) : Ch ks w w := ⟨rfl, rfl, rfl, Nat.le_refl _, fun _ _ _ => rfl⟩
theorem Ch.trans {ks ks' : List Nat} {a b c : World} (h : Ch ks a b) (h' : Ch ks' b c) (hk : ∀ k ∈ ks', k ∈ ks ∨ a.heap.size ≤ k) : Ch ks a c :=
  ⟨h'.os.trans h.os, h'.tape.trans h.tape, h'.output.trans h.output, Nat.le_trans h.size h'.size, fun k hlt hn => by
    rw [h'.block k (Nat.lt_of_lt_of_le hlt h.size) ?_, h.block k hlt hn]
    intro hm
    rcases hk k hm with h | h
    · exact hn h
    · omega⟩
theorem Ch.same {ks : List Nat} {a b c : World} (h : Ch ks a b) (h' : Ch ks b c) : Ch ks a c := h.trans h' fun _ hk => .inl hk
theorem Ch.wide {ks ks' : List Nat} {a b : World} (h : Ch ks a b) (hk : ∀ k ∈ ks, k ∈ ks') : Ch ks' a b := ⟨h.os, h.tape, h.output, h.size, fun k hlt hn => h.block k hlt (fun hm => hn (hk k hm))⟩
theorem Ch.of_below {w w' : World} (ks : List Nat) (h : Below w.heap.size w w') : Ch ks w w' := ⟨h.os, h.tape, h.output, h.size, fun k hk _ => h.block k hk⟩
theorem Ch.of_grown {w w' : World} {g : Nat} (h : w.grownBy w' (some g)) : Ch [g] w w' := ⟨h.os, h.tape, h.output, h.size, fun k hk hn => h.block k hk (fun e => hn (by simp at e; simp [e]))⟩
theorem Ch.drewN {ks : List Nat} {a w : World} (h : Ch ks a w) (n : Nat) : Ch ks a (w.drewN n) := ⟨h.os, h.tape, h.output, h.size, h.block⟩
theorem Ch.alloc {ks : List Nat} {a w : World} (h : Ch ks a w) (o : Obj) : Ch ks a (w.alloc o) := h.same (Ch.of_below ks ((Below.refl _ _).alloc (Nat.le_refl _) o))
theorem Ch.setCell {ks : List Nat} {a w : World} (h : Ch ks a w) {p : Addr} (hp : p.block ∈ ks) (u : Value) : Ch ks a (w.setCell p u) :=
  h.same ⟨rfl, rfl, rfl, by simp [World.setCell], fun k _ hn => Below.heap_setCell _ _ _ _ (fun e => hn (e ▸ hp))⟩
theorem Ch.below {ks : List Nat} {B : Nat} {w w' : World} (h : Ch ks w w') (hB : B ≤ w.heap.size) (hk : ∀ k ∈ ks, B ≤ k) : Below B w w' :=
  ⟨h.os, h.tape, h.output, h.size, fun k hlt => h.block k (by omega) (fun hm => by have := hk k hm; omega)⟩
theorem Bk.ch {w w' : World} {g : Nat} {cs : Array Value} {t : TypeId} {ks : List Nat} (h : Bk w g cs t) (hc : Ch ks w w') (hn : g ∉ ks) : Bk w' g cs t := (hc.block g h.lt hn).trans h
theorem Rd.ch {w w' : World} {A : Option Addr} {xs : List Value} {ks : List Nat} (h : Rd w A xs) (hc : Ch ks w w') (hn : ∀ a, A = some a → a.block ∉ ks) : Rd w' A xs := by
  intro j u hu
  obtain ⟨ad, rfl, hcell⟩ := h j u hu
  refine ⟨ad, rfl, ?_⟩
  have hb : (ad.add j).block = ad.block := by unfold Addr.add; split <;> rfl
  rw [World.cell?_of_block (w := w) (hc.block _ (World.block_lt_of_cell? w _ hcell) (by rw [hb]; exact hn ad rfl))]
  exact hcell

/-- a Reader in block g over these bytes, at this place, with this error -/
structure Re (w : World) (g : Nat) (A : Option Addr) (c : Nat) (l : List UInt8) (p : Nat) (e : Int) : Prop where
  bk : Bk w g #[.bool true, .slice A l.length c, .int .i64 p, .int .i64 e] 141
  rd : Rd w A (bv l)
  ne : ∀ a, A = some a → a.block ≠ g
  lt : ∀ a, A = some a → a.block < w.heap.size
  le : p ≤ l.length
  cap : l.length ≤ c
  room : c ≤ 9223372036854775807
  reach : l.length ≤ reach47
namespace Re
variable {w w' : World} {g : Nat} {A : Option Addr} {c : Nat} {l : List UInt8} {p : Nat} {e : Int}
theorem ch {ks : List Nat} (h : Re w g A c l p e) (hc : Ch ks w w') (hg : g ∉ ks) (hd : ∀ a, A = some a → a.block ∉ ks) : Re w' g A c l p e :=
  ⟨h.bk.ch hc hg, h.rd.ch hc hd, h.ne, fun a ha => Nat.lt_of_lt_of_le (h.lt a ha) hc.size, h.le, h.cap, h.room, h.reach⟩
theorem below (h : Re w g A c l p e) (hb : Below w.heap.size w w') : Re w' g A c l p e := h.ch (Ch.of_below [] hb) (by simp) (by simp)
/-- the place moved -/
theorem at_ (h : Re w g A c l p e) (q : Nat) (hq : q ≤ l.length) : Re (w.setCell ⟨g, 2, none⟩ (.int .i64 q)) g A c l q e := by
  have hne := h.ne
  refine ⟨h.bk.set_ 2 _, ?_, h.ne, fun a ha => by have := h.lt a ha; simpa [World.setCell] using this, hq, h.cap, h.room, h.reach⟩
  refine h.rd.ch (ks := [g]) ((Ch.refl [g] w).setCell (by simp) _) (fun a ha => by simpa using hne a ha)
/-- the error laid -/
theorem err_ (h : Re w g A c l p e) (x : Int) : Re (w.setCell ⟨g, 3, none⟩ (.int .i64 x)) g A c l p x := by
  have hne := h.ne
  refine ⟨h.bk.set_ 3 _, ?_, h.ne, fun a ha => by have := h.lt a ha; simpa [World.setCell] using this, h.le, h.cap, h.room, h.reach⟩
  refine h.rd.ch (ks := [g]) ((Ch.refl [g] w).setCell (by simp) _) (fun a ha => by simpa using hne a ha)
theorem drewN (h : Re w g A c l p e) (n : Nat) : Re (w.drewN n) g A c l p e := ⟨h.bk, h.rd, h.ne, h.lt, h.le, h.cap, h.room, h.reach⟩
end Re
end Go.Proofs.Ytocgcalaiejbiaa

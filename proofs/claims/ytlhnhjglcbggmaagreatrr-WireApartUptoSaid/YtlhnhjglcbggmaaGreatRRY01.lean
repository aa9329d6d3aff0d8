/-
  Words for memory that the other texts of this claim use: what a call may change (Eff), a block known whole (Bk), a slice that reads as a list (Rd), an append onto a row of the call's own. No condition: each is a lemma over any program.
  What each call of a codec Writer does: bytes are laid down behind those that are there. Condition: the Writer was made by NewWriter (Wr), no fault is set, and at most 2^46 bytes are laid down.
-/
import Derived.WalkKit
import Derived.WalkSpells
import Derived.WalkLawsBesides
import Derived.KernelRfl
import Derived.Handy
import Derived.Lib.Hide
import Derived.Maps.AppendAt
import Derived.Deep.Draws
import Derived.Deep.AppendSrc
import Derived.Test.YtlhnhjglcbggmaaGreatRRProg
namespace Go.Proofs.YtlhnhjglcbggmaaGreatRR
set_option linter.unusedSimpArgs false
set_option linter.unusedVariables false
open Go.RowKit

/-- 2^46: more bytes are laid down nowhere -/
def room46 : Nat := 70368744177664
def two64 : Nat := 18446744073709551616

theorem or128_256 : ∀ a, a < 256 → a ||| 128 = a % 128 + 128 := by decide +kernel
theorem or128 (m : Nat) : bits .or .u8 ((m : Int) % 256) 128 = ((UInt8.ofNat (m % 128 + 128)).toNat : Int) := by
 have h := (bits_nat .u8 8 (by decide) wraps_u8 (m % 256) 128 (by omega) (by decide)).2
 have e : ((m : Int) % 256) = ((m % 256 : Nat) : Int) := by omega
 have e2 : ((m % 256 : Nat) ||| 128) = m % 128 + 128 := by rw [or128_256 _ (by omega)]; omega
 rw [e]
 refine h.trans ?_
 rw [e2]
 simp
 omega
theorem byte_of (m : Nat) : ((UInt8.ofNat m).toNat : Int) = (m : Int) % 256 := by simp

/-- bytes as cells -/
def bv (l : List UInt8) : List Value := l.map fun b => .int .u8 b.toNat
theorem bv_length (l : List UInt8) : (bv l).length = l.length := by simp [bv]
theorem bv_append (a b : List UInt8) : bv (a ++ b) = bv a ++ bv b := by simp [bv]
theorem bv_one (l : List UInt8) : ∀ u ∈ bv l, u.oneCell' = true := by
 intro u hu
 simp only [bv, List.mem_map] at hu
 obtain ⟨b, _, rfl⟩ := hu
 rfl
theorem bv_get (l : List UInt8) (j : Nat) : (bv l)[j]? = (l[j]?).map fun b => .int .u8 b.toNat := by simp [bv]
theorem bv_inj {a b : List UInt8} (h : bv a = bv b) : a = b := by
 induction a generalizing b with
 | nil => cases b with
  | nil => rfl
  | cons y b => simp [bv] at h
 | cons x a ih => cases b with
  | nil => simp [bv] at h
  | cons y b =>
   simp only [bv, List.map_cons, List.cons.injEq, Value.int.injEq, true_and] at h
   obtain ⟨h1, h2⟩ := h
   have hxy : x = y := UInt8.toNat_inj.1 (by omega)
   rw [hxy, ih h2]

/-- What a call may have changed: of the blocks that were there, below B nothing, and from B on only rows of the element types ts. -/
structure Eff (B : Nat) (ts : List TypeId) (w w' : World) : Prop where
 os : w'.os = w.os
 tape : w'.tape = w.tape
 output : w'.output = w.output
 size : w.heap.size ≤ w'.heap.size
 block : ∀ k, k < w.heap.size → (k < B ∨ ∀ c t f, w.heap[k]? = some (.cells c t f) → t ∉ ts) → w'.heap[k]? = w.heap[k]?

namespace Eff
variable {B : Nat} {ts : List TypeId} {w w' w'' : World}
theorem refl (B : Nat) (ts : List TypeId) (w : World) : Eff B ts w w := ⟨rfl, rfl, rfl, Nat.le_refl _, fun _ _ _ => rfl⟩
theorem trans (h : Eff B ts w w') (k : Eff B ts w' w'') : Eff B ts w w'' :=
 ⟨k.os.trans h.os, k.tape.trans h.tape, k.output.trans h.output, Nat.le_trans h.size k.size, fun i hi hc => by
  have h1 := h.block i hi hc
  refine (k.block i (Nat.lt_of_lt_of_le hi h.size) ?_).trans h1
  rcases hc with hc | hc
  ·exact .inl hc
  ·exact .inr fun c t f hh => hc c t f (by rw [← h1]; exact hh)⟩
theorem mono {B' : Nat} {ts' : List TypeId} (h : Eff B ts w w') (hB : B' ≤ B) (ht : ∀ t, t ∈ ts → t ∈ ts') : Eff B' ts' w w' :=
 ⟨h.os, h.tape, h.output, h.size, fun k hk hc => h.block k hk (by
  rcases hc with hc | hc
  ·exact .inl (by omega)
  ·exact .inr fun c t f hh hm => hc c t f hh (ht t hm))⟩
theorem of_below (h : Below w.heap.size w w') (B : Nat) (ts : List TypeId) : Eff B ts w w' := ⟨h.os, h.tape, h.output, h.size, fun k hk _ => h.block k hk⟩
/-- what changes rows from block B on alone leaves whatever lay below -/
theorem below (h : Eff B ts w w') (hB : w.heap.size ≤ B) : Below w.heap.size w w' := ⟨h.os, h.tape, h.output, h.size, fun k hk => h.block k hk (.inl (by omega))⟩
theorem belowB (h : Eff B ts w w') (hB : B ≤ w.heap.size) : Below B w w' := ⟨h.os, h.tape, h.output, h.size, fun k hk => h.block k (by omega) (.inl hk)⟩
theorem to {B0 : Nat} (h : Eff B ts w w') (h0 : B0 ≤ B) (hB : B ≤ w.heap.size) : Below B0 w w' := (h.belowB hB).mono h0
theorem alloc (w : World) (o : Obj) : Eff B ts w (w.alloc o) := of_below ((Below.refl _ _).alloc (Nat.le_refl _) o) B ts
theorem drew (w : World) : Eff B ts w w.drew := ⟨rfl, rfl, rfl, Nat.le_refl _, fun _ _ _ => rfl⟩
theorem drewN (w : World) (n : Nat) : Eff B ts w (w.drewN n) := ⟨rfl, rfl, rfl, Nat.le_refl _, fun _ _ _ => rfl⟩
theorem setCell {g : Nat} {c : Array Value} {t : TypeId} {f : Nat × Nat} (hb : w.heap[g]? = some (.cells c t f)) (hB : B ≤ g) (ht : t ∈ ts) (i : Nat) (v : Value) : Eff B ts w (w.setCell ⟨g, i, none⟩ v) :=
 ⟨rfl, rfl, rfl, by simp [World.setCell], fun k hk hc => Below.heap_setCell _ _ _ _ (by
  intro hkg
  subst hkg
  rcases hc with hc | hc
  ·exact absurd hc (Nat.not_lt.2 hB)
  ·exact hc _ _ _ hb ht)⟩
theorem grown {row : Option Nat} (hg : w.grownBy w' row) (hr : ∀ k, row = some k → B ≤ k ∧ ∃ c t f, w.heap[k]? = some (.cells c t f) ∧ t ∈ ts) : Eff B ts w w' :=
 ⟨hg.os, hg.tape, hg.output, hg.size, fun k hk hc => hg.block k hk (fun e => by
  obtain ⟨h1, c, t, f, h2, h3⟩ := hr k e.symm
  rcases hc with hc | hc
  ·omega
  ·exact hc _ _ _ h2 h3)⟩
end Eff

/-- Block g is just these cells, of that element type, none frozen. -/
def Bk (w : World) (g : Nat) (cs : Array Value) (t : TypeId) : Prop := w.heap[g]? = some (.cells cs t (0, 0))
namespace Bk
variable {w w' : World} {g : Nat} {t : TypeId} {cs : Array Value}
theorem lt (h : Bk w g cs t) : g < w.heap.size := (Array.getElem?_eq_some_iff.1 h).1
theorem cell (h : Bk w g cs t) (i : Nat) : w.cell? ⟨g, i, none⟩ = cs[i]? := cell_of_row w g i cs t (0, 0) h
theorem frozen (h : Bk w g cs t) (i : Nat) : w.frozen? ⟨g, i, none⟩ = false := by
 unfold Bk at h
 simp [World.frozen?, h]
theorem new (w : World) (t : TypeId) (cs : Array Value) : Bk (w.alloc (.cells cs t)) w.heap.size cs t := heap_alloc_new w _
theorem drew (h : Bk w g cs t) : Bk w.drew g cs t := h
theorem alloc (h : Bk w g cs t) (o : Obj) : Bk (w.alloc o) g cs t := (Below.heap_alloc w o g h.lt).trans h
theorem set_ (h : Bk w g cs t) (i : Nat) (u : Value) : Bk (w.setCell ⟨g, i, none⟩ u) g (cs.setIfInBounds i u) t := by
 unfold Bk at h ⊢
 simp [World.setCell, Array.getElem?_modify, h]
theorem far (h : Bk w g cs t) {p : Addr} (hp : g ≠ p.block) (u : Value) : Bk (w.setCell p u) g cs t := (Below.heap_setCell w p u g hp).trans h
theorem eff {B : Nat} {ts : List TypeId} (h : Bk w g cs t) (e : Eff B ts w w') (hc : g < B ∨ t ∉ ts) : Bk w' g cs t :=
 (e.block g h.lt (hc.imp id fun ht c t' f hh => by
  have h2 : some (Obj.cells cs t (0, 0)) = some (.cells c t' f) := h.symm.trans hh
  injection h2 with h2
  injection h2 with _ h3 _
  rw [← h3]; exact ht)).trans h
theorem effT {B : Nat} {ts : List TypeId} (h : Bk w g cs t) (e : Eff B ts w w') (hc : t ∉ ts) : Bk w' g cs t := h.eff e (.inr hc)
theorem below {B : Nat} (h : Bk w g cs t) (hb : Below B w w') (hg : g < B) : Bk w' g cs t := (hb.block g hg).trans h
theorem grown {row : Option Nat} (h : Bk w g cs t) (hb : w.grownBy w' row) (hg : some g ≠ row) : Bk w' g cs t := (hb.block g h.lt hg).trans h
theorem ne_ {g' : Nat} {t' : TypeId} {cs' : Array Value} (h : Bk w g cs t) (h' : Bk w g' cs' t') (hne : t ≠ t') : g ≠ g' := by
 rintro rfl
 unfold Bk at h h'
 rw [h] at h'
 injection h' with h'
 injection h' with _ ht
 exact hne ht
end Bk

theorem own_ne_bk {w : World} {base : Nat} {e : TypeId} {size n : Nat} {v : Value} {xs : List Value} {g : Nat} {t : TypeId} {cs : Array Value} (h : w.ownsRow base e size v n xs) (hg : Bk w g cs t) (hne : e ≠ t) : v.ownBlock ≠ some g := by
 rcases h.2 with ⟨rfl, _⟩ | ⟨g', cap, cur, rfl, _, hh, _⟩
 ·simp [Value.ownBlock]
 ·intro he
  have : g' = g := by simpa [Value.ownBlock] using he
  subst this
  exact Bk.ne_ (t := e) hh hg hne rfl
theorem own_row {w : World} {base : Nat} {e : TypeId} {size n : Nat} {v : Value} {xs : List Value} (h : w.ownsRow base e size v n xs) : ∀ k, v.ownBlock = some k → base ≤ k ∧ ∃ c t f, w.heap[k]? = some (.cells c t f) ∧ t ∈ [e] := by
 intro k hk
 rcases h.2 with ⟨rfl, _⟩ | ⟨g', cap, cur, rfl, hb, hh, _⟩
 ·simp [Value.ownBlock] at hk
 ·simp [Value.ownBlock] at hk
  subst hk
  exact ⟨hb, _, _, _, hh, by simp⟩
theorem own_form {w : World} {base : Nat} {e : TypeId} {size n : Nat} {v : Value} {xs : List Value} (h : w.ownsRow base e size v n xs) : ∃ A c, v = .slice A n c := by
 rcases h.2 with ⟨rfl, rfl⟩ | ⟨g', cap, cur, rfl, _⟩
 ·exact ⟨_, _, rfl⟩
 ·exact ⟨_, _, rfl⟩
theorem own_below {w w' : World} {base : Nat} {e : TypeId} {size n : Nat} {v : Value} {xs : List Value} (h : w.ownsRow base e size v n xs) (he : Below w.heap.size w w') : w'.ownsRow base e size v n xs := by
 refine ⟨h.1, h.2.imp id ?_⟩
 rintro ⟨g, cap, cur, hv, hb, hg, rest⟩
 exact ⟨g, cap, cur, hv, hb, (he.block g (Array.getElem?_eq_some_iff.1 hg).1).trans hg, rest⟩

/-- The cells from address A on read as xs (no address is wanted where xs is empty). -/
def Rd (w : World) (A : Option Addr) (xs : List Value) : Prop := ∀ j u, xs[j]? = some u → ∃ ad, A = some ad ∧ w.cell? (ad.add j) = some u
theorem Rd.nil (w : World) (A : Option Addr) : Rd w A [] := fun j u h => by simp at h
theorem Rd.at_ {w : World} {A : Option Addr} {xs : List Value} (h : Rd w A xs) {j : Nat} (hj : j < xs.length) : ∃ ad, A = some ad ∧ w.cell? (ad.add j) = some xs[j] := h j _ (List.getElem?_eq_getElem hj)
theorem Rd.of_cells {w w' : World} {A : Option Addr} {xs : List Value} (h : Rd w A xs) (hk : ∀ ad j, A = some ad → w.cell? (ad.add j) ≠ none → w'.cell? (ad.add j) = w.cell? (ad.add j)) : Rd w' A xs := fun j u hu => by
 obtain ⟨ad, ha, hc⟩ := h j u hu
 exact ⟨ad, ha, (hk ad j ha (by rw [hc]; simp)).trans hc⟩
theorem add_block (a : Addr) (n : Nat) : (a.add n).block = a.block := by unfold Addr.add; split <;> rfl
theorem Rd.below {w w' : World} {A : Option Addr} {xs : List Value} (h : Rd w A xs) (hb : Below w.heap.size w w') : Rd w' A xs := h.of_cells fun ad j _ hn => by
 refine hb.cell ?_
 rw [add_block]
 rcases Nat.lt_or_ge ad.block w.heap.size with hl | hl
 ·exact hl
 ·exact absurd (by simp [World.cell?, add_block, Array.getElem?_eq_none hl]) hn
theorem Rd.alloc {w : World} {A : Option Addr} {xs : List Value} (h : Rd w A xs) (o : Obj) : Rd (w.alloc o) A xs := h.below ((Below.refl _ _).alloc (Nat.le_refl _) o)
theorem Rd.of_bk {w : World} {g : Nat} {cs : Array Value} {t : TypeId} (h : Bk w g cs t) (o : Nat) (xs : List Value) (hx : ∀ j u, xs[j]? = some u → cs[o + j]? = some u) : Rd w (some ⟨g, o, none⟩) xs := fun j u hu => by
 refine ⟨_, rfl, ?_⟩
 have e : (⟨g, o, none⟩ : Addr).add j = ⟨g, o + j, none⟩ := by unfold Addr.add; split <;> simp_all
 rw [e, h.cell]
 exact hx j u hu
theorem Rd.of_own {w : World} {base : Nat} {e : TypeId} {size n c : Nat} {A : Option Addr} {xs : List Value} (h : w.ownsRow base e size (.slice A n c) n xs) : Rd w A xs := fun j u hu => by
 rcases h.2 with ⟨hv, hn⟩ | ⟨g, cap, cur, hv, hrest⟩
 ·have := h.1
  rw [hn] at this
  have hx : xs = [] := List.eq_nil_of_length_eq_zero (by simpa using this)
  subst hx; simp at hu
 ·injection hv with hA _ _
  subst hA
  exact ⟨_, rfl, h.cells (g := g) rfl j u hu⟩

section
variable {P : Program} (w : World)
/-- append onto a row of the call's own, whatever the source: nil, empty or not. -/
theorem run_append_rd (base : Nat) (t ty e : TypeId) (i : TypeInfo) (z : Value) (size bytes : Nat) (ht : P.underlying t = some (.slice e)) (hi : P.info? e = some i) (hz : i.zero = some z)
  (hsize : i.size = size) (hby : i.bytes = bytes) (hzs : z.cells.size = size) (hsz : 0 < size)
  (v : Value) (n : Nat) (xs : List Value) (hown : w.ownsRow base e size v n xs)
  (A : Option Addr) (m c : Nat) (news : List Value) (hl : news.length = m * size) (hr : Rd w A news) (h1 : ∀ u ∈ news, u.oneCell' = true)
  (h63 : n + m ≤ maxLen) (hbytes : (n + m) * bytes ≤ 140737488355328) (hbase : base ≤ w.heap.size) :
  ∃ v' w', (Builtin.append_ #[t, t] ty #[v, .slice A m c]).run P w = .ok v' w' ∧ w'.ownsRow base e size v' (n + m) (xs ++ news) ∧ w.grownBy w' v.ownBlock ∧
   (v'.ownBlock = v.ownBlock ∨ v'.ownBlock = some w.heap.size) := by
 rcases A with _ | ad
 ·have hn : news = [] := by
   cases hnews : news with
   | nil => rfl
   | cons u l =>
    obtain ⟨ad, ha, _⟩ := hr 0 u (by rw [hnews]; rfl)
    cases ha
  subst hn
  have hm : m = 0 := by
   rcases Nat.eq_zero_or_pos m with h0 | h0
   ·exact h0
   ·have := Nat.mul_pos h0 hsz
    simp at hl; omega
  subst hm
  refine ⟨v, w, ?_, by simpa using hown, World.grownBy.refl w _, .inl rfl⟩
  rcases hown.2 with ⟨rfl, rfl⟩ | ⟨g, cap, cur, rfl, _, _, hnc, _⟩
  ·simp [Builtin.append_, run_underlying ht, sizeOf, typeInfo, hi, Builtin.lenOf, Builtin.firstCells]
  ·simp [Builtin.append_, run_underlying ht, sizeOf, typeInfo, hi, Builtin.lenOf, Builtin.firstCells, hnc, storeCells]
 ·have hcells : ∀ j u, news[j]? = some u → w.cell? (ad.add j) = some u := by
   intro j u hu
   obtain ⟨ad', h, hc⟩ := hr j u hu
   injection h with h
   subst h
   exact hc
  obtain ⟨v', w', hrun, h2, h3, _, h5⟩ := run_append_own_at (P := P) w base t ty e i z size bytes ht hi hz hsize hby hzs hsz v n xs hown ad m c news hl hcells h1 h63 hbytes hbase
  exact ⟨v', w', hrun, h2, h3, h5⟩

theorem wp_append_rd {o : Oper} {a : Act} {K : Act → World → Prop} {Q : Exit → Act → World → Prop} (s x : Operand) (t : TypeId)
  (ho : o.op = .call { callee := .builtin .append, args := #[s, x], argTypes := #[t, t] })
  (base : Nat) (e : TypeId) (i : TypeInfo) (z : Value) (size bytes : Nat) (ht : P.underlying t = some (.slice e)) (hi : P.info? e = some i) (hz : i.zero = some z)
  (hsize : i.size = size) (hby : i.bytes = bytes) (hzs : z.cells.size = size) (hsz : 0 < size)
  (v : Value) (n : Nat) (xs : List Value) (hs : a.eval s = v) (hown : w.ownsRow base e size v n xs)
  (A : Option Addr) (m c : Nat) (news : List Value) (hx : a.eval x = .slice A m c) (hl : news.length = m * size) (hr : Rd w A news) (h1 : ∀ u ∈ news, u.oneCell' = true)
  (h63 : n + m ≤ maxLen) (hbytes : (n + m) * bytes ≤ 140737488355328) (hbase : base ≤ w.heap.size)
  (h : ∀ A' c' w', w'.ownsRow base e size (.slice A' (n + m) c') (n + m) (xs ++ news) → w.grownBy w' v.ownBlock → ((Value.slice A' (n + m) c').ownBlock = v.ownBlock ∨ (Value.slice A' (n + m) c').ownBlock = some w.heap.size) → K (a.put o.dst (.slice A' (n + m) c')) w') : o.wp P a w K Q := by
 obtain ⟨v', w', hrun, h2, h3, h4⟩ := run_append_rd (P := P) w base t o.type e i z size bytes ht hi hz hsize hby hzs hsz v n xs hown A m c news hl hr h1 h63 hbytes hbase
 unfold Oper.wp execOp
 simp only [ho, resolve, invoke, builtin, Sem.run_bind, Sem.run_pure, Result.andThen_ok, List.map_toArray, List.map_cons, List.map_nil, hs, hx, hrun]
 obtain ⟨A', c', rfl⟩ := own_form h2
 exact h A' c' w' h2 h3 h4

theorem wpList_append_rd {ops : Array Oper} {rest : List Oper} {o : Oper} {a : Act} {Q : Exit → Act → World → Prop} (hgd : o.guard = none) (s x : Operand) (t : TypeId)
  (ho : o.op = .call { callee := .builtin .append, args := #[s, x], argTypes := #[t, t] })
  (base : Nat) (e : TypeId) (i : TypeInfo) (z : Value) (size bytes : Nat) (ht : P.underlying t = some (.slice e)) (hi : P.info? e = some i) (hz : i.zero = some z)
  (hsize : i.size = size) (hby : i.bytes = bytes) (hzs : z.cells.size = size) (hsz : 0 < size)
  (v : Value) (n : Nat) (xs : List Value) (hs : a.eval s = v) (hown : w.ownsRow base e size v n xs)
  (A : Option Addr) (m c : Nat) (news : List Value) (hx : a.eval x = .slice A m c) (hl : news.length = m * size) (hr : Rd w A news) (h1 : ∀ u ∈ news, u.oneCell' = true)
  (h63 : n + m ≤ maxLen) (hbytes : (n + m) * bytes ≤ 140737488355328) (hbase : base ≤ w.heap.size)
  (h : ∀ A' c' w', w'.ownsRow base e size (.slice A' (n + m) c') (n + m) (xs ++ news) → w.grownBy w' v.ownBlock → ((Value.slice A' (n + m) c').ownBlock = v.ownBlock ∨ (Value.slice A' (n + m) c').ownBlock = some w.heap.size) → wpList P ops Q rest (a.put o.dst (.slice A' (n + m) c')) w') : wpList P ops Q (o :: rest) a w :=
 wpList_plain hgd fun _ hK => wp_append_rd w s x t ho base e i z size bytes ht hi hz hsize hby hzs hsz v n xs hs hown A m c news hx hl hr h1 h63 hbytes hbase fun A' c' w' h2 h3 h4 => hK _ _ (h A' c' w' h2 h3 h4)
end

section
variable {P : Program} (w : World)
/-- append onto a row of the call's own, whatever the source -/
theorem run_append_src (base : Nat) (t tx ty e : TypeId) (i : TypeInfo) (z : Value) (size bytes : Nat) (ht : P.underlying t = some (.slice e)) (hi : P.info? e = some i) (hz : i.zero = some z)
  (hsize : i.size = size) (hby : i.bytes = bytes) (hzs : z.cells.size = size) (hsz : 0 < size)
  (v : Value) (n : Nat) (xs : List Value) (hown : w.ownsRow base e size v n xs)
  (x : Value) (m : Nat) (news : List Value) (hs : Src P size tx x m news w)
  (h63 : n + m ≤ maxLen) (hbytes : (n + m) * bytes ≤ 140737488355328) (hbase : base ≤ w.heap.size) :
  ∃ v' w', (Builtin.append_ #[t, tx] ty #[v, x]).run P w = .ok v' w' ∧ w'.ownsRow base e size v' (n + m) (xs ++ news) ∧ w.grownBy w' v.ownBlock ∧
   (v'.ownBlock = v.ownBlock ∨ v'.ownBlock = some w.heap.size) := by
 subst hsize
 subst hby
 have hsmall : n + m ≤ 9223372036854775807 := by simp only [maxLen] at h63; omega
 have hl := hs.newsLen
 have hlen : (xs ++ news).length = (n + m) * i.size := by rw [List.length_append, hown.1, hl, Nat.add_mul]
 have grown : ∀ (old : Nat), old < n + m → ∀ (row : Option Nat),
   (w.drew.alloc (.cells ((xs ++ news).toArray ++ Builtin.zeroCells z.cells (grownCap w (n + m) old e - (n + m))) e)).ownsRow base e i.size
    (.slice (some ⟨w.heap.size, 0, none⟩) (n + m) (grownCap w (n + m) old e)) (n + m) (xs ++ news) ∧
   w.grownBy (w.drew.alloc (.cells ((xs ++ news).toArray ++ Builtin.zeroCells z.cells (grownCap w (n + m) old e - (n + m))) e)) row := by
  intro old ho row
  have hge := grownCap_ge w (n + m) old e
  have hcm : grownCap w (n + m) old e ≤ maxLen := grownCap_le_maxLen w (n + m) old e h63
  refine ⟨⟨hlen, .inr ⟨w.heap.size, _, _, rfl, hbase, heap_alloc_new w.drew _, hge, hcm, ?_, ?_⟩⟩, ⟨rfl, rfl, rfl, by simp, fun k hk _ => Go.heap_alloc_old w.drew _ hk⟩⟩
  ·simp only [Array.size_append, List.size_toArray, size_zeroCells, hzs, hlen, ← Nat.add_mul]
   congr 1
   omega
  ·simp only [Array.toList_append]
   rw [← hlen]
   exact List.take_left
 rcases hown.2 with ⟨rfl, rfl⟩ | ⟨g, cap, cur, rfl, hbg, hg, hnc, hcm, hcs, htake⟩
 ·have hx : xs = [] := List.eq_nil_of_length_eq_zero (by simpa using hown.1)
  subst hx
  by_cases hm : m = 0
  ·subst hm
   have hn : news = [] := List.eq_nil_of_length_eq_zero (by simpa using hl)
   subst hn
   refine ⟨.slice none 0 0, w, ?_, World.ownsRow_nil w base e i.size, World.grownBy.refl w _, Or.inl rfl⟩
   rcases hs.kind with ⟨e', hk⟩ | hk <;> simp [Builtin.append_, run_underlying ht, run_underlying hk, sizeOf, typeInfo, hi, hs.len, hs.cells]
  ·have hr := run_append_grow_src (P := P) w t tx ty e i z ht hi hz none 0 0 [] (run_firstCells_none w.drew i.size 0 0 0) x m news hs (by omega) (by omega) (growslice_fits (by omega) hbytes)
   have hgr := grown 0 (by omega) (Value.ownBlock (.slice none 0 0))
   exact ⟨_, _, hr, hgr.1, hgr.2, Or.inr rfl⟩
 ·by_cases hroom : n + m ≤ cap
  ·have hfit : n * i.size + news.length ≤ cur.size := by rw [hl, hcs, ← Nat.add_mul]; exact Nat.mul_le_mul_right _ hroom
   have hst := run_storeCells_at P g (n * i.size) e news 0 cur w hg (by simpa using hfit) hs.one
   simp only [Nat.add_zero] at hst
   have hr : (Builtin.append_ #[t, tx] ty #[.slice (some ⟨g, 0, none⟩) n cap, x]).run P w = .ok (.slice (some ⟨g, 0, none⟩) (n + m) cap) (w.setRow g (cur.toList.take (n * i.size) ++ news ++ cur.toList.drop (n * i.size + news.length)).toArray) := by
    rcases hs.kind with ⟨e', hk⟩ | hk <;> simp [Builtin.append_, run_underlying ht, run_underlying hk, sizeOf, typeInfo, hi, hs.len, hroom, hs.cells, Addr.add_lit, hst]
   refine ⟨_, _, hr, ⟨hlen, .inr ⟨g, cap, _, rfl, hbg, setRow_heap w g cur _ e _ hg, hroom, hcm, ?_, ?_⟩⟩, ⟨rfl, rfl, rfl, by simp, fun k _ hk => setRow_other w g k _ (fun e => hk (by simp [Value.ownBlock, e]))⟩, Or.inl rfl⟩
   ·simp only [List.size_toArray, List.length_append, List.length_take, List.length_drop, Array.length_toList]
    omega
   ·rw [htake, ← hlen]
    exact List.take_left
  ·have holds : ∀ j u, xs[j]? = some u → w.cell? ((⟨g, 0, none⟩ : Addr).add j) = some u := hown.cells (g := g) rfl
   have hr := run_append_grow_src (P := P) w t tx ty e i z ht hi hz (some ⟨g, 0, none⟩) n cap xs (run_firstCells_some w.drew i.size n ⟨g, 0, none⟩ n cap xs hown.1 (by simpa using holds)) x m news hs (by omega) (by omega) (growslice_fits (by omega) hbytes)
   have hgr := grown cap (by omega) (Value.ownBlock (.slice (some ⟨g, 0, none⟩) n cap))
   exact ⟨_, _, hr, hgr.1, hgr.2, Or.inr rfl⟩

theorem wpList_append_src {ops : Array Oper} {rest : List Oper} {o : Oper} {a : Act} {Q : Exit → Act → World → Prop} (hgd : o.guard = none) (s x : Operand) (t tx : TypeId)
  (ho : o.op = .call { callee := .builtin .append, args := #[s, x], argTypes := #[t, tx] })
  (base : Nat) (e : TypeId) (i : TypeInfo) (z : Value) (size bytes : Nat) (ht : P.underlying t = some (.slice e)) (hi : P.info? e = some i) (hz : i.zero = some z)
  (hsize : i.size = size) (hby : i.bytes = bytes) (hzs : z.cells.size = size) (hsz : 0 < size)
  (v : Value) (n : Nat) (xs : List Value) (hs : a.eval s = v) (hown : w.ownsRow base e size v n xs)
  (xv : Value) (m : Nat) (news : List Value) (hx : a.eval x = xv) (hsrc : Src P size tx xv m news w)
  (h63 : n + m ≤ maxLen) (hbytes : (n + m) * bytes ≤ 140737488355328) (hbase : base ≤ w.heap.size)
  (h : ∀ A' c' w', w'.ownsRow base e size (.slice A' (n + m) c') (n + m) (xs ++ news) → w.grownBy w' v.ownBlock → ((Value.slice A' (n + m) c').ownBlock = v.ownBlock ∨ (Value.slice A' (n + m) c').ownBlock = some w.heap.size) → wpList P ops Q rest (a.put o.dst (.slice A' (n + m) c')) w') : wpList P ops Q (o :: rest) a w := by
 refine wpList_plain hgd fun K hK => ?_
 obtain ⟨v', w', hrun, h2, h3, h4⟩ := run_append_src (P := P) w base t tx o.type e i z size bytes ht hi hz hsize hby hzs hsz v n xs hown xv m news hsrc h63 hbytes hbase
 unfold Oper.wp execOp
 simp only [ho, resolve, invoke, builtin, Sem.run_bind, Sem.run_pure, Result.andThen_ok, List.map_toArray, List.map_cons, List.map_nil, hs, hx, hrun]
 obtain ⟨A', c', rfl⟩ := own_form h2
 exact hK _ _ (h A' c' w' h2 h3 h4)
end
end Go.Proofs.YtlhnhjglcbggmaaGreatRR
namespace Go.Proofs.YtlhnhjglcbggmaaGreatRR
set_option linter.unusedSimpArgs false
set_option linter.unusedVariables false
open Go.RowKit

theorem info_u8 : (Tryz.prog.info? 5).map (fun i => (i.zero, i.size, i.bytes)) = some (some (.int .u8 0), 1, 1) := by kernel_rfl

/-- a Writer in block g, made from block B on, that holds these bytes and no fault -/
def Wr (w : World) (B g : Nat) (bs : List UInt8) : Prop :=
 ∃ sl, Bk w g #[.bool true, sl, .int .i64 0] 213 ∧ B ≤ g ∧ w.ownsRow B 5 1 sl bs.length (bv bs)
/-- what a Writer's calls may change -/
abbrev WrT : List TypeId := [5, 213]

/-- a number in as few bytes as it needs, the lowest seven bits first -/
def varB (n : Nat) : List UInt8 := if n < 128 then [UInt8.ofNat n] else UInt8.ofNat (n % 128 + 128) :: varB (n / 128)
termination_by n
decreasing_by omega

theorem varB_small {n : Nat} (h : n < 128) : varB n = [UInt8.ofNat n] := by unfold varB; rw [if_pos h]
theorem varB_big {n : Nat} (h : 128 ≤ n) : varB n = UInt8.ofNat (n % 128 + 128) :: varB (n / 128) := by
 conv => lhs; unfold varB
 rw [if_neg (by omega)]
theorem varB_pos (n : Nat) : 1 ≤ (varB n).length := by
 by_cases h : n < 128
 ·rw [varB_small h]; simp
 ·rw [varB_big (by omega)]; simp
theorem varB_len (k : Nat) : ∀ n, n < 128 ^ k → (varB n).length ≤ k + 0 ∨ n = 0 := by
 induction k with
 | zero => intro n h; right; simp at h; omega
 | succ k ih =>
  intro n h
  by_cases hn : n < 128
  ·left; rw [varB_small hn]; simp
  ·rw [varB_big (by omega)]
   rcases ih (n / 128) (by rw [Nat.pow_succ] at h; omega) with h' | h'
   ·left; simp; omega
   ·omega
theorem varB_ten {n : Nat} (h : n < two64) : (varB n).length ≤ 10 := by
 rcases varB_len 10 n (by unfold two64 at h; simp; omega) with h' | h'
 ·exact h'
 ·subst h'; rw [varB_small (by omega)]; simp

theorem Wr.lt {w : World} {B g : Nat} {bs : List UInt8} (h : Wr w B g bs) : g < w.heap.size := by obtain ⟨sl, hb, _⟩ := h; exact hb.lt
theorem Wr.below {w w' : World} {B g : Nat} {bs : List UInt8} (h : Wr w B g bs) (e : Below w.heap.size w w') : Wr w' B g bs := by
 obtain ⟨sl, hb, hB, ho⟩ := h
 exact ⟨sl, hb.below e hb.lt, hB, own_below ho e⟩
theorem Wr.alloc {w : World} {B g : Nat} {bs : List UInt8} (h : Wr w B g bs) (o : Obj) : Wr (w.alloc o) B g bs := h.below ((Below.refl _ _).alloc (Nat.le_refl _) o)
theorem Wr.drew {w : World} {B g : Nat} {bs : List UInt8} (h : Wr w B g bs) : Wr w.drew B g bs := h

set_option maxHeartbeats 400000 in
theorem live_any (w : World) (B g : Nat) (bs : List UInt8) (h : Wr w B g bs) :
  Calls Tryz.prog 143 #[.pointer (some ⟨g, 0, none⟩)] w fun e w' => e = .returned (.bool true) ∧ w = w' := by
 obtain ⟨sl, hb, hB, ho⟩ := h
 have c0 := hb.cell 0
 have c2 := hb.cell 2
 simp at c0 c2
 go_enter Tryz.func143, Tryz.ntmps143
 go_wp2
 go_ret
 exact ⟨rfl, rfl⟩

set_option maxHeartbeats 400000 in
theorem put_any (w : World) (B g : Nat) (bs news : List UInt8) (A : Option Addr) (n c : Nat) (h : Wr w B g bs) (hr : Rd w A (bv news)) (hn : news.length = n) (hb : bs.length + n ≤ room46) :
  Calls Tryz.prog 97 #[.pointer (some ⟨g, 0, none⟩), .slice A n c] w fun e w' => e = .returned (.tuple #[]) ∧ Wr w' B g (bs ++ news) ∧ Eff B WrT w w' := by
 have h0 := h
 subst hn
 obtain ⟨sl, hk, hB, ho⟩ := h
 obtain ⟨i0, hi, hz0, hz1, hz2⟩ := info_parts info_u8
 have c1 := hk.cell 1
 have f1 := hk.frozen 1
 simp at c1
 go_enter Tryz.func97, Tryz.ntmps97
 go_wp2_with (first
  | (go_at_call 143; refine (live_any _ B g bs h0).mono ?_; rintro e w' ⟨rfl, rfl⟩)
  | (at_builtin; refine wpList_append_rd _ rfl _ _ 66 rfl B 5 i0 (.int .u8 0) 1 1 Tryz.underlying66 hi hz0 hz1 hz2 rfl (by decide) _ _ _ rfl ho A _ c (bv news) rfl ?c1 hr (bv_one _) ?c2 ?c3 ?c4 ?_))
 case c1 => rw [bv_length, Nat.mul_one]
 case c2 => unfold room46 at hb; unfold maxLen; omega
 case c3 => unfold room46 at hb; omega
 case c4 => have := hk.lt; omega
 intro A' c' w1 hown1 hg1 hblk
 have hk1 : Bk w1 g #[.bool true, sl, .int .i64 0] 213 := hk.grown hg1 (fun e => own_ne_bk ho hk (by decide) e.symm)
 have d1 := hk1.cell 1
 have e1 := hk1.frozen 1
 simp at d1
 clear hblk hi hz0 hz1 hz2 hr hb c1 f1
 go_wp2
 go_end0
 have hne := own_ne_bk hown1 hk1 (by decide)
 have hl : (bs ++ news).length = bs.length + news.length := by simp
 refine ⟨rfl, ⟨.slice A' (bs.length + news.length) c', ?_, hB, ?_⟩, ?_⟩
 ·have := hk1.set_ 1 (.slice A' (bs.length + news.length) c')
  simpa using this
 ·rw [hl, bv_append]
  exact ownsRow_setCell_other hown1 hne _
 ·exact (Eff.grown hg1 (fun k hk' => by
   obtain ⟨a1, cc, t, f, a2, a3⟩ := own_row ho k hk'
   exact ⟨a1, cc, t, f, a2, by simp at a3; simp [a3]⟩)).trans (Eff.setCell hk1 hB (by decide) 1 _)

/-- the row that a call's listed bytes lie in -/
theorem rd_lit (w : World) (cs : Array Value) (l : List UInt8) (h : cs.toList = bv l) : Rd (w.alloc (.cells cs 5)) (some ⟨w.heap.size, 0, none⟩) (bv l) :=
 Rd.of_bk (Bk.new w 5 cs) 0 _ (fun j u hu => by rw [← h] at hu; simpa using hu)

set_option maxHeartbeats 400000 in
theorem byte_any (w : World) (B g : Nat) (bs : List UInt8) (b : UInt8) (h : Wr w B g bs) (hb : bs.length + 1 ≤ room46) :
  Calls Tryz.prog 53 #[.pointer (some ⟨g, 0, none⟩), .int .u8 b.toNat] w fun e w' => e = .returned (.tuple #[]) ∧ Wr w' B g (bs ++ [b]) ∧ Eff B WrT w w' := by
 have hr := rd_lit w #[.int .u8 b.toNat] [b] rfl
 have h1 := h.alloc (.cells #[.int .u8 b.toNat] 5)
 go_enter Tryz.func53, Tryz.ntmps53
 go_wp2_with (go_at_call 97; go_must (refine (put_any _ B g bs [b] _ 1 1 h1 hr rfl hb).mono ?_); rintro e w' ⟨rfl, hw, he⟩)
 go_end0
 exact ⟨rfl, hw, (Eff.alloc _ _).trans he⟩

set_option maxHeartbeats 400000 in
theorem raw_any (w : World) (B g : Nat) (bs news : List UInt8) (A : Option Addr) (n c : Nat) (h : Wr w B g bs) (hr : Rd w A (bv news)) (hn : news.length = n) (hb : bs.length + n ≤ room46) :
  Calls Tryz.prog 77 #[.pointer (some ⟨g, 0, none⟩), .slice A n c] w fun e w' => e = .returned (.tuple #[]) ∧ Wr w' B g (bs ++ news) ∧ Eff B WrT w w' := by
 have Hn := Lib.hid hn; clear hn
 go_enter Tryz.func77, Tryz.ntmps77
 go_wp2_with (go_at_call 97; go_must (refine (put_any _ B g bs news A n c h hr Hn.out hb).mono ?_); rintro e w' ⟨rfl, hw, he⟩)
 go_end0
 exact ⟨rfl, hw, he⟩

set_option maxRecDepth 100000 in
set_option maxHeartbeats 400000 in
theorem var_any (w : World) (B g : Nat) (bs : List UInt8) (n : Nat) (h : Wr w B g bs) (hn : n < two64) (hb : bs.length + 10 ≤ room46) :
  Calls Tryz.prog 59 #[.pointer (some ⟨g, 0, none⟩), .int .u64 n] w fun e w' => e = .returned (.tuple #[]) ∧ Wr w' B g (bs ++ varB n) ∧ Eff B WrT w w' := by
 go_enter Tryz.func59, Tryz.ntmps59
 go_wp2
 go_loopw [1] (fun v wr => ∃ (m : Nat) (done : List UInt8), v = .int .u64 m ∧ m < two64 ∧ done ++ varB m = varB n ∧ Wr wr B g (bs ++ done) ∧ Eff B WrT w wr) (fun v _ => (intOf v).toNat)
 case atStart => exact ⟨n, [], rfl, hn, rfl, by simpa using h, Eff.refl _ _ _⟩
 case round =>
  obtain ⟨m, done, rfl, hm, hd, hw, he⟩ := hrel
  have Hd := Lib.hid hd; clear hd
  by_cases hc : 128 ≤ m
  ·have hr := rd_lit wr #[.int .u8 (bits .or .u8 ((m : Int) % 256) 128)] [UInt8.ofNat (m % 128 + 128)] (by rw [or128]; rfl)
   have h1 := hw.alloc (.cells #[.int .u8 (bits .or .u8 ((m : Int) % 256) 128)] 5)
   have hl : (bs ++ done).length + 1 ≤ room46 := by
    have h2 := congrArg List.length Hd.out
    have h3 := varB_ten hn
    have h4 := varB_pos m
    simp only [List.length_append] at h2 ⊢
    omega
   go_wp2_with (go_at_call 97; go_must (refine (put_any _ B g (bs ++ done) _ _ 1 1 h1 hr rfl hl).mono ?_); rintro e w' ⟨rfl, hw', he'⟩)
   refine ⟨⟨m / 128, done ++ [UInt8.ofNat (m % 128 + 128)], by go_num, by unfold two64 at *; omega, ?_, by rw [← List.append_assoc]; exact hw', he.trans ((Eff.alloc _ _).trans he')⟩, by simp [intOf]; omega⟩
   rw [List.append_assoc, ← Hd.out, varB_big hc]; rfl
  ·have hr := rd_lit wr #[.int .u8 (m : Int)] [UInt8.ofNat m] (by simp [bv]; omega)
   have h1 := hw.alloc (.cells #[.int .u8 (m : Int)] 5)
   have hl : (bs ++ done).length + 1 ≤ room46 := by
    have h2 := congrArg List.length Hd.out
    have h3 := varB_ten hn
    have h4 := varB_pos m
    simp only [List.length_append] at h2 ⊢
    omega
   go_wp2_with (go_at_call 97; go_must (refine (put_any _ B g (bs ++ done) _ _ 1 1 h1 hr rfl hl).mono ?_); rintro e w' ⟨rfl, hw', he'⟩)
   go_end0
   refine ⟨rfl, ?_, he.trans ((Eff.alloc _ _).trans he')⟩
   rw [← Hd.out, varB_small (by omega), ← List.append_assoc]; exact hw'
end Go.Proofs.YtlhnhjglcbggmaaGreatRR

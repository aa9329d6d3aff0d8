/-
  The reference's roots of lists of transfers and of evidence. Conditions: the list lies in memory; each number fits its kind; the table reads as it was laid.
  The law's certificates: as they are handed in, with marks in the room behind; are they kept? Conditions: each number fits its kind; the marks lie in the world.
  The law's certificates, further: are they kept, are they alike? Conditions: each number fits its kind; the marks lie in the world.
-/
import Derived.Test.YtnfffipkgaobhaaM23
import Derived.Test.YtnfffipkgaobhaaM17
namespace Go.Proofs.Ytnfffipkgaobhaa
set_option linter.unusedSimpArgs false
set_option linter.unusedVariables false
open Go.RowKit
set_option maxRecDepth 100000

theorem cell_keep {w w' : World} {p : Addr} {u : Value} (h : w.cell? p = some u) (hb : Below w.heap.size w w') : w'.cell? p = some u := by
  have hl : p.block < w.heap.size := by
    rcases Nat.lt_or_ge p.block w.heap.size with hl | hl
    · exact hl
    · have hn : w.cell? p = none := by simp [World.cell?, Array.getElem?_eq_none hl]
      rw [hn] at h; cases h
  exact (hb.cell hl).trans h
end Go.Proofs.Ytnfffipkgaobhaa
namespace Go.Proofs.Ytnfffipkgaobhaa
set_option linter.unusedSimpArgs false
set_option linter.unusedVariables false
open Go.RowKit
set_option maxRecDepth 100000

section
variable {P : Program}
theorem run_lit1 {t e : TypeId} {sz : Nat} {z : Value} {cs : Array Value} (ht : P.underlying t = some (.slice e)) (hi : (P.info? e).map (·.size) = some sz) (hz : (P.info? e).bind (·.zero) = some z) (hsz : 0 < sz) (h24 : sz ≤ 16777216) (hcs : cs.size = sz) (w : World) :
    (Instr.buildSlice t 1 #[(0, .agg cs)]).run P w = .ok (.slice (some ⟨w.heap.size, 0, none⟩) 1 1) (w.alloc (.cells cs e)) := by
  obtain ⟨M, hM, hMs⟩ : ∃ M : Array Value, (Array.range (1 * sz)).map (z.cells[· % z.cells.size]!) = M ∧ M.size = sz := ⟨_, rfl, by simp⟩
  have hf : Instr.fill (fun i => some (i * sz, sz)) M [(0, .agg cs)] = some cs := by
    have h := fill_cat sz [cs.toList] 0 [] M.toList (by intro p hp; rw [List.mem_singleton.1 hp]; simpa using hcs) (by simp) (by simp [hMs])
    simpa [partsAt] using h
  have h1 : ¬ (1 * sz > 2 ^ 24) := by omega
  have h2 : ¬ (1 * sz = 0) := by omega
  unfold Instr.buildSlice
  simp only [Sem.run_bind, run_underlying ht, Result.andThen_ok, run_sizeOf' hi, if_neg h1, if_neg h2, Sem.run_pure, run_zero hz, hM, hf]
  simp [newRow, go_sem]
theorem wpList_lit1 {ops : Array Oper} {rest : List Oper} {o : Oper} {a : Act} {w : World} {Q : Exit → Act → World → Prop} (hw : Region.wanted o (yielded ops a.tmps) = true) (t : TypeId) (x : Operand) (ho : o.op = .buildSlice t 1 #[(0, x)]) (cs : Array Value) (hx : a.eval x = .agg cs)
    (e : TypeId) (sz : Nat) (z : Value) (ht : P.underlying t = some (.slice e)) (hi : (P.info? e).map (·.size) = some sz) (hz : (P.info? e).bind (·.zero) = some z) (hsz : 0 < sz) (h24 : sz ≤ 16777216) (hcs : cs.size = sz)
    (h : wpList P ops Q rest (a.put o.dst (.slice (some ⟨w.heap.size, 0, none⟩) 1 1)) (w.alloc (.cells cs e))) : wpList P ops Q (o :: rest) a w := by
  refine wpList_want hw fun K hK => ?_
  unfold Oper.wp execOp
  simp only [ho, Sem.run_bind, Sem.run_pure, Result.andThen_ok, List.map_toArray, List.map_cons, List.map_nil, hx, run_lit1 ht hi hz hsz h24 hcs w]
  exact hK _ _ h
end
def tagMk (i : Nat) : List Value := [.int .i64 0, .int .u64 (7700 + (i : Int))] ++ bv (zer 16)
theorem built_tagMk (t : Int) : Try.prog.built 50 [(1, .int .u64 t)] = some ([Value.int .i64 0, .int .u64 t] ++ bv (zer 16)).toArray := by kernel_rfl
theorem tagMk_len (i : Nat) : (tagMk i).length = 18 := rfl
theorem tagMk_one (i : Nat) : ∀ u ∈ tagMk i, u.oneCell' = true := by
  intro u hu
  simp only [tagMk, List.mem_append, List.mem_cons, List.not_mem_nil, or_false] at hu
  rcases hu with (rfl | rfl) | hu
  · rfl
  · rfl
  · exact bv_one (zer 16) u (by simpa [Value.cells] using hu)
theorem mks_one (ms : List Mk) : ∀ u ∈ ms.flatMap Mk.cl, u.oneCell' = true := by
  intro u hu
  obtain ⟨m, _, hm⟩ := List.mem_flatMap.1 hu
  exact mk_one m u (by simpa [Value.cells] using hm)
theorem info_Mk3 : (Try.prog.info? 50).map (fun i => (i.zero, i.size, i.bytes)) = some (some (.agg zeroMk.toArray), 18, 32) := by kernel_rfl
def zeroCrtC : List Value := [.int .u64 0, .int .i64 0] ++ bv (zer 32) ++ [.slice none 0 0]
theorem zero_CrtC : (Try.prog.info? 30).bind (·.zero) = some (.agg zeroCrtC.toArray) := by kernel_rfl
theorem zeroCrtC_len : zeroCrtC.length = 35 := rfl
def tags (k : Nat) : List Value := (List.range k).flatMap tagMk
theorem tags_succ (k : Nat) : tags (k + 1) = tags k ++ tagMk k := by simp [tags, List.range_succ]
theorem crt_splice (x : Crt) (hx : x.ok) (A : Option Addr) (c : Nat) : splice x.cl.toArray 34 [.slice A x.n c] = ({ x with A := A, c := c } : Crt).cl.toArray := by
  have e : x.cl = ([.int .u64 x.height, .int .i64 x.round] ++ bv x.id) ++ ([.slice x.A x.n x.c] ++ []) := by simp [Crt.cl]
  rw [e, splice_mid (ys := [.slice x.A x.n x.c]) (ws := [.slice A x.n c]) (zs := []) (by simp [bv_length, hx.id]) rfl]
  simp [Crt.cl]
theorem crt_one (x : Crt) : ∀ u ∈ (Value.agg x.cl.toArray).cells.toList, u.oneCell' = true := by
  intro u hu
  simp only [Value.cells, Crt.cl, List.mem_append, List.mem_cons, List.not_mem_nil, or_false] at hu
  rcases hu with ((rfl | rfl) | hu) | rfl
  · rfl
  · rfl
  · exact bv_one _ u (by simpa [Value.cells] using hu)
  · rfl
theorem info_slMk : (Try.prog.info? 28).map (·.size) = some 1 := by kernel_rfl
theorem rd_grown {w w' : World} {A : Option Addr} {xs : List Value} {row : Option Nat} (h : Rd w A xs) (hg : w.grownBy w' row) (hn : ∀ ad, A = some ad → row ≠ some ad.block) : Rd w' A xs := fun j u hu => by
  obtain ⟨ad, ha, hc⟩ := h j u hu
  refine ⟨ad, ha, ?_⟩
  have hb : (ad.add j).block = ad.block := add_block _ _
  have hl : ad.block < w.heap.size := by
    rcases Nat.lt_or_ge ad.block w.heap.size with hl | hl
    · exact hl
    · have : w.cell? (ad.add j) = none := by simp [World.cell?, hb, Array.getElem?_eq_none hl]
      rw [this] at hc; cases hc
  have := hg.block ad.block hl (fun e => hn ad ha e.symm)
  rw [← hc]
  unfold World.cell?
  rw [hb, this]
/-- the room behind: two marks -/
structure Crt.lent (x : Crt) (w : World) : Prop where
  A : ∃ g, x.A = some ⟨g, 0, none⟩
  c : x.n + 2 ≤ x.c
  rd : Rd w x.A (x.ms.flatMap Mk.cl ++ tags 2)

end Go.Proofs.Ytnfffipkgaobhaa
namespace Go.Proofs.Ytnfffipkgaobhaa
set_option linter.unusedSimpArgs false
set_option linter.unusedVariables false
open Go.RowKit
set_option maxRecDepth 100000

theorem rd_zero_cell {w : World} {g j : Nat} {xs : List Value} {u : Value} (h : Rd w (some ⟨g, 0, none⟩) xs) (hu : xs[j]? = some u) : w.cell? ⟨g, j, none⟩ = some u := by
  have := rd_cells h j u hu
  have e : (⟨g, 0, none⟩ : Addr).add j = ⟨g, j, none⟩ := by unfold Addr.add; split <;> simp_all
  rwa [e] at this
theorem tags_at {L : List Value} {n m N : Nat} {T : Nat → List Value} (hl : L.length = n * N) (hT : ∀ i, (T i).length = N) (i f : Nat) (u : Value) (hi : i < 2) (hf : (T i)[f]? = some u) : (L ++ (List.range 2).flatMap T)[(n + i) * N + f]? = some u := by
  have hfl : f < N := by rw [← hT i]; exact (List.getElem?_eq_some_iff.1 hf).1
  rw [List.getElem?_append_right (by rw [hl, Nat.add_mul]; omega), hl, Nat.add_mul, show n * N + i * N + f - n * N = i * N + f by omega]
  have e2 : (List.range 2).flatMap T = T 0 ++ T 1 := by simp [List.range_succ]
  rw [e2]
  match i, hi with
  | 0, _ => rw [List.getElem?_append_left (by rw [hT]; omega)]; simpa using hf
  | 1, _ => rw [List.getElem?_append_right (by rw [hT]; omega), hT, show 1 * N + f - N = f by omega]; exact hf

end Go.Proofs.Ytnfffipkgaobhaa

/-
  Cells that read as this layer's things: an argument opened, its lists too. Conditions: none beyond the reading's own.
-/
import Derived.Test.YtlhnhjglcbggmaaGreatRRY32
import Derived.Test.YtlhnhjglcbggmaaGreatRRYPb18
import Derived.Test.YtlhnhjglcbggmaaGreatRRRows
namespace Go.Proofs.YtlhnhjglcbggmaaGreatRR
set_option linter.unusedSimpArgs false
set_option linter.unusedVariables false
open Go.ChangeShapes Go.WideShapes Go.ChangeAt Go.RowKit
set_option maxRecDepth 100000

section
variable {H : Type} {enc : TypeId × Value → H} {W : World} {sp : Nat → Bool} {held : Bool} {b : Nat}
/-- so many values at the most -/
def LightB (b : Nat) (d : DataW H) : Prop := Rows.uptoBulk d ≤ b
theorem bulk_part {d : DataW H} {l : List (DataW H)} (h : d ∈ l) : Rows.uptoBulk d ≤ Rows.uptoBulkAll l := by
 induction l with
 | nil => cases h
 | cons x r ih =>
  simp only [Rows.uptoBulkAll]
  cases List.mem_cons.1 h with
  | inl e => subst e; omega
  | inr e => have := ih e; omega
theorem bulk_one (d : DataW H) : 1 ≤ Rows.uptoBulk d := by
 cases d with
 | lit l => cases l <;> simp [Rows.uptoBulk]
 | nil => simp [Rows.uptoBulk]
 | ptr d => simp [Rows.uptoBulk]
 | slice elems spare => simp [Rows.uptoBulk]
 | agg parts => simp [Rows.uptoBulk]
 | iface t d => simp [Rows.uptoBulk]
 | map entries => simp [Rows.uptoBulk]
 | held h => simp [Rows.uptoBulk]
theorem bulk_len (l : List (DataW H)) : l.length ≤ Rows.uptoBulkAll l := by
 induction l with
 | nil => simp [Rows.uptoBulkAll]
 | cons x r ih => have := bulk_one x; simp only [Rows.uptoBulkAll, List.length_cons]; omega
theorem td_part {t : TypeId} {fs : Array Field} {fuel : Nat} {cs : List Value} {x : DataW H × List MemPlace} (hu : Tryz.prog.underlying t = some (.struct fs)) (h : DataW.trod enc Tryz.prog W 0 sp held fuel t cs = some x) (hl : LightB b x.1) (i : Nat) {ft : TypeId} {off : Nat} (hi : i < fs.size) (hf : (fs[i]?).map (fun f => (f.type, f.offset)) = some (ft, off)) :
  ∃ n y, DataW.trod enc Tryz.prog W 0 sp held n ft ((cs.drop off).take (Tryz.prog.cellsOf ft)) = some y ∧ LightB b y.1 := by
 obtain ⟨xs, n, _, hx, _, hlen, ht⟩ := DataW.trod_struct hu h
 obtain ⟨f, hf1, hf2⟩ := Option.map_eq_some_iff.1 hf
 have := ht i f hf1
 simp only [Prod.mk.injEq] at hf2
 have hxi : xs[i]? = some (xs[i]'(by omega)) := List.getElem?_eq_getElem (by omega)
 rw [hf2.1, hf2.2, hxi] at this
 refine ⟨n, _, this, ?_⟩
 unfold LightB at hl ⊢
 rw [hx] at hl
 have h2 := bulk_part (d := (xs[i]'(by omega)).1) (l := xs.map (·.1)) (List.mem_map_of_mem (List.getElem_mem _))
 simp only [Rows.uptoBulk] at hl
 omega
theorem td_field {t : TypeId} {fs : Array Field} {fuel : Nat} {cs : List Value} {x : DataW H × List MemPlace} (hu : Tryz.prog.underlying t = some (.struct fs)) (h : DataW.trod enc Tryz.prog W 0 sp held fuel t cs = some x) (i : Nat) {ft : TypeId} {off : Nat} (hi : i < fs.size) (hf : (fs[i]?).map (fun f => (f.type, f.offset)) = some (ft, off)) :
  ∃ n y, DataW.trod enc Tryz.prog W 0 sp held n ft ((cs.drop off).take (Tryz.prog.cellsOf ft)) = some y := trod_field hu h i hi hf
theorem td_i64 {t : TypeId} {fuel : Nat} {cs : List Value} {x : DataW H × List MemPlace} (ht : Tryz.prog.underlying t = some (.int .i64)) (h : DataW.trod enc Tryz.prog W 0 sp held fuel t cs = some x) : ∃ n, cs = [.int .i64 n] ∧ I64 n := by
 obtain ⟨n, k, _, w⟩ := DataW.trod_int ht h
 exact ⟨n, k, wf_i64 w⟩
theorem td_u64 {t : TypeId} {fuel : Nat} {cs : List Value} {x : DataW H × List MemPlace} (ht : Tryz.prog.underlying t = some (.int .u64)) (h : DataW.trod enc Tryz.prog W 0 sp held fuel t cs = some x) : ∃ n, cs = [.int .u64 n] ∧ U64 n := by
 obtain ⟨n, k, _, w⟩ := DataW.trod_int ht h
 exact ⟨n, k, wf_u64 w⟩
theorem td_str {t : TypeId} {fuel : Nat} {cs : List Value} {x : DataW H × List MemPlace} (ht : Tryz.prog.underlying t = some .string) (h : DataW.trod enc Tryz.prog W 0 sp held fuel t cs = some x) : ∃ s : ByteArray, cs = [.string s] ∧ s.size ≤ 9223372036854775807 := by
 obtain ⟨s, k, _, w⟩ := DataW.trod_string ht h
 exact ⟨s, k, Nat.le_trans w (by decide)⟩
theorem seg_go {cs a : List Value} {o n : Nat} (h : (cs.drop o).take n = a) (m : Nat) (hm : o + n = m) : cs.drop o = a ++ cs.drop m := by
 rw [← hm, ← h, ← List.drop_drop, List.take_append_drop]
theorem flT_inv {α : Type} {cl : α → List Value} {ok : α → Prop} {N : Nat} (hl : ∀ m, ok m → (cl m).length = N) (hN : 0 < N) : ∀ (ms : List α), (∀ m ∈ ms, ok m) → ∀ (j : Nat) (u : Value), (ms.flatMap cl)[j]? = some u → ∃ i r, ∃ h : i < ms.length, j = N * i + r ∧ r < N ∧ (cl ms[i])[r]? = some u
 | [], _, j, u, h => by simp at h
 | m :: ms, hm, j, u, h => by
  have hlm := hl m (hm m (List.mem_cons_self ..))
  rw [List.flatMap_cons] at h
  rcases Nat.lt_or_ge j N with hj | hj
  ·rw [List.getElem?_append_left (by omega)] at h
   exact ⟨0, j, by simp, by omega, hj, h⟩
  ·rw [List.getElem?_append_right (by omega), hlm] at h
   obtain ⟨i, r, hi, e, hr, hu⟩ := flT_inv hl hN ms (fun q hq => hm q (List.mem_cons_of_mem _ hq)) _ u h
   exact ⟨i + 1, r, by simpa using hi, by rw [Nat.mul_add, Nat.mul_one]; omega, hr, by simpa using hu⟩
theorem addT_N (ad : Addr) (k j N : Nat) : (ad.add (k * N)).add j = ad.add (N * k + j) := by
 rw [show N * k + j = k * N + j by rw [Nat.mul_comm]]
 unfold Addr.add
 split <;> split <;> simp_all <;> omega
/-- a slice of such elements -/
theorem td_listW {α : Type} {cl : α → List Value} {ok : α → Prop} {N : Nat} {ts te : TypeId} {fuel : Nat} {v : Value} {x : DataW H × List MemPlace} (ht : Tryz.prog.underlying ts = some (.slice te)) (hc : Tryz.prog.cellsOf te = N) (hl : ∀ m, ok m → (cl m).length = N) (hN : 0 < N)
  (hop : ∀ {fuel : Nat} {cs : List Value} {y : DataW H × List MemPlace}, DataW.trod enc Tryz.prog W 0 sp held fuel te cs = some y → ∃ m : α, ok m ∧ cs = cl m) (h : DataW.trod enc Tryz.prog W 0 sp held fuel ts [v] = some x) :
  ∃ A n c, ∃ ms : List α, v = .slice A n c ∧ n = ms.length ∧ (∀ m ∈ ms, ok m) ∧ Rd W A (ms.flatMap cl) ∧ n ≤ Rows.uptoBulk x.1 := by
 rcases DataW.trod_slice ht h with ⟨hn, _⟩ | ⟨a, len, cap, elems, rest, m, _, hcs, hx, _, _, _, hel, hE, _, _⟩
 ·injection hn with hn _
  exact ⟨none, 0, 0, [], hn, rfl, fun m hm => (by cases hm), Rd.nil _ _, Nat.zero_le _⟩
 ·injection hcs with hcs _
  have hms : ∀ i, i < len → ∃ q : α, ok q ∧ ∀ r u, (cl q)[r]? = some u → W.cell? (a.add (N * i + r)) = some u := fun i hi => by
   have h := hE i hi
   rw [List.getElem?_eq_getElem (by omega), hc] at h
   simp only [Option.bind_eq_some_iff] at h
   obtain ⟨mc, hmc, htr⟩ := h
   obtain ⟨q, hq, rfl⟩ := hop htr
   refine ⟨q, hq, fun r u hr => ?_⟩
   unfold World.cells? at hmc
   rw [if_pos (Nat.zero_le _)] at hmc
   have hrN : r < N := by rw [← hl q hq]; exact (List.getElem?_eq_some_iff.1 hr).1
   have := mapM_some_get hmc r r (by simp [hrN])
   rw [hr, addT_N] at this
   exact this
  obtain ⟨ms, hml, hmp⟩ := list_of hms
  have hmo : ∀ q ∈ ms, ok q := fun q hq => by
   obtain ⟨i, hi, rfl⟩ := List.getElem_of_mem hq
   exact (hmp i hi).1
  refine ⟨some a, len, cap, ms, hcs, hml.symm, hmo, ?_, ?_⟩
  ·intro j u hj
   obtain ⟨i, r, hi, rfl, hr, hu⟩ := flT_inv hl hN ms hmo j u hj
   exact ⟨a, rfl, (hmp i hi).2 r u hu⟩
  ·rw [hx]
   have h2 := bulk_len (elems.map (·.1))
   rw [List.length_map] at h2
   simp only [Rows.uptoBulk]
   omega
theorem zeroCt_b : zeroCt.n * 32 ≤ 140737488351232 := by decide
theorem le64 {n : Nat} (h : n ≤ b) (hbb : b ≤ 1048576) : n * 64 ≤ 140737488351232 := by omega
theorem le176 {n : Nat} (h : n ≤ b) (hbb : b ≤ 1048576) : n * 176 ≤ 140737488351232 := by omega
theorem le32 {n : Nat} (h : n ≤ b) (hbb : b ≤ 1048576) : n * 32 ≤ 140737488351232 := by omega
theorem le112 {n : Nat} (h : n ≤ b) (hbb : b ≤ 1048576) : n * 112 ≤ 140737488351232 := by omega
theorem slice_one {ts te : TypeId} {fuel : Nat} {cs : List Value} {x : DataW H × List MemPlace} (ht : Tryz.prog.underlying ts = some (.slice te)) (h : DataW.trod enc Tryz.prog W 0 sp held fuel ts cs = some x) : ∃ v, cs = [v] := by
 rcases DataW.trod_slice ht h with ⟨hn, _⟩ | ⟨a, len, cap, elems, rest, m, _, hcs, _⟩
 ·exact ⟨_, hn⟩
 ·exact ⟨_, hcs⟩
theorem td_list {α : Type} {cl : α → List Value} {ok : α → Prop} {N : Nat} {ts te : TypeId} {fuel : Nat} {cs : List Value} {x : DataW H × List MemPlace} (ht : Tryz.prog.underlying ts = some (.slice te)) (hc : Tryz.prog.cellsOf te = N) (hl : ∀ m, ok m → (cl m).length = N) (hN : 0 < N)
  (hop : ∀ {fuel : Nat} {cs : List Value} {y : DataW H × List MemPlace}, DataW.trod enc Tryz.prog W 0 sp held fuel te cs = some y → ∃ m : α, ok m ∧ cs = cl m) (h : DataW.trod enc Tryz.prog W 0 sp held fuel ts cs = some x) (hw : LightB b x.1) :
  ∃ A n c, ∃ ms : List α, cs = [.slice A n c] ∧ n = ms.length ∧ (∀ m ∈ ms, ok m) ∧ Rd W A (ms.flatMap cl) ∧ n ≤ b := by
 obtain ⟨v, rfl⟩ := slice_one ht h
 obtain ⟨A, n, c, ms, h1, h2, h3, h4, h5⟩ := td_listW ht hc hl hN hop h
 exact ⟨A, n, c, ms, by rw [h1], h2, h3, h4, Nat.le_trans h5 hw⟩
theorem td_list0 {α : Type} {cl : α → List Value} {ok : α → Prop} {N : Nat} {ts te : TypeId} {fuel : Nat} {cs : List Value} {x : DataW H × List MemPlace} (ht : Tryz.prog.underlying ts = some (.slice te)) (hc : Tryz.prog.cellsOf te = N) (hl : ∀ m, ok m → (cl m).length = N) (hN : 0 < N)
  (hop : ∀ {fuel : Nat} {cs : List Value} {y : DataW H × List MemPlace}, DataW.trod enc Tryz.prog W 0 sp held fuel te cs = some y → ∃ m : α, ok m ∧ cs = cl m) (h : DataW.trod enc Tryz.prog W 0 sp held fuel ts cs = some x) :
  ∃ A n c, ∃ ms : List α, cs = [.slice A n c] ∧ n = ms.length ∧ (∀ m ∈ ms, ok m) ∧ Rd W A (ms.flatMap cl) := by
 obtain ⟨v, rfl⟩ := slice_one ht h
 obtain ⟨A, n, c, ms, h1, h2, h3, h4, _⟩ := td_listW ht hc hl hN hop h
 exact ⟨A, n, c, ms, by rw [h1], h2, h3, h4⟩
theorem cellsT_i : Tryz.prog.cellsOf 3 = 1 := by kernel_rfl
theorem cellsT_u : Tryz.prog.cellsOf 22 = 1 := by kernel_rfl
theorem cellsT_i6 : Tryz.prog.cellsOf 2 = 1 := by kernel_rfl
theorem cellsT_b : Tryz.prog.cellsOf 4 = 1 := by kernel_rfl
theorem cellsT_s : Tryz.prog.cellsOf 9 = 1 := by kernel_rfl
theorem cellsT_ad : Tryz.prog.cellsOf 23 = 1 := by kernel_rfl
theorem cellsT_h : Tryz.prog.cellsOf 29 = 32 := by kernel_rfl
theorem cellsT_sl : Tryz.prog.cellsOf 25 = 16 := by kernel_rfl
theorem cellsT_lMk : Tryz.prog.cellsOf 34 = 1 := by kernel_rfl
theorem cellsT_lTx : Tryz.prog.cellsOf 41 = 1 := by kernel_rfl
theorem cellsT_lEv : Tryz.prog.cellsOf 42 = 1 := by kernel_rfl
theorem cellsT_lVo : Tryz.prog.cellsOf 45 = 1 := by kernel_rfl
theorem cellsT_lMe : Tryz.prog.cellsOf 52 = 1 := by kernel_rfl
theorem cellsT_lPs : Tryz.prog.cellsOf 55 = 1 := by kernel_rfl
theorem cellsT_lOf : Tryz.prog.cellsOf 56 = 1 := by kernel_rfl
theorem cellsT_lAc : Tryz.prog.cellsOf 57 = 1 := by kernel_rfl
theorem cellsT_lRl : Tryz.prog.cellsOf 58 = 1 := by kernel_rfl
theorem cellsT_Mk : Tryz.prog.cellsOf 139 = 18 := by kernel_rfl
theorem fieldsT_Mk : ∃ fs, Tryz.prog.underlying 139 = some (.struct fs) ∧ fs.size = 3 ∧ (fs[0]?).map (fun f => (f.type, f.offset)) = some (3, 0) ∧ (fs[1]?).map (fun f => (f.type, f.offset)) = some (22, 1) ∧ (fs[2]?).map (fun f => (f.type, f.offset)) = some (25, 2) := ⟨_, rfl, by kernel_rfl, by kernel_rfl, by kernel_rfl, by kernel_rfl⟩
set_option maxHeartbeats 1000000 in
theorem td_Mk {fuel : Nat} {cs : List Value} {x : DataW H × List MemPlace} (h : DataW.trod enc Tryz.prog W 0 sp held fuel 139 cs = some x) : ∃ m : Mk, m.ok ∧ cs = m.cl := by
 obtain ⟨fs, hu, hs, f0, f1, f2⟩ := fieldsT_Mk
 obtain ⟨_, _, _, _, hlen, _, _⟩ := DataW.trod_struct hu h
 rw [cellsT_Mk] at hlen
 obtain ⟨_, y0, h0⟩ := td_field hu h 0 (by omega) f0
 rw [cellsT_i] at h0
 obtain ⟨_, y1, h1⟩ := td_field hu h 1 (by omega) f1
 rw [cellsT_u] at h1
 obtain ⟨_, y2, h2⟩ := td_field hu h 2 (by omega) f2
 rw [cellsT_sl] at h2
 obtain ⟨n0, e0, k0⟩ := td_i64 Tryz.underlying3 h0
 have q0 := seg_go e0 1 rfl
 obtain ⟨n1, e1, k1⟩ := td_u64 Tryz.underlying22 h1
 have q1 := seg_go e1 2 rfl
 obtain ⟨n2, k2, e2⟩ := trod_bytes Tryz.underlying25 cellsT_sl h2
 have q2 := seg_go e2 18 rfl
 have qe : cs.drop 18 = [] := List.drop_eq_nil_of_le (by omega)
 refine ⟨⟨n0, n1, n2⟩, ⟨k0, k1, k2⟩, ?_⟩
 refine (show cs = cs.drop 0 from rfl).trans ?_
 rw [q0, q1, q2, qe]
 simp only [Mk.cl, List.append_assoc, List.cons_append, List.nil_append, List.append_nil]
theorem cellsT_Tx : Tryz.prog.cellsOf 27 = 22 := by kernel_rfl
theorem fieldsT_Tx : ∃ fs, Tryz.prog.underlying 27 = some (.struct fs) ∧ fs.size = 7 ∧ (fs[0]?).map (fun f => (f.type, f.offset)) = some (3, 0) ∧ (fs[1]?).map (fun f => (f.type, f.offset)) = some (23, 1) ∧ (fs[2]?).map (fun f => (f.type, f.offset)) = some (23, 2) ∧ (fs[3]?).map (fun f => (f.type, f.offset)) = some (22, 3) ∧ (fs[4]?).map (fun f => (f.type, f.offset)) = some (22, 4) ∧ (fs[5]?).map (fun f => (f.type, f.offset)) = some (22, 5) ∧ (fs[6]?).map (fun f => (f.type, f.offset)) = some (25, 6) := ⟨_, rfl, by kernel_rfl, by kernel_rfl, by kernel_rfl, by kernel_rfl, by kernel_rfl, by kernel_rfl, by kernel_rfl, by kernel_rfl⟩
set_option maxHeartbeats 1000000 in
theorem td_Tx {fuel : Nat} {cs : List Value} {x : DataW H × List MemPlace} (h : DataW.trod enc Tryz.prog W 0 sp held fuel 27 cs = some x) : ∃ m : Tx, m.ok ∧ cs = m.cl := by
 obtain ⟨fs, hu, hs, f0, f1, f2, f3, f4, f5, f6⟩ := fieldsT_Tx
 obtain ⟨_, _, _, _, hlen, _, _⟩ := DataW.trod_struct hu h
 rw [cellsT_Tx] at hlen
 obtain ⟨_, y0, h0⟩ := td_field hu h 0 (by omega) f0
 rw [cellsT_i] at h0
 obtain ⟨_, y1, h1⟩ := td_field hu h 1 (by omega) f1
 rw [cellsT_ad] at h1
 obtain ⟨_, y2, h2⟩ := td_field hu h 2 (by omega) f2
 rw [cellsT_ad] at h2
 obtain ⟨_, y3, h3⟩ := td_field hu h 3 (by omega) f3
 rw [cellsT_u] at h3
 obtain ⟨_, y4, h4⟩ := td_field hu h 4 (by omega) f4
 rw [cellsT_u] at h4
 obtain ⟨_, y5, h5⟩ := td_field hu h 5 (by omega) f5
 rw [cellsT_u] at h5
 obtain ⟨_, y6, h6⟩ := td_field hu h 6 (by omega) f6
 rw [cellsT_sl] at h6
 obtain ⟨n0, e0, k0⟩ := td_i64 Tryz.underlying3 h0
 have q0 := seg_go e0 1 rfl
 obtain ⟨n1, e1, k1⟩ := td_u64 Tryz.underlying23 h1
 have q1 := seg_go e1 2 rfl
 obtain ⟨n2, e2, k2⟩ := td_u64 Tryz.underlying23 h2
 have q2 := seg_go e2 3 rfl
 obtain ⟨n3, e3, k3⟩ := td_u64 Tryz.underlying22 h3
 have q3 := seg_go e3 4 rfl
 obtain ⟨n4, e4, k4⟩ := td_u64 Tryz.underlying22 h4
 have q4 := seg_go e4 5 rfl
 obtain ⟨n5, e5, k5⟩ := td_u64 Tryz.underlying22 h5
 have q5 := seg_go e5 6 rfl
 obtain ⟨n6, k6, e6⟩ := trod_bytes Tryz.underlying25 cellsT_sl h6
 have q6 := seg_go e6 22 rfl
 have qe : cs.drop 22 = [] := List.drop_eq_nil_of_le (by omega)
 refine ⟨⟨n0, n1, n2, n3, n4, n5, n6⟩, ⟨k0, k1, k2, k3, k4, k5, k6⟩, ?_⟩
 refine (show cs = cs.drop 0 from rfl).trans ?_
 rw [q0, q1, q2, q3, q4, q5, q6, qe]
 simp only [Tx.cl, List.append_assoc, List.cons_append, List.nil_append, List.append_nil]
theorem cellsT_Vo : Tryz.prog.cellsOf 31 = 53 := by kernel_rfl
theorem fieldsT_Vo : ∃ fs, Tryz.prog.underlying 31 = some (.struct fs) ∧ fs.size = 7 ∧ (fs[0]?).map (fun f => (f.type, f.offset)) = some (3, 0) ∧ (fs[1]?).map (fun f => (f.type, f.offset)) = some (22, 1) ∧ (fs[2]?).map (fun f => (f.type, f.offset)) = some (3, 2) ∧ (fs[3]?).map (fun f => (f.type, f.offset)) = some (29, 3) ∧ (fs[4]?).map (fun f => (f.type, f.offset)) = some (22, 35) ∧ (fs[5]?).map (fun f => (f.type, f.offset)) = some (23, 36) ∧ (fs[6]?).map (fun f => (f.type, f.offset)) = some (25, 37) := ⟨_, rfl, by kernel_rfl, by kernel_rfl, by kernel_rfl, by kernel_rfl, by kernel_rfl, by kernel_rfl, by kernel_rfl, by kernel_rfl⟩
set_option maxHeartbeats 1000000 in
theorem td_Vo {fuel : Nat} {cs : List Value} {x : DataW H × List MemPlace} (h : DataW.trod enc Tryz.prog W 0 sp held fuel 31 cs = some x) : ∃ m : Vote, m.ok ∧ cs = m.cl := by
 obtain ⟨fs, hu, hs, f0, f1, f2, f3, f4, f5, f6⟩ := fieldsT_Vo
 obtain ⟨_, _, _, _, hlen, _, _⟩ := DataW.trod_struct hu h
 rw [cellsT_Vo] at hlen
 obtain ⟨_, y0, h0⟩ := td_field hu h 0 (by omega) f0
 rw [cellsT_i] at h0
 obtain ⟨_, y1, h1⟩ := td_field hu h 1 (by omega) f1
 rw [cellsT_u] at h1
 obtain ⟨_, y2, h2⟩ := td_field hu h 2 (by omega) f2
 rw [cellsT_i] at h2
 obtain ⟨_, y3, h3⟩ := td_field hu h 3 (by omega) f3
 rw [cellsT_h] at h3
 obtain ⟨_, y4, h4⟩ := td_field hu h 4 (by omega) f4
 rw [cellsT_u] at h4
 obtain ⟨_, y5, h5⟩ := td_field hu h 5 (by omega) f5
 rw [cellsT_ad] at h5
 obtain ⟨_, y6, h6⟩ := td_field hu h 6 (by omega) f6
 rw [cellsT_sl] at h6
 obtain ⟨n0, e0, k0⟩ := td_i64 Tryz.underlying3 h0
 have q0 := seg_go e0 1 rfl
 obtain ⟨n1, e1, k1⟩ := td_u64 Tryz.underlying22 h1
 have q1 := seg_go e1 2 rfl
 obtain ⟨n2, e2, k2⟩ := td_i64 Tryz.underlying3 h2
 have q2 := seg_go e2 3 rfl
 obtain ⟨n3, k3, e3⟩ := trod_bytes Tryz.underlying29 cellsT_h h3
 have q3 := seg_go e3 35 rfl
 obtain ⟨n4, e4, k4⟩ := td_u64 Tryz.underlying22 h4
 have q4 := seg_go e4 36 rfl
 obtain ⟨n5, e5, k5⟩ := td_u64 Tryz.underlying23 h5
 have q5 := seg_go e5 37 rfl
 obtain ⟨n6, k6, e6⟩ := trod_bytes Tryz.underlying25 cellsT_sl h6
 have q6 := seg_go e6 53 rfl
 have qe : cs.drop 53 = [] := List.drop_eq_nil_of_le (by omega)
 refine ⟨⟨n0, n1, n2, n3, n4, n5, n6⟩, ⟨k0, k1, k2, k3, k4, k5, k6⟩, ?_⟩
 refine (show cs = cs.drop 0 from rfl).trans ?_
 rw [q0, q1, q2, q3, q4, q5, q6, qe]
 simp only [Vote.cl, List.append_assoc, List.cons_append, List.nil_append, List.append_nil]
theorem cellsT_Pr : Tryz.prog.cellsOf 33 = 52 := by kernel_rfl
theorem fieldsT_Pr : ∃ fs, Tryz.prog.underlying 33 = some (.struct fs) ∧ fs.size = 6 ∧ (fs[0]?).map (fun f => (f.type, f.offset)) = some (22, 0) ∧ (fs[1]?).map (fun f => (f.type, f.offset)) = some (3, 1) ∧ (fs[2]?).map (fun f => (f.type, f.offset)) = some (3, 2) ∧ (fs[3]?).map (fun f => (f.type, f.offset)) = some (29, 3) ∧ (fs[4]?).map (fun f => (f.type, f.offset)) = some (23, 35) ∧ (fs[5]?).map (fun f => (f.type, f.offset)) = some (25, 36) := ⟨_, rfl, by kernel_rfl, by kernel_rfl, by kernel_rfl, by kernel_rfl, by kernel_rfl, by kernel_rfl, by kernel_rfl⟩
set_option maxHeartbeats 1000000 in
theorem td_Pr {fuel : Nat} {cs : List Value} {x : DataW H × List MemPlace} (h : DataW.trod enc Tryz.prog W 0 sp held fuel 33 cs = some x) : ∃ m : Proposal, m.ok ∧ cs = m.cl := by
 obtain ⟨fs, hu, hs, f0, f1, f2, f3, f4, f5⟩ := fieldsT_Pr
 obtain ⟨_, _, _, _, hlen, _, _⟩ := DataW.trod_struct hu h
 rw [cellsT_Pr] at hlen
 obtain ⟨_, y0, h0⟩ := td_field hu h 0 (by omega) f0
 rw [cellsT_u] at h0
 obtain ⟨_, y1, h1⟩ := td_field hu h 1 (by omega) f1
 rw [cellsT_i] at h1
 obtain ⟨_, y2, h2⟩ := td_field hu h 2 (by omega) f2
 rw [cellsT_i] at h2
 obtain ⟨_, y3, h3⟩ := td_field hu h 3 (by omega) f3
 rw [cellsT_h] at h3
 obtain ⟨_, y4, h4⟩ := td_field hu h 4 (by omega) f4
 rw [cellsT_ad] at h4
 obtain ⟨_, y5, h5⟩ := td_field hu h 5 (by omega) f5
 rw [cellsT_sl] at h5
 obtain ⟨n0, e0, k0⟩ := td_u64 Tryz.underlying22 h0
 have q0 := seg_go e0 1 rfl
 obtain ⟨n1, e1, k1⟩ := td_i64 Tryz.underlying3 h1
 have q1 := seg_go e1 2 rfl
 obtain ⟨n2, e2, k2⟩ := td_i64 Tryz.underlying3 h2
 have q2 := seg_go e2 3 rfl
 obtain ⟨n3, k3, e3⟩ := trod_bytes Tryz.underlying29 cellsT_h h3
 have q3 := seg_go e3 35 rfl
 obtain ⟨n4, e4, k4⟩ := td_u64 Tryz.underlying23 h4
 have q4 := seg_go e4 36 rfl
 obtain ⟨n5, k5, e5⟩ := trod_bytes Tryz.underlying25 cellsT_sl h5
 have q5 := seg_go e5 52 rfl
 have qe : cs.drop 52 = [] := List.drop_eq_nil_of_le (by omega)
 refine ⟨⟨n0, n1, n2, n3, n4, n5⟩, ⟨k0, k1, k2, k3, k4, k5⟩, ?_⟩
 refine (show cs = cs.drop 0 from rfl).trans ?_
 rw [q0, q1, q2, q3, q4, q5, qe]
 simp only [Proposal.cl, List.append_assoc, List.cons_append, List.nil_append, List.append_nil]
theorem cellsT_Ev : Tryz.prog.cellsOf 38 = 106 := by kernel_rfl
theorem fieldsT_Ev : ∃ fs, Tryz.prog.underlying 38 = some (.struct fs) ∧ fs.size = 2 ∧ (fs[0]?).map (fun f => (f.type, f.offset)) = some (31, 0) ∧ (fs[1]?).map (fun f => (f.type, f.offset)) = some (31, 53) := ⟨_, rfl, by kernel_rfl, by kernel_rfl, by kernel_rfl⟩
set_option maxHeartbeats 1000000 in
theorem td_Ev {fuel : Nat} {cs : List Value} {x : DataW H × List MemPlace} (h : DataW.trod enc Tryz.prog W 0 sp held fuel 38 cs = some x) : ∃ m : Ev, m.ok ∧ cs = m.cl := by
 obtain ⟨fs, hu, hs, f0, f1⟩ := fieldsT_Ev
 obtain ⟨_, _, _, _, hlen, _, _⟩ := DataW.trod_struct hu h
 rw [cellsT_Ev] at hlen
 obtain ⟨_, y0, h0⟩ := td_field hu h 0 (by omega) f0
 rw [cellsT_Vo] at h0
 obtain ⟨_, y1, h1⟩ := td_field hu h 1 (by omega) f1
 rw [cellsT_Vo] at h1
 obtain ⟨n0, k0, e0⟩ := td_Vo h0
 have q0 := seg_go e0 53 rfl
 obtain ⟨n1, k1, e1⟩ := td_Vo h1
 have q1 := seg_go e1 106 rfl
 have qe : cs.drop 106 = [] := List.drop_eq_nil_of_le (by omega)
 refine ⟨⟨n0, n1⟩, ⟨k0, k1⟩, ?_⟩
 refine (show cs = cs.drop 0 from rfl).trans ?_
 rw [q0, q1, qe]
 simp only [Ev.cl, List.append_assoc, List.cons_append, List.nil_append, List.append_nil]
theorem cellsT_Hd : Tryz.prog.cellsOf 40 = 228 := by kernel_rfl
theorem fieldsT_Hd : ∃ fs, Tryz.prog.underlying 40 = some (.struct fs) ∧ fs.size = 11 ∧ (fs[0]?).map (fun f => (f.type, f.offset)) = some (9, 0) ∧ (fs[1]?).map (fun f => (f.type, f.offset)) = some (22, 1) ∧ (fs[2]?).map (fun f => (f.type, f.offset)) = some (22, 2) ∧ (fs[3]?).map (fun f => (f.type, f.offset)) = some (29, 3) ∧ (fs[4]?).map (fun f => (f.type, f.offset)) = some (29, 35) ∧ (fs[5]?).map (fun f => (f.type, f.offset)) = some (29, 67) ∧ (fs[6]?).map (fun f => (f.type, f.offset)) = some (29, 99) ∧ (fs[7]?).map (fun f => (f.type, f.offset)) = some (29, 131) ∧ (fs[8]?).map (fun f => (f.type, f.offset)) = some (29, 163) ∧ (fs[9]?).map (fun f => (f.type, f.offset)) = some (29, 195) ∧ (fs[10]?).map (fun f => (f.type, f.offset)) = some (23, 227) := ⟨_, rfl, by kernel_rfl, by kernel_rfl, by kernel_rfl, by kernel_rfl, by kernel_rfl, by kernel_rfl, by kernel_rfl, by kernel_rfl, by kernel_rfl, by kernel_rfl, by kernel_rfl, by kernel_rfl⟩
set_option maxHeartbeats 1000000 in
theorem td_Hd {fuel : Nat} {cs : List Value} {x : DataW H × List MemPlace} (h : DataW.trod enc Tryz.prog W 0 sp held fuel 40 cs = some x) : ∃ m : Hdr, m.ok ∧ cs = m.cl := by
 obtain ⟨fs, hu, hs, f0, f1, f2, f3, f4, f5, f6, f7, f8, f9, f10⟩ := fieldsT_Hd
 obtain ⟨_, _, _, _, hlen, _, _⟩ := DataW.trod_struct hu h
 rw [cellsT_Hd] at hlen
 obtain ⟨_, y0, h0⟩ := td_field hu h 0 (by omega) f0
 rw [cellsT_s] at h0
 obtain ⟨_, y1, h1⟩ := td_field hu h 1 (by omega) f1
 rw [cellsT_u] at h1
 obtain ⟨_, y2, h2⟩ := td_field hu h 2 (by omega) f2
 rw [cellsT_u] at h2
 obtain ⟨_, y3, h3⟩ := td_field hu h 3 (by omega) f3
 rw [cellsT_h] at h3
 obtain ⟨_, y4, h4⟩ := td_field hu h 4 (by omega) f4
 rw [cellsT_h] at h4
 obtain ⟨_, y5, h5⟩ := td_field hu h 5 (by omega) f5
 rw [cellsT_h] at h5
 obtain ⟨_, y6, h6⟩ := td_field hu h 6 (by omega) f6
 rw [cellsT_h] at h6
 obtain ⟨_, y7, h7⟩ := td_field hu h 7 (by omega) f7
 rw [cellsT_h] at h7
 obtain ⟨_, y8, h8⟩ := td_field hu h 8 (by omega) f8
 rw [cellsT_h] at h8
 obtain ⟨_, y9, h9⟩ := td_field hu h 9 (by omega) f9
 rw [cellsT_h] at h9
 obtain ⟨_, y10, h10⟩ := td_field hu h 10 (by omega) f10
 rw [cellsT_ad] at h10
 obtain ⟨n0, e0, k0⟩ := td_str Tryz.underlying9 h0
 have q0 := seg_go e0 1 rfl
 obtain ⟨n1, e1, k1⟩ := td_u64 Tryz.underlying22 h1
 have q1 := seg_go e1 2 rfl
 obtain ⟨n2, e2, k2⟩ := td_u64 Tryz.underlying22 h2
 have q2 := seg_go e2 3 rfl
 obtain ⟨n3, k3, e3⟩ := trod_bytes Tryz.underlying29 cellsT_h h3
 have q3 := seg_go e3 35 rfl
 obtain ⟨n4, k4, e4⟩ := trod_bytes Tryz.underlying29 cellsT_h h4
 have q4 := seg_go e4 67 rfl
 obtain ⟨n5, k5, e5⟩ := trod_bytes Tryz.underlying29 cellsT_h h5
 have q5 := seg_go e5 99 rfl
 obtain ⟨n6, k6, e6⟩ := trod_bytes Tryz.underlying29 cellsT_h h6
 have q6 := seg_go e6 131 rfl
 obtain ⟨n7, k7, e7⟩ := trod_bytes Tryz.underlying29 cellsT_h h7
 have q7 := seg_go e7 163 rfl
 obtain ⟨n8, k8, e8⟩ := trod_bytes Tryz.underlying29 cellsT_h h8
 have q8 := seg_go e8 195 rfl
 obtain ⟨n9, k9, e9⟩ := trod_bytes Tryz.underlying29 cellsT_h h9
 have q9 := seg_go e9 227 rfl
 obtain ⟨n10, e10, k10⟩ := td_u64 Tryz.underlying23 h10
 have q10 := seg_go e10 228 rfl
 have qe : cs.drop 228 = [] := List.drop_eq_nil_of_le (by omega)
 refine ⟨⟨n0, n1, n2, n3 ++ (n4 ++ (n5 ++ (n6 ++ (n7 ++ (n8 ++ n9))))), n10⟩, ⟨k0, k1, k2, by simp [k3, k4, k5, k6, k7, k8, k9], k10⟩, ?_⟩
 refine (show cs = cs.drop 0 from rfl).trans ?_
 rw [q0, q1, q2, q3, q4, q5, q6, q7, q8, q9, q10, qe]
 simp only [Hdr.cl, bv_append, List.append_assoc, List.cons_append, List.nil_append, List.append_nil]
theorem cellsT_Me : Tryz.prog.cellsOf 182 = 3 := by kernel_rfl
theorem fieldsT_Me : ∃ fs, Tryz.prog.underlying 182 = some (.struct fs) ∧ fs.size = 3 ∧ (fs[0]?).map (fun f => (f.type, f.offset)) = some (23, 0) ∧ (fs[1]?).map (fun f => (f.type, f.offset)) = some (22, 1) ∧ (fs[2]?).map (fun f => (f.type, f.offset)) = some (2, 2) := ⟨_, rfl, by kernel_rfl, by kernel_rfl, by kernel_rfl, by kernel_rfl⟩
set_option maxHeartbeats 1000000 in
theorem td_Me {fuel : Nat} {cs : List Value} {x : DataW H × List MemPlace} (h : DataW.trod enc Tryz.prog W 0 sp held fuel 182 cs = some x) : ∃ m : Mem, m.ok ∧ cs = m.cl := by
 obtain ⟨fs, hu, hs, f0, f1, f2⟩ := fieldsT_Me
 obtain ⟨_, _, _, _, hlen, _, _⟩ := DataW.trod_struct hu h
 rw [cellsT_Me] at hlen
 obtain ⟨_, y0, h0⟩ := td_field hu h 0 (by omega) f0
 rw [cellsT_ad] at h0
 obtain ⟨_, y1, h1⟩ := td_field hu h 1 (by omega) f1
 rw [cellsT_u] at h1
 obtain ⟨_, y2, h2⟩ := td_field hu h 2 (by omega) f2
 rw [cellsT_i6] at h2
 obtain ⟨n0, e0, k0⟩ := td_u64 Tryz.underlying23 h0
 have q0 := seg_go e0 1 rfl
 obtain ⟨n1, e1, k1⟩ := td_u64 Tryz.underlying22 h1
 have q1 := seg_go e1 2 rfl
 obtain ⟨n2, e2, k2⟩ := td_i64 Tryz.underlying2 h2
 have q2 := seg_go e2 3 rfl
 have qe : cs.drop 3 = [] := List.drop_eq_nil_of_le (by omega)
 refine ⟨⟨n0, n1, n2⟩, ⟨k0, k1, k2⟩, ?_⟩
 refine (show cs = cs.drop 0 from rfl).trans ?_
 rw [q0, q1, q2, qe]
 simp only [Mem.cl, List.append_assoc, List.cons_append, List.nil_append, List.append_nil]
theorem cellsT_Of : Tryz.prog.cellsOf 145 = 2 := by kernel_rfl
theorem fieldsT_Of : ∃ fs, Tryz.prog.underlying 145 = some (.struct fs) ∧ fs.size = 2 ∧ (fs[0]?).map (fun f => (f.type, f.offset)) = some (22, 0) ∧ (fs[1]?).map (fun f => (f.type, f.offset)) = some (23, 1) := ⟨_, rfl, by kernel_rfl, by kernel_rfl, by kernel_rfl⟩
set_option maxHeartbeats 1000000 in
theorem td_Of {fuel : Nat} {cs : List Value} {x : DataW H × List MemPlace} (h : DataW.trod enc Tryz.prog W 0 sp held fuel 145 cs = some x) : ∃ m : Off, m.ok ∧ cs = m.cl := by
 obtain ⟨fs, hu, hs, f0, f1⟩ := fieldsT_Of
 obtain ⟨_, _, _, _, hlen, _, _⟩ := DataW.trod_struct hu h
 rw [cellsT_Of] at hlen
 obtain ⟨_, y0, h0⟩ := td_field hu h 0 (by omega) f0
 rw [cellsT_u] at h0
 obtain ⟨_, y1, h1⟩ := td_field hu h 1 (by omega) f1
 rw [cellsT_ad] at h1
 obtain ⟨n0, e0, k0⟩ := td_u64 Tryz.underlying22 h0
 have q0 := seg_go e0 1 rfl
 obtain ⟨n1, e1, k1⟩ := td_u64 Tryz.underlying23 h1
 have q1 := seg_go e1 2 rfl
 have qe : cs.drop 2 = [] := List.drop_eq_nil_of_le (by omega)
 refine ⟨⟨n0, n1⟩, ⟨k0, k1⟩, ?_⟩
 refine (show cs = cs.drop 0 from rfl).trans ?_
 rw [q0, q1, qe]
 simp only [Off.cl, List.append_assoc, List.cons_append, List.nil_append, List.append_nil]
theorem cellsT_Ac : Tryz.prog.cellsOf 191 = 5 := by kernel_rfl
theorem fieldsT_Ac : ∃ fs, Tryz.prog.underlying 191 = some (.struct fs) ∧ fs.size = 5 ∧ (fs[0]?).map (fun f => (f.type, f.offset)) = some (23, 0) ∧ (fs[1]?).map (fun f => (f.type, f.offset)) = some (22, 1) ∧ (fs[2]?).map (fun f => (f.type, f.offset)) = some (22, 2) ∧ (fs[3]?).map (fun f => (f.type, f.offset)) = some (22, 3) ∧ (fs[4]?).map (fun f => (f.type, f.offset)) = some (4, 4) := ⟨_, rfl, by kernel_rfl, by kernel_rfl, by kernel_rfl, by kernel_rfl, by kernel_rfl, by kernel_rfl⟩
set_option maxHeartbeats 1000000 in
theorem td_Ac {fuel : Nat} {cs : List Value} {x : DataW H × List MemPlace} (h : DataW.trod enc Tryz.prog W 0 sp held fuel 191 cs = some x) : ∃ m : Acc, m.ok ∧ cs = m.cl := by
 obtain ⟨fs, hu, hs, f0, f1, f2, f3, f4⟩ := fieldsT_Ac
 obtain ⟨_, _, _, _, hlen, _, _⟩ := DataW.trod_struct hu h
 rw [cellsT_Ac] at hlen
 obtain ⟨_, y0, h0⟩ := td_field hu h 0 (by omega) f0
 rw [cellsT_ad] at h0
 obtain ⟨_, y1, h1⟩ := td_field hu h 1 (by omega) f1
 rw [cellsT_u] at h1
 obtain ⟨_, y2, h2⟩ := td_field hu h 2 (by omega) f2
 rw [cellsT_u] at h2
 obtain ⟨_, y3, h3⟩ := td_field hu h 3 (by omega) f3
 rw [cellsT_u] at h3
 obtain ⟨_, y4, h4⟩ := td_field hu h 4 (by omega) f4
 rw [cellsT_b] at h4
 obtain ⟨n0, e0, k0⟩ := td_u64 Tryz.underlying23 h0
 have q0 := seg_go e0 1 rfl
 obtain ⟨n1, e1, k1⟩ := td_u64 Tryz.underlying22 h1
 have q1 := seg_go e1 2 rfl
 obtain ⟨n2, e2, k2⟩ := td_u64 Tryz.underlying22 h2
 have q2 := seg_go e2 3 rfl
 obtain ⟨n3, e3, k3⟩ := td_u64 Tryz.underlying22 h3
 have q3 := seg_go e3 4 rfl
 obtain ⟨n4, e4⟩ := DataW.trod_bool Tryz.underlying4 h4
 have e4 := e4.1
 have q4 := seg_go e4 5 rfl
 have qe : cs.drop 5 = [] := List.drop_eq_nil_of_le (by omega)
 refine ⟨⟨n0, n1, n2, n3, n4⟩, ⟨k0, k1, k2, k3⟩, ?_⟩
 refine (show cs = cs.drop 0 from rfl).trans ?_
 rw [q0, q1, q2, q3, q4, qe]
 simp only [Acc.cl, List.append_assoc, List.cons_append, List.nil_append, List.append_nil]
theorem cellsT_Rl : Tryz.prog.cellsOf 195 = 4 := by kernel_rfl
theorem fieldsT_Rl : ∃ fs, Tryz.prog.underlying 195 = some (.struct fs) ∧ fs.size = 4 ∧ (fs[0]?).map (fun f => (f.type, f.offset)) = some (22, 0) ∧ (fs[1]?).map (fun f => (f.type, f.offset)) = some (23, 1) ∧ (fs[2]?).map (fun f => (f.type, f.offset)) = some (22, 2) ∧ (fs[3]?).map (fun f => (f.type, f.offset)) = some (22, 3) := ⟨_, rfl, by kernel_rfl, by kernel_rfl, by kernel_rfl, by kernel_rfl, by kernel_rfl⟩
set_option maxHeartbeats 1000000 in
theorem td_Rl {fuel : Nat} {cs : List Value} {x : DataW H × List MemPlace} (h : DataW.trod enc Tryz.prog W 0 sp held fuel 195 cs = some x) : ∃ m : Rls, m.ok ∧ cs = m.cl := by
 obtain ⟨fs, hu, hs, f0, f1, f2, f3⟩ := fieldsT_Rl
 obtain ⟨_, _, _, _, hlen, _, _⟩ := DataW.trod_struct hu h
 rw [cellsT_Rl] at hlen
 obtain ⟨_, y0, h0⟩ := td_field hu h 0 (by omega) f0
 rw [cellsT_u] at h0
 obtain ⟨_, y1, h1⟩ := td_field hu h 1 (by omega) f1
 rw [cellsT_ad] at h1
 obtain ⟨_, y2, h2⟩ := td_field hu h 2 (by omega) f2
 rw [cellsT_u] at h2
 obtain ⟨_, y3, h3⟩ := td_field hu h 3 (by omega) f3
 rw [cellsT_u] at h3
 obtain ⟨n0, e0, k0⟩ := td_u64 Tryz.underlying22 h0
 have q0 := seg_go e0 1 rfl
 obtain ⟨n1, e1, k1⟩ := td_u64 Tryz.underlying23 h1
 have q1 := seg_go e1 2 rfl
 obtain ⟨n2, e2, k2⟩ := td_u64 Tryz.underlying22 h2
 have q2 := seg_go e2 3 rfl
 obtain ⟨n3, e3, k3⟩ := td_u64 Tryz.underlying22 h3
 have q3 := seg_go e3 4 rfl
 have qe : cs.drop 4 = [] := List.drop_eq_nil_of_le (by omega)
 refine ⟨⟨n0, n1, n2, n3⟩, ⟨k0, k1, k2, k3⟩, ?_⟩
 refine (show cs = cs.drop 0 from rfl).trans ?_
 rw [q0, q1, q2, q3, qe]
 simp only [Rls.cl, List.append_assoc, List.cons_append, List.nil_append, List.append_nil]
theorem cellsT_Pa : Tryz.prog.cellsOf 51 = 12 := by kernel_rfl
theorem fieldsT_Pa : ∃ fs, Tryz.prog.underlying 51 = some (.struct fs) ∧ fs.size = 12 ∧ (fs[0]?).map (fun f => (f.type, f.offset)) = some (22, 0) ∧ (fs[1]?).map (fun f => (f.type, f.offset)) = some (3, 1) ∧ (fs[2]?).map (fun f => (f.type, f.offset)) = some (22, 2) ∧ (fs[3]?).map (fun f => (f.type, f.offset)) = some (22, 3) ∧ (fs[4]?).map (fun f => (f.type, f.offset)) = some (22, 4) ∧ (fs[5]?).map (fun f => (f.type, f.offset)) = some (3, 5) ∧ (fs[6]?).map (fun f => (f.type, f.offset)) = some (22, 6) ∧ (fs[7]?).map (fun f => (f.type, f.offset)) = some (22, 7) ∧ (fs[8]?).map (fun f => (f.type, f.offset)) = some (22, 8) ∧ (fs[9]?).map (fun f => (f.type, f.offset)) = some (22, 9) ∧ (fs[10]?).map (fun f => (f.type, f.offset)) = some (22, 10) ∧ (fs[11]?).map (fun f => (f.type, f.offset)) = some (22, 11) := ⟨_, rfl, by kernel_rfl, by kernel_rfl, by kernel_rfl, by kernel_rfl, by kernel_rfl, by kernel_rfl, by kernel_rfl, by kernel_rfl, by kernel_rfl, by kernel_rfl, by kernel_rfl, by kernel_rfl, by kernel_rfl⟩
set_option maxHeartbeats 1000000 in
theorem td_Pa {fuel : Nat} {cs : List Value} {x : DataW H × List MemPlace} (h : DataW.trod enc Tryz.prog W 0 sp held fuel 51 cs = some x) : ∃ m : Par, m.ok ∧ cs = m.cl := by
 obtain ⟨fs, hu, hs, f0, f1, f2, f3, f4, f5, f6, f7, f8, f9, f10, f11⟩ := fieldsT_Pa
 obtain ⟨_, _, _, _, hlen, _, _⟩ := DataW.trod_struct hu h
 rw [cellsT_Pa] at hlen
 obtain ⟨_, y0, h0⟩ := td_field hu h 0 (by omega) f0
 rw [cellsT_u] at h0
 obtain ⟨_, y1, h1⟩ := td_field hu h 1 (by omega) f1
 rw [cellsT_i] at h1
 obtain ⟨_, y2, h2⟩ := td_field hu h 2 (by omega) f2
 rw [cellsT_u] at h2
 obtain ⟨_, y3, h3⟩ := td_field hu h 3 (by omega) f3
 rw [cellsT_u] at h3
 obtain ⟨_, y4, h4⟩ := td_field hu h 4 (by omega) f4
 rw [cellsT_u] at h4
 obtain ⟨_, y5, h5⟩ := td_field hu h 5 (by omega) f5
 rw [cellsT_i] at h5
 obtain ⟨_, y6, h6⟩ := td_field hu h 6 (by omega) f6
 rw [cellsT_u] at h6
 obtain ⟨_, y7, h7⟩ := td_field hu h 7 (by omega) f7
 rw [cellsT_u] at h7
 obtain ⟨_, y8, h8⟩ := td_field hu h 8 (by omega) f8
 rw [cellsT_u] at h8
 obtain ⟨_, y9, h9⟩ := td_field hu h 9 (by omega) f9
 rw [cellsT_u] at h9
 obtain ⟨_, y10, h10⟩ := td_field hu h 10 (by omega) f10
 rw [cellsT_u] at h10
 obtain ⟨_, y11, h11⟩ := td_field hu h 11 (by omega) f11
 rw [cellsT_u] at h11
 obtain ⟨n0, e0, k0⟩ := td_u64 Tryz.underlying22 h0
 have q0 := seg_go e0 1 rfl
 obtain ⟨n1, e1, k1⟩ := td_i64 Tryz.underlying3 h1
 have q1 := seg_go e1 2 rfl
 obtain ⟨n2, e2, k2⟩ := td_u64 Tryz.underlying22 h2
 have q2 := seg_go e2 3 rfl
 obtain ⟨n3, e3, k3⟩ := td_u64 Tryz.underlying22 h3
 have q3 := seg_go e3 4 rfl
 obtain ⟨n4, e4, k4⟩ := td_u64 Tryz.underlying22 h4
 have q4 := seg_go e4 5 rfl
 obtain ⟨n5, e5, k5⟩ := td_i64 Tryz.underlying3 h5
 have q5 := seg_go e5 6 rfl
 obtain ⟨n6, e6, k6⟩ := td_u64 Tryz.underlying22 h6
 have q6 := seg_go e6 7 rfl
 obtain ⟨n7, e7, k7⟩ := td_u64 Tryz.underlying22 h7
 have q7 := seg_go e7 8 rfl
 obtain ⟨n8, e8, k8⟩ := td_u64 Tryz.underlying22 h8
 have q8 := seg_go e8 9 rfl
 obtain ⟨n9, e9, k9⟩ := td_u64 Tryz.underlying22 h9
 have q9 := seg_go e9 10 rfl
 obtain ⟨n10, e10, k10⟩ := td_u64 Tryz.underlying22 h10
 have q10 := seg_go e10 11 rfl
 obtain ⟨n11, e11, k11⟩ := td_u64 Tryz.underlying22 h11
 have q11 := seg_go e11 12 rfl
 have qe : cs.drop 12 = [] := List.drop_eq_nil_of_le (by omega)
 refine ⟨⟨n0, n1, n2, n3, n4, n5, n6, n7, n8, n9, n10, n11⟩, ⟨k0, k1, k2, k3, k4, k5, k6, k7, k8, k9, k10, k11⟩, ?_⟩
 refine (show cs = cs.drop 0 from rfl).trans ?_
 rw [q0, q1, q2, q3, q4, q5, q6, q7, q8, q9, q10, q11, qe]
 simp only [Par.cl, List.append_assoc, List.cons_append, List.nil_append, List.append_nil]
theorem cellsT_Co : Tryz.prog.cellsOf 54 = 1 := by kernel_rfl
theorem fieldsT_Co : ∃ fs, Tryz.prog.underlying 54 = some (.struct fs) ∧ fs.size = 1 ∧ (fs[0]?).map (fun f => (f.type, f.offset)) = some (52, 0) := ⟨_, rfl, by kernel_rfl, by kernel_rfl⟩
set_option maxHeartbeats 1000000 in
theorem td_Co {fuel : Nat} {cs : List Value} {x : DataW H × List MemPlace} (h : DataW.trod enc Tryz.prog W 0 sp held fuel 54 cs = some x) : ∃ m : Cou, (m.ok ∧ m.at W) ∧ cs = m.cl := by
 obtain ⟨fs, hu, hs, f0⟩ := fieldsT_Co
 obtain ⟨_, _, _, _, hlen, _, _⟩ := DataW.trod_struct hu h
 rw [cellsT_Co] at hlen
 obtain ⟨_, y0, h0⟩ := td_field hu h 0 (by omega) f0
 rw [cellsT_lMe] at h0
 obtain ⟨A0, n0, c0, l0, e0, hn0, ho0, hr0⟩ := td_list0 (cl := Mem.cl) (ok := Mem.ok) Tryz.underlying52 cellsT_Me (fun m h => m.cl_len) (by omega) (fun h => td_Me h) h0
 have q0 := seg_go e0 1 rfl
 have qe : cs.drop 1 = [] := List.drop_eq_nil_of_le (by omega)
 refine ⟨⟨A0, n0, c0, l0⟩, ⟨⟨hn0, ho0⟩, hr0⟩, ?_⟩
 refine (show cs = cs.drop 0 from rfl).trans ?_
 rw [q0, qe]
 simp only [Cou.cl, List.append_assoc, List.cons_append, List.nil_append, List.append_nil]
theorem cellsT_Ps : Tryz.prog.cellsOf 142 = 3 := by kernel_rfl
theorem fieldsT_Ps : ∃ fs, Tryz.prog.underlying 142 = some (.struct fs) ∧ fs.size = 3 ∧ (fs[0]?).map (fun f => (f.type, f.offset)) = some (22, 0) ∧ (fs[1]?).map (fun f => (f.type, f.offset)) = some (22, 1) ∧ (fs[2]?).map (fun f => (f.type, f.offset)) = some (54, 2) := ⟨_, rfl, by kernel_rfl, by kernel_rfl, by kernel_rfl, by kernel_rfl⟩
set_option maxHeartbeats 1000000 in
theorem td_Ps {fuel : Nat} {cs : List Value} {x : DataW H × List MemPlace} (h : DataW.trod enc Tryz.prog W 0 sp held fuel 142 cs = some x) : ∃ m : Pst, (m.ok ∧ m.cou.at W) ∧ cs = m.cl := by
 obtain ⟨fs, hu, hs, f0, f1, f2⟩ := fieldsT_Ps
 obtain ⟨_, _, _, _, hlen, _, _⟩ := DataW.trod_struct hu h
 rw [cellsT_Ps] at hlen
 obtain ⟨_, y0, h0⟩ := td_field hu h 0 (by omega) f0
 rw [cellsT_u] at h0
 obtain ⟨_, y1, h1⟩ := td_field hu h 1 (by omega) f1
 rw [cellsT_u] at h1
 obtain ⟨_, y2, h2⟩ := td_field hu h 2 (by omega) f2
 rw [cellsT_Co] at h2
 obtain ⟨n0, e0, k0⟩ := td_u64 Tryz.underlying22 h0
 have q0 := seg_go e0 1 rfl
 obtain ⟨n1, e1, k1⟩ := td_u64 Tryz.underlying22 h1
 have q1 := seg_go e1 2 rfl
 obtain ⟨n2, k2, e2⟩ := td_Co h2
 have q2 := seg_go e2 3 rfl
 have qe : cs.drop 3 = [] := List.drop_eq_nil_of_le (by omega)
 refine ⟨⟨n0, n1, n2⟩, ⟨⟨k0, k1, k2.1⟩, k2.2⟩, ?_⟩
 refine (show cs = cs.drop 0 from rfl).trans ?_
 rw [q0, q1, q2, qe]
 simp only [Pst.cl, Cou.cl, List.append_assoc, List.cons_append, List.nil_append, List.append_nil]
theorem cellsT_Ct : Tryz.prog.cellsOf 36 = 35 := by kernel_rfl
theorem fieldsT_Ct : ∃ fs, Tryz.prog.underlying 36 = some (.struct fs) ∧ fs.size = 4 ∧ (fs[0]?).map (fun f => (f.type, f.offset)) = some (22, 0) ∧ (fs[1]?).map (fun f => (f.type, f.offset)) = some (3, 1) ∧ (fs[2]?).map (fun f => (f.type, f.offset)) = some (29, 2) ∧ (fs[3]?).map (fun f => (f.type, f.offset)) = some (34, 34) := ⟨_, rfl, by kernel_rfl, by kernel_rfl, by kernel_rfl, by kernel_rfl, by kernel_rfl⟩
set_option maxHeartbeats 1000000 in
theorem td_Ct {fuel : Nat} {cs : List Value} {x : DataW H × List MemPlace} (h : DataW.trod enc Tryz.prog W 0 sp held fuel 36 cs = some x) (hl : LightB b x.1) (hbb : b ≤ 1048576) : ∃ m : Crt, (m.ok ∧ m.at W ∧ m.n ≤ b) ∧ cs = m.cl := by
 obtain ⟨fs, hu, hs, f0, f1, f2, f3⟩ := fieldsT_Ct
 obtain ⟨_, _, _, _, hlen, _, _⟩ := DataW.trod_struct hu h
 rw [cellsT_Ct] at hlen
 obtain ⟨_, y0, h0, w0⟩ := td_part hu h hl 0 (by omega) f0
 rw [cellsT_u] at h0
 obtain ⟨_, y1, h1, w1⟩ := td_part hu h hl 1 (by omega) f1
 rw [cellsT_i] at h1
 obtain ⟨_, y2, h2, w2⟩ := td_part hu h hl 2 (by omega) f2
 rw [cellsT_h] at h2
 obtain ⟨_, y3, h3, w3⟩ := td_part hu h hl 3 (by omega) f3
 rw [cellsT_lMk] at h3
 obtain ⟨n0, e0, k0⟩ := td_u64 Tryz.underlying22 h0
 have q0 := seg_go e0 1 rfl
 obtain ⟨n1, e1, k1⟩ := td_i64 Tryz.underlying3 h1
 have q1 := seg_go e1 2 rfl
 obtain ⟨n2, k2, e2⟩ := trod_bytes Tryz.underlying29 cellsT_h h2
 have q2 := seg_go e2 34 rfl
 obtain ⟨A3, n3, c3, l3, e3, hn3, ho3, hr3, hb3⟩ := td_list (cl := Mk.cl) (ok := Mk.ok) Tryz.underlying34 cellsT_Mk (fun m h => m.cl_len h) (by omega) (fun h => td_Mk h) h3 w3
 have q3 := seg_go e3 35 rfl
 have qe : cs.drop 35 = [] := List.drop_eq_nil_of_le (by omega)
 refine ⟨⟨n0, n1, n2, A3, n3, c3, l3⟩, ⟨⟨k0, k1, k2, hn3, ho3⟩, hr3, hb3⟩, ?_⟩
 refine (show cs = cs.drop 0 from rfl).trans ?_
 rw [q0, q1, q2, q3, qe]
 simp only [Crt.cl, List.append_assoc, List.cons_append, List.nil_append, List.append_nil]
theorem cellsT_Bk : Tryz.prog.cellsOf 44 = 265 := by kernel_rfl
theorem fieldsT_Bk : ∃ fs, Tryz.prog.underlying 44 = some (.struct fs) ∧ fs.size = 4 ∧ (fs[0]?).map (fun f => (f.type, f.offset)) = some (40, 0) ∧ (fs[1]?).map (fun f => (f.type, f.offset)) = some (41, 228) ∧ (fs[2]?).map (fun f => (f.type, f.offset)) = some (42, 229) ∧ (fs[3]?).map (fun f => (f.type, f.offset)) = some (36, 230) := ⟨_, rfl, by kernel_rfl, by kernel_rfl, by kernel_rfl, by kernel_rfl, by kernel_rfl⟩
set_option maxHeartbeats 1000000 in
theorem td_Bk {fuel : Nat} {cs : List Value} {x : DataW H × List MemPlace} (h : DataW.trod enc Tryz.prog W 0 sp held fuel 44 cs = some x) (hl : LightB b x.1) (hbb : b ≤ 1048576) : ∃ m : Blk, (m.ok ∧ m.at W) ∧ cs = m.cl := by
 obtain ⟨fs, hu, hs, f0, f1, f2, f3⟩ := fieldsT_Bk
 obtain ⟨_, _, _, _, hlen, _, _⟩ := DataW.trod_struct hu h
 rw [cellsT_Bk] at hlen
 obtain ⟨_, y0, h0, w0⟩ := td_part hu h hl 0 (by omega) f0
 rw [cellsT_Hd] at h0
 obtain ⟨_, y1, h1, w1⟩ := td_part hu h hl 1 (by omega) f1
 rw [cellsT_lTx] at h1
 obtain ⟨_, y2, h2, w2⟩ := td_part hu h hl 2 (by omega) f2
 rw [cellsT_lEv] at h2
 obtain ⟨_, y3, h3, w3⟩ := td_part hu h hl 3 (by omega) f3
 rw [cellsT_Ct] at h3
 obtain ⟨n0, k0, e0⟩ := td_Hd h0
 have q0 := seg_go e0 228 rfl
 obtain ⟨A1, n1, c1, l1, e1, hn1, ho1, hr1, hb1⟩ := td_list (cl := Tx.cl) (ok := Tx.ok) Tryz.underlying41 cellsT_Tx (fun m h => m.cl_len h) (by omega) (fun h => td_Tx h) h1 w1
 have q1 := seg_go e1 229 rfl
 obtain ⟨A2, n2, c2, l2, e2, hn2, ho2, hr2, hb2⟩ := td_list (cl := Ev.cl) (ok := Ev.ok) Tryz.underlying42 cellsT_Ev (fun m h => m.cl_len h) (by omega) (fun h => td_Ev h) h2 w2
 have q2 := seg_go e2 230 rfl
 obtain ⟨n3, k3, e3⟩ := td_Ct h3 w3 hbb
 have q3 := seg_go e3 265 rfl
 have qe : cs.drop 265 = [] := List.drop_eq_nil_of_le (by omega)
 refine ⟨⟨n0, A1, n1, c1, l1, A2, n2, c2, l2, n3⟩, ⟨⟨k0, hn1, ho1, le64 hb1 hbb, hn2, ho2, le176 hb2 hbb, k3.1, le32 k3.2.2 hbb⟩, hr1, hr2, k3.2.1⟩, ?_⟩
 refine (show cs = cs.drop 0 from rfl).trans ?_
 rw [q0, q1, q2, q3, qe]
 simp only [Blk.cl, List.append_assoc, List.cons_append, List.nil_append, List.append_nil]
theorem cellsT_Mg : Tryz.prog.cellsOf 47 = 484 := by kernel_rfl
theorem fieldsT_Mg : ∃ fs, Tryz.prog.underlying 47 = some (.struct fs) ∧ fs.size = 9 ∧ (fs[0]?).map (fun f => (f.type, f.offset)) = some (3, 0) ∧ (fs[1]?).map (fun f => (f.type, f.offset)) = some (33, 1) ∧ (fs[2]?).map (fun f => (f.type, f.offset)) = some (44, 53) ∧ (fs[3]?).map (fun f => (f.type, f.offset)) = some (45, 318) ∧ (fs[4]?).map (fun f => (f.type, f.offset)) = some (36, 319) ∧ (fs[5]?).map (fun f => (f.type, f.offset)) = some (27, 354) ∧ (fs[6]?).map (fun f => (f.type, f.offset)) = some (38, 376) ∧ (fs[7]?).map (fun f => (f.type, f.offset)) = some (22, 482) ∧ (fs[8]?).map (fun f => (f.type, f.offset)) = some (3, 483) := ⟨_, rfl, by kernel_rfl, by kernel_rfl, by kernel_rfl, by kernel_rfl, by kernel_rfl, by kernel_rfl, by kernel_rfl, by kernel_rfl, by kernel_rfl, by kernel_rfl⟩
set_option maxHeartbeats 1000000 in
theorem td_Mg {fuel : Nat} {cs : List Value} {x : DataW H × List MemPlace} (h : DataW.trod enc Tryz.prog W 0 sp held fuel 47 cs = some x) (hl : LightB b x.1) (hbb : b ≤ 1048576) : ∃ m : Mg, (m.ok ∧ m.at W) ∧ cs = m.cl := by
 obtain ⟨fs, hu, hs, f0, f1, f2, f3, f4, f5, f6, f7, f8⟩ := fieldsT_Mg
 obtain ⟨_, _, _, _, hlen, _, _⟩ := DataW.trod_struct hu h
 rw [cellsT_Mg] at hlen
 obtain ⟨_, y0, h0, w0⟩ := td_part hu h hl 0 (by omega) f0
 rw [cellsT_i] at h0
 obtain ⟨_, y1, h1, w1⟩ := td_part hu h hl 1 (by omega) f1
 rw [cellsT_Pr] at h1
 obtain ⟨_, y2, h2, w2⟩ := td_part hu h hl 2 (by omega) f2
 rw [cellsT_Bk] at h2
 obtain ⟨_, y3, h3, w3⟩ := td_part hu h hl 3 (by omega) f3
 rw [cellsT_lVo] at h3
 obtain ⟨_, y4, h4, w4⟩ := td_part hu h hl 4 (by omega) f4
 rw [cellsT_Ct] at h4
 obtain ⟨_, y5, h5, w5⟩ := td_part hu h hl 5 (by omega) f5
 rw [cellsT_Tx] at h5
 obtain ⟨_, y6, h6, w6⟩ := td_part hu h hl 6 (by omega) f6
 rw [cellsT_Ev] at h6
 obtain ⟨_, y7, h7, w7⟩ := td_part hu h hl 7 (by omega) f7
 rw [cellsT_u] at h7
 obtain ⟨_, y8, h8, w8⟩ := td_part hu h hl 8 (by omega) f8
 rw [cellsT_i] at h8
 obtain ⟨n0, e0, k0⟩ := td_i64 Tryz.underlying3 h0
 have q0 := seg_go e0 1 rfl
 obtain ⟨n1, k1, e1⟩ := td_Pr h1
 have q1 := seg_go e1 53 rfl
 obtain ⟨n2, k2, e2⟩ := td_Bk h2 w2 hbb
 have q2 := seg_go e2 318 rfl
 obtain ⟨A3, n3, c3, l3, e3, hn3, ho3, hr3, hb3⟩ := td_list (cl := Vote.cl) (ok := Vote.ok) Tryz.underlying45 cellsT_Vo (fun m h => m.cl_len h) (by omega) (fun h => td_Vo h) h3 w3
 have q3 := seg_go e3 319 rfl
 obtain ⟨n4, k4, e4⟩ := td_Ct h4 w4 hbb
 have q4 := seg_go e4 354 rfl
 obtain ⟨n5, k5, e5⟩ := td_Tx h5
 have q5 := seg_go e5 376 rfl
 obtain ⟨n6, k6, e6⟩ := td_Ev h6
 have q6 := seg_go e6 482 rfl
 obtain ⟨n7, e7, k7⟩ := td_u64 Tryz.underlying22 h7
 have q7 := seg_go e7 483 rfl
 obtain ⟨n8, e8, k8⟩ := td_i64 Tryz.underlying3 h8
 have q8 := seg_go e8 484 rfl
 have qe : cs.drop 484 = [] := List.drop_eq_nil_of_le (by omega)
 refine ⟨⟨n0, ⟨n1, n2, A3, n3, c3, l3, n4, n5, n6, n7, n8, false, 0⟩⟩, ⟨⟨k0, ⟨k1, k2.1, hn3, ho3, le112 hb3 hbb, k4.1, le32 k4.2.2 hbb, k5, k6, k7, k8, i0⟩, rfl, rfl⟩, ⟨k2.2, hr3, k4.2.1⟩⟩, ?_⟩
 refine (show cs = cs.drop 0 from rfl).trans ?_
 rw [q0, q1, q2, q3, q4, q5, q6, q7, q8, qe]
 simp only [Mg.cl, msgCl, List.append_assoc, List.cons_append, List.nil_append, List.append_nil]
theorem cellsT_Ip : Tryz.prog.cellsOf 49 = 323 := by kernel_rfl
theorem fieldsT_Ip : ∃ fs, Tryz.prog.underlying 49 = some (.struct fs) ∧ fs.size = 8 ∧ (fs[0]?).map (fun f => (f.type, f.offset)) = some (3, 0) ∧ (fs[1]?).map (fun f => (f.type, f.offset)) = some (22, 1) ∧ (fs[2]?).map (fun f => (f.type, f.offset)) = some (33, 2) ∧ (fs[3]?).map (fun f => (f.type, f.offset)) = some (44, 54) ∧ (fs[4]?).map (fun f => (f.type, f.offset)) = some (45, 319) ∧ (fs[5]?).map (fun f => (f.type, f.offset)) = some (4, 320) ∧ (fs[6]?).map (fun f => (f.type, f.offset)) = some (3, 321) ∧ (fs[7]?).map (fun f => (f.type, f.offset)) = some (3, 322) := ⟨_, rfl, by kernel_rfl, by kernel_rfl, by kernel_rfl, by kernel_rfl, by kernel_rfl, by kernel_rfl, by kernel_rfl, by kernel_rfl, by kernel_rfl⟩
set_option maxHeartbeats 1000000 in
theorem td_Ip {fuel : Nat} {cs : List Value} {x : DataW H × List MemPlace} (h : DataW.trod enc Tryz.prog W 0 sp held fuel 49 cs = some x) (hl : LightB b x.1) (hbb : b ≤ 1048576) : ∃ m : Ip, (m.ok ∧ m.at W) ∧ cs = m.cl := by
 obtain ⟨fs, hu, hs, f0, f1, f2, f3, f4, f5, f6, f7⟩ := fieldsT_Ip
 obtain ⟨_, _, _, _, hlen, _, _⟩ := DataW.trod_struct hu h
 rw [cellsT_Ip] at hlen
 obtain ⟨_, y0, h0, w0⟩ := td_part hu h hl 0 (by omega) f0
 rw [cellsT_i] at h0
 obtain ⟨_, y1, h1, w1⟩ := td_part hu h hl 1 (by omega) f1
 rw [cellsT_u] at h1
 obtain ⟨_, y2, h2, w2⟩ := td_part hu h hl 2 (by omega) f2
 rw [cellsT_Pr] at h2
 obtain ⟨_, y3, h3, w3⟩ := td_part hu h hl 3 (by omega) f3
 rw [cellsT_Bk] at h3
 obtain ⟨_, y4, h4, w4⟩ := td_part hu h hl 4 (by omega) f4
 rw [cellsT_lVo] at h4
 obtain ⟨_, y5, h5, w5⟩ := td_part hu h hl 5 (by omega) f5
 rw [cellsT_b] at h5
 obtain ⟨_, y6, h6, w6⟩ := td_part hu h hl 6 (by omega) f6
 rw [cellsT_i] at h6
 obtain ⟨_, y7, h7, w7⟩ := td_part hu h hl 7 (by omega) f7
 rw [cellsT_i] at h7
 obtain ⟨n0, e0, k0⟩ := td_i64 Tryz.underlying3 h0
 have q0 := seg_go e0 1 rfl
 obtain ⟨n1, e1, k1⟩ := td_u64 Tryz.underlying22 h1
 have q1 := seg_go e1 2 rfl
 obtain ⟨n2, k2, e2⟩ := td_Pr h2
 have q2 := seg_go e2 54 rfl
 obtain ⟨n3, k3, e3⟩ := td_Bk h3 w3 hbb
 have q3 := seg_go e3 319 rfl
 obtain ⟨A4, n4, c4, l4, e4, hn4, ho4, hr4, hb4⟩ := td_list (cl := Vote.cl) (ok := Vote.ok) Tryz.underlying45 cellsT_Vo (fun m h => m.cl_len h) (by omega) (fun h => td_Vo h) h4 w4
 have q4 := seg_go e4 320 rfl
 obtain ⟨n5, e5⟩ := DataW.trod_bool Tryz.underlying4 h5
 have e5 := e5.1
 have q5 := seg_go e5 321 rfl
 obtain ⟨n6, e6, k6⟩ := td_i64 Tryz.underlying3 h6
 have q6 := seg_go e6 322 rfl
 obtain ⟨n7, e7, k7⟩ := td_i64 Tryz.underlying3 h7
 have q7 := seg_go e7 323 rfl
 have qe : cs.drop 323 = [] := List.drop_eq_nil_of_le (by omega)
 refine ⟨⟨n0, n1, ⟨n2, n3, A4, n4, c4, l4, zeroCt, zeroT, zeroE, 0, n7, n5, n6⟩⟩, ⟨⟨k0, k1, ⟨k2, k3.1, hn4, ho4, le112 hb4 hbb, zeroCt_ok, zeroCt_b, zeroT_ok, zeroE_ok, u0, k7, k6⟩, rfl, rfl, rfl, rfl⟩, ⟨k3.2, hr4, Rd.nil _ _⟩⟩, ?_⟩
 refine (show cs = cs.drop 0 from rfl).trans ?_
 rw [q0, q1, q2, q3, q4, q5, q6, q7, qe]
 simp only [Ip.cl, inputCl, List.append_assoc, List.cons_append, List.nil_append, List.append_nil]
structure Led where
 aA : Option Addr
 an : Nat
 ac : Nat
 acs : List Acc
 rA : Option Addr
 rn : Nat
 rc : Nat
 rs : List Rls
 burnt : Int
 supply : Int
def Led.cl (x : Led) : List Value := [.slice x.aA x.an x.ac, .slice x.rA x.rn x.rc, .int .u64 x.burnt, .int .u64 x.supply]
structure Led.good (x : Led) (b : Nat) (w : World) : Prop where
 an : x.an = x.acs.length
 acs : ∀ p ∈ x.acs, p.ok
 a : Rd w x.aA (x.acs.flatMap Acc.cl)
 ab : x.an ≤ b
 rn : x.rn = x.rs.length
 rs : ∀ p ∈ x.rs, p.ok
 r : Rd w x.rA (x.rs.flatMap Rls.cl)
 rb : x.rn ≤ b
 burnt : U64 x.burnt
 supply : U64 x.supply
theorem cellsT_Le : Tryz.prog.cellsOf 60 = 4 := by kernel_rfl
theorem fieldsT_Le : ∃ fs, Tryz.prog.underlying 60 = some (.struct fs) ∧ fs.size = 4 ∧ (fs[0]?).map (fun f => (f.type, f.offset)) = some (57, 0) ∧ (fs[1]?).map (fun f => (f.type, f.offset)) = some (58, 1) ∧ (fs[2]?).map (fun f => (f.type, f.offset)) = some (22, 2) ∧ (fs[3]?).map (fun f => (f.type, f.offset)) = some (22, 3) := ⟨_, rfl, by kernel_rfl, by kernel_rfl, by kernel_rfl, by kernel_rfl, by kernel_rfl⟩
set_option maxHeartbeats 1000000 in
theorem td_Le {fuel : Nat} {cs : List Value} {x : DataW H × List MemPlace} (h : DataW.trod enc Tryz.prog W 0 sp held fuel 60 cs = some x) (hl : LightB b x.1) (hbb : b ≤ 1048576) : ∃ m : Led, m.good b W ∧ cs = m.cl := by
 obtain ⟨fs, hu, hs, f0, f1, f2, f3⟩ := fieldsT_Le
 obtain ⟨_, _, _, _, hlen, _, _⟩ := DataW.trod_struct hu h
 rw [cellsT_Le] at hlen
 obtain ⟨_, y0, h0, w0⟩ := td_part hu h hl 0 (by omega) f0
 rw [cellsT_lAc] at h0
 obtain ⟨_, y1, h1, w1⟩ := td_part hu h hl 1 (by omega) f1
 rw [cellsT_lRl] at h1
 obtain ⟨_, y2, h2, w2⟩ := td_part hu h hl 2 (by omega) f2
 rw [cellsT_u] at h2
 obtain ⟨_, y3, h3, w3⟩ := td_part hu h hl 3 (by omega) f3
 rw [cellsT_u] at h3
 obtain ⟨A0, n0, c0, l0, e0, hn0, ho0, hr0, hb0⟩ := td_list (cl := Acc.cl) (ok := Acc.ok) Tryz.underlying57 cellsT_Ac (fun m h => rfl) (by omega) (fun h => td_Ac h) h0 w0
 have q0 := seg_go e0 1 rfl
 obtain ⟨A1, n1, c1, l1, e1, hn1, ho1, hr1, hb1⟩ := td_list (cl := Rls.cl) (ok := Rls.ok) Tryz.underlying58 cellsT_Rl (fun m h => rfl) (by omega) (fun h => td_Rl h) h1 w1
 have q1 := seg_go e1 2 rfl
 obtain ⟨n2, e2, k2⟩ := td_u64 Tryz.underlying22 h2
 have q2 := seg_go e2 3 rfl
 obtain ⟨n3, e3, k3⟩ := td_u64 Tryz.underlying22 h3
 have q3 := seg_go e3 4 rfl
 have qe : cs.drop 4 = [] := List.drop_eq_nil_of_le (by omega)
 refine ⟨⟨A0, n0, c0, l0, A1, n1, c1, l1, n2, n3⟩, ⟨hn0, ho0, hr0, hb0, hn1, ho1, hr1, hb1, k2, k3⟩, ?_⟩
 refine (show cs = cs.drop 0 from rfl).trans ?_
 rw [q0, q1, q2, q3, qe]
 simp only [Led.cl, List.append_assoc, List.cons_append, List.nil_append, List.append_nil]
structure Sta.lim (x : Sta) (b : Nat) : Prop where
 p : x.pn ≤ b
 o : x.on ≤ b
 a : x.an ≤ b
 r : x.rn ≤ b
theorem cellsT_St : Tryz.prog.cellsOf 62 = 55 := by kernel_rfl
theorem fieldsT_St : ∃ fs, Tryz.prog.underlying 62 = some (.struct fs) ∧ fs.size = 10 ∧ (fs[0]?).map (fun f => (f.type, f.offset)) = some (9, 0) ∧ (fs[1]?).map (fun f => (f.type, f.offset)) = some (51, 1) ∧ (fs[2]?).map (fun f => (f.type, f.offset)) = some (22, 13) ∧ (fs[3]?).map (fun f => (f.type, f.offset)) = some (22, 14) ∧ (fs[4]?).map (fun f => (f.type, f.offset)) = some (29, 15) ∧ (fs[5]?).map (fun f => (f.type, f.offset)) = some (54, 47) ∧ (fs[6]?).map (fun f => (f.type, f.offset)) = some (54, 48) ∧ (fs[7]?).map (fun f => (f.type, f.offset)) = some (55, 49) ∧ (fs[8]?).map (fun f => (f.type, f.offset)) = some (56, 50) ∧ (fs[9]?).map (fun f => (f.type, f.offset)) = some (60, 51) := ⟨_, rfl, by kernel_rfl, by kernel_rfl, by kernel_rfl, by kernel_rfl, by kernel_rfl, by kernel_rfl, by kernel_rfl, by kernel_rfl, by kernel_rfl, by kernel_rfl, by kernel_rfl⟩
set_option maxHeartbeats 1000000 in
theorem td_St {fuel : Nat} {cs : List Value} {x : DataW H × List MemPlace} (h : DataW.trod enc Tryz.prog W 0 sp held fuel 62 cs = some x) (hl : LightB b x.1) (hbb : b ≤ 1048576) : ∃ m : Sta, (m.ok ∧ m.at W ∧ m.lim b) ∧ cs = m.cl := by
 obtain ⟨fs, hu, hs, f0, f1, f2, f3, f4, f5, f6, f7, f8, f9⟩ := fieldsT_St
 obtain ⟨_, _, _, _, hlen, _, _⟩ := DataW.trod_struct hu h
 rw [cellsT_St] at hlen
 obtain ⟨_, y0, h0, w0⟩ := td_part hu h hl 0 (by omega) f0
 rw [cellsT_s] at h0
 obtain ⟨_, y1, h1, w1⟩ := td_part hu h hl 1 (by omega) f1
 rw [cellsT_Pa] at h1
 obtain ⟨_, y2, h2, w2⟩ := td_part hu h hl 2 (by omega) f2
 rw [cellsT_u] at h2
 obtain ⟨_, y3, h3, w3⟩ := td_part hu h hl 3 (by omega) f3
 rw [cellsT_u] at h3
 obtain ⟨_, y4, h4, w4⟩ := td_part hu h hl 4 (by omega) f4
 rw [cellsT_h] at h4
 obtain ⟨_, y5, h5, w5⟩ := td_part hu h hl 5 (by omega) f5
 rw [cellsT_Co] at h5
 obtain ⟨_, y6, h6, w6⟩ := td_part hu h hl 6 (by omega) f6
 rw [cellsT_Co] at h6
 obtain ⟨_, y7, h7, w7⟩ := td_part hu h hl 7 (by omega) f7
 rw [cellsT_lPs] at h7
 obtain ⟨_, y8, h8, w8⟩ := td_part hu h hl 8 (by omega) f8
 rw [cellsT_lOf] at h8
 obtain ⟨_, y9, h9, w9⟩ := td_part hu h hl 9 (by omega) f9
 rw [cellsT_Le] at h9
 obtain ⟨n0, e0, k0⟩ := td_str Tryz.underlying9 h0
 have q0 := seg_go e0 1 rfl
 obtain ⟨n1, k1, e1⟩ := td_Pa h1
 have q1 := seg_go e1 13 rfl
 obtain ⟨n2, e2, k2⟩ := td_u64 Tryz.underlying22 h2
 have q2 := seg_go e2 14 rfl
 obtain ⟨n3, e3, k3⟩ := td_u64 Tryz.underlying22 h3
 have q3 := seg_go e3 15 rfl
 obtain ⟨n4, k4, e4⟩ := trod_bytes Tryz.underlying29 cellsT_h h4
 have q4 := seg_go e4 47 rfl
 obtain ⟨n5, k5, e5⟩ := td_Co h5
 have q5 := seg_go e5 48 rfl
 obtain ⟨n6, k6, e6⟩ := td_Co h6
 have q6 := seg_go e6 49 rfl
 obtain ⟨A7, n7, c7, l7, e7, hn7, ho7, hr7, hb7⟩ := td_list (cl := Pst.cl) (ok := (fun p => Pst.ok p ∧ p.cou.at W)) Tryz.underlying55 cellsT_Ps (fun m h => rfl) (by omega) (fun h => td_Ps h) h7 w7
 have q7 := seg_go e7 50 rfl
 obtain ⟨A8, n8, c8, l8, e8, hn8, ho8, hr8, hb8⟩ := td_list (cl := Off.cl) (ok := Off.ok) Tryz.underlying56 cellsT_Of (fun m h => rfl) (by omega) (fun h => td_Of h) h8 w8
 have q8 := seg_go e8 51 rfl
 obtain ⟨n9, k9, e9⟩ := td_Le h9 w9 hbb
 have q9 := seg_go e9 55 rfl
 have qe : cs.drop 55 = [] := List.drop_eq_nil_of_le (by omega)
 refine ⟨⟨n0, n1, n2, n3, n4, n5, n6, A7, n7, c7, l7, A8, n8, c8, l8, n9.aA, n9.an, n9.ac, n9.acs, n9.rA, n9.rn, n9.rc, n9.rs, n9.burnt, n9.supply⟩, ⟨⟨k0, k1, k2, k3, k4, k5.1, k6.1, hn7, fun p hp => (ho7 p hp).1, hn8, ho8, k9.an, k9.acs, k9.rn, k9.rs, k9.burnt, k9.supply⟩, ⟨k5.2, k6.2, hr7, fun p hp => (ho7 p hp).2, hr8, k9.a, k9.r⟩, ⟨hb7, hb8, k9.ab, k9.rb⟩⟩, ?_⟩
 refine (show cs = cs.drop 0 from rfl).trans ?_
 rw [q0, q1, q2, q3, q4, q5, q6, q7, q8, q9, qe]
 simp only [Sta.cl, Led.cl, List.append_assoc, List.cons_append, List.nil_append, List.append_nil]
/-- one of ten kinds of things -/
structure Thg where
 which : Int
 tx : Tx
 vote : Vote
 prop : Proposal
 crt : Crt
 ev : Ev
 hd : Hdr
 blk : Blk
 mg : Mg
 ip : Ip
 st : Sta
def Thg.cl (x : Thg) : List Value := [.int .i64 x.which] ++ (x.tx.cl ++ (x.vote.cl ++ (x.prop.cl ++ (x.crt.cl ++ (x.ev.cl ++ (x.hd.cl ++ (x.blk.cl ++ (x.mg.cl ++ (x.ip.cl ++ x.st.cl)))))))))
structure Thg.ok (x : Thg) : Prop where
 which : I64 x.which
 tx : x.tx.ok
 vote : x.vote.ok
 prop : x.prop.ok
 crt : x.crt.ok
 ev : x.ev.ok
 hd : x.hd.ok
 blk : x.blk.ok
 mg : x.mg.ok
 ip : x.ip.ok
 st : x.st.ok
structure Thg.at (x : Thg) (w : World) : Prop where
 crt : x.crt.at w
 blk : x.blk.at w
 mg : x.mg.at w
 ip : x.ip.at w
 st : x.st.at w
structure Thg.lim (x : Thg) (b : Nat) : Prop where
 crt : x.crt.n ≤ b
 st : x.st.lim b
theorem cellsT_Th : Tryz.prog.cellsOf 64 = 1624 := by kernel_rfl
theorem fieldsT_Th : ∃ fs, Tryz.prog.underlying 64 = some (.struct fs) ∧ fs.size = 11 ∧ (fs[0]?).map (fun f => (f.type, f.offset)) = some (3, 0) ∧ (fs[1]?).map (fun f => (f.type, f.offset)) = some (27, 1) ∧ (fs[2]?).map (fun f => (f.type, f.offset)) = some (31, 23) ∧ (fs[3]?).map (fun f => (f.type, f.offset)) = some (33, 76) ∧ (fs[4]?).map (fun f => (f.type, f.offset)) = some (36, 128) ∧ (fs[5]?).map (fun f => (f.type, f.offset)) = some (38, 163) ∧ (fs[6]?).map (fun f => (f.type, f.offset)) = some (40, 269) ∧ (fs[7]?).map (fun f => (f.type, f.offset)) = some (44, 497) ∧ (fs[8]?).map (fun f => (f.type, f.offset)) = some (47, 762) ∧ (fs[9]?).map (fun f => (f.type, f.offset)) = some (49, 1246) ∧ (fs[10]?).map (fun f => (f.type, f.offset)) = some (62, 1569) := ⟨_, rfl, by kernel_rfl, by kernel_rfl, by kernel_rfl, by kernel_rfl, by kernel_rfl, by kernel_rfl, by kernel_rfl, by kernel_rfl, by kernel_rfl, by kernel_rfl, by kernel_rfl, by kernel_rfl⟩
set_option maxHeartbeats 1000000 in
theorem td_Th {fuel : Nat} {cs : List Value} {x : DataW H × List MemPlace} (h : DataW.trod enc Tryz.prog W 0 sp held fuel 64 cs = some x) (hl : LightB b x.1) (hbb : b ≤ 1048576) : ∃ m : Thg, (m.ok ∧ m.at W ∧ m.lim b) ∧ cs = m.cl := by
 obtain ⟨fs, hu, hs, f0, f1, f2, f3, f4, f5, f6, f7, f8, f9, f10⟩ := fieldsT_Th
 obtain ⟨_, _, _, _, hlen, _, _⟩ := DataW.trod_struct hu h
 rw [cellsT_Th] at hlen
 obtain ⟨_, y0, h0, w0⟩ := td_part hu h hl 0 (by omega) f0
 rw [cellsT_i] at h0
 obtain ⟨_, y1, h1, w1⟩ := td_part hu h hl 1 (by omega) f1
 rw [cellsT_Tx] at h1
 obtain ⟨_, y2, h2, w2⟩ := td_part hu h hl 2 (by omega) f2
 rw [cellsT_Vo] at h2
 obtain ⟨_, y3, h3, w3⟩ := td_part hu h hl 3 (by omega) f3
 rw [cellsT_Pr] at h3
 obtain ⟨_, y4, h4, w4⟩ := td_part hu h hl 4 (by omega) f4
 rw [cellsT_Ct] at h4
 obtain ⟨_, y5, h5, w5⟩ := td_part hu h hl 5 (by omega) f5
 rw [cellsT_Ev] at h5
 obtain ⟨_, y6, h6, w6⟩ := td_part hu h hl 6 (by omega) f6
 rw [cellsT_Hd] at h6
 obtain ⟨_, y7, h7, w7⟩ := td_part hu h hl 7 (by omega) f7
 rw [cellsT_Bk] at h7
 obtain ⟨_, y8, h8, w8⟩ := td_part hu h hl 8 (by omega) f8
 rw [cellsT_Mg] at h8
 obtain ⟨_, y9, h9, w9⟩ := td_part hu h hl 9 (by omega) f9
 rw [cellsT_Ip] at h9
 obtain ⟨_, y10, h10, w10⟩ := td_part hu h hl 10 (by omega) f10
 rw [cellsT_St] at h10
 obtain ⟨n0, e0, k0⟩ := td_i64 Tryz.underlying3 h0
 have q0 := seg_go e0 1 rfl
 obtain ⟨n1, k1, e1⟩ := td_Tx h1
 have q1 := seg_go e1 23 rfl
 obtain ⟨n2, k2, e2⟩ := td_Vo h2
 have q2 := seg_go e2 76 rfl
 obtain ⟨n3, k3, e3⟩ := td_Pr h3
 have q3 := seg_go e3 128 rfl
 obtain ⟨n4, k4, e4⟩ := td_Ct h4 w4 hbb
 have q4 := seg_go e4 163 rfl
 obtain ⟨n5, k5, e5⟩ := td_Ev h5
 have q5 := seg_go e5 269 rfl
 obtain ⟨n6, k6, e6⟩ := td_Hd h6
 have q6 := seg_go e6 497 rfl
 obtain ⟨n7, k7, e7⟩ := td_Bk h7 w7 hbb
 have q7 := seg_go e7 762 rfl
 obtain ⟨n8, k8, e8⟩ := td_Mg h8 w8 hbb
 have q8 := seg_go e8 1246 rfl
 obtain ⟨n9, k9, e9⟩ := td_Ip h9 w9 hbb
 have q9 := seg_go e9 1569 rfl
 obtain ⟨n10, k10, e10⟩ := td_St h10 w10 hbb
 have q10 := seg_go e10 1624 rfl
 have qe : cs.drop 1624 = [] := List.drop_eq_nil_of_le (by omega)
 refine ⟨⟨n0, n1, n2, n3, n4, n5, n6, n7, n8, n9, n10⟩, ⟨⟨k0, k1, k2, k3, k4.1, k5, k6, k7.1, k8.1, k9.1, k10.1⟩, ⟨k4.2.1, k7.2, k8.2, k9.2, k10.2.1⟩, ⟨k4.2.2, k10.2.2⟩⟩, ?_⟩
 refine (show cs = cs.drop 0 from rfl).trans ?_
 rw [q0, q1, q2, q3, q4, q5, q6, q7, q8, q9, q10, qe]
 simp only [Thg.cl, List.append_assoc, List.cons_append, List.nil_append, List.append_nil]
theorem Thg.cl_len (x : Thg) (h : x.ok) : x.cl.length = 1624 := by
 simp [Thg.cl, x.tx.cl_len h.tx, x.vote.cl_len h.vote, x.prop.cl_len h.prop, x.crt.cl_len h.crt, x.ev.cl_len h.ev, x.hd.cl_len h.hd, x.blk.len h.blk, x.mg.cl_len h.mg, x.ip.cl_len h.ip, x.st.len h.st.last]
end
end Go.Proofs.YtlhnhjglcbggmaaGreatRR

/-
  A block among the arguments opened, its lists too, each of a size that the row's reach bears. No condition.
-/
import Derived.Test.YtjdegphpalhapaaDoorK26
import Derived.Test.YtjdegphpalhapaaDoorK38
namespace Go.Proofs.YtjdegphpalhapaaDoor
set_option linter.unusedSimpArgs false
set_option linter.unusedVariables false
open Go.ChangeShapes Go.WideShapes Go.ChangeAt Go.RowKit
set_option maxRecDepth 100000

section
variable {H : Type} {enc : TypeId × Value → H} {W : World} {sp : Nat → Bool} {held : Bool}
/-- each string, slice and map of it is within reach -/
def Light (t : TypeId) (d : DataW H) : Prop := ∀ k ∈ d.weights Tryd.prog t, k ≤ reachBytes
theorem trod_part {t : TypeId} {fs : Array Field} {fuel : Nat} {cs : List Value} {x : DataW H × List MemPlace} (hu : Tryd.prog.underlying t = some (.struct fs)) (h : DataW.trod enc Tryd.prog W 0 sp held fuel t cs = some x) (hl : Light t x.1) (i : Nat) {ft : TypeId} {off : Nat} (hi : i < fs.size) (hf : (fs[i]?).map (fun f => (f.type, f.offset)) = some (ft, off)) :
    ∃ n y, DataW.trod enc Tryd.prog W 0 sp held n ft ((cs.drop off).take (Tryd.prog.cellsOf ft)) = some y ∧ Light ft y.1 := by
  obtain ⟨xs, n, _, hx, _, hlen, ht⟩ := DataW.trod_struct hu h
  obtain ⟨f, hf1, hf2⟩ := Option.map_eq_some_iff.1 hf
  have := ht i f hf1
  simp only [Prod.mk.injEq] at hf2
  have hxi : xs[i]? = some (xs[i]'(by omega)) := List.getElem?_eq_getElem (by omega)
  rw [hf2.1, hf2.2, hxi] at this
  refine ⟨n, _, this, fun k hk => hl k ?_⟩
  rw [hx]
  unfold DataW.weights
  rw [hu]
  refine DataW.weights_mem_each (j := i) (t := ft) (d := (xs[i]'(by omega)).1) ?_ ?_ k hk
  · rw [List.getElem?_map, Array.getElem?_toList, hf1, Option.map_some, hf2.1]
  · rw [List.getElem?_map, hxi]; rfl
theorem trod_i64 {t : TypeId} {fuel : Nat} {cs : List Value} {off : Nat} {x : DataW H × List MemPlace} (ht : Tryd.prog.underlying t = some (.int .i64)) (hc : Tryd.prog.cellsOf t = 1) (h : DataW.trod enc Tryd.prog W 0 sp held fuel t ((cs.drop off).take (Tryd.prog.cellsOf t)) = some x) : ∃ n, cs[off]? = some (.int .i64 n) ∧ I64 n := by
  rw [hc] at h
  obtain ⟨n, k, _, w⟩ := DataW.trod_int ht h
  exact ⟨n, one_at k, wf_i64 w⟩
theorem trod_u64 {t : TypeId} {fuel : Nat} {cs : List Value} {off : Nat} {x : DataW H × List MemPlace} (ht : Tryd.prog.underlying t = some (.int .u64)) (hc : Tryd.prog.cellsOf t = 1) (h : DataW.trod enc Tryd.prog W 0 sp held fuel t ((cs.drop off).take (Tryd.prog.cellsOf t)) = some x) : ∃ n, cs[off]? = some (.int .u64 n) ∧ U64 n := by
  rw [hc] at h
  obtain ⟨n, k, _, w⟩ := DataW.trod_int ht h
  exact ⟨n, one_at k, wf_u64 w⟩
theorem cells_addr : Tryd.prog.cellsOf 23 = 1 := by kernel_rfl
theorem cells_hash : Tryd.prog.cellsOf 29 = 32 := by kernel_rfl
theorem cells_TxS : Tryd.prog.cellsOf 27 = 22 := by kernel_rfl
theorem cells_VoteS : Tryd.prog.cellsOf 73 = 53 := by kernel_rfl
theorem cells_EvS : Tryd.prog.cellsOf 75 = 106 := by kernel_rfl
theorem fields_TxS : ∃ fs, Tryd.prog.underlying 27 = some (.struct fs) ∧ fs.size = 7 ∧ (fs[0]?).map (fun f => (f.type, f.offset)) = some (3, 0) ∧ (fs[1]?).map (fun f => (f.type, f.offset)) = some (23, 1) ∧ (fs[2]?).map (fun f => (f.type, f.offset)) = some (23, 2) ∧ (fs[3]?).map (fun f => (f.type, f.offset)) = some (22, 3) ∧ (fs[4]?).map (fun f => (f.type, f.offset)) = some (22, 4) ∧ (fs[5]?).map (fun f => (f.type, f.offset)) = some (22, 5) ∧ (fs[6]?).map (fun f => (f.type, f.offset)) = some (25, 6) := ⟨_, rfl, by kernel_rfl, by kernel_rfl, by kernel_rfl, by kernel_rfl, by kernel_rfl, by kernel_rfl, by kernel_rfl, by kernel_rfl⟩
theorem fields_VoteS : ∃ fs, Tryd.prog.underlying 73 = some (.struct fs) ∧ fs.size = 7 ∧ (fs[0]?).map (fun f => (f.type, f.offset)) = some (3, 0) ∧ (fs[1]?).map (fun f => (f.type, f.offset)) = some (22, 1) ∧ (fs[2]?).map (fun f => (f.type, f.offset)) = some (3, 2) ∧ (fs[3]?).map (fun f => (f.type, f.offset)) = some (29, 3) ∧ (fs[4]?).map (fun f => (f.type, f.offset)) = some (22, 35) ∧ (fs[5]?).map (fun f => (f.type, f.offset)) = some (23, 36) ∧ (fs[6]?).map (fun f => (f.type, f.offset)) = some (25, 37) := ⟨_, rfl, by kernel_rfl, by kernel_rfl, by kernel_rfl, by kernel_rfl, by kernel_rfl, by kernel_rfl, by kernel_rfl, by kernel_rfl⟩
theorem fields_EvS : ∃ fs, Tryd.prog.underlying 75 = some (.struct fs) ∧ fs.size = 2 ∧ (fs[0]?).map (fun f => (f.type, f.offset)) = some (73, 0) ∧ (fs[1]?).map (fun f => (f.type, f.offset)) = some (73, 53) := ⟨_, rfl, by kernel_rfl, by kernel_rfl, by kernel_rfl⟩
theorem fields_Blk : ∃ fs, Tryd.prog.underlying 49 = some (.struct fs) ∧ fs.size = 4 ∧ (fs[1]?).map (fun f => (f.type, f.offset)) = some (46, 228) ∧ (fs[2]?).map (fun f => (f.type, f.offset)) = some (47, 229) ∧ (fs[3]?).map (fun f => (f.type, f.offset)) = some (34, 230) := ⟨_, rfl, by kernel_rfl, by kernel_rfl, by kernel_rfl, by kernel_rfl⟩
theorem cells_sTx : Tryd.prog.cellsOf 46 = 1 := by kernel_rfl
theorem cells_sEv : Tryd.prog.cellsOf 47 = 1 := by kernel_rfl
theorem cells_CrtS : Tryd.prog.cellsOf 34 = 35 := by kernel_rfl
theorem bytes_TxS : Tryd.prog.bytesOf 27 = 64 := by kernel_rfl
theorem bytes_EvS : Tryd.prog.bytesOf 75 = 176 := by kernel_rfl
theorem bytes_MkS : Tryd.prog.bytesOf 106 = 32 := by kernel_rfl
theorem trod_TxS {fuel : Nat} {cs : List Value} {x : DataW H × List MemPlace} (h : DataW.trod enc Tryd.prog W 0 sp held fuel 27 cs = some x) : ∃ m : Tx, m.ok ∧ cs = m.cl := by
  obtain ⟨fs, hu, hs, f0, f1, f2, f3, f4, f5, f6⟩ := fields_TxS
  obtain ⟨_, _, _, _, hlen, _, _⟩ := DataW.trod_struct hu h
  rw [cells_TxS] at hlen
  obtain ⟨_, y0, h0⟩ := trod_field hu h 0 (by omega) f0
  obtain ⟨_, y1, h1⟩ := trod_field hu h 1 (by omega) f1
  obtain ⟨_, y2, h2⟩ := trod_field hu h 2 (by omega) f2
  obtain ⟨_, y3, h3⟩ := trod_field hu h 3 (by omega) f3
  obtain ⟨_, y4, h4⟩ := trod_field hu h 4 (by omega) f4
  obtain ⟨_, y5, h5⟩ := trod_field hu h 5 (by omega) f5
  obtain ⟨_, y6, h6⟩ := trod_field hu h 6 (by omega) f6
  obtain ⟨n0, e0, w0⟩ := trod_i64 Tryd.underlying3 cells_i h0
  obtain ⟨n1, e1, w1⟩ := trod_u64 Tryd.underlying23 cells_addr h1
  obtain ⟨n2, e2, w2⟩ := trod_u64 Tryd.underlying23 cells_addr h2
  obtain ⟨n3, e3, w3⟩ := trod_u64 Tryd.underlying22 cells_64 h3
  obtain ⟨n4, e4, w4⟩ := trod_u64 Tryd.underlying22 cells_64 h4
  obtain ⟨n5, e5, w5⟩ := trod_u64 Tryd.underlying22 cells_64 h5
  rw [cells_seal] at h6
  obtain ⟨l, hl, k6⟩ := trod_bytes Tryd.underlying25 cells_seal h6
  refine ⟨⟨n0, n1, n2, n3, n4, n5, l⟩, ⟨w0, w1, w2, w3, w4, w5, hl⟩, ?_⟩
  have e6 : cs.drop 6 = bv l := by rw [← k6]; exact (List.take_of_length_le (by simp [hlen])).symm
  match cs, e0, e1, e2, e3, e4, e5, e6 with
  | a :: b :: c :: d :: e :: f :: r, e0, e1, e2, e3, e4, e5, e6 =>
    simp at e0 e1 e2 e3 e4 e5 e6
    simp [Tx.cl, e0, e1, e2, e3, e4, e5, e6]
theorem trod_VoteS {fuel : Nat} {cs : List Value} {x : DataW H × List MemPlace} (h : DataW.trod enc Tryd.prog W 0 sp held fuel 73 cs = some x) : ∃ m : Vote, m.ok ∧ cs = m.cl := by
  obtain ⟨fs, hu, hs, f0, f1, f2, f3, f4, f5, f6⟩ := fields_VoteS
  obtain ⟨_, _, _, _, hlen, _, _⟩ := DataW.trod_struct hu h
  rw [cells_VoteS] at hlen
  obtain ⟨_, y0, h0⟩ := trod_field hu h 0 (by omega) f0
  obtain ⟨_, y1, h1⟩ := trod_field hu h 1 (by omega) f1
  obtain ⟨_, y2, h2⟩ := trod_field hu h 2 (by omega) f2
  obtain ⟨_, y3, h3⟩ := trod_field hu h 3 (by omega) f3
  obtain ⟨_, y4, h4⟩ := trod_field hu h 4 (by omega) f4
  obtain ⟨_, y5, h5⟩ := trod_field hu h 5 (by omega) f5
  obtain ⟨_, y6, h6⟩ := trod_field hu h 6 (by omega) f6
  obtain ⟨n0, e0, w0⟩ := trod_i64 Tryd.underlying3 cells_i h0
  obtain ⟨n1, e1, w1⟩ := trod_u64 Tryd.underlying22 cells_64 h1
  obtain ⟨n2, e2, w2⟩ := trod_i64 Tryd.underlying3 cells_i h2
  obtain ⟨n4, e4, w4⟩ := trod_u64 Tryd.underlying22 cells_64 h4
  obtain ⟨n5, e5, w5⟩ := trod_u64 Tryd.underlying23 cells_addr h5
  rw [cells_hash] at h3
  rw [cells_seal] at h6
  obtain ⟨l3, hl3, k3⟩ := trod_bytes Tryd.underlying29 cells_hash h3
  obtain ⟨l6, hl6, k6⟩ := trod_bytes Tryd.underlying25 cells_seal h6
  refine ⟨⟨n0, n1, n2, l3, n4, n5, l6⟩, ⟨w0, w1, w2, hl3, w4, w5, hl6⟩, ?_⟩
  have e6 : cs.drop 37 = bv l6 := by rw [← k6]; exact (List.take_of_length_le (by simp [hlen])).symm
  match cs, e0, e1, e2, k3, e4, e5, e6 with
  | a :: b :: c :: r, e0, e1, e2, k3, e4, e5, e6 =>
    obtain ⟨q, hq⟩ : ∃ q, r.drop 32 = q := ⟨_, rfl⟩
    have k3' : r.take 32 = bv l3 := by simpa using k3
    have hr : r = bv l3 ++ q := by rw [← k3', ← hq, List.take_append_drop]
    have hl : (bv l3).length = 32 := by rw [bv_length, hl3]
    have q0 : q[0]? = some (.int .u64 n4) := by
      rw [← hq, List.getElem?_drop]
      simpa using e4
    have q1 : q[1]? = some (.int .u64 n5) := by
      rw [← hq, List.getElem?_drop]
      simpa using e5
    have q2 : q.drop 2 = bv l6 := by
      rw [← hq, List.drop_drop]
      simpa using e6
    match q, q0, q1, q2, hr with
    | d :: e :: s, q0, q1, q2, hr =>
      simp at e0 e1 e2 q0 q1 q2
      simp [Vote.cl, e0, e1, e2, hr, q0, q1, q2]
theorem trod_EvS {fuel : Nat} {cs : List Value} {x : DataW H × List MemPlace} (h : DataW.trod enc Tryd.prog W 0 sp held fuel 75 cs = some x) : ∃ m : Ev, m.ok ∧ cs = m.cl := by
  obtain ⟨fs, hu, hs, f0, f1⟩ := fields_EvS
  obtain ⟨_, _, _, _, hlen, _, _⟩ := DataW.trod_struct hu h
  rw [cells_EvS] at hlen
  obtain ⟨_, y0, h0⟩ := trod_field hu h 0 (by omega) f0
  obtain ⟨_, y1, h1⟩ := trod_field hu h 1 (by omega) f1
  obtain ⟨a, ha, ea⟩ := trod_VoteS h0
  obtain ⟨b, hb, eb⟩ := trod_VoteS h1
  rw [cells_VoteS] at ea eb
  refine ⟨⟨a, b⟩, ⟨ha, hb⟩, ?_⟩
  have eb' : cs.drop 53 = b.cl := by rw [← eb]; exact (List.take_of_length_le (by simp [hlen])).symm
  show cs = a.cl ++ b.cl
  rw [← ea, ← eb', List.drop_zero, List.take_append_drop]
theorem fl_inv {α : Type} {cl : α → List Value} {ok : α → Prop} {N : Nat} (hl : ∀ m, ok m → (cl m).length = N) (hN : 0 < N) : ∀ (ms : List α), (∀ m ∈ ms, ok m) → ∀ (j : Nat) (u : Value), (ms.flatMap cl)[j]? = some u → ∃ i r, ∃ h : i < ms.length, j = N * i + r ∧ r < N ∧ (cl ms[i])[r]? = some u
  | [], _, j, u, h => by simp at h
  | m :: ms, hm, j, u, h => by
    have hlm := hl m (hm m (List.mem_cons_self ..))
    rw [List.flatMap_cons] at h
    rcases Nat.lt_or_ge j N with hj | hj
    · rw [List.getElem?_append_left (by omega)] at h
      exact ⟨0, j, by simp, by omega, hj, h⟩
    · rw [List.getElem?_append_right (by omega), hlm] at h
      obtain ⟨i, r, hi, e, hr, hu⟩ := fl_inv hl hN ms (fun q hq => hm q (List.mem_cons_of_mem _ hq)) _ u h
      exact ⟨i + 1, r, by simpa using hi, by rw [Nat.mul_add, Nat.mul_one]; omega, hr, by simpa using hu⟩
theorem add_add_N (ad : Addr) (k j N : Nat) : (ad.add (k * N)).add j = ad.add (N * k + j) := by
  rw [show N * k + j = k * N + j by rw [Nat.mul_comm]]
  unfold Addr.add
  split <;> split <;> simp_all <;> omega
/-- a slice of such elements -/
theorem trod_list {α : Type} {cl : α → List Value} {ok : α → Prop} {N B : Nat} {ts te : TypeId} {fuel : Nat} {v : Value} {x : DataW H × List MemPlace} (ht : Tryd.prog.underlying ts = some (.slice te)) (hc : Tryd.prog.cellsOf te = N) (hb : Tryd.prog.bytesOf te = B) (hl : ∀ m, ok m → (cl m).length = N) (hN : 0 < N)
    (hop : ∀ {fuel : Nat} {cs : List Value} {y : DataW H × List MemPlace}, DataW.trod enc Tryd.prog W 0 sp held fuel te cs = some y → ∃ m : α, ok m ∧ cs = cl m) (h : DataW.trod enc Tryd.prog W 0 sp held fuel ts [v] = some x) (hw : Light ts x.1) :
    ∃ A n c, ∃ ms : List α, v = .slice A n c ∧ n = ms.length ∧ (∀ m ∈ ms, ok m) ∧ Rd W A (ms.flatMap cl) ∧ n * B ≤ 140737488351232 := by
  rcases DataW.trod_slice ht h with ⟨hn, _⟩ | ⟨a, len, cap, elems, rest, m, _, hcs, hx, _, _, _, hel, hE, _, _⟩
  · injection hn with hn _
    exact ⟨none, 0, 0, [], hn, rfl, fun m hm => (by cases hm), Rd.nil _ _, by omega⟩
  · injection hcs with hcs _
    have hms : ∀ i, i < len → ∃ q : α, ok q ∧ ∀ r u, (cl q)[r]? = some u → W.cell? (a.add (N * i + r)) = some u := fun i hi => by
      have h := hE i hi
      rw [List.getElem?_eq_getElem (by omega), hc] at h
      simp only [Option.bind_eq_some_iff] at h
      obtain ⟨mc, hmc, htr⟩ := h
      obtain ⟨q, hq, rfl⟩ := hop htr
      refine ⟨q, hq, fun r u hr => ?_⟩
      unfold World.cells? at hmc
      rw [if_pos (Nat.zero_le _)] at hmc
      have hrN : r < N := by rw [← hl q hq]; exact (List.getElem?_eq_some_iff.1 hr).1
      have := mapM_some_get hmc r r (by simp [hrN])
      rw [hr, add_add_N] at this
      exact this
    obtain ⟨ms, hml, hmp⟩ := list_of hms
    have hmo : ∀ q ∈ ms, ok q := fun q hq => by
      obtain ⟨i, hi, rfl⟩ := List.getElem_of_mem hq
      exact (hmp i hi).1
    refine ⟨some a, len, cap, ms, hcs, hml.symm, hmo, ?_, ?_⟩
    · intro j u hj
      obtain ⟨i, r, hi, rfl, hr, hu⟩ := fl_inv hl hN ms hmo j u hj
      exact ⟨a, rfl, (hmp i hi).2 r u hu⟩
    · have := hw ((elems.length + rest.length) * B) (by
        rw [hx]
        unfold DataW.weights
        rw [ht, ← hb]
        simp)
      have hle : len * B ≤ (elems.length + rest.length) * B := Nat.mul_le_mul_right _ (by omega)
      exact Nat.le_trans hle (Nat.le_trans this (by decide))
def blkTs : List TypeId := [9, 22, 22] ++ (List.replicate 224 5 ++ ([23, 46, 47, 22, 3] ++ (List.replicate 32 5 ++ ([32] ++ []))))
theorem open_blk {base : Nat} {v : Value} {d : DataW H} {p : List MemPlace} (hv : Value.okWide Tryd.prog W .any base 49 v) (ht : DataW.Trod enc Tryd.prog W 0 sp held 49 v d p) (hw : Light 49 d) :
    ∃ x : Blk, x.ok ∧ x.at W ∧ v = .agg x.cl.toArray := by
  simp only [Value.okWide, Tryd.underlying49] at hv
  obtain ⟨cs, rfl, hsz, ts, hts, _, hall⟩ := hv
  have e1 : Tryd.prog.cellTypes Tryd.prog.depth 49 = some blkTs := by kernel_rfl
  have e2 : Tryd.prog.cellsOf 49 = 265 := by kernel_rfl
  have e3 : blkTs.length = 265 := by decide
  rw [e2] at hsz
  have e4 : ts = blkTs := Option.some.inj (hts.symm.trans e1)
  subst e4
  have ha : All2 (OkC W base) blkTs cs.toList := All2.of (by rw [e3]; simp [hsz]) fun i v hv => by
    have hv' : cs[i]? = some v := by simpa using hv
    obtain ⟨u, hu, hc⟩ := hall i v hv'
    have hi : i < 265 := by
      have := (Array.getElem?_eq_some_iff.1 hv').1
      omega
    rw [e3, Nat.mod_eq_of_lt hi] at hu
    exact ⟨u, hu, hc⟩
  obtain ⟨v0, r0, hcs, h0, t1⟩ := All2.cons (ts := [22, 22] ++ _) ha
  obtain ⟨s, rfl, hs⟩ := okc_string Tryd.underlying9 h0
  obtain ⟨v1, r1, rfl, h1, t2⟩ := All2.cons (ts := [22] ++ _) t1
  obtain ⟨n1, rfl, k1⟩ := okc_u64 Tryd.underlying22 h1
  obtain ⟨v2, r2, rfl, h2, t3⟩ := All2.cons (ts := List.replicate 224 5 ++ _) t2
  obtain ⟨n2, rfl, k2⟩ := okc_u64 Tryd.underlying22 h2
  obtain ⟨l, r3, hl, rfl, t4⟩ := okc_bytes Tryd.underlying5 t3
  obtain ⟨v4, r4, rfl, h4, t5⟩ := All2.cons (ts := [46, 47, 22, 3] ++ _) t4
  obtain ⟨n4, rfl, k4⟩ := okc_u64 Tryd.underlying23 h4
  obtain ⟨v5, r5, rfl, h5, t6⟩ := All2.cons (ts := [47, 22, 3] ++ _) t5
  obtain ⟨v6, r6, rfl, h6, t7⟩ := All2.cons (ts := [22, 3] ++ _) t6
  obtain ⟨v7, r7, rfl, h7, t8⟩ := All2.cons (ts := [3] ++ _) t7
  obtain ⟨n7, rfl, k7⟩ := okc_u64 Tryd.underlying22 h7
  obtain ⟨v8, r8, rfl, h8, t9⟩ := All2.cons (ts := List.replicate 32 5 ++ _) t8
  obtain ⟨n8, rfl, k8⟩ := okc_i64 Tryd.underlying3 h8
  obtain ⟨l9, r9, hl9, rfl, t10⟩ := okc_bytes Tryd.underlying5 t9
  obtain ⟨v10, r10, rfl, h10, t11⟩ := All2.cons t10
  obtain rfl := All2.nil t11
  -- the lists
  obtain ⟨fuel, hf⟩ := ht
  obtain ⟨fs, hu, hs4, f1, f2, f3⟩ := fields_Blk
  obtain ⟨_, y1, hy1, w1⟩ := trod_part hu hf hw 1 (by omega) f1
  obtain ⟨_, y2, hy2, w2⟩ := trod_part hu hf hw 2 (by omega) f2
  obtain ⟨_, y3, hy3, w3⟩ := trod_part hu hf hw 3 (by omega) f3
  obtain ⟨gs, gu, gs4, g3⟩ := fields_Crt
  obtain ⟨_, y4, hy4, w4⟩ := trod_part gu hy3 w3 3 (by omega) g3
  rw [cells_sTx] at hy1
  rw [cells_sEv] at hy2
  rw [cells_sl, cells_CrtS] at hy4
  have hb : (bv l).length = 224 := by rw [bv_length, hl]
  have hb9 : (bv l9).length = 32 := by rw [bv_length, hl9]
  obtain ⟨HD, hHD⟩ : ∃ HD, [Value.string s, .int .u64 n1, .int .u64 n2] ++ bv l ++ [.int .u64 n4] = HD := ⟨_, rfl⟩
  have hHL : HD.length = 228 := by rw [← hHD]; simp [hb]
  obtain ⟨CT, hCT⟩ : ∃ CT, [Value.int .u64 n7, .int .i64 n8] ++ bv l9 ++ [v10] = CT := ⟨_, rfl⟩
  have hCL : CT.length = 35 := by rw [← hCT]; simp [hb9]
  have hcs' : cs.toList = HD ++ ([v5, v6] ++ CT) := by rw [hcs, ← hHD, ← hCT]; simp
  have hcell : (Value.agg cs).cells.toList = HD ++ ([v5, v6] ++ CT) := hcs'
  rw [hcell] at hy1 hy2 hy4
  rw [show (HD ++ ([v5, v6] ++ CT)).drop 228 = [v5] ++ ([v6] ++ CT) by rw [List.drop_left' hHL]; rfl, show ([v5] ++ ([v6] ++ CT)).take 1 = [v5] from rfl] at hy1
  rw [show (HD ++ ([v5, v6] ++ CT)).drop 229 = [v6] ++ CT by rw [show HD ++ ([v5, v6] ++ CT) = (HD ++ [v5]) ++ ([v6] ++ CT) by simp, List.drop_left' (by simp [hHL])], show ([v6] ++ CT).take 1 = [v6] from rfl] at hy2
  rw [show (HD ++ ([v5, v6] ++ CT)).drop 230 = CT by rw [show HD ++ ([v5, v6] ++ CT) = (HD ++ [v5, v6]) ++ CT by simp, List.drop_left' (by simp [hHL])], show CT.take 35 = CT from List.take_of_length_le (by omega), show CT.drop 34 = [v10] by rw [← hCT, List.drop_left' (by simp [hb9])], show [v10].take 1 = [v10] from rfl] at hy4
  obtain ⟨tA, tn, tc, txs, rfl, htn, hto, htr, htb⟩ := trod_list (cl := Tx.cl) (ok := Tx.ok) Tryd.underlying46 cells_TxS bytes_TxS (fun m h => m.cl_len h) (by omega) (fun h => trod_TxS h) hy1 w1
  obtain ⟨eA, en, ec, evs, rfl, hen, heo, her, heb⟩ := trod_list (cl := Ev.cl) (ok := Ev.ok) Tryd.underlying47 cells_EvS bytes_EvS (fun m h => m.cl_len h) (by omega) (fun h => trod_EvS h) hy2 w2
  obtain ⟨cA, cn, cc, mks, rfl, hcn, hco, hcr, hcb⟩ := trod_list (cl := Mk.cl) (ok := Mk.ok) Tryd.underlying32 cells_Mk bytes_MkS (fun m h => m.cl_len h) (by omega) (fun h => open_mk h) hy4 w4
  refine ⟨⟨⟨s, n1, n2, l, n4⟩, tA, tn, tc, txs, eA, en, ec, evs, ⟨n7, n8, l9, cA, cn, cc, mks⟩⟩, ⟨⟨hs, k1, k2, hl, k4⟩, htn, hto, htb, hen, heo, heb, ⟨k7, k8, hl9, hcn, hco⟩, hcb⟩, ⟨htr, her, hcr⟩, ?_⟩
  congr 1
  apply Array.ext'
  rw [hcs', ← hHD, ← hCT]
  simp [Blk.cl, Hdr.cl, Crt.cl]
end
end Go.Proofs.YtjdegphpalhapaaDoor

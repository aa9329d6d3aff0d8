/-
  A block among the arguments opened, its lists too, each of a size that the row's reach bears. No condition.
  The median of a certificate's times, by both ways; a council's soundness, in plain Lean. No program here.
  The program's councils: total, members, the priorities, sound, Sound. Conditions: each number fits its kind; the members lie in the world.
-/
import Derived.Test.YtnfffipkgaobhaaM18
import Derived.Test.YtnfffipkgaobhaaM26
import Derived.Test.YtnfffipkgaobhaaM13
import Derived.Test.YtnfffipkgaobhaaM25
namespace Go.Proofs.Ytnfffipkgaobhaa
set_option linter.unusedSimpArgs false
set_option linter.unusedVariables false
open Go.ChangeShapes Go.WideShapes Go.ChangeAt Go.RowKit
set_option maxRecDepth 100000

section
variable {H : Type} {enc : TypeId × Value → H} {W : World} {sp : Nat → Bool} {held : Bool}
/-- each string, slice and map of it is within reach -/
def Light (t : TypeId) (d : DataW H) : Prop := ∀ k ∈ d.weights Try.prog t, k ≤ reachBytes
theorem trod_part {t : TypeId} {fs : Array Field} {fuel : Nat} {cs : List Value} {x : DataW H × List MemPlace} (hu : Try.prog.underlying t = some (.struct fs)) (h : DataW.trod enc Try.prog W 0 sp held fuel t cs = some x) (hl : Light t x.1) (i : Nat) {ft : TypeId} {off : Nat} (hi : i < fs.size) (hf : (fs[i]?).map (fun f => (f.type, f.offset)) = some (ft, off)) :
    ∃ n y, DataW.trod enc Try.prog W 0 sp held n ft ((cs.drop off).take (Try.prog.cellsOf ft)) = some y ∧ Light ft y.1 := by
  obtain ⟨xs, n, _, hx, _, hlen, ht⟩ := DataW.trod_struct hu h
  obtain ⟨f, hf1, hf2⟩ := Option.map_eq_some_iff.1 hf
  have := ht i f hf1
  simp only [Prod.mk.injEq] at hf2
  have hxi : xs[i]? = some (xs[i]'(by omega)) := List.getElem?_eq_getElem (by omega)
  rw [hf2.1, hf2.2, hxi] at this
  refine ⟨n, _, this, fun k hk => hl k ?_⟩
  rw [hx]
  unfold DataW.weights
  rw [hu]
  refine DataW.weights_mem_each (j := i) (t := ft) (d := (xs[i]'(by omega)).1) ?_ ?_ k hk
  · rw [List.getElem?_map, Array.getElem?_toList, hf1, Option.map_some, hf2.1]
  · rw [List.getElem?_map, hxi]; rfl
theorem trod_i64 {t : TypeId} {fuel : Nat} {cs : List Value} {off : Nat} {x : DataW H × List MemPlace} (ht : Try.prog.underlying t = some (.int .i64)) (hc : Try.prog.cellsOf t = 1) (h : DataW.trod enc Try.prog W 0 sp held fuel t ((cs.drop off).take (Try.prog.cellsOf t)) = some x) : ∃ n, cs[off]? = some (.int .i64 n) ∧ I64 n := by
  rw [hc] at h
  obtain ⟨n, k, _, w⟩ := DataW.trod_int ht h
  exact ⟨n, one_at k, wf_i64 w⟩
theorem trod_u64 {t : TypeId} {fuel : Nat} {cs : List Value} {off : Nat} {x : DataW H × List MemPlace} (ht : Try.prog.underlying t = some (.int .u64)) (hc : Try.prog.cellsOf t = 1) (h : DataW.trod enc Try.prog W 0 sp held fuel t ((cs.drop off).take (Try.prog.cellsOf t)) = some x) : ∃ n, cs[off]? = some (.int .u64 n) ∧ U64 n := by
  rw [hc] at h
  obtain ⟨n, k, _, w⟩ := DataW.trod_int ht h
  exact ⟨n, one_at k, wf_u64 w⟩
theorem cells_addr : Try.prog.cellsOf 32 = 1 := by kernel_rfl
theorem cells_hash : Try.prog.cellsOf 27 = 32 := by kernel_rfl
theorem cells_TxS : Try.prog.cellsOf 55 = 22 := by kernel_rfl
theorem cells_VoteS : Try.prog.cellsOf 57 = 53 := by kernel_rfl
theorem cells_EvS : Try.prog.cellsOf 59 = 106 := by kernel_rfl
theorem fields_TxS : ∃ fs, Try.prog.underlying 55 = some (.struct fs) ∧ fs.size = 7 ∧ (fs[0]?).map (fun f => (f.type, f.offset)) = some (3, 0) ∧ (fs[1]?).map (fun f => (f.type, f.offset)) = some (32, 1) ∧ (fs[2]?).map (fun f => (f.type, f.offset)) = some (32, 2) ∧ (fs[3]?).map (fun f => (f.type, f.offset)) = some (25, 3) ∧ (fs[4]?).map (fun f => (f.type, f.offset)) = some (25, 4) ∧ (fs[5]?).map (fun f => (f.type, f.offset)) = some (25, 5) ∧ (fs[6]?).map (fun f => (f.type, f.offset)) = some (48, 6) := ⟨_, rfl, by kernel_rfl, by kernel_rfl, by kernel_rfl, by kernel_rfl, by kernel_rfl, by kernel_rfl, by kernel_rfl, by kernel_rfl⟩
theorem fields_VoteS : ∃ fs, Try.prog.underlying 57 = some (.struct fs) ∧ fs.size = 7 ∧ (fs[0]?).map (fun f => (f.type, f.offset)) = some (3, 0) ∧ (fs[1]?).map (fun f => (f.type, f.offset)) = some (25, 1) ∧ (fs[2]?).map (fun f => (f.type, f.offset)) = some (3, 2) ∧ (fs[3]?).map (fun f => (f.type, f.offset)) = some (27, 3) ∧ (fs[4]?).map (fun f => (f.type, f.offset)) = some (25, 35) ∧ (fs[5]?).map (fun f => (f.type, f.offset)) = some (32, 36) ∧ (fs[6]?).map (fun f => (f.type, f.offset)) = some (48, 37) := ⟨_, rfl, by kernel_rfl, by kernel_rfl, by kernel_rfl, by kernel_rfl, by kernel_rfl, by kernel_rfl, by kernel_rfl, by kernel_rfl⟩
theorem fields_EvS : ∃ fs, Try.prog.underlying 59 = some (.struct fs) ∧ fs.size = 2 ∧ (fs[0]?).map (fun f => (f.type, f.offset)) = some (57, 0) ∧ (fs[1]?).map (fun f => (f.type, f.offset)) = some (57, 53) := ⟨_, rfl, by kernel_rfl, by kernel_rfl, by kernel_rfl⟩
theorem fields_Blk : ∃ fs, Try.prog.underlying 38 = some (.struct fs) ∧ fs.size = 4 ∧ (fs[1]?).map (fun f => (f.type, f.offset)) = some (35, 228) ∧ (fs[2]?).map (fun f => (f.type, f.offset)) = some (36, 229) ∧ (fs[3]?).map (fun f => (f.type, f.offset)) = some (30, 230) := ⟨_, rfl, by kernel_rfl, by kernel_rfl, by kernel_rfl, by kernel_rfl⟩
theorem cells_sTx : Try.prog.cellsOf 35 = 1 := by kernel_rfl
theorem cells_sEv : Try.prog.cellsOf 36 = 1 := by kernel_rfl
theorem cells_CrtS : Try.prog.cellsOf 30 = 35 := by kernel_rfl
theorem bytes_TxS : Try.prog.bytesOf 55 = 64 := by kernel_rfl
theorem bytes_EvS : Try.prog.bytesOf 59 = 176 := by kernel_rfl
theorem bytes_MkS : Try.prog.bytesOf 50 = 32 := by kernel_rfl
theorem trod_TxS {fuel : Nat} {cs : List Value} {x : DataW H × List MemPlace} (h : DataW.trod enc Try.prog W 0 sp held fuel 55 cs = some x) : ∃ m : Tx, m.ok ∧ cs = m.cl := by
  obtain ⟨fs, hu, hs, f0, f1, f2, f3, f4, f5, f6⟩ := fields_TxS
  obtain ⟨_, _, _, _, hlen, _, _⟩ := DataW.trod_struct hu h
  rw [cells_TxS] at hlen
  obtain ⟨_, y0, h0⟩ := trod_field hu h 0 (by omega) f0
  obtain ⟨_, y1, h1⟩ := trod_field hu h 1 (by omega) f1
  obtain ⟨_, y2, h2⟩ := trod_field hu h 2 (by omega) f2
  obtain ⟨_, y3, h3⟩ := trod_field hu h 3 (by omega) f3
  obtain ⟨_, y4, h4⟩ := trod_field hu h 4 (by omega) f4
  obtain ⟨_, y5, h5⟩ := trod_field hu h 5 (by omega) f5
  obtain ⟨_, y6, h6⟩ := trod_field hu h 6 (by omega) f6
  obtain ⟨n0, e0, w0⟩ := trod_i64 Try.underlying3 cells_i h0
  obtain ⟨n1, e1, w1⟩ := trod_u64 Try.underlying32 cells_addr h1
  obtain ⟨n2, e2, w2⟩ := trod_u64 Try.underlying32 cells_addr h2
  obtain ⟨n3, e3, w3⟩ := trod_u64 Try.underlying25 cells_64 h3
  obtain ⟨n4, e4, w4⟩ := trod_u64 Try.underlying25 cells_64 h4
  obtain ⟨n5, e5, w5⟩ := trod_u64 Try.underlying25 cells_64 h5
  rw [cells_seal] at h6
  obtain ⟨l, hl, k6⟩ := trod_bytes Try.underlying48 cells_seal h6
  refine ⟨⟨n0, n1, n2, n3, n4, n5, l⟩, ⟨w0, w1, w2, w3, w4, w5, hl⟩, ?_⟩
  have e6 : cs.drop 6 = bv l := by rw [← k6]; exact (List.take_of_length_le (by simp [hlen])).symm
  match cs, e0, e1, e2, e3, e4, e5, e6 with
  | a :: b :: c :: d :: e :: f :: r, e0, e1, e2, e3, e4, e5, e6 =>
    simp at e0 e1 e2 e3 e4 e5 e6
    simp [Tx.cl, e0, e1, e2, e3, e4, e5, e6]
theorem trod_VoteS {fuel : Nat} {cs : List Value} {x : DataW H × List MemPlace} (h : DataW.trod enc Try.prog W 0 sp held fuel 57 cs = some x) : ∃ m : Vote, m.ok ∧ cs = m.cl := by
  obtain ⟨fs, hu, hs, f0, f1, f2, f3, f4, f5, f6⟩ := fields_VoteS
  obtain ⟨_, _, _, _, hlen, _, _⟩ := DataW.trod_struct hu h
  rw [cells_VoteS] at hlen
  obtain ⟨_, y0, h0⟩ := trod_field hu h 0 (by omega) f0
  obtain ⟨_, y1, h1⟩ := trod_field hu h 1 (by omega) f1
  obtain ⟨_, y2, h2⟩ := trod_field hu h 2 (by omega) f2
  obtain ⟨_, y3, h3⟩ := trod_field hu h 3 (by omega) f3
  obtain ⟨_, y4, h4⟩ := trod_field hu h 4 (by omega) f4
  obtain ⟨_, y5, h5⟩ := trod_field hu h 5 (by omega) f5
  obtain ⟨_, y6, h6⟩ := trod_field hu h 6 (by omega) f6
  obtain ⟨n0, e0, w0⟩ := trod_i64 Try.underlying3 cells_i h0
  obtain ⟨n1, e1, w1⟩ := trod_u64 Try.underlying25 cells_64 h1
  obtain ⟨n2, e2, w2⟩ := trod_i64 Try.underlying3 cells_i h2
  obtain ⟨n4, e4, w4⟩ := trod_u64 Try.underlying25 cells_64 h4
  obtain ⟨n5, e5, w5⟩ := trod_u64 Try.underlying32 cells_addr h5
  rw [cells_hash] at h3
  rw [cells_seal] at h6
  obtain ⟨l3, hl3, k3⟩ := trod_bytes Try.underlying27 cells_hash h3
  obtain ⟨l6, hl6, k6⟩ := trod_bytes Try.underlying48 cells_seal h6
  refine ⟨⟨n0, n1, n2, l3, n4, n5, l6⟩, ⟨w0, w1, w2, hl3, w4, w5, hl6⟩, ?_⟩
  have e6 : cs.drop 37 = bv l6 := by rw [← k6]; exact (List.take_of_length_le (by simp [hlen])).symm
  match cs, e0, e1, e2, k3, e4, e5, e6 with
  | a :: b :: c :: r, e0, e1, e2, k3, e4, e5, e6 =>
    obtain ⟨q, hq⟩ : ∃ q, r.drop 32 = q := ⟨_, rfl⟩
    have k3' : r.take 32 = bv l3 := by simpa using k3
    have hr : r = bv l3 ++ q := by rw [← k3', ← hq, List.take_append_drop]
    have hl : (bv l3).length = 32 := by rw [bv_length, hl3]
    have q0 : q[0]? = some (.int .u64 n4) := by
      rw [← hq, List.getElem?_drop]
      simpa using e4
    have q1 : q[1]? = some (.int .u64 n5) := by
      rw [← hq, List.getElem?_drop]
      simpa using e5
    have q2 : q.drop 2 = bv l6 := by
      rw [← hq, List.drop_drop]
      simpa using e6
    match q, q0, q1, q2, hr with
    | d :: e :: s, q0, q1, q2, hr =>
      simp at e0 e1 e2 q0 q1 q2
      simp [Vote.cl, e0, e1, e2, hr, q0, q1, q2]
theorem trod_EvS {fuel : Nat} {cs : List Value} {x : DataW H × List MemPlace} (h : DataW.trod enc Try.prog W 0 sp held fuel 59 cs = some x) : ∃ m : Ev, m.ok ∧ cs = m.cl := by
  obtain ⟨fs, hu, hs, f0, f1⟩ := fields_EvS
  obtain ⟨_, _, _, _, hlen, _, _⟩ := DataW.trod_struct hu h
  rw [cells_EvS] at hlen
  obtain ⟨_, y0, h0⟩ := trod_field hu h 0 (by omega) f0
  obtain ⟨_, y1, h1⟩ := trod_field hu h 1 (by omega) f1
  obtain ⟨a, ha, ea⟩ := trod_VoteS h0
  obtain ⟨b, hb, eb⟩ := trod_VoteS h1
  rw [cells_VoteS] at ea eb
  refine ⟨⟨a, b⟩, ⟨ha, hb⟩, ?_⟩
  have eb' : cs.drop 53 = b.cl := by rw [← eb]; exact (List.take_of_length_le (by simp [hlen])).symm
  show cs = a.cl ++ b.cl
  rw [← ea, ← eb', List.drop_zero, List.take_append_drop]
theorem fl_inv {α : Type} {cl : α → List Value} {ok : α → Prop} {N : Nat} (hl : ∀ m, ok m → (cl m).length = N) (hN : 0 < N) : ∀ (ms : List α), (∀ m ∈ ms, ok m) → ∀ (j : Nat) (u : Value), (ms.flatMap cl)[j]? = some u → ∃ i r, ∃ h : i < ms.length, j = N * i + r ∧ r < N ∧ (cl ms[i])[r]? = some u
  | [], _, j, u, h => by simp at h
  | m :: ms, hm, j, u, h => by
    have hlm := hl m (hm m (List.mem_cons_self ..))
    rw [List.flatMap_cons] at h
    rcases Nat.lt_or_ge j N with hj | hj
    · rw [List.getElem?_append_left (by omega)] at h
      exact ⟨0, j, by simp, by omega, hj, h⟩
    · rw [List.getElem?_append_right (by omega), hlm] at h
      obtain ⟨i, r, hi, e, hr, hu⟩ := fl_inv hl hN ms (fun q hq => hm q (List.mem_cons_of_mem _ hq)) _ u h
      exact ⟨i + 1, r, by simpa using hi, by rw [Nat.mul_add, Nat.mul_one]; omega, hr, by simpa using hu⟩
theorem add_add_N (ad : Addr) (k j N : Nat) : (ad.add (k * N)).add j = ad.add (N * k + j) := by
  rw [show N * k + j = k * N + j by rw [Nat.mul_comm]]
  unfold Addr.add
  split <;> split <;> simp_all <;> omega
/-- a slice of such elements -/
theorem trod_list {α : Type} {cl : α → List Value} {ok : α → Prop} {N B : Nat} {ts te : TypeId} {fuel : Nat} {v : Value} {x : DataW H × List MemPlace} (ht : Try.prog.underlying ts = some (.slice te)) (hc : Try.prog.cellsOf te = N) (hb : Try.prog.bytesOf te = B) (hl : ∀ m, ok m → (cl m).length = N) (hN : 0 < N)
    (hop : ∀ {fuel : Nat} {cs : List Value} {y : DataW H × List MemPlace}, DataW.trod enc Try.prog W 0 sp held fuel te cs = some y → ∃ m : α, ok m ∧ cs = cl m) (h : DataW.trod enc Try.prog W 0 sp held fuel ts [v] = some x) (hw : Light ts x.1) :
    ∃ A n c, ∃ ms : List α, v = .slice A n c ∧ n = ms.length ∧ (∀ m ∈ ms, ok m) ∧ Rd W A (ms.flatMap cl) ∧ n * B ≤ 140737488351232 := by
  rcases DataW.trod_slice ht h with ⟨hn, _⟩ | ⟨a, len, cap, elems, rest, m, _, hcs, hx, _, _, _, hel, hE, _, _⟩
  · injection hn with hn _
    exact ⟨none, 0, 0, [], hn, rfl, fun m hm => (by cases hm), Rd.nil _ _, by omega⟩
  · injection hcs with hcs _
    have hms : ∀ i, i < len → ∃ q : α, ok q ∧ ∀ r u, (cl q)[r]? = some u → W.cell? (a.add (N * i + r)) = some u := fun i hi => by
      have h := hE i hi
      rw [List.getElem?_eq_getElem (by omega), hc] at h
      simp only [Option.bind_eq_some_iff] at h
      obtain ⟨mc, hmc, htr⟩ := h
      obtain ⟨q, hq, rfl⟩ := hop htr
      refine ⟨q, hq, fun r u hr => ?_⟩
      unfold World.cells? at hmc
      rw [if_pos (Nat.zero_le _)] at hmc
      have hrN : r < N := by rw [← hl q hq]; exact (List.getElem?_eq_some_iff.1 hr).1
      have := mapM_some_get hmc r r (by simp [hrN])
      rw [hr, add_add_N] at this
      exact this
    obtain ⟨ms, hml, hmp⟩ := list_of hms
    have hmo : ∀ q ∈ ms, ok q := fun q hq => by
      obtain ⟨i, hi, rfl⟩ := List.getElem_of_mem hq
      exact (hmp i hi).1
    refine ⟨some a, len, cap, ms, hcs, hml.symm, hmo, ?_, ?_⟩
    · intro j u hj
      obtain ⟨i, r, hi, rfl, hr, hu⟩ := fl_inv hl hN ms hmo j u hj
      exact ⟨a, rfl, (hmp i hi).2 r u hu⟩
    · have := hw ((elems.length + rest.length) * B) (by
        rw [hx]
        unfold DataW.weights
        rw [ht, ← hb]
        simp)
      have hle : len * B ≤ (elems.length + rest.length) * B := Nat.mul_le_mul_right _ (by omega)
      exact Nat.le_trans hle (Nat.le_trans this (by decide))
def blkTs : List TypeId := [9, 25, 25] ++ (List.replicate 224 5 ++ ([32, 35, 36, 25, 3] ++ (List.replicate 32 5 ++ ([28] ++ []))))
theorem open_blk {base : Nat} {v : Value} {d : DataW H} {p : List MemPlace} (hv : Value.okWide Try.prog W .any base 38 v) (ht : DataW.Trod enc Try.prog W 0 sp held 38 v d p) (hw : Light 38 d) :
    ∃ x : Blk, x.ok ∧ x.at W ∧ v = .agg x.cl.toArray := by
  simp only [Value.okWide, Try.underlying38] at hv
  obtain ⟨cs, rfl, hsz, ts, hts, _, hall⟩ := hv
  have e1 : Try.prog.cellTypes Try.prog.depth 38 = some blkTs := by kernel_rfl
  have e2 : Try.prog.cellsOf 38 = 265 := by kernel_rfl
  have e3 : blkTs.length = 265 := by decide
  rw [e2] at hsz
  have e4 : ts = blkTs := Option.some.inj (hts.symm.trans e1)
  subst e4
  have ha : All2 (OkC W base) blkTs cs.toList := All2.of (by rw [e3]; simp [hsz]) fun i v hv => by
    have hv' : cs[i]? = some v := by simpa using hv
    obtain ⟨u, hu, hc⟩ := hall i v hv'
    have hi : i < 265 := by
      have := (Array.getElem?_eq_some_iff.1 hv').1
      omega
    rw [e3, Nat.mod_eq_of_lt hi] at hu
    exact ⟨u, hu, hc⟩
  obtain ⟨v0, r0, hcs, h0, t1⟩ := All2.cons (ts := [25, 25] ++ _) ha
  obtain ⟨s, rfl, hs⟩ := okc_string Try.underlying9 h0
  obtain ⟨v1, r1, rfl, h1, t2⟩ := All2.cons (ts := [25] ++ _) t1
  obtain ⟨n1, rfl, k1⟩ := okc_u64 Try.underlying25 h1
  obtain ⟨v2, r2, rfl, h2, t3⟩ := All2.cons (ts := List.replicate 224 5 ++ _) t2
  obtain ⟨n2, rfl, k2⟩ := okc_u64 Try.underlying25 h2
  obtain ⟨l, r3, hl, rfl, t4⟩ := okc_bytes Try.underlying5 t3
  obtain ⟨v4, r4, rfl, h4, t5⟩ := All2.cons (ts := [35, 36, 25, 3] ++ _) t4
  obtain ⟨n4, rfl, k4⟩ := okc_u64 Try.underlying32 h4
  obtain ⟨v5, r5, rfl, h5, t6⟩ := All2.cons (ts := [36, 25, 3] ++ _) t5
  obtain ⟨v6, r6, rfl, h6, t7⟩ := All2.cons (ts := [25, 3] ++ _) t6
  obtain ⟨v7, r7, rfl, h7, t8⟩ := All2.cons (ts := [3] ++ _) t7
  obtain ⟨n7, rfl, k7⟩ := okc_u64 Try.underlying25 h7
  obtain ⟨v8, r8, rfl, h8, t9⟩ := All2.cons (ts := List.replicate 32 5 ++ _) t8
  obtain ⟨n8, rfl, k8⟩ := okc_i64 Try.underlying3 h8
  obtain ⟨l9, r9, hl9, rfl, t10⟩ := okc_bytes Try.underlying5 t9
  obtain ⟨v10, r10, rfl, h10, t11⟩ := All2.cons t10
  obtain rfl := All2.nil t11
  -- the lists
  obtain ⟨fuel, hf⟩ := ht
  obtain ⟨fs, hu, hs4, f1, f2, f3⟩ := fields_Blk
  obtain ⟨_, y1, hy1, w1⟩ := trod_part hu hf hw 1 (by omega) f1
  obtain ⟨_, y2, hy2, w2⟩ := trod_part hu hf hw 2 (by omega) f2
  obtain ⟨_, y3, hy3, w3⟩ := trod_part hu hf hw 3 (by omega) f3
  obtain ⟨gs, gu, gs4, g3⟩ := fields_Crt
  obtain ⟨_, y4, hy4, w4⟩ := trod_part gu hy3 w3 3 (by omega) g3
  rw [cells_sTx] at hy1
  rw [cells_sEv] at hy2
  rw [cells_sl, cells_CrtS] at hy4
  have hb : (bv l).length = 224 := by rw [bv_length, hl]
  have hb9 : (bv l9).length = 32 := by rw [bv_length, hl9]
  obtain ⟨HD, hHD⟩ : ∃ HD, [Value.string s, .int .u64 n1, .int .u64 n2] ++ bv l ++ [.int .u64 n4] = HD := ⟨_, rfl⟩
  have hHL : HD.length = 228 := by rw [← hHD]; simp [hb]
  obtain ⟨CT, hCT⟩ : ∃ CT, [Value.int .u64 n7, .int .i64 n8] ++ bv l9 ++ [v10] = CT := ⟨_, rfl⟩
  have hCL : CT.length = 35 := by rw [← hCT]; simp [hb9]
  have hcs' : cs.toList = HD ++ ([v5, v6] ++ CT) := by rw [hcs, ← hHD, ← hCT]; simp
  have hcell : (Value.agg cs).cells.toList = HD ++ ([v5, v6] ++ CT) := hcs'
  rw [hcell] at hy1 hy2 hy4
  rw [show (HD ++ ([v5, v6] ++ CT)).drop 228 = [v5] ++ ([v6] ++ CT) by rw [List.drop_left' hHL]; rfl, show ([v5] ++ ([v6] ++ CT)).take 1 = [v5] from rfl] at hy1
  rw [show (HD ++ ([v5, v6] ++ CT)).drop 229 = [v6] ++ CT by rw [show HD ++ ([v5, v6] ++ CT) = (HD ++ [v5]) ++ ([v6] ++ CT) by simp, List.drop_left' (by simp [hHL])], show ([v6] ++ CT).take 1 = [v6] from rfl] at hy2
  rw [show (HD ++ ([v5, v6] ++ CT)).drop 230 = CT by rw [show HD ++ ([v5, v6] ++ CT) = (HD ++ [v5, v6]) ++ CT by simp, List.drop_left' (by simp [hHL])], show CT.take 35 = CT from List.take_of_length_le (by omega), show CT.drop 34 = [v10] by rw [← hCT, List.drop_left' (by simp [hb9])], show [v10].take 1 = [v10] from rfl] at hy4
  obtain ⟨tA, tn, tc, txs, rfl, htn, hto, htr, htb⟩ := trod_list (cl := Tx.cl) (ok := Tx.ok) Try.underlying35 cells_TxS bytes_TxS (fun m h => m.cl_len h) (by omega) (fun h => trod_TxS h) hy1 w1
  obtain ⟨eA, en, ec, evs, rfl, hen, heo, her, heb⟩ := trod_list (cl := Ev.cl) (ok := Ev.ok) Try.underlying36 cells_EvS bytes_EvS (fun m h => m.cl_len h) (by omega) (fun h => trod_EvS h) hy2 w2
  obtain ⟨cA, cn, cc, mks, rfl, hcn, hco, hcr, hcb⟩ := trod_list (cl := Mk.cl) (ok := Mk.ok) Try.underlying28 cells_Mk bytes_MkS (fun m h => m.cl_len h) (by omega) (fun h => open_mk h) hy4 w4
  refine ⟨⟨⟨s, n1, n2, l, n4⟩, tA, tn, tc, txs, eA, en, ec, evs, ⟨n7, n8, l9, cA, cn, cc, mks⟩⟩, ⟨⟨hs, k1, k2, hl, k4⟩, htn, hto, htb, hen, heo, heb, ⟨k7, k8, hl9, hcn, hco⟩, hcb⟩, ⟨htr, her, hcr⟩, ?_⟩
  congr 1
  apply Array.ext'
  rw [hcs', ← hHD, ← hCT]
  simp [Blk.cl, Hdr.cl, Crt.cl]
end
end Go.Proofs.Ytnfffipkgaobhaa
namespace Go.Proofs.Ytnfffipkgaobhaa
set_option linter.unusedSimpArgs false
set_option linter.unusedVariables false
open Go.RowKit
set_option maxRecDepth 100000

section
variable {α : Type} (t p : α → Int)
def psum : List α → Int
  | [] => 0
  | x :: r => p x + psum r
theorem psum_append : ∀ l m : List α, psum p (l ++ m) = psum p l + psum p m
  | [], m => by simp [psum]
  | x :: r, m => by simp only [List.cons_append, psum, psum_append r m]; omega
theorem psum_perm {l m : List α} (h : l.Perm m) : psum p l = psum p m := by
  induction h with
  | nil => rfl
  | cons x _ ih => simp only [psum, ih]
  | swap x y l => simp only [psum]; omega
  | trans _ _ i j => rw [i, j]
theorem psum_nonneg {l : List α} (h : ∀ x ∈ l, 0 ≤ p x) : 0 ≤ psum p l := by
  induction l with
  | nil => simp [psum]
  | cons x r ih =>
    have := h x (by simp)
    have := ih fun y hy => h y (by simp [hy])
    simp only [psum]; omega
/-- the powers of those up to b -/
def upTo (b : Int) : List α → Int
  | [] => 0
  | x :: r => (if t x ≤ b then p x else 0) + upTo b r
theorem upTo_append (b : Int) : ∀ l m : List α, upTo t p b (l ++ m) = upTo t p b l + upTo t p b m
  | [], m => by simp [upTo]
  | x :: r, m => by simp only [List.cons_append, upTo, upTo_append b r m]; omega
theorem upTo_perm {b : Int} {l m : List α} (h : l.Perm m) : upTo t p b l = upTo t p b m := by
  induction h with
  | nil => rfl
  | cons x _ ih => simp only [upTo, ih]
  | swap x y l => simp only [upTo]; omega
  | trans _ _ i j => rw [i, j]
theorem upTo_le {b : Int} {l : List α} (h : ∀ x ∈ l, 0 ≤ p x) : 0 ≤ upTo t p b l ∧ upTo t p b l ≤ psum p l := by
  induction l with
  | nil => simp [upTo, psum]
  | cons x r ih =>
    have h1 := h x (by simp)
    have h2 := ih fun y hy => h y (by simp [hy])
    simp only [psum, upTo]
    split <;> omega
theorem upTo_all {b : Int} {l : List α} (h : ∀ x ∈ l, t x ≤ b) : upTo t p b l = psum p l := by
  induction l with
  | nil => rfl
  | cons x r ih =>
    simp only [psum, upTo, if_pos (h x (by simp)), ih fun y hy => h y (by simp [hy])]
theorem upTo_none {b : Int} {l : List α} (h : ∀ x ∈ l, b < t x) : upTo t p b l = 0 := by
  induction l with
  | nil => rfl
  | cons x r ih =>
    have := h x (by simp)
    simp only [upTo, if_neg (show ¬ t x ≤ b by omega), ih fun y hy => h y (by simp [hy])]
    omega
/-- the first at which the powers so far are above the half -/
def medS (all : Int) : Int → List α → Option Int
  | _, [] => none
  | acc, x :: r => if all < 2 * (acc + p x) then some (t x) else medS all (acc + p x) r
theorem medS_spec (all : Int) : ∀ (l : List α) (acc : Int), 2 * acc ≤ all → all < 2 * (acc + psum p l) → ∃ a x r, l = a ++ x :: r ∧ medS t p all acc l = some (t x) ∧ 2 * (acc + psum p a) ≤ all ∧ all < 2 * (acc + psum p a + p x)
  | [], acc, h1, h2 => by simp only [psum] at h2; omega
  | x :: r, acc, h1, h2 => by
    by_cases h : all < 2 * (acc + p x)
    · exact ⟨[], x, r, rfl, by simp [medS, h], by simp only [psum]; omega, by simp only [psum]; omega⟩
    · obtain ⟨a, y, q, h3, h4, h5, h6⟩ := medS_spec all r (acc + p x) (by omega) (by simp only [psum] at h2; omega)
      exact ⟨x :: a, y, q, by rw [h3]; rfl, by simp [medS, h, h4], by simp only [psum]; omega, by simp only [psum]; omega⟩
/-- the least at which the powers of those up to it are above the half -/
def bestS (all : Int) (L : List α) : List α → Option Int → Option Int
  | [], b => b
  | x :: r, b => bestS all L r (if all < 2 * upTo t p (t x) L ∧ (∀ v, b = some v → t x < v) then some (t x) else b)
theorem bestS_spec (all : Int) (L : List α) (m : Int) : ∀ (l : List α) (b : Option Int), (∀ x ∈ l, all < 2 * upTo t p (t x) L → m ≤ t x) → (∀ v, b = some v → m ≤ v) → (b = some m ∨ ∃ x ∈ l, all < 2 * upTo t p (t x) L ∧ t x = m) → bestS t p all L l b = some m
  | [], b, _, _, h => by
    rcases h with h | ⟨x, hx, _⟩
    · exact h
    · simp at hx
  | x :: r, b, h1, h2, h3 => by
    simp only [bestS]
    refine bestS_spec all L m r _ (fun y hy => h1 y (by simp [hy])) ?_ ?_
    · intro v hv
      split at hv
      · next hc => injection hv with hv; subst hv; exact h1 x (by simp) hc.1
      · exact h2 v hv
    · rcases h3 with h3 | ⟨y, hy, hg, hm⟩
      · left
        split
        · next hc =>
          have ha := h1 x (by simp) hc.1
          have hb := hc.2 m h3
          omega
        · exact h3
      · rcases List.mem_cons.1 hy with rfl | hy
        · left
          split
          · rw [hm]
          · next hc =>
            have : ¬ ∀ v, b = some v → t y < v := fun hall => hc ⟨hg, hall⟩
            simp only [Classical.not_forall] at this
            obtain ⟨v, hv, hlt⟩ := this
            have h4 := h2 v hv
            have h5 : v = m := by omega
            rw [hv, h5]
        · right
          exact ⟨y, hy, hg, hm⟩
def Asc : List α → Prop
  | [] => True
  | x :: r => (∀ y ∈ r, t x ≤ t y) ∧ Asc r
theorem Asc.split {a b : List α} (h : Asc t (a ++ b)) : ∀ x ∈ a, ∀ y ∈ b, t x ≤ t y := by
  induction a with
  | nil => intro x hx; simp at hx
  | cons z a ih =>
    intro x hx y hy
    rcases List.mem_cons.1 hx with rfl | hx
    · exact h.1 y (by simp [hy])
    · exact ih h.2 x hx y hy
theorem Asc.right {a b : List α} (h : Asc t (a ++ b)) : Asc t b := by
  induction a with
  | nil => exact h
  | cons z a ih => exact ih h.2
/-- both are the same -/
theorem med_best {S L : List α} (hp : S.Perm L) (hs : Asc t S) (h0 : ∀ x ∈ L, 0 ≤ p x) (hpos : 0 < psum p L) : ∃ m, medS t p (psum p L) 0 S = some m ∧ bestS t p (psum p L) L L none = some m := by
  obtain ⟨a, x, r, hS, hm, h1, h2⟩ := medS_spec t p (psum p L) S 0 (by omega) (by rw [psum_perm p hp]; omega)
  refine ⟨t x, hm, bestS_spec t p _ L (t x) L none (fun y hy hg => ?_) (fun v hv => by simp at hv) (.inr ⟨x, hp.mem_iff.1 (by rw [hS]; simp), ?_, rfl⟩)⟩
  · rcases Int.lt_or_le (t y) (t x) with hlt | hle
    · exfalso
      rw [← upTo_perm t p hp, hS, upTo_append] at hg
      have hz : upTo t p (t y) (x :: r) = 0 := upTo_none t p fun z hz => by
        rcases List.mem_cons.1 hz with rfl | hz
        · exact hlt
        · have hq : Asc t (x :: r) := Asc.right t (a := a) (hS ▸ hs)
          have := hq.1 z hz
          omega
      have ha := (upTo_le t p (b := t y) (l := a) fun z hz => h0 z (hp.mem_iff.1 (by rw [hS]; simp [hz]))).2
      omega
    · exact hle
  · rw [← upTo_perm t p hp, hS, show a ++ x :: r = (a ++ [x]) ++ r by simp, upTo_append, upTo_all t p (l := a ++ [x]) (b := t x) fun z hz => by
      rcases List.mem_append.1 hz with hz | hz
      · exact Asc.split t (hS ▸ hs) z hz x (by simp)
      · rw [List.mem_singleton.1 hz]; omega, psum_append]
    have hr := (upTo_le t p (b := t x) (l := r) fun z hz => h0 z (hp.mem_iff.1 (by rw [hS]; simp [hz]))).1
    simp only [psum]
    omega
end

/-- a member of a council -/
structure Mem where
  addr : Int
  power : Int
  prio : Int
def Mem.cl (m : Mem) : List Value := [.int .u64 m.addr, .int .u64 m.power, .int .i64 m.prio]
structure Mem.ok (m : Mem) : Prop where
  addr : U64 m.addr
  power : U64 m.power
  prio : I64 m.prio
theorem Mem.cl_len (m : Mem) : m.cl.length = 3 := rfl
def supply : Int := 1152921504606846975
def memErr : Option Int → List Mem → Int
  | _, [] => 0
  | p, m :: r => if m.addr = 0 then 85 else if (match p with | some q => decide (m.addr ≤ q) | none => false) = true then 52 else if m.power = 0 ∨ supply < m.power then 50 else memErr (some m.addr) r
def prevM (l : List Mem) (k : Nat) : Option Int := if k = 0 then none else (l[k - 1]?).map (·.addr)
theorem memErr_cons (p : Option Int) (m : Mem) (r : List Mem) : memErr p (m :: r) = if m.addr = 0 then 85 else if (match p with | some q => decide (m.addr ≤ q) | none => false) = true then 52 else if m.power = 0 ∨ supply < m.power then 50 else memErr (some m.addr) r := by cases p <;> rfl
theorem memErr_drop {l : List Mem} {k : Nat} (hk : k < l.length) (p : Option Int) : memErr p (l.drop k) = if l[k].addr = 0 then 85 else if (match p with | some q => decide (l[k].addr ≤ q) | none => false) = true then 52 else if l[k].power = 0 ∨ supply < l[k].power then 50 else memErr (prevM l (k + 1)) (l.drop (k + 1)) := by
  rw [List.drop_eq_getElem_cons hk, memErr_cons]
  have e : prevM l (k + 1) = some l[k].addr := by unfold prevM; rw [if_neg (by omega), show k + 1 - 1 = k by omega, List.getElem?_eq_getElem hk]; rfl
  rw [e]
def totalM (l : List Mem) : Int := psum Mem.power l
def prioBad (t : Int) (m : Mem) : Bool := decide (m.prio < -(7 * t)) || decide (7 * t < m.prio)
def soundErr (l : List Mem) : Int := if l.length = 0 then 53 else if 64 < l.length then 4 else if memErr none l ≠ 0 then memErr none l else if supply < totalM l then 51 else if l.any (prioBad (totalM l)) = true then 2 else 0
theorem memErr_pow : ∀ (l : List Mem) (p : Option Int), (∀ m ∈ l, m.ok) → memErr p l = 0 → ∀ m ∈ l, 1 ≤ m.power ∧ m.power ≤ supply
  | [], _, _, _, m, hm => by cases hm
  | a :: r, p, ho, h, m, hm => by
    rw [memErr_cons] at h
    by_cases h1 : a.addr = 0
    · rw [if_pos h1] at h; cases h
    · rw [if_neg h1] at h
      generalize (match p with | some q => decide (a.addr ≤ q) | none => false) = b at h
      cases b with
      | true => rw [if_pos rfl] at h; cases h
      | false =>
        rw [if_neg (by simp)] at h
        by_cases hp : a.power = 0 ∨ supply < a.power
        · rw [if_pos hp] at h; cases h
        · rw [if_neg hp] at h
          have h0 := (ho a (List.mem_cons_self ..)).power
          unfold U64 at h0
          rcases List.mem_cons.1 hm with rfl | hm
          · simp only [not_or] at hp; omega
          · exact memErr_pow r _ (fun q hq => ho q (List.mem_cons_of_mem _ hq)) h m hm
structure Sounds (l : List Mem) : Prop where
  pos : 0 < l.length
  len : l.length ≤ 64
  pow : ∀ m ∈ l, 1 ≤ m.power ∧ m.power ≤ supply
  total : totalM l ≤ supply
theorem sounds_of {l : List Mem} (ho : ∀ m ∈ l, m.ok) (h : soundErr l = 0) : Sounds l := by
  unfold soundErr at h
  split at h
  · cases h
  · split at h
    · cases h
    · split at h
      · next he => exact absurd h he
      · next he =>
        split at h
        · cases h
        · exact ⟨by omega, by omega, memErr_pow l none ho (by simpa using he), by omega⟩
/-- the power of a mark's member -/
def pwOf (l : List Mem) (m : Mk) : Int := ((l[m.idx.toNat]?).map (·.power)).getD 0
def AscI : Nat → List Mk → Prop
  | _, [] => True
  | b, m :: r => (b : Int) ≤ m.idx ∧ AscI (m.idx.toNat + 1) r
theorem ascI_of : ∀ (ms : List Mk) (q : Int), 0 ≤ q → (∀ m ∈ ms, m.ok) → plainMks (some q) ms = 0 → AscI (q.toNat + 1) ms
  | [], _, _, _, _ => trivial
  | m :: r, q, hq, ho, h => by
    rw [plainMks_cons] at h
    by_cases he : mkErr m = 0
    · rw [if_neg (by simp [he])] at h
      have hb := mkB (ho m (List.mem_cons_self ..)) he
      by_cases hle : m.idx ≤ q
      · rw [if_pos (by simpa using hle)] at h; cases h
      · rw [if_neg (by simpa using hle)] at h
        exact ⟨by omega, ascI_of r m.idx hb.i1 (fun x hx => ho x (List.mem_cons_of_mem _ hx)) h⟩
    · rw [if_pos he] at h; exact absurd h he
theorem ascI_none {ms : List Mk} (ho : ∀ m ∈ ms, m.ok) (h : plainMks none ms = 0) : AscI 0 ms := by
  match ms, ho, h with
  | [], _, _ => exact trivial
  | m :: r, ho, h =>
    rw [plainMks_cons] at h
    by_cases he : mkErr m = 0
    · rw [if_neg (by simp [he])] at h
      have hb := mkB (ho m (List.mem_cons_self ..)) he
      simp only [Bool.false_eq_true, if_false] at h
      exact ⟨hb.i1, ascI_of r m.idx hb.i1 (fun x hx => ho x (List.mem_cons_of_mem _ hx)) h⟩
    · rw [if_pos he] at h; exact absurd h he
theorem psum_drop_le {l : List Mem} (h0 : ∀ m ∈ l, 0 ≤ m.power) {i j : Nat} (h : i ≤ j) : psum Mem.power (l.drop j) ≤ psum Mem.power (l.drop i) := by
  have e : l.drop i = (l.drop i).take (j - i) ++ l.drop j := by
    have := List.take_append_drop (j - i) (l.drop i)
    rw [List.drop_drop, show i + (j - i) = j by omega] at this
    exact this.symm
  rw [e, psum_append]
  have := psum_nonneg Mem.power (l := (l.drop i).take (j - i)) fun m hm => h0 m (List.mem_of_mem_drop (List.mem_of_mem_take hm))
  omega
theorem pw_le (l : List Mem) (h0 : ∀ m ∈ l, 0 ≤ m.power) : ∀ (ms : List Mk) (b : Nat), AscI b ms → psum (pwOf l) ms ≤ psum Mem.power (l.drop b)
  | [], b, _ => psum_nonneg _ fun m hm => h0 m (List.mem_of_mem_drop hm)
  | m :: r, b, h => by
    have h1 := pw_le l h0 r _ h.2
    have hb : b ≤ m.idx.toNat := by have := h.1; omega
    have h2 := psum_drop_le h0 hb
    simp only [psum]
    rcases Nat.lt_or_ge m.idx.toNat l.length with hi | hi
    · have e : psum Mem.power (l.drop m.idx.toNat) = l[m.idx.toNat].power + psum Mem.power (l.drop (m.idx.toNat + 1)) := by rw [List.drop_eq_getElem_cons hi]; rfl
      have ep : pwOf l m = l[m.idx.toNat].power := by unfold pwOf; rw [List.getElem?_eq_getElem hi]; rfl
      omega
    · have ep : pwOf l m = 0 := by unfold pwOf; rw [List.getElem?_eq_none hi]; rfl
      have h3 := psum_drop_le h0 (show m.idx.toNat ≤ m.idx.toNat + 1 by omega)
      omega
theorem pw_nonneg {l : List Mem} (h0 : ∀ m ∈ l, 0 ≤ m.power) (m : Mk) : 0 ≤ pwOf l m := by
  unfold pwOf
  rcases Nat.lt_or_ge m.idx.toNat l.length with hi | hi
  · rw [List.getElem?_eq_getElem hi]; exact h0 _ (List.getElem_mem hi)
  · rw [List.getElem?_eq_none hi]; exact Int.le_refl _
def farMk (l : List Mem) (m : Mk) : Bool := decide ((l.length : Int) ≤ m.idx)
/-- the answer of Median: the time and the error -/
def medRes (l : List Mem) (x : Crt) : Int × Int :=
  if soundErr l ≠ 0 then (0, soundErr l) else if plainCrt x ≠ 0 then (0, plainCrt x) else if x.ms.length = 0 then (0, 127) else if x.ms.any (farMk l) = true then (0, 101)
  else ((bestS Mk.time (pwOf l) (psum (pwOf l) x.ms) x.ms x.ms none).getD 0, 0)
/-- what stands when Median comes to its sum -/
structure Sums (l : List Mem) (ms : List Mk) : Prop where
  near : ∀ m ∈ ms, 0 ≤ m.idx ∧ m.idx < l.length
  pow : ∀ m ∈ l, 1 ≤ m.power ∧ m.power ≤ supply
  some : 0 < ms.length
  sum : psum (pwOf l) ms ≤ supply
  pos : 0 < psum (pwOf l) ms
theorem plainCrt_asc {x : Crt} (hx : x.ok) (h : plainCrt x = 0) : AscI 0 x.ms := by
  unfold plainCrt at h
  by_cases hz : zeroC x = true
  · unfold zeroC at hz
    simp only [Bool.and_eq_true, beq_iff_eq] at hz
    have hn := hx.n
    rw [List.eq_nil_of_length_eq_zero (l := x.ms) (by have := hz.2.2.2; omega)]
    trivial
  · rw [if_neg hz] at h
    by_cases he : headC x = 0
    · rw [if_neg (by simp [he])] at h
      by_cases hn : 64 < (x.n : Int)
      · rw [if_pos hn] at h; cases h
      · rw [if_neg hn] at h
        exact ascI_none hx.ms h
    · rw [if_pos he] at h; exact absurd h he
theorem ascI_idx : ∀ (ms : List Mk) (b : Nat), AscI b ms → ∀ m ∈ ms, 0 ≤ m.idx
  | [], _, _, m, hm => by cases hm
  | a :: r, b, h, m, hm => by
    rcases List.mem_cons.1 hm with rfl | hm
    · have := h.1; omega
    · exact ascI_idx r _ h.2 m hm
theorem sums_of {l : List Mem} {x : Crt} (ho : ∀ m ∈ l, m.ok) (hx : x.ok) (h1 : soundErr l = 0) (h2 : plainCrt x = 0) (h3 : 0 < x.ms.length) (h4 : ¬ x.ms.any (farMk l) = true) : Sums l x.ms := by
  have hs := sounds_of ho h1
  have ha := plainCrt_asc hx h2
  have h0 : ∀ m ∈ l, 0 ≤ m.power := fun m hm => by have := (hs.pow m hm).1; omega
  have hn : ∀ m ∈ x.ms, 0 ≤ m.idx ∧ m.idx < l.length := fun m hm => ⟨ascI_idx _ _ ha m hm, by
    rcases Int.lt_or_le m.idx l.length with h | h
    · exact h
    · exact absurd (List.any_eq_true.2 ⟨m, hm, by simpa [farMk] using h⟩) h4⟩
  refine ⟨hn, hs.pow, h3, ?_, ?_⟩
  · have := pw_le l h0 x.ms 0 ha
    have ht := hs.total
    unfold totalM at ht
    rw [List.drop_zero] at this
    omega
  · match hm : x.ms, h3 with
    | m :: r, _ =>
      have hi := hn m (by rw [hm]; simp)
      have hlt : m.idx.toNat < l.length := by omega
      have ep : pwOf l m = l[m.idx.toNat].power := by unfold pwOf; rw [List.getElem?_eq_getElem hlt]; rfl
      have := (hs.pow _ (List.getElem_mem hlt)).1
      have := psum_nonneg (pwOf l) (l := r) fun q _ => pw_nonneg h0 q
      simp only [psum]; omega
end Go.Proofs.Ytnfffipkgaobhaa
namespace Go.Proofs.Ytnfffipkgaobhaa
set_option linter.unusedSimpArgs false
set_option linter.unusedVariables false
open Go.RowKit
set_option maxRecDepth 100000

def zeroMem : List Value := [.int .u64 0, .int .u64 0, .int .i64 0]
theorem zero_Mem : (Try.prog.info? 53).bind (·.zero) = some (.agg zeroMem.toArray) := by kernel_rfl
theorem info_Mem : (Try.prog.info? 53).map (·.size) = some 3 := by kernel_rfl
theorem info_Mem3 : (Try.prog.info? 53).map (fun i => (i.zero, i.size, i.bytes)) = some (some (.agg zeroMem.toArray), 3, 24) := by kernel_rfl
theorem mem_one (m : Mem) : ∀ u ∈ (Value.agg m.cl.toArray).cells.toList, u.oneCell' = true := by
  intro u hu
  simp only [Value.cells, Mem.cl, List.mem_cons, List.not_mem_nil, or_false] at hu
  rcases hu with rfl | rfl | rfl <;> rfl
theorem mem_sz (m : Mem) : m.cl.toArray.size = 3 := rfl
theorem zeroMem_sz : zeroMem.toArray.size = 3 := rfl
theorem memln {ms : List Mem} : ∀ m ∈ ms, m.cl.length = 3 := fun m _ => m.cl_len
theorem psum_take_succ {α : Type} (p : α → Int) (l : List α) (k : Nat) (hk : k < l.length) : psum p (l.take (k + 1)) = psum p (l.take k) + p l[k] := by
  rw [List.take_succ_eq_append_getElem hk, psum_append]; simp [psum]
theorem psum_take_le {α : Type} (p : α → Int) (l : List α) (h0 : ∀ x ∈ l, 0 ≤ p x) (k : Nat) : psum p (l.take k) ≤ psum p l := by
  have e : psum p l = psum p (l.take k) + psum p (l.drop k) := by rw [← psum_append, List.take_append_drop]
  have := psum_nonneg p (l := l.drop k) fun x hx => h0 x (List.mem_of_mem_drop hx)
  omega
def totV (ms : List Mem) : Value := if supply < totalM ms then .tuple #[.int .u64 0, .bool false] else .tuple #[.int .u64 (totalM ms), .bool true]
theorem ret_eq {a b : Value} (h : a = b) : Ending.returned a = .returned b := by rw [h]

set_option maxHeartbeats 4000000 in
theorem total_any (w : World) (A : Option Addr) (n c : Nat) (ms : List Mem) (hn : n = ms.length) (hm : ∀ m ∈ ms, m.ok) (hr : Rd w A (ms.flatMap Mem.cl)) (hl : n ≤ 10000000000000) :
    Calls Try.prog 54 #[.slice A n c] w fun e w' => e = .returned (totV ms) ∧ Below w.heap.size w w' := by
  have HN := Lib.hid hn
  have HM := Lib.hid hm
  have HR := Lib.hid hr
  have H0 := Lib.hid (show ∀ m ∈ ms, 0 ≤ m.power from fun m h => (hm m h).power.1)
  clear hn hm hr
  go_enter Try.func54, Try.ntmps54
  go_wp2
  go_loopw [4, 9] (fun v i wr => ∃ (k : Nat) (t : Int), k ≤ n ∧ i = .int .i64 (k : Int) ∧ v = .int .u64 t ∧ t = psum Mem.power (ms.take k) ∧ 0 ≤ t ∧ t ≤ 1152921504606846975 ∧ Below w.heap.size w wr) (fun _ i _ => n - (intOf i).toNat)
  case atStart => exact ⟨0, 0, by omega, rfl, rfl, rfl, by omega, by omega, Below.refl _ _⟩
  case round =>
    obtain ⟨k, t, hk, rfl, rfl, ht, h0, h1, hb⟩ := hrel
    have HT := Lib.hid ht
    have HB := Lib.hid hb
    clear ht hb
    by_cases hlt : k < n
    · have hkl : k < ms.length := by rw [← HN.out]; exact hlt
      obtain ⟨ad, hA, hcell⟩ := rd_elem (by omega) memln (HR.out.below HB.out) hkl
      obtain ⟨m, hmk⟩ : ∃ m, ms[k] = m := ⟨_, rfl⟩
      have hmem : m ∈ ms := by rw [← hmk]; exact List.getElem_mem hkl
      have HTK := Lib.hid (show psum Mem.power (ms.take (k + 1)) = t + m.power by rw [psum_take_succ _ _ _ hkl, hmk, ← HT.out])
      have hp := (HM.out m hmem).power
      rw [hmk] at hcell
      have HC := Lib.hid hcell
      subst hA
      clear hcell hmk hmem
      unfold U64 at hp
      obtain ⟨hp0, hp1⟩ := hp
      have hi : (k : Int) < n := by omega
      have pw : IntKind.u64.wrap (1152921504606846975 - t) = 1152921504606846975 - t := by rw [IntKind.wrap_u64]; omega
      go_wp2_with (first
        | (with_reducible show wpList _ _ _ (Oper.mk (some 12) (Op.load _ _) _ _ _ _ :: _) _ _; go_must (refine wpList_load_at rfl 53 _ rfl (ad.add (k * 3)) 3 rfl m.cl HC.out _ Try.underlying53 rfl info_Mem m.cl_len ?_))
        | (with_reducible show wpList _ _ _ (Oper.mk _ (Op.alloc _) _ _ _ _ :: _) _ _; refine wpList_alloc_i rfl 53 rfl (.agg zeroMem.toArray) zero_Mem ?_))
      intro q w4 k4 l4 g4 s4
      have K4 := Lib.hid k4
      have L4 := Lib.hid (HB.out.trans (l4.mono HB.out.size))
      have G4 := Lib.hid (show w.heap.size ≤ q by have := HB.out.size; omega)
      clear k4 l4 g4 s4
      go_wp2_with (with_reducible show wpList _ _ _ (Oper.mk _ (Op.store 53 _ _) _ _ _ _ :: _) _ _; go_must (refine wpList_store_bk rfl 53 _ _ rfl q rfl (.agg m.cl.toArray) rfl _ _ K4.out (by rw [agg_sz (mem_sz m)]; exact info_Mem) rfl (mem_one m) ?_))
      intro w5 h5 hg5 hs5
      have L5 := Lib.hid (below_grown2 L4.out hg5 G4.out L4.out.size)
      have K5 := Lib.hid (show Bk w5 q m.cl.toArray 53 from h5)
      have c1 : w5.cell? ⟨q, 1, none⟩ = some (.int .u64 m.power) := K5.out.cell 1
      clear h5 hg5 hs5 K4 L4
      by_cases hbig : 1152921504606846975 - t < m.power
      · have HBG := Lib.hid (show supply < totalM ms by
          have := psum_take_le Mem.power ms H0.out (k + 1)
          rw [HTK.out] at this
          unfold supply totalM
          omega)
        go_wp2
        go_ret2
        refine ⟨ret_eq ?_, L5.out⟩; unfold totV; rw [if_pos HBG.out]; rfl
      · have pw2 : IntKind.u64.wrap (t + m.power) = t + m.power := by rw [IntKind.wrap_u64]; omega
        go_wp2
        go_round
        case rel => exact ⟨k + 1, t + m.power, by omega, by go_num, rfl, HTK.out.symm, by omega, by omega, L5.out⟩
        case measure => simp [intOf]; omega
    · have hk' : k = n := by omega
      have HE := Lib.hid (show totalM ms = t by rw [HT.out, List.take_of_length_le (by rw [hk', HN.out]; exact Nat.le_refl _)]; rfl)
      have HS := Lib.hid (show totalM ms ≤ supply by rw [HE.out]; unfold supply; omega)
      clear hk'
      go_wp2
      go_ret2
      refine ⟨ret_eq ?_, HB.out⟩; unfold totV; rw [if_neg (Int.not_lt.2 HS.out), HE.out]; rfl

def memE (ms : List Mem) : Int := if ms.length = 0 then 53 else if 64 < ms.length then 4 else if memErr none ms ≠ 0 then memErr none ms else if supply < totalM ms then 51 else 0
def memV (ms : List Mem) : Value := .tuple #[.int .u64 (if memE ms = 0 then totalM ms else 0), .int .i64 (memE ms)]
theorem memV_err {ms : List Mem} {E : Int} (h : memE ms = E) (h0 : E ≠ 0) : Value.tuple #[.int .u64 0, .int .i64 E] = memV ms := by unfold memV; rw [h, if_neg h0]
theorem memV_ok {ms : List Mem} (h : memE ms = 0) : Value.tuple #[.int .u64 (totalM ms), .int .i64 0] = memV ms := by unfold memV; rw [h, if_pos rfl]

set_option maxHeartbeats 4000000 in
theorem members_any (w : World) (A : Option Addr) (n c : Nat) (ms : List Mem) (hn : n = ms.length) (hm : ∀ m ∈ ms, m.ok) (hr : Rd w A (ms.flatMap Mem.cl)) (hl : n ≤ 10000000000000) :
    Calls Try.prog 40 #[.slice A n c] w fun e w' => e = .returned (memV ms) ∧ Below w.heap.size w w' := by
  have HN := Lib.hid hn
  have HM := Lib.hid hm
  have HR := Lib.hid hr
  have H0 := Lib.hid (show ∀ m ∈ ms, 0 ≤ m.power from fun m h => (hm m h).power.1)
  obtain ⟨E, hE⟩ : ∃ E, memE ms = E := ⟨_, rfl⟩
  have hEE : E = if n = 0 then 53 else if 64 < n then 4 else if memErr none ms ≠ 0 then memErr none ms else if supply < totalM ms then 51 else 0 := by rw [← hE, hn]; rfl
  have HE := Lib.hid hE
  have HEE := Lib.hid hEE
  clear hn hm hr hE hEE
  go_enter Try.func40, Try.ntmps40
  by_cases hz : n = 0
  · have HZ := Lib.hid (show memE ms = 53 by rw [HE.out, HEE.out, if_pos hz])
    subst hz
    go_wp2
    go_ret2
    exact ⟨ret_eq (memV_err HZ.out (by decide)), Below.refl _ _⟩
  have hz1 : ¬ (n : Int) = 0 := by omega
  have hz2 : ((n : Int) == 0) = false := by simpa using hz1
  by_cases hbig : 64 < n
  · have HZ := Lib.hid (show memE ms = 4 by rw [HE.out, HEE.out, if_neg hz, if_pos hbig])
    have hb2 : (64 : Int) < (n : Int) := by omega
    clear hz hz1 hbig
    go_wp2
    go_ret2
    exact ⟨ret_eq (memV_err HZ.out (by decide)), Below.refl _ _⟩
  have HEF := Lib.hid (show E = if memErr none ms ≠ 0 then memErr none ms else if supply < totalM ms then 51 else 0 by rw [HEE.out, if_neg hz, if_neg hbig])
  have hn64 : n ≤ 64 := by omega
  have hb2 : ¬ (64 : Int) < (n : Int) := by omega
  clear hz hz1 hbig HEE
  go_wp2
  obtain ⟨R, hRR⟩ : ∃ R, memErr none ms = R := ⟨_, rfl⟩
  rw [hRR] at HEF
  have HRR := Lib.hid hRR
  clear hRR
  go_loopw [18] (fun i wr => ∃ k : Nat, k ≤ n ∧ i = .int .i64 (k : Int) ∧ memErr (prevM ms k) (ms.drop k) = R ∧ Below w.heap.size w wr) (fun i _ => n - (intOf i).toNat)
  case atStart => exact ⟨0, by omega, rfl, by rw [← HRR.out]; rfl, Below.refl _ _⟩
  case round =>
    obtain ⟨k, hk, rfl, hp4, hb⟩ := hrel
    have HP4 := Lib.hid hp4
    have HB := Lib.hid hb
    clear hp4 hb
    by_cases hlt : k < n
    · have hkl : k < ms.length := by rw [← HN.out]; exact hlt
      have hd := memErr_drop hkl (prevM ms k)
      obtain ⟨ad, hA, hcell⟩ := rd_elem (by omega) memln (HR.out.below HB.out) hkl
      obtain ⟨m, hmk⟩ : ∃ m, ms[k] = m := ⟨_, rfl⟩
      have hmem : m ∈ ms := by rw [← hmk]; exact List.getElem_mem hkl
      rw [HP4.out, hmk] at hd
      have HD := Lib.hid hd
      rw [hmk] at hcell
      have HC := Lib.hid hcell
      subst hA
      clear hcell hmk hmem hd
      have hi : (k : Int) < n := by omega
      go_wp2_with (first
        | (with_reducible show wpList _ _ _ (Oper.mk (some 22) (Op.load _ _) _ _ _ _ :: _) _ _; go_must (refine wpList_load_at rfl 53 _ rfl (ad.add (k * 3)) 3 rfl m.cl HC.out _ Try.underlying53 rfl info_Mem m.cl_len ?_))
        | (with_reducible show wpList _ _ _ (Oper.mk _ (Op.alloc _) _ _ _ _ :: _) _ _; refine wpList_alloc_i rfl 53 rfl (.agg zeroMem.toArray) zero_Mem ?_))
      intro q w4 k4 l4 g4 s4
      have K4 := Lib.hid k4
      have L4 := Lib.hid (HB.out.trans (l4.mono HB.out.size))
      have G4 := Lib.hid (show w.heap.size ≤ q by have := HB.out.size; omega)
      clear k4 l4 g4 s4
      go_wp2_with (with_reducible show wpList _ _ _ (Oper.mk _ (Op.store 53 _ _) _ _ _ _ :: _) _ _; go_must (refine wpList_store_bk rfl 53 _ _ rfl q rfl (.agg m.cl.toArray) rfl _ _ K4.out (by rw [agg_sz (mem_sz m)]; exact info_Mem) rfl (mem_one m) ?_))
      intro w5 h5 hg5 hs5
      have L5 := Lib.hid (below_grown2 L4.out hg5 G4.out L4.out.size)
      have K5 := Lib.hid (show Bk w5 q m.cl.toArray 53 from h5)
      have HR5 := Lib.hid (HR.out.below L5.out)
      have c0 : w5.cell? ⟨q, 0, none⟩ = some (.int .u64 m.addr) := K5.out.cell 0
      have c1 : w5.cell? ⟨q, 1, none⟩ = some (.int .u64 m.power) := K5.out.cell 1
      clear h5 hg5 hs5 K4 L4
      by_cases ha : m.addr = 0
      · have HZ := Lib.hid (show memE ms = 85 by rw [HE.out, HEF.out, HD.out, if_pos ha]; rfl)
        have ha2 : (m.addr == 0) = true := by simp [ha]
        clear ha
        go_wp2
        go_ret2
        exact ⟨ret_eq (memV_err HZ.out (by decide)), L5.out⟩
      have ha2 : (m.addr == 0) = false := by simp [ha]
      have HD1 := Lib.hid (show R = if (match prevM ms k with | some q => decide (m.addr ≤ q) | none => false) = true then 52 else if m.power = 0 ∨ supply < m.power then 50 else memErr (prevM ms (k + 1)) (ms.drop (k + 1)) by rw [HD.out, if_neg ha] <;> rfl)
      clear ha HD
      obtain ⟨b, HB1, hway⟩ : ∃ b : Bool, Hid (R = if b = true then 52 else if m.power = 0 ∨ supply < m.power then 50 else memErr (prevM ms (k + 1)) (ms.drop (k + 1))) ∧ ((k = 0 ∧ b = false) ∨ (0 < k ∧ ∃ pa, w5.cell? (ad.add ((k - 1) * 3)) = some (.int .u64 pa) ∧ decide (m.addr ≤ pa) = b)) := by
        by_cases hk0 : k = 0
        · exact ⟨false, Lib.hid (by rw [HD1.out, hk0]; rfl), .inl ⟨hk0, rfl⟩⟩
        · have hkp : k - 1 < ms.length := by omega
          have hpv : prevM ms k = some (ms[k - 1]).addr := by unfold prevM; rw [if_neg hk0, List.getElem?_eq_getElem hkp]; rfl
          refine ⟨decide (m.addr ≤ (ms[k - 1]).addr), Lib.hid (by rw [HD1.out, hpv]), .inr ⟨by omega, (ms[k - 1]).addr, ?_, rfl⟩⟩
          obtain ⟨ad', ha', h1⟩ := rd_elem (by omega) memln HR5.out hkp
          injection ha' with ha'
          have := h1 0 (.int .u64 (ms[k - 1]).addr) rfl
          rw [← ha'] at this
          simpa [Addr.add] using this
      have LD := Lib.hid (show Below w.heap.size w w5.drew from L5.out.drew)
      rcases hway with ⟨hk0, rfl⟩ | ⟨hkp, pa, hcp, hpb⟩
      · have hk1 : decide ((0 : Int) < (k : Int)) = false := decide_eq_false (by omega)
        have hk2 : decide (0 < k) = false := decide_eq_false (by omega)
        clear hk0
        go_wp2_with fail
        refine wp_region_still_tail 13 (by kernel_rfl) (by kernel_rfl) ?_
        simp only [List.take_succ_cons, List.take_zero, List.drop_succ_cons, List.drop_zero]
        refine still_quiet _ _ ?_
        repeat (first | go_big_quiet_skip | (go_big_quiet_want; go_big_quiet_op; go_big_quiet_on))
        refine wpQuiet_nil ?_
        change wpList _ _ _ _ _ w5.drew
        by_cases hpz : m.power = 0
        · have HZ := Lib.hid (show memE ms = 50 by have hr : R = 50 := by { rw [HB1.out, if_neg Bool.false_ne_true, if_pos (.inl hpz)] }; rw [HE.out, HEF.out, hr]; rfl)
          have hq1 : (m.power == 0) = true := by simp [hpz]
          clear hpz
          go_wp2
          go_ret2
          exact ⟨ret_eq (memV_err HZ.out (by decide)), LD.out⟩
        · have hq1 : (m.power == 0) = false := by simp [hpz]
          by_cases hps : 1152921504606846975 < m.power
          · have HZ := Lib.hid (show memE ms = 50 by have hr : R = 50 := by { rw [HB1.out, if_neg Bool.false_ne_true, if_pos (.inr hps)] }; rw [HE.out, HEF.out, hr]; rfl)
            go_wp2
            go_ret2
            exact ⟨ret_eq (memV_err HZ.out (by decide)), LD.out⟩
          · have HZ := Lib.hid (show memErr (prevM ms (k + 1)) (ms.drop (k + 1)) = R by rw [HB1.out, if_neg Bool.false_ne_true, if_neg (by unfold supply; omega)])
            clear hpz
            go_wp2
            go_round
            case rel => exact ⟨k + 1, by omega, by go_num, HZ.out, LD.out⟩
            case measure => simp [intOf]; omega
      · have hk1 : decide ((0 : Int) < (k : Int)) = true := decide_eq_true (by omega)
        have hk2 : decide (0 < k) = true := decide_eq_true (by omega)
        have p1 : IntKind.i64.wrap ((k : Int) - 1) = (k : Int) - 1 := by rw [IntKind.wrap_i64]; omega
        have p2 : ((k : Int) - 1).toNat = k - 1 := by omega
        have p3 : (0 : Int) ≤ (k : Int) - 1 := by omega
        have p4 : (k : Int) - 1 < n := by omega
        have p5 : k - 1 < n := by omega
        cases b
        · go_wp2_with fail
          refine wp_region_still_tail 13 (by kernel_rfl) (by kernel_rfl) ?_
          simp only [List.take_succ_cons, List.take_zero, List.drop_succ_cons, List.drop_zero]
          refine still_quiet _ _ ?_
          repeat (first | go_big_quiet_skip | (go_big_quiet_want; go_big_quiet_op; go_big_quiet_on))
          refine wpQuiet_nil ?_
          change wpList _ _ _ _ _ w5.drew
          clear p1 p2 p3 p4 p5
          by_cases hpz : m.power = 0
          · have HZ := Lib.hid (show memE ms = 50 by have hr : R = 50 := by { rw [HB1.out, if_neg Bool.false_ne_true, if_pos (.inl hpz)] }; rw [HE.out, HEF.out, hr]; rfl)
            have hq1 : (m.power == 0) = true := by simp [hpz]
            clear hpz
            go_wp2
            go_ret2
            exact ⟨ret_eq (memV_err HZ.out (by decide)), LD.out⟩
          · have hq1 : (m.power == 0) = false := by simp [hpz]
            by_cases hps : 1152921504606846975 < m.power
            · have HZ := Lib.hid (show memE ms = 50 by have hr : R = 50 := by { rw [HB1.out, if_neg Bool.false_ne_true, if_pos (.inr hps)] }; rw [HE.out, HEF.out, hr]; rfl)
              go_wp2
              go_ret2
              exact ⟨ret_eq (memV_err HZ.out (by decide)), LD.out⟩
            · have HZ := Lib.hid (show memErr (prevM ms (k + 1)) (ms.drop (k + 1)) = R by rw [HB1.out, if_neg Bool.false_ne_true, if_neg (by unfold supply; omega)])
              clear hpz
              go_wp2
              go_round
              case rel => exact ⟨k + 1, by omega, by go_num, HZ.out, LD.out⟩
              case measure => simp [intOf]; omega
        · have HZ := Lib.hid (show memE ms = 52 by rw [HE.out, HEF.out, HB1.out, if_pos rfl]; rfl)
          go_wp2_with fail
          refine wp_region_still_tail 13 (by kernel_rfl) (by kernel_rfl) ?_
          simp only [List.take_succ_cons, List.take_zero, List.drop_succ_cons, List.drop_zero]
          refine still_quiet _ _ ?_
          repeat (first | go_big_quiet_skip | (go_big_quiet_want; go_big_quiet_op; go_big_quiet_on))
          refine wpQuiet_nil ?_
          change wpList _ _ _ _ _ w5.drew
          go_wp2
          go_ret2
          exact ⟨ret_eq (memV_err HZ.out (by decide)), LD.out⟩
    · have hk' : k = n := by omega
      have HZ := Lib.hid (show R = 0 by rw [← HP4.out, List.drop_of_length_le (by rw [hk', HN.out]; exact Nat.le_refl _)]; cases prevM ms k <;> rfl)
      clear hk'
      have HEG := Lib.hid (show E = if supply < totalM ms then 51 else 0 by rw [HEF.out, if_neg (by rw [HZ.out]; decide)])
      obtain ⟨T, hT⟩ : ∃ T, totV ms = T := ⟨_, rfl⟩
      have HTT := Lib.hid hT
      have HCT := Lib.hid (total_any wr A n c ms HN.out HM.out (HR.out.below HB.out) hl)
      rw [hT] at HCT
      clear hT
      by_cases hs : supply < totalM ms
      · have HTV : Hid (T = .tuple #[.int .u64 0, .bool false]) := Lib.hid (by rw [← HTT.out]; unfold totV; rw [if_pos hs])
        have HZ2 := Lib.hid (show memE ms = 51 by rw [HE.out, HEG.out, if_pos hs])
        clear hs
        go_wp2_with (go_at_call 54; refine HCT.out.mono ?_; rintro e w5 ⟨rfl, h5⟩; have HB5 := Lib.hid (HB.out.trans (h5.mono HB.out.size)); clear h5; rw [HTV.out])
        go_ret2
        exact ⟨ret_eq (memV_err HZ2.out (by decide)), HB5.out⟩
      · have HTV : Hid (T = .tuple #[.int .u64 (totalM ms), .bool true]) := Lib.hid (by rw [← HTT.out]; unfold totV; rw [if_neg hs])
        have HZ2 := Lib.hid (show memE ms = 0 by rw [HE.out, HEG.out, if_neg hs])
        obtain ⟨tt, htt⟩ : ∃ tt, totalM ms = tt := ⟨_, rfl⟩
        have HTE := Lib.hid htt
        rw [htt] at HTV
        clear hs htt
        go_wp2_with (go_at_call 54; refine HCT.out.mono ?_; rintro e w5 ⟨rfl, h5⟩; have HB5 := Lib.hid (HB.out.trans (h5.mono HB.out.size)); clear h5; rw [HTV.out])
        go_ret2
        exact ⟨ret_eq (by rw [← HTE.out]; exact memV_ok HZ2.out), HB5.out⟩
end Go.Proofs.Ytnfffipkgaobhaa

/-
  What the row lists gives the digests' tables; a header and a certificate among the arguments opened. No condition.
  The walk of WireIds: true, and nothing that was there is changed. Conditions: each number fits its kind; the marks lie in the world; the tables read as they were laid.
-/
import Derived.Test.YtjdegphpalhapaaDoorRows
import Derived.Test.YtjdegphpalhapaaDoorJ27
import Derived.ProofKit
import Derived.OpenShut
import Derived.FnData
namespace Go.Proofs.YtjdegphpalhapaaDoor
set_option linter.unusedSimpArgs false
set_option linter.unusedVariables false
open Go.ChangeShapes Go.WideShapes Go.ChangeAt Go.RowKit
set_option maxRecDepth 100000

section
variable {H : Type} {enc : TypeId × Value → H}
theorem cells_u32 : Tryd.prog.cellsOf 95 = 1 := by kernel_rfl
theorem table_cells {W : World} {n : String} {g N : Nat} {t : TypeId} {cs : Array Value} {fuel : Nat} {sp : Nat → Bool} {held : Bool} {p : List MemPlace} (zs : List UInt32) (hg : Tryd.prog.globalNamed n = some g) (hv : W.var? Tryd.prog n = some cs)
    (ht : Tryd.prog.underlying t = some (.array N 95)) (hN : N = zs.length) (h : DataW.trod enc Tryd.prog W 0 sp held fuel t cs.toList = some (.agg (zs.map fun z => .lit (.int .u32 (uI z))), p)) :
    ∀ j v, (uv zs)[j]? = some v → W.cell? ⟨g, j, none⟩ = some v := by
  obtain ⟨xs, m, _, hx, _, hl, hi⟩ := DataW.trod_array ht h
  intro j v hj
  rw [uv_get] at hj
  obtain ⟨z, hz, rfl⟩ := Option.map_eq_some_iff.1 hj
  have hjl : j < zs.length := (List.getElem?_eq_some_iff.1 hz).1
  have hj2 := hi j (by omega)
  rw [cells_u32, Nat.mul_one] at hj2
  have hxj : j < xs.length := by omega
  rw [List.getElem?_eq_getElem hxj] at hj2
  obtain ⟨k, hk, hx2, _⟩ := DataW.trod_int Tryd.underlying95 hj2
  injection hx with hx _
  injection hx with hx
  have e1 : (xs.map (·.1))[j]? = some (DataW.lit (.int .u32 k)) := by rw [List.getElem?_map, List.getElem?_eq_getElem hxj, hx2]; rfl
  rw [← hx, List.getElem?_map, hz] at e1
  simp only [Option.map_some, Option.some.injEq, DataW.lit.injEq, Lit.int.injEq, true_and] at e1
  rw [World.var?_cell hg hv j, e1]
  have e2 : (cs.toList.drop j)[0]? = some (Value.int .u32 k) := by
    have := congrArg (fun l : List Value => l[0]?) hk
    simpa using this
  simpa using e2
theorem cell_lt {w : World} {g j : Nat} {v : Value} (h : w.cell? ⟨g, j, none⟩ = some v) : g < w.heap.size := by
  rcases Nat.lt_or_ge g w.heap.size with hl | hl
  · exact hl
  · have hn : w.cell? ⟨g, j, none⟩ = none := by simp [World.cell?, Array.getElem?_eq_none hl]
    rw [hn] at h; cases h
theorem adds_of {w : World} {g : Nat} (h : ∀ j v, (uv adds256)[j]? = some v → w.cell? ⟨g, j, none⟩ = some v) : Adds w g := fun i hi => by
  refine h i _ ?_
  have hl : i < adds256.length := by rw [adds_len]; exact hi
  rw [uv_get, List.getElem?_eq_getElem hl]
  simp [List.getD, List.getElem?_eq_getElem hl]
theorem laid_a1 : Rows.laid_assent_assentref02_adds (H := Unit) = .agg (adds256.map fun z => .lit (.int .u32 (uI z))) := by kernel_rfl
theorem laid_a2 : Rows.laid_assent_digest_adds (H := Unit) = .agg (adds256.map fun z => .lit (.int .u32 (uI z))) := by kernel_rfl
theorem laid_a3 : Rows.laid_assent_digest_begin (H := Unit) = .agg (begin256.list.map fun z => .lit (.int .u32 (uI z))) := by kernel_rfl
theorem named_1 : Tryd.prog.globalNamed "assent/assentref02.adds" = some 0 := by kernel_rfl
theorem named_2 : Tryd.prog.globalNamed "assent/digest.adds" = some 3 := by kernel_rfl
theorem named_3 : Tryd.prog.globalNamed "assent/digest.begin" = some 1 := by kernel_rfl
theorem type_1 : (Tryd.prog.globals[0]?).map (·.type) = some 134 := by kernel_rfl
theorem type_2 : (Tryd.prog.globals[3]?).map (·.type) = some 134 := by kernel_rfl
theorem type_3 : (Tryd.prog.globals[1]?).map (·.type) = some 96 := by kernel_rfl
theorem tabs_of {W : World} (h : laidMetH Tryd.prog [("assent/assentref02.adds", Rows.laid_assent_assentref02_adds), ("assent/digest.adds", Rows.laid_assent_digest_adds), ("assent/digest.begin", Rows.laid_assent_digest_begin)] W) : Tabs W ∧ RTab W := by
  have h1 : laidMet Tryd.prog [("assent/assentref02.adds", Rows.laid_assent_assentref02_adds), ("assent/digest.adds", Rows.laid_assent_digest_adds), ("assent/digest.begin", Rows.laid_assent_digest_begin)] W := h
  obtain ⟨ps, hl, _, _⟩ := h1
  obtain ⟨g0, t0, cs0, f0, p0, q0, a1, a2, a3, a4, hl, _⟩ := hl
  obtain ⟨g1, t1, cs1, f1, p1, q1, b1, b2, b3, b4, hl, _⟩ := hl
  obtain ⟨g2, t2, cs2, f2, p2, q2, c1, c2, c3, c4, hl, _⟩ := hl
  obtain rfl := Option.some.inj (named_1.symm.trans a1)
  obtain rfl := Option.some.inj (named_2.symm.trans b1)
  obtain rfl := Option.some.inj (named_3.symm.trans c1)
  obtain rfl := Option.some.inj (type_1.symm.trans a2)
  obtain rfl := Option.some.inj (type_2.symm.trans b2)
  obtain rfl := Option.some.inj (type_3.symm.trans c2)
  rw [laid_a1] at a4
  rw [laid_a2] at b4
  rw [laid_a3] at c4
  have k1 := table_cells adds256 named_1 a3 Tryd.underlying134 adds_len.symm a4
  have k2 := table_cells adds256 named_2 b3 Tryd.underlying134 adds_len.symm b4
  have k3 := table_cells begin256.list named_3 c3 Tryd.underlying96 rfl c4
  exact ⟨⟨adds_of k2, k3, cell_lt (k2 0 _ rfl), cell_lt (k3 0 _ rfl)⟩, ⟨adds_of k1, cell_lt (k1 0 _ rfl)⟩⟩
end

-- ---- a header
def hdrTs : List TypeId := [9, 22, 22] ++ (List.replicate 224 5 ++ ([23] ++ []))
theorem open_hdr {w : World} {base : Nat} {v : Value} (h : Value.okWide Tryd.prog w .any base 31 v) : ∃ x : Hdr, x.ok ∧ v = .agg x.cl.toArray := by
  simp only [Value.okWide, Tryd.underlying31] at h
  obtain ⟨cs, rfl, hsz, ts, hts, _, hall⟩ := h
  have e1 : Tryd.prog.cellTypes Tryd.prog.depth 31 = some hdrTs := by kernel_rfl
  have e2 : Tryd.prog.cellsOf 31 = 228 := by kernel_rfl
  have e3 : hdrTs.length = 228 := by decide
  rw [e2] at hsz
  have e4 : ts = hdrTs := Option.some.inj (hts.symm.trans e1)
  subst e4
  have ha : All2 (OkC w base) hdrTs cs.toList := All2.of (by rw [e3]; simp [hsz]) fun i v hv => by
    have hv' : cs[i]? = some v := by simpa using hv
    obtain ⟨u, hu, hc⟩ := hall i v hv'
    have hi : i < 228 := by
      have := (Array.getElem?_eq_some_iff.1 hv').1
      omega
    rw [e3, Nat.mod_eq_of_lt hi] at hu
    exact ⟨u, hu, hc⟩
  obtain ⟨v0, r0, hcs, h0, t1⟩ := All2.cons (ts := [22, 22] ++ _) ha
  obtain ⟨s, rfl, hs⟩ := okc_string Tryd.underlying9 h0
  obtain ⟨v1, r1, rfl, h1, t2⟩ := All2.cons (ts := [22] ++ _) t1
  obtain ⟨n1, rfl, k1⟩ := okc_u64 Tryd.underlying22 h1
  obtain ⟨v2, r2, rfl, h2, t3⟩ := All2.cons (ts := List.replicate 224 5 ++ _) t2
  obtain ⟨n2, rfl, k2⟩ := okc_u64 Tryd.underlying22 h2
  obtain ⟨l, r3, hl, rfl, t4⟩ := okc_bytes Tryd.underlying5 t3
  obtain ⟨v4, r4, rfl, h4, t5⟩ := All2.cons t4
  obtain ⟨n4, rfl, k4⟩ := okc_u64 Tryd.underlying23 h4
  obtain rfl := All2.nil t5
  refine ⟨⟨s, n1, n2, l, n4⟩, ⟨hs, k1, k2, hl, k4⟩, ?_⟩
  congr 1
  apply Array.ext'
  rw [hcs]
  simp [Hdr.cl]
def txTs' : List TypeId := txTs ++ (sealTs ++ [])
theorem open_txv {w : World} {base : Nat} {v : Value} (h : Value.okWide Tryd.prog w .any base 27 v) : ∃ x : Tx, x.ok ∧ v = .agg x.cl.toArray := by
  simp only [Value.okWide, Tryd.underlying27] at h
  obtain ⟨cs, rfl, hsz, ts, hts, _, hall⟩ := h
  have e1 : Tryd.prog.cellTypes Tryd.prog.depth 27 = some txTs' := by kernel_rfl
  have e2 : Tryd.prog.cellsOf 27 = 22 := by kernel_rfl
  have e3 : txTs'.length = 22 := by decide
  rw [e2] at hsz
  have e4 : ts = txTs' := Option.some.inj (hts.symm.trans e1)
  subst e4
  have ha : All2 (OkC w base) txTs' cs.toList := All2.of (by rw [e3]; simp [hsz]) fun i v hv => by
    have hv' : cs[i]? = some v := by simpa using hv
    obtain ⟨u, hu, hc⟩ := hall i v hv'
    have hi : i < 22 := by
      have := (Array.getElem?_eq_some_iff.1 hv').1
      omega
    rw [e3, Nat.mod_eq_of_lt hi] at hu
    exact ⟨u, hu, hc⟩
  obtain ⟨x, r, hx, hcs, t⟩ := open_tx ha
  obtain rfl := All2.nil t
  refine ⟨x, hx, ?_⟩
  congr 1
  apply Array.ext'
  rw [hcs]
  simp

-- ---- a certificate
section
variable {H : Type} {enc : TypeId × Value → H} {W : World} {sp : Nat → Bool} {held : Bool}
theorem wf_i64 {n : Int} (h : (Lit.int .i64 n).wf = true) : I64 n := by
  simp [Lit.wf, IntKind.min, IntKind.max, IntKind.signed, IntKind.bits] at h
  unfold I64; omega
theorem wf_u64 {n : Int} (h : (Lit.int .u64 n).wf = true) : U64 n := by
  simp [Lit.wf, IntKind.min, IntKind.max, IntKind.signed, IntKind.bits] at h
  unfold U64; omega
theorem one_at {l : List Value} {k : Nat} {v : Value} (h : (l.drop k).take 1 = [v]) : l[k]? = some v := by
  have := congrArg (fun l : List Value => l[0]?) h
  simpa using this
/-- cells that read as bytes -/
theorem trod_bytes {n fuel : Nat} {t : TypeId} {cs : List Value} {x : DataW H × List MemPlace} (ht : Tryd.prog.underlying t = some (.array n 5)) (hn : Tryd.prog.cellsOf t = n) (h : DataW.trod enc Tryd.prog W 0 sp held fuel t cs = some x) :
    ∃ l : List UInt8, l.length = n ∧ cs = bv l := by
  obtain ⟨xs, m, _, hx, hc, hl, hi⟩ := DataW.trod_array ht h
  rw [hn] at hc
  have hb : ∀ i, i < n → ∃ b : UInt8, cs[i]? = some (.int .u8 (b.toNat : Int)) := fun i hin => by
    have h2 := hi i hin
    rw [cells_u8, Nat.mul_one, List.getElem?_eq_getElem (by omega)] at h2
    obtain ⟨k, hk, _, hw⟩ := DataW.trod_int Tryd.underlying5 h2
    refine ⟨UInt8.ofNat k.toNat, ?_⟩
    rw [one_at hk, byte_of]
    simp [Lit.wf, IntKind.min, IntKind.max, IntKind.signed, IntKind.bits] at hw
    congr 2
    omega
  refine ⟨cs.map fun v => match v with | .int _ k => UInt8.ofNat k.toNat | _ => 0, by simp [hc], ?_⟩
  apply List.ext_getElem?
  intro i
  rw [bv_get, List.getElem?_map]
  rcases Nat.lt_or_ge i n with hin | hin
  · obtain ⟨b, hb⟩ := hb i hin
    rw [hb]
    simp
  · rw [List.getElem?_eq_none (by omega)]; rfl
theorem cells_Mk : Tryd.prog.cellsOf 106 = 18 := by kernel_rfl
theorem cells_i : Tryd.prog.cellsOf 3 = 1 := by kernel_rfl
theorem cells_64 : Tryd.prog.cellsOf 22 = 1 := by kernel_rfl
theorem cells_seal : Tryd.prog.cellsOf 25 = 16 := by kernel_rfl
theorem fields_Mk : ∃ fs, Tryd.prog.underlying 106 = some (.struct fs) ∧ fs.size = 3 ∧ (fs[0]?).map (fun f => (f.type, f.offset)) = some (3, 0) ∧ (fs[1]?).map (fun f => (f.type, f.offset)) = some (22, 1) ∧ (fs[2]?).map (fun f => (f.type, f.offset)) = some (25, 2) := ⟨_, rfl, by kernel_rfl, by kernel_rfl, by kernel_rfl, by kernel_rfl⟩
theorem fields_Crt : ∃ fs, Tryd.prog.underlying 34 = some (.struct fs) ∧ fs.size = 4 ∧ (fs[3]?).map (fun f => (f.type, f.offset)) = some (32, 34) := ⟨_, rfl, by kernel_rfl, by kernel_rfl⟩
theorem cells_sl : Tryd.prog.cellsOf 32 = 1 := by kernel_rfl
theorem trod_field {t : TypeId} {fs : Array Field} {fuel : Nat} {cs : List Value} {x : DataW H × List MemPlace} (hu : Tryd.prog.underlying t = some (.struct fs)) (h : DataW.trod enc Tryd.prog W 0 sp held fuel t cs = some x) (i : Nat) {ft : TypeId} {off : Nat} (hi : i < fs.size) (hf : (fs[i]?).map (fun f => (f.type, f.offset)) = some (ft, off)) :
    ∃ n y, DataW.trod enc Tryd.prog W 0 sp held n ft ((cs.drop off).take (Tryd.prog.cellsOf ft)) = some y := by
  obtain ⟨xs, n, _, _, _, hl, ht⟩ := DataW.trod_struct hu h
  obtain ⟨f, hf1, hf2⟩ := Option.map_eq_some_iff.1 hf
  have := ht i f hf1
  simp only [Prod.mk.injEq] at hf2
  rw [hf2.1, hf2.2, List.getElem?_eq_getElem (by omega)] at this
  exact ⟨n, _, this⟩
theorem open_mk {fuel : Nat} {cs : List Value} {x : DataW H × List MemPlace} (h : DataW.trod enc Tryd.prog W 0 sp held fuel 106 cs = some x) : ∃ m : Mk, m.ok ∧ cs = m.cl := by
  obtain ⟨fs, hu, hs, f0, f1, f2⟩ := fields_Mk
  obtain ⟨_, _, _, _, hlen, _, _⟩ := DataW.trod_struct hu h
  rw [cells_Mk] at hlen
  obtain ⟨_, y0, h0⟩ := trod_field hu h 0 (by omega) f0
  obtain ⟨_, y1, h1⟩ := trod_field hu h 1 (by omega) f1
  obtain ⟨_, y2, h2⟩ := trod_field hu h 2 (by omega) f2
  rw [cells_i] at h0
  rw [cells_64] at h1
  rw [cells_seal] at h2
  obtain ⟨i, k0, _, w0⟩ := DataW.trod_int Tryd.underlying3 h0
  obtain ⟨t, k1, _, w1⟩ := DataW.trod_int Tryd.underlying22 h1
  obtain ⟨l, hl, k2⟩ := trod_bytes Tryd.underlying25 cells_seal h2
  refine ⟨⟨i, t, l⟩, ⟨wf_i64 w0, wf_u64 w1, hl⟩, ?_⟩
  have e2 : cs.drop 2 = bv l := by rw [← k2]; exact (List.take_of_length_le (by simp [hlen])).symm
  have e0 := one_at k0
  have e1 := one_at k1
  match cs, e0, e1, e2 with
  | a :: b :: r, e0, e1, e2 =>
    simp at e0 e1 e2
    simp [Mk.cl, e0, e1, e2]
theorem list_of {α : Type} {P : Nat → α → Prop} : ∀ {n : Nat}, (∀ i, i < n → ∃ a, P i a) → ∃ l : List α, l.length = n ∧ ∀ (i : Nat) (h : i < l.length), P i l[i]
  | 0, _ => ⟨[], rfl, fun i h => absurd h (by simp)⟩
  | n + 1, h => by
    obtain ⟨l, hl, hp⟩ := list_of (n := n) fun i hi => h i (by omega)
    obtain ⟨a, ha⟩ := h n (by omega)
    refine ⟨l ++ [a], by simp [hl], fun i hi => ?_⟩
    rcases Nat.lt_or_ge i l.length with h1 | h1
    · rw [List.getElem_append_left h1]; exact hp i h1
    · have e : i = n := by simp at hi; omega
      subst e
      rw [List.getElem_append_right h1]
      simpa using ha
theorem mk_inv : ∀ (ms : List Mk), (∀ m ∈ ms, m.ok) → ∀ (j : Nat) (u : Value), (ms.flatMap Mk.cl)[j]? = some u → ∃ i r, ∃ h : i < ms.length, j = 18 * i + r ∧ r < 18 ∧ (ms[i]).cl[r]? = some u
  | [], _, j, u, h => by simp at h
  | m :: ms, hm, j, u, h => by
    have hl := m.cl_len (hm m (List.mem_cons_self ..))
    rw [List.flatMap_cons] at h
    rcases Nat.lt_or_ge j 18 with hj | hj
    · rw [List.getElem?_append_left (by omega)] at h
      exact ⟨0, j, by simp, by omega, hj, h⟩
    · rw [List.getElem?_append_right (by omega), hl] at h
      obtain ⟨i, r, hi, e, hr, hu⟩ := mk_inv ms (fun q hq => hm q (List.mem_cons_of_mem _ hq)) _ u h
      exact ⟨i + 1, r, by simpa using hi, by omega, hr, by simpa using hu⟩
theorem add_add_18 (ad : Addr) (k j : Nat) : (ad.add (k * 18)).add j = ad.add (18 * k + j) := by
  rw [show 18 * k + j = k * 18 + j by omega]
  unfold Addr.add
  split <;> split <;> simp_all <;> omega
def crtTs : List TypeId := [22, 3] ++ (List.replicate 32 5 ++ ([32] ++ []))
theorem open_crt {base : Nat} {v : Value} {d : DataW H} {p : List MemPlace} (hv : Value.okWide Tryd.prog W .any base 34 v) (ht : DataW.Trod enc Tryd.prog W 0 sp held 34 v d p) :
    ∃ x : Crt, x.ok ∧ x.at W ∧ v = .agg x.cl.toArray := by
  simp only [Value.okWide, Tryd.underlying34] at hv
  obtain ⟨cs, rfl, hsz, ts, hts, _, hall⟩ := hv
  have e1 : Tryd.prog.cellTypes Tryd.prog.depth 34 = some crtTs := by kernel_rfl
  have e2 : Tryd.prog.cellsOf 34 = 35 := by kernel_rfl
  have e3 : crtTs.length = 35 := by decide
  rw [e2] at hsz
  have e4 : ts = crtTs := Option.some.inj (hts.symm.trans e1)
  subst e4
  have ha : All2 (OkC W base) crtTs cs.toList := All2.of (by rw [e3]; simp [hsz]) fun i v hv => by
    have hv' : cs[i]? = some v := by simpa using hv
    obtain ⟨u, hu, hc⟩ := hall i v hv'
    have hi : i < 35 := by
      have := (Array.getElem?_eq_some_iff.1 hv').1
      omega
    rw [e3, Nat.mod_eq_of_lt hi] at hu
    exact ⟨u, hu, hc⟩
  obtain ⟨v1, r1, hcs, h1, t2⟩ := All2.cons (ts := [3] ++ _) ha
  obtain ⟨n1, rfl, k1⟩ := okc_u64 Tryd.underlying22 h1
  obtain ⟨v2, r2, rfl, h2, t3⟩ := All2.cons (ts := List.replicate 32 5 ++ _) t2
  obtain ⟨n2, rfl, k2⟩ := okc_i64 Tryd.underlying3 h2
  obtain ⟨l, r3, hl, rfl, t4⟩ := okc_bytes Tryd.underlying5 t3
  obtain ⟨v4, r4, rfl, h4, t5⟩ := All2.cons t4
  obtain rfl := All2.nil t5
  -- the marks
  obtain ⟨fuel, hf⟩ := ht
  obtain ⟨fs, hu, hs, f3⟩ := fields_Crt
  obtain ⟨_, y, hy⟩ := trod_field hu hf 3 (by omega) f3
  rw [cells_sl] at hy
  have e5 : ((Value.agg cs).cells.toList.drop 34).take 1 = [v4] := by
    show (cs.toList.drop 34).take 1 = [v4]
    rw [hcs]
    have : (bv l).length = 32 := by rw [bv_length, hl]
    rw [show (Value.int .u64 n1 :: Value.int .i64 n2 :: (bv l ++ [v4])) = ([Value.int .u64 n1, Value.int .i64 n2] ++ bv l) ++ [v4] by simp, List.drop_append, List.drop_of_length_le (by simp [this])]
    simp [this]
  rw [e5] at hy
  have hv' : cs = (([Value.int .u64 n1, Value.int .i64 n2] ++ bv l) ++ [v4]).toArray := by
    apply Array.ext'
    rw [hcs]
    simp
  rcases DataW.trod_slice Tryd.underlying32 hy with ⟨hn, _⟩ | ⟨a, len, cap, elems, rest, m, _, hc, _, _, _, _, hel, hE, _, _⟩
  · injection hn with hn _
    subst hn
    exact ⟨⟨n1, n2, l, none, 0, 0, []⟩, ⟨k1, k2, hl, rfl, fun m hm => by cases hm⟩, Rd.nil _ _, by rw [hv']; rfl⟩
  · injection hc with hc _
    subst hc
    have hms : ∀ i, i < len → ∃ q : Mk, q.ok ∧ ∀ r u, q.cl[r]? = some u → W.cell? (a.add (18 * i + r)) = some u := fun i hi => by
      have h := hE i hi
      rw [List.getElem?_eq_getElem (by omega), cells_Mk] at h
      simp only [Option.bind_eq_some_iff] at h
      obtain ⟨mc, hmc, htr⟩ := h
      obtain ⟨q, hq, rfl⟩ := open_mk htr
      refine ⟨q, hq, fun r u hr => ?_⟩
      unfold World.cells? at hmc
      rw [if_pos (Nat.zero_le _)] at hmc
      have hr18 : r < 18 := by rw [← q.cl_len hq]; exact (List.getElem?_eq_some_iff.1 hr).1
      have := mapM_some_get hmc r r (by simp [hr18])
      rw [hr, add_add_18] at this
      exact this
    obtain ⟨ms, hml, hmp⟩ := list_of hms
    have hmo : ∀ q ∈ ms, q.ok := fun q hq => by
      obtain ⟨i, hi, rfl⟩ := List.getElem_of_mem hq
      exact (hmp i hi).1
    refine ⟨⟨n1, n2, l, some a, len, cap, ms⟩, ⟨k1, k2, hl, hml.symm, hmo⟩, ?_, by rw [hv']; rfl⟩
    intro j u hj
    obtain ⟨i, r, hi, rfl, hr, hu⟩ := mk_inv ms hmo j u hj
    exact ⟨a, rfl, (hmp i hi).2 r u hu⟩
end
end Go.Proofs.YtjdegphpalhapaaDoor
namespace Go.Proofs.YtjdegphpalhapaaDoor
set_option linter.unusedSimpArgs false
set_option linter.unusedVariables false
open Go.RowKit
set_option maxRecDepth 100000

theorem idTx_len (x : Tx) : (idTx x).length = 32 := sha_len _
theorem idHdr_len (x : Hdr) : (idHdr x).length = 32 := nzH_len (sha_len _)
theorem idCrt_len (x : Crt) : (idCrt x).length = 32 := by unfold idCrt; split; rfl; exact sha_len _
set_option maxHeartbeats 8000000 in
theorem walk_ids (w : World) (x : Tx) (h : Hdr) (c : Crt) (hx : x.ok) (hh : h.ok) (hc : c.ok) (hat : c.at w) (ht : Tabs w) (hr : RTab w) :
    Calls Tryd.prog 3 #[.agg x.cl.toArray, .agg h.cl.toArray, .agg c.cl.toArray] w fun e w' => e = .returned (.bool true) ∧ Below w.heap.size w w' := by
  have HX := Lib.hid hx
  have HH := Lib.hid hh
  have HC := Lib.hid hc
  have L0 := Lib.hid (x.cl_len hx)
  have L1 := Lib.hid (h.cl_len hh)
  have L2 := Lib.hid (c.cl_len hc)
  have HT := Lib.hid ht
  have HR := Lib.hid hr
  have HA := Lib.hid (show Rd w c.A (c.ms.flatMap Mk.cl) from hat)
  clear hx hh hc ht hr hat
  obtain ⟨E0, hE0⟩ : ∃ E, plainTx x = E := ⟨_, rfl⟩
  obtain ⟨A0, hA0⟩ : ∃ A, hashOr E0 (idTx x) = A := ⟨_, rfl⟩
  have AL0 := Lib.hid (show A0.length = 32 by rw [← hA0]; exact hashOr_len (idTx_len x))
  have HE0 := Lib.hid hE0
  have HA0 := Lib.hid hA0
  clear hE0 hA0
  obtain ⟨E1, hE1⟩ : ∃ E, plainHdr h = E := ⟨_, rfl⟩
  obtain ⟨A1, hA1⟩ : ∃ A, hashOr E1 (idHdr h) = A := ⟨_, rfl⟩
  have AL1 := Lib.hid (show A1.length = 32 by rw [← hA1]; exact hashOr_len (idHdr_len h))
  have HE1 := Lib.hid hE1
  have HA1 := Lib.hid hA1
  clear hE1 hA1
  obtain ⟨E2, hE2⟩ : ∃ E, plainCrt c = E := ⟨_, rfl⟩
  obtain ⟨A2, hA2⟩ : ∃ A, hashOr E2 (idCrt c) = A := ⟨_, rfl⟩
  have AL2 := Lib.hid (show A2.length = 32 by rw [← hA2]; exact hashOr_len (idCrt_len c))
  have HE2 := Lib.hid hE2
  have HA2 := Lib.hid hA2
  clear hE2 hA2
  go_enter Tryd.func3, Tryd.ntmps3
  go_wp2_with (with_reducible show wpList _ _ _ (Oper.mk _ (Op.box _ _) _ _ _ _ :: _) _ _; refine wpList_box_i rfl _ _ rfl _ rfl ?_)
  intro b0 v0 hk0 hl0 hg0 hs0
  have HL := Lib.hid hl0
  have HK0 := Lib.hid (bk_eqT (cs' := x.cl.toArray) hk0 rfl)
  clear hk0 hl0 hg0 hs0
  go_wp2_with (with_reducible show wpList _ _ _ (Oper.mk _ (Op.box _ _) _ _ _ _ :: _) _ _; refine wpList_box_i rfl _ _ rfl _ rfl ?_)
  intro b1 v1 hk1 hl1 hg1 hs1
  have HL := Lib.hid (HL.out.trans (hl1.mono HL.out.size))
  have HK0 := Lib.hid (HK0.out.below hl1 HK0.out.lt)
  have HK1 := Lib.hid (bk_eqT (cs' := h.cl.toArray) hk1 rfl)
  clear hk1 hl1 hg1 hs1
  go_wp2_with (with_reducible show wpList _ _ _ (Oper.mk _ (Op.box _ _) _ _ _ _ :: _) _ _; refine wpList_box_i rfl _ _ rfl _ rfl ?_)
  intro b2 v2 hk2 hl2 hg2 hs2
  have HL := Lib.hid (HL.out.trans (hl2.mono HL.out.size))
  have HK0 := Lib.hid (HK0.out.below hl2 HK0.out.lt)
  have HK1 := Lib.hid (HK1.out.below hl2 HK1.out.lt)
  have HK2 := Lib.hid (bk_eqT (cs' := c.cl.toArray) hk2 rfl)
  clear hk2 hl2 hg2 hs2
  go_wp2_with (with_reducible show wpList _ _ _ (Oper.mk (some 20) (Op.load _ _) _ _ _ _ :: _) _ _; go_must (refine wpList_load_part rfl 27 _ rfl b0 0 22 rfl _ _ _ HK0.out Tryd.underlying27 rfl info_Tx (by simp [L0.out]) _ (cl_all L0.out) ?_); go_wp2_with fail)
  refine (TxId_any v2 x HX.out (HT.out.below HL.out)).mono ?_
  rintro e s0 ⟨hl, rfl⟩
  rw [HE0.out, HA0.out]
  have HB0 := Lib.hid hl
  clear hl
  go_wp2_with (with_reducible show wpList _ _ _ (Oper.mk _ (Op.alloc _) _ _ _ _ :: _) _ _; go_must (refine wpList_alloc_i rfl 29 rfl (.agg (bv (zer 32)).toArray) zero_hash ?_))
  intro r0 t0 h5 hl5 hg5 hs5
  have HZ5 := Lib.hid h5
  have HL5 := Lib.hid hl5
  have HG5 := Lib.hid hg5
  clear h5 hl5 hs5 hg5
  go_wp2_with (with_reducible show wpList _ _ _ (Oper.mk _ (Op.store 29 _ _) _ _ _ _ :: _) _ _; go_must (refine wpList_store_bk rfl 29 _ _ rfl r0 rfl (.agg (bv A0).toArray) rfl _ _ HZ5.out (by rw [agg_sz (bv_sz (n := 32) AL0.out)]; exact info_h32) (by rw [agg_sz (bv_sz (n := 32) AL0.out)]; simp [bv, zer]) (by simpa [Value.cells] using bv_one A0) ?_))
  intro u0 h6 hg6 hs6
  have HS := Lib.hid (HB0.out.trans ((below_grown2 HL5.out hg6 HG5.out HL5.out.size).mono HB0.out.size))
  have H0 := Lib.hid (show Bk u0 r0 (bv A0).toArray 29 from h6)
  have HL := Lib.hid (HL.out.trans (HS.out.mono HL.out.size))
  have HK0 := Lib.hid (HK0.out.below HS.out HK0.out.lt)
  have HK1 := Lib.hid (HK1.out.below HS.out HK1.out.lt)
  have HK2 := Lib.hid (HK2.out.below HS.out HK2.out.lt)
  clear h6 hg6 hs6 HZ5 HL5 HG5 HS
  go_wp2_with (with_reducible show wpList _ _ _ (Oper.mk (some 25) (Op.load _ _) _ _ _ _ :: _) _ _; go_must (refine wpList_load_part rfl 31 _ rfl b1 0 228 rfl _ _ _ HK1.out Tryd.underlying31 rfl info_Hdr (by simp [Value.cells, L1.out]) _ (cl_all228 L1.out) ?_); go_wp2_with fail)
  refine (BlockId_any u0 h HH.out (HT.out.below HL.out)).mono ?_
  rintro e s1 ⟨hl, rfl⟩
  rw [HE1.out, HA1.out]
  have HB1 := Lib.hid hl
  clear hl
  go_wp2_with (with_reducible show wpList _ _ _ (Oper.mk _ (Op.alloc _) _ _ _ _ :: _) _ _; go_must (refine wpList_alloc_i rfl 29 rfl (.agg (bv (zer 32)).toArray) zero_hash ?_))
  intro r1 t1 h5 hl5 hg5 hs5
  have HZ5 := Lib.hid h5
  have HL5 := Lib.hid hl5
  have HG5 := Lib.hid hg5
  clear h5 hl5 hs5 hg5
  go_wp2_with (with_reducible show wpList _ _ _ (Oper.mk _ (Op.store 29 _ _) _ _ _ _ :: _) _ _; go_must (refine wpList_store_bk rfl 29 _ _ rfl r1 rfl (.agg (bv A1).toArray) rfl _ _ HZ5.out (by rw [agg_sz (bv_sz (n := 32) AL1.out)]; exact info_h32) (by rw [agg_sz (bv_sz (n := 32) AL1.out)]; simp [bv, zer]) (by simpa [Value.cells] using bv_one A1) ?_))
  intro u1 h6 hg6 hs6
  have HS := Lib.hid (HB1.out.trans ((below_grown2 HL5.out hg6 HG5.out HL5.out.size).mono HB1.out.size))
  have H1 := Lib.hid (show Bk u1 r1 (bv A1).toArray 29 from h6)
  have HL := Lib.hid (HL.out.trans (HS.out.mono HL.out.size))
  have HK0 := Lib.hid (HK0.out.below HS.out HK0.out.lt)
  have HK1 := Lib.hid (HK1.out.below HS.out HK1.out.lt)
  have HK2 := Lib.hid (HK2.out.below HS.out HK2.out.lt)
  have H0 := Lib.hid (H0.out.below HS.out H0.out.lt)
  clear h6 hg6 hs6 HZ5 HL5 HG5 HS
  go_wp2_with (with_reducible show wpList _ _ _ (Oper.mk (some 30) (Op.load _ _) _ _ _ _ :: _) _ _; go_must (refine wpList_load_part rfl 34 _ rfl b2 0 35 rfl _ _ _ HK2.out Tryd.underlying34 rfl info_Crt (by simp [L2.out]) _ (cl_all35 L2.out) ?_); go_wp2_with fail)
  refine (CertId_any u1 c HC.out (show Rd u1 c.A (c.ms.flatMap Mk.cl) from HA.out.below HL.out) (HT.out.below HL.out)).mono ?_
  rintro e s2 ⟨hl, rfl⟩
  rw [HE2.out, HA2.out]
  have HB2 := Lib.hid hl
  clear hl
  go_wp2_with (with_reducible show wpList _ _ _ (Oper.mk _ (Op.alloc _) _ _ _ _ :: _) _ _; go_must (refine wpList_alloc_i rfl 29 rfl (.agg (bv (zer 32)).toArray) zero_hash ?_))
  intro r2 t2 h5 hl5 hg5 hs5
  have HZ5 := Lib.hid h5
  have HL5 := Lib.hid hl5
  have HG5 := Lib.hid hg5
  clear h5 hl5 hs5 hg5
  go_wp2_with (with_reducible show wpList _ _ _ (Oper.mk _ (Op.store 29 _ _) _ _ _ _ :: _) _ _; go_must (refine wpList_store_bk rfl 29 _ _ rfl r2 rfl (.agg (bv A2).toArray) rfl _ _ HZ5.out (by rw [agg_sz (bv_sz (n := 32) AL2.out)]; exact info_h32) (by rw [agg_sz (bv_sz (n := 32) AL2.out)]; simp [bv, zer]) (by simpa [Value.cells] using bv_one A2) ?_))
  intro u2 h6 hg6 hs6
  have HS := Lib.hid (HB2.out.trans ((below_grown2 HL5.out hg6 HG5.out HL5.out.size).mono HB2.out.size))
  have H2 := Lib.hid (show Bk u2 r2 (bv A2).toArray 29 from h6)
  have HL := Lib.hid (HL.out.trans (HS.out.mono HL.out.size))
  have HK0 := Lib.hid (HK0.out.below HS.out HK0.out.lt)
  have HK1 := Lib.hid (HK1.out.below HS.out HK1.out.lt)
  have HK2 := Lib.hid (HK2.out.below HS.out HK2.out.lt)
  have H0 := Lib.hid (H0.out.below HS.out H0.out.lt)
  have H1 := Lib.hid (H1.out.below HS.out H1.out.lt)
  clear h6 hg6 hs6 HZ5 HL5 HG5 HS
  go_wp2_with (with_reducible show wpList _ _ _ (Oper.mk (some 35) (Op.load _ _) _ _ _ _ :: _) _ _; go_must (refine wpList_load_part rfl 27 _ rfl b0 0 22 rfl _ _ _ HK0.out Tryd.underlying27 rfl info_Tx (by simp [L0.out]) _ (cl_all L0.out) ?_); go_wp2_with fail)
  refine (rTxId_any u2 x HX.out (HR.out.below HL.out HR.out.lt HL.out.size)).mono ?_
  rintro e s3 ⟨hl, rfl⟩
  rw [HE0.out, HA0.out]
  have HB3 := Lib.hid hl
  clear hl
  go_wp2_with (with_reducible show wpList _ _ _ (Oper.mk _ (Op.alloc _) _ _ _ _ :: _) _ _; go_must (refine wpList_alloc_i rfl 29 rfl (.agg (bv (zer 32)).toArray) zero_hash ?_))
  intro r3 t3 h5 hl5 hg5 hs5
  have HZ5 := Lib.hid h5
  have HL5 := Lib.hid hl5
  have HG5 := Lib.hid hg5
  clear h5 hl5 hs5 hg5
  go_wp2_with (with_reducible show wpList _ _ _ (Oper.mk _ (Op.store 29 _ _) _ _ _ _ :: _) _ _; go_must (refine wpList_store_bk rfl 29 _ _ rfl r3 rfl (.agg (bv A0).toArray) rfl _ _ HZ5.out (by rw [agg_sz (bv_sz (n := 32) AL0.out)]; exact info_h32) (by rw [agg_sz (bv_sz (n := 32) AL0.out)]; simp [bv, zer]) (by simpa [Value.cells] using bv_one A0) ?_))
  intro u3 h6 hg6 hs6
  have HS := Lib.hid (HB3.out.trans ((below_grown2 HL5.out hg6 HG5.out HL5.out.size).mono HB3.out.size))
  have H3 := Lib.hid (show Bk u3 r3 (bv A0).toArray 29 from h6)
  have HL := Lib.hid (HL.out.trans (HS.out.mono HL.out.size))
  have HK0 := Lib.hid (HK0.out.below HS.out HK0.out.lt)
  have HK1 := Lib.hid (HK1.out.below HS.out HK1.out.lt)
  have HK2 := Lib.hid (HK2.out.below HS.out HK2.out.lt)
  have H0 := Lib.hid (H0.out.below HS.out H0.out.lt)
  have H1 := Lib.hid (H1.out.below HS.out H1.out.lt)
  have H2 := Lib.hid (H2.out.below HS.out H2.out.lt)
  clear h6 hg6 hs6 HZ5 HL5 HG5 HS
  go_wp2_with (with_reducible show wpList _ _ _ (Oper.mk (some 40) (Op.load _ _) _ _ _ _ :: _) _ _; go_must (refine wpList_load_part rfl 31 _ rfl b1 0 228 rfl _ _ _ HK1.out Tryd.underlying31 rfl info_Hdr (by simp [Value.cells, L1.out]) _ (cl_all228 L1.out) ?_); go_wp2_with fail)
  refine (rBlockId_any u3 h HH.out (HR.out.below HL.out HR.out.lt HL.out.size)).mono ?_
  rintro e s4 ⟨hl, rfl⟩
  rw [HE1.out, HA1.out]
  have HB4 := Lib.hid hl
  clear hl
  go_wp2_with (with_reducible show wpList _ _ _ (Oper.mk _ (Op.alloc _) _ _ _ _ :: _) _ _; go_must (refine wpList_alloc_i rfl 29 rfl (.agg (bv (zer 32)).toArray) zero_hash ?_))
  intro r4 t4 h5 hl5 hg5 hs5
  have HZ5 := Lib.hid h5
  have HL5 := Lib.hid hl5
  have HG5 := Lib.hid hg5
  clear h5 hl5 hs5 hg5
  go_wp2_with (with_reducible show wpList _ _ _ (Oper.mk _ (Op.store 29 _ _) _ _ _ _ :: _) _ _; go_must (refine wpList_store_bk rfl 29 _ _ rfl r4 rfl (.agg (bv A1).toArray) rfl _ _ HZ5.out (by rw [agg_sz (bv_sz (n := 32) AL1.out)]; exact info_h32) (by rw [agg_sz (bv_sz (n := 32) AL1.out)]; simp [bv, zer]) (by simpa [Value.cells] using bv_one A1) ?_))
  intro u4 h6 hg6 hs6
  have HS := Lib.hid (HB4.out.trans ((below_grown2 HL5.out hg6 HG5.out HL5.out.size).mono HB4.out.size))
  have H4 := Lib.hid (show Bk u4 r4 (bv A1).toArray 29 from h6)
  have HL := Lib.hid (HL.out.trans (HS.out.mono HL.out.size))
  have HK0 := Lib.hid (HK0.out.below HS.out HK0.out.lt)
  have HK1 := Lib.hid (HK1.out.below HS.out HK1.out.lt)
  have HK2 := Lib.hid (HK2.out.below HS.out HK2.out.lt)
  have H0 := Lib.hid (H0.out.below HS.out H0.out.lt)
  have H1 := Lib.hid (H1.out.below HS.out H1.out.lt)
  have H2 := Lib.hid (H2.out.below HS.out H2.out.lt)
  have H3 := Lib.hid (H3.out.below HS.out H3.out.lt)
  clear h6 hg6 hs6 HZ5 HL5 HG5 HS
  go_wp2_with (with_reducible show wpList _ _ _ (Oper.mk (some 45) (Op.load _ _) _ _ _ _ :: _) _ _; go_must (refine wpList_load_part rfl 34 _ rfl b2 0 35 rfl _ _ _ HK2.out Tryd.underlying34 rfl info_Crt (by simp [L2.out]) _ (cl_all35 L2.out) ?_); go_wp2_with fail)
  refine (rCertId_any u4 c HC.out (show Rd u4 c.A (c.ms.flatMap Mk.cl) from HA.out.below HL.out) (HR.out.below HL.out HR.out.lt HL.out.size)).mono ?_
  rintro e s5 ⟨hl, rfl⟩
  rw [HE2.out, HA2.out]
  have HB5 := Lib.hid hl
  clear hl
  go_wp2_with (with_reducible show wpList _ _ _ (Oper.mk _ (Op.alloc _) _ _ _ _ :: _) _ _; go_must (refine wpList_alloc_i rfl 29 rfl (.agg (bv (zer 32)).toArray) zero_hash ?_))
  intro r5 t5 h5 hl5 hg5 hs5
  have HZ5 := Lib.hid h5
  have HL5 := Lib.hid hl5
  have HG5 := Lib.hid hg5
  clear h5 hl5 hs5 hg5
  go_wp2_with (with_reducible show wpList _ _ _ (Oper.mk _ (Op.store 29 _ _) _ _ _ _ :: _) _ _; go_must (refine wpList_store_bk rfl 29 _ _ rfl r5 rfl (.agg (bv A2).toArray) rfl _ _ HZ5.out (by rw [agg_sz (bv_sz (n := 32) AL2.out)]; exact info_h32) (by rw [agg_sz (bv_sz (n := 32) AL2.out)]; simp [bv, zer]) (by simpa [Value.cells] using bv_one A2) ?_))
  intro u5 h6 hg6 hs6
  have HS := Lib.hid (HB5.out.trans ((below_grown2 HL5.out hg6 HG5.out HL5.out.size).mono HB5.out.size))
  have H5 := Lib.hid (show Bk u5 r5 (bv A2).toArray 29 from h6)
  have HL := Lib.hid (HL.out.trans (HS.out.mono HL.out.size))
  have HK0 := Lib.hid (HK0.out.below HS.out HK0.out.lt)
  have HK1 := Lib.hid (HK1.out.below HS.out HK1.out.lt)
  have HK2 := Lib.hid (HK2.out.below HS.out HK2.out.lt)
  have H0 := Lib.hid (H0.out.below HS.out H0.out.lt)
  have H1 := Lib.hid (H1.out.below HS.out H1.out.lt)
  have H2 := Lib.hid (H2.out.below HS.out H2.out.lt)
  have H3 := Lib.hid (H3.out.below HS.out H3.out.lt)
  have H4 := Lib.hid (H4.out.below HS.out H4.out.lt)
  clear h6 hg6 hs6 HZ5 HL5 HG5 HS
  go_wp2_with (first
    | (with_reducible show wpList _ _ _ (Oper.mk (some 49) (Op.load 29 _) _ _ _ _ :: _) _ _; go_must (refine wpList_load_part rfl 29 _ rfl r0 0 32 rfl _ _ _ H0.out Tryd.underlying29 rfl info_h32 (by rw [bv_sz (n := 32) AL0.out]; omega) (bv A0).toArray (arr_all (bv_sz AL0.out)) ?_))
    | (with_reducible show wpList _ _ _ (Oper.mk (some 50) (Op.load 29 _) _ _ _ _ :: _) _ _; go_must (refine wpList_load_part rfl 29 _ rfl r3 0 32 rfl _ _ _ H3.out Tryd.underlying29 rfl info_h32 (by rw [bv_sz (n := 32) AL0.out]; omega) (bv A0).toArray (arr_all (bv_sz AL0.out)) ?_))
    | (with_reducible show wpList _ _ _ (Oper.mk (some 53) (Op.load 29 _) _ _ _ _ :: _) _ _; go_must (refine wpList_load_part rfl 29 _ rfl r1 0 32 rfl _ _ _ H1.out Tryd.underlying29 rfl info_h32 (by rw [bv_sz (n := 32) AL1.out]; omega) (bv A1).toArray (arr_all (bv_sz AL1.out)) ?_))
    | (with_reducible show wpList _ _ _ (Oper.mk (some 54) (Op.load 29 _) _ _ _ _ :: _) _ _; go_must (refine wpList_load_part rfl 29 _ rfl r4 0 32 rfl _ _ _ H4.out Tryd.underlying29 rfl info_h32 (by rw [bv_sz (n := 32) AL1.out]; omega) (bv A1).toArray (arr_all (bv_sz AL1.out)) ?_))
    | (with_reducible show wpList _ _ _ (Oper.mk (some 58) (Op.load 29 _) _ _ _ _ :: _) _ _; go_must (refine wpList_load_part rfl 29 _ rfl r2 0 32 rfl _ _ _ H2.out Tryd.underlying29 rfl info_h32 (by rw [bv_sz (n := 32) AL2.out]; omega) (bv A2).toArray (arr_all (bv_sz AL2.out)) ?_))
    | (with_reducible show wpList _ _ _ (Oper.mk (some 59) (Op.load 29 _) _ _ _ _ :: _) _ _; go_must (refine wpList_load_part rfl 29 _ rfl r5 0 32 rfl _ _ _ H5.out Tryd.underlying29 rfl info_h32 (by rw [bv_sz (n := 32) AL2.out]; omega) (bv A2).toArray (arr_all (bv_sz AL2.out)) ?_))
    | (with_reducible show wpList _ _ _ (Oper.mk (some 51) (Op.binOp BinOp.eql 29 _ _ _) _ _ _ _ :: _) _ _; go_must (refine wpList_eql_flat rfl 29 _ _ _ rfl (bv A0) (bv A0) rfl rfl 2 _ flat_hash (by omega) agg_hash guard_hash (fits_hash AL0.out) (fits_hash AL0.out) true (by simp) ?_))
    | (with_reducible show wpList _ _ _ (Oper.mk (some 55) (Op.binOp BinOp.eql 29 _ _ _) _ _ _ _ :: _) _ _; go_must (refine wpList_eql_flat rfl 29 _ _ _ rfl (bv A1) (bv A1) rfl rfl 2 _ flat_hash (by omega) agg_hash guard_hash (fits_hash AL1.out) (fits_hash AL1.out) true (by simp) ?_))
    | (with_reducible show wpList _ _ _ (Oper.mk (some 60) (Op.binOp BinOp.eql 29 _ _ _) _ _ _ _ :: _) _ _; go_must (refine wpList_eql_flat rfl 29 _ _ _ rfl (bv A2) (bv A2) rfl rfl 2 _ flat_hash (by omega) agg_hash guard_hash (fits_hash AL2.out) (fits_hash AL2.out) true (by simp) ?_))
    | (go_at_call 11; go_must (refine (lawNum_any _ _).mono ?_); rintro e wx ⟨rfl, rfl⟩))
  go_ret
  exact ⟨by simp, HL.out⟩
end Go.Proofs.YtjdegphpalhapaaDoor

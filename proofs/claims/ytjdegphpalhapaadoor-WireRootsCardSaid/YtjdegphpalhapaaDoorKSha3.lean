/-
  The compression of one chunk: package digest's mix.
-/
import Derived.Test.YtjdegphpalhapaaDoorK05
import Derived.StillTailTactics
namespace Go.Proofs.YtjdegphpalhapaaDoor
set_option linter.unusedSimpArgs false
set_option linter.unusedVariables false
open Go.RowKit
set_option maxRecDepth 100000

/-- words as cells -/
def uv (l : List UInt32) : List Value := l.map fun x => .int .u32 (uI x)
theorem uv_length (l : List UInt32) : (uv l).length = l.length := by simp [uv]
theorem uv_get (l : List UInt32) (j : Nat) : (uv l)[j]? = (l[j]?).map fun x => .int .u32 (uI x) := by simp [uv]
def zerosU (n : Nat) : List Value := List.replicate n (.int .u32 0)
def Adds (w : World) (G : Nat) : Prop := ∀ i, i < 64 → w.cell? ⟨G, i, none⟩ = some (.int .u32 (uI (adds256.getD i 0)))

section
variable {P : Program}
/-- a new block, without an equation on the heap's size -/
theorem wpList_box_i {ops : Array Oper} {rest : List Oper} {o : Oper} {a : Act} {w : World} {Q : Exit → Act → World → Prop} (hgd : o.guard = none) (t : TypeId) (x : Operand) (ho : o.op = .box t x) (v : Value) (hx : a.eval x = v)
    (h : ∀ g w', Bk w' g v.cells t → Below w.heap.size w w' → w.heap.size ≤ g → g < w'.heap.size → wpList P ops Q rest (a.put o.dst (.pointer (some ⟨g, 0, none⟩))) w') : wpList P ops Q (o :: rest) a w :=
  wpList_box_bk hgd t x ho v hx fun g w' h1 h2 h3 h4 => h g w' h1 h2 (by omega) (by omega)
theorem wpList_alloc_i {ops : Array Oper} {rest : List Oper} {o : Oper} {a : Act} {w : World} {Q : Exit → Act → World → Prop} (hgd : o.guard = none) (t : TypeId) (ho : o.op = .alloc t) (z : Value) (hz : (P.info? t).bind (·.zero) = some z)
    (h : ∀ g w', Bk w' g z.cells t → Below w.heap.size w w' → w.heap.size ≤ g → g < w'.heap.size → wpList P ops Q rest (a.put o.dst (.pointer (some ⟨g, 0, none⟩))) w') : wpList P ops Q (o :: rest) a w :=
  wpList_alloc_bk hgd t ho z hz fun g w' h1 h2 h3 h4 => h g w' h1 h2 (by omega) (by omega)
theorem wpList_store_w {ops : Array Oper} {rest : List Oper} {o : Oper} {a : Act} {w : World} {Q : Exit → Act → World → Prop} (hw : Region.wanted o (yielded ops a.tmps) = true) (ty : TypeId) (x y : Operand) (ho : o.op = .store ty x y)
    (g off : Nat) (hx : a.eval x = .pointer (some ⟨g, off, none⟩)) (ik : IntKind) (n : Int) (hy : a.eval y = .int ik n) (cs : Array Value) (t : TypeId) (hk : Bk w g cs t) (hi : (P.info? ty).map (·.size) = some 1) (hn : off < cs.size)
    (h : ∀ w', Bk w' g (splice cs off [.int ik n]) t → w.grownBy w' (some g) → w'.heap.size = w.heap.size → wpList P ops Q rest (a.put o.dst undef) w') : wpList P ops Q (o :: rest) a w :=
  wpList_store_part hw ty x y ho g off hx (.int ik n) hy cs t hk (by simpa [Value.cells] using hi) (by simp [Value.cells]; omega) (by simp [Value.cells, Value.oneCell']) (by simpa [Value.cells] using h)
end
/-- the variables of mix -/
structure Mx (w0 wr : World) (b0 b1 b2 b3 : Nat) (S C R W : Array Value) : Prop where
  k0 : Bk wr b0 S 163
  k1 : Bk wr b1 C 164
  k2 : Bk wr b2 R 163
  k3 : Bk wr b3 W 134
  ad : Adds wr 3
  be : Below w0.heap.size w0 wr
theorem zero_state : (Tryd.prog.info? 163).bind (·.zero) = some (.agg (zerosU 8).toArray) := by kernel_rfl
theorem zero_w64 : (Tryd.prog.info? 134).bind (·.zero) = some (.agg (zerosU 64).toArray) := by kernel_rfl
theorem Adds.below {w w' : World} {G : Nat} (h : Adds w G) (hb : Below w.heap.size w w') (hg : G < w.heap.size) : Adds w' G := fun i hi => (hb.cell (p := ⟨G, i, none⟩) hg).trans (h i hi)

theorem chunk_at {c : List UInt8} (hc : c.length = 64) {j : Nat} (hj : j < 64) : (bv c).toArray[j]? = some (.int .u8 ((c.getD j 0).toNat : Int)) := by
  rw [List.getElem?_toArray, bv_get, List.getElem?_eq_getElem (by omega), List.getD_eq_getElem?_getD, List.getElem?_eq_getElem (by omega)]
  rfl
theorem u8_word (a : UInt8) : IntKind.u32.wrap (a.toNat : Int) = uI a.toUInt32 := by
  have := a.toNat_lt
  rw [IntKind.wrap_u32]; unfold uI; simp; omega
theorem word_int (a b c d : UInt8) : bits .or .u32 (bits .or .u32 (bits .or .u32 (IntKind.u32.wrap (IntKind.u32.wrap (a.toNat : Int) * 16777216)) (IntKind.u32.wrap (IntKind.u32.wrap (b.toNat : Int) * 65536))) (IntKind.u32.wrap (IntKind.u32.wrap (c.toNat : Int) * 256))) (IntKind.u32.wrap (d.toNat : Int)) = uI (word4 a b c d) := by
  simp only [u8_word]
  have h1 := uI_shl a.toUInt32 24 (by decide)
  have h2 := uI_shl b.toUInt32 16 (by decide)
  have h3 := uI_shl c.toUInt32 8 (by decide)
  rw [show (2 : Int) ^ 24 = 16777216 from rfl] at h1
  rw [show (2 : Int) ^ 16 = 65536 from rfl] at h2
  rw [show (2 : Int) ^ 8 = 256 from rfl] at h3
  rw [h1, h2, h3, uI_or, uI_or, uI_or]
  rfl
theorem splice_word {l : List UInt32} {k : Nat} (h : l.length = k) (hk : k < 64) (x : UInt32) : splice (uv l ++ zerosU (64 - k)).toArray k [.int .u32 (uI x)] = (uv (l ++ [x]) ++ zerosU (64 - (k + 1))).toArray := by
  unfold splice
  congr 1
  have e1 : (uv l ++ zerosU (64 - k)).take k = uv l := by rw [List.take_append_of_le_length (by rw [uv_length]; omega), List.take_of_length_le (by rw [uv_length]; omega)]
  have e2 : (uv l ++ zerosU (64 - k)).drop (k + [Value.int .u32 (uI x)].length) = zerosU (64 - (k + 1)) := by
    rw [List.drop_append, List.drop_eq_nil_of_le (by rw [uv_length]; simp; omega), uv_length, h, List.nil_append]
    unfold zerosU
    rw [List.drop_replicate]
    congr 1
    simp; omega
  rw [List.toList_toArray, e1, e2]
  simp [uv]
theorem word_at {l : List UInt32} {k : Nat} (h : l.length = k) {j : Nat} (hj : j < k) : (uv l ++ zerosU (64 - k)).toArray[j]? = some (.int .u32 (uI (l.getD j 0))) := by
  rw [List.getElem?_toArray, List.getElem?_append_left (by rw [uv_length]; omega), uv_get, List.getD_eq_getElem?_getD, List.getElem?_eq_getElem (by omega)]
  rfl
theorem Adds.eq_ {w w' : World} {G : Nat} (h : Adds w G) (e : w'.heap[G]? = w.heap[G]?) : Adds w' G := fun i hi => by
  rw [← h i hi]; simp [World.cell?, e]
/-- a write to one variable -/
theorem below_grown {B : Nat} {w0 wr w5 : World} {b : Nat} (hb : Below B w0 wr) (hg : wr.drew.grownBy w5 (some b)) (hB : B ≤ b) (hs : B ≤ wr.heap.size) : Below B w0 w5 :=
  hb.trans ⟨hg.os, hg.tape, hg.output, hg.size, fun k hk => hg.block k (Nat.lt_of_lt_of_le hk hs) (fun e => by injection e with e; omega)⟩
theorem Mx.w3 {w0 wr w5 : World} {b0 b1 b2 b3 : Nat} {S C R W W' : Array Value} (M : Mx w0 wr b0 b1 b2 b3 S C R W) (hlt : b0 < b1 ∧ b1 < b2 ∧ b2 < b3 ∧ w0.heap.size ≤ b0) (hG : 3 < w0.heap.size)
    (hg : wr.drew.grownBy w5 (some b3)) (hk : Bk w5 b3 W' 134) : Mx w0 w5 b0 b1 b2 b3 S C R W' := by
  have hs := M.be.size
  refine ⟨?_, ?_, ?_, hk, ?_, ?_⟩
  · exact Bk.grown (w := wr.drew) M.k0 hg (by intro e; injection e with e; omega)
  · exact Bk.grown (w := wr.drew) M.k1 hg (by intro e; injection e with e; omega)
  · exact Bk.grown (w := wr.drew) M.k2 hg (by intro e; injection e with e; omega)
  · exact M.ad.eq_ (hg.block _ (by show _ < wr.heap.size; omega) (by intro e; injection e with e; omega))
  · exact below_grown M.be hg (by omega) hs
theorem info_u32 : (Tryd.prog.info? 95).map (·.size) = some 1 := by kernel_rfl
theorem ret_roundw {p q : Prop} (h : p) (k : q) : p ∧ q := ⟨h, k⟩

theorem div8 (x : UInt32) : uI x / (8 : Int) = uI (x >>> 3) := uI_shr x 3 (by decide)
theorem div1024 (x : UInt32) : uI x / (1024 : Int) = uI (x >>> 10) := uI_shr x 10 (by decide)
theorem Mx.drewN {w0 wr : World} {b0 b1 b2 b3 : Nat} {S C R W : Array Value} (M : Mx w0 wr b0 b1 b2 b3 S C R W) (n : Nat) : Mx w0 (wr.drewN n) b0 b1 b2 b3 S C R W :=
  ⟨M.k0, M.k1, M.k2, M.k3, M.ad, M.be.trans ⟨rfl, rfl, rfl, Nat.le_refl _, fun _ _ => rfl⟩⟩
theorem drewN_name (w : World) (n : Nat) {p : World → Prop} (h : ∀ wq, wq.heap = w.heap → wq = w.drewN n → p wq) : p (w.drewN n) := h _ rfl rfl
theorem cell_heap {w wq : World} (h : wq.heap = w.heap) (a : Addr) : wq.cell? a = w.cell? a := by simp [World.cell?, h]
theorem next_int (a b c d : UInt32) : IntKind.u32.wrap (IntKind.u32.wrap (IntKind.u32.wrap (uI a + bits .xor .u32 (bits .xor .u32 (rotI (uI b) 7) (rotI (uI b) 18)) (uI b / 8)) + uI c) + bits .xor .u32 (bits .xor .u32 (rotI (uI d) 17) (rotI (uI d) 19)) (uI d / 1024)) = uI (a + sg0 b + c + sg1 d) := by
  rw [rotI_of b 7 (by decide) (by decide), rotI_of b 18 (by decide) (by decide), rotI_of d 17 (by decide) (by decide), rotI_of d 19 (by decide) (by decide), div8, div1024]
  simp only [uI_xor, uI_add]
  rfl
theorem info_state : (Tryd.prog.info? 163).map (·.size) = some 8 := by kernel_rfl
/-- and the variable v -/
structure My (w0 wr : World) (b0 b1 b2 b3 b4 : Nat) (S C R W V : Array Value) : Prop extends Mx w0 wr b0 b1 b2 b3 S C R W where
  k4 : Bk wr b4 V 163
  lt : b0 < b4 ∧ b1 < b4 ∧ b2 < b4 ∧ b3 < b4 ∧ 3 < b4 ∧ w0.heap.size ≤ b4
theorem Mx.new {w0 wr w5 : World} {b0 b1 b2 b3 b4 : Nat} {S C R W V : Array Value} (M : Mx w0 wr b0 b1 b2 b3 S C R W) (hl : Below wr.heap.size wr w5) (hs : b4 < w5.heap.size) (hg : wr.heap.size ≤ b4) (h : Bk w5 b4 V 163) (hG : 3 < w0.heap.size) : My w0 w5 b0 b1 b2 b3 b4 S C R W V := by
  have a0 := M.k0.lt
  have a1 := M.k1.lt
  have a2 := M.k2.lt
  have a3 := M.k3.lt
  have a4 := M.be.size
  exact ⟨⟨M.k0.below hl a0, M.k1.below hl a1, M.k2.below hl a2, M.k3.below hl a3, M.ad.below hl (by omega), M.be.trans (hl.mono a4)⟩, h, by omega⟩
theorem My.w4 {w0 wr w5 : World} {b0 b1 b2 b3 b4 : Nat} {S C R W V V' : Array Value} (M : My w0 wr b0 b1 b2 b3 b4 S C R W V) (hg : wr.grownBy w5 (some b4)) (h : Bk w5 b4 V' 163) : My w0 w5 b0 b1 b2 b3 b4 S C R W V' := by
  obtain ⟨⟨k0, k1, k2, k3, ad, be⟩, k4, lt⟩ := M
  have l4 := k4.lt
  refine ⟨⟨k0.grown hg (by intro e; injection e with e; omega), k1.grown hg (by intro e; injection e with e; omega), k2.grown hg (by intro e; injection e with e; omega), k3.grown hg (by intro e; injection e with e; omega), ad.eq_ (hg.block _ (by omega) (by intro e; injection e with e; omega)), ?_⟩, h, lt⟩
  exact be.trans ⟨hg.os, hg.tape, hg.output, hg.size, fun k hk => hg.block k (Nat.lt_of_lt_of_le hk be.size) (fun e => by injection e with e; omega)⟩
theorem size_state (v : S8) : (Value.agg (uv v.list).toArray).cells.size = 8 := rfl
theorem arr_state (v : S8) : (uv v.list).toArray.size = 8 := rfl
theorem words_at {l : List UInt32} {j : Nat} (hj : j < l.length) : (uv l).toArray[j]? = some (.int .u32 (uI (l.getD j 0))) := by
  rw [List.getElem?_toArray, uv_get, List.getD_eq_getElem?_getD, List.getElem?_eq_getElem (by omega)]
  rfl
theorem state_0 (v : S8) : (uv v.list).toArray[0]? = some (.int .u32 (uI v.a)) := rfl
theorem state_1 (v : S8) : (uv v.list).toArray[1]? = some (.int .u32 (uI v.b)) := rfl
theorem state_2 (v : S8) : (uv v.list).toArray[2]? = some (.int .u32 (uI v.c)) := rfl
theorem state_3 (v : S8) : (uv v.list).toArray[3]? = some (.int .u32 (uI v.d)) := rfl
theorem state_4 (v : S8) : (uv v.list).toArray[4]? = some (.int .u32 (uI v.e)) := rfl
theorem state_5 (v : S8) : (uv v.list).toArray[5]? = some (.int .u32 (uI v.f)) := rfl
theorem state_6 (v : S8) : (uv v.list).toArray[6]? = some (.int .u32 (uI v.g)) := rfl
theorem state_7 (v : S8) : (uv v.list).toArray[7]? = some (.int .u32 (uI v.h)) := rfl
structure Cs (wr : World) (b3 b4 k : Nat) (v : S8) (kw ka : UInt32) : Prop where
  x0 : wr.cell? ⟨b4, 0, none⟩ = some (.int .u32 (uI v.a))
  x1 : wr.cell? ⟨b4, 1, none⟩ = some (.int .u32 (uI v.b))
  x2 : wr.cell? ⟨b4, 2, none⟩ = some (.int .u32 (uI v.c))
  x3 : wr.cell? ⟨b4, 3, none⟩ = some (.int .u32 (uI v.d))
  x4 : wr.cell? ⟨b4, 4, none⟩ = some (.int .u32 (uI v.e))
  x5 : wr.cell? ⟨b4, 5, none⟩ = some (.int .u32 (uI v.f))
  x6 : wr.cell? ⟨b4, 6, none⟩ = some (.int .u32 (uI v.g))
  x7 : wr.cell? ⟨b4, 7, none⟩ = some (.int .u32 (uI v.h))
  xw : wr.cell? ⟨b3, k, none⟩ = some (.int .u32 (uI kw))
  xt : wr.cell? ⟨3, k, none⟩ = some (.int .u32 (uI ka))
theorem Cs.heap {w w' : World} {b3 b4 k : Nat} {v : S8} {kw ka : UInt32} (h : Cs w b3 b4 k v kw ka) (e : w'.heap = w.heap) : Cs w' b3 b4 k v kw ka := by
  obtain ⟨x0, x1, x2, x3, x4, x5, x6, x7, xw, xt⟩ := h
  exact ⟨(cell_heap e _).trans x0, (cell_heap e _).trans x1, (cell_heap e _).trans x2, (cell_heap e _).trans x3, (cell_heap e _).trans x4, (cell_heap e _).trans x5, (cell_heap e _).trans x6, (cell_heap e _).trans x7, (cell_heap e _).trans xw, (cell_heap e _).trans xt⟩
theorem My.cells {w0 wr : World} {b0 b1 b2 b3 b4 k : Nat} {S C R : Array Value} {W : List UInt32} {v : S8} (M : My w0 wr b0 b1 b2 b3 b4 S C R (uv W).toArray (uv v.list).toArray) (hk : k < 64) (hW : k < W.length) : Cs wr b3 b4 k v (W.getD k 0) (adds256.getD k 0) :=
  ⟨(M.k4.cell 0).trans (state_0 v), (M.k4.cell 1).trans (state_1 v), (M.k4.cell 2).trans (state_2 v), (M.k4.cell 3).trans (state_3 v), (M.k4.cell 4).trans (state_4 v), (M.k4.cell 5).trans (state_5 v), (M.k4.cell 6).trans (state_6 v), (M.k4.cell 7).trans (state_7 v), (M.k3.cell k).trans (words_at hW), M.ad k hk⟩
theorem My.drewN {w0 wr : World} {b0 b1 b2 b3 b4 : Nat} {S C R W V : Array Value} (M : My w0 wr b0 b1 b2 b3 b4 S C R W V) (n : Nat) : My w0 (wr.drewN n) b0 b1 b2 b3 b4 S C R W V := ⟨M.toMx.drewN n, M.k4, M.lt⟩
theorem quiet_same {P : Program} {f : FuncId} {args : Array Value} {w : World} {n : Nat} {v : Value}
    (h : Calls P f args (w.drewN n) fun e w' => e = .returned v ∧ w.drewN n = w') : Calls P f args (w.drewN n) fun e w'' => e = .returned v ∧ ∃ m, w'' = w.drewN m :=
  h.mono fun _ _ ⟨he, hm⟩ => ⟨he, n, hm.symm⟩
theorem below_grown2 {B : Nat} {w0 wr w5 : World} {b : Nat} (hb : Below B w0 wr) (hg : wr.grownBy w5 (some b)) (hB : B ≤ b) (hs : B ≤ wr.heap.size := by omega) : Below B w0 w5 :=
  hb.trans ⟨hg.os, hg.tape, hg.output, hg.size, fun k hk => hg.block k (Nat.lt_of_lt_of_le hk hs) (fun e => by injection e with e; omega)⟩
theorem uv_one (v : S8) : ∀ u ∈ (Value.agg (uv v.list).toArray).cells.toList, u.oneCell' = true := by
  simp [S8.list, uv, Value.cells, Value.oneCell']
def mixL (s v : S8) (k : Nat) : List UInt32 := (add8 s v).list.take k ++ s.list.drop k
theorem mix_size (s v : S8) (k : Nat) : (uv (mixL s v k)).toArray.size = 8 := by
  simp [uv, mixL, S8.list]; omega
theorem mix_at (s v : S8) : ∀ k, k < 8 → (uv (mixL s v k)).toArray[k]? = some (.int .u32 (uI (s.list.getD k 0)))
  | 0, _ => rfl | 1, _ => rfl | 2, _ => rfl | 3, _ => rfl | 4, _ => rfl | 5, _ => rfl | 6, _ => rfl | 7, _ => rfl
  | k + 8, h => by omega
theorem splice_mix (s v : S8) : ∀ k, k < 8 → splice (uv (mixL s v k)).toArray k [.int .u32 (uI (s.list.getD k 0 + v.list.getD k 0))] = (uv (mixL s v (k + 1))).toArray
  | 0, _ => rfl | 1, _ => rfl | 2, _ => rfl | 3, _ => rfl | 4, _ => rfl | 5, _ => rfl | 6, _ => rfl | 7, _ => rfl
  | k + 8, h => by omega
theorem My.w0 {w0 wr w5 : World} {b0 b1 b2 b3 b4 : Nat} {S C R W V S' : Array Value} (M : My w0 wr b0 b1 b2 b3 b4 S C R W V) (hlt : b0 < b1 ∧ b1 < b2 ∧ b2 < b3 ∧ w0.heap.size ≤ b0) (hG : 3 < w0.heap.size)
    (hg : wr.drew.grownBy w5 (some b0)) (hk : Bk w5 b0 S' 163) : My w0 w5 b0 b1 b2 b3 b4 S' C R W V := by
  obtain ⟨⟨k0, k1, k2, k3, ad, be⟩, k4, lt⟩ := M
  have hs := be.size
  refine ⟨⟨hk, ?_, ?_, ?_, ?_, ?_⟩, ?_, lt⟩
  · exact Bk.grown (w := wr.drew) k1 hg (by intro e; injection e with e; omega)
  · exact Bk.grown (w := wr.drew) k2 hg (by intro e; injection e with e; omega)
  · exact Bk.grown (w := wr.drew) k3 hg (by intro e; injection e with e; omega)
  · exact ad.eq_ (hg.block _ (by show _ < wr.heap.size; omega) (by intro e; injection e with e; omega))
  · exact below_grown be hg (by omega) hs
  · exact Bk.grown (w := wr.drew) k4 hg (by intro e; injection e with e; omega)
theorem My.ofEnd {w0 wr : World} {b0 b1 b2 b3 b4 : Nat} {S C R V : Array Value} {l : List UInt32} (M : My w0 wr b0 b1 b2 b3 b4 S C R (uv l ++ zerosU (64 - 64)).toArray V) : My w0 wr b0 b1 b2 b3 b4 S C R (uv l).toArray V := by
  have e : (uv l ++ zerosU (64 - 64)) = uv l := by simp [zerosU]
  rw [e] at M
  exact M
set_option maxHeartbeats 20000000 in
theorem mix_any (w : World) (s : S8) (c : List UInt8) (hc : c.length = 64) (ha : Adds w 3) (hg : 3 < w.heap.size) :
    Calls Tryd.prog 119 #[.agg (uv s.list).toArray, .agg (bv c).toArray] w fun e w' => e = .returned (.agg (uv (comp s c).list).toArray) ∧ Below w.heap.size w w' := by
  have HC := Lib.hid hc; clear hc
  have HA := Lib.hid ha; clear ha
  go_enter Tryd.func119, Tryd.ntmps119
  go_wp2_with (with_reducible show wpList _ _ _ (Oper.mk _ (Op.box _ _) _ _ _ _ :: _) _ _; refine wpList_box_i rfl _ _ rfl _ rfl ?_)
  intro b0 w1 h0 hl1 hg1 hs1
  go_wp2_with (with_reducible show wpList _ _ _ (Oper.mk _ (Op.box _ _) _ _ _ _ :: _) _ _; refine wpList_box_i rfl _ _ rfl _ rfl ?_)
  intro b1 w2 h1 hl2 hg2 hs2
  go_wp2_with (refine wpList_alloc_i rfl 163 rfl (.agg (zerosU 8).toArray) zero_state ?_)
  intro b2 w3 h2 hl3 hg3 hs3
  go_wp2_with (refine wpList_alloc_i rfl 134 rfl (.agg (zerosU 64).toArray) zero_w64 ?_)
  intro b3 w4 h3 hl4 hg4 hs4
  obtain ⟨M, hlt⟩ : Mx w w4 b0 b1 b2 b3 (uv s.list).toArray (bv c).toArray (zerosU 8).toArray (zerosU 64).toArray ∧ (b0 < b1 ∧ b1 < b2 ∧ b2 < b3 ∧ w.heap.size ≤ b0) := by
    have a1 := HA.out.below hl1 hg
    have z1 := hl1.size
    have z2 := hl2.size
    have z3 := hl3.size
    have a2 := a1.below hl2 (by omega)
    have a3 := a2.below hl3 (by omega)
    have a4 := a3.below hl4 (by omega)
    refine ⟨⟨?_, ?_, ?_, h3, a4, ?_⟩, by omega⟩
    · exact ((h0.below hl2 (by omega)).below hl3 (by omega)).below hl4 (by omega)
    · exact (h1.below hl3 (by omega)).below hl4 (by omega)
    · exact h2.below hl4 (by omega)
    · exact hl1.trans ((hl2.mono (by omega)).trans ((hl3.mono (by omega)).trans (hl4.mono (by omega))))
  have HM := Lib.hid M
  have HL := Lib.hid hlt
  have HG := Lib.hid hg
  clear M h0 h1 h2 h3 hl1 hl2 hl3 hl4 hg1 hg2 hg3 hg4 hs1 hs2 hs3 hs4 hlt HA hg
  go_wp2
  go_loopw [19] (fun i wr => ∃ k : Nat, k ≤ 16 ∧ i = .int .i64 k ∧ Mx w wr b0 b1 b2 b3 (uv s.list).toArray (bv c).toArray (zerosU 8).toArray (uv (wk c k) ++ zerosU (64 - k)).toArray) (fun i _ => 16 - (intOf i).toNat)
  case atStart => exact ⟨0, by omega, rfl, HM.out⟩
  case round =>
    clear HM
    obtain ⟨k, hk, rfl, M⟩ := hrel
    by_cases hlt : k < 16
    · -- [1
      have HCL := HC.out
      have x0 := M.k1.cell (4 * k)
      have x1 := M.k1.cell (4 * k + 1)
      have x2 := M.k1.cell (4 * k + 2)
      have x3 := M.k1.cell (4 * k + 3)
      rw [chunk_at HCL (by omega)] at x0 x1 x2 x3
      obtain ⟨a0, ha0⟩ : ∃ n, (c.getD (4 * k) 0).toNat = n := ⟨_, rfl⟩
      obtain ⟨a1, ha1⟩ : ∃ n, (c.getD (4 * k + 1) 0).toNat = n := ⟨_, rfl⟩
      obtain ⟨a2, ha2⟩ : ∃ n, (c.getD (4 * k + 2) 0).toNat = n := ⟨_, rfl⟩
      obtain ⟨a3, ha3⟩ : ∃ n, (c.getD (4 * k + 3) 0).toNat = n := ⟨_, rfl⟩
      rw [ha0] at x0
      rw [ha1] at x1
      rw [ha2] at x2
      rw [ha3] at x3
      have A0 := Lib.hid ha0
      have A1 := Lib.hid ha1
      have A2 := Lib.hid ha2
      have A3 := Lib.hid ha3
      have e0 : IntKind.i64.wrap (4 * (k : Int)) = 4 * (k : Int) := by rw [IntKind.wrap_i64]; omega
      have e1 : IntKind.i64.wrap (4 * (k : Int) + 1) = 4 * (k : Int) + 1 := by rw [IntKind.wrap_i64]; omega
      have e2 : IntKind.i64.wrap (4 * (k : Int) + 2) = 4 * (k : Int) + 2 := by rw [IntKind.wrap_i64]; omega
      have e3 : IntKind.i64.wrap (4 * (k : Int) + 3) = 4 * (k : Int) + 3 := by rw [IntKind.wrap_i64]; omega
      have n0 : (4 * (k : Int)).toNat = 4 * k := by omega
      have n1 : (4 * (k : Int) + 1).toNat = 4 * k + 1 := by omega
      have n2 : (4 * (k : Int) + 2).toNat = 4 * k + 2 := by omega
      have n3 : (4 * (k : Int) + 3).toNat = 4 * k + 3 := by omega
      have m0 : 0 ≤ 4 * (k : Int) := by omega
      have m1 : 0 ≤ 4 * (k : Int) + 1 := by omega
      have m2 : 0 ≤ 4 * (k : Int) + 2 := by omega
      have m3 : 0 ≤ 4 * (k : Int) + 3 := by omega
      have l0 : 4 * (k : Int) < 64 := by omega
      have l1 : 4 * (k : Int) + 1 < 64 := by omega
      have l2 : 4 * (k : Int) + 2 < 64 := by omega
      have l3 : 4 * (k : Int) + 3 < 64 := by omega
      have lk : (k : Int) < 64 := by omega
      have HM := Lib.hid M
      clear HCL M ha0 ha1 ha2 ha3
      go_wp2
      go_still_tail 31, (by kernel_rfl)
      clear e0 e1 e2 e3 n0 n1 n2 n3 m0 m1 m2 m3 l0 l1 l2 l3 x0 x1 x2 x3
      change wpList _ _ _ _ _ wr.drew
      refine wpList_store_w rfl 95 _ _ rfl b3 k rfl _ _ rfl _ _ (w := wr.drew) HM.out.k3 info_u32 (by simp [uv_length, wk_len, zerosU]; omega) ?_
      intro w5 hk5 hg5 hs5
      have hk6 : Bk w5 b3 (uv (wk c (k + 1)) ++ zerosU (64 - (k + 1))).toArray 134 := by
        have e : wk c (k + 1) = wk c k ++ [wordAt c k] := by simp [wk, hlt]
        rw [e, ← splice_word (wk_len c k) (by omega), wordAt, ← word_int, A0.out, A1.out, A2.out, A3.out]
        exact hk5
      have HM6 := Lib.hid (HM.out.w3 HL.out HG.out hg5 hk6)
      clear hk5 hg5 hs5 hk6 HM A0 A1 A2 A3
      go_wp2
      go_roundw
      case rel => exact ⟨k + 1, by omega, by go_num, HM6.out⟩
      case measure => simp [intOf]; omega
      -- ]1
    · have hk16 : k = 16 := by omega
      subst hk16
      have HM := Lib.hid M
      clear M hlt hk
      go_wp2
      go_loopw [7] (fun i wr => ∃ k : Nat, 16 ≤ k ∧ k ≤ 64 ∧ i = .int .i64 k ∧ Mx w wr b0 b1 b2 b3 (uv s.list).toArray (bv c).toArray (zerosU 8).toArray (uv (wk c k) ++ zerosU (64 - k)).toArray) (fun i _ => 64 - (intOf i).toNat)
      case atStart => exact ⟨16, by omega, by omega, rfl, HM.out⟩
      case round =>
        clear HM
        obtain ⟨k, hk, hk2, rfl, M⟩ := hrel
        by_cases hlt : k < 64
        · -- [2
          have x15 := M.k3.cell (k - 15)
          have x2 := M.k3.cell (k - 2)
          have x16 := M.k3.cell (k - 16)
          have x7 := M.k3.cell (k - 7)
          rw [word_at (wk_len c k) (by omega)] at x15 x2 x16 x7
          obtain ⟨y15, h15⟩ : ∃ n, uI ((wk c k).getD (k - 15) 0) = n := ⟨_, rfl⟩
          obtain ⟨y2, h2⟩ : ∃ n, uI ((wk c k).getD (k - 2) 0) = n := ⟨_, rfl⟩
          obtain ⟨y16, h16⟩ : ∃ n, uI ((wk c k).getD (k - 16) 0) = n := ⟨_, rfl⟩
          obtain ⟨y7, h7⟩ : ∃ n, uI ((wk c k).getD (k - 7) 0) = n := ⟨_, rfl⟩
          rw [h15] at x15
          rw [h2] at x2
          rw [h16] at x16
          rw [h7] at x7
          have H15 := Lib.hid h15
          have H2 := Lib.hid h2
          have H16 := Lib.hid h16
          have H7 := Lib.hid h7
          have e15 : IntKind.i64.wrap ((k : Int) - 15) = (k : Int) - 15 := by rw [IntKind.wrap_i64]; omega
          have e2 : IntKind.i64.wrap ((k : Int) - 2) = (k : Int) - 2 := by rw [IntKind.wrap_i64]; omega
          have e16 : IntKind.i64.wrap ((k : Int) - 16) = (k : Int) - 16 := by rw [IntKind.wrap_i64]; omega
          have e7 : IntKind.i64.wrap ((k : Int) - 7) = (k : Int) - 7 := by rw [IntKind.wrap_i64]; omega
          have n15 : ((k : Int) - 15).toNat = k - 15 := by omega
          have n2 : ((k : Int) - 2).toNat = k - 2 := by omega
          have n16 : ((k : Int) - 16).toNat = k - 16 := by omega
          have n7 : ((k : Int) - 7).toNat = k - 7 := by omega
          have m15 : (15 : Int) ≤ k := by omega
          have m2 : (2 : Int) ≤ k := by omega
          have m16 : (16 : Int) ≤ k := by omega
          have m7 : (7 : Int) ≤ k := by omega
          have l15 : (k : Int) - 15 < 64 := by omega
          have l2 : (k : Int) - 2 < 64 := by omega
          have l16 : (k : Int) - 16 < 64 := by omega
          have l7 : (k : Int) - 7 < 64 := by omega
          have lk : (k : Int) < 64 := by omega
          have HM := Lib.hid M
          clear M h15 h2 h16 h7
          go_wp2
          go_quiet (fail)
          go_wp2_with (go_at_call 121; (with_reducible refine (rot_any _ _ _ (by decide)).mono ?_); rintro e w2 ⟨rfl, rfl⟩)
          clear x15 x2 e15 e2 n15 n2 m15 m2 l15 l2
          obtain ⟨wq, hwq⟩ : ∃ wq, wr.drewN nq = wq := ⟨_, rfl⟩
          have HM2 := Lib.hid (show Mx w wq b0 b1 b2 b3 _ _ _ _ from hwq ▸ HM.out.drewN nq)
          have z16 : wq.cell? ⟨b3, k - 16, none⟩ = some (.int .u32 y16) := by rw [← hwq]; exact x16
          have z7 : wq.cell? ⟨b3, k - 7, none⟩ = some (.int .u32 y7) := by rw [← hwq]; exact x7
          rw [hwq]
          clear x16 x7 hwq HM
          go_still_tail 15, (by kernel_rfl)
          clear e16 e7 n16 n7 m16 m7 l16 l7 lk z16 z7
          change wpList _ _ _ _ _ wq.drew
          refine wpList_store_w rfl 95 _ _ rfl b3 k rfl _ _ rfl _ _ (w := wq.drew) HM2.out.k3 info_u32 (by simp [uv_length, wk_len, zerosU]; omega) ?_
          intro w5 hk5 hg5 hs5
          have hk6 : Bk w5 b3 (uv (wk c (k + 1)) ++ zerosU (64 - (k + 1))).toArray 134 := by
            have e : wk c (k + 1) = wk c k ++ [nextW (wk c k) k] := by rw [wk, if_neg (by omega)]
            rw [e, ← splice_word (wk_len c k) (by omega), nextW, ← next_int, H15.out, H2.out, H16.out, H7.out]
            exact hk5
          have HM6 := Lib.hid (HM2.out.w3 HL.out HG.out hg5 hk6)
          clear hk5 hg5 hs5 hk6 HM2 H15 H2 H16 H7
          go_wp2
          go_roundw
          case rel => first | exact ⟨k + 1, by omega, by omega, by go_num, HM6.out⟩ | ((repeat apply Exists.intro); exact ⟨⟨k + 1, by omega, by omega, by go_num, HM6.out⟩, rfl⟩)
          case measure => simp [intOf]; omega
          -- ]2
        · have hk64 : k = 64 := by omega
          subst hk64
          have HM := Lib.hid M
          clear M hlt hk hk2
          go_wp2_with (first
            | (with_reducible show wpList _ _ _ (Oper.mk _ (Op.load 163 _) _ _ _ _ :: _) _ _; refine wpList_load_part rfl 163 _ rfl b0 0 8 rfl _ _ _ HM.out.k0 Tryd.underlying163 rfl info_state (by simp [uv_length, S8.list]) (uv s.list).toArray (by simp [S8.list, uv]) ?_)
            | (with_reducible show wpList _ _ _ (Oper.mk _ (Op.alloc _) _ _ _ _ :: _) _ _; refine wpList_alloc_i rfl 163 rfl (.agg (zerosU 8).toArray) zero_state ?_))
          intro b4 w5 h4 hl5 hg5 hs5
          have N := HM.out.new hl5 hs5 hg5 h4 HG.out
          have HN := Lib.hid N
          clear N h4 hl5 hg5 hs5 HM
          go_wp2_with (with_reducible show wpList _ _ _ (Oper.mk _ (Op.store 163 _ _) _ _ _ _ :: _) _ _; go_must (refine wpList_store_bk rfl 163 _ _ rfl b4 rfl (.agg (uv s.list).toArray) rfl _ _ HN.out.k4 (by rw [size_state]; exact info_state) (by rw [size_state]; simp [zerosU]) (by simp [S8.list, uv, Value.cells, Value.oneCell']) ?_))
          intro w6 h6 hg6 hs6
          have HN6 := Lib.hid (HN.out.w4 hg6 h6)
          clear h6 hg6 hs6 HN
          go_wp2
          go_loopw [98] (fun i wr => ∃ k : Nat, k ≤ 64 ∧ i = .int .i64 k ∧ My w wr b0 b1 b2 b3 b4 (uv s.list).toArray (bv c).toArray (zerosU 8).toArray (uv (wk c 64)).toArray (uv (rounds8 s (wk c 64) k).list).toArray) (fun i _ => 64 - (intOf i).toNat)
          case atStart => exact ⟨0, by omega, rfl, HN6.out.ofEnd⟩
          case round =>
            clear HN6
            obtain ⟨k, hk, rfl, M⟩ := hrel
            obtain ⟨W, hW⟩ : ∃ W, wk c 64 = W := ⟨_, rfl⟩
            rw [hW] at M
            have HW := Lib.hid hW
            clear hW
            by_cases hlt : k < 64
            · -- [3
              obtain ⟨v, hv⟩ : ∃ v, rounds8 s W k = v := ⟨_, rfl⟩
              rw [hv] at M
              have HV := Lib.hid hv
              clear hv
              have HX := Lib.hid (M.cells hlt (by rw [← HW.out, wk_len]; exact hlt))
              obtain ⟨kw, hkw⟩ : ∃ n, W.getD k 0 = n := ⟨_, rfl⟩
              obtain ⟨ka, hka⟩ : ∃ n, adds256.getD k 0 = n := ⟨_, rfl⟩
              rw [hkw, hka] at HX
              have HKW := Lib.hid hkw
              have HKA := Lib.hid hka
              clear hkw hka
              obtain ⟨va, vb, vc, vd, ve, vf, vg, vh⟩ := v
              have HM := Lib.hid M
              clear M
              obtain ⟨x0, x1, x2, x3, x4, x5, x6, x7, xw, xt⟩ := HX.out
              clear x1 x2 x3 x5 x6 x7 xw xt
              have lk : (k : Int) < 64 := by omega
              go_wp2
              go_quiet (fail)
              obtain ⟨wq, hwq⟩ : ∃ wq, wr.drewN nq = wq := ⟨_, rfl⟩
              have HM2 := Lib.hid (show My w wq b0 b1 b2 b3 b4 _ _ _ _ _ from hwq ▸ HM.out.drewN nq)
              have HX2 := Lib.hid (HX.out.heap (w' := wq) (by rw [← hwq]; rfl))
              rw [hwq]
              clear hwq HM HX x0 x4
              obtain ⟨x0, x1, x2, x3, x4, x5, x6, x7, xw, xt⟩ := HX2.out
              clear x0 x1 x2 x3 x4
              go_wp2
              refine wp_region_quiet_lit (by kernel_rfl) (by kernel_rfl) ?_
              repeat (first
                | (refine wpQuiet_step (fun K hK => ?_); refine quiet_exec rfl (exec_add rfl rfl rfl) ?_; go_simp; refine hK _ ?_; clear hK K)
                | (refine wpQuiet_step (fun K hK => ?_); refine quiet_exec rfl (exec_xor rfl rfl rfl) ?_; go_simp; refine hK _ ?_; clear hK K)
                | (refine wpQuiet_step (fun K hK => ?_); refine quiet_exec rfl (exec_and rfl rfl rfl) ?_; go_simp; refine hK _ ?_; clear hK K)
                | (refine wpQuiet_step (fun K hK => ?_); refine quiet_exec rfl (exec_not rfl rfl) ?_; go_simp; refine hK _ ?_; clear hK K)
                | quiet_step ((go_at_call 121; with_reducible exact quiet_same (rotU _ _ _ (by decide)))))
              refine wpQuiet_nil ?_
              intro _ hw'
              obtain ⟨nq, hw''⟩ := hw'
              subst hw''
              obtain ⟨wp, hwp⟩ : ∃ wp, wq.drewN nq = wp := ⟨_, rfl⟩
              have HM3 := Lib.hid (show My w wp b0 b1 b2 b3 b4 _ _ _ _ _ from hwp ▸ HM2.out.drewN nq)
              have HX3 := Lib.hid (HX2.out.heap (w' := wp) (by rw [← hwp]; rfl))
              rw [hwp]
              generalize hT : vh + (rotr ve 6 ^^^ rotr ve 11 ^^^ rotr ve 25) + (ve &&& vf ^^^ ~~~ve &&& vg) + ka + kw = T
              have HT := Lib.hid hT
              clear hT
              clear hwp HM2 HX2 x5 x6 x7 xw xt
              obtain ⟨x0, x1, x2, x3, x4, x5, x6, x7, xw, xt⟩ := HX3.out
              clear x0 x3 x4 x5 x6 x7 xw xt
              go_wp2
              refine wp_region_quiet_lit (by kernel_rfl) (by kernel_rfl) ?_
              repeat (first
                | (refine wpQuiet_step (fun K hK => ?_); refine quiet_exec rfl (exec_add rfl rfl rfl) ?_; go_simp; refine hK _ ?_; clear hK K)
                | (refine wpQuiet_step (fun K hK => ?_); refine quiet_exec rfl (exec_xor rfl rfl rfl) ?_; go_simp; refine hK _ ?_; clear hK K)
                | (refine wpQuiet_step (fun K hK => ?_); refine quiet_exec rfl (exec_and rfl rfl rfl) ?_; go_simp; refine hK _ ?_; clear hK K)
                | (refine wpQuiet_step (fun K hK => ?_); refine quiet_exec rfl (exec_not rfl rfl) ?_; go_simp; refine hK _ ?_; clear hK K)
                | quiet_step ((go_at_call 121; with_reducible exact quiet_same (rotU _ _ _ (by decide)))))
              refine wpQuiet_nil ?_
              intro _ hw'
              obtain ⟨nq, hw''⟩ := hw'
              subst hw''
              obtain ⟨wo, hwo⟩ : ∃ wo, wp.drewN nq = wo := ⟨_, rfl⟩
              have HM4 := Lib.hid (show My w wo b0 b1 b2 b3 b4 _ _ _ _ _ from hwo ▸ HM3.out.drewN nq)
              have HX4 := Lib.hid (HX3.out.heap (w' := wo) (by rw [← hwo]; rfl))
              rw [hwo]
              generalize hU : (rotr va 2 ^^^ rotr va 13 ^^^ rotr va 22) + (va &&& vb ^^^ va &&& vc ^^^ vb &&& vc) = U
              have HU := Lib.hid hU
              clear hU
              clear hwo HM3 HX3 x1 x2
              obtain ⟨x0, x1, x2, x3, x4, x5, x6, x7, xw, xt⟩ := HX4.out
              clear x0 x4 x7 xw xt HX4
              go_wp2_with (first
                | (with_reducible show wpList _ _ _ (Oper.mk _ (Op.binOp BinOp.add 95 _ _ _) _ _ _ _ :: _) _ _; refine wpList_exec rfl (exec_add rfl rfl rfl) ?_)
                | (with_reducible show wpList _ _ _ (Oper.mk _ (Op.store 163 _ _) _ _ _ _ :: _) _ _; refine wpList_store_bk rfl 163 _ _ rfl b4 rfl (.agg (uv (S8.mk (T + U) va vb vc (vd + T) ve vf vg).list).toArray) rfl _ _ HM4.out.k4 (by rw [size_state]; exact info_state) (by rw [size_state, arr_state]) (uv_one _) ?_))
              intro w6 h6 hg6 hs6
              have HM6 := Lib.hid (HM4.out.w4 hg6 h6)
              clear h6 hg6 hs6 HM4 x1 x2 x3 x5 x6
              go_wp2
              go_roundw
              case rel =>
                have e : rounds8 s (wk c 64) (k + 1) = S8.mk (T + U) va vb vc (vd + T) ve vf vg := by
                  rw [rounds8, HW.out, HV.out, HKW.out, HKA.out, ← HT.out, ← HU.out]
                  rfl
                have f := HM6.out
                rw [← e] at f
                rw [← HW.out] at f
                first | exact ⟨k + 1, by omega, by go_num, f⟩ | ((repeat apply Exists.intro); exact ⟨⟨k + 1, by omega, by go_num, f⟩, rfl⟩)
              case measure => simp [intOf]; omega
              -- ]3
            · have hk64 : k = 64 := by omega
              subst hk64
              obtain ⟨v, hv⟩ : ∃ v, rounds8 s W 64 = v := ⟨_, rfl⟩
              rw [hv] at M
              have HV := Lib.hid hv
              have HM := Lib.hid M
              clear hv M hlt hk
              go_wp2
              go_loopw [178] (fun i wr => ∃ k : Nat, k ≤ 8 ∧ i = .int .i64 k ∧ My w wr b0 b1 b2 b3 b4 (uv (mixL s v k)).toArray (bv c).toArray (zerosU 8).toArray (uv W).toArray (uv v.list).toArray) (fun i _ => 8 - (intOf i).toNat)
              case atStart => exact ⟨0, by omega, rfl, HM.out⟩
              case round =>
                clear HM
                obtain ⟨k, hk, rfl, M⟩ := hrel
                by_cases hlt : k < 8
                · have x0 := M.k0.cell k
                  have x4 := M.k4.cell k
                  rw [mix_at s v k hlt] at x0
                  rw [words_at (l := v.list) hlt] at x4
                  obtain ⟨p, hp⟩ : ∃ n, s.list.getD k 0 = n := ⟨_, rfl⟩
                  obtain ⟨q, hq⟩ : ∃ n, v.list.getD k 0 = n := ⟨_, rfl⟩
                  rw [hp] at x0
                  rw [hq] at x4
                  have HP := Lib.hid hp
                  have HQ := Lib.hid hq
                  have HM := Lib.hid M
                  have lk : (k : Int) < 8 := by omega
                  clear M hp hq
                  go_wp2
                  go_still_tail 8, (by kernel_rfl)
                  clear x0 x4
                  change wpList _ _ _ _ _ wr.drew
                  refine wpList_store_w rfl 95 _ _ rfl b0 k rfl _ _ rfl _ _ (w := wr.drew) HM.out.k0 info_u32 (by rw [mix_size]; exact hlt) ?_
                  intro w5 hk5 hg5 hs5
                  have hk6 : Bk w5 b0 (uv (mixL s v (k + 1))).toArray 163 := by
                    rw [← splice_mix s v k hlt, HP.out, HQ.out, ← uI_add]
                    exact hk5
                  have HM6 := Lib.hid (HM.out.w0 HL.out HG.out hg5 hk6)
                  clear hk5 hg5 hs5 hk6 HM
                  go_wp2
                  go_roundw
                  case rel => first | exact ⟨k + 1, by omega, by go_num, HM6.out⟩ | ((repeat apply Exists.intro); exact ⟨⟨k + 1, by omega, by go_num, HM6.out⟩, rfl⟩)
                  case measure => simp [intOf]; omega
                · have hk8 : k = 8 := by omega
                  subst hk8
                  have HM := Lib.hid M
                  clear M hlt hk
                  go_wp2_with (first
                    | (with_reducible show wpList _ _ _ (Oper.mk _ (Op.load 163 _) _ _ _ _ :: _) _ _; refine wpList_load_part rfl 163 _ rfl b0 0 8 rfl _ _ _ HM.out.k0 Tryd.underlying163 rfl info_state (by rw [mix_size]; exact Nat.le_refl _) (uv (add8 s v).list).toArray rfl ?_)
                    | (with_reducible show wpList _ _ _ (Oper.mk _ (Op.store 163 _ _) _ _ _ _ :: _) _ _; refine wpList_store_bk rfl 163 _ _ rfl b2 rfl (.agg (uv (add8 s v).list).toArray) rfl _ _ HM.out.k2 (by rw [size_state]; exact info_state) (by rw [size_state]; simp [zerosU]) (uv_one _) ?_))
                  intro w6 h6 hg6 hs6
                  have HB := Lib.hid (below_grown2 HM.out.be hg6 (by have := HL.out; omega) HM.out.be.size)
                  have H6 := Lib.hid h6
                  clear h6 hg6 hs6 HM
                  go_wp2
                  have e : comp s c = add8 s v := by rw [comp, HW.out, HV.out]
                  rw [e]
                  exact bodyPost_cell rfl rfl H6.out Tryd.underlying163 rfl info_state rfl rfl ⟨rfl, HB.out⟩
end Go.Proofs.YtjdegphpalhapaaDoor

/-
  The compression of one chunk: package digest's mix.
  A Hasher's cells, and what a piece of bytes does to them. Plain Lean over lists and blocks; no walk.
-/
import Derived.Test.YtnfffipkgaobhaaM04
import Derived.StillTailTactics
import Derived.Laws.CopyOwn
namespace Go.Proofs.Ytnfffipkgaobhaa
set_option linter.unusedSimpArgs false
set_option linter.unusedVariables false
open Go.RowKit
set_option maxRecDepth 100000

/-- words as cells -/
def uv (l : List UInt32) : List Value := l.map fun x => .int .u32 (uI x)
theorem uv_length (l : List UInt32) : (uv l).length = l.length := by simp [uv]
theorem uv_get (l : List UInt32) (j : Nat) : (uv l)[j]? = (l[j]?).map fun x => .int .u32 (uI x) := by simp [uv]
def zerosU (n : Nat) : List Value := List.replicate n (.int .u32 0)
def Adds (w : World) (G : Nat) : Prop := ∀ i, i < 64 → w.cell? ⟨G, i, none⟩ = some (.int .u32 (uI (adds256.getD i 0)))

section
variable {P : Program}
/-- a new block, without an equation on the heap's size -/
theorem wpList_box_i {ops : Array Oper} {rest : List Oper} {o : Oper} {a : Act} {w : World} {Q : Exit → Act → World → Prop} (hgd : o.guard = none) (t : TypeId) (x : Operand) (ho : o.op = .box t x) (v : Value) (hx : a.eval x = v)
    (h : ∀ g w', Bk w' g v.cells t → Below w.heap.size w w' → w.heap.size ≤ g → g < w'.heap.size → wpList P ops Q rest (a.put o.dst (.pointer (some ⟨g, 0, none⟩))) w') : wpList P ops Q (o :: rest) a w :=
  wpList_box_bk hgd t x ho v hx fun g w' h1 h2 h3 h4 => h g w' h1 h2 (by omega) (by omega)
theorem wpList_alloc_i {ops : Array Oper} {rest : List Oper} {o : Oper} {a : Act} {w : World} {Q : Exit → Act → World → Prop} (hgd : o.guard = none) (t : TypeId) (ho : o.op = .alloc t) (z : Value) (hz : (P.info? t).bind (·.zero) = some z)
    (h : ∀ g w', Bk w' g z.cells t → Below w.heap.size w w' → w.heap.size ≤ g → g < w'.heap.size → wpList P ops Q rest (a.put o.dst (.pointer (some ⟨g, 0, none⟩))) w') : wpList P ops Q (o :: rest) a w :=
  wpList_alloc_bk hgd t ho z hz fun g w' h1 h2 h3 h4 => h g w' h1 h2 (by omega) (by omega)
theorem wpList_store_w {ops : Array Oper} {rest : List Oper} {o : Oper} {a : Act} {w : World} {Q : Exit → Act → World → Prop} (hw : Region.wanted o (yielded ops a.tmps) = true) (ty : TypeId) (x y : Operand) (ho : o.op = .store ty x y)
    (g off : Nat) (hx : a.eval x = .pointer (some ⟨g, off, none⟩)) (ik : IntKind) (n : Int) (hy : a.eval y = .int ik n) (cs : Array Value) (t : TypeId) (hk : Bk w g cs t) (hi : (P.info? ty).map (·.size) = some 1) (hn : off < cs.size)
    (h : ∀ w', Bk w' g (splice cs off [.int ik n]) t → w.grownBy w' (some g) → w'.heap.size = w.heap.size → wpList P ops Q rest (a.put o.dst undef) w') : wpList P ops Q (o :: rest) a w :=
  wpList_store_part hw ty x y ho g off hx (.int ik n) hy cs t hk (by simpa [Value.cells] using hi) (by simp [Value.cells]; omega) (by simp [Value.cells, Value.oneCell']) (by simpa [Value.cells] using h)
end
theorem Adds.below {w w' : World} {G : Nat} (h : Adds w G) (hb : Below w.heap.size w w') (hg : G < w.heap.size) : Adds w' G := fun i hi => (hb.cell (p := ⟨G, i, none⟩) hg).trans (h i hi)

theorem chunk_at {c : List UInt8} (hc : c.length = 64) {j : Nat} (hj : j < 64) : (bv c).toArray[j]? = some (.int .u8 ((c.getD j 0).toNat : Int)) := by
  rw [List.getElem?_toArray, bv_get, List.getElem?_eq_getElem (by omega), List.getD_eq_getElem?_getD, List.getElem?_eq_getElem (by omega)]
  rfl
theorem u8_word (a : UInt8) : IntKind.u32.wrap (a.toNat : Int) = uI a.toUInt32 := by
  have := a.toNat_lt
  rw [IntKind.wrap_u32]; unfold uI; simp; omega
theorem word_int (a b c d : UInt8) : bits .or .u32 (bits .or .u32 (bits .or .u32 (IntKind.u32.wrap (IntKind.u32.wrap (a.toNat : Int) * 16777216)) (IntKind.u32.wrap (IntKind.u32.wrap (b.toNat : Int) * 65536))) (IntKind.u32.wrap (IntKind.u32.wrap (c.toNat : Int) * 256))) (IntKind.u32.wrap (d.toNat : Int)) = uI (word4 a b c d) := by
  simp only [u8_word]
  have h1 := uI_shl a.toUInt32 24 (by decide)
  have h2 := uI_shl b.toUInt32 16 (by decide)
  have h3 := uI_shl c.toUInt32 8 (by decide)
  rw [show (2 : Int) ^ 24 = 16777216 from rfl] at h1
  rw [show (2 : Int) ^ 16 = 65536 from rfl] at h2
  rw [show (2 : Int) ^ 8 = 256 from rfl] at h3
  rw [h1, h2, h3, uI_or, uI_or, uI_or]
  rfl
theorem splice_word {l : List UInt32} {k : Nat} (h : l.length = k) (hk : k < 64) (x : UInt32) : splice (uv l ++ zerosU (64 - k)).toArray k [.int .u32 (uI x)] = (uv (l ++ [x]) ++ zerosU (64 - (k + 1))).toArray := by
  unfold splice
  congr 1
  have e1 : (uv l ++ zerosU (64 - k)).take k = uv l := by rw [List.take_append_of_le_length (by rw [uv_length]; omega), List.take_of_length_le (by rw [uv_length]; omega)]
  have e2 : (uv l ++ zerosU (64 - k)).drop (k + [Value.int .u32 (uI x)].length) = zerosU (64 - (k + 1)) := by
    rw [List.drop_append, List.drop_eq_nil_of_le (by rw [uv_length]; simp; omega), uv_length, h, List.nil_append]
    unfold zerosU
    rw [List.drop_replicate]
    congr 1
    simp; omega
  rw [List.toList_toArray, e1, e2]
  simp [uv]
theorem word_at {l : List UInt32} {k : Nat} (h : l.length = k) {j : Nat} (hj : j < k) : (uv l ++ zerosU (64 - k)).toArray[j]? = some (.int .u32 (uI (l.getD j 0))) := by
  rw [List.getElem?_toArray, List.getElem?_append_left (by rw [uv_length]; omega), uv_get, List.getD_eq_getElem?_getD, List.getElem?_eq_getElem (by omega)]
  rfl
theorem Adds.eq_ {w w' : World} {G : Nat} (h : Adds w G) (e : w'.heap[G]? = w.heap[G]?) : Adds w' G := fun i hi => by
  rw [← h i hi]; simp [World.cell?, e]
/-- a write to one variable -/
theorem below_grown {B : Nat} {w0 wr w5 : World} {b : Nat} (hb : Below B w0 wr) (hg : wr.drew.grownBy w5 (some b)) (hB : B ≤ b) (hs : B ≤ wr.heap.size) : Below B w0 w5 :=
  hb.trans ⟨hg.os, hg.tape, hg.output, hg.size, fun k hk => hg.block k (Nat.lt_of_lt_of_le hk hs) (fun e => by injection e with e; omega)⟩
theorem info_u32 : (Try.prog.info? 96).map (·.size) = some 1 := by kernel_rfl
theorem ret_roundw {p q : Prop} (h : p) (k : q) : p ∧ q := ⟨h, k⟩

theorem div8 (x : UInt32) : uI x / (8 : Int) = uI (x >>> 3) := uI_shr x 3 (by decide)
theorem div1024 (x : UInt32) : uI x / (1024 : Int) = uI (x >>> 10) := uI_shr x 10 (by decide)
theorem drewN_name (w : World) (n : Nat) {p : World → Prop} (h : ∀ wq, wq.heap = w.heap → wq = w.drewN n → p wq) : p (w.drewN n) := h _ rfl rfl
theorem cell_heap {w wq : World} (h : wq.heap = w.heap) (a : Addr) : wq.cell? a = w.cell? a := by simp [World.cell?, h]
theorem next_int (a b c d : UInt32) : IntKind.u32.wrap (IntKind.u32.wrap (IntKind.u32.wrap (uI a + bits .xor .u32 (bits .xor .u32 (rotI (uI b) 7) (rotI (uI b) 18)) (uI b / 8)) + uI c) + bits .xor .u32 (bits .xor .u32 (rotI (uI d) 17) (rotI (uI d) 19)) (uI d / 1024)) = uI (a + sg0 b + c + sg1 d) := by
  rw [rotI_of b 7 (by decide) (by decide), rotI_of b 18 (by decide) (by decide), rotI_of d 17 (by decide) (by decide), rotI_of d 19 (by decide) (by decide), div8, div1024]
  simp only [uI_xor, uI_add]
  rfl
theorem size_state (v : S8) : (Value.agg (uv v.list).toArray).cells.size = 8 := rfl
theorem arr_state (v : S8) : (uv v.list).toArray.size = 8 := rfl
theorem words_at {l : List UInt32} {j : Nat} (hj : j < l.length) : (uv l).toArray[j]? = some (.int .u32 (uI (l.getD j 0))) := by
  rw [List.getElem?_toArray, uv_get, List.getD_eq_getElem?_getD, List.getElem?_eq_getElem (by omega)]
  rfl
theorem state_0 (v : S8) : (uv v.list).toArray[0]? = some (.int .u32 (uI v.a)) := rfl
theorem state_1 (v : S8) : (uv v.list).toArray[1]? = some (.int .u32 (uI v.b)) := rfl
theorem state_2 (v : S8) : (uv v.list).toArray[2]? = some (.int .u32 (uI v.c)) := rfl
theorem state_3 (v : S8) : (uv v.list).toArray[3]? = some (.int .u32 (uI v.d)) := rfl
theorem state_4 (v : S8) : (uv v.list).toArray[4]? = some (.int .u32 (uI v.e)) := rfl
theorem state_5 (v : S8) : (uv v.list).toArray[5]? = some (.int .u32 (uI v.f)) := rfl
theorem state_6 (v : S8) : (uv v.list).toArray[6]? = some (.int .u32 (uI v.g)) := rfl
theorem state_7 (v : S8) : (uv v.list).toArray[7]? = some (.int .u32 (uI v.h)) := rfl
theorem quiet_same {P : Program} {f : FuncId} {args : Array Value} {w : World} {n : Nat} {v : Value}
    (h : Calls P f args (w.drewN n) fun e w' => e = .returned v ∧ w.drewN n = w') : Calls P f args (w.drewN n) fun e w'' => e = .returned v ∧ ∃ m, w'' = w.drewN m :=
  h.mono fun _ _ ⟨he, hm⟩ => ⟨he, n, hm.symm⟩
theorem below_grown2 {B : Nat} {w0 wr w5 : World} {b : Nat} (hb : Below B w0 wr) (hg : wr.grownBy w5 (some b)) (hB : B ≤ b) (hs : B ≤ wr.heap.size := by omega) : Below B w0 w5 :=
  hb.trans ⟨hg.os, hg.tape, hg.output, hg.size, fun k hk => hg.block k (Nat.lt_of_lt_of_le hk hs) (fun e => by injection e with e; omega)⟩
theorem uv_one (v : S8) : ∀ u ∈ (Value.agg (uv v.list).toArray).cells.toList, u.oneCell' = true := by
  simp [S8.list, uv, Value.cells, Value.oneCell']
def mixL (s v : S8) (k : Nat) : List UInt32 := (add8 s v).list.take k ++ s.list.drop k
theorem mix_size (s v : S8) (k : Nat) : (uv (mixL s v k)).toArray.size = 8 := by
  simp [uv, mixL, S8.list]; omega
theorem mix_at (s v : S8) : ∀ k, k < 8 → (uv (mixL s v k)).toArray[k]? = some (.int .u32 (uI (s.list.getD k 0)))
  | 0, _ => rfl | 1, _ => rfl | 2, _ => rfl | 3, _ => rfl | 4, _ => rfl | 5, _ => rfl | 6, _ => rfl | 7, _ => rfl
  | k + 8, h => by omega
theorem splice_mix (s v : S8) : ∀ k, k < 8 → splice (uv (mixL s v k)).toArray k [.int .u32 (uI (s.list.getD k 0 + v.list.getD k 0))] = (uv (mixL s v (k + 1))).toArray
  | 0, _ => rfl | 1, _ => rfl | 2, _ => rfl | 3, _ => rfl | 4, _ => rfl | 5, _ => rfl | 6, _ => rfl | 7, _ => rfl
  | k + 8, h => by omega
end Go.Proofs.Ytnfffipkgaobhaa
namespace Go.Proofs.Ytnfffipkgaobhaa
set_option linter.unusedSimpArgs false
set_option linter.unusedVariables false
open Go.RowKit
set_option maxRecDepth 100000

/-- a Hasher's cells -/
def hc (s : S8) (part : List UInt8) (h t : Int) : List Value := (.bool true :: uv s.list) ++ (bv part ++ [.int .i64 h, .int .u64 t])
theorem hc_len {s : S8} {part : List UInt8} {h t : Int} (hp : part.length = 64) : (hc s part h t).length = 75 := by
  simp [hc, uv_length, bv_length, hp, S8.list]
theorem hc_size {s : S8} {part : List UInt8} {h t : Int} (hp : part.length = 64) : (hc s part h t).toArray.size = 75 := by
  rw [List.size_toArray, hc_len hp]
theorem hc_head_len (s : S8) : ((Value.bool true :: uv s.list) : List Value).length = 9 := by simp [uv_length, S8.list]
theorem hc_0 (s : S8) (part : List UInt8) (h t : Int) : (hc s part h t).toArray[0]? = some (.bool true) := rfl
theorem hc_73 {s : S8} {part : List UInt8} {h t : Int} (hp : part.length = 64) : (hc s part h t).toArray[73]? = some (.int .i64 h) := by
  rw [List.getElem?_toArray, hc, List.getElem?_append_right (by rw [hc_head_len]; omega), hc_head_len, List.getElem?_append_right (by rw [bv_length]; omega), bv_length, hp]
  rfl
theorem hc_74 {s : S8} {part : List UInt8} {h t : Int} (hp : part.length = 64) : (hc s part h t).toArray[74]? = some (.int .u64 t) := by
  rw [List.getElem?_toArray, hc, List.getElem?_append_right (by rw [hc_head_len]; omega), hc_head_len, List.getElem?_append_right (by rw [bv_length]; omega), bv_length, hp]
  rfl
theorem splice_app {L M : List Value} {k : Nat} {xs : List Value} : splice (L ++ M).toArray (L.length + k) xs = (L ++ (M.take k ++ (xs ++ M.drop (k + xs.length)))).toArray := by
  unfold splice
  congr 1
  rw [List.toList_toArray, List.take_append, List.take_of_length_le (by omega), Nat.add_sub_cancel_left, List.drop_append, List.drop_eq_nil_of_le (by omega)]
  simp [Nat.add_assoc, Nat.add_sub_cancel_left]
theorem splice_73 {s : S8} {part : List UInt8} {h t h' : Int} (hp : part.length = 64) : splice (hc s part h t).toArray 73 [.int .i64 h'] = (hc s part h' t).toArray := by
  have e := splice_app (L := (.bool true :: uv s.list)) (M := bv part ++ [.int .i64 h, .int .u64 t]) (k := 64) (xs := [.int .i64 h'])
  rw [hc_head_len] at e
  rw [hc, e, hc]
  congr 2
  rw [List.take_append_of_le_length (by rw [bv_length]; omega), List.take_of_length_le (by rw [bv_length]; omega), List.drop_append, List.drop_eq_nil_of_le (by rw [bv_length]; simp; omega), bv_length, hp]
  rfl
theorem splice_74 {s : S8} {part : List UInt8} {h t t' : Int} (hp : part.length = 64) : splice (hc s part h t).toArray 74 [.int .u64 t'] = (hc s part h t').toArray := by
  have e := splice_app (L := (.bool true :: uv s.list)) (M := bv part ++ [.int .i64 h, .int .u64 t]) (k := 65) (xs := [.int .u64 t'])
  rw [hc_head_len] at e
  rw [hc, e, hc]
  congr 2
  rw [List.take_append, List.take_of_length_le (by rw [bv_length]; omega), List.drop_append, List.drop_eq_nil_of_le (by rw [bv_length]; simp; omega), bv_length, hp]
  simp
theorem splice_words {s s' : S8} {part : List UInt8} {h t : Int} : splice (hc s part h t).toArray 1 (uv s'.list) = (hc s' part h t).toArray := rfl
theorem splice_part {s : S8} {part : List UInt8} {h t : Int} {k : Nat} {x : List UInt8} (hp : part.length = 64) (hk : k + x.length ≤ 64) : splice (hc s part h t).toArray (9 + k) (bv x) = (hc s (part.take k ++ (x ++ part.drop (k + x.length))) h t).toArray := by
  have e := splice_app (L := (.bool true :: uv s.list)) (M := bv part ++ [.int .i64 h, .int .u64 t]) (k := k) (xs := bv x)
  rw [hc_head_len] at e
  rw [hc, e, hc]
  congr 2
  rw [List.take_append_of_le_length (by rw [bv_length]; omega), List.drop_append_of_le_length (by rw [bv_length, bv_length]; omega), bv_length]
  simp only [bv, List.map_append, List.map_take, List.map_drop, List.append_assoc]
theorem words_part (s : S8) (part : List UInt8) (h t : Int) : (hc s part h t).toArray.extract 1 (1 + 8) = (uv s.list).toArray := by
  apply Array.ext'
  simp [hc, S8.list, uv]
theorem part_part {s : S8} {part : List UInt8} {h t : Int} (hp : part.length = 64) : (hc s part h t).toArray.extract 9 (9 + 64) = (bv part).toArray := by
  apply Array.ext'
  rw [Array.toList_extract, List.toList_toArray]
  show List.take (9 + 64 - 9) (List.drop 9 (hc s part h t)) = bv part
  rw [hc, List.drop_append, List.drop_eq_nil_of_le (by rw [hc_head_len]; omega), hc_head_len, List.nil_append, List.drop_zero, List.take_append_of_le_length (by rw [bv_length]; omega), List.take_of_length_le (by rw [bv_length]; omega)]

/-- n more bytes go in: not full yet -/
theorem take_short {l x : List UInt8} (h : l.length % 64 + x.length < 64) : eat comp begin256 (l ++ x) = eat comp begin256 l ∧ (l ++ x).length % 64 = l.length % 64 + x.length ∧ rest (l ++ x) = rest l ++ x := by
  have hr : (rest l ++ x).length < 64 := by rw [List.length_append, rest_len]; exact h
  refine ⟨?_, by rw [List.length_append]; omega, ?_⟩
  · rw [← eat_more, eat_short hr]
  · rw [← rest_more, rest_short hr]
theorem take_full {l x : List UInt8} (h : l.length % 64 + x.length = 64) : eat comp begin256 (l ++ x) = comp (eat comp begin256 l) (rest l ++ x) ∧ (l ++ x).length % 64 = 0 ∧ rest (l ++ x) = [] := by
  have hr : (rest l ++ x).length = 64 := by rw [List.length_append, rest_len]; exact h
  refine ⟨?_, by rw [List.length_append]; omega, ?_⟩
  · rw [← eat_more, eat_step (by omega), List.take_of_length_le (by omega), List.drop_eq_nil_of_le (by omega), eat_short (by simp)]
  · rw [← rest_more, rest_full hr]
theorem part_take {part x r : List UInt8} {k : Nat} (hr : part.take k = r) (hk : k ≤ part.length) : (part.take k ++ (x ++ part.drop (k + x.length))).take (k + x.length) = r ++ x := by
  rw [← List.append_assoc, List.take_append_of_le_length (by simp; omega), List.take_of_length_le (by simp; omega), hr]
theorem part_len {part x : List UInt8} {k : Nat} (hp : part.length = 64) (hk : k + x.length ≤ 64) : (part.take k ++ (x ++ part.drop (k + x.length))).length = 64 := by
  simp; omega

theorem Rd.grown {w w' : World} {A : Option Addr} {xs : List Value} {g : Nat} (h : Rd w A xs) (hg : w.grownBy w' (some g)) (hne : ∀ ad, A = some ad → ad.block ≠ g) : Rd w' A xs := h.of_cells fun ad j ha hn => by
  have hl : ad.block < w.heap.size := by
    rcases Nat.lt_or_ge ad.block w.heap.size with hl | hl
    · exact hl
    · exact absurd (by simp [World.cell?, add_block, Array.getElem?_eq_none hl]) hn
  have hb := hg.block ad.block hl (fun e => hne ad ha (by injection e))
  simp only [World.cell?, add_block, hb]
theorem grown_below {w w' w'' : World} {g : Nat} (h : w.grownBy w' (some g)) (hb : Below w'.heap.size w' w'') : w.grownBy w'' (some g) :=
  ⟨hb.os.trans h.os, hb.tape.trans h.tape, hb.output.trans h.output, Nat.le_trans h.size hb.size, fun k hk hne => (hb.block k (Nat.lt_of_lt_of_le hk h.size)).trans (h.block k hk hne)⟩
theorem grw_trans {w w' w'' : World} {g : Nat} (h : w.grownBy w' (some g)) (k : w'.grownBy w'' (some g)) : w.grownBy w'' (some g) :=
  ⟨k.os.trans h.os, k.tape.trans h.tape, k.output.trans h.output, Nat.le_trans h.size k.size, fun i hi hne => (k.block i (Nat.lt_of_lt_of_le hi h.size) hne).trans (h.block i hi hne)⟩
theorem grw_drewN {w w' : World} {g : Nat} (h : w.grownBy w' (some g)) (n : Nat) : w.grownBy (w'.drewN n) (some g) := ⟨h.os, h.tape, h.output, h.size, h.block⟩
theorem Adds.grown {w w' : World} {G g : Nat} (h : Adds w G) (hg : w.grownBy w' (some g)) (hl : G < w.heap.size) (hne : G ≠ g) : Adds w' G := h.eq_ (hg.block _ hl (fun e => hne (by injection e)))

section
variable {P : Program}
/-- copy into a part of a known block -/
theorem wpList_copy_bk {w : World} {ops : Array Oper} {rest : List Oper} {o : Oper} {a : Act} {Q : Exit → Act → World → Prop} (hgd : o.guard = none) (d s : Operand) (dT sT : TypeId)
    (ho : o.op = .call { callee := .builtin .copy, args := #[d, s], argTypes := #[dT, sT] }) (elem : TypeId) (hu : P.underlying dT = some (.slice elem)) (hsz : (P.info? elem).map (·.size) = some 1)
    (g off dLen dCap : Nat) (ad : Addr) (sLen sCap : Nat) (hd : a.eval d = .slice (some ⟨g, off, none⟩) dLen dCap) (hs : a.eval s = .slice (some ad) sLen sCap)
    (cur : Array Value) (t : TypeId) (hg : Bk w g cur t) (cs : List Value) (hn : cs.length = Nat.min sLen dLen)
    (hsrc : ∀ j v, cs[j]? = some v → w.cell? (ad.add j) = some v) (hfit : off + cs.length ≤ cur.size) (h1 : ∀ v ∈ cs, v.oneCell' = true)
    (h : ∀ w', Bk w' g (splice cur off cs) t → w.grownBy w' (some g) → w'.heap.size = w.heap.size → wpList P ops Q rest (a.put o.dst (goInt cs.length)) w') : wpList P ops Q (o :: rest) a w := by
  refine wpList_copy_own hgd d s dT sT ho elem hu hsz g off dLen dCap ad sLen sCap hd hs cur t hg cs hn hsrc hfit h1 ?_
  refine h _ ?_ ⟨rfl, rfl, rfl, by simp, fun k _ hne => setRow_other w g k _ (fun e => hne (by rw [e]))⟩ (by simp)
  have e : (cur.toList.take off ++ (cs ++ cur.toList.drop (off + cs.length))).toArray = splice cur off cs := by unfold splice; rw [List.append_assoc]
  rw [e]
  exact setRow_heap w g cur _ t _ hg
end
end Go.Proofs.Ytnfffipkgaobhaa

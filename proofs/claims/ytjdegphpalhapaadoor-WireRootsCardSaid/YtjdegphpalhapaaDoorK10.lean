/-
  A new Hasher; the bytes of a digest. Condition: the table of the first words reads as it was laid.
  A Hasher's digest: (*Hasher).Sum is sha of what it took. Condition: the Hasher has taken l; l is not too long; the table of the rounds reads as it was laid.
  The digest of parts, one behind the other (joined); the digest of bytes (Sum of package digest). Conditions: the parts lie in memory; they are not too long; the two tables read as they were laid.
-/
import Derived.Test.YtjdegphpalhapaaDoorKSha6
namespace Go.Proofs.YtjdegphpalhapaaDoor
set_option linter.unusedSimpArgs false
set_option linter.unusedVariables false
open Go.RowKit
set_option maxRecDepth 100000

section
variable {P : Program}
theorem wpList_buildv {ops : Array Oper} {rest : List Oper} {o : Oper} {a : Act} {w : World} {Q : Exit → Act → World → Prop} (hw : Region.wanted o (yielded ops a.tmps) = true) (t : TypeId) (ps : List (Nat × Operand)) (ho : o.op = .build t ps.toArray)
    (vs : List (Nat × Value)) (hv : ps.map (fun p => (p.1, a.eval p.2)) = vs) (cells : Array Value) (hb : P.built t vs = some cells) (h : wpList P ops Q rest (a.put o.dst (.agg cells)) w) : wpList P ops Q (o :: rest) a w := by
  refine wpList_want hw fun K hK => ?_
  have hv2 : ps.toArray.map (fun (i, x) => (i, a.eval x)) = vs.toArray := by rw [← hv, List.map_toArray]
  unfold Oper.wp execOp
  simp only [ho, Sem.run_bind, Sem.run_pure, hv2, run_build w t vs.toArray cells (by simpa using hb), Result.andThen_ok]
  exact hK _ _ h
/-- cells read whole, off whatever address -/
theorem wpList_load_cells {ops : Array Oper} {rest : List Oper} {o : Oper} {a : Act} {w : World} {Q : Exit → Act → World → Prop} (hw : Region.wanted o (yielded ops a.tmps) = true) (ty : TypeId) (x : Operand) (ho : o.op = .load ty x)
    (g n : Nat) (hx : a.eval x = .pointer (some ⟨g, 0, none⟩)) (vs : List Value) (hc : ∀ j v, vs[j]? = some v → w.cell? ⟨g, j, none⟩ = some v) (d : TypeDesc) (hu : P.underlying ty = some d) (hd : aggD d = true) (hi : (P.info? ty).map (·.size) = some n) (hn : vs.length = n)
    (h : wpList P ops Q rest (a.put o.dst (.agg vs.toArray)) w) : wpList P ops Q (o :: rest) a w := by
  refine wpList_want hw fun K hK => ?_
  have hl : (loadCells ⟨g, 0, none⟩ vs.length).run P w = .ok vs.toArray w :=
    run_loadCells_list (P := P) w ⟨g, 0, none⟩ vs (fun j v hv => by rw [addr_add, Nat.zero_add]; exact hc j v hv)
  rw [hn] at hl
  have hagg : (isAgg ty).run P w = .ok true w := by
    rw [run_isAgg hu w]
    congr 1
    unfold isAggT
    rw [hu]
    cases d <;> simp [aggD] at hd ⊢
  have hlv : (loadVar ty ⟨g, 0, none⟩).run P w = .ok (.agg vs.toArray) w := by
    simp [loadVar, Sem.run_bind, hagg, run_sizeOf' hi, hl]
  unfold Oper.wp execOp
  simp only [ho, hx, Instr.loadAt, Instr.sureAddr, Sem.run_bind, Sem.run_pure, Result.andThen_ok, hlv]
  exact hK _ _ h
end
def zer (n : Nat) : List UInt8 := List.replicate n 0
def Begins (w : World) (G : Nat) : Prop := ∀ j v, (uv begin256.list)[j]? = some v → w.cell? ⟨G, j, none⟩ = some v
theorem Begins.at_ {w : World} {G : Nat} (h : Begins w G) : ∀ j v, (uv begin256.list)[j]? = some v → w.cell? ⟨G, j, none⟩ = some v := h
theorem Begins.below {w w' : World} {G : Nat} (h : Begins w G) (hb : Below w.heap.size w w') (hg : G < w.heap.size) : Begins w' G := fun j v hv => (hb.cell (p := ⟨G, j, none⟩) hg).trans (h j v hv)
theorem built_hasher (s : S8) : Tryd.prog.built 166 [(0, .bool true), (1, .agg (uv s.list).toArray)] = some (hc s (List.replicate 64 0) 0 0).toArray := by kernel_rfl
theorem info_w8' : (Tryd.prog.info? 96).map (·.size) = some 8 := by kernel_rfl

def SomeHs (w : World) (l : List UInt8) (e : Ending) (w' : World) : Prop := ∃ g, e = .returned (.pointer (some ⟨g, 0, none⟩)) ∧ Hs w' g l l.length ∧ Below w.heap.size w w' ∧ w.heap.size ≤ g
set_option maxHeartbeats 1000000 in
theorem New_any (w : World) (hb : Begins w 1) :
    Calls Tryd.prog 104 #[] w (SomeHs w []) := by
  have HB := Lib.hid hb; clear hb
  go_enter Tryd.func104, Tryd.ntmps104
  go_wp2_with (first
    | (with_reducible show wpList _ _ _ (Oper.mk _ (Op.load _ _) _ _ _ _ :: _) _ _; go_must (refine wpList_load_cells rfl 96 _ rfl 1 8 rfl (uv begin256.list) HB.out.at_ _ Tryd.underlying96 rfl info_w8' rfl ?_))
    | (with_reducible show wpList _ _ _ (Oper.mk _ (Op.build _ _) _ _ _ _ :: _) _ _; go_must (refine wpList_buildv rfl 166 [(0, .const (.bool true)), (1, .tmp 1)] rfl [(0, .bool true), (1, .agg (uv begin256.list).toArray)] rfl _ (built_hasher begin256) ?_))
    | (with_reducible show wpList _ _ _ (Oper.mk _ (Op.box _ _) _ _ _ _ :: _) _ _; refine wpList_box_i rfl _ _ rfl (.agg (hc begin256 (List.replicate 64 0) 0 0).toArray) rfl ?_))
  intro g w1 hk hl hg hs
  have HK := Lib.hid hk
  have HL := Lib.hid hl
  have HG := Lib.hid hg
  clear hk hl hg hs
  go_wp2
  go_ret
  exact ⟨g, rfl, ⟨List.replicate 64 0, rfl, rfl, by rw [eat_short (by simp)]; exact HK.out⟩, HL.out, HG.out⟩

/-! the bytes of a digest -/
theorem bytes_at (s : S8) : ∀ i k, i < 8 → k < 4 → s.bytes.getD (4 * i + k) 0 = (bytes4 (s.list.getD i 0)).getD k 0
  | 0, 0, _, _ => rfl
  | 0, 1, _, _ => rfl
  | 0, 2, _, _ => rfl
  | 0, 3, _, _ => rfl
  | 1, 0, _, _ => rfl
  | 1, 1, _, _ => rfl
  | 1, 2, _, _ => rfl
  | 1, 3, _, _ => rfl
  | 2, 0, _, _ => rfl
  | 2, 1, _, _ => rfl
  | 2, 2, _, _ => rfl
  | 2, 3, _, _ => rfl
  | 3, 0, _, _ => rfl
  | 3, 1, _, _ => rfl
  | 3, 2, _, _ => rfl
  | 3, 3, _, _ => rfl
  | 4, 0, _, _ => rfl
  | 4, 1, _, _ => rfl
  | 4, 2, _, _ => rfl
  | 4, 3, _, _ => rfl
  | 5, 0, _, _ => rfl
  | 5, 1, _, _ => rfl
  | 5, 2, _, _ => rfl
  | 5, 3, _, _ => rfl
  | 6, 0, _, _ => rfl
  | 6, 1, _, _ => rfl
  | 6, 2, _, _ => rfl
  | 6, 3, _, _ => rfl
  | 7, 0, _, _ => rfl
  | 7, 1, _, _ => rfl
  | 7, 2, _, _ => rfl
  | 7, 3, _, _ => rfl
  | i + 8, _, h, _ => by omega
  | _, k + 4, _, h => by omega
theorem byte4_int (x : UInt32) : ∀ k : Nat, k < 4 → IntKind.u8.wrap (uI x / 2 ^ (24 - 8 * (k : Int)).toNat) = (((bytes4 x).getD k 0).toNat : Int)
  | 0, _ => by
    show IntKind.u8.wrap (uI x / 2 ^ 24) = (((x >>> 24).toUInt8).toNat : Int)
    rw [uI_shr x 24 (by decide), IntKind.wrap_u8]; unfold uI; simp
  | 1, _ => by
    show IntKind.u8.wrap (uI x / 2 ^ 16) = (((x >>> 16).toUInt8).toNat : Int)
    rw [uI_shr x 16 (by decide), IntKind.wrap_u8]; unfold uI; simp
  | 2, _ => by
    show IntKind.u8.wrap (uI x / 2 ^ 8) = (((x >>> 8).toUInt8).toNat : Int)
    rw [uI_shr x 8 (by decide), IntKind.wrap_u8]; unfold uI; simp
  | 3, _ => by
    show IntKind.u8.wrap (uI x / 2 ^ 0) = (x.toUInt8.toNat : Int)
    rw [IntKind.wrap_u8]; unfold uI; simp
  | k + 4, h => by omega
theorem tail8_int (n : Nat) (hn : n < 18446744073709551616) : ∀ k : Nat, k < 8 → IntKind.u8.wrap ((n : Int) / 2 ^ (56 - 8 * (k : Int)).toNat) = (((tail8 (UInt64.ofNat n)).getD k 0).toNat : Int)
  | 0, _ => by
    show IntKind.u8.wrap ((n : Int) / 2 ^ 56) = ((((UInt64.ofNat n) >>> 56).toUInt8).toNat : Int)
    rw [IntKind.wrap_u8]; simp [Nat.shiftRight_eq_div_pow, Nat.mod_eq_of_lt hn]
  | 1, _ => by
    show IntKind.u8.wrap ((n : Int) / 2 ^ 48) = ((((UInt64.ofNat n) >>> 48).toUInt8).toNat : Int)
    rw [IntKind.wrap_u8]; simp [Nat.shiftRight_eq_div_pow, Nat.mod_eq_of_lt hn]
  | 2, _ => by
    show IntKind.u8.wrap ((n : Int) / 2 ^ 40) = ((((UInt64.ofNat n) >>> 40).toUInt8).toNat : Int)
    rw [IntKind.wrap_u8]; simp [Nat.shiftRight_eq_div_pow, Nat.mod_eq_of_lt hn]
  | 3, _ => by
    show IntKind.u8.wrap ((n : Int) / 2 ^ 32) = ((((UInt64.ofNat n) >>> 32).toUInt8).toNat : Int)
    rw [IntKind.wrap_u8]; simp [Nat.shiftRight_eq_div_pow, Nat.mod_eq_of_lt hn]
  | 4, _ => by
    show IntKind.u8.wrap ((n : Int) / 2 ^ 24) = ((((UInt64.ofNat n) >>> 24).toUInt8).toNat : Int)
    rw [IntKind.wrap_u8]; simp [Nat.shiftRight_eq_div_pow, Nat.mod_eq_of_lt hn]
  | 5, _ => by
    show IntKind.u8.wrap ((n : Int) / 2 ^ 16) = ((((UInt64.ofNat n) >>> 16).toUInt8).toNat : Int)
    rw [IntKind.wrap_u8]; simp [Nat.shiftRight_eq_div_pow, Nat.mod_eq_of_lt hn]
  | 6, _ => by
    show IntKind.u8.wrap ((n : Int) / 2 ^ 8) = ((((UInt64.ofNat n) >>> 8).toUInt8).toNat : Int)
    rw [IntKind.wrap_u8]; simp [Nat.shiftRight_eq_div_pow, Nat.mod_eq_of_lt hn]
  | 7, _ => by
    show IntKind.u8.wrap ((n : Int) / 2 ^ 0) = (((UInt64.ofNat n).toUInt8).toNat : Int)
    rw [IntKind.wrap_u8]; simp [Nat.shiftRight_eq_div_pow, Nat.mod_eq_of_lt hn]
  | k + 8, h => by omega
theorem splice_bytes {l : List UInt8} {n : Nat} (k : Nat) (hl : l.length = n) (hk : k < n) : splice (bv (l.take k ++ zer (n - k))).toArray k [.int .u8 ((l.getD k 0).toNat : Int)] = (bv (l.take (k + 1) ++ zer (n - (k + 1)))).toArray := by
  unfold splice
  congr 1
  have e1 : (bv (l.take k ++ zer (n - k))).take k = bv (l.take k) := by
    rw [bv_append, List.take_append_of_le_length (by rw [bv_length]; simp; omega), List.take_of_length_le (by rw [bv_length]; simp; omega)]
  have e2 : (bv (l.take k ++ zer (n - k))).drop (k + 1) = bv (zer (n - (k + 1))) := by
    rw [bv_append, List.drop_append, List.drop_eq_nil_of_le (by rw [bv_length]; simp; omega), bv_length, List.nil_append]
    have e3 : k + 1 - (l.take k).length = 1 := by simp; omega
    rw [e3]
    unfold bv zer
    rw [← List.map_drop, List.drop_replicate]
    congr 2
  rw [List.toList_toArray, e1]
  simp only [List.length_cons, List.length_nil, Nat.zero_add, e2]
  rw [List.take_succ_eq_append_getElem (by omega), bv_append, bv_append]
  have e4 : l.getD k 0 = l[k] := by rw [List.getD_eq_getElem?_getD, List.getElem?_eq_getElem (by omega)]; rfl
  rw [e4]
  simp [bv]
theorem bytes_size {l : List UInt8} {n k : Nat} (hl : l.length = n) (hk : k ≤ n) : (bv (l.take k ++ zer (n - k))).toArray.size = n := by
  simp [bv_length, zer]; omega
end Go.Proofs.YtjdegphpalhapaaDoor
namespace Go.Proofs.YtjdegphpalhapaaDoor
set_option linter.unusedSimpArgs false
set_option linter.unusedVariables false
open Go.RowKit
set_option maxRecDepth 100000

theorem zero_hash : (Tryd.prog.info? 29).bind (·.zero) = some (.agg (bv (zer 32)).toArray) := by kernel_rfl
def hasher0 : List Value := (.bool false :: List.replicate 8 (.int .u32 0)) ++ (bv (zer 64) ++ [.int .i64 0, .int .u64 0])
theorem zero_hasher : (Tryd.prog.info? 166).bind (·.zero) = some (.agg hasher0.toArray) := by kernel_rfl
theorem ext_all {cs : Array Value} {n : Nat} (h : cs.size = n) : cs.extract 0 (0 + n) = cs := by
  subst h; simp
theorem zero_w8b : (Tryd.prog.info? 160).bind (·.zero) = some (.agg (bv (zer 8)).toArray) := by kernel_rfl
theorem info_h32 : (Tryd.prog.info? 29).map (·.size) = some 32 := by kernel_rfl
theorem hc_one (s : S8) (part : List UInt8) (h t : Int) : ∀ u ∈ (Value.agg (hc s part h t).toArray).cells.toList, u.oneCell' = true := by
  intro u hu
  simp only [Value.cells, List.toList_toArray, hc, List.mem_append, List.mem_cons, List.mem_nil_iff, or_false] at hu
  rcases hu with (rfl | hu) | hu | rfl | rfl
  · rfl
  · simp only [uv, List.mem_map] at hu; obtain ⟨_, _, rfl⟩ := hu; rfl
  · exact bv_one part u hu
  · rfl
  · rfl
theorem agg_size {s : S8} {part : List UInt8} {h t : Int} (hp : part.length = 64) : (Value.agg (hc s part h t).toArray).cells.size = 75 := hc_size hp
theorem hasher0_size : hasher0.toArray.size = 75 := by simp [hasher0, bv, zer]
theorem tail8_int' (L : Nat) (h : L * 8 < 18446744073709551616) (k : Nat) (hk : k < 8) : (L : Int) * 8 / 2 ^ (56 - 8 * k) % 256 = (((tail8 (UInt64.ofNat (L * 8))).getD k 0).toNat : Int) := by
  have h1 := tail8_int (L * 8) h k hk
  rw [IntKind.wrap_u8, show (56 - 8 * (k : Int)).toNat = 56 - 8 * k by omega] at h1
  rw [← h1]
  simp
theorem byte4_int' (x : UInt32) (k : Nat) (hk : k < 4) : uI x / 2 ^ (24 - 8 * k) % 256 = (((bytes4 x).getD k 0).toNat : Int) := by
  have h1 := byte4_int x k hk
  rw [IntKind.wrap_u8, show (24 - 8 * (k : Int)).toNat = 24 - 8 * k by omega] at h1
  exact h1
theorem run_index8 (s : S8) (w : World) : ∀ k : Nat, k < 8 → (Instr.index 163 (.agg (uv s.list).toArray) (.int .i64 (k : Int))).run Tryd.prog w = .ok (.int .u32 (uI (s.list.getD k 0))) w
  | 0, _ => by kernel_rfl
  | 1, _ => by kernel_rfl
  | 2, _ => by kernel_rfl
  | 3, _ => by kernel_rfl
  | 4, _ => by kernel_rfl
  | 5, _ => by kernel_rfl
  | 6, _ => by kernel_rfl
  | 7, _ => by kernel_rfl
  | k + 8, h => by omega
theorem exec_index8 {ρ : Operand → Value} {o : Oper} {x y : Operand} (s : S8) (k : Nat) (hk : k < 8) (x0 : UInt32) (hx0 : s.list.getD k 0 = x0) (ho : o.op = .index 163 x y) (hx : ρ x = .agg (uv s.list).toArray) (hy : ρ y = .int .i64 (k : Int)) (w : World) : (execOp ρ o).run Tryd.prog w = .ok (.value (.int .u32 (uI x0))) w := by
  subst hx0
  unfold execOp
  simp only [ho, hx, hy, Sem.run_bind, Sem.run_pure, run_index8 s w k hk, Result.andThen_ok]
theorem agg_sz {a : Array Value} {n : Nat} (h : a.size = n) : (Value.agg a).cells.size = n := h
theorem gap_lt {n k : Nat} (h : k < gap n) : ((n + 1 + k) % 64 == 56) = false ∧ (n + 1 + k) % 64 ≠ 56 := by
  have := gap_fits n
  unfold gap at *
  have h2 : (n + 1 + k) % 64 ≠ 56 := by omega
  exact ⟨by simpa using h2, h2⟩

/-- what is known while Sum goes on: block r holds the result, block e the copy -/
structure Sx (w0 wr : World) (r e : Nat) (l : List UInt8) : Prop where
  res : Bk wr r (bv (zer 32)).toArray 29
  hs : Hs wr e l l.length
  ad : Adds wr 3
  be : Below w0.heap.size w0 wr
  lt : w0.heap.size ≤ r ∧ r < e ∧ e < wr.heap.size
theorem Sx.below {w0 wr w' : World} {r e : Nat} {l : List UInt8} (h : Sx w0 wr r e l) (hb : Below wr.heap.size wr w') (hG : 3 < w0.heap.size) : Sx w0 w' r e l := by
  obtain ⟨h1, ⟨part, p1, p2, h2⟩, h3, h4, h5⟩ := h
  have hz := hb.size
  have hz4 := h4.size
  exact ⟨h1.below hb h1.lt, ⟨part, p1, p2, h2.below hb h2.lt⟩, h3.below hb (by omega), h4.trans (hb.mono hz4), by omega⟩
theorem Sx.apart {w0 wr w' : World} {r e b : Nat} {l : List UInt8} (h : Sx w0 wr r e l) (hg : wr.grownBy w' (some b)) (he : e < b) (hr : r < b) (hG : 3 < w0.heap.size) (hB : w0.heap.size ≤ b) : Sx w0 w' r e l := by
  obtain ⟨h1, ⟨part, p1, p2, h2⟩, h3, h4, h5⟩ := h
  have hz := hg.size
  have hz4 := h4.size
  refine ⟨h1.grown hg (by intro e; injection e with e; omega), ⟨part, p1, p2, h2.grown hg (by intro e; injection e with e; omega)⟩, h3.grown hg (by omega) (by omega), h4.trans ⟨hg.os, hg.tape, hg.output, hg.size, fun k hk => hg.block k (by omega) (fun e => by injection e with e; omega)⟩, by omega⟩
theorem Sx.write {w0 wr w' : World} {r e : Nat} {l l' : List UInt8} (h : Sx w0 wr r e l) (hg : wr.grownBy w' (some e)) (hs : Hs w' e l' l'.length) (hG : 3 < w0.heap.size) : Sx w0 w' r e l' := by
  obtain ⟨h1, _, h3, h4, h5⟩ := h
  have hz := hg.size
  have hz4 := h4.size
  refine ⟨h1.grown hg (by intro e; injection e with e; omega), hs, h3.grown hg (by omega) (by omega), h4.trans ⟨hg.os, hg.tape, hg.output, hg.size, fun k hk => hg.block k (by omega) (fun e => by injection e with e; omega)⟩, by omega⟩
theorem hs_head {w : World} {e : Nat} {l : List UInt8} {T : Int} (h : Hs w e l T) : w.cell? ⟨e, 73, none⟩ = some (.int .i64 ((l.length % 64 : Nat) : Int)) ∧ w.cell? ⟨e, 74, none⟩ = some (.int .u64 T) ∧ w.cell? ⟨e, 0, none⟩ = some (.bool true) := by
  obtain ⟨part, p1, p2, hk⟩ := h
  exact ⟨(hk.cell 73).trans (hc_73 p1), (hk.cell 74).trans (hc_74 p1), (hk.cell 0).trans (hc_0 _ _ _ _)⟩
theorem S_alloc {w0 wr : World} {r e : Nat} {l : List UInt8} (h : Sx w0 wr r e l) (o : Obj) (hG : 3 < w0.heap.size) : Sx w0 (wr.alloc o) r e l := h.below ((Below.refl _ _).alloc (Nat.le_refl _) o) hG
def heldOf (w : World) (e : Nat) : Nat := match w.cell? ⟨e, 73, none⟩ with | some (.int _ h) => h.toNat | _ => 0

set_option maxHeartbeats 4000000 in
theorem Sum_any (w : World) (g : Nat) (l : List UInt8) (hh : Hs w g l l.length) (hb : l.length + 200 ≤ room46) (ha : Adds w 3) (hG : 3 < w.heap.size) :
    Calls Tryd.prog 106 #[.pointer (some ⟨g, 0, none⟩)] w fun e w' => e = .returned (.agg (bv (sha l)).toArray) ∧ Below w.heap.size w w' := by
  obtain ⟨part, hp, hpr, hk⟩ := hh
  unfold room46 at hb
  have HP := Lib.hid hp; clear hp
  have HPR := Lib.hid hpr; clear hpr
  have HK := Lib.hid hk
  have HA := Lib.hid ha
  have hgl := hk.lt
  clear ha hk
  go_enter Tryd.func106, Tryd.ntmps106
  go_wp2_with (refine wpList_alloc_i rfl 29 rfl (.agg (bv (zer 32)).toArray) zero_hash ?_)
  intro r w1 hr hl1 hg1 hs1
  have HK1 := Lib.hid (HK.out.below hl1 hgl)
  have x0 := (HK1.out.cell 0).trans (hc_0 _ _ _ _)
  have HR := Lib.hid hr
  have HA1 := Lib.hid (HA.out.below hl1 hG)
  have HL1 := Lib.hid hl1
  clear hr hl1 HK HA
  go_wp2_with (first
    | (go_at_call 118; (with_reducible refine (good_any _ _ x0).mono ?_); rintro e w2 ⟨rfl, rfl⟩)
    | (with_reducible show wpList _ _ _ (Oper.mk _ (Op.load 166 _) _ _ _ _ :: _) _ _; go_must (refine wpList_load_part rfl 166 _ rfl g 0 75 rfl _ _ _ HK1.out Tryd.underlying166 rfl info_hasher (by rw [hc_size HP.out]; decide) (hc (eat comp begin256 l) part ((l.length % 64 : Nat) : Int) l.length).toArray (ext_all (hc_size HP.out)) ?_))
    | (with_reducible show wpList _ _ _ (Oper.mk _ (Op.alloc _) _ _ _ _ :: _) _ _; refine wpList_alloc_i rfl 166 rfl _ zero_hasher ?_))
  intro e w2 h2 hl2 hg2 hs2
  have HL2 := Lib.hid hl2
  have HR2 := Lib.hid (HR.out.below hl2 HR.out.lt)
  have H2 := Lib.hid h2
  clear h2 hl2 x0
  go_wp2_with (with_reducible show wpList _ _ _ (Oper.mk _ (Op.store 166 _ _) _ _ _ _ :: _) _ _; go_must (refine wpList_store_bk rfl 166 _ _ rfl e rfl (.agg (hc (eat comp begin256 l) part ((l.length % 64 : Nat) : Int) l.length).toArray) rfl _ _ H2.out (by rw [agg_size HP.out]; exact info_hasher) (by rw [agg_size HP.out]; exact hasher0_size.symm) (hc_one _ _ _ _) ?_))
  intro w3 h3 hg3 hs3
  have S3 : Sx w w3 r e l := by
    have z1 := HL1.out.size
    have z2 := HL2.out.size
    have z3 := hg3.size
    exact ⟨HR2.out.grown hg3 (by intro e; injection e with e; omega), ⟨part, HP.out, HPR.out, h3⟩, (HA1.out.below HL2.out (by omega)).grown hg3 (by omega) (by omega), (HL1.out.trans (HL2.out.mono z1)).trans ⟨hg3.os, hg3.tape, hg3.output, hg3.size, fun k hk => hg3.block k (by omega) (fun e => by injection e with e; omega)⟩, by omega⟩
  have HS3 := Lib.hid S3
  clear S3 h3 hg3 hs3 H2 HR2 HL2 HL1 HR HA1 HK1 hg1 hs1 hg2 hs2
  obtain ⟨L, hL⟩ : ∃ L, l.length = L := ⟨_, rfl⟩
  have HLL := Lib.hid hL
  have x74 := (hs_head HS3.out.hs).2.1
  rw [hL] at x74 hb
  have e8 : IntKind.u64.wrap ((L : Int) * 8) = (L : Int) * 8 := by rw [IntKind.wrap_u64]; omega
  clear hL
  go_wp2_with fail
  have B4 := S_alloc HS3.out (Obj.cells #[Value.int IntKind.u8 128] 5) hG
  have R4 : Rd (w3.alloc (Obj.cells #[Value.int IntKind.u8 128] 5)) (some ⟨w3.heap.size, 0, none⟩) (bv [128]) := Rd.of_bk (Bk.new w3 _ _) 0 _ (fun j u hu => by simpa [bv] using hu)
  have HS4 := Lib.hid B4
  have HR4 := Lib.hid R4
  have HN4 := Lib.hid (show ∀ ad, some (⟨w3.heap.size, 0, none⟩ : Addr) = some ad → ad.block ≠ e from fun ad h => by injection h with h; rw [← h]; have := HS3.out.lt; simp only; omega)
  clear B4 R4 x74
  refine (write_any _ e l [128] _ 1 1 rfl (by omega) HR4.out HN4.out HS4.out.hs (by unfold room46; rw [HLL.out]; omega) HS4.out.ad (Nat.lt_of_lt_of_le hG HS4.out.be.size) (by have := HS4.out.lt; omega)).mono ?_
  rintro en w5 ⟨rfl, hh5, hg5⟩
  have HS5 := Lib.hid (HS4.out.write hg5 hh5 hG)
  clear hh5 hg5 HR4 HN4 HS4 HS3
  go_wp2_with fail
  go_loopw [] (fun wr => ∃ k : Nat, k ≤ gap l.length ∧ Sx w wr r e (l ++ [128] ++ zer k)) (fun wr => (120 - heldOf wr e) % 64)
  case atStart => exact ⟨0, by omega, by simpa [zer] using HS5.out⟩
  case round =>
    clear HS5
    obtain ⟨k, hk, S⟩ := hrel
    have HS := Lib.hid S
    have x73 := (hs_head S.hs).1
    have hlen : (l ++ [128] ++ zer k).length = L + 1 + k := by simp [zer, HLL.out]; omega
    have hlm := hlen
    rw [hlen] at x73
    have HLM := Lib.hid hlm
    rw [HLL.out] at hk
    have hgap : gap L ≤ 64 := by unfold gap; omega
    clear S hlen hlm
    by_cases hlt : k < gap L
    · obtain ⟨f1, f2⟩ := gap_lt hlt
      obtain ⟨h, hh⟩ : ∃ h, (L + 1 + k) % 64 = h := ⟨_, rfl⟩
      rw [hh] at x73 f1 f2
      have HH := Lib.hid hh
      have f3 : ((h : Int) != 56) = true := by simp; omega
      have f4 : ((h : Int) == 56) = false := by simp; omega
      clear hh f1 f2
      go_wp2_with fail
      have HS6 := Lib.hid (S_alloc HS.out (Obj.cells #[Value.int IntKind.u8 0] 5) hG)
      have HR6 := Lib.hid (show Rd (wr.alloc (Obj.cells #[Value.int IntKind.u8 0] 5)) (some ⟨wr.heap.size, 0, none⟩) (bv [0]) from Rd.of_bk (Bk.new wr _ _) 0 _ (fun j u hu => by simpa [bv] using hu))
      have HN6 := Lib.hid (show ∀ ad, some (⟨wr.heap.size, 0, none⟩ : Addr) = some ad → ad.block ≠ e from fun ad h => by injection h with h; rw [← h]; have := HS.out.lt; simp only; omega)
      refine (write_any _ e (l ++ [128] ++ zer k) [0] _ 1 1 rfl (by omega) HR6.out HN6.out HS6.out.hs (by unfold room46; rw [HLM.out]; omega) HS6.out.ad (Nat.lt_of_lt_of_le hG HS6.out.be.size) (by have := HS6.out.lt; omega)).mono ?_
      rintro en w7 ⟨rfl, hh7, hg7⟩
      have HS7 := Lib.hid (HS6.out.write hg7 hh7 hG)
      have ez : l ++ [128] ++ zer k ++ [0] = l ++ [128] ++ zer (k + 1) := by
        have : zer (k + 1) = zer k ++ [0] := by unfold zer; rw [List.replicate_succ']
        rw [this, ← List.append_assoc]
      have hm7 : heldOf w7 e = (h + 1) % 64 := by
        have x := (hs_head HS7.out.hs).1
        unfold heldOf
        rw [x, List.length_append, HLM.out]
        have := HH.out
        simp only [List.length_cons, List.length_nil, Int.toNat_natCast]
        omega
      have hm6 : heldOf wr e = h := by
        unfold heldOf
        rw [x73]
        simp
      have HM7 := Lib.hid (And.intro hm7 hm6)
      rw [ez] at HS7
      have hh64 : h < 64 := by have := HH.out; omega
      have hne : h ≠ 56 := by rintro rfl; cases f3
      clear hh7 hg7 hm7 hm6 HS6 HR6 HN6 HS x73 ez
      go_wp2
      go_roundw
      case rel => exact ⟨k + 1, by rw [HLL.out]; omega, HS7.out⟩
      case measure => rw [HM7.out.1, HM7.out.2]; omega
    · have hkk : k = gap L := by omega
      subst hkk
      have h56 : (L + 1 + gap L) % 64 = 56 := gap_fits L
      rw [h56] at x73
      clear hlt hk
      have H56 := Lib.hid h56
      clear h56
      go_wp2_with (with_reducible show wpList _ _ _ (Oper.mk _ (Op.alloc _) _ _ _ _ :: _) _ _; refine wpList_alloc_i rfl 160 rfl _ zero_w8b ?_)
      intro b5 w6 h6 hl6 hg6 hs6
      have HS6 := Lib.hid (HS.out.below hl6 hG)
      have H6 := Lib.hid h6
      have HE := Lib.hid (show e < b5 by have := HS.out.lt; omega)
      have HB5 := Lib.hid (show r < b5 by have := HS.out.lt; omega)
      clear h6 hl6 hg6 hs6 HS x73
      -- LOOP2
      obtain ⟨l1, hl1⟩ : ∃ l1, l ++ [128] ++ zer (gap L) = l1 := ⟨_, rfl⟩
      rw [hl1] at HS6 HLM
      have HL1 := Lib.hid hl1
      obtain ⟨tl, htl⟩ : ∃ tl, tail8 (UInt64.ofNat (L * 8)) = tl := ⟨_, rfl⟩
      have HTL := Lib.hid htl
      have HTN := Lib.hid (show tl.length = 8 by rw [← htl]; rfl)
      clear hl1 htl
      go_wp2
      go_loopw [28] (fun i wr => ∃ k : Nat, k ≤ 8 ∧ i = .int .i64 k ∧ Sx w wr r e l1 ∧ Bk wr b5 (bv (tl.take k ++ zer (8 - k))).toArray 160) (fun i _ => 8 - (intOf i).toNat)
      case atStart => exact ⟨0, by omega, rfl, HS6.out, H6.out⟩
      case round =>
        clear HS6 H6
        obtain ⟨k, hk, rfl, S, hb5⟩ := hrel
        have HS := Lib.hid S
        have H5 := Lib.hid hb5
        clear S hb5
        by_cases hlt : k < 8
        · have lk : (k : Int) < 8 := by omega
          have p1 : (0 : Int) ≤ 56 - 8 * (k : Int) := by omega
          have p2 : 56 - 8 * (k : Int) ≤ 64 := by omega
          go_wp2_with (with_reducible show wpList _ _ _ (Oper.mk _ (Op.store 5 _ _) _ _ _ _ :: _) _ _; go_must (refine wpList_store_w rfl 5 _ _ rfl b5 k rfl _ _ rfl _ _ H5.out info_su8 (by rw [bytes_size HTN.out (by omega)]; omega) ?_))
          intro w7 h7 hg7 hs7
          have H7 := Lib.hid (show Bk w7 b5 (bv (tl.take (k + 1) ++ zer (8 - (k + 1)))).toArray 160 from by
            rw [← splice_bytes k HTN.out hlt, ← HTL.out, ← tail8_int' L (by omega) k hlt]; rw [← HTL.out] at h7; exact h7)
          have HS7 := Lib.hid (HS.out.apart hg7 (by have := HE.out; omega) (by have := HB5.out; omega) hG (by have := HB5.out; have := HS.out.lt; omega))
          clear h7 hg7 hs7 HS H5 p1 p2
          go_wp2
          go_roundw
          case rel => first | exact ⟨k + 1, by omega, by go_num, HS7.out, H7.out⟩ | ((repeat apply Exists.intro); exact ⟨⟨k + 1, by omega, by go_num, HS7.out, H7.out⟩, rfl⟩)
          case measure => simp [intOf]; omega
        · have hk8 : k = 8 := by omega
          subst hk8
          clear hlt hk
          have HR7 := Lib.hid (show Rd wr (some ⟨b5, 0, none⟩) (bv tl) from Rd.of_bk H5.out 0 _ (fun j u hu => by
            rw [Nat.zero_add, List.getElem?_toArray]
            have e : tl.take 8 ++ zer (8 - 8) = tl := by rw [List.take_of_length_le (by rw [HTN.out]; exact Nat.le_refl _)]; simp [zer]
            rw [e]; exact hu))
          have HN7 := Lib.hid (show ∀ ad, some (⟨b5, 0, none⟩ : Addr) = some ad → ad.block ≠ e from fun ad h => by injection h with h; rw [← h]; have := HE.out; simp only; omega)
          go_wp2_with fail
          refine (write_any _ e l1 tl _ 8 8 HTN.out (by omega) HR7.out HN7.out HS.out.hs (by unfold room46; rw [HLM.out]; omega) HS.out.ad (Nat.lt_of_lt_of_le hG HS.out.be.size) (by have := HS.out.lt; omega)).mono ?_
          rintro en w8 ⟨rfl, hh8, hg8⟩
          have HS8 := Lib.hid (HS.out.write hg8 hh8 hG)
          clear hh8 hg8 HR7 HN7 HS H5
          go_wp2_with (with_reducible show wpList _ _ _ (Oper.mk _ (Op.alloc _) _ _ _ _ :: _) _ _; refine wpList_alloc_i rfl 29 rfl (.agg (bv (zer 32)).toArray) zero_hash ?_)
          intro b7 w9 h9 hl9 hg9 hs9
          have HS9 := Lib.hid (HS8.out.below hl9 hG)
          have H9 := Lib.hid h9
          have HE9 := Lib.hid (show e < b7 ∧ r < b7 ∧ w.heap.size ≤ b7 by have := HS8.out.lt; have := HS8.out.be.size; omega)
          clear h9 hl9 hg9 hs9 HS8
          obtain ⟨part9, hp9, hq9, hk9⟩ := HS9.out.hs
          obtain ⟨st, hst⟩ : ∃ st, eat comp begin256 (l1 ++ tl) = st := ⟨_, rfl⟩
          rw [hst] at hk9
          have HST := Lib.hid hst
          have HK9 := Lib.hid hk9
          have HP9 := Lib.hid hp9
          have HB9 := Lib.hid (st.bytes_len)
          clear hst hk9 hp9 hq9
          go_wp2_with (with_reducible show wpList _ _ _ (Oper.mk _ (Op.load 163 _) _ _ _ _ :: _) _ _; go_must (refine wpList_load_part rfl 163 _ rfl e 1 8 rfl _ _ _ HK9.out Tryd.underlying163 rfl info_state (by rw [hc_size HP9.out]; decide) _ (words_part _ _ _ _) ?_))
          go_loopw [44] (fun i wr => ∃ k : Nat, k ≤ 8 ∧ i = .int .i64 k ∧ Sx w wr r e (l1 ++ tl) ∧ Bk wr b7 (bv (st.bytes.take (4 * k) ++ zer (32 - 4 * k))).toArray 29) (fun i _ => 8 - (intOf i).toNat)
          case atStart => exact ⟨0, by omega, rfl, HS9.out, H9.out⟩
          case round =>
            clear HS9 H9 HK9
            obtain ⟨i, hi, rfl, S, hb7⟩ := hrel
            have HS := Lib.hid S
            have H7 := Lib.hid hb7
            clear S hb7
            by_cases hlt : i < 8
            · have li : (i : Int) < 8 := by omega
              obtain ⟨x, hx⟩ : ∃ x, st.list.getD i 0 = x := ⟨_, rfl⟩
              have HX := Lib.hid hx
              clear hx
              go_wp2_with (with_reducible show wpList _ _ _ (Oper.mk _ (Op.index _ _ _) _ _ _ _ :: _) _ _; go_must (refine wpList_exec rfl (exec_index8 st i hlt x HX.out rfl rfl rfl) ?_))
              obtain ⟨wo, hwo⟩ : ∃ wo : World, wo = wr := ⟨_, rfl⟩
              subst hwo
              go_loopw [48] (fun j wr => ∃ k : Nat, k ≤ 4 ∧ j = .int .i64 k ∧ Sx w wr r e (l1 ++ tl) ∧ Bk wr b7 (bv (st.bytes.take (4 * i + k) ++ zer (32 - (4 * i + k)))).toArray 29) (fun j _ => 4 - (intOf j).toNat)
              case atStart => exact ⟨0, by omega, rfl, HS.out, H7.out⟩
              case round =>
                clear HS H7
                obtain ⟨k, hk, rfl, S, hb7⟩ := hrel
                have HS := Lib.hid S
                have H7 := Lib.hid hb7
                clear S hb7
                by_cases hlk : k < 4
                · have lk : (k : Int) < 4 := by omega
                  have p1 : (0 : Int) ≤ 24 - 8 * (k : Int) := by omega
                  have p2 : 24 - 8 * (k : Int) ≤ 32 := by omega
                  have p3 : 4 * (i : Int) + k < 32 := by omega
                  go_wp2_with (with_reducible show wpList _ _ _ (Oper.mk _ (Op.store 5 _ _) _ _ _ _ :: _) _ _; go_must (refine wpList_store_w rfl 5 _ _ rfl b7 (4 * i + k) rfl _ _ rfl _ _ H7.out info_su8 (by rw [bytes_size HB9.out (by omega)]; omega) ?_))
                  intro w10 h10 hg10 hs10
                  have H10 := Lib.hid (show Bk w10 b7 (bv (st.bytes.take (4 * i + (k + 1)) ++ zer (32 - (4 * i + (k + 1))))).toArray 29 from by
                    rw [show 4 * i + (k + 1) = 4 * i + k + 1 by omega, ← splice_bytes (4 * i + k) HB9.out (by omega), bytes_at st i k hlt hlk, HX.out, ← byte4_int' x k hlk]
                    exact h10)
                  have HS10 := Lib.hid (HS.out.apart hg10 (by have := HE9.out; omega) (by have := HE9.out; omega) hG HE9.out.2.2)
                  clear h10 hg10 hs10 HS H7 p1 p2 p3
                  go_wp2
                  go_roundw
                  case rel => first | exact ⟨k + 1, by omega, by go_num, HS10.out, H10.out⟩ | ((repeat apply Exists.intro); exact ⟨⟨k + 1, by omega, by go_num, HS10.out, H10.out⟩, rfl⟩)
                  case measure => simp [intOf]; omega
                · have hk4 : k = 4 := by omega
                  subst hk4
                  clear hlk hk
                  go_wp2
                  go_roundw
                  case rel => first | exact ⟨i + 1, by omega, by go_num, HS.out, H7.out⟩ | ((repeat apply Exists.intro); exact ⟨⟨i + 1, by omega, by go_num, HS.out, H7.out⟩, rfl⟩)
                  case measure => simp [intOf]; omega
            · have hi8 : i = 8 := by omega
              subst hi8
              clear hlt hi
              have HF := Lib.hid (show Bk wr b7 (bv st.bytes).toArray 29 from by
                have e : st.bytes.take (4 * 8) ++ zer (32 - 4 * 8) = st.bytes := by rw [List.take_of_length_le (by rw [HB9.out]; exact Nat.le_refl _)]; simp [zer]
                rw [← e]; exact H7.out)
              have HZ := Lib.hid (show (bv st.bytes).toArray.size = 32 by rw [List.size_toArray, bv_length, HB9.out])
              go_wp2_with (first
                | (with_reducible show wpList _ _ _ (Oper.mk _ (Op.load 29 _) _ _ _ _ :: _) _ _; go_must (refine wpList_load_part rfl 29 _ rfl b7 0 32 rfl _ _ _ HF.out Tryd.underlying29 rfl info_h32 (by rw [HZ.out]; decide) _ (ext_all HZ.out) ?_))
                | (with_reducible show wpList _ _ _ (Oper.mk _ (Op.store 29 _ _) _ _ _ _ :: _) _ _; go_must (refine wpList_store_bk rfl 29 _ _ rfl r rfl (.agg (bv st.bytes).toArray) rfl _ _ HS.out.res (by rw [agg_sz HZ.out]; exact info_h32) (by rw [agg_sz HZ.out]; simp [bv, zer]) (by simpa [Value.cells] using bv_one st.bytes) ?_)))
              intro w11 h11 hg11 hs11
              have HB11 := Lib.hid (below_grown2 HS.out.be hg11 HS.out.lt.1 HS.out.be.size)
              have H11 := Lib.hid h11
              clear h11 hg11 hs11
              go_wp2
              have e : sha l = st.bytes := by
                rw [sha, ← HST.out, ← HL1.out, ← HTL.out, ← HLL.out]
                congr 1
                unfold shaPad zer
                simp only [List.append_assoc]
              rw [e]
              exact bodyPost_cell rfl rfl H11.out Tryd.underlying29 rfl info_h32 HZ.out.symm rfl ⟨rfl, HB11.out⟩
end Go.Proofs.YtjdegphpalhapaaDoor
namespace Go.Proofs.YtjdegphpalhapaaDoor
set_option linter.unusedSimpArgs false
set_option linter.unusedVariables false
open Go.RowKit
set_option maxRecDepth 100000

/-- a slice of bytes that lies in memory -/
structure Piece where
  A : Option Addr
  c : Nat
  b : List UInt8
def Piece.val (p : Piece) : Value := .slice p.A p.b.length p.c
structure Piece.ok (w : World) (p : Piece) : Prop where
  rd : Rd w p.A (bv p.b)
  le : p.b.length ≤ p.c
  lt : ∀ ad, p.A = some ad → ad.block < w.heap.size
theorem Piece.ok.below {w w' : World} {p : Piece} (h : p.ok w) (hb : Below w.heap.size w w') : p.ok w' := ⟨h.rd.below hb, h.le, fun ad ha => Nat.lt_of_lt_of_le (h.lt ad ha) hb.size⟩
def allOf (ps : List Piece) : List UInt8 := ps.flatMap Piece.b
/-- the tables of the digest -/
structure Tabs (w : World) : Prop where
  ad : Adds w 3
  bg : Begins w 1
  l1 : 3 < w.heap.size
  l2 : 1 < w.heap.size
theorem Tabs.below {w w' : World} (h : Tabs w) (hb : Below w.heap.size w w') : Tabs w' :=
  ⟨h.ad.below hb h.l1, h.bg.below hb h.l2, Nat.lt_of_lt_of_le h.l1 hb.size, Nat.lt_of_lt_of_le h.l2 hb.size⟩
theorem rd_below {w w' : World} {A : Option Addr} {xs : List Value} {B : Nat} (h : Rd w A xs) (hb : Below B w w') (hB : B = w.heap.size) : Rd w' A xs := by subst hB; exact h.below hb

set_option maxHeartbeats 2000000 in
theorem joined_any (w : World) (A : Option Addr) (n c : Nat) (ps : List Piece) (hn : ps.length = n) (hr : Rd w A (ps.map Piece.val)) (hp : ∀ p ∈ ps, p.ok w) (hl : (allOf ps).length + 200 ≤ room46) (ht : Tabs w) (hm : n ≤ 1000) :
    Calls Tryd.prog 80 #[.slice A n c] w fun e w' => e = .returned (.agg (bv (sha (allOf ps))).toArray) ∧ Below w.heap.size w w' := by
  have HN := Lib.hid hn
  have HR := Lib.hid hr
  have HP := Lib.hid hp
  have HL := Lib.hid hl
  have HT := Lib.hid ht
  have hG := ht.l1
  clear hn hr hp hl ht
  go_enter Tryd.func80, Tryd.ntmps80
  go_wp2_with (with_reducible show wpList _ _ _ (Oper.mk _ (Op.alloc _) _ _ _ _ :: _) _ _; refine wpList_alloc_i rfl 29 rfl (.agg (bv (zer 32)).toArray) zero_hash ?_)
  intro r w1 h1 hl1 hg1 hs1
  have HT1 := Lib.hid (HT.out.below hl1)
  have HL1 := Lib.hid hl1
  have H1 := Lib.hid h1
  clear h1 hl1
  go_wp2_with fail
  refine (New_any w1 HT1.out.bg).mono ?_
  rintro en w2 ⟨g, rfl, hh, hl2, hg2⟩
  have HS := Lib.hid (show Sx w w2 r g [] from ⟨H1.out.below hl2 H1.out.lt, hh, HT1.out.ad.below hl2 HT1.out.l1, HL1.out.trans (hl2.mono HL1.out.size), by
    obtain ⟨part, _, _, hk⟩ := hh
    have := hk.lt
    omega⟩)
  clear hh hl2 hg2 HT1 H1 HL1 hg1 hs1
  go_wp2
  go_loopw [9] (fun i wr => ∃ k : Nat, k ≤ n ∧ i = .int .i64 k ∧ Sx w wr r g (allOf (ps.take k))) (fun i _ => n - (intOf i).toNat)
  case atStart => exact ⟨0, by omega, rfl, by simpa [allOf] using HS.out⟩
  case round =>
    clear HS
    obtain ⟨k, hk, rfl, S⟩ := hrel
    have HS := Lib.hid S
    clear S
    by_cases hlt : k < n
    · have hkl : k < ps.length := by rw [HN.out]; exact hlt
      obtain ⟨p, hpk⟩ : ∃ p, ps[k]? = some p := ⟨_, List.getElem?_eq_getElem hkl⟩
      have hpe : ps.take (k + 1) = ps.take k ++ [p] := by
        rw [List.take_succ_eq_append_getElem hkl]
        congr 2
        have := List.getElem?_eq_getElem hkl
        rw [hpk] at this
        exact (Option.some.inj this).symm
      have hle : (allOf (ps.take k)).length + p.b.length + 200 ≤ room46 := by
        have h0 := HL.out
        have e : allOf ps = allOf (ps.take k) ++ (p.b ++ allOf (ps.drop (k + 1))) := by
          have : ps = ps.take k ++ (p :: ps.drop (k + 1)) := by
            conv => lhs; rw [← List.take_append_drop (k + 1) ps, hpe, List.append_assoc]
            rfl
          conv => lhs; rw [this]
          simp [allOf]
        rw [e] at h0
        simp only [List.length_append] at h0
        omega
      have hpm : p ∈ ps := List.mem_of_getElem? hpk
      have HPO := Lib.hid (HP.out p hpm)
      obtain ⟨ad, hA, hcell⟩ := HR.out.below HS.out.be k p.val (by rw [List.getElem?_map, hpk]; rfl)
      subst hA
      obtain ⟨Ap, cp, b⟩ := p
      obtain ⟨m, hm2⟩ : ∃ m, b.length = m := ⟨_, rfl⟩
      simp only [Piece.val, hm2] at hcell
      have HM := Lib.hid hm2
      have HPE := Lib.hid hpe
      have HLE := Lib.hid hle
      have lk : (k : Int) < n := by omega
      clear hkl hpk hpe hle hpm hm2
      go_wp2_with fail
      refine (write_any _ g (allOf (ps.take k)) b Ap m cp HM.out (by rw [← HM.out]; exact HPO.out.le) (HPO.out.rd.below HS.out.be) (fun ad h => by have := HPO.out.lt ad h; have := HS.out.lt; omega) HS.out.hs (by have h9 : (allOf (ps.take k)).length + b.length + 200 ≤ room46 := HLE.out; rw [← HM.out]; omega) HS.out.ad (Nat.lt_of_lt_of_le hG HS.out.be.size) (by have := HS.out.lt; omega)).mono ?_
      rintro en w5 ⟨rfl, hh5, hg5⟩
      have HS5 := Lib.hid (show Sx w w5 r g (allOf (ps.take (k + 1))) from by
        have e : allOf (ps.take (k + 1)) = allOf (ps.take k) ++ b := by rw [HPE.out]; simp [allOf]
        rw [e]
        exact HS.out.write hg5 hh5 hG)
      clear hh5 hg5 hcell HS
      go_wp2
      go_roundw
      case rel => first | exact ⟨k + 1, by omega, by go_num, HS5.out⟩ | ((repeat apply Exists.intro); exact ⟨⟨k + 1, by omega, by go_num, HS5.out⟩, rfl⟩)
      case measure => simp [intOf]; omega
    · have hkn : n = k := by omega
      subst hkn
      have e : ps.take n = ps := List.take_of_length_le (by rw [HN.out]; exact Nat.le_refl _)
      rw [e] at HS
      clear hlt hk e
      go_wp2_with fail
      refine (Sum_any _ g (allOf ps) HS.out.hs HL.out HS.out.ad (Nat.lt_of_lt_of_le hG HS.out.be.size)).mono ?_
      rintro en w6 ⟨rfl, hl6⟩
      have HS6 := Lib.hid (HS.out.below hl6 hG)
      have HZ := Lib.hid (show (bv (sha (allOf ps))).toArray.size = 32 by rw [List.size_toArray, bv_length, sha_len])
      clear hl6 HS
      go_wp2_with (with_reducible show wpList _ _ _ (Oper.mk _ (Op.store 29 _ _) _ _ _ _ :: _) _ _; go_must (refine wpList_store_bk rfl 29 _ _ rfl r rfl (.agg (bv (sha (allOf ps))).toArray) rfl _ _ HS6.out.res (by rw [agg_sz HZ.out]; exact info_h32) (by rw [agg_sz HZ.out]; simp [bv, zer]) (by simpa [Value.cells] using bv_one (sha (allOf ps))) ?_))
      intro w11 h11 hg11 hs11
      have HB11 := Lib.hid (below_grown2 HS6.out.be hg11 HS6.out.lt.1 HS6.out.be.size)
      have H11 := Lib.hid h11
      clear h11 hg11 hs11
      go_wp2
      exact bodyPost_cell rfl rfl H11.out Tryd.underlying29 rfl info_h32 HZ.out.symm rfl ⟨rfl, HB11.out⟩

set_option maxHeartbeats 1000000 in
theorem dSum_any (w : World) (p : Piece) (hp : p.ok w) (hl : p.b.length + 200 ≤ room46) (ht : Tabs w) :
    Calls Tryd.prog 45 #[p.val] w fun e w' => e = .returned (.agg (bv (sha p.b)).toArray) ∧ Below w.heap.size w w' := by
  obtain ⟨Ap, cp, b⟩ := p
  have HP := Lib.hid hp
  have HL := Lib.hid hl
  have HT := Lib.hid ht
  obtain ⟨m, hm⟩ : ∃ m, b.length = m := ⟨_, rfl⟩
  have HM := Lib.hid hm
  simp only [Piece.val, hm]
  clear hp hl ht hm
  go_enter Tryd.func45, Tryd.ntmps45
  go_wp2_with (with_reducible show wpList _ _ _ (Oper.mk _ (Op.alloc _) _ _ _ _ :: _) _ _; refine wpList_alloc_i rfl 29 rfl (.agg (bv (zer 32)).toArray) zero_hash ?_)
  intro r w1 h1 hl1 hg1 hs1
  have H1 := Lib.hid h1
  have HL1 := Lib.hid hl1
  clear h1 hl1
  go_wp2_with fail
  have HA2 := Lib.hid ((Below.refl w1.heap.size w1).alloc (Nat.le_refl _) (Obj.cells #[Value.slice Ap m cp] 57))
  have HT2 := Lib.hid ((HT.out.below HL1.out).below HA2.out)
  have HP2 := Lib.hid ((HP.out.below HL1.out).below HA2.out)
  have HR2 := Lib.hid (show Rd (w1.alloc (Obj.cells #[Value.slice Ap m cp] 57)) (some ⟨w1.heap.size, 0, none⟩) ([(⟨Ap, cp, b⟩ : Piece)].map Piece.val) from Rd.of_bk (Bk.new w1 _ _) 0 _ (fun j u hu => by rw [← HM.out]; simpa [Piece.val] using hu))
  have HE := Lib.hid (show allOf [(⟨Ap, cp, b⟩ : Piece)] = b by simp [allOf])
  refine (joined_any _ _ 1 1 [⟨Ap, cp, b⟩] rfl HR2.out (by intro p hp; rw [List.mem_singleton.1 hp]; exact HP2.out) (by rw [HE.out]; exact HL.out) HT2.out (by omega)).mono ?_
  rw [HE.out]
  rintro en w6 ⟨rfl, hl6⟩
  have H6 := Lib.hid ((H1.out.below HA2.out H1.out.lt).below hl6 (by have := H1.out.lt; simp; omega))
  have HL6 := Lib.hid (HL1.out.trans ((HA2.out.trans (hl6.mono (by simp))).mono HL1.out.size))
  have HZ := Lib.hid (show (bv (sha b)).toArray.size = 32 by rw [List.size_toArray, bv_length, sha_len])
  clear hl6 HT2 HP2 HR2 HA2
  go_wp2_with (with_reducible show wpList _ _ _ (Oper.mk _ (Op.store 29 _ _) _ _ _ _ :: _) _ _; go_must (refine wpList_store_bk rfl 29 _ _ rfl r rfl (.agg (bv (sha b)).toArray) rfl _ _ H6.out (by rw [agg_sz HZ.out]; exact info_h32) (by rw [agg_sz HZ.out]; simp [bv, zer]) (by simpa [Value.cells] using bv_one (sha b)) ?_))
  intro w11 h11 hg11 hs11
  have HB11 := Lib.hid (below_grown2 HL6.out hg11 hg1 HL6.out.size)
  have H11 := Lib.hid h11
  clear h11 hg11 hs11
  go_wp2
  exact bodyPost_cell rfl rfl H11.out Tryd.underlying29 rfl info_h32 HZ.out.symm rfl ⟨rfl, HB11.out⟩
end Go.Proofs.YtjdegphpalhapaaDoor

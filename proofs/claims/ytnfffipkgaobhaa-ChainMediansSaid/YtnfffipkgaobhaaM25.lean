/-
  The law's certificates and blocks: are they alike? Conditions: each number fits its kind; the lists lie in the world.
  The law's blocks, as they are handed in, with marks in the room behind each list. Conditions: each number fits its kind; the lists lie in the world.
  The law's blocks: is what lies behind the lists still there? Conditions: each number fits its kind; the marks lie behind the lists.
-/
import Derived.Test.YtnfffipkgaobhaaM24
namespace Go.Proofs.Ytnfffipkgaobhaa
set_option linter.unusedSimpArgs false
set_option linter.unusedVariables false
open Go.RowKit
set_option maxRecDepth 100000

section
variable {P : Program} {ops : Array Oper} {ks : List Known} {w : World} {a0 a : Act} {i : Nat} {d : Tmp}
theorem FreeStep.load_at {o : Oper} {x : Value} (ty : TypeId) (p : Operand) (ho : ops[i]? = some o) (hop : o.op = .load ty p) (hg : o.guard = none) (hd : o.dst = some d) (hs : decide (d < a.tmps.size) = true) (hf : a.defers = a0.defers) (hk : kat ks i = Is x)
    (ad : Addr) (n : Nat) (hx : a.eval p = .pointer (some ad)) (vs : List Value) (hc : ∀ j v, vs[j]? = some v → w.cell? (ad.add j) = some v) (td : TypeDesc) (hu : P.underlying ty = some td) (hda : aggD td = true) (hi : (P.info? ty).map (·.size) = some n) (hn : vs.length = n)
    (hxv : x = .agg vs.toArray) : FreeStep P ops ks w a0 i d [] a := by
  refine FreeStep.det ho hg hd hs hf hk ?_
  have hl : (loadCells ad vs.length).run P w = .ok vs.toArray w := run_loadCells_list (P := P) w ad vs hc
  rw [hn] at hl
  have hagg : (isAgg ty).run P w = .ok true w := by
    rw [run_isAgg hu w]
    congr 1
    unfold isAggT
    rw [hu]
    cases td <;> simp [aggD] at hda ⊢
  have hv : (loadVar ty ad).run P w = .ok (.agg vs.toArray) w := by
    simp [loadVar, Sem.run_bind, hagg, run_sizeOf' hi, hl]
  unfold execOp
  simp only [hop, hx, Instr.loadAt, Instr.sureAddr, Sem.run_bind, Sem.run_pure, Result.andThen_ok, hv, hxv]
end
theorem cell_keepB {w0 w' : World} {p : Addr} {u : Value} (h : w0.cell? p = some u) (hb : Below w0.heap.size w0.drew w') : w'.cell? p = some u :=
  cell_keep (w := w0.drew) h hb
theorem flat_Mk : flat Try.prog 3 50 = some ([.int .i64, .int .u64] ++ List.replicate 16 (.int .u8)) := by kernel_rfl
theorem agg_Mk : isAggT Try.prog 50 = true := by kernel_rfl
theorem guard_Mk : Try.prog.eqGuardType Try.prog.depth 50 = false := by kernel_rfl
theorem fits_Mk {m : Mk} (h : m.ok) : Fits ([.int .i64, .int .u64] ++ List.replicate 16 (.int .u8)) m.cl := Fits.app ⟨rfl, rfl, trivial⟩ (by rw [← h.sl]; exact Fits.bytes m.sl)

end Go.Proofs.Ytnfffipkgaobhaa
namespace Go.Proofs.Ytnfffipkgaobhaa
set_option linter.unusedSimpArgs false
set_option linter.unusedVariables false
open Go.RowKit
set_option maxRecDepth 100000

/-- a block; its transfers lie at tA, its evidence at eA -/
structure Blk where
  hd : Hdr
  tA : Option Addr
  tn : Nat
  tc : Nat
  ts : List Tx
  eA : Option Addr
  en : Nat
  ec : Nat
  es : List Ev
  ct : Crt
def Blk.cl (x : Blk) : List Value := x.hd.cl ++ ([.slice x.tA x.tn x.tc, .slice x.eA x.en x.ec] ++ x.ct.cl)
structure Blk.ok (x : Blk) : Prop where
  hd : x.hd.ok
  tn : x.tn = x.ts.length
  ts : ∀ t ∈ x.ts, t.ok
  tb : x.tn * 64 ≤ 140737488351232
  en : x.en = x.es.length
  es : ∀ e ∈ x.es, e.ok
  eb : x.en * 176 ≤ 140737488351232
  ct : x.ct.ok
  cb : x.ct.n * 32 ≤ 140737488351232
structure Blk.at (x : Blk) (w : World) : Prop where
  t : Rd w x.tA (x.ts.flatMap Tx.cl)
  e : Rd w x.eA (x.es.flatMap Ev.cl)
  c : x.ct.at w
theorem Blk.at.below {x : Blk} {w w' : World} (h : x.at w) (hb : Below w.heap.size w w') : x.at w' := ⟨h.t.below hb, h.e.below hb, Rd.below (xs := x.ct.ms.flatMap Mk.cl) h.c hb⟩
section
variable {H C : List Value} {a b : Value}
theorem bl_1 (a' : Value) (hH : H.length = 228) : splice (H ++ ([a, b] ++ C)).toArray 228 [a'] = (H ++ ([a', b] ++ C)).toArray :=
  splice_mid (xs := H) (ys := [a]) (zs := [b] ++ C) (ws := [a']) hH rfl
theorem bl_2 (b' : Value) (hH : H.length = 228) : splice (H ++ ([a, b] ++ C)).toArray 229 [b'] = (H ++ ([a, b'] ++ C)).toArray := by
  have := splice_mid (xs := H ++ [a]) (ys := [b]) (zs := C) (ws := [b']) (n := 229) (by simp [hH]) rfl
  simpa using this
theorem bl_3 (C' : List Value) (hH : H.length = 228) (hC : C'.length = C.length) : splice (H ++ ([a, b] ++ C)).toArray 230 C' = (H ++ ([a, b] ++ C')).toArray := by
  have := splice_mid (xs := H ++ [a, b]) (ys := C) (zs := []) (ws := C') (n := 230) (by simp [hH]) hC
  simpa using this
theorem bl_at1 (hH : H.length = 228) : (H ++ ([a, b] ++ C)).toArray[228]? = some a := by
  rw [List.getElem?_toArray, List.getElem?_append_right (by omega), hH]; rfl
theorem bl_at2 (hH : H.length = 228) : (H ++ ([a, b] ++ C)).toArray[229]? = some b := by
  rw [List.getElem?_toArray, List.getElem?_append_right (by omega), hH]; rfl
theorem bl_ex (hH : H.length = 228) (hC : C.length = 35) : (H ++ ([a, b] ++ C)).toArray.extract 230 (230 + 35) = C.toArray := by
  refine extract_cl _ _ _ _ ?_
  have e : (H ++ ([a, b] ++ C)).drop 230 = C := by
    rw [show H ++ ([a, b] ++ C) = (H ++ [a, b]) ++ C by simp, List.drop_left' (by simp [hH])]
  rw [e, show 230 + 35 - 230 = C.length by omega, List.take_length]
theorem bl_hd (hH : H.length = 228) : (H ++ ([a, b] ++ C)).toArray.extract 0 (0 + 228) = H.toArray := by
  refine extract_cl _ _ _ _ ?_
  rw [List.drop_zero, show 0 + 228 - 0 = H.length by omega, List.take_left]
theorem bl_len (hH : H.length = 228) (hC : C.length = 35) : (H ++ ([a, b] ++ C)).length = 265 := by simp [hH, hC]
end
def tagTx (i : Nat) : List Value := [.int .i64 0, .int .u64 0, .int .u64 0, .int .u64 0, .int .u64 (7700 + (i : Int)), .int .u64 0] ++ bv (zer 16)
def tagVote (i : Nat) : List Value := [.int .i64 0, .int .u64 0, .int .i64 0] ++ bv (zer 32) ++ [.int .u64 (7700 + (i : Int)), .int .u64 0] ++ bv (zer 16)
def tagEv (i : Nat) : List Value := tagVote i ++ zeroVote
theorem tagTx_len (i : Nat) : (tagTx i).length = 22 := rfl
theorem tagEv_len (i : Nat) : (tagEv i).length = 106 := rfl
theorem built_tagTx (t : Int) : Try.prog.built 55 [(4, .int .u64 t)] = some ([Value.int .i64 0, .int .u64 0, .int .u64 0, .int .u64 0, .int .u64 t, .int .u64 0] ++ bv (zer 16)).toArray := by kernel_rfl
theorem built_tagVote (t : Int) : Try.prog.built 57 [(4, .int .u64 t)] = some ([Value.int .i64 0, .int .u64 0, .int .i64 0] ++ bv (zer 32) ++ [Value.int .u64 t, .int .u64 0] ++ bv (zer 16)).toArray := by kernel_rfl
theorem built_tagEv (i : Nat) : Try.prog.built 59 [(0, .agg (tagVote i).toArray)] = some (tagEv i).toArray := by kernel_rfl
theorem int_one (l : List Value) (h : ∀ u ∈ l, ∃ k n, u = .int k n) : ∀ u ∈ l, u.oneCell' = true := fun u hu => by
  obtain ⟨k, n, rfl⟩ := h u hu; rfl
theorem bv_int (l : List UInt8) : ∀ u ∈ bv l, ∃ k n, u = .int k n := fun u hu => by
  obtain ⟨b, _, rfl⟩ := List.mem_map.1 hu; exact ⟨_, _, rfl⟩
theorem tagTx_one (i : Nat) : ∀ u ∈ tagTx i, u.oneCell' = true := int_one _ (fun u hu => by
  simp only [tagTx, List.mem_append, List.mem_cons, List.not_mem_nil, or_false] at hu
  rcases hu with (rfl | rfl | rfl | rfl | rfl | rfl) | hu
  all_goals first | exact ⟨_, _, rfl⟩ | exact bv_int _ u hu)
theorem vote_int (l m : List UInt8) (a b c d e : Value) (h : ∀ u ∈ [a, b, c, d, e], ∃ k n, u = Value.int k n) : ∀ u ∈ [a, b, c] ++ bv l ++ [d, e] ++ bv m, ∃ k n, u = .int k n := fun u hu => by
  simp only [List.mem_append, List.mem_cons, List.not_mem_nil, or_false] at hu
  rcases hu with ((hu | hu) | hu) | hu
  · exact h u (by simp only [List.mem_cons]; rcases hu with rfl | rfl | rfl <;> simp)
  · exact bv_int _ u hu
  · exact h u (by simp only [List.mem_cons]; rcases hu with rfl | rfl <;> simp)
  · exact bv_int _ u hu
theorem five_int (k1 k2 k3 k4 k5 : IntKind) (n1 n2 n3 n4 n5 : Int) : ∀ u ∈ [Value.int k1 n1, .int k2 n2, .int k3 n3, .int k4 n4, .int k5 n5], ∃ k n, u = Value.int k n := fun u hu => by
  simp only [List.mem_cons, List.not_mem_nil, or_false] at hu
  rcases hu with rfl | rfl | rfl | rfl | rfl <;> exact ⟨_, _, rfl⟩
theorem tagEv_one (i : Nat) : ∀ u ∈ tagEv i, u.oneCell' = true := int_one _ (fun u hu => by
  rcases List.mem_append.1 hu with hu | hu
  · exact vote_int _ _ _ _ _ _ _ (five_int _ _ _ _ _ _ _ _ _ _) u hu
  · exact vote_int _ _ _ _ _ _ _ (five_int _ _ _ _ _ _ _ _ _ _) u hu)
theorem txs_one (xs : List Tx) : ∀ u ∈ xs.flatMap Tx.cl, u.oneCell' = true := by
  intro u hu
  obtain ⟨m, _, hm⟩ := List.mem_flatMap.1 hu
  exact tx_one m u (by simpa [Value.cells] using hm)
theorem evs_one (xs : List Ev) : ∀ u ∈ xs.flatMap Ev.cl, u.oneCell' = true := by
  intro u hu
  obtain ⟨m, _, hm⟩ := List.mem_flatMap.1 hu
  exact ev_one m u (by simpa [Value.cells] using hm)
def ttags (k : Nat) : List Value := (List.range k).flatMap tagTx
def etags (k : Nat) : List Value := (List.range k).flatMap tagEv
theorem ttags_succ (k : Nat) : ttags (k + 1) = ttags k ++ tagTx k := by simp [ttags, List.range_succ]
theorem etags_succ (k : Nat) : etags (k + 1) = etags k ++ tagEv k := by simp [etags, List.range_succ]
theorem info_Tx3 : (Try.prog.info? 55).map (fun i => (i.zero, i.size, i.bytes)) = some (some (.agg zeroTxC.toArray), 22, 64) := by kernel_rfl
theorem info_Ev3 : (Try.prog.info? 59).map (fun i => (i.zero, i.size, i.bytes)) = some (some (.agg zeroEvC.toArray), 106, 176) := by kernel_rfl
theorem info_slTx : (Try.prog.info? 35).map (·.size) = some 1 := by kernel_rfl
theorem info_slEv : (Try.prog.info? 36).map (·.size) = some 1 := by kernel_rfl
def zeroBlkC : List Value := ([.string ByteArray.empty, .int .u64 0, .int .u64 0] ++ bv (zer 224) ++ [.int .u64 0]) ++ ([.slice none 0 0, .slice none 0 0] ++ zeroCrtC)
theorem zero_BlkC : (Try.prog.info? 38).bind (·.zero) = some (.agg zeroBlkC.toArray) := by kernel_rfl
theorem zeroBlkC_len : zeroBlkC.length = 265 := rfl
theorem info_Blk : (Try.prog.info? 38).map (·.size) = some 265 := by kernel_rfl
structure Blk.lent (x : Blk) (w : World) : Prop where
  tA : ∃ g, x.tA = some ⟨g, 0, none⟩
  tc : x.tn + 2 ≤ x.tc
  tr : Rd w x.tA (x.ts.flatMap Tx.cl ++ ttags 2)
  eA : ∃ g, x.eA = some ⟨g, 0, none⟩
  ec : x.en + 2 ≤ x.ec
  er : Rd w x.eA (x.es.flatMap Ev.cl ++ etags 2)
  ct : x.ct.lent w
def Blk.alike (x : Blk) (tA : Option Addr) (tc : Nat) (eA : Option Addr) (ec : Nat) (cA : Option Addr) (cc : Nat) : Blk := { x with tA := tA, tc := tc, eA := eA, ec := ec, ct := { x.ct with A := cA, c := cc } }
theorem hdr_one (x : Hdr) : ∀ u ∈ x.cl, u.oneCell' = true := by
  intro u hu
  simp only [Hdr.cl, List.mem_append, List.mem_cons, List.not_mem_nil, or_false] at hu
  rcases hu with ((rfl | rfl | rfl) | hu) | rfl
  all_goals first | rfl | exact bv_one _ u (by simpa [Value.cells] using hu)
theorem blk_one (x : Blk) : ∀ u ∈ (Value.agg x.cl.toArray).cells.toList, u.oneCell' = true := by
  intro u hu
  have hu' : u ∈ x.cl := by simpa [Value.cells] using hu
  simp only [Blk.cl, List.mem_append, List.mem_cons, List.not_mem_nil, or_false] at hu'
  rcases hu' with h | (rfl | rfl) | h
  · exact hdr_one _ u h
  · rfl
  · rfl
  · exact crt_one x.ct u (by simpa [Value.cells] using h)
theorem own_slice {w : World} {B : Nat} {e : TypeId} {size n : Nat} {v : Value} {xs : List Value} (h : w.ownsRow B e size v n xs) (hn : 0 < n) : ∃ g c, v = .slice (some ⟨g, 0, none⟩) n c ∧ n ≤ c ∧ B ≤ g ∧ g < w.heap.size := by
  rcases h.2 with ⟨_, h2⟩ | ⟨g', cap, cur, h1, hb, hh, h2, _⟩
  · omega
  · exact ⟨g', cap, h1, h2, hb, (Array.getElem?_eq_some_iff.1 hh).1⟩

theorem crt_lent_grown {x : Crt} {w w' : World} {row : Option Nat} (h : x.lent w) (hg : w.grownBy w' row) (hn : ∀ ad, x.A = some ad → row ≠ some ad.block) : x.lent w' := ⟨h.A, h.c, rd_grown h.rd hg hn⟩

end Go.Proofs.Ytnfffipkgaobhaa
namespace Go.Proofs.Ytnfffipkgaobhaa
set_option linter.unusedSimpArgs false
set_option linter.unusedVariables false
open Go.RowKit
set_option maxRecDepth 100000

theorem Blk.lent.below {x : Blk} {w w' : World} (h : x.lent w) (hb : Below w.heap.size w w') : x.lent w' := ⟨h.tA, h.tc, h.tr.below hb, h.eA, h.ec, h.er.below hb, h.ct.A, h.ct.c, h.ct.rd.below hb⟩

end Go.Proofs.Ytnfffipkgaobhaa

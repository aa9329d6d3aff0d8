/-
  The law's blocks, as they are handed in, with marks in the room behind each list. Conditions: each number fits its kind; the lists lie in the world.
  The law's blocks: is what lies behind the lists still there? Conditions: each number fits its kind; the marks lie behind the lists.
-/
import Derived.Test.YtjdegphpalhapaaDoorK36
namespace Go.Proofs.YtjdegphpalhapaaDoor
set_option linter.unusedSimpArgs false
set_option linter.unusedVariables false
open Go.RowKit
set_option maxRecDepth 100000

/-- a block; its transfers lie at tA, its evidence at eA -/
structure Blk where
  hd : Hdr
  tA : Option Addr
  tn : Nat
  tc : Nat
  ts : List Tx
  eA : Option Addr
  en : Nat
  ec : Nat
  es : List Ev
  ct : Crt
def Blk.cl (x : Blk) : List Value := x.hd.cl ++ ([.slice x.tA x.tn x.tc, .slice x.eA x.en x.ec] ++ x.ct.cl)
structure Blk.ok (x : Blk) : Prop where
  hd : x.hd.ok
  tn : x.tn = x.ts.length
  ts : ∀ t ∈ x.ts, t.ok
  tb : x.tn * 64 ≤ 140737488351232
  en : x.en = x.es.length
  es : ∀ e ∈ x.es, e.ok
  eb : x.en * 176 ≤ 140737488351232
  ct : x.ct.ok
  cb : x.ct.n * 32 ≤ 140737488351232
structure Blk.at (x : Blk) (w : World) : Prop where
  t : Rd w x.tA (x.ts.flatMap Tx.cl)
  e : Rd w x.eA (x.es.flatMap Ev.cl)
  c : x.ct.at w
theorem Blk.at.below {x : Blk} {w w' : World} (h : x.at w) (hb : Below w.heap.size w w') : x.at w' := ⟨h.t.below hb, h.e.below hb, Rd.below (xs := x.ct.ms.flatMap Mk.cl) h.c hb⟩
section
variable {H C : List Value} {a b : Value}
theorem bl_1 (a' : Value) (hH : H.length = 228) : splice (H ++ ([a, b] ++ C)).toArray 228 [a'] = (H ++ ([a', b] ++ C)).toArray :=
  splice_mid (xs := H) (ys := [a]) (zs := [b] ++ C) (ws := [a']) hH rfl
theorem bl_2 (b' : Value) (hH : H.length = 228) : splice (H ++ ([a, b] ++ C)).toArray 229 [b'] = (H ++ ([a, b'] ++ C)).toArray := by
  have := splice_mid (xs := H ++ [a]) (ys := [b]) (zs := C) (ws := [b']) (n := 229) (by simp [hH]) rfl
  simpa using this
theorem bl_3 (C' : List Value) (hH : H.length = 228) (hC : C'.length = C.length) : splice (H ++ ([a, b] ++ C)).toArray 230 C' = (H ++ ([a, b] ++ C')).toArray := by
  have := splice_mid (xs := H ++ [a, b]) (ys := C) (zs := []) (ws := C') (n := 230) (by simp [hH]) hC
  simpa using this
theorem bl_at1 (hH : H.length = 228) : (H ++ ([a, b] ++ C)).toArray[228]? = some a := by
  rw [List.getElem?_toArray, List.getElem?_append_right (by omega), hH]; rfl
theorem bl_at2 (hH : H.length = 228) : (H ++ ([a, b] ++ C)).toArray[229]? = some b := by
  rw [List.getElem?_toArray, List.getElem?_append_right (by omega), hH]; rfl
theorem bl_ex (hH : H.length = 228) (hC : C.length = 35) : (H ++ ([a, b] ++ C)).toArray.extract 230 (230 + 35) = C.toArray := by
  refine extract_cl _ _ _ _ ?_
  have e : (H ++ ([a, b] ++ C)).drop 230 = C := by
    rw [show H ++ ([a, b] ++ C) = (H ++ [a, b]) ++ C by simp, List.drop_left' (by simp [hH])]
  rw [e, show 230 + 35 - 230 = C.length by omega, List.take_length]
theorem bl_hd (hH : H.length = 228) : (H ++ ([a, b] ++ C)).toArray.extract 0 (0 + 228) = H.toArray := by
  refine extract_cl _ _ _ _ ?_
  rw [List.drop_zero, show 0 + 228 - 0 = H.length by omega, List.take_left]
theorem bl_len (hH : H.length = 228) (hC : C.length = 35) : (H ++ ([a, b] ++ C)).length = 265 := by simp [hH, hC]
end
def tagTx (i : Nat) : List Value := [.int .i64 0, .int .u64 0, .int .u64 0, .int .u64 0, .int .u64 (7700 + (i : Int)), .int .u64 0] ++ bv (zer 16)
def tagVote (i : Nat) : List Value := [.int .i64 0, .int .u64 0, .int .i64 0] ++ bv (zer 32) ++ [.int .u64 (7700 + (i : Int)), .int .u64 0] ++ bv (zer 16)
def tagEv (i : Nat) : List Value := tagVote i ++ zeroVote
theorem tagTx_len (i : Nat) : (tagTx i).length = 22 := rfl
theorem tagEv_len (i : Nat) : (tagEv i).length = 106 := rfl
theorem built_tagTx (t : Int) : Tryd.prog.built 27 [(4, .int .u64 t)] = some ([Value.int .i64 0, .int .u64 0, .int .u64 0, .int .u64 0, .int .u64 t, .int .u64 0] ++ bv (zer 16)).toArray := by kernel_rfl
theorem built_tagVote (t : Int) : Tryd.prog.built 73 [(4, .int .u64 t)] = some ([Value.int .i64 0, .int .u64 0, .int .i64 0] ++ bv (zer 32) ++ [Value.int .u64 t, .int .u64 0] ++ bv (zer 16)).toArray := by kernel_rfl
theorem built_tagEv (i : Nat) : Tryd.prog.built 75 [(0, .agg (tagVote i).toArray)] = some (tagEv i).toArray := by kernel_rfl
theorem int_one (l : List Value) (h : ∀ u ∈ l, ∃ k n, u = .int k n) : ∀ u ∈ l, u.oneCell' = true := fun u hu => by
  obtain ⟨k, n, rfl⟩ := h u hu; rfl
theorem bv_int (l : List UInt8) : ∀ u ∈ bv l, ∃ k n, u = .int k n := fun u hu => by
  obtain ⟨b, _, rfl⟩ := List.mem_map.1 hu; exact ⟨_, _, rfl⟩
theorem tagTx_one (i : Nat) : ∀ u ∈ tagTx i, u.oneCell' = true := int_one _ (fun u hu => by
  simp only [tagTx, List.mem_append, List.mem_cons, List.not_mem_nil, or_false] at hu
  rcases hu with (rfl | rfl | rfl | rfl | rfl | rfl) | hu
  all_goals first | exact ⟨_, _, rfl⟩ | exact bv_int _ u hu)
theorem vote_int (l m : List UInt8) (a b c d e : Value) (h : ∀ u ∈ [a, b, c, d, e], ∃ k n, u = Value.int k n) : ∀ u ∈ [a, b, c] ++ bv l ++ [d, e] ++ bv m, ∃ k n, u = .int k n := fun u hu => by
  simp only [List.mem_append, List.mem_cons, List.not_mem_nil, or_false] at hu
  rcases hu with ((hu | hu) | hu) | hu
  · exact h u (by simp only [List.mem_cons]; rcases hu with rfl | rfl | rfl <;> simp)
  · exact bv_int _ u hu
  · exact h u (by simp only [List.mem_cons]; rcases hu with rfl | rfl <;> simp)
  · exact bv_int _ u hu
theorem five_int (k1 k2 k3 k4 k5 : IntKind) (n1 n2 n3 n4 n5 : Int) : ∀ u ∈ [Value.int k1 n1, .int k2 n2, .int k3 n3, .int k4 n4, .int k5 n5], ∃ k n, u = Value.int k n := fun u hu => by
  simp only [List.mem_cons, List.not_mem_nil, or_false] at hu
  rcases hu with rfl | rfl | rfl | rfl | rfl <;> exact ⟨_, _, rfl⟩
theorem tagEv_one (i : Nat) : ∀ u ∈ tagEv i, u.oneCell' = true := int_one _ (fun u hu => by
  rcases List.mem_append.1 hu with hu | hu
  · exact vote_int _ _ _ _ _ _ _ (five_int _ _ _ _ _ _ _ _ _ _) u hu
  · exact vote_int _ _ _ _ _ _ _ (five_int _ _ _ _ _ _ _ _ _ _) u hu)
theorem txs_one (xs : List Tx) : ∀ u ∈ xs.flatMap Tx.cl, u.oneCell' = true := by
  intro u hu
  obtain ⟨m, _, hm⟩ := List.mem_flatMap.1 hu
  exact tx_one m u (by simpa [Value.cells] using hm)
theorem evs_one (xs : List Ev) : ∀ u ∈ xs.flatMap Ev.cl, u.oneCell' = true := by
  intro u hu
  obtain ⟨m, _, hm⟩ := List.mem_flatMap.1 hu
  exact ev_one m u (by simpa [Value.cells] using hm)
def ttags (k : Nat) : List Value := (List.range k).flatMap tagTx
def etags (k : Nat) : List Value := (List.range k).flatMap tagEv
theorem ttags_succ (k : Nat) : ttags (k + 1) = ttags k ++ tagTx k := by simp [ttags, List.range_succ]
theorem etags_succ (k : Nat) : etags (k + 1) = etags k ++ tagEv k := by simp [etags, List.range_succ]
theorem info_Tx3 : (Tryd.prog.info? 27).map (fun i => (i.zero, i.size, i.bytes)) = some (some (.agg zeroTxC.toArray), 22, 64) := by kernel_rfl
theorem info_Ev3 : (Tryd.prog.info? 75).map (fun i => (i.zero, i.size, i.bytes)) = some (some (.agg zeroEvC.toArray), 106, 176) := by kernel_rfl
theorem info_slTx : (Tryd.prog.info? 46).map (·.size) = some 1 := by kernel_rfl
theorem info_slEv : (Tryd.prog.info? 47).map (·.size) = some 1 := by kernel_rfl
def zeroBlkC : List Value := ([.string ByteArray.empty, .int .u64 0, .int .u64 0] ++ bv (zer 224) ++ [.int .u64 0]) ++ ([.slice none 0 0, .slice none 0 0] ++ zeroCrtC)
theorem zero_BlkC : (Tryd.prog.info? 49).bind (·.zero) = some (.agg zeroBlkC.toArray) := by kernel_rfl
theorem zeroBlkC_len : zeroBlkC.length = 265 := rfl
theorem info_Blk : (Tryd.prog.info? 49).map (·.size) = some 265 := by kernel_rfl
structure Blk.lent (x : Blk) (w : World) : Prop where
  tA : ∃ g, x.tA = some ⟨g, 0, none⟩
  tc : x.tn + 2 ≤ x.tc
  tr : Rd w x.tA (x.ts.flatMap Tx.cl ++ ttags 2)
  eA : ∃ g, x.eA = some ⟨g, 0, none⟩
  ec : x.en + 2 ≤ x.ec
  er : Rd w x.eA (x.es.flatMap Ev.cl ++ etags 2)
  ct : x.ct.lent w
def Blk.alike (x : Blk) (tA : Option Addr) (tc : Nat) (eA : Option Addr) (ec : Nat) (cA : Option Addr) (cc : Nat) : Blk := { x with tA := tA, tc := tc, eA := eA, ec := ec, ct := { x.ct with A := cA, c := cc } }
theorem hdr_one (x : Hdr) : ∀ u ∈ x.cl, u.oneCell' = true := by
  intro u hu
  simp only [Hdr.cl, List.mem_append, List.mem_cons, List.not_mem_nil, or_false] at hu
  rcases hu with ((rfl | rfl | rfl) | hu) | rfl
  all_goals first | rfl | exact bv_one _ u (by simpa [Value.cells] using hu)
theorem blk_one (x : Blk) : ∀ u ∈ (Value.agg x.cl.toArray).cells.toList, u.oneCell' = true := by
  intro u hu
  have hu' : u ∈ x.cl := by simpa [Value.cells] using hu
  simp only [Blk.cl, List.mem_append, List.mem_cons, List.not_mem_nil, or_false] at hu'
  rcases hu' with h | (rfl | rfl) | h
  · exact hdr_one _ u h
  · rfl
  · rfl
  · exact crt_one x.ct u (by simpa [Value.cells] using h)
theorem own_slice {w : World} {B : Nat} {e : TypeId} {size n : Nat} {v : Value} {xs : List Value} (h : w.ownsRow B e size v n xs) (hn : 0 < n) : ∃ g c, v = .slice (some ⟨g, 0, none⟩) n c ∧ n ≤ c ∧ B ≤ g ∧ g < w.heap.size := by
  rcases h.2 with ⟨_, h2⟩ | ⟨g', cap, cur, h1, hb, hh, h2, _⟩
  · omega
  · exact ⟨g', cap, h1, h2, hb, (Array.getElem?_eq_some_iff.1 hh).1⟩

theorem crt_lent_grown {x : Crt} {w w' : World} {row : Option Nat} (h : x.lent w) (hg : w.grownBy w' row) (hn : ∀ ad, x.A = some ad → row ≠ some ad.block) : x.lent w' := ⟨h.A, h.c, rd_grown h.rd hg hn⟩

set_option maxHeartbeats 8000000 in
theorem lentBlock_any (w : World) (x : Blk) (hx : x.ok) (hat : x.at w) :
    Calls Tryd.prog 12 #[.agg x.cl.toArray] w fun e w' => ∃ tA tc eA ec cA cc, e = .returned (.agg (x.alike tA tc eA ec cA cc).cl.toArray) ∧ (x.alike tA tc eA ec cA cc).lent w' ∧ Below w.heap.size w w' := by
  have HX := Lib.hid hx
  have HAT := Lib.hid hat
  obtain ⟨H, hH⟩ : ∃ H, x.hd.cl = H := ⟨_, rfl⟩
  obtain ⟨C, hC⟩ : ∃ C, x.ct.cl = C := ⟨_, rfl⟩
  have LH := Lib.hid (show H.length = 228 by rw [← hH]; exact x.hd.cl_len hx.hd)
  have LC := Lib.hid (show C.length = 35 by rw [← hC]; exact x.ct.cl_len hx.ct)
  have HHH := Lib.hid hH
  have HCC := Lib.hid hC
  obtain ⟨n, hn⟩ : ∃ n, x.tn = n := ⟨_, rfl⟩
  obtain ⟨m, hm⟩ : ∃ m, x.en = m := ⟨_, rfl⟩
  obtain ⟨tA, htA⟩ : ∃ A, x.tA = A := ⟨_, rfl⟩
  obtain ⟨eA, heA⟩ : ∃ A, x.eA = A := ⟨_, rfl⟩
  obtain ⟨tc, htc⟩ : ∃ c, x.tc = c := ⟨_, rfl⟩
  obtain ⟨ec, hec⟩ : ∃ c, x.ec = c := ⟨_, rfl⟩
  obtain ⟨TL, hTL⟩ : ∃ L, x.ts.flatMap Tx.cl = L := ⟨_, rfl⟩
  obtain ⟨EL, hEL⟩ : ∃ L, x.es.flatMap Ev.cl = L := ⟨_, rfl⟩
  have HTLL := Lib.hid (show TL.length = n * 22 by rw [← hTL, fl_len x.ts (fun t h => t.cl_len (hx.ts t h)), ← hx.tn, hn])
  have HELL := Lib.hid (show EL.length = m * 106 by rw [← hEL, fl_len x.es (fun t h => t.cl_len (hx.es t h)), ← hx.en, hm])
  have HTO := Lib.hid (show ∀ u ∈ TL, u.oneCell' = true by rw [← hTL]; exact txs_one _)
  have HEO := Lib.hid (show ∀ u ∈ EL, u.oneCell' = true by rw [← hEL]; exact evs_one _)
  have HTR := Lib.hid (show Rd w tA TL by rw [← hTL, ← htA]; exact hat.t)
  have HER := Lib.hid (show Rd w eA EL by rw [← hEL, ← heA]; exact hat.e)
  have HTB := Lib.hid (show n * 64 ≤ 140737488351232 by rw [← hn]; exact hx.tb)
  have HEB := Lib.hid (show m * 176 ≤ 140737488351232 by rw [← hm]; exact hx.eb)
  have HCL := Lib.hid (show x.cl = H ++ ([Value.slice tA n tc, Value.slice eA m ec] ++ C) by unfold Blk.cl; rw [hH, hC, hn, hm, htA, heA, htc, hec])
  have HFIN := Lib.hid (show ∀ a b c d e f, (x.alike a b c d e f).cl = H ++ ([Value.slice a n b, Value.slice c m d] ++ ({ x.ct with A := e, c := f } : Crt).cl) from fun a b c d e f => by unfold Blk.alike Blk.cl; simp only [hH, hn, hm])
  have HCALL := Lib.hid (show ∀ w', Below w.heap.size w w' → Calls Tryd.prog 33 #[.agg C.toArray] w' fun e w'' => ∃ A c, e = .returned (.agg ({ x.ct with A := A, c := c } : Crt).cl.toArray) ∧ ({ x.ct with A := A, c := c } : Crt).lent w'' ∧ Below w'.heap.size w' w'' ∧ ∃ g, A = some ⟨g, 0, none⟩ ∧ w'.heap.size ≤ g from fun w' hb => by rw [← hC]; exact lentCert_any w' x.ct hx.ct (Rd.below (xs := x.ct.ms.flatMap Mk.cl) hat.c hb) hx.cb)
  have HTLE := Lib.hid hTL
  have HELE := Lib.hid hEL
  have HNN := Lib.hid hn
  have HMM := Lib.hid hm
  rw [HCL.out]
  clear hx hat hH hC hn hm htA heA htc hec hTL hEL
  go_enter Tryd.func12, Tryd.ntmps12
  go_wp2_with (with_reducible show wpList _ _ _ (Oper.mk _ (Op.box _ _) _ _ _ _ :: _) _ _; refine wpList_box_i rfl _ _ rfl _ rfl ?_)
  intro g w1 hk1 hb1 hg1 hs1
  go_wp2_with (with_reducible show wpList _ _ _ (Oper.mk _ (Op.alloc _) _ _ _ _ :: _) _ _; refine wpList_alloc_i rfl 49 rfl (.agg zeroBlkC.toArray) zero_BlkC ?_)
  intro r w2 h2 hl2 hg2 hs2
  have HK := Lib.hid ((bk_eqT (cs' := (H ++ ([Value.slice tA n tc, Value.slice eA m ec] ++ C)).toArray) hk1 rfl).below hl2 hk1.lt)
  have H2 := Lib.hid (bk_eqT (cs' := zeroBlkC.toArray) h2 rfl)
  have HL2 := Lib.hid (hb1.trans (hl2.mono hb1.size))
  have HGR := Lib.hid (show w.heap.size ≤ r by have := hb1.size; omega)
  have HGG := Lib.hid hg1
  have HNE := Lib.hid (show r ≠ g by omega)
  have HTR2 := Lib.hid (HTR.out.below HL2.out)
  have HER2 := Lib.hid (HER.out.below HL2.out)
  clear hk1 hb1 hg1 hs1 h2 hl2 hg2 hs2 HTR HER
  obtain ⟨i0, hi, hz0, hz1, hz2⟩ := info_parts info_Tx3
  obtain ⟨i1, hj, hy0, hy1, hy2⟩ := info_parts info_Ev3
  have c1 : w2.cell? ⟨g, 228, none⟩ = some (.slice tA n tc) := (HK.out.cell 228).trans (bl_at1 LH.out)
  have c2 : w2.cell? ⟨g, 229, none⟩ = some (.slice eA m ec) := (HK.out.cell 229).trans (bl_at2 LH.out)
  have HO := Lib.hid (show (w2.alloc (.cells #[] 27)).ownsRow w2.heap.size 27 22 (.slice (some ⟨w2.heap.size, 0, none⟩) 0 0) 0 [] from World.ownsRow_lit (base := w2.heap.size) (e := 27) (size := 22) w2 #[] 0 (Nat.le_refl _) (by unfold maxLen; omega) (by simp))
  have HA := Lib.hid (show Below w2.heap.size w2 (w2.alloc (.cells #[] 27)) from (Below.refl _ _).alloc (Nat.le_refl _) _)
  have HRA := Lib.hid (HTR2.out.below HA.out)
  have c3 : (w2.alloc (.cells #[] 27)).cell? ⟨g, 228, none⟩ = some (.slice tA n tc) := cell_keep c1 HA.out
  go_wp2_with (first
    | (with_reducible show wpList _ _ _ (Oper.mk (some 14) (Op.call _) _ _ _ _ :: _) _ _; go_must (refine wpList_append_rd _ rfl _ _ 46 rfl w2.heap.size 27 i0 (.agg zeroTxC.toArray) 22 64 Tryd.underlying46 hi hz0 hz1 hz2 (by simp [Value.cells, zeroTxC_len]) (by decide) (.slice (some ⟨w2.heap.size, 0, none⟩) 0 0) 0 [] rfl HO.out tA n tc TL rfl HTLL.out HRA.out HTO.out (by have := HTB.out; unfold maxLen; omega) (by have := HTB.out; omega) HA.out.size ?_); intro A' c' w3 own3 hg3 hat3; have HO3 := Lib.hid (show w3.ownsRow w2.heap.size 27 22 (.slice A' n c') n TL from by simpa using own3); have HB3 := Lib.hid (below_own HA.out HO.out (Nat.le_refl _) hg3 HA.out.size); have c4 : w3.cell? ⟨g, 229, none⟩ = some (.slice eA m ec) := cell_keep c2 HB3.out; have HA3 := Lib.hid (show Below w3.heap.size w3 (w3.alloc (.cells #[] 75)) from (Below.refl _ _).alloc (Nat.le_refl _) _); have c5 : (w3.alloc (.cells #[] 75)).cell? ⟨g, 229, none⟩ = some (.slice eA m ec) := cell_keep c4 HA3.out; have HOE := Lib.hid (show (w3.alloc (.cells #[] 75)).ownsRow w2.heap.size 75 106 (.slice (some ⟨w3.heap.size, 0, none⟩) 0 0) 0 [] from World.ownsRow_lit (base := w2.heap.size) (e := 75) (size := 106) w3 #[] 0 HB3.out.size (by unfold maxLen; omega) (by simp)); have HREA := Lib.hid ((HER2.out.below HB3.out).below HA3.out); have HO3A := Lib.hid (own_below HO3.out HA3.out); have HB3A := Lib.hid (HB3.out.trans (HA3.out.mono HB3.out.size)); clear own3 hg3 hat3 HO HA HRA c3 HO3)
    | (with_reducible show wpList _ _ _ (Oper.mk (some 21) (Op.call _) _ _ _ _ :: _) _ _; go_must (refine wpList_append_rd _ rfl _ _ 47 rfl w2.heap.size 75 i1 (.agg zeroEvC.toArray) 106 176 Tryd.underlying47 hj hy0 hy1 hy2 (by simp [Value.cells, zeroEvC_len]) (by decide) (.slice (some ⟨w3.heap.size, 0, none⟩) 0 0) 0 [] rfl HOE.out eA m ec EL rfl HELL.out HREA.out HEO.out (by have := HEB.out; unfold maxLen; omega) (by have := HEB.out; omega) HB3A.out.size ?_); intro B' d' w4 own4 hg4 hat4; have HV4 := Lib.hid (show w4.ownsRow w2.heap.size 75 106 (.slice B' m d') m EL from by simpa using own4); have HT4 := Lib.hid (own_keep HO3A.out hg4 HOE.out (by decide)); have HB4 := Lib.hid (below_own HB3A.out HOE.out (Nat.le_refl _) hg4 HB3A.out.size); clear own4 hg4 hat4 HOE HREA HO3A HB3A HA3 c4 c5 c2 c1 HB3))
  go_loopw [4, 6, 7] (fun v u i wr => ∃ k : Nat, k ≤ 2 ∧ i = .int .i64 (k : Int) ∧ wr.ownsRow w2.heap.size 27 22 v (n + k) (TL ++ ttags k) ∧ wr.ownsRow w2.heap.size 75 106 u (m + k) (EL ++ etags k) ∧ Below w2.heap.size w2 wr) (fun _ _ i _ => 2 - (intOf i).toNat)
  case atStart => exact ⟨0, by omega, rfl, by simpa [ttags] using HT4.out, by simpa [etags] using HV4.out, HB4.out⟩
  case round =>
    clear HT4 HV4 HB4
    obtain ⟨k, hk, rfl, ot, oe, hb5⟩ := hrel
    obtain ⟨A4, c4, rfl⟩ := own_form ot
    obtain ⟨B4, d4, rfl⟩ := own_form oe
    have HOT := Lib.hid ot
    have HOV := Lib.hid oe
    have HB5 := Lib.hid hb5
    clear ot oe hb5
    by_cases hlt : k < 2
    · have p0 : (k : Int) < 2 := by omega
      obtain ⟨o1, ho1⟩ : ∃ o1, Obj.cells (tagTx k).toArray 27 = o1 := ⟨_, rfl⟩
      obtain ⟨o2, ho2⟩ : ∃ o2, Obj.cells (tagEv k).toArray 75 = o2 := ⟨_, rfl⟩
      have Q1 := Lib.hid (show n + k + 1 ≤ maxLen by have := HTB.out; unfold maxLen; omega)
      have Q2 := Lib.hid (show (n + k + 1) * 64 ≤ 140737488355328 by have := HTB.out; omega)
      have Q3 := Lib.hid (show m + k + 1 ≤ maxLen by have := HEB.out; unfold maxLen; omega)
      have Q4 := Lib.hid (show (m + k + 1) * 176 ≤ 140737488355328 by have := HEB.out; omega)
      have HA5 := Lib.hid (show Below wr.heap.size wr (wr.alloc o1) from (Below.refl _ _).alloc (Nat.le_refl _) _)
      have HT5 := Lib.hid (own_below HOT.out HA5.out)
      have HV5 := Lib.hid (own_below HOV.out HA5.out)
      have HB6 := Lib.hid (HB5.out.trans (HA5.out.mono HB5.out.size))
      have HR5 := Lib.hid (show Rd (wr.alloc o1) (some ⟨wr.heap.size, 0, none⟩) (tagTx k) from by rw [← ho1]; exact Rd.of_bk (Bk.new wr _ _) 0 _ (fun j u hu => by simpa using hu))
      go_wp2_with (first
        | (go_at_call 32; go_must (refine (tag_any _ k (by omega)).mono ?_); rintro e wx ⟨rfl, rfl⟩)
        | (with_reducible show wpList _ _ _ (Oper.mk (some 29) (Op.build _ _) _ _ _ _ :: _) _ _; go_must (refine wpList_buildv rfl 27 [(4, .tmp 28)] rfl [(4, .int .u64 (7700 + (k : Int)))] rfl (tagTx k).toArray (built_tagTx _) ?_))
        | (with_reducible show wpList _ _ _ (Oper.mk (some 35) (Op.build _ _) _ _ _ _ :: _) _ _; go_must (refine wpList_buildv rfl 73 [(4, .tmp 34)] rfl [(4, .int .u64 (7700 + (k : Int)))] rfl (tagVote k).toArray (built_tagVote _) ?_))
        | (with_reducible show wpList _ _ _ (Oper.mk (some 36) (Op.build _ _) _ _ _ _ :: _) _ _; go_must (refine wpList_buildv rfl 75 [(0, .tmp 35)] rfl [(0, .agg (tagVote k).toArray)] rfl (tagEv k).toArray (built_tagEv k) ?_))
        | (with_reducible show wpList _ _ _ (Oper.mk (some 30) (Op.buildSlice _ _ _) _ _ _ _ :: _) _ _; go_must (refine wpList_lit1 rfl 46 _ rfl (tagTx k).toArray rfl 27 22 (.agg zeroTxC.toArray) Tryd.underlying46 info_Tx zero_TxC (by decide) (by decide) (by simp [tagTx_len]) ?_); rw [ho1])
        | (with_reducible show wpList _ _ _ (Oper.mk (some 31) (Op.call _) _ _ _ _ :: _) _ _; go_must (refine wpList_append_rd _ rfl _ _ 46 rfl w2.heap.size 27 i0 (.agg zeroTxC.toArray) 22 64 Tryd.underlying46 hi hz0 hz1 hz2 (by simp [Value.cells, zeroTxC_len]) (by decide) (.slice A4 (n + k) c4) (n + k) (TL ++ ttags k) rfl HT5.out _ 1 1 (tagTx k) rfl (tagTx_len k) HR5.out (tagTx_one k) Q1.out Q2.out HB6.out.size ?_); intro A6 c6 w6 own6 hg6 hat6; have HT6 := Lib.hid (show w6.ownsRow w2.heap.size 27 22 (.slice A6 (n + k + 1) c6) (n + (k + 1)) (TL ++ ttags (k + 1)) from by rw [ttags_succ, ← List.append_assoc, ← Nat.add_assoc]; exact own6); have HV6 := Lib.hid (own_keep HV5.out hg6 HT5.out (by decide)); have HB7 := Lib.hid (below_own HB6.out HT5.out (Nat.le_refl _) hg6 HB6.out.size); have HA7 := Lib.hid (show Below w6.heap.size w6 (w6.alloc o2) from (Below.refl _ _).alloc (Nat.le_refl _) _); have HT7 := Lib.hid (own_below HT6.out HA7.out); have HV7 := Lib.hid (own_below HV6.out HA7.out); have HB8 := Lib.hid (HB7.out.trans (HA7.out.mono HB7.out.size)); have HR7 := Lib.hid (show Rd (w6.alloc o2) (some ⟨w6.heap.size, 0, none⟩) (tagEv k) from by rw [← ho2]; exact Rd.of_bk (Bk.new w6 _ _) 0 _ (fun j u hu => by simpa using hu)); clear own6 hg6 hat6 HT5 HV5 HB6 HA5 HR5 HT6 HV6 HB7)
        | (with_reducible show wpList _ _ _ (Oper.mk (some 37) (Op.buildSlice _ _ _) _ _ _ _ :: _) _ _; go_must (refine wpList_lit1 rfl 47 _ rfl (tagEv k).toArray rfl 75 106 (.agg zeroEvC.toArray) Tryd.underlying47 info_Ev zero_EvC (by decide) (by decide) (by simp [tagEv_len]) ?_); rw [ho2])
        | (with_reducible show wpList _ _ _ (Oper.mk (some 38) (Op.call _) _ _ _ _ :: _) _ _; go_must (refine wpList_append_rd _ rfl _ _ 47 rfl w2.heap.size 75 i1 (.agg zeroEvC.toArray) 106 176 Tryd.underlying47 hj hy0 hy1 hy2 (by simp [Value.cells, zeroEvC_len]) (by decide) (.slice B4 (m + k) d4) (m + k) (EL ++ etags k) rfl HV7.out _ 1 1 (tagEv k) rfl (tagEv_len k) HR7.out (tagEv_one k) Q3.out Q4.out HB8.out.size ?_); intro B8 d8 w8 own8 hg8 hat8; have HV8 := Lib.hid (show w8.ownsRow w2.heap.size 75 106 (.slice B8 (m + k + 1) d8) (m + (k + 1)) (EL ++ etags (k + 1)) from by rw [etags_succ, ← List.append_assoc, ← Nat.add_assoc]; exact own8); have HT8 := Lib.hid (own_keep HT7.out hg8 HV7.out (by decide)); have HB9 := Lib.hid (below_own HB8.out HV7.out (Nat.le_refl _) hg8 HB8.out.size); clear own8 hg8 hat8 HT7 HV7 HB8 HA7 HR7))
      refine ⟨⟨k + 1, by omega, by go_num, HT8.out, HV8.out, HB9.out⟩, by simp [intOf]; omega⟩
    · have hk2 : k = 2 := by omega
      subst hk2
      obtain ⟨g4, cc4, e4, hc4, hb4, hl4⟩ := own_slice HOT.out (by omega)
      obtain ⟨g5, cc5, e5, hc5, hb5, hl5⟩ := own_slice HOV.out (by omega)
      injection e4 with e4a e4b e4c
      injection e5 with e5a e5b e5c
      rw [← e4c] at hc4
      rw [← e5c] at hc5
      subst e4a
      subst e5a
      clear e4b e5b e4c e5c cc4 cc5
      have HRF := Lib.hid (Rd.of_own HOT.out)
      have HEF := Lib.hid (Rd.of_own HOV.out)
      have HK4 := Lib.hid (HK.out.below HB5.out HK.out.lt)
      have HR4 := Lib.hid (H2.out.below HB5.out H2.out.lt)
      have HW4 := Lib.hid (HL2.out.trans (HB5.out.mono HL2.out.size))
      have N1 := Lib.hid (show g4 ≠ g from by have := HK.out.lt; omega)
      have N2 := Lib.hid (show g4 ≠ r from by have := H2.out.lt; omega)
      have N3 := Lib.hid (show g5 ≠ g from by have := HK.out.lt; omega)
      have N4 := Lib.hid (show g5 ≠ r from by have := H2.out.lt; omega)
      have HC4 := Lib.hid hc4
      have HC5 := Lib.hid hc5
      have hc6 : (n : Int) ≤ (c4 : Int) := by omega
      have hc7 : (m : Int) ≤ (d4 : Int) := by omega
      clear hlt hc4 hc5 hb4 hb5 hl4 hl5 HB5 HOT HOV HK H2 HL2
      go_wp2_with (with_reducible show wpList _ _ _ (Oper.mk _ (Op.store 46 _ _) _ _ _ _ :: _) _ _; go_must (refine wpList_store_part rfl 46 _ _ rfl g 228 rfl (.slice (some ⟨g4, 0, none⟩) n c4) rfl _ _ HK4.out (by rw [show (Value.slice (some ⟨g4, 0, none⟩) n c4).cells.size = 1 from rfl]; exact info_slTx) (by simp [Value.cells, LH.out, LC.out]) (by simp [Value.cells, Value.oneCell']) ?_))
      intro w7 h7 hg7 hs7
      have HK7 := Lib.hid (show Bk w7 g (H ++ ([Value.slice (some ⟨g4, 0, none⟩) n c4, Value.slice eA m ec] ++ C)).toArray 49 from bk_eqT h7 (bl_1 _ LH.out))
      have HR7 := Lib.hid (HR4.out.grown hg7 (by have := HNE.out; intro e; injection e with e; omega))
      have HW7 := Lib.hid (below_grown2 HW4.out hg7 HGG.out HW4.out.size)
      have HF7 := Lib.hid (rd_grown HRF.out hg7 (by intro ad ha; injection ha with ha; subst ha; have := N1.out; intro e; injection e with e; exact this e.symm))
      have HE7 := Lib.hid (rd_grown HEF.out hg7 (by intro ad ha; injection ha with ha; subst ha; have := N3.out; intro e; injection e with e; exact this e.symm))
      clear h7 hg7 hs7 HK4 HR4 HW4 HRF HEF
      go_wp2_with (with_reducible show wpList _ _ _ (Oper.mk _ (Op.store 47 _ _) _ _ _ _ :: _) _ _; go_must (refine wpList_store_part rfl 47 _ _ rfl g 229 rfl (.slice (some ⟨g5, 0, none⟩) m d4) rfl _ _ HK7.out (by rw [show (Value.slice (some ⟨g5, 0, none⟩) m d4).cells.size = 1 from rfl]; exact info_slEv) (by simp [Value.cells, LH.out, LC.out]) (by simp [Value.cells, Value.oneCell']) ?_))
      intro w8 h8 hg8 hs8
      have HK8 := Lib.hid (show Bk w8 g (H ++ ([Value.slice (some ⟨g4, 0, none⟩) n c4, Value.slice (some ⟨g5, 0, none⟩) m d4] ++ C)).toArray 49 from bk_eqT h8 (bl_2 _ LH.out))
      have HR8 := Lib.hid (HR7.out.grown hg8 (by have := HNE.out; intro e; injection e with e; omega))
      have HW8 := Lib.hid (below_grown2 HW7.out hg8 HGG.out HW7.out.size)
      have HF8 := Lib.hid (rd_grown HF7.out hg8 (by intro ad ha; injection ha with ha; subst ha; have := N1.out; intro e; injection e with e; exact this e.symm))
      have HE8 := Lib.hid (rd_grown HE7.out hg8 (by intro ad ha; injection ha with ha; subst ha; have := N3.out; intro e; injection e with e; exact this e.symm))
      clear h8 hg8 hs8 HK7 HR7 HW7 HF7 HE7
      go_wp2_with (first
        | (with_reducible show wpList _ _ _ (Oper.mk (some 48) (Op.load _ _) _ _ _ _ :: _) _ _; go_must (refine wpList_load_part rfl 34 _ rfl g 230 35 rfl _ _ _ HK8.out Tryd.underlying34 rfl info_Crt (by simp [LH.out, LC.out]) _ (bl_ex LH.out LC.out) ?_))
        | (go_at_call 33; go_must (refine (HCALL.out _ HW8.out).mono ?_); rintro e w9 ⟨A9, c9, rfl, hl9, hb9, g9, hA9, hg9⟩; have N5 := Lib.hid (show ∀ ad, A9 = some ad → some g ≠ some ad.block from by intro ad ha e; rw [hA9] at ha; injection ha with ha; subst ha; injection e with e; have h1 := HK8.out.lt; have h2 : g = g9 := e; omega); have N6 := Lib.hid (show ∀ ad, A9 = some ad → some r ≠ some ad.block from by intro ad ha e; rw [hA9] at ha; injection ha with ha; subst ha; injection e with e; have h1 := HR8.out.lt; have h2 : r = g9 := e; omega); have HL9 := Lib.hid hl9; have HB9 := Lib.hid hb9; have HK9 := Lib.hid (HK8.out.below hb9 HK8.out.lt); have HR9 := Lib.hid (HR8.out.below hb9 HR8.out.lt); have HW9 := Lib.hid (HW8.out.trans (hb9.mono HW8.out.size)); have HF9 := Lib.hid (HF8.out.below hb9); have HE9 := Lib.hid (HE8.out.below hb9); obtain ⟨C9, hC9⟩ : ∃ C9, ({ x.ct with A := A9, c := c9 } : Crt).cl = C9 := ⟨_, rfl⟩; have HC9 := Lib.hid hC9; have LC9 := Lib.hid (show C9.length = 35 by rw [← hC9]; exact ({ x.ct with A := A9, c := c9 } : Crt).cl_len ⟨HX.out.ct.height, HX.out.ct.round, HX.out.ct.id, HX.out.ct.n, HX.out.ct.ms⟩); have HO9 := Lib.hid (show ∀ u ∈ (Value.agg C9.toArray).cells.toList, u.oneCell' = true by rw [← hC9]; exact crt_one _); rw [hC9]; clear hl9 hb9 hC9 hA9 hg9 HK8 HR8 HW8 HF8 HE8)
        | (with_reducible show wpList _ _ _ (Oper.mk _ (Op.store 34 _ _) _ _ _ _ :: _) _ _; go_must (refine wpList_store_part rfl 34 _ _ rfl g 230 rfl (.agg C9.toArray) rfl _ _ HK9.out (by rw [show (Value.agg C9.toArray).cells.size = 35 by simp [Value.cells, LC9.out]]; exact info_Crt) (by simp [Value.cells, LH.out, LC.out, LC9.out]) HO9.out ?_)))
      intro w10 h10 hg10 hs10
      have HK10 := Lib.hid (show Bk w10 g (H ++ ([Value.slice (some ⟨g4, 0, none⟩) n c4, Value.slice (some ⟨g5, 0, none⟩) m d4] ++ C9)).toArray 49 from bk_eqT h10 (bl_3 _ LH.out (by rw [LC9.out, LC.out])))
      have HR10 := Lib.hid (HR9.out.grown hg10 (by have := HNE.out; intro e; injection e with e; omega))
      have HW10 := Lib.hid (below_grown2 HW9.out hg10 HGG.out HW9.out.size)
      have HF10 := Lib.hid (rd_grown HF9.out hg10 (by intro ad ha; injection ha with ha; subst ha; have := N1.out; intro e; injection e with e; exact this e.symm))
      have HE10 := Lib.hid (rd_grown HE9.out hg10 (by intro ad ha; injection ha with ha; subst ha; have := N3.out; intro e; injection e with e; exact this e.symm))
      have HL10 := Lib.hid (crt_lent_grown HL9.out hg10 N5.out)
      clear h10 hg10 hs10 HK9 HR9 HW9 HF9 HE9 HL9
      obtain ⟨Y, hY⟩ : ∃ Y, H ++ ([Value.slice (some ⟨g4, 0, none⟩) n c4, Value.slice (some ⟨g5, 0, none⟩) m d4] ++ C9) = Y := ⟨_, rfl⟩
      have HY := Lib.hid hY
      have HYL := Lib.hid (show Y.length = 265 by rw [← hY]; exact bl_len LH.out LC9.out)
      have HY1 := Lib.hid (show ∀ u ∈ (Value.agg Y.toArray).cells.toList, u.oneCell' = true by rw [← hY, ← HC9.out, ← HHH.out]; exact blk_one ⟨x.hd, some ⟨g4, 0, none⟩, n, c4, x.ts, some ⟨g5, 0, none⟩, m, d4, x.es, { x.ct with A := A9, c := c9 }⟩)
      rw [hY] at HK10
      clear hY
      go_wp2_with (first
        | (with_reducible show wpList _ _ _ (Oper.mk (some 51) (Op.load _ _) _ _ _ _ :: _) _ _; go_must (refine wpList_load_part rfl 49 _ rfl g 0 265 rfl _ _ _ HK10.out Tryd.underlying49 rfl info_Blk (by simp [HYL.out]) _ (cl_allN HYL.out) ?_))
        | (with_reducible show wpList _ _ _ (Oper.mk _ (Op.store 49 _ _) _ _ _ _ :: _) _ _; go_must (refine wpList_store_bk rfl 49 _ _ rfl r rfl (.agg Y.toArray) rfl _ _ HR10.out (by rw [show (Value.agg Y.toArray).cells.size = 265 by simp [Value.cells, HYL.out]]; exact info_Blk) (by simp [Value.cells, HYL.out, zeroBlkC_len]) HY1.out ?_)))
      intro w11 h11 hg11 hs11
      have HB11 := Lib.hid (below_grown2 HW10.out hg11 HGR.out HW10.out.size)
      have H11 := Lib.hid (show Bk w11 r Y.toArray 49 from h11)
      have HF11 := Lib.hid (rd_grown HF10.out hg11 (by intro ad ha; injection ha with ha; subst ha; have := N2.out; intro e; injection e with e; exact this e.symm))
      have HE11 := Lib.hid (rd_grown HE10.out hg11 (by intro ad ha; injection ha with ha; subst ha; have := N4.out; intro e; injection e with e; exact this e.symm))
      have HL11 := Lib.hid (crt_lent_grown HL10.out hg11 N6.out)
      clear h11 hg11 hs11
      go_wp2
      exact bodyPost_cell rfl rfl H11.out Tryd.underlying49 rfl info_Blk (by simp [HYL.out]) rfl ⟨some ⟨g4, 0, none⟩, c4, some ⟨g5, 0, none⟩, d4, A9, c9, by rw [HFIN.out, HC9.out, HY.out], ⟨⟨g4, rfl⟩, by show x.tn + 2 ≤ c4; rw [HNN.out]; exact HC4.out, by show Rd w11 (some ⟨g4, 0, none⟩) (x.ts.flatMap Tx.cl ++ ttags 2); rw [HTLE.out]; exact HF11.out, ⟨g5, rfl⟩, by show x.en + 2 ≤ d4; rw [HMM.out]; exact HC5.out, by show Rd w11 (some ⟨g5, 0, none⟩) (x.es.flatMap Ev.cl ++ etags 2); rw [HELE.out]; exact HE11.out, HL11.out⟩, HB11.out⟩
end Go.Proofs.YtjdegphpalhapaaDoor
namespace Go.Proofs.YtjdegphpalhapaaDoor
set_option linter.unusedSimpArgs false
set_option linter.unusedVariables false
open Go.RowKit
set_option maxRecDepth 100000

theorem keptCert_lent (w : World) (x : Crt) (hx : x.ok) (hl : x.lent w) (hbig : x.n * 32 ≤ 140737488351232) : Calls Tryd.prog 41 #[.agg x.cl.toArray] w fun e w' => e = .returned (.bool true) ∧ Below w.heap.size w w' :=
  keptCert_any w x hx hl (by omega)
theorem Blk.lent.below {x : Blk} {w w' : World} (h : x.lent w) (hb : Below w.heap.size w w') : x.lent w' := ⟨h.tA, h.tc, h.tr.below hb, h.eA, h.ec, h.er.below hb, h.ct.A, h.ct.c, h.ct.rd.below hb⟩

set_option maxHeartbeats 8000000 in
theorem keptBlock_any (w : World) (x : Blk) (hx : x.ok) (hl : x.lent w) :
    Calls Tryd.prog 18 #[.agg x.cl.toArray] w fun e w' => e = .returned (.bool true) ∧ Below w.heap.size w w' := by
  have HX := Lib.hid hx
  obtain ⟨H, hH⟩ : ∃ H, x.hd.cl = H := ⟨_, rfl⟩
  obtain ⟨C, hC⟩ : ∃ C, x.ct.cl = C := ⟨_, rfl⟩
  have LH := Lib.hid (show H.length = 228 by rw [← hH]; exact x.hd.cl_len hx.hd)
  have LC := Lib.hid (show C.length = 35 by rw [← hC]; exact x.ct.cl_len hx.ct)
  obtain ⟨n, hn⟩ : ∃ n, x.tn = n := ⟨_, rfl⟩
  obtain ⟨m, hm⟩ : ∃ m, x.en = m := ⟨_, rfl⟩
  obtain ⟨g0, hg0⟩ := hl.tA
  obtain ⟨g1, hg1⟩ := hl.eA
  obtain ⟨tc, htc⟩ : ∃ c, x.tc = c := ⟨_, rfl⟩
  obtain ⟨ec, hec⟩ : ∃ c, x.ec = c := ⟨_, rfl⟩
  obtain ⟨TL, hTL⟩ : ∃ L, x.ts.flatMap Tx.cl = L := ⟨_, rfl⟩
  obtain ⟨EL, hEL⟩ : ∃ L, x.es.flatMap Ev.cl = L := ⟨_, rfl⟩
  have HTLL := Lib.hid (show TL.length = n * 22 by rw [← hTL, fl_len x.ts (fun t h => t.cl_len (hx.ts t h)), ← hx.tn, hn])
  have HELL := Lib.hid (show EL.length = m * 106 by rw [← hEL, fl_len x.es (fun t h => t.cl_len (hx.es t h)), ← hx.en, hm])
  have HTR := Lib.hid (show Rd w (some ⟨g0, 0, none⟩) (TL ++ ttags 2) by rw [← hTL, ← hg0]; exact hl.tr)
  have HER := Lib.hid (show Rd w (some ⟨g1, 0, none⟩) (EL ++ etags 2) by rw [← hEL, ← hg1]; exact hl.er)
  have HTC := Lib.hid (show n + 2 ≤ tc by rw [← hn, ← htc]; exact hl.tc)
  have HEC := Lib.hid (show m + 2 ≤ ec by rw [← hm, ← hec]; exact hl.ec)
  have HTB := Lib.hid (show n * 64 ≤ 140737488351232 by rw [← hn]; exact hx.tb)
  have HEB := Lib.hid (show m * 176 ≤ 140737488351232 by rw [← hm]; exact hx.eb)
  have HCL := Lib.hid (show x.cl = H ++ ([Value.slice (some ⟨g0, 0, none⟩) n tc, Value.slice (some ⟨g1, 0, none⟩) m ec] ++ C) by unfold Blk.cl; rw [hH, hC, hn, hm, hg0, hg1, htc, hec])
  have HCALL := Lib.hid (show ∀ w', Below w.heap.size w w' → Calls Tryd.prog 41 #[.agg C.toArray] w' fun e w'' => e = .returned (.bool true) ∧ Below w'.heap.size w' w'' from fun w' hb => by rw [← hC]; exact keptCert_lent w' x.ct hx.ct ⟨hl.ct.A, hl.ct.c, hl.ct.rd.below hb⟩ hx.cb)
  rw [HCL.out]
  clear hx hl hH hC hn hm hg0 hg1 htc hec hTL hEL
  go_enter Tryd.func18, Tryd.ntmps18
  go_wp2_with (with_reducible show wpList _ _ _ (Oper.mk _ (Op.box _ _) _ _ _ _ :: _) _ _; refine wpList_box_i rfl _ _ rfl _ rfl ?_)
  intro g w1 hk1 hb1 hg1 hs1
  have HB1 := Lib.hid hb1
  have HK := Lib.hid (show Bk w1.drew g (H ++ ([Value.slice (some ⟨g0, 0, none⟩) n tc, Value.slice (some ⟨g1, 0, none⟩) m ec] ++ C)).toArray 49 from (bk_eqT (cs' := (H ++ ([Value.slice (some ⟨g0, 0, none⟩) n tc, Value.slice (some ⟨g1, 0, none⟩) m ec] ++ C)).toArray) hk1 rfl).drew)
  have d1 : w1.cell? ⟨g, 228, none⟩ = some (.slice (some ⟨g0, 0, none⟩) n tc) := (hk1.cell 228).trans (bl_at1 LH.out)
  have d2 : w1.cell? ⟨g, 229, none⟩ = some (.slice (some ⟨g1, 0, none⟩) m ec) := (hk1.cell 229).trans (bl_at2 LH.out)
  have hR1 := HTR.out.below hb1
  have hE1 := HER.out.below hb1
  have t0 : w1.cell? ⟨g0, n * 22 + 4, none⟩ = some (.int .u64 7700) := rd_zero_cell hR1 (by have := tags_at (n := n) (m := 0) (N := 22) (T := tagTx) HTLL.out tagTx_len 0 4 (.int .u64 7700) (by omega) rfl; simpa [ttags] using this)
  have t1 : w1.cell? ⟨g0, (n + 1) * 22 + 4, none⟩ = some (.int .u64 7701) := rd_zero_cell hR1 (by have := tags_at (n := n) (m := 0) (N := 22) (T := tagTx) HTLL.out tagTx_len 1 4 (.int .u64 7701) (by omega) rfl; simpa [ttags] using this)
  have t2 : w1.cell? ⟨g1, m * 106 + 35, none⟩ = some (.int .u64 7700) := rd_zero_cell hE1 (by have := tags_at (n := m) (m := 0) (N := 106) (T := tagEv) HELL.out tagEv_len 0 35 (.int .u64 7700) (by omega) rfl; simpa [etags] using this)
  have t3 : w1.cell? ⟨g1, (m + 1) * 106 + 35, none⟩ = some (.int .u64 7701) := rd_zero_cell hE1 (by have := tags_at (n := m) (m := 0) (N := 106) (T := tagEv) HELL.out tagEv_len 1 35 (.int .u64 7701) (by omega) rfl; simpa [etags] using this)
  have htc := HTC.out
  have hec := HEC.out
  have htb := HTB.out
  have heb := HEB.out
  have p1 : IntKind.i64.wrap ((n : Int) + 2) = (n : Int) + 2 := by rw [IntKind.wrap_i64]; omega
  have p2 : IntKind.i64.wrap ((n : Int) + 1) = (n : Int) + 1 := by rw [IntKind.wrap_i64]; omega
  have p3 : (n : Int) + 2 ≤ (tc : Int) := by omega
  have p4 : (0 : Int) ≤ (n : Int) + 2 := by omega
  have p5 : ((n : Int) + 2).toNat = n + 2 := by omega
  have p6 : (0 : Int) ≤ (n : Int) + 1 := by omega
  have p7 : ((n : Int) + 1).toNat = n + 1 := by omega
  have p8 : (n : Int) < (n : Int) + 2 := by omega
  have p9 : (n : Int) + 1 < (n : Int) + 2 := by omega
  have pa : n < n + 2 := by omega
  have pb : n + 1 < n + 2 := by omega
  have q1 : IntKind.i64.wrap ((m : Int) + 2) = (m : Int) + 2 := by rw [IntKind.wrap_i64]; omega
  have q2 : IntKind.i64.wrap ((m : Int) + 1) = (m : Int) + 1 := by rw [IntKind.wrap_i64]; omega
  have q3 : (m : Int) + 2 ≤ (ec : Int) := by omega
  have q4 : (0 : Int) ≤ (m : Int) + 2 := by omega
  have q5 : ((m : Int) + 2).toNat = m + 2 := by omega
  have q6 : (0 : Int) ≤ (m : Int) + 1 := by omega
  have q7 : ((m : Int) + 1).toNat = m + 1 := by omega
  have q8 : (m : Int) < (m : Int) + 2 := by omega
  have q9 : (m : Int) + 1 < (m : Int) + 2 := by omega
  have qa : m < m + 2 := by omega
  have qb : m + 1 < m + 2 := by omega
  clear hk1 hb1 hg1 hs1 hR1 hE1 htc hec htb heb
  go_wp2_with fail
  refine wp_region_still_tail 39 (by kernel_rfl) (by kernel_rfl) ?_
  simp only [List.take_succ_cons, List.take_zero, List.drop_succ_cons, List.drop_zero]
  refine still_quiet _ _ ?_
  repeat (first | go_big_quiet_skip | (go_big_quiet_want; go_big_quiet_op; first | go_big_quiet_on | (apply Exists.intro; refine ⟨still_of (by first | (go_at_call 32; first | exact tag_0 _ | exact tag_1 _)), ?_⟩; go_big_quiet_on)))
  refine wpQuiet_nil ?_
  change wpList _ _ _ _ _ w1.drew
  go_wp2_with (first
    | (with_reducible show wpList _ _ _ (Oper.mk (some 63) (Op.load _ _) _ _ _ _ :: _) _ _; go_must (refine wpList_load_part rfl 34 _ rfl g 230 35 rfl _ _ _ HK.out Tryd.underlying34 rfl info_Crt (by simp [LH.out, LC.out]) _ (bl_ex LH.out LC.out) ?_))
    | (go_at_call 41; go_must (refine (HCALL.out _ HB1.out.drew).mono ?_); rintro e w9 ⟨rfl, hb9⟩; have HB9 := Lib.hid (HB1.out.drew.trans (hb9.mono HB1.out.drew.size)); clear hb9))
  go_ret
  exact ⟨by first | rfl | simp, HB9.out⟩
end Go.Proofs.YtjdegphpalhapaaDoor

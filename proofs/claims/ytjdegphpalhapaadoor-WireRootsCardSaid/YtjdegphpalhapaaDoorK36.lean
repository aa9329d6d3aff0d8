/-
  The law's certificates: as they are handed in, with marks in the room behind; are they kept? Conditions: each number fits its kind; the marks lie in the world.
  The law's certificates, further: are they kept, are they alike? Conditions: each number fits its kind; the marks lie in the world.
  The law's certificates and blocks: are they alike? Conditions: each number fits its kind; the lists lie in the world.
-/
import Derived.Test.YtjdegphpalhapaaDoorK35
import Derived.Test.YtjdegphpalhapaaDoorK25
namespace Go.Proofs.YtjdegphpalhapaaDoor
set_option linter.unusedSimpArgs false
set_option linter.unusedVariables false
open Go.RowKit
set_option maxRecDepth 100000

section
variable {P : Program}
theorem run_lit1 {t e : TypeId} {sz : Nat} {z : Value} {cs : Array Value} (ht : P.underlying t = some (.slice e)) (hi : (P.info? e).map (·.size) = some sz) (hz : (P.info? e).bind (·.zero) = some z) (hsz : 0 < sz) (h24 : sz ≤ 16777216) (hcs : cs.size = sz) (w : World) :
    (Instr.buildSlice t 1 #[(0, .agg cs)]).run P w = .ok (.slice (some ⟨w.heap.size, 0, none⟩) 1 1) (w.alloc (.cells cs e)) := by
  obtain ⟨M, hM, hMs⟩ : ∃ M : Array Value, (Array.range (1 * sz)).map (z.cells[· % z.cells.size]!) = M ∧ M.size = sz := ⟨_, rfl, by simp⟩
  have hf : Instr.fill (fun i => some (i * sz, sz)) M [(0, .agg cs)] = some cs := by
    have h := fill_cat sz [cs.toList] 0 [] M.toList (by intro p hp; rw [List.mem_singleton.1 hp]; simpa using hcs) (by simp) (by simp [hMs])
    simpa [partsAt] using h
  have h1 : ¬ (1 * sz > 2 ^ 24) := by omega
  have h2 : ¬ (1 * sz = 0) := by omega
  unfold Instr.buildSlice
  simp only [Sem.run_bind, run_underlying ht, Result.andThen_ok, run_sizeOf' hi, if_neg h1, if_neg h2, Sem.run_pure, run_zero hz, hM, hf]
  simp [newRow, go_sem]
theorem wpList_lit1 {ops : Array Oper} {rest : List Oper} {o : Oper} {a : Act} {w : World} {Q : Exit → Act → World → Prop} (hw : Region.wanted o (yielded ops a.tmps) = true) (t : TypeId) (x : Operand) (ho : o.op = .buildSlice t 1 #[(0, x)]) (cs : Array Value) (hx : a.eval x = .agg cs)
    (e : TypeId) (sz : Nat) (z : Value) (ht : P.underlying t = some (.slice e)) (hi : (P.info? e).map (·.size) = some sz) (hz : (P.info? e).bind (·.zero) = some z) (hsz : 0 < sz) (h24 : sz ≤ 16777216) (hcs : cs.size = sz)
    (h : wpList P ops Q rest (a.put o.dst (.slice (some ⟨w.heap.size, 0, none⟩) 1 1)) (w.alloc (.cells cs e))) : wpList P ops Q (o :: rest) a w := by
  refine wpList_want hw fun K hK => ?_
  unfold Oper.wp execOp
  simp only [ho, Sem.run_bind, Sem.run_pure, Result.andThen_ok, List.map_toArray, List.map_cons, List.map_nil, hx, run_lit1 ht hi hz hsz h24 hcs w]
  exact hK _ _ h
end
set_option maxHeartbeats 400000 in
theorem tag_any (w : World) (i : Nat) (hi : i ≤ 100) :
    Calls Tryd.prog 32 #[.int .i64 (i : Int)] w fun e w' => e = .returned (.int .u64 (7700 + (i : Int))) ∧ w = w' := by
  have p1 : IntKind.i64.wrap (7700 + (i : Int)) = 7700 + (i : Int) := by rw [IntKind.wrap_i64]; omega
  have p2 : IntKind.u64.wrap (7700 + (i : Int)) = 7700 + (i : Int) := by rw [IntKind.wrap_u64]; omega
  go_enter Tryd.func32, Tryd.ntmps32
  go_wp2
  go_ret
  exact ⟨rfl, rfl⟩
def tagMk (i : Nat) : List Value := [.int .i64 0, .int .u64 (7700 + (i : Int))] ++ bv (zer 16)
theorem built_tagMk (t : Int) : Tryd.prog.built 106 [(1, .int .u64 t)] = some ([Value.int .i64 0, .int .u64 t] ++ bv (zer 16)).toArray := by kernel_rfl
theorem tagMk_len (i : Nat) : (tagMk i).length = 18 := rfl
theorem tagMk_one (i : Nat) : ∀ u ∈ tagMk i, u.oneCell' = true := by
  intro u hu
  simp only [tagMk, List.mem_append, List.mem_cons, List.not_mem_nil, or_false] at hu
  rcases hu with (rfl | rfl) | hu
  · rfl
  · rfl
  · exact bv_one (zer 16) u (by simpa [Value.cells] using hu)
theorem mks_one (ms : List Mk) : ∀ u ∈ ms.flatMap Mk.cl, u.oneCell' = true := by
  intro u hu
  obtain ⟨m, _, hm⟩ := List.mem_flatMap.1 hu
  exact mk_one m u (by simpa [Value.cells] using hm)
theorem info_Mk3 : (Tryd.prog.info? 106).map (fun i => (i.zero, i.size, i.bytes)) = some (some (.agg zeroMk.toArray), 18, 32) := by kernel_rfl
def zeroCrtC : List Value := [.int .u64 0, .int .i64 0] ++ bv (zer 32) ++ [.slice none 0 0]
theorem zero_CrtC : (Tryd.prog.info? 34).bind (·.zero) = some (.agg zeroCrtC.toArray) := by kernel_rfl
theorem zeroCrtC_len : zeroCrtC.length = 35 := rfl
def tags (k : Nat) : List Value := (List.range k).flatMap tagMk
theorem tags_succ (k : Nat) : tags (k + 1) = tags k ++ tagMk k := by simp [tags, List.range_succ]
theorem crt_splice (x : Crt) (hx : x.ok) (A : Option Addr) (c : Nat) : splice x.cl.toArray 34 [.slice A x.n c] = ({ x with A := A, c := c } : Crt).cl.toArray := by
  have e : x.cl = ([.int .u64 x.height, .int .i64 x.round] ++ bv x.id) ++ ([.slice x.A x.n x.c] ++ []) := by simp [Crt.cl]
  rw [e, splice_mid (ys := [.slice x.A x.n x.c]) (ws := [.slice A x.n c]) (zs := []) (by simp [bv_length, hx.id]) rfl]
  simp [Crt.cl]
theorem crt_one (x : Crt) : ∀ u ∈ (Value.agg x.cl.toArray).cells.toList, u.oneCell' = true := by
  intro u hu
  simp only [Value.cells, Crt.cl, List.mem_append, List.mem_cons, List.not_mem_nil, or_false] at hu
  rcases hu with ((rfl | rfl) | hu) | rfl
  · rfl
  · rfl
  · exact bv_one _ u (by simpa [Value.cells] using hu)
  · rfl
theorem info_slMk : (Tryd.prog.info? 32).map (·.size) = some 1 := by kernel_rfl
theorem rd_grown {w w' : World} {A : Option Addr} {xs : List Value} {row : Option Nat} (h : Rd w A xs) (hg : w.grownBy w' row) (hn : ∀ ad, A = some ad → row ≠ some ad.block) : Rd w' A xs := fun j u hu => by
  obtain ⟨ad, ha, hc⟩ := h j u hu
  refine ⟨ad, ha, ?_⟩
  have hb : (ad.add j).block = ad.block := add_block _ _
  have hl : ad.block < w.heap.size := by
    rcases Nat.lt_or_ge ad.block w.heap.size with hl | hl
    · exact hl
    · have : w.cell? (ad.add j) = none := by simp [World.cell?, hb, Array.getElem?_eq_none hl]
      rw [this] at hc; cases hc
  have := hg.block ad.block hl (fun e => hn ad ha e.symm)
  rw [← hc]
  unfold World.cell?
  rw [hb, this]
/-- the room behind: two marks -/
structure Crt.lent (x : Crt) (w : World) : Prop where
  A : ∃ g, x.A = some ⟨g, 0, none⟩
  c : x.n + 2 ≤ x.c
  rd : Rd w x.A (x.ms.flatMap Mk.cl ++ tags 2)

set_option maxHeartbeats 4000000 in
theorem lentCert_any (w : World) (x : Crt) (hx : x.ok) (hat : x.at w) (hbig : x.n * 32 ≤ 140737488351232) :
    Calls Tryd.prog 33 #[.agg x.cl.toArray] w fun e w' => ∃ A c, e = .returned (.agg ({ x with A := A, c := c } : Crt).cl.toArray) ∧ ({ x with A := A, c := c } : Crt).lent w' ∧ Below w.heap.size w w' ∧ ∃ g, A = some ⟨g, 0, none⟩ ∧ w.heap.size ≤ g := by
  have HX := Lib.hid hx
  have HR := Lib.hid (show Rd w x.A (x.ms.flatMap Mk.cl) from hat)
  have HL := Lib.hid (x.cl_len hx)
  have HML := Lib.hid (show (x.ms.flatMap Mk.cl).length = x.n * 18 by rw [fl_len x.ms (fun m hm => m.cl_len (hx.ms m hm)), ← hx.n])
  have HBIG := Lib.hid hbig
  clear hx hat hbig
  go_enter Tryd.func33, Tryd.ntmps33
  go_wp2_with (with_reducible show wpList _ _ _ (Oper.mk _ (Op.box _ _) _ _ _ _ :: _) _ _; refine wpList_box_i rfl _ _ rfl _ rfl ?_)
  intro g w1 hk1 hb1 hg1 hs1
  go_wp2_with (with_reducible show wpList _ _ _ (Oper.mk _ (Op.alloc _) _ _ _ _ :: _) _ _; refine wpList_alloc_i rfl 34 rfl (.agg zeroCrtC.toArray) zero_CrtC ?_)
  intro r w2 h2 hl2 hg2 hs2
  have HK := Lib.hid ((bk_eqT (cs' := x.cl.toArray) hk1 rfl).below hl2 hk1.lt)
  have H2 := Lib.hid (bk_eqT (cs' := zeroCrtC.toArray) h2 rfl)
  have HL2 := Lib.hid (hb1.trans (hl2.mono hb1.size))
  have HGR := Lib.hid (show w.heap.size ≤ r by have := hb1.size; omega)
  have HGG := Lib.hid hg1
  have HNE := Lib.hid (show r ≠ g by omega)
  have HRM := Lib.hid (HR.out.below HL2.out)
  have c2 : w2.cell? ⟨g, 34, none⟩ = some (.slice x.A x.n x.c) := (HK.out.cell 34).trans (x.cl_34 HX.out.id)
  obtain ⟨n, hnn⟩ : ∃ n, x.n = n := ⟨_, rfl⟩
  obtain ⟨cp, hcp⟩ : ∃ cp, x.c = cp := ⟨_, rfl⟩
  obtain ⟨A, hAA⟩ : ∃ A, x.A = A := ⟨_, rfl⟩
  have HNN := Lib.hid hnn
  rw [hnn, hcp, hAA] at c2
  rw [hAA] at HRM
  rw [hnn] at HML HBIG
  obtain ⟨ML, hML⟩ : ∃ ML, x.ms.flatMap Mk.cl = ML := ⟨_, rfl⟩
  have HMO := Lib.hid (show ∀ u ∈ ML, u.oneCell' = true by rw [← hML]; exact mks_one x.ms)
  have HMM := Lib.hid hML
  rw [hML] at HRM HML
  clear hk1 hb1 hg1 hs1 h2 hl2 hg2 hs2 hnn hcp hAA hML HR
  obtain ⟨i0, hi, hz0, hz1, hz2⟩ := info_parts info_Mk3
  have HO := Lib.hid (show (w2.alloc (.cells #[] 106)).ownsRow w2.heap.size 106 18 (.slice (some ⟨w2.heap.size, 0, none⟩) 0 0) 0 [] from World.ownsRow_lit (base := w2.heap.size) (e := 106) (size := 18) w2 #[] 0 (Nat.le_refl _) (by unfold maxLen; omega) (by simp))
  have HA := Lib.hid (show Below w2.heap.size w2 (w2.alloc (.cells #[] 106)) from (Below.refl _ _).alloc (Nat.le_refl _) _)
  have HRA := Lib.hid (HRM.out.below HA.out)
  have c3 : (w2.alloc (.cells #[] 106)).cell? ⟨g, 34, none⟩ = some (.slice A n cp) := cell_keep c2 HA.out
  go_wp2_with (with_reducible show wpList _ _ _ (Oper.mk (some 12) (Op.call _) _ _ _ _ :: _) _ _; go_must (refine wpList_append_rd _ rfl _ _ 32 rfl w2.heap.size 106 i0 (.agg zeroMk.toArray) 18 32 Tryd.underlying32 hi hz0 hz1 hz2 (by simpa [Value.cells] using zeroMk_sz) (by decide) (.slice (some ⟨w2.heap.size, 0, none⟩) 0 0) 0 [] rfl HO.out A n cp ML rfl HML.out HRA.out HMO.out (by have := HBIG.out; unfold maxLen; omega) (by have := HBIG.out; omega) HA.out.size ?_); intro A' c' w3 own3 hg3 hat3)
  have HO3 := Lib.hid (show w3.ownsRow w2.heap.size 106 18 (.slice A' n c') n ML from by simpa using own3)
  have HB3 := Lib.hid (below_own HA.out HO.out (Nat.le_refl _) hg3 HA.out.size)
  clear own3 hg3 hat3 HO HA HRA
  go_loopw [4, 5] (fun v i wr => ∃ k : Nat, k ≤ 2 ∧ i = .int .i64 (k : Int) ∧ wr.ownsRow w2.heap.size 106 18 v (n + k) (ML ++ tags k) ∧ Below w2.heap.size w2 wr) (fun _ i _ => 2 - (intOf i).toNat)
  case atStart => exact ⟨0, by omega, rfl, by simpa [tags] using HO3.out, HB3.out⟩
  case round =>
    clear HO3 HB3
    obtain ⟨k, hk, rfl, own4, hb4⟩ := hrel
    obtain ⟨A4, c4, rfl⟩ := own_form own4
    have HO4 := Lib.hid own4
    have HB4 := Lib.hid hb4
    clear own4 hb4
    by_cases hlt : k < 2
    · have p0 : (k : Int) < 2 := by omega
      obtain ⟨o1, ho1⟩ : ∃ o1, Obj.cells (tagMk k).toArray 106 = o1 := ⟨_, rfl⟩
      have HA5 := Lib.hid (show Below wr.heap.size wr (wr.alloc o1) from (Below.refl _ _).alloc (Nat.le_refl _) _)
      have HO5 := Lib.hid (own_below HO4.out HA5.out)
      have HB5 := Lib.hid (HB4.out.trans (HA5.out.mono HB4.out.size))
      have HR5 := Lib.hid (show Rd (wr.alloc o1) (some ⟨wr.heap.size, 0, none⟩) (tagMk k) from by rw [← ho1]; exact Rd.of_bk (Bk.new wr _ _) 0 _ (fun j u hu => by simpa using hu))
      go_wp2_with (first
        | (go_at_call 32; go_must (refine (tag_any _ k (by omega)).mono ?_); rintro e wx ⟨rfl, rfl⟩)
        | (with_reducible show wpList _ _ _ (Oper.mk _ (Op.build _ _) _ _ _ _ :: _) _ _; go_must (refine wpList_buildv rfl 106 [(1, .tmp 19)] rfl [(1, .int .u64 (7700 + (k : Int)))] rfl (tagMk k).toArray (built_tagMk _) ?_))
        | (with_reducible show wpList _ _ _ (Oper.mk _ (Op.buildSlice _ _ _) _ _ _ _ :: _) _ _; go_must (refine wpList_lit1 rfl 32 _ rfl (tagMk k).toArray rfl 106 18 (.agg zeroMk.toArray) Tryd.underlying32 info_Mk zero_Mk (by decide) (by decide) (by simp [tagMk_len]) ?_); rw [ho1])
        | (with_reducible show wpList _ _ _ (Oper.mk (some 22) (Op.call _) _ _ _ _ :: _) _ _; go_must (refine wpList_append_rd _ rfl _ _ 32 rfl w2.heap.size 106 i0 (.agg zeroMk.toArray) 18 32 Tryd.underlying32 hi hz0 hz1 hz2 (by simpa [Value.cells] using zeroMk_sz) (by decide) (.slice A4 (n + k) c4) (n + k) (ML ++ tags k) rfl HO5.out _ 1 1 (tagMk k) rfl (tagMk_len k) HR5.out (tagMk_one k) (by have := HBIG.out; unfold maxLen; omega) (by have := HBIG.out; omega) HB5.out.size ?_); intro A6 c6 w6 own6 hg6 hat6))
      have HO6 := Lib.hid (show w6.ownsRow w2.heap.size 106 18 (.slice A6 (n + (k + 1)) c6) (n + (k + 1)) (ML ++ tags (k + 1)) from by rw [tags_succ, ← List.append_assoc]; exact own6)
      have HB6 := Lib.hid (below_own HB5.out HO5.out (Nat.le_refl _) hg6 HB5.out.size)
      try rw [show n + k + 1 = n + (k + 1) by omega]
      clear own6 hg6 hat6 HO5 HB5 HA5 HR5 ho1 HO4 HB4
      go_wp2
      refine ⟨⟨k + 1, by omega, by go_num, HO6.out, HB6.out⟩, by simp [intOf]; omega⟩
    · have hk2 : k = 2 := by omega
      subst hk2
      obtain ⟨g4, hg4, hc4⟩ : ∃ g4, A4 = some ⟨g4, 0, none⟩ ∧ n + 2 ≤ c4 := by
        rcases HO4.out.2 with ⟨h1, h2⟩ | ⟨g', cap, cur, h1, _, _, h2, _⟩
        · omega
        · injection h1 with e1 e2 e3
          exact ⟨g', e1, by omega⟩
      subst hg4
      have HRF := Lib.hid (Rd.of_own HO4.out)
      have HK4 := Lib.hid (HK.out.below HB4.out HK.out.lt)
      have HR4 := Lib.hid (H2.out.below HB4.out H2.out.lt)
      have HW4 := Lib.hid (HL2.out.trans (HB4.out.mono HL2.out.size))
      have HGN := Lib.hid (show g4 ≠ g from by
        have h1 := (own_row HO4.out g4 rfl).1
        have h2 := HK.out.lt
        omega)
      have HGR4 := Lib.hid (show g4 ≠ r from by
        have h1 := (own_row HO4.out g4 rfl).1
        have h2 := H2.out.lt
        omega)
      have HGW := Lib.hid (show w.heap.size ≤ g4 from Nat.le_trans HL2.out.size (own_row HO4.out g4 rfl).1)
      have HC4 := Lib.hid hc4
      have hc5 : (n : Int) ≤ (c4 : Int) := by omega
      have HXC := Lib.hid (show splice x.cl.toArray 34 [.slice (some ⟨g4, 0, none⟩) n c4] = ({ x with A := some ⟨g4, 0, none⟩, c := c4 } : Crt).cl.toArray by rw [← HNN.out]; exact crt_splice x HX.out _ _)
      have HYL := Lib.hid (show ({ x with A := some ⟨g4, 0, none⟩, c := c4 } : Crt).cl.length = 35 from ({ x with A := some ⟨g4, 0, none⟩, c := c4 } : Crt).cl_len ⟨HX.out.height, HX.out.round, HX.out.id, HX.out.n, HX.out.ms⟩)
      obtain ⟨Y, hY⟩ : ∃ Y, ({ x with A := some ⟨g4, 0, none⟩, c := c4 } : Crt).cl = Y := ⟨_, rfl⟩
      have HY := Lib.hid hY
      have HY1 := Lib.hid (show ∀ u ∈ (Value.agg Y.toArray).cells.toList, u.oneCell' = true by rw [← hY]; exact crt_one _)
      rw [hY] at HXC HYL
      clear hY hlt hc4 HB4 HO4 HK H2 HL2
      go_wp2_with (with_reducible show wpList _ _ _ (Oper.mk _ (Op.store 32 _ _) _ _ _ _ :: _) _ _; go_must (refine wpList_store_part rfl 32 _ _ rfl g 34 rfl (.slice (some ⟨g4, 0, none⟩) n c4) rfl _ _ HK4.out (by rw [show (Value.slice (some ⟨g4, 0, none⟩) n c4).cells.size = 1 from rfl]; exact info_slMk) (by simp [Value.cells, HL.out]) (by simp [Value.cells, Value.oneCell']) ?_))
      intro w7 h7 hg7 hs7
      have HK7 := Lib.hid (show Bk w7 g Y.toArray 34 from bk_eqT h7 (by show splice x.cl.toArray 34 [.slice (some ⟨g4, 0, none⟩) n c4] = _; exact HXC.out))
      have HR7 := Lib.hid (HR4.out.grown hg7 (by have := HNE.out; intro e; injection e with e; omega))
      have HW7 := Lib.hid (below_grown2 HW4.out hg7 HGG.out HW4.out.size)
      have HF7 := Lib.hid (rd_grown HRF.out hg7 (by intro ad ha; injection ha with ha; subst ha; have := HGN.out; intro e; injection e with e; exact this e.symm))
      clear h7 hg7 hs7
      go_wp2_with (first
        | (with_reducible show wpList _ _ _ (Oper.mk (some 27) (Op.load _ _) _ _ _ _ :: _) _ _; go_must (refine wpList_load_part rfl 34 _ rfl g 0 35 rfl _ _ _ HK7.out Tryd.underlying34 rfl info_Crt (by simp [HYL.out]) _ (cl_allN HYL.out) ?_))
        | (with_reducible show wpList _ _ _ (Oper.mk _ (Op.store 34 _ _) _ _ _ _ :: _) _ _; go_must (refine wpList_store_bk rfl 34 _ _ rfl r rfl (.agg Y.toArray) rfl _ _ HR7.out (by rw [show (Value.agg Y.toArray).cells.size = 35 by simp [Value.cells, HYL.out]]; exact info_Crt) (by simp [Value.cells, HYL.out, zeroCrtC_len]) HY1.out ?_)))
      intro w8 h8 hg8 hs8
      have HB8 := Lib.hid (below_grown2 HW7.out hg8 HGR.out HW7.out.size)
      have H8 := Lib.hid (show Bk w8 r Y.toArray 34 from h8)
      have HF8 := Lib.hid (rd_grown HF7.out hg8 (by intro ad ha; injection ha with ha; subst ha; have := HGR4.out; intro e; injection e with e; exact this e.symm))
      clear h8 hg8 hs8
      go_wp2
      exact bodyPost_cell rfl rfl H8.out Tryd.underlying34 rfl info_Crt (by simp [HYL.out]) rfl ⟨some ⟨g4, 0, none⟩, c4, by rw [HY.out], ⟨⟨g4, rfl⟩, by show x.n + 2 ≤ c4; rw [HNN.out]; exact HC4.out, by show Rd w8 (some ⟨g4, 0, none⟩) (x.ms.flatMap Mk.cl ++ tags 2); rw [HMM.out]; exact HF8.out⟩, HB8.out, g4, rfl, HGW.out⟩
end Go.Proofs.YtjdegphpalhapaaDoor
namespace Go.Proofs.YtjdegphpalhapaaDoor
set_option linter.unusedSimpArgs false
set_option linter.unusedVariables false
open Go.RowKit
set_option maxRecDepth 100000

theorem tag_0 (w : World) : Calls Tryd.prog 32 #[.int .i64 0] w fun e w' => e = .returned (.int .u64 7700) ∧ w = w' := tag_any w 0 (by omega)
theorem tag_1 (w : World) : Calls Tryd.prog 32 #[.int .i64 1] w fun e w' => e = .returned (.int .u64 7701) ∧ w = w' := tag_any w 1 (by omega)
theorem rd_zero_cell {w : World} {g j : Nat} {xs : List Value} {u : Value} (h : Rd w (some ⟨g, 0, none⟩) xs) (hu : xs[j]? = some u) : w.cell? ⟨g, j, none⟩ = some u := by
  have := rd_cells h j u hu
  have e : (⟨g, 0, none⟩ : Addr).add j = ⟨g, j, none⟩ := by unfold Addr.add; split <;> simp_all
  rwa [e] at this
theorem tags_at {L : List Value} {n m N : Nat} {T : Nat → List Value} (hl : L.length = n * N) (hT : ∀ i, (T i).length = N) (i f : Nat) (u : Value) (hi : i < 2) (hf : (T i)[f]? = some u) : (L ++ (List.range 2).flatMap T)[(n + i) * N + f]? = some u := by
  have hfl : f < N := by rw [← hT i]; exact (List.getElem?_eq_some_iff.1 hf).1
  rw [List.getElem?_append_right (by rw [hl, Nat.add_mul]; omega), hl, Nat.add_mul, show n * N + i * N + f - n * N = i * N + f by omega]
  have e2 : (List.range 2).flatMap T = T 0 ++ T 1 := by simp [List.range_succ]
  rw [e2]
  match i, hi with
  | 0, _ => rw [List.getElem?_append_left (by rw [hT]; omega)]; simpa using hf
  | 1, _ => rw [List.getElem?_append_right (by rw [hT]; omega), hT, show 1 * N + f - N = f by omega]; exact hf

set_option maxHeartbeats 2000000 in
theorem keptCert_any (w : World) (x : Crt) (hx : x.ok) (hl : x.lent w) (hbig : x.n ≤ 5000000000000) :
    Calls Tryd.prog 41 #[.agg x.cl.toArray] w fun e w' => e = .returned (.bool true) ∧ Below w.heap.size w w' := by
  have HX := Lib.hid hx
  have HML := Lib.hid (show (x.ms.flatMap Mk.cl).length = x.n * 18 by rw [fl_len x.ms (fun m hm => m.cl_len (hx.ms m hm)), ← hx.n])
  obtain ⟨g0, hg0⟩ := hl.A
  have HC := Lib.hid hl.c
  have HR := Lib.hid (show Rd w (some ⟨g0, 0, none⟩) (x.ms.flatMap Mk.cl ++ tags 2) from hg0 ▸ hl.rd)
  have HG := Lib.hid hg0
  clear hx hl hg0
  go_enter Tryd.func41, Tryd.ntmps41
  go_wp2_with (with_reducible show wpList _ _ _ (Oper.mk _ (Op.box _ _) _ _ _ _ :: _) _ _; refine wpList_box_i rfl _ _ rfl _ rfl ?_)
  intro g w1 hk1 hb1 hg1 hs1
  have HB1 := Lib.hid hb1
  have hR1 := HR.out.below hb1
  have c34 : w1.cell? ⟨g, 34, none⟩ = some (.slice (some ⟨g0, 0, none⟩) x.n x.c) := ((bk_eqT (cs' := x.cl.toArray) hk1 rfl).cell 34).trans (by rw [x.cl_34 HX.out.id, HG.out])
  obtain ⟨n, hnn⟩ : ∃ n, x.n = n := ⟨_, rfl⟩
  obtain ⟨cp, hcp⟩ : ∃ cp, x.c = cp := ⟨_, rfl⟩
  have hc := HC.out
  have hml := HML.out
  rw [hnn, hcp] at c34 hc
  rw [hnn] at hml hbig
  have t0 : w1.cell? ⟨g0, n * 18 + 1, none⟩ = some (.int .u64 7700) := rd_zero_cell hR1 (by have := tags_at (n := n) (m := 0) (N := 18) (T := tagMk) hml tagMk_len 0 1 (.int .u64 7700) (by omega) rfl; simpa [tags] using this)
  have t1 : w1.cell? ⟨g0, (n + 1) * 18 + 1, none⟩ = some (.int .u64 7701) := rd_zero_cell hR1 (by have := tags_at (n := n) (m := 0) (N := 18) (T := tagMk) hml tagMk_len 1 1 (.int .u64 7701) (by omega) rfl; simpa [tags] using this)
  have p1 : IntKind.i64.wrap ((n : Int) + 2) = (n : Int) + 2 := by rw [IntKind.wrap_i64]; omega
  have p2 : IntKind.i64.wrap ((n : Int) + 1) = (n : Int) + 1 := by rw [IntKind.wrap_i64]; omega
  have p3 : (n : Int) + 2 ≤ (cp : Int) := by omega
  have p4 : (0 : Int) ≤ (n : Int) + 2 := by omega
  have p5 : ((n : Int) + 2).toNat = n + 2 := by omega
  have p6 : (0 : Int) ≤ (n : Int) + 1 := by omega
  have p7 : ((n : Int) + 1).toNat = n + 1 := by omega
  have p8 : (n : Int) < (n : Int) + 2 := by omega
  have p9 : (n : Int) + 1 < (n : Int) + 2 := by omega
  have pa : n < n + 2 := by omega
  have pb : n + 1 < n + 2 := by omega
  clear hk1 hb1 hg1 hs1 hR1 hml hc hnn hcp
  go_wp2_with fail
  refine wp_region_still_tail 17 (by kernel_rfl) (by kernel_rfl) ?_
  simp only [List.take_succ_cons, List.take_zero, List.drop_succ_cons, List.drop_zero]
  refine still_quiet _ _ ?_
  repeat (first | go_big_quiet_skip | (go_big_quiet_want; go_big_quiet_op; first | go_big_quiet_on | (apply Exists.intro; refine ⟨still_of (by first | (go_at_call 32; first | exact tag_0 _ | exact tag_1 _)), ?_⟩; go_big_quiet_on)))
  refine wpQuiet_nil ?_
  change wpList _ _ _ _ _ w1.drew
  go_wp2
  go_ret
  exact ⟨by first | rfl | simp, HB1.out.drew⟩
end Go.Proofs.YtjdegphpalhapaaDoor
namespace Go.Proofs.YtjdegphpalhapaaDoor
set_option linter.unusedSimpArgs false
set_option linter.unusedVariables false
open Go.RowKit
set_option maxRecDepth 100000

section
variable {P : Program} {ops : Array Oper} {ks : List Known} {w : World} {a0 a : Act} {i : Nat} {d : Tmp}
theorem FreeStep.load_at {o : Oper} {x : Value} (ty : TypeId) (p : Operand) (ho : ops[i]? = some o) (hop : o.op = .load ty p) (hg : o.guard = none) (hd : o.dst = some d) (hs : decide (d < a.tmps.size) = true) (hf : a.defers = a0.defers) (hk : kat ks i = Is x)
    (ad : Addr) (n : Nat) (hx : a.eval p = .pointer (some ad)) (vs : List Value) (hc : ∀ j v, vs[j]? = some v → w.cell? (ad.add j) = some v) (td : TypeDesc) (hu : P.underlying ty = some td) (hda : aggD td = true) (hi : (P.info? ty).map (·.size) = some n) (hn : vs.length = n)
    (hxv : x = .agg vs.toArray) : FreeStep P ops ks w a0 i d [] a := by
  refine FreeStep.det ho hg hd hs hf hk ?_
  have hl : (loadCells ad vs.length).run P w = .ok vs.toArray w := run_loadCells_list (P := P) w ad vs hc
  rw [hn] at hl
  have hagg : (isAgg ty).run P w = .ok true w := by
    rw [run_isAgg hu w]
    congr 1
    unfold isAggT
    rw [hu]
    cases td <;> simp [aggD] at hda ⊢
  have hv : (loadVar ty ad).run P w = .ok (.agg vs.toArray) w := by
    simp [loadVar, Sem.run_bind, hagg, run_sizeOf' hi, hl]
  unfold execOp
  simp only [hop, hx, Instr.loadAt, Instr.sureAddr, Sem.run_bind, Sem.run_pure, Result.andThen_ok, hv, hxv]
end
theorem cell_keepB {w0 w' : World} {p : Addr} {u : Value} (h : w0.cell? p = some u) (hb : Below w0.heap.size w0.drew w') : w'.cell? p = some u :=
  cell_keep (w := w0.drew) h hb
theorem flat_Mk : flat Tryd.prog 3 106 = some ([.int .i64, .int .u64] ++ List.replicate 16 (.int .u8)) := by kernel_rfl
theorem agg_Mk : isAggT Tryd.prog 106 = true := by kernel_rfl
theorem guard_Mk : Tryd.prog.eqGuardType Tryd.prog.depth 106 = false := by kernel_rfl
theorem fits_Mk {m : Mk} (h : m.ok) : Fits ([.int .i64, .int .u64] ++ List.replicate 16 (.int .u8)) m.cl := Fits.app ⟨rfl, rfl, trivial⟩ (by rw [← h.sl]; exact Fits.bytes m.sl)

set_option maxHeartbeats 4000000 in
theorem sameCert_any (w : World) (x : Crt) (A' : Option Addr) (c' : Nat) (hx : x.ok) (h1 : Rd w A' (x.ms.flatMap Mk.cl)) (h2 : x.at w) (hbig : x.n ≤ 5000000000000) :
    Calls Tryd.prog 40 #[.agg ({ x with A := A', c := c' } : Crt).cl.toArray, .agg x.cl.toArray] w fun e w' => e = .returned (.bool true) ∧ Below w.heap.size w w' := by
  have HX := Lib.hid hx
  have HY := Lib.hid (show ({ x with A := A', c := c' } : Crt).ok from ⟨hx.height, hx.round, hx.id, hx.n, hx.ms⟩)
  have HL := Lib.hid (x.cl_len hx)
  have HLY := Lib.hid (({ x with A := A', c := c' } : Crt).cl_len HY.out)
  have HR1 := Lib.hid h1
  have HR2 := Lib.hid (show Rd w x.A (x.ms.flatMap Mk.cl) from h2)
  have HMN := Lib.hid (show ∀ m ∈ x.ms, m.cl.length = 18 from fun m hm => m.cl_len (hx.ms m hm))
  clear hx h1 h2
  go_enter Tryd.func40, Tryd.ntmps40
  go_wp2_with (with_reducible show wpList _ _ _ (Oper.mk _ (Op.box _ _) _ _ _ _ :: _) _ _; refine wpList_box_i rfl _ _ rfl _ rfl ?_)
  intro ga w1 hk1 hb1 hg1 hs1
  go_wp2_with (with_reducible show wpList _ _ _ (Oper.mk _ (Op.box _ _) _ _ _ _ :: _) _ _; refine wpList_box_i rfl _ _ rfl _ rfl ?_)
  intro gb w2 hk2 hb2 hg2 hs2
  have HKA := Lib.hid ((bk_eqT (cs' := ({ x with A := A', c := c' } : Crt).cl.toArray) hk1 rfl).below hb2 hk1.lt)
  have HKB := Lib.hid (bk_eqT (cs' := x.cl.toArray) hk2 rfl)
  have HB2 := Lib.hid (hb1.trans (hb2.mono hb1.size))
  have a0 : w2.cell? ⟨ga, 0, none⟩ = some (.int .u64 x.height) := HKA.out.cell 0
  have a1 : w2.cell? ⟨ga, 1, none⟩ = some (.int .i64 x.round) := HKA.out.cell 1
  have a2 : w2.cell? ⟨ga, 34, none⟩ = some (.slice A' x.n c') := (HKA.out.cell 34).trans (({ x with A := A', c := c' } : Crt).cl_34 HY.out.id)
  have b0 : w2.cell? ⟨gb, 0, none⟩ = some (.int .u64 x.height) := HKB.out.cell 0
  have b1 : w2.cell? ⟨gb, 1, none⟩ = some (.int .i64 x.round) := HKB.out.cell 1
  have b2 : w2.cell? ⟨gb, 34, none⟩ = some (.slice x.A x.n x.c) := (HKB.out.cell 34).trans (x.cl_34 HX.out.id)
  clear hk1 hb1 hg1 hs1 hk2 hb2 hg2 hs2
  go_wp2_with (first
    | (with_reducible show wpList _ _ _ (Oper.mk (some 20) (Op.load 29 _) _ _ _ _ :: _) _ _; go_must (refine wpList_load_part rfl 29 _ rfl ga 2 32 rfl _ _ _ HKA.out Tryd.underlying29 rfl info_hash (by simp [HLY.out]) _ (({ x with A := A', c := c' } : Crt).cl_id HY.out.id) ?_))
    | (with_reducible show wpList _ _ _ (Oper.mk (some 22) (Op.load 29 _) _ _ _ _ :: _) _ _; go_must (refine wpList_load_part rfl 29 _ rfl gb 2 32 rfl _ _ _ HKB.out Tryd.underlying29 rfl info_hash (by simp [HL.out]) _ (x.cl_id HX.out.id) ?_))
    | (with_reducible show wpList _ _ _ (Oper.mk (some 23) (Op.binOp BinOp.neq _ _ _ _) _ _ _ _ :: _) _ _; go_must (refine wpList_neq_flat rfl 29 _ _ _ rfl (bv x.id) (bv x.id) rfl rfl 2 _ flat_hash (by omega) agg_hash guard_hash (fits_hash HX.out.id) (fits_hash HX.out.id) true (by simp) ?_)))
  obtain ⟨n, hnn⟩ : ∃ n, x.n = n := ⟨_, rfl⟩
  obtain ⟨cp, hcp⟩ : ∃ cp, x.c = cp := ⟨_, rfl⟩
  obtain ⟨B', hBB⟩ : ∃ A, x.A = A := ⟨_, rfl⟩
  obtain ⟨ms, hms⟩ : ∃ ms, x.ms = ms := ⟨_, rfl⟩
  have HNM := Lib.hid (show n = ms.length by rw [← hnn, ← hms]; exact HX.out.n)
  have HMO := Lib.hid (show ∀ m ∈ ms, m.ok by rw [← hms]; exact HX.out.ms)
  have HA34 := Lib.hid (show ({ x with A := A', c := c' } : Crt).cl.toArray[34]? = some (.slice A' n c') by rw [({ x with A := A', c := c' } : Crt).cl_34 HY.out.id]; show some (Value.slice A' x.n c') = _; rw [hnn])
  have HB34 := Lib.hid (show x.cl.toArray[34]? = some (.slice B' n cp) by rw [x.cl_34 HX.out.id, hnn, hcp, hBB])
  rw [hms] at HR1 HMN
  rw [hBB, hms] at HR2
  rw [hnn] at hbig
  clear a0 a1 a2 b0 b1 b2 hnn hcp hBB hms
  go_loopw [5] (fun i wr => ∃ k : Nat, k ≤ n ∧ i = .int .i64 (k : Int) ∧ Bk wr ga ({ x with A := A', c := c' } : Crt).cl.toArray 34 ∧ Bk wr gb x.cl.toArray 34 ∧ Below w.heap.size w wr) (fun i _ => n - (intOf i).toNat)
  case atStart => exact ⟨0, by omega, rfl, HKA.out, HKB.out, HB2.out⟩
  case round =>
    clear HKA HKB HB2
    obtain ⟨k, hk, rfl, h4, h5, h6⟩ := hrel
    have HKA := Lib.hid h4
    have HKB := Lib.hid h5
    have HW := Lib.hid h6
    have ca : wr.cell? ⟨ga, 34, none⟩ = some (.slice A' n c') := (h4.cell 34).trans HA34.out
    clear h4 h5 h6
    by_cases hlt : k < n
    · have hkl : k < ms.length := by rw [← HNM.out]; exact hlt
      obtain ⟨aa, hA, hcA⟩ := rd_elem (by omega) HMN.out (HR1.out.below HW.out) hkl
      obtain ⟨ab, hB, hcB⟩ := rd_elem (by omega) HMN.out (HR2.out.below HW.out) hkl
      obtain ⟨m, hmk⟩ : ∃ m, ms[k] = m := ⟨_, rfl⟩
      have HMK := Lib.hid (HMO.out m (by rw [← hmk]; exact List.getElem_mem hkl))
      rw [hmk] at hcA hcB
      have HCA := Lib.hid hcA
      have HCB := Lib.hid hcB
      subst hA hB
      have HKAD := Lib.hid (show Bk wr.drew ga ({ x with A := some aa, c := c' } : Crt).cl.toArray 34 from HKA.out.drew)
      have HKBD := Lib.hid (show Bk wr.drew gb x.cl.toArray 34 from HKB.out.drew)
      clear hcA hcB hmk
      have hi : (k : Int) < n := by omega
      have p1 : IntKind.i64.wrap ((k : Int) + 1) = (k : Int) + 1 := by rw [IntKind.wrap_i64]; omega
      go_wp2_with fail
      refine wp_region_free [(41, []), (42, [(0, 41)]), (43, []), (44, [(1, 42), (2, 43)]), (45, [(3, 44)]), (46, []), (47, [(5, 46)]), (48, []), (49, [(6, 47), (7, 48)]), (50, [(8, 49)])]
        [Is (.pointer (some ⟨ga, 34, none⟩)), Is (.slice (some aa) n c'), Is (.int .i64 (k : Int)), Is (.pointer (some (aa.add (k * 18)))), Is (.agg m.cl.toArray), Is (.pointer (some ⟨gb, 34, none⟩)), Is (.slice (some ab) n cp), Is (.int .i64 (k : Int)), Is (.pointer (some (ab.add (k * 18)))), Is (.agg m.cl.toArray)]
        (by kernel_rfl) (by kernel_rfl) (by rfl) ?st ?steps ?fin
      case st => exact ⟨Is.steady _, Is.steady _, Is.steady _, Is.steady _, Is.steady _, Is.steady _, Is.steady _, Is.steady _, Is.steady _, Is.steady _, trivial⟩
      case steps =>
        refine FreeSteps.cons (fun w4 hw4 => ?_) ?_
        · refine FreeStep.op rfl rfl ?_
          (try simp only [Act.put, List.setIfInBounds_toArray, List.set_cons_zero, List.set_cons_succ])
          go_wp2_with fail
          exact QStep.mk rfl (Below.refl _ _) rfl
        refine FreeSteps.cons (fun w4 hw4 => FreeStep.is rfl ?_) ?_
        · have c : w4.cell? ⟨ga, 34, none⟩ = some (.slice (some aa) n c') := ((HKAD.out.below hw4 HKAD.out.lt).cell 34).trans HA34.out
          refine FreeStep.op rfl rfl ?_
          (try simp only [Act.put, List.setIfInBounds_toArray, List.set_cons_zero, List.set_cons_succ])
          go_wp2_with fail
          exact QStep.mk rfl (Below.refl _ _) rfl
        refine FreeSteps.cons (fun w4 hw4 => ?_) ?_
        · refine FreeStep.op rfl rfl ?_
          (try simp only [Act.put, List.setIfInBounds_toArray, List.set_cons_zero, List.set_cons_succ])
          go_wp2_with fail
          exact QStep.mk rfl (Below.refl _ _) rfl
        refine FreeSteps.cons (fun w4 hw4 => FreeStep.is rfl (FreeStep.is rfl ?_)) ?_
        · refine FreeStep.op rfl rfl ?_
          (try simp only [Act.put, List.setIfInBounds_toArray, List.set_cons_zero, List.set_cons_succ])
          go_wp2_with fail
          exact QStep.mk rfl (Below.refl _ _) rfl
        refine FreeSteps.cons (fun w4 hw4 => FreeStep.is rfl ?_) ?_
        · refine FreeStep.load_at 106 _ rfl rfl rfl rfl (by rfl) rfl rfl (aa.add (k * 18)) 18 rfl m.cl (fun j u hu => cell_keepB (w0 := wr) (HCA.out j u hu) hw4) _ Tryd.underlying106 rfl info_Mk (m.cl_len HMK.out) rfl
        refine FreeSteps.cons (fun w4 hw4 => ?_) ?_
        · refine FreeStep.op rfl rfl ?_
          (try simp only [Act.put, List.setIfInBounds_toArray, List.set_cons_zero, List.set_cons_succ])
          go_wp2_with fail
          exact QStep.mk rfl (Below.refl _ _) rfl
        refine FreeSteps.cons (fun w4 hw4 => FreeStep.is rfl ?_) ?_
        · have c : w4.cell? ⟨gb, 34, none⟩ = some (.slice (some ab) n cp) := ((HKBD.out.below hw4 HKBD.out.lt).cell 34).trans HB34.out
          refine FreeStep.op rfl rfl ?_
          (try simp only [Act.put, List.setIfInBounds_toArray, List.set_cons_zero, List.set_cons_succ])
          go_wp2_with fail
          exact QStep.mk rfl (Below.refl _ _) rfl
        refine FreeSteps.cons (fun w4 hw4 => ?_) ?_
        · refine FreeStep.op rfl rfl ?_
          (try simp only [Act.put, List.setIfInBounds_toArray, List.set_cons_zero, List.set_cons_succ])
          go_wp2_with fail
          exact QStep.mk rfl (Below.refl _ _) rfl
        refine FreeSteps.cons (fun w4 hw4 => FreeStep.is rfl (FreeStep.is rfl ?_)) ?_
        · refine FreeStep.op rfl rfl ?_
          (try simp only [Act.put, List.setIfInBounds_toArray, List.set_cons_zero, List.set_cons_succ])
          go_wp2_with fail
          exact QStep.mk rfl (Below.refl _ _) rfl
        refine FreeSteps.cons (fun w4 hw4 => FreeStep.is rfl ?_) ?_
        · refine FreeStep.load_at 106 _ rfl rfl rfl rfl (by rfl) rfl rfl (ab.add (k * 18)) 18 rfl m.cl (fun j u hu => cell_keepB (w0 := wr) (HCB.out j u hu) hw4) _ Tryd.underlying106 rfl info_Mk (m.cl_len HMK.out) rfl
        exact FreeSteps.nil
      case fin =>
        intro w4 hw4
        refine FreeEnd.is rfl ?_
        refine FreeEnd.is rfl ?_
        refine FreeEnd.is rfl ?_
        refine FreeEnd.is rfl ?_
        refine FreeEnd.is rfl ?_
        refine FreeEnd.is rfl ?_
        refine FreeEnd.is rfl ?_
        refine FreeEnd.is rfl ?_
        refine FreeEnd.is rfl ?_
        refine FreeEnd.is rfl ?_
        refine FreeEnd.nil ?_
        (try simp only [Act.put, List.setIfInBounds_toArray, List.set_cons_zero, List.set_cons_succ])
        simp only [List.length_cons, List.length_nil, Nat.reduceAdd, List.drop_succ_cons, List.drop_zero]
        have HW4 := Lib.hid (show Below wr.heap.size wr w4 from (Below.refl _ _).drew.trans hw4)
        clear hw4
        go_wp2_with (with_reducible show wpList _ _ _ (Oper.mk _ (Op.binOp BinOp.neq _ _ _ _) _ _ _ _ :: _) _ _; go_must (refine wpList_neq_flat rfl 106 _ _ _ rfl m.cl m.cl rfl rfl 3 _ flat_Mk (by omega) agg_Mk guard_Mk (fits_Mk HMK.out) (fits_Mk HMK.out) true (by simp) ?_))
        go_round
        case rel => exact ⟨k + 1, by omega, by go_num, HKA.out.below HW4.out HKA.out.lt, HKB.out.below HW4.out HKB.out.lt, HW.out.trans (HW4.out.mono HW.out.size)⟩
        case measure => simp [intOf]; omega
    · have hkn : k = n := by omega
      have hi : ¬ (k : Int) < n := by omega
      go_wp2
      go_ret
      exact ⟨rfl, HW.out⟩
end Go.Proofs.YtjdegphpalhapaaDoor

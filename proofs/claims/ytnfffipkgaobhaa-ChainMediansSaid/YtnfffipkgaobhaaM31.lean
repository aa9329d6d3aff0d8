/-
  A copy with a mark behind it, 'append(append([]T{}, l...), mark)[:len(l)]', in a region that draws its order: what is known of each value, and the steps. No condition: lemmas over any program.
  The law's own copies: ownCouncil; what it marks, markedCouncil; sameCouncil. Conditions: each number fits its kind; the members lie in the world.
  The law's own copy of a block, a mark behind each list. Conditions: each number fits its kind; the lists lie in the world.
-/
import Derived.Test.YtnfffipkgaobhaaM30
import Derived.Test.YtnfffipkgaobhaaM25
namespace Go.Proofs.Ytnfffipkgaobhaa
set_option linter.unusedSimpArgs false
set_option linter.unusedVariables false
open Go.RowKit
set_option maxRecDepth 100000

theorem own_slice2 {w : World} {B : Nat} {e : TypeId} {size n c : Nat} {A : Option Addr} {xs : List Value} (h : w.ownsRow B e size (.slice A n c) n xs) (hn : 0 < n) : ∃ g, A = some ⟨g, 0, none⟩ ∧ n ≤ c ∧ B ≤ g := by
  obtain ⟨g, cc, hv, h1, h2, _⟩ := own_slice h hn
  injection hv with e1 _ e3
  exact ⟨g, e1, by omega, h2⟩
def KE (B : Nat) (e : TypeId) (sz : Nat) : Known := fun v w => w.ownsRow B e sz v 0 [] ∧ ∃ g, v = .slice (some ⟨g, 0, none⟩) 0 0
def KL (B : Nat) (e : TypeId) (sz n : Nat) (ML : List Value) : Known := fun v w => ∃ A c, v = .slice A n c ∧ w.ownsRow B e sz v n ML
def KM (mk : List Value) : Known := fun v w => ∃ g, v = .slice (some ⟨g, 0, none⟩) 1 1 ∧ Rd w (some ⟨g, 0, none⟩) mk
def KA (B : Nat) (e : TypeId) (sz n : Nat) (X : List Value) (k : Nat) : Known := fun v w => ∃ g c, v = .slice (some ⟨g, 0, none⟩) k c ∧ n + 1 ≤ c ∧ B ≤ g ∧ w.ownsRow B e sz (.slice (some ⟨g, 0, none⟩) (n + 1) c) (n + 1) X
section
variable {B N n sz : Nat} {mk ML : List Value} {e : TypeId}
theorem KE.steady : SteadyW (Prot B N mk e) (KE B e sz) := fun v w w' h hp => ⟨hp.own h.1 (fun j hj => by simp at hj), h.2⟩
theorem KL.steady (hN : n * sz = N) : SteadyW (Prot B N mk e) (KL B e sz n ML) := fun v w w' ⟨A, c, h1, h2⟩ hp => ⟨A, c, h1, hp.own h2 (fun j hj => .inl (by omega))⟩
theorem KM.steady (hN : n * sz = N) (hm : mk.length = sz) : SteadyW (Prot B N mk e) (KM mk) := fun v w w' ⟨g, h1, h2⟩ hp => ⟨g, h1, hp.rd h2 (by
  rcases Nat.eq_zero_or_pos n with h0 | h0
  · left; rw [← hN, h0]; simp
  · right; rw [← hN, hm]; exact Nat.le_mul_of_pos_left _ h0)⟩
theorem KA.steady {k : Nat} (hN : n * sz = N) (hm : mk.length = sz) (hl : ML.length = N) : SteadyW (Prot B N mk e) (KA B e sz n (ML ++ mk) k) := fun v w w' ⟨g, c, h1, h2, h3, h4⟩ hp => ⟨g, c, h1, h2, h3, hp.own h4 (fun j hj => by
  rcases Nat.lt_or_ge j N with h5 | h5
  · exact .inl h5
  · right
    refine ⟨by rw [Nat.add_mul] at hj; omega, ?_⟩
    rw [List.getElem?_append_right (by omega), hl])⟩
end
section
variable {P : Program}
theorem run_lit0 {t e : TypeId} {sz : Nat} {z : Value} (ht : P.underlying t = some (.slice e)) (hi : (P.info? e).map (·.size) = some sz) (hz : (P.info? e).bind (·.zero) = some z) (w : World) :
    (Instr.buildSlice t 0 #[]).run P w = .ok (.slice (some ⟨w.heap.size, 0, none⟩) 0 0) (w.alloc (.cells #[] e)) := by
  unfold Instr.buildSlice
  simp only [Sem.run_bind, run_underlying ht, Result.andThen_ok, run_sizeOf' hi, Nat.zero_mul, Sem.run_pure, run_zero hz]
  simp [newRow, go_sem, Instr.fill]
end
section
variable {P : Program} {ops : Array Oper} {ks : List Known} {w : World} {a0 a : Act} {i : Nat} {d : Tmp} {B N n : Nat} {mk ML : List Value} {e : TypeId}
theorem stepLit0 {o : Oper} {sz : Nat} {z : Value} (t : TypeId) (ho : ops[i]? = some o) (hop : o.op = .buildSlice t 0 #[]) (hg : o.guard = none) (hd : o.dst = some d) (hs : decide (d < a.tmps.size) = true) (hf : a.defers = a0.defers) (hk : kat ks i = KE B e sz)
    (ht : P.underlying t = some (.slice e)) (hi : (P.info? e).map (·.size) = some sz) (hz : (P.info? e).bind (·.zero) = some z) (hB : B ≤ w.heap.size) : FreeStepW (Prot B N mk e) P ops ks w a0 i d [] a := by
  refine FreeStepW.op ho hk (wpList_plain hg fun K' hK' => ?_)
  unfold Oper.wp execOp
  simp only [hop, List.map_toArray, List.map_nil, Sem.run_bind, Sem.run_pure, Result.andThen_ok, run_lit0 ht hi hz w]
  refine hK' _ _ ⟨by rw [hd]; exact hf, Prot.of_below ((Below.refl _ _).alloc (Nat.le_refl _) _), ?_⟩
  have hsd : d < a.tmps.size := by simpa using hs
  rw [hd, put_get hsd]
  exact ⟨World.ownsRow_lit (base := B) (e := e) (size := sz) w #[] 0 hB (by unfold maxLen; omega) (by simp), _, rfl⟩
theorem stepLit1 {o : Oper} {sz : Nat} {z : Value} (t : TypeId) (x : Operand) (ho : ops[i]? = some o) (hop : o.op = .buildSlice t 1 #[(0, x)]) (hg : o.guard = none) (hd : o.dst = some d) (hs : decide (d < a.tmps.size) = true) (hf : a.defers = a0.defers) (hk : kat ks i = KM mk)
    (hx : a.eval x = .agg mk.toArray) (ht : P.underlying t = some (.slice e)) (hi : (P.info? e).map (·.size) = some sz) (hz : (P.info? e).bind (·.zero) = some z) (hsz : 0 < sz) (h24 : sz ≤ 16777216) (hm : mk.length = sz) : FreeStepW (Prot B N mk e) P ops ks w a0 i d [] a := by
  refine FreeStepW.op ho hk (wpList_plain hg fun K' hK' => ?_)
  unfold Oper.wp execOp
  simp only [hop, Sem.run_bind, Sem.run_pure, Result.andThen_ok, List.map_toArray, List.map_cons, List.map_nil, hx, run_lit1 ht hi hz hsz h24 (show mk.toArray.size = sz by simpa using hm) w]
  refine hK' _ _ ⟨by rw [hd]; exact hf, Prot.of_below ((Below.refl _ _).alloc (Nat.le_refl _) _), ?_⟩
  have hsd : d < a.tmps.size := by simpa using hs
  rw [hd, put_get hsd]
  exact ⟨_, rfl, Rd.of_bk (Bk.new w e _) 0 _ (fun j u hu => by simpa using hu)⟩
/-- the first append: the copy -/
theorem stepApp1 {o : Oper} {inf : TypeInfo} {z : Value} {sz bytes : Nat} (s x : Operand) (t : TypeId) (ho : ops[i]? = some o) (hop : o.op = .call { callee := .builtin .append, args := #[s, x], argTypes := #[t, t] }) (hg : o.guard = none) (hd : o.dst = some d) (hs : decide (d < a.tmps.size) = true) (hf : a.defers = a0.defers) (hk : kat ks i = KL B e sz n ML)
    (ht : P.underlying t = some (.slice e)) (hi : P.info? e = some inf) (hz : inf.zero = some z) (hsize : inf.size = sz) (hby : inf.bytes = bytes) (hzs : z.cells.size = sz) (hsz : 0 < sz) (g : Nat) (hsv : a.eval s = .slice (some ⟨g, 0, none⟩) 0 0) (hown : w.ownsRow B e sz (.slice (some ⟨g, 0, none⟩) 0 0) 0 [])
    (A : Option Addr) (c : Nat) (hx : a.eval x = .slice A n c) (hl : ML.length = n * sz) (hr : Rd w A ML) (h1 : ∀ u ∈ ML, u.oneCell' = true) (h63 : n ≤ maxLen) (hbytes : n * bytes ≤ 140737488355328) (hB : B ≤ w.heap.size) : FreeStepW (Prot B N mk e) P ops ks w a0 i d [] a := by
  refine FreeStepW.append ho hg hd hs hf hk s x t hop B inf z sz bytes ht hi hz hsize hby hzs hsz _ 0 [] hsv hown A n c ML hx hl hr h1 (by rw [Nat.zero_add]; exact h63) (by rw [Nat.zero_add]; exact hbytes) hB (Nat.le_refl _) (fun g' cap he hc => ?_) (fun A' c' w' h5 hp => ?_)
  · injection he with _ _ he
    left
    have hn0 : n = 0 := by omega
    rw [hn0, Nat.zero_mul] at hl
    exact List.eq_nil_of_length_eq_zero hl
  · rw [Nat.zero_add] at h5 ⊢
    exact ⟨A', c', rfl, by simpa using h5⟩
/-- the second append: the mark -/
theorem stepApp2 {o : Oper} {inf : TypeInfo} {z : Value} {sz bytes : Nat} (s x : Operand) (t : TypeId) (ho : ops[i]? = some o) (hop : o.op = .call { callee := .builtin .append, args := #[s, x], argTypes := #[t, t] }) (hg : o.guard = none) (hd : o.dst = some d) (hs : decide (d < a.tmps.size) = true) (hf : a.defers = a0.defers) (hk : kat ks i = KA B e sz n (ML ++ mk) (n + 1))
    (ht : P.underlying t = some (.slice e)) (hi : P.info? e = some inf) (hz : inf.zero = some z) (hsize : inf.size = sz) (hby : inf.bytes = bytes) (hzs : z.cells.size = sz) (hsz : 0 < sz) (A3 : Option Addr) (c3 : Nat) (hsv : a.eval s = .slice A3 n c3) (hown : w.ownsRow B e sz (.slice A3 n c3) n ML)
    (r : Nat) (hx : a.eval x = .slice (some ⟨r, 0, none⟩) 1 1) (hm : mk.length = sz) (hr : Rd w (some ⟨r, 0, none⟩) mk) (h1 : ∀ u ∈ mk, u.oneCell' = true) (h63 : n + 1 ≤ maxLen) (hbytes : (n + 1) * bytes ≤ 140737488355328) (hB : B ≤ w.heap.size) (hN : n * sz = N) : FreeStepW (Prot B N mk e) P ops ks w a0 i d [] a := by
  refine FreeStepW.append ho hg hd hs hf hk s x t hop B inf z sz bytes ht hi hz hsize hby hzs hsz _ n ML hsv hown _ 1 1 mk hx (by rw [hm, Nat.one_mul]) hr h1 h63 hbytes hB (Nat.le_refl _) (fun g' cap he hc => .inr ⟨hN, rfl⟩) (fun A' c' w' h5 hp => ?_)
  obtain ⟨g, rfl, h6, h7⟩ := own_slice2 h5 (by omega)
  exact ⟨g, c', rfl, h6, h7, h5⟩
end
end Go.Proofs.Ytnfffipkgaobhaa
namespace Go.Proofs.Ytnfffipkgaobhaa
set_option linter.unusedSimpArgs false
set_option linter.unusedVariables false
open Go.RowKit
set_option maxRecDepth 100000

def markMem : List Value := [.int .u64 71, .int .u64 72, .int .i64 0]
theorem built_markMem : Try.prog.built 53 [(0, .int .u64 71), (1, .int .u64 72)] = some markMem.toArray := by kernel_rfl
theorem mems_one (ms : List Mem) : ∀ u ∈ ms.flatMap Mem.cl, u.oneCell' = true := by
  intro u hu
  obtain ⟨m, _, hm⟩ := List.mem_flatMap.1 hu
  exact mem_one m u (by simpa [Value.cells] using hm)
theorem markMem_one : ∀ u ∈ markMem, u.oneCell' = true := by
  intro u hu
  simp only [markMem, List.mem_cons, List.not_mem_nil, or_false] at hu
  rcases hu with rfl | rfl | rfl <;> rfl
theorem built_Cou (A : Option Addr) (n c : Nat) : Try.prog.built 24 [(0, .slice A n c)] = some #[.slice A n c] := by kernel_rfl
theorem zero_Cou : (Try.prog.info? 24).bind (·.zero) = some (.agg #[.slice none 0 0]) := by kernel_rfl

set_option maxHeartbeats 4000000 in
theorem ownCouncil_any (w : World) (A : Option Addr) (n c : Nat) (ms : List Mem) (hn : n = ms.length) (hr : Rd w A (ms.flatMap Mem.cl)) (hbig : n * 24 ≤ 140737488351232) :
    Calls Try.prog 4 #[.agg #[.slice A n c]] w fun e w' => ∃ g c', e = .returned (.agg #[.slice (some ⟨g, 0, none⟩) n c']) ∧ n + 1 ≤ c' ∧ Rd w' (some ⟨g, 0, none⟩) (ms.flatMap Mem.cl ++ markMem) ∧ Below w.heap.size w w' := by
  have HR := Lib.hid hr
  have HML := Lib.hid (show (ms.flatMap Mem.cl).length = n * 3 by rw [fl_len ms memln, hn])
  have HMO := Lib.hid (mems_one ms)
  obtain ⟨ML, hML⟩ : ∃ ML, ms.flatMap Mem.cl = ML := ⟨_, rfl⟩
  rw [hML] at HML HMO HR ⊢
  have HBIG := Lib.hid hbig
  clear hML hn hr hbig
  obtain ⟨i0, hi, hz0, hz1, hz2⟩ := info_parts info_Mem3
  go_enter Try.func4, Try.ntmps4
  go_wp2_with ((with_reducible show wpList _ _ _ (Oper.mk _ (Op.box _ _) _ _ _ _ :: _) _ _); refine wpList_box_i rfl _ _ rfl _ rfl ?_)
  intro g w1 hk1 hb1 hg1 hs1
  go_wp2_with ((with_reducible show wpList _ _ _ (Oper.mk _ (Op.alloc _) _ _ _ _ :: _) _ _); refine wpList_alloc_i rfl 24 rfl (.agg #[.slice none 0 0]) zero_Cou ?_)
  intro r w2 h2 hl2 hg2 hs2
  have HK := Lib.hid ((bk_eqT (cs' := #[.slice A n c]) hk1 rfl).below hl2 hk1.lt)
  have H2 := Lib.hid (bk_eqT (cs' := #[.slice none 0 0]) h2 rfl)
  have HL2 := Lib.hid (hb1.trans (hl2.mono hb1.size))
  have HGR := Lib.hid (show w.heap.size ≤ r by have := hb1.size; omega)
  have HRM := Lib.hid (HR.out.below HL2.out)
  have c2 : w2.cell? ⟨g, 0, none⟩ = some (.slice A n c) := HK.out.cell 0
  clear hk1 hb1 hg1 hs1 h2 hl2 hg2 hs2 HR
  have HO := Lib.hid (show (w2.alloc (.cells #[] 53)).ownsRow w2.heap.size 53 3 (.slice (some ⟨w2.heap.size, 0, none⟩) 0 0) 0 [] from World.ownsRow_lit (base := w2.heap.size) (e := 53) (size := 3) w2 #[] 0 (Nat.le_refl _) (by unfold maxLen; omega) (by simp))
  have HA := Lib.hid (show Below w2.heap.size w2 (w2.alloc (.cells #[] 53)) from (Below.refl _ _).alloc (Nat.le_refl _) _)
  have HRA := Lib.hid (HRM.out.below HA.out)
  have c3 : (w2.alloc (.cells #[] 53)).cell? ⟨g, 0, none⟩ = some (.slice A n c) := cell_keep c2 HA.out
  go_wp2_with (first
    | ((with_reducible show wpList _ _ _ (Oper.mk (some 7) (Op.call _) _ _ _ _ :: _) _ _); go_must (refine wpList_append_rd _ rfl _ _ 22 rfl w2.heap.size 53 i0 (.agg zeroMem.toArray) 3 24 Try.underlying22 hi hz0 hz1 hz2 (by simpa [Value.cells] using zeroMem_sz) (by decide) (.slice (some ⟨w2.heap.size, 0, none⟩) 0 0) 0 [] rfl HO.out A n c ML rfl HML.out HRA.out HMO.out (by have := HBIG.out; unfold maxLen; omega) (by have := HBIG.out; omega) HA.out.size ?_); intro A' c' w3 own3 hg3 hat3; have HO3 := Lib.hid (show w3.ownsRow w2.heap.size 53 3 (.slice A' n c') n ML from by simpa using own3); have HB3 := Lib.hid (below_own HA.out HO.out (Nat.le_refl _) hg3 HA.out.size); (try rw [show 0 + n = n by omega]); clear own3 hg3 hat3 HO HA HRA c2 c3; obtain ⟨o1, ho1⟩ : ∃ o1, Obj.cells markMem.toArray 53 = o1 := ⟨_, rfl⟩; have HA5 := Lib.hid (show Below w3.heap.size w3 (w3.alloc o1) from (Below.refl _ _).alloc (Nat.le_refl _) _); have HO5 := Lib.hid (own_below HO3.out HA5.out); have HB5 := Lib.hid (HB3.out.trans (HA5.out.mono HB3.out.size)); have HR5 := Lib.hid (show Rd (w3.alloc o1) (some ⟨w3.heap.size, 0, none⟩) markMem from by rw [← ho1]; exact Rd.of_bk (Bk.new w3 _ _) 0 _ (fun j u hu => by simpa using hu)))
    | ((with_reducible show wpList _ _ _ (Oper.mk (some 8) (Op.build _ _) _ _ _ _ :: _) _ _); go_must (refine wpList_buildv rfl 53 [(0, .const (.int .u64 71)), (1, .const (.int .u64 72))] rfl [(0, .int .u64 71), (1, .int .u64 72)] rfl markMem.toArray built_markMem ?_))
    | ((with_reducible show wpList _ _ _ (Oper.mk (some 9) (Op.buildSlice _ _ _) _ _ _ _ :: _) _ _); go_must (refine wpList_lit1 rfl 22 _ rfl markMem.toArray rfl 53 3 (.agg zeroMem.toArray) Try.underlying22 info_Mem zero_Mem (by decide) (by decide) rfl ?_); rw [ho1])
    | ((with_reducible show wpList _ _ _ (Oper.mk (some 10) (Op.call _) _ _ _ _ :: _) _ _); go_must (refine wpList_append_rd _ rfl _ _ 22 rfl w2.heap.size 53 i0 (.agg zeroMem.toArray) 3 24 Try.underlying22 hi hz0 hz1 hz2 (by simpa [Value.cells] using zeroMem_sz) (by decide) (.slice A' n c') n ML rfl HO5.out _ 1 1 markMem rfl rfl HR5.out markMem_one (by have := HBIG.out; unfold maxLen; omega) (by have := HBIG.out; omega) HB5.out.size ?_); go_must (intro A6 c6 w6 own6 hg6 hat6; obtain ⟨g6, rfl, hc6, hg7⟩ := own_slice2 own6 (by omega); have HO6 := Lib.hid own6; have HB6 := Lib.hid (below_own HB5.out HO5.out (Nat.le_refl _) hg6 HB5.out.size); have c6c : w6.cell? ⟨g, 0, none⟩ = some (.slice A n c) := (HK.out.below HB6.out HK.out.lt).cell 0; have hc7 : (n : Int) ≤ (c6 : Int) := (by omega); have HC6 := Lib.hid hc6; have HG6 := Lib.hid (show w2.heap.size ≤ g6 from hg7); have HR6 := Lib.hid (H2.out.below HB6.out H2.out.lt); clear own6 hg6 hat6 hc6 hg7 HO5 HB5 HA5 HR5 ho1))
    | ((with_reducible show wpList _ _ _ (Oper.mk (some 16) (Op.build _ _) _ _ _ _ :: _) _ _); go_must (refine wpList_buildv rfl 24 [(0, .tmp 15)] rfl [(0, .slice (some ⟨g6, 0, none⟩) n c6)] rfl #[.slice (some ⟨g6, 0, none⟩) n c6] (built_Cou _ _ _) ?_))
    | ((with_reducible show wpList _ _ _ (Oper.mk _ (Op.store 24 _ _) _ _ _ _ :: _) _ _); go_must (refine wpList_store_bk rfl 24 _ _ rfl r rfl (.agg #[.slice (some ⟨g6, 0, none⟩) n c6]) rfl _ _ HR6.out (by exact info_Cou) rfl (by intro u hu; simp [Value.cells] at hu; subst hu; rfl) ?_)))
  intro w8 h8 hg8 hs8
  have HNE := Lib.hid (show r ≠ g6 from by have h1 := H2.out.lt; have h2 := HG6.out; omega)
  have HW6 := Lib.hid (HL2.out.trans (HB6.out.mono HL2.out.size))
  have HB8 := Lib.hid (below_grown2 HW6.out hg8 HGR.out HW6.out.size)
  have H8 := Lib.hid (show Bk w8 r #[.slice (some ⟨g6, 0, none⟩) n c6] 24 from h8)
  have HF8 := Lib.hid (rd_grown (Rd.of_own HO6.out) hg8 (by intro ad ha; injection ha with ha; subst ha; intro e; injection e with e; exact HNE.out e))
  clear h8 hg8 hs8
  go_wp2
  exact bodyPost_cell rfl rfl H8.out Try.underlying24 rfl info_Cou rfl rfl ⟨g6, c6, rfl, HC6.out, HF8.out, HB8.out⟩
end Go.Proofs.Ytnfffipkgaobhaa
namespace Go.Proofs.Ytnfffipkgaobhaa
set_option linter.unusedSimpArgs false
set_option linter.unusedVariables false
open Go.RowKit
set_option maxRecDepth 100000

def markTx : List Value := [.int .i64 (-71), .int .u64 0, .int .u64 0, .int .u64 0, .int .u64 0, .int .u64 0] ++ bv (zer 16)
def markVote : List Value := [.int .i64 (-71), .int .u64 0, .int .i64 0] ++ bv (zer 32) ++ [.int .u64 0, .int .u64 0] ++ bv (zer 16)
def markEv : List Value := markVote ++ zeroVote
def markMk : List Value := [.int .i64 (-71), .int .u64 0] ++ bv (zer 16)
theorem markTx_len : markTx.length = 22 := rfl
theorem markEv_len : markEv.length = 106 := rfl
theorem markMk_len : markMk.length = 18 := rfl
theorem built_markTx : Try.prog.built 55 [(0, .int .i64 (-71))] = some markTx.toArray := by kernel_rfl
theorem built_markVote : Try.prog.built 57 [(0, .int .i64 (-71))] = some markVote.toArray := by kernel_rfl
theorem built_markEv : Try.prog.built 59 [(0, .agg markVote.toArray)] = some markEv.toArray := by kernel_rfl
theorem built_markMk : Try.prog.built 50 [(0, .int .i64 (-71))] = some markMk.toArray := by kernel_rfl
theorem markTx_one : ∀ u ∈ markTx, u.oneCell' = true := int_one _ (fun u hu => by
  simp only [markTx, List.mem_append, List.mem_cons, List.not_mem_nil, or_false] at hu
  rcases hu with (rfl | rfl | rfl | rfl | rfl | rfl) | hu
  all_goals first | exact ⟨_, _, rfl⟩ | exact bv_int _ u hu)
theorem markVote_int : ∀ u ∈ markVote, ∃ k n, u = Value.int k n := fun u hu => by
  simp only [markVote, List.mem_append, List.mem_cons, List.not_mem_nil, or_false] at hu
  rcases hu with ((((rfl | rfl | rfl) | hu) | (rfl | rfl)) | hu)
  all_goals first | exact ⟨_, _, rfl⟩ | exact bv_int _ u hu
theorem zeroVote_int : ∀ u ∈ zeroVote, ∃ k n, u = Value.int k n := fun u hu => by
  simp only [zeroVote, List.mem_append, List.mem_cons, List.not_mem_nil, or_false] at hu
  rcases hu with ((((rfl | rfl | rfl) | hu) | (rfl | rfl)) | hu)
  all_goals first | exact ⟨_, _, rfl⟩ | exact bv_int _ u hu
theorem markEv_one : ∀ u ∈ markEv, u.oneCell' = true := int_one _ (fun u hu => by
  rcases List.mem_append.1 hu with hu | hu
  · exact markVote_int u hu
  · exact zeroVote_int u hu)
theorem markMk_one : ∀ u ∈ markMk, u.oneCell' = true := int_one _ (fun u hu => by
  simp only [markMk, List.mem_append, List.mem_cons, List.not_mem_nil, or_false] at hu
  rcases hu with (rfl | rfl) | hu
  all_goals first | exact ⟨_, _, rfl⟩ | exact bv_int _ u hu)
/-- a copy with a mark behind each list -/
structure Blk.owned (x : Blk) (w : World) : Prop where
  tr : Rd w x.tA (x.ts.flatMap Tx.cl ++ markTx)
  er : Rd w x.eA (x.es.flatMap Ev.cl ++ markEv)
  cA : ∃ g, x.ct.A = some ⟨g, 0, none⟩
  cc : x.ct.n + 1 ≤ x.ct.c
  cr : Rd w x.ct.A (x.ct.ms.flatMap Mk.cl ++ markMk)
theorem bl_34 {H C : List Value} {a b : Value} (hH : H.length = 228) (j : Nat) (v : Value) (h : C.toArray[j]? = some v) : (H ++ ([a, b] ++ C)).toArray[230 + j]? = some v := by
  rw [List.getElem?_toArray, List.getElem?_append_right (by omega), hH, show 230 + j - 228 = 2 + j by omega, List.getElem?_append_right (by simp)]
  simpa using h
theorem bl_s34 {H C : List Value} {a b : Value} (v : Value) (hH : H.length = 228) (hC : C.length = 35) : splice (H ++ ([a, b] ++ C)).toArray 264 [v] = (H ++ ([a, b] ++ (splice C.toArray 34 [v]).toList)).toArray := by
  have hs : C = C.take 34 ++ C.drop 34 := (List.take_append_drop 34 C).symm
  obtain ⟨c, hc⟩ : ∃ c, C.drop 34 = [c] := by
    have : (C.drop 34).length = 1 := by rw [List.length_drop, hC]
    match hd : C.drop 34, this with
    | [c], _ => exact ⟨c, rfl⟩
  have hl : (C.take 34).length = 34 := by rw [List.length_take, hC]; rfl
  rw [hc] at hs
  rw [hs]
  have e1 : H ++ ([a, b] ++ (C.take 34 ++ [c])) = (H ++ ([a, b] ++ C.take 34)) ++ ([c] ++ []) := by simp
  have e2 : (splice (C.take 34 ++ [c]).toArray 34 [v]) = (C.take 34 ++ [v]).toArray := by
    have := splice_mid (xs := C.take 34) (ys := [c]) (ws := [v]) (zs := []) hl rfl
    simpa using this
  rw [e1, splice_mid (ys := [c]) (ws := [v]) (zs := []) (by simp [hH, hl]) rfl, e2]
  simp

set_option maxHeartbeats 16000000 in
theorem ownBlock_any (w : World) (x : Blk) (hx : x.ok) (hat : x.at w) :
    Calls Try.prog 5 #[.agg x.cl.toArray] w fun e w' => ∃ tA tc eA ec cA cc, e = .returned (.agg (x.alike tA tc eA ec cA cc).cl.toArray) ∧ (x.alike tA tc eA ec cA cc).owned w' ∧ Below w.heap.size w w' := by
  have HX := Lib.hid hx
  obtain ⟨H, hH⟩ : ∃ H, x.hd.cl = H := ⟨_, rfl⟩
  obtain ⟨C, hC⟩ : ∃ C, x.ct.cl = C := ⟨_, rfl⟩
  have LH := Lib.hid (show H.length = 228 by rw [← hH]; exact x.hd.cl_len hx.hd)
  have LC := Lib.hid (show C.length = 35 by rw [← hC]; exact x.ct.cl_len hx.ct)
  obtain ⟨n, hn⟩ : ∃ n, x.tn = n := ⟨_, rfl⟩
  obtain ⟨m, hm⟩ : ∃ m, x.en = m := ⟨_, rfl⟩
  obtain ⟨k, hk⟩ : ∃ k, x.ct.n = k := ⟨_, rfl⟩
  obtain ⟨tA, htA⟩ : ∃ A, x.tA = A := ⟨_, rfl⟩
  obtain ⟨eA, heA⟩ : ∃ A, x.eA = A := ⟨_, rfl⟩
  obtain ⟨cA, hcA⟩ : ∃ A, x.ct.A = A := ⟨_, rfl⟩
  obtain ⟨tc, htc⟩ : ∃ c, x.tc = c := ⟨_, rfl⟩
  obtain ⟨ec, hec⟩ : ∃ c, x.ec = c := ⟨_, rfl⟩
  obtain ⟨cc, hcc⟩ : ∃ c, x.ct.c = c := ⟨_, rfl⟩
  obtain ⟨TL, hTL⟩ : ∃ L, x.ts.flatMap Tx.cl = L := ⟨_, rfl⟩
  obtain ⟨EL, hEL⟩ : ∃ L, x.es.flatMap Ev.cl = L := ⟨_, rfl⟩
  obtain ⟨CL, hCL⟩ : ∃ L, x.ct.ms.flatMap Mk.cl = L := ⟨_, rfl⟩
  have HTLL := Lib.hid (show TL.length = n * 22 by rw [← hTL, fl_len x.ts (fun t h => t.cl_len (hx.ts t h)), ← hx.tn, hn])
  have HELL := Lib.hid (show EL.length = m * 106 by rw [← hEL, fl_len x.es (fun t h => t.cl_len (hx.es t h)), ← hx.en, hm])
  have HCLL := Lib.hid (show CL.length = k * 18 by rw [← hCL, fl_len x.ct.ms (fun t h => t.cl_len (hx.ct.ms t h)), ← hx.ct.n, hk])
  have HTO := Lib.hid (show ∀ u ∈ TL, u.oneCell' = true by rw [← hTL]; exact txs_one _)
  have HEO := Lib.hid (show ∀ u ∈ EL, u.oneCell' = true by rw [← hEL]; exact evs_one _)
  have HCO := Lib.hid (show ∀ u ∈ CL, u.oneCell' = true by rw [← hCL]; exact mks_one _)
  have HTR0 := Lib.hid (show Rd w tA TL by rw [← hTL, ← htA]; exact hat.t)
  have HER0 := Lib.hid (show Rd w eA EL by rw [← hEL, ← heA]; exact hat.e)
  have HCR0 := Lib.hid (show Rd w cA CL by rw [← hCL, ← hcA]; exact hat.c)
  have HTB := Lib.hid (show n * 64 ≤ 140737488351232 by rw [← hn]; exact hx.tb)
  have HEB := Lib.hid (show m * 176 ≤ 140737488351232 by rw [← hm]; exact hx.eb)
  have HCB := Lib.hid (show k * 32 ≤ 140737488351232 by rw [← hk]; exact hx.cb)
  have HCE := Lib.hid (show x.cl = H ++ ([Value.slice tA n tc, Value.slice eA m ec] ++ C) by unfold Blk.cl; rw [hH, hC, hn, hm, htA, heA, htc, hec])
  have HFIN := Lib.hid (show ∀ a b c d e f, (x.alike a b c d e f).cl = H ++ ([Value.slice a n b, Value.slice c m d] ++ ({ x.ct with A := e, c := f } : Crt).cl) from fun a b c d e f => by unfold Blk.alike Blk.cl; simp only [hH, hn, hm])
  have HSP := Lib.hid (show ∀ A c, splice C.toArray 34 [.slice A k c] = ({ x.ct with A := A, c := c } : Crt).cl.toArray from fun A c => by rw [← hC, ← hk]; exact crt_splice x.ct hx.ct A c)
  have HCT := Lib.hid (show C.toArray[34]? = some (.slice cA k cc) by rw [← hC, x.ct.cl_34 hx.ct.id, hk, hcA, hcc])
  have HOWN := Lib.hid (show ∀ w' a b c d g f, Rd w' a (TL ++ markTx) → Rd w' c (EL ++ markEv) → k + 1 ≤ f → Rd w' (some ⟨g, 0, none⟩) (CL ++ markMk) → (x.alike a b c d (some ⟨g, 0, none⟩) f).owned w' from fun w' a b c d g f h1 h2 h3 h4 => ⟨by rw [← hTL] at h1; exact h1, by rw [← hEL] at h2; exact h2, ⟨g, rfl⟩, by rw [← hk] at h3; exact h3, by rw [← hCL] at h4; exact h4⟩)
  obtain ⟨XC, hXC⟩ : ∃ XC, H ++ ([Value.slice tA n tc, Value.slice eA m ec] ++ C) = XC := ⟨_, rfl⟩
  have X1 := Lib.hid (show XC.toArray[228]? = some (.slice tA n tc) by rw [← hXC]; exact bl_at1 LH.out)
  have X2 := Lib.hid (show XC.toArray[229]? = some (.slice eA m ec) by rw [← hXC]; exact bl_at2 LH.out)
  have X3 := Lib.hid (show XC.toArray[264]? = some (.slice cA k cc) by rw [← hXC]; exact bl_34 LH.out 34 _ HCT.out)
  have LX := Lib.hid (show XC.length = 265 by rw [← hXC]; exact bl_len LH.out LC.out)
  have HXC := Lib.hid hXC
  have HXO := Lib.hid (show ∀ u ∈ (Value.agg XC.toArray).cells.toList, u.oneCell' = true by rw [← hXC, ← HCE.out]; exact blk_one x)
  rw [HCE.out, hXC]
  clear hx hat hH hC hn hm hk htA heA hcA htc hec hcc hTL hEL hCL hXC
  obtain ⟨ti, ti0, tz0, tz1, tz2⟩ := info_parts info_Tx3
  obtain ⟨ei, ei0, ez0, ez1, ez2⟩ := info_parts info_Ev3
  obtain ⟨mi, mi0, mz0, mz1, mz2⟩ := info_parts info_Mk3
  go_enter Try.func5, Try.ntmps5
  go_wp2_with (with_reducible show wpList _ _ _ (Oper.mk _ (Op.box _ _) _ _ _ _ :: _) _ _; refine wpList_box_i rfl _ _ rfl _ rfl ?_)
  intro g w1 hk1 hb1 hg1 hs1
  go_wp2_with (with_reducible show wpList _ _ _ (Oper.mk (some 2) (Op.alloc _) _ _ _ _ :: _) _ _; refine wpList_alloc_i rfl 38 rfl (.agg zeroBlkC.toArray) zero_BlkC ?_)
  intro r w2 hk2 hb2 hg2 hs2
  have HG0 := Lib.hid ((bk_eqT (cs' := XC.toArray) hk1 rfl).below hb2 hk1.lt)
  have HR0 := Lib.hid (bk_eqT (cs' := zeroBlkC.toArray) hk2 rfl)
  have HB2 := Lib.hid (hb1.trans (hb2.mono hb1.size))
  have HRG := Lib.hid (show w.heap.size ≤ r by have := hb1.size; omega)
  clear hk1 hb1 hg1 hs1 hk2 hb2 hg2 hs2
  go_wp2_with (first
    | (with_reducible show wpList _ _ _ (Oper.mk (some 4) (Op.load _ _) _ _ _ _ :: _) _ _; go_must (refine wpList_load_part rfl 38 _ rfl g 0 265 rfl _ _ _ HG0.out Try.underlying38 rfl info_Blk (by simp [LX.out]) _ (cl_allN LX.out) ?_))
    | (with_reducible show wpList _ _ _ (Oper.mk (some 3) (Op.alloc _) _ _ _ _ :: _) _ _; go_must (refine wpList_alloc_i rfl 38 rfl (.agg zeroBlkC.toArray) zero_BlkC ?_)))
  intro h w2b hk2 hb2 hg2 hs2
  have HBb := Lib.hid (HB2.out.trans (hb2.mono HB2.out.size))
  have HGb := Lib.hid (HG0.out.below hb2 HG0.out.lt)
  have HRb := Lib.hid (HR0.out.below hb2 HR0.out.lt)
  have HHb := Lib.hid (bk_eqT (cs' := zeroBlkC.toArray) hk2 rfl)
  have HHG := Lib.hid (show w2.heap.size ≤ h by omega)
  clear hk2 hb2 hg2 hs2
  go_wp2_with (with_reducible show wpList _ _ _ (Oper.mk _ (Op.store 38 _ _) _ _ _ _ :: _) _ _; go_must (refine wpList_store_bk rfl 38 _ _ rfl h rfl (.agg XC.toArray) rfl _ _ HHb.out (by rw [show (Value.agg XC.toArray).cells.size = 265 by simp [Value.cells, LX.out]]; exact info_Blk) (by simp [Value.cells, LX.out, zeroBlkC_len]) HXO.out ?_))
  intro w3 h6 hg6 hs6
  have HNG := Lib.hid (show g ≠ h by have h1 := HG0.out.lt; have h2 := HHG.out; omega)
  have HNR := Lib.hid (show r ≠ h by have h1 := HR0.out.lt; have h2 := HHG.out; omega)
  have HHW := Lib.hid (show w.heap.size ≤ h by have h1 := HB2.out.size; have h2 := HHG.out; omega)
  have HB3 := Lib.hid (below_grown2 HBb.out hg6 HHW.out HBb.out.size)
  have HG := Lib.hid (HGb.out.grown hg6 (by intro e; injection e with e; exact HNG.out e))
  have HRZ := Lib.hid (HRb.out.grown hg6 (by intro e; injection e with e; exact HNR.out e))
  have HH := Lib.hid (show Bk w3 h (H ++ ([Value.slice tA n tc, Value.slice eA m ec] ++ C)).toArray 38 from by rw [HXC.out]; exact h6)
  have HTR := Lib.hid (HTR0.out.below HB3.out)
  have HRN := Lib.hid (show r < w3.heap.size from HRZ.out.lt)
  clear h6 hg6 hs6 HGb HRb HHb HBb HG0 HR0 HB2
  go_wp2_with fail
  refine wp_region_freeW (fun w => Prot.refl _ _ _ _ w) (fun _ _ _ h k => Prot.trans h k) (R := Prot w3.heap.size (n * 22) markTx 55) [(5, []), (6, []), (7, [(1, 6)]), (8, [(0, 5), (2, 7)]), (9, []), (10, [(4, 9)]), (11, [(3, 8), (5, 10)]), (12, []), (13, [(7, 12)]), (14, [(8, 13)]), (15, [(6, 11), (9, 14)]), (16, [])]
    [KE w3.heap.size 55 22, Is (.pointer (some ⟨g, 228, none⟩)), Is (.slice tA n tc), KL w3.heap.size 55 22 n TL, Is (.agg markTx.toArray), KM markTx, KA w3.heap.size 55 22 n (TL ++ markTx) (n + 1), Is (.pointer (some ⟨g, 228, none⟩)), Is (.slice tA n tc), Is (.int .i64 (n : Int)), KA w3.heap.size 55 22 n (TL ++ markTx) n, Is (.pointer (some ⟨h, 228, none⟩))]
    (by kernel_rfl) (by kernel_rfl) (by rfl) ?st ?steps ?fin
  case st => exact ⟨KE.steady, Is.steadyW _ _, Is.steadyW _ _, KL.steady rfl, Is.steadyW _ _, KM.steady rfl markTx_len, KA.steady rfl markTx_len HTLL.out, Is.steadyW _ _, Is.steadyW _ _, Is.steadyW _ _, KA.steady rfl markTx_len HTLL.out, Is.steadyW _ _, trivial⟩
  case steps =>
    refine FreeStepsW.cons (fun w4 hw4 => ?_) ?_
    · have hb4 : Below w3.heap.size w3 w4 := Below.trans (Below.refl _ _).drew (hw4.below (Nat.le_refl _))
      exact stepLit0 35 rfl rfl rfl rfl (by rfl) rfl rfl Try.underlying35 info_Tx zero_TxC hb4.size
    refine FreeStepsW.cons (fun w4 hw4 => ?_) ?_
    · refine FreeStepW.op rfl rfl ?_
      (try simp only [Act.put, List.setIfInBounds_toArray, List.set_cons_zero, List.set_cons_succ])
      go_wp2_with fail
      exact QStepW.mk rfl (Prot.refl _ _ _ _ _) rfl
    refine FreeStepsW.cons (fun w4 hw4 => FreeStepW.is rfl ?_) ?_
    · have hb4 : Below w3.heap.size w3 w4 := Below.trans (Below.refl _ _).drew (hw4.below (Nat.le_refl _))
      have c1 : w4.cell? ⟨g, 228, none⟩ = some (.slice tA n tc) := ((HG.out.below hb4 HG.out.lt).cell 228).trans X1.out
      refine FreeStepW.op rfl rfl ?_
      (try simp only [Act.put, List.setIfInBounds_toArray, List.set_cons_zero, List.set_cons_succ])
      go_wp2_with fail
      exact QStepW.mk rfl (Prot.refl _ _ _ _ _) rfl
    refine FreeStepsW.cons (fun w4 hw4 => FreeStepW.dep rfl (fun v0 hv0 => (FreeStepW.is rfl ?_))) ?_
    · have hb4 : Below w3.heap.size w3 w4 := Below.trans (Below.refl _ _).drew (hw4.below (Nat.le_refl _))
      obtain ⟨ho0, g0, rfl⟩ := hv0
      exact stepApp1 _ _ 35 rfl rfl rfl rfl (by rfl) rfl rfl Try.underlying35 ti0 tz0 tz1 tz2 rfl (by decide) g0 rfl ho0 tA tc rfl HTLL.out (HTR.out.below hb4) HTO.out (by have := HTB.out; unfold maxLen; omega) (by have := HTB.out; omega) hb4.size
    refine FreeStepsW.cons (fun w4 hw4 => ?_) ?_
    · refine FreeStepW.op rfl rfl ?_
      (try simp only [Act.put, List.setIfInBounds_toArray, List.set_cons_zero, List.set_cons_succ])
      refine wpList_buildv rfl 55 [(0, .const (.int .i64 (-71)))] rfl [(0, .int .i64 (-71))] rfl markTx.toArray built_markTx ?_
      exact QStepW.mk rfl (Prot.refl _ _ _ _ _) rfl
    refine FreeStepsW.cons (fun w4 hw4 => FreeStepW.is rfl ?_) ?_
    · exact stepLit1 35 _ rfl rfl rfl rfl (by rfl) rfl rfl rfl Try.underlying35 info_Tx zero_TxC (by decide) (by decide) markTx_len
    refine FreeStepsW.cons (fun w4 hw4 => FreeStepW.dep rfl (fun v0 hv0 => (FreeStepW.dep rfl (fun v1 hv1 => ?_)))) ?_
    · have hb4 : Below w3.heap.size w3 w4 := Below.trans (Below.refl _ _).drew (hw4.below (Nat.le_refl _))
      obtain ⟨A3, c3, rfl, ho3⟩ := hv0
      obtain ⟨r5, rfl, hr5⟩ := hv1
      exact stepApp2 _ _ 35 rfl rfl rfl rfl (by rfl) rfl rfl Try.underlying35 ti0 tz0 tz1 tz2 rfl (by decide) A3 c3 rfl ho3 r5 rfl markTx_len hr5 markTx_one (by have := HTB.out; unfold maxLen; omega) (by have := HTB.out; omega) hb4.size rfl
    refine FreeStepsW.cons (fun w4 hw4 => ?_) ?_
    · refine FreeStepW.op rfl rfl ?_
      (try simp only [Act.put, List.setIfInBounds_toArray, List.set_cons_zero, List.set_cons_succ])
      go_wp2_with fail
      exact QStepW.mk rfl (Prot.refl _ _ _ _ _) rfl
    refine FreeStepsW.cons (fun w4 hw4 => FreeStepW.is rfl ?_) ?_
    · have hb4 : Below w3.heap.size w3 w4 := Below.trans (Below.refl _ _).drew (hw4.below (Nat.le_refl _))
      have c1 : w4.cell? ⟨g, 228, none⟩ = some (.slice tA n tc) := ((HG.out.below hb4 HG.out.lt).cell 228).trans X1.out
      refine FreeStepW.op rfl rfl ?_
      (try simp only [Act.put, List.setIfInBounds_toArray, List.set_cons_zero, List.set_cons_succ])
      go_wp2_with fail
      exact QStepW.mk rfl (Prot.refl _ _ _ _ _) rfl
    refine FreeStepsW.cons (fun w4 hw4 => FreeStepW.is rfl ?_) ?_
    · refine FreeStepW.op rfl rfl ?_
      (try simp only [Act.put, List.setIfInBounds_toArray, List.set_cons_zero, List.set_cons_succ])
      go_wp2_with fail
      exact QStepW.mk rfl (Prot.refl _ _ _ _ _) rfl
    refine FreeStepsW.cons (fun w4 hw4 => FreeStepW.dep rfl (fun v0 hv0 => (FreeStepW.is rfl ?_))) ?_
    · obtain ⟨g6, c6, rfl, h6, h7, ho6⟩ := hv0
      have hc7 : (n : Int) ≤ (c6 : Int) := by omega
      have hc8 : n ≤ c6 := by omega
      refine FreeStepW.op rfl rfl ?_
      (try simp only [Act.put, List.setIfInBounds_toArray, List.set_cons_zero, List.set_cons_succ])
      go_wp2_with fail
      exact QStepW.mk rfl (Prot.refl _ _ _ _ _) ⟨g6, c6, rfl, h6, h7, ho6⟩
    refine FreeStepsW.cons (fun w4 hw4 => ?_) ?_
    · refine FreeStepW.op rfl rfl ?_
      (try simp only [Act.put, List.setIfInBounds_toArray, List.set_cons_zero, List.set_cons_succ])
      go_wp2_with fail
      exact QStepW.mk rfl (Prot.refl _ _ _ _ _) rfl
    exact FreeStepsW.nil
  case fin =>
    intro wf1 hw4
    refine FreeEnd.cons rfl (fun u10 hu10 => ?_)
    refine FreeEnd.is rfl ?_
    refine FreeEnd.is rfl ?_
    refine FreeEnd.cons rfl (fun u13 hu13 => ?_)
    refine FreeEnd.is rfl ?_
    refine FreeEnd.cons rfl (fun u15 hu15 => ?_)
    refine FreeEnd.cons rfl (fun u16 hu16 => ?_)
    refine FreeEnd.is rfl ?_
    refine FreeEnd.is rfl ?_
    refine FreeEnd.is rfl ?_
    refine FreeEnd.cons rfl (fun u110 hu110 => ?_)
    refine FreeEnd.is rfl ?_
    refine FreeEnd.nil ?_
    obtain ⟨gg1, cg1, rfl, h6, h7, ho6⟩ := hu110
    clear hu10
    clear hu13
    clear hu15
    clear hu16
    (try simp only [Act.put, List.setIfInBounds_toArray, List.set_cons_zero, List.set_cons_succ])
    simp only [List.length_cons, List.length_nil, Nat.reduceAdd, List.drop_succ_cons, List.drop_zero]
    have HS1 := Lib.hid (Below.trans (Below.refl _ _).drew (hw4.below (Nat.le_refl _)) : Below w3.heap.size w3 wf1)
    have HC1 := Lib.hid h6
    have HGE1 := Lib.hid h7
    have HRD1 := Lib.hid (Rd.of_own ho6)
    clear hw4 h6 h7 ho6
    have HBwf1 := Lib.hid (HB3.out.trans (HS1.out.mono HB3.out.size))
    have HGwf1 := Lib.hid (HG.out.below HS1.out HG.out.lt)
    have HHwf1 := Lib.hid (HH.out.below HS1.out HH.out.lt)
    have HZwf1 := Lib.hid (HRZ.out.below HS1.out HRZ.out.lt)
    have HGN1 := Lib.hid (show h ≠ gg1 by have h1 := HH.out.lt; have h2 := HGE1.out; omega)
    go_wp2_with (with_reducible show wpList _ _ _ (Oper.mk _ (Op.store 35 _ _) _ _ _ _ :: _) _ _; go_must (refine wpList_store_part rfl 35 _ _ rfl h 228 rfl (.slice (some ⟨gg1, 0, none⟩) n cg1) rfl _ _ HHwf1.out (by rw [show (Value.slice (some ⟨gg1, 0, none⟩) n cg1).cells.size = 1 from rfl]; exact info_slTx) (by simp only [Value.cells, List.size_toArray]; rw [bl_len LH.out LC.out]; simp) (by simp [Value.cells, Value.oneCell']) ?_))
    intro w5 h7 hg7 hs7
    have HB5 := Lib.hid (below_grown2 HBwf1.out hg7 HHW.out HBwf1.out.size)
    have HG := Lib.hid (HGwf1.out.grown hg7 (by intro e; injection e with e; exact HNG.out e))
    have HRZ := Lib.hid (HZwf1.out.grown hg7 (by intro e; injection e with e; exact HNR.out e))
    have HH := Lib.hid (show Bk w5 h (H ++ ([Value.slice (some ⟨gg1, 0, none⟩) n cg1, Value.slice eA m ec] ++ C)).toArray 38 from bk_eqT h7 (bl_1 _ LH.out))
    have HRD1 := Lib.hid (rd_grown HRD1.out hg7 (by intro ad ha; injection ha with ha; subst ha; intro e; injection e with e; exact HGN1.out e))
    have HTR := Lib.hid (HTR0.out.below HB5.out)
    have HER := Lib.hid (HER0.out.below HB5.out)
    have HCR := Lib.hid (HCR0.out.below HB5.out)
    have HB53 := Lib.hid (show w3.heap.size ≤ w5.heap.size from by have h1 := HS1.out.size; omega)
    clear h7 hg7 hs7 HBwf1 HGwf1 HHwf1 HZwf1 HS1 
    go_wp2_with fail
    refine wp_region_freeW (fun w => Prot.refl _ _ _ _ w) (fun _ _ _ h k => Prot.trans h k) (R := Prot w5.heap.size (m * 106) markEv 59) [(17, []), (18, []), (19, [(1, 18)]), (20, [(0, 17), (2, 19)]), (21, []), (22, [(4, 21)]), (23, [(5, 22)]), (24, [(3, 20), (6, 23)]), (25, []), (26, [(8, 25)]), (27, [(9, 26)]), (28, [(7, 24), (10, 27)]), (29, [])]
      [KE w5.heap.size 59 106, Is (.pointer (some ⟨g, 229, none⟩)), Is (.slice eA m ec), KL w5.heap.size 59 106 m EL, Is (.agg markVote.toArray), Is (.agg markEv.toArray), KM markEv, KA w5.heap.size 59 106 m (EL ++ markEv) (m + 1), Is (.pointer (some ⟨g, 229, none⟩)), Is (.slice eA m ec), Is (.int .i64 (m : Int)), KA w5.heap.size 59 106 m (EL ++ markEv) m, Is (.pointer (some ⟨h, 229, none⟩))]
      (by kernel_rfl) (by kernel_rfl) (by rfl) ?st ?steps ?fin
    case st => exact ⟨KE.steady, Is.steadyW _ _, Is.steadyW _ _, KL.steady rfl, Is.steadyW _ _, Is.steadyW _ _, KM.steady rfl markEv_len, KA.steady rfl markEv_len HELL.out, Is.steadyW _ _, Is.steadyW _ _, Is.steadyW _ _, KA.steady rfl markEv_len HELL.out, Is.steadyW _ _, trivial⟩
    case steps =>
      refine FreeStepsW.cons (fun w4 hw4 => ?_) ?_
      · have hb4 : Below w5.heap.size w5 w4 := Below.trans (Below.refl _ _).drew (hw4.below (Nat.le_refl _))
        exact stepLit0 36 rfl rfl rfl rfl (by rfl) rfl rfl Try.underlying36 info_Ev zero_EvC hb4.size
      refine FreeStepsW.cons (fun w4 hw4 => ?_) ?_
      · refine FreeStepW.op rfl rfl ?_
        (try simp only [Act.put, List.setIfInBounds_toArray, List.set_cons_zero, List.set_cons_succ])
        go_wp2_with fail
        exact QStepW.mk rfl (Prot.refl _ _ _ _ _) rfl
      refine FreeStepsW.cons (fun w4 hw4 => FreeStepW.is rfl ?_) ?_
      · have hb4 : Below w5.heap.size w5 w4 := Below.trans (Below.refl _ _).drew (hw4.below (Nat.le_refl _))
        have c1 : w4.cell? ⟨g, 229, none⟩ = some (.slice eA m ec) := ((HG.out.below hb4 HG.out.lt).cell 229).trans X2.out
        refine FreeStepW.op rfl rfl ?_
        (try simp only [Act.put, List.setIfInBounds_toArray, List.set_cons_zero, List.set_cons_succ])
        go_wp2_with fail
        exact QStepW.mk rfl (Prot.refl _ _ _ _ _) rfl
      refine FreeStepsW.cons (fun w4 hw4 => FreeStepW.dep rfl (fun v0 hv0 => (FreeStepW.is rfl ?_))) ?_
      · have hb4 : Below w5.heap.size w5 w4 := Below.trans (Below.refl _ _).drew (hw4.below (Nat.le_refl _))
        obtain ⟨ho0, g0, rfl⟩ := hv0
        exact stepApp1 _ _ 36 rfl rfl rfl rfl (by rfl) rfl rfl Try.underlying36 ei0 ez0 ez1 ez2 rfl (by decide) g0 rfl ho0 eA ec rfl HELL.out (HER.out.below hb4) HEO.out (by have := HEB.out; unfold maxLen; omega) (by have := HEB.out; omega) hb4.size
      refine FreeStepsW.cons (fun w4 hw4 => ?_) ?_
      · refine FreeStepW.op rfl rfl ?_
        (try simp only [Act.put, List.setIfInBounds_toArray, List.set_cons_zero, List.set_cons_succ])
        refine wpList_buildv rfl 57 [(0, .const (.int .i64 (-71)))] rfl [(0, .int .i64 (-71))] rfl markVote.toArray built_markVote ?_
        exact QStepW.mk rfl (Prot.refl _ _ _ _ _) rfl
      refine FreeStepsW.cons (fun w4 hw4 => FreeStepW.is rfl ?_) ?_
      · refine FreeStepW.op rfl rfl ?_
        (try simp only [Act.put, List.setIfInBounds_toArray, List.set_cons_zero, List.set_cons_succ])
        refine wpList_buildv rfl 59 [(0, .tmp 21)] rfl [(0, .agg markVote.toArray)] rfl markEv.toArray built_markEv ?_
        exact QStepW.mk rfl (Prot.refl _ _ _ _ _) rfl
      refine FreeStepsW.cons (fun w4 hw4 => FreeStepW.is rfl ?_) ?_
      · exact stepLit1 36 _ rfl rfl rfl rfl (by rfl) rfl rfl rfl Try.underlying36 info_Ev zero_EvC (by decide) (by decide) markEv_len
      refine FreeStepsW.cons (fun w4 hw4 => FreeStepW.dep rfl (fun v0 hv0 => (FreeStepW.dep rfl (fun v1 hv1 => ?_)))) ?_
      · have hb4 : Below w5.heap.size w5 w4 := Below.trans (Below.refl _ _).drew (hw4.below (Nat.le_refl _))
        obtain ⟨A3, c3, rfl, ho3⟩ := hv0
        obtain ⟨r5, rfl, hr5⟩ := hv1
        exact stepApp2 _ _ 36 rfl rfl rfl rfl (by rfl) rfl rfl Try.underlying36 ei0 ez0 ez1 ez2 rfl (by decide) A3 c3 rfl ho3 r5 rfl markEv_len hr5 markEv_one (by have := HEB.out; unfold maxLen; omega) (by have := HEB.out; omega) hb4.size rfl
      refine FreeStepsW.cons (fun w4 hw4 => ?_) ?_
      · refine FreeStepW.op rfl rfl ?_
        (try simp only [Act.put, List.setIfInBounds_toArray, List.set_cons_zero, List.set_cons_succ])
        go_wp2_with fail
        exact QStepW.mk rfl (Prot.refl _ _ _ _ _) rfl
      refine FreeStepsW.cons (fun w4 hw4 => FreeStepW.is rfl ?_) ?_
      · have hb4 : Below w5.heap.size w5 w4 := Below.trans (Below.refl _ _).drew (hw4.below (Nat.le_refl _))
        have c1 : w4.cell? ⟨g, 229, none⟩ = some (.slice eA m ec) := ((HG.out.below hb4 HG.out.lt).cell 229).trans X2.out
        refine FreeStepW.op rfl rfl ?_
        (try simp only [Act.put, List.setIfInBounds_toArray, List.set_cons_zero, List.set_cons_succ])
        go_wp2_with fail
        exact QStepW.mk rfl (Prot.refl _ _ _ _ _) rfl
      refine FreeStepsW.cons (fun w4 hw4 => FreeStepW.is rfl ?_) ?_
      · refine FreeStepW.op rfl rfl ?_
        (try simp only [Act.put, List.setIfInBounds_toArray, List.set_cons_zero, List.set_cons_succ])
        go_wp2_with fail
        exact QStepW.mk rfl (Prot.refl _ _ _ _ _) rfl
      refine FreeStepsW.cons (fun w4 hw4 => FreeStepW.dep rfl (fun v0 hv0 => (FreeStepW.is rfl ?_))) ?_
      · obtain ⟨g6, c6, rfl, h6, h7, ho6⟩ := hv0
        have hc7 : (m : Int) ≤ (c6 : Int) := by omega
        have hc8 : m ≤ c6 := by omega
        refine FreeStepW.op rfl rfl ?_
        (try simp only [Act.put, List.setIfInBounds_toArray, List.set_cons_zero, List.set_cons_succ])
        go_wp2_with fail
        exact QStepW.mk rfl (Prot.refl _ _ _ _ _) ⟨g6, c6, rfl, h6, h7, ho6⟩
      refine FreeStepsW.cons (fun w4 hw4 => ?_) ?_
      · refine FreeStepW.op rfl rfl ?_
        (try simp only [Act.put, List.setIfInBounds_toArray, List.set_cons_zero, List.set_cons_succ])
        go_wp2_with fail
        exact QStepW.mk rfl (Prot.refl _ _ _ _ _) rfl
      exact FreeStepsW.nil
    case fin =>
      intro wf2 hw4
      refine FreeEnd.cons rfl (fun u20 hu20 => ?_)
      refine FreeEnd.is rfl ?_
      refine FreeEnd.is rfl ?_
      refine FreeEnd.cons rfl (fun u23 hu23 => ?_)
      refine FreeEnd.is rfl ?_
      refine FreeEnd.is rfl ?_
      refine FreeEnd.cons rfl (fun u26 hu26 => ?_)
      refine FreeEnd.cons rfl (fun u27 hu27 => ?_)
      refine FreeEnd.is rfl ?_
      refine FreeEnd.is rfl ?_
      refine FreeEnd.is rfl ?_
      refine FreeEnd.cons rfl (fun u211 hu211 => ?_)
      refine FreeEnd.is rfl ?_
      refine FreeEnd.nil ?_
      obtain ⟨gg2, cg2, rfl, h6, h7, ho6⟩ := hu211
      clear hu20
      clear hu23
      clear hu26
      clear hu27
      (try simp only [Act.put, List.setIfInBounds_toArray, List.set_cons_zero, List.set_cons_succ])
      simp only [List.length_cons, List.length_nil, Nat.reduceAdd, List.drop_succ_cons, List.drop_zero]
      have HS2 := Lib.hid (Below.trans (Below.refl _ _).drew (hw4.below (Nat.le_refl _)) : Below w5.heap.size w5 wf2)
      have HC2 := Lib.hid h6
      have HGE2 := Lib.hid h7
      have HRD2 := Lib.hid (Rd.of_own ho6)
      clear hw4 h6 h7 ho6
      have HBwf2 := Lib.hid (HB5.out.trans (HS2.out.mono HB5.out.size))
      have HGwf2 := Lib.hid (HG.out.below HS2.out HG.out.lt)
      have HHwf2 := Lib.hid (HH.out.below HS2.out HH.out.lt)
      have HZwf2 := Lib.hid (HRZ.out.below HS2.out HRZ.out.lt)
      have HQ1wf2 := Lib.hid (HRD1.out.below HS2.out)
      have HGN2 := Lib.hid (show h ≠ gg2 by have h1 := HH.out.lt; have h2 := HGE2.out; omega)
      go_wp2_with (with_reducible show wpList _ _ _ (Oper.mk _ (Op.store 36 _ _) _ _ _ _ :: _) _ _; go_must (refine wpList_store_part rfl 36 _ _ rfl h 229 rfl (.slice (some ⟨gg2, 0, none⟩) m cg2) rfl _ _ HHwf2.out (by rw [show (Value.slice (some ⟨gg2, 0, none⟩) m cg2).cells.size = 1 from rfl]; exact info_slEv) (by simp only [Value.cells, List.size_toArray]; rw [bl_len LH.out LC.out]; simp) (by simp [Value.cells, Value.oneCell']) ?_))
      intro w7 h7 hg7 hs7
      have HB7 := Lib.hid (below_grown2 HBwf2.out hg7 HHW.out HBwf2.out.size)
      have HG := Lib.hid (HGwf2.out.grown hg7 (by intro e; injection e with e; exact HNG.out e))
      have HRZ := Lib.hid (HZwf2.out.grown hg7 (by intro e; injection e with e; exact HNR.out e))
      have HH := Lib.hid (show Bk w7 h (H ++ ([Value.slice (some ⟨gg1, 0, none⟩) n cg1, Value.slice (some ⟨gg2, 0, none⟩) m cg2] ++ C)).toArray 38 from bk_eqT h7 (bl_2 _ LH.out))
      have HRD1 := Lib.hid (rd_grown HQ1wf2.out hg7 (by intro ad ha; injection ha with ha; subst ha; intro e; injection e with e; exact HGN1.out e))
      have HRD2 := Lib.hid (rd_grown HRD2.out hg7 (by intro ad ha; injection ha with ha; subst ha; intro e; injection e with e; exact HGN2.out e))
      have HTR := Lib.hid (HTR0.out.below HB7.out)
      have HER := Lib.hid (HER0.out.below HB7.out)
      have HCR := Lib.hid (HCR0.out.below HB7.out)
      have HB75 := Lib.hid (show w5.heap.size ≤ w7.heap.size from by have h1 := HS2.out.size; omega)
      clear h7 hg7 hs7 HBwf2 HGwf2 HHwf2 HZwf2 HS2 HQ1wf2
      go_wp2_with fail
      refine wp_region_freeW (fun w => Prot.refl _ _ _ _ w) (fun _ _ _ h k => Prot.trans h k) (R := Prot w7.heap.size (k * 18) markMk 50) [(30, []), (31, []), (32, [(1, 31)]), (33, [(2, 32)]), (34, [(0, 30), (3, 33)]), (35, []), (36, [(5, 35)]), (37, [(4, 34), (6, 36)]), (38, []), (39, [(8, 38)]), (40, [(9, 39)]), (41, [(10, 40)]), (42, [(7, 37), (11, 41)]), (43, []), (44, [(13, 43)])]
        [KE w7.heap.size 50 18, Is (.pointer (some ⟨g, 230, none⟩)), Is (.pointer (some ⟨g, 264, none⟩)), Is (.slice cA k cc), KL w7.heap.size 50 18 k CL, Is (.agg markMk.toArray), KM markMk, KA w7.heap.size 50 18 k (CL ++ markMk) (k + 1), Is (.pointer (some ⟨g, 230, none⟩)), Is (.pointer (some ⟨g, 264, none⟩)), Is (.slice cA k cc), Is (.int .i64 (k : Int)), KA w7.heap.size 50 18 k (CL ++ markMk) k, Is (.pointer (some ⟨h, 230, none⟩)), Is (.pointer (some ⟨h, 264, none⟩))]
        (by kernel_rfl) (by kernel_rfl) (by rfl) ?st ?steps ?fin
      case st => exact ⟨KE.steady, Is.steadyW _ _, Is.steadyW _ _, Is.steadyW _ _, KL.steady rfl, Is.steadyW _ _, KM.steady rfl markMk_len, KA.steady rfl markMk_len HCLL.out, Is.steadyW _ _, Is.steadyW _ _, Is.steadyW _ _, Is.steadyW _ _, KA.steady rfl markMk_len HCLL.out, Is.steadyW _ _, Is.steadyW _ _, trivial⟩
      case steps =>
        refine FreeStepsW.cons (fun w4 hw4 => ?_) ?_
        · have hb4 : Below w7.heap.size w7 w4 := Below.trans (Below.refl _ _).drew (hw4.below (Nat.le_refl _))
          exact stepLit0 28 rfl rfl rfl rfl (by rfl) rfl rfl Try.underlying28 info_Mk zero_Mk hb4.size
        refine FreeStepsW.cons (fun w4 hw4 => ?_) ?_
        · refine FreeStepW.op rfl rfl ?_
          (try simp only [Act.put, List.setIfInBounds_toArray, List.set_cons_zero, List.set_cons_succ])
          go_wp2_with fail
          exact QStepW.mk rfl (Prot.refl _ _ _ _ _) rfl
        refine FreeStepsW.cons (fun w4 hw4 => FreeStepW.is rfl ?_) ?_
        · refine FreeStepW.op rfl rfl ?_
          (try simp only [Act.put, List.setIfInBounds_toArray, List.set_cons_zero, List.set_cons_succ])
          go_wp2_with fail
          exact QStepW.mk rfl (Prot.refl _ _ _ _ _) rfl
        refine FreeStepsW.cons (fun w4 hw4 => FreeStepW.is rfl ?_) ?_
        · have hb4 : Below w7.heap.size w7 w4 := Below.trans (Below.refl _ _).drew (hw4.below (Nat.le_refl _))
          have c1 : w4.cell? ⟨g, 264, none⟩ = some (.slice cA k cc) := ((HG.out.below hb4 HG.out.lt).cell 264).trans X3.out
          refine FreeStepW.op rfl rfl ?_
          (try simp only [Act.put, List.setIfInBounds_toArray, List.set_cons_zero, List.set_cons_succ])
          go_wp2_with fail
          exact QStepW.mk rfl (Prot.refl _ _ _ _ _) rfl
        refine FreeStepsW.cons (fun w4 hw4 => FreeStepW.dep rfl (fun v0 hv0 => (FreeStepW.is rfl ?_))) ?_
        · have hb4 : Below w7.heap.size w7 w4 := Below.trans (Below.refl _ _).drew (hw4.below (Nat.le_refl _))
          obtain ⟨ho0, g0, rfl⟩ := hv0
          exact stepApp1 _ _ 28 rfl rfl rfl rfl (by rfl) rfl rfl Try.underlying28 mi0 mz0 mz1 mz2 (by simpa [Value.cells] using zeroMk_sz) (by decide) g0 rfl ho0 cA cc rfl HCLL.out (HCR.out.below hb4) HCO.out (by have := HCB.out; unfold maxLen; omega) (by have := HCB.out; omega) hb4.size
        refine FreeStepsW.cons (fun w4 hw4 => ?_) ?_
        · refine FreeStepW.op rfl rfl ?_
          (try simp only [Act.put, List.setIfInBounds_toArray, List.set_cons_zero, List.set_cons_succ])
          refine wpList_buildv rfl 50 [(0, .const (.int .i64 (-71)))] rfl [(0, .int .i64 (-71))] rfl markMk.toArray built_markMk ?_
          exact QStepW.mk rfl (Prot.refl _ _ _ _ _) rfl
        refine FreeStepsW.cons (fun w4 hw4 => FreeStepW.is rfl ?_) ?_
        · exact stepLit1 28 _ rfl rfl rfl rfl (by rfl) rfl rfl rfl Try.underlying28 info_Mk zero_Mk (by decide) (by decide) markMk_len
        refine FreeStepsW.cons (fun w4 hw4 => FreeStepW.dep rfl (fun v0 hv0 => (FreeStepW.dep rfl (fun v1 hv1 => ?_)))) ?_
        · have hb4 : Below w7.heap.size w7 w4 := Below.trans (Below.refl _ _).drew (hw4.below (Nat.le_refl _))
          obtain ⟨A3, c3, rfl, ho3⟩ := hv0
          obtain ⟨r5, rfl, hr5⟩ := hv1
          exact stepApp2 _ _ 28 rfl rfl rfl rfl (by rfl) rfl rfl Try.underlying28 mi0 mz0 mz1 mz2 (by simpa [Value.cells] using zeroMk_sz) (by decide) A3 c3 rfl ho3 r5 rfl markMk_len hr5 markMk_one (by have := HCB.out; unfold maxLen; omega) (by have := HCB.out; omega) hb4.size rfl
        refine FreeStepsW.cons (fun w4 hw4 => ?_) ?_
        · refine FreeStepW.op rfl rfl ?_
          (try simp only [Act.put, List.setIfInBounds_toArray, List.set_cons_zero, List.set_cons_succ])
          go_wp2_with fail
          exact QStepW.mk rfl (Prot.refl _ _ _ _ _) rfl
        refine FreeStepsW.cons (fun w4 hw4 => FreeStepW.is rfl ?_) ?_
        · refine FreeStepW.op rfl rfl ?_
          (try simp only [Act.put, List.setIfInBounds_toArray, List.set_cons_zero, List.set_cons_succ])
          go_wp2_with fail
          exact QStepW.mk rfl (Prot.refl _ _ _ _ _) rfl
        refine FreeStepsW.cons (fun w4 hw4 => FreeStepW.is rfl ?_) ?_
        · have hb4 : Below w7.heap.size w7 w4 := Below.trans (Below.refl _ _).drew (hw4.below (Nat.le_refl _))
          have c1 : w4.cell? ⟨g, 264, none⟩ = some (.slice cA k cc) := ((HG.out.below hb4 HG.out.lt).cell 264).trans X3.out
          refine FreeStepW.op rfl rfl ?_
          (try simp only [Act.put, List.setIfInBounds_toArray, List.set_cons_zero, List.set_cons_succ])
          go_wp2_with fail
          exact QStepW.mk rfl (Prot.refl _ _ _ _ _) rfl
        refine FreeStepsW.cons (fun w4 hw4 => FreeStepW.is rfl ?_) ?_
        · refine FreeStepW.op rfl rfl ?_
          (try simp only [Act.put, List.setIfInBounds_toArray, List.set_cons_zero, List.set_cons_succ])
          go_wp2_with fail
          exact QStepW.mk rfl (Prot.refl _ _ _ _ _) rfl
        refine FreeStepsW.cons (fun w4 hw4 => FreeStepW.dep rfl (fun v0 hv0 => (FreeStepW.is rfl ?_))) ?_
        · obtain ⟨g6, c6, rfl, h6, h7, ho6⟩ := hv0
          have hc7 : (k : Int) ≤ (c6 : Int) := by omega
          have hc8 : k ≤ c6 := by omega
          refine FreeStepW.op rfl rfl ?_
          (try simp only [Act.put, List.setIfInBounds_toArray, List.set_cons_zero, List.set_cons_succ])
          go_wp2_with fail
          exact QStepW.mk rfl (Prot.refl _ _ _ _ _) ⟨g6, c6, rfl, h6, h7, ho6⟩
        refine FreeStepsW.cons (fun w4 hw4 => ?_) ?_
        · refine FreeStepW.op rfl rfl ?_
          (try simp only [Act.put, List.setIfInBounds_toArray, List.set_cons_zero, List.set_cons_succ])
          go_wp2_with fail
          exact QStepW.mk rfl (Prot.refl _ _ _ _ _) rfl
        refine FreeStepsW.cons (fun w4 hw4 => FreeStepW.is rfl ?_) ?_
        · refine FreeStepW.op rfl rfl ?_
          (try simp only [Act.put, List.setIfInBounds_toArray, List.set_cons_zero, List.set_cons_succ])
          go_wp2_with fail
          exact QStepW.mk rfl (Prot.refl _ _ _ _ _) rfl
        exact FreeStepsW.nil
      case fin =>
        intro wf3 hw4
        refine FreeEnd.cons rfl (fun u30 hu30 => ?_)
        refine FreeEnd.is rfl ?_
        refine FreeEnd.is rfl ?_
        refine FreeEnd.is rfl ?_
        refine FreeEnd.cons rfl (fun u34 hu34 => ?_)
        refine FreeEnd.is rfl ?_
        refine FreeEnd.cons rfl (fun u36 hu36 => ?_)
        refine FreeEnd.cons rfl (fun u37 hu37 => ?_)
        refine FreeEnd.is rfl ?_
        refine FreeEnd.is rfl ?_
        refine FreeEnd.is rfl ?_
        refine FreeEnd.is rfl ?_
        refine FreeEnd.cons rfl (fun u312 hu312 => ?_)
        refine FreeEnd.is rfl ?_
        refine FreeEnd.is rfl ?_
        refine FreeEnd.nil ?_
        obtain ⟨gg3, cg3, rfl, h6, h7, ho6⟩ := hu312
        clear hu30
        clear hu34
        clear hu36
        clear hu37
        (try simp only [Act.put, List.setIfInBounds_toArray, List.set_cons_zero, List.set_cons_succ])
        simp only [List.length_cons, List.length_nil, Nat.reduceAdd, List.drop_succ_cons, List.drop_zero]
        have HS3 := Lib.hid (Below.trans (Below.refl _ _).drew (hw4.below (Nat.le_refl _)) : Below w7.heap.size w7 wf3)
        have HC3 := Lib.hid h6
        have HGE3 := Lib.hid h7
        have HRD3 := Lib.hid (Rd.of_own ho6)
        clear hw4 h6 h7 ho6
        have HBwf3 := Lib.hid (HB7.out.trans (HS3.out.mono HB7.out.size))
        have HGwf3 := Lib.hid (HG.out.below HS3.out HG.out.lt)
        have HHwf3 := Lib.hid (HH.out.below HS3.out HH.out.lt)
        have HZwf3 := Lib.hid (HRZ.out.below HS3.out HRZ.out.lt)
        have HQ1wf3 := Lib.hid (HRD1.out.below HS3.out)
        have HQ2wf3 := Lib.hid (HRD2.out.below HS3.out)
        have HGN3 := Lib.hid (show h ≠ gg3 by have h1 := HH.out.lt; have h2 := HGE3.out; omega)
        go_wp2_with (with_reducible show wpList _ _ _ (Oper.mk _ (Op.store 28 _ _) _ _ _ _ :: _) _ _; go_must (refine wpList_store_part rfl 28 _ _ rfl h 264 rfl (.slice (some ⟨gg3, 0, none⟩) k cg3) rfl _ _ HHwf3.out (by rw [show (Value.slice (some ⟨gg3, 0, none⟩) k cg3).cells.size = 1 from rfl]; exact info_slMk) (by simp only [Value.cells, List.size_toArray]; rw [bl_len LH.out LC.out]; simp) (by simp [Value.cells, Value.oneCell']) ?_))
        intro w9 h7 hg7 hs7
        have HB9 := Lib.hid (below_grown2 HBwf3.out hg7 HHW.out HBwf3.out.size)
        have HG := Lib.hid (HGwf3.out.grown hg7 (by intro e; injection e with e; exact HNG.out e))
        have HRZ := Lib.hid (HZwf3.out.grown hg7 (by intro e; injection e with e; exact HNR.out e))
        have HH := Lib.hid (show Bk w9 h (H ++ ([Value.slice (some ⟨gg1, 0, none⟩) n cg1, Value.slice (some ⟨gg2, 0, none⟩) m cg2] ++ ({ x.ct with A := some ⟨gg3, 0, none⟩, c := cg3 } : Crt).cl)).toArray 38 from bk_eqT h7 ((bl_s34 _ LH.out LC.out).trans (by rw [HSP.out])))
        have HRD1 := Lib.hid (rd_grown HQ1wf3.out hg7 (by intro ad ha; injection ha with ha; subst ha; intro e; injection e with e; exact HGN1.out e))
        have HRD2 := Lib.hid (rd_grown HQ2wf3.out hg7 (by intro ad ha; injection ha with ha; subst ha; intro e; injection e with e; exact HGN2.out e))
        have HRD3 := Lib.hid (rd_grown HRD3.out hg7 (by intro ad ha; injection ha with ha; subst ha; intro e; injection e with e; exact HGN3.out e))
        have HTR := Lib.hid (HTR0.out.below HB9.out)
        have HER := Lib.hid (HER0.out.below HB9.out)
        have HCR := Lib.hid (HCR0.out.below HB9.out)
        have HB97 := Lib.hid (show w7.heap.size ≤ w9.heap.size from by have h1 := HS3.out.size; omega)
        clear h7 hg7 hs7 HBwf3 HGwf3 HHwf3 HZwf3 HS3 HQ1wf3 HQ2wf3
        obtain ⟨YC, hYC⟩ : ∃ YC, H ++ ([Value.slice (some ⟨gg1, 0, none⟩) n cg1, Value.slice (some ⟨gg2, 0, none⟩) m cg2] ++ ({ x.ct with A := some ⟨gg3, 0, none⟩, c := cg3 } : Crt).cl) = YC := ⟨_, rfl⟩
        have HYX := Lib.hid (show (x.alike (some ⟨gg1, 0, none⟩) cg1 (some ⟨gg2, 0, none⟩) cg2 (some ⟨gg3, 0, none⟩) cg3).cl = YC by rw [HFIN.out, hYC])
        have LY := Lib.hid (show YC.length = 265 by rw [← hYC]; exact bl_len LH.out (Crt.cl_len { x.ct with A := some ⟨gg3, 0, none⟩, c := cg3 } ⟨HX.out.ct.height, HX.out.ct.round, HX.out.ct.id, HX.out.ct.n, HX.out.ct.ms⟩))
        have HYO := Lib.hid (show ∀ u ∈ (Value.agg YC.toArray).cells.toList, u.oneCell' = true by rw [← HYX.out]; exact blk_one _)
        rw [hYC] at HH
        clear hYC
        go_wp2_with (first
          | (with_reducible show wpList _ _ _ (Oper.mk (some 45) (Op.load _ _) _ _ _ _ :: _) _ _; go_must (refine wpList_load_part rfl 38 _ rfl h 0 265 rfl _ _ _ HH.out Try.underlying38 rfl info_Blk (by simp [LY.out]) _ (cl_allN LY.out) ?_))
          | (with_reducible show wpList _ _ _ (Oper.mk _ (Op.store 38 _ _) _ _ _ _ :: _) _ _; go_must (refine wpList_store_bk rfl 38 _ _ rfl r rfl (.agg YC.toArray) rfl _ _ HRZ.out (by rw [show (Value.agg YC.toArray).cells.size = 265 by simp [Value.cells, LY.out]]; exact info_Blk) (by simp [Value.cells, LY.out, zeroBlkC_len]) HYO.out ?_)))
        intro w11 h8 hg8 hs8
        have HB11 := Lib.hid (below_grown2 HB9.out hg8 HRG.out HB9.out.size)
        have H8 := Lib.hid (show Bk w11 r YC.toArray 38 from h8)
        have HRD1 := Lib.hid (rd_grown HRD1.out hg8 (by intro ad ha; injection ha with ha; subst ha; intro e; injection e with e; have e9 : r = gg1 := e; have h2 := HGE1.out; have h3 := HRN.out; omega))
        have HRD2 := Lib.hid (rd_grown HRD2.out hg8 (by intro ad ha; injection ha with ha; subst ha; intro e; injection e with e; have e9 : r = gg2 := e; have h2 := HGE2.out; have h3 := HRN.out; have h4 := HB53.out; omega))
        have HRD3 := Lib.hid (rd_grown HRD3.out hg8 (by intro ad ha; injection ha with ha; subst ha; intro e; injection e with e; have e9 : r = gg3 := e; have h2 := HGE3.out; have h3 := HRN.out; have h4 := HB53.out; have h5 := HB75.out; omega))
        clear h8 hg8 hs8
        go_wp2
        exact bodyPost_cell rfl rfl H8.out Try.underlying38 rfl info_Blk (by simp [LY.out]) rfl ⟨some ⟨gg1, 0, none⟩, cg1, some ⟨gg2, 0, none⟩, cg2, some ⟨gg3, 0, none⟩, cg3, by rw [HYX.out], HOWN.out _ _ _ _ _ _ _ HRD1.out HRD2.out HC3.out HRD3.out, HB11.out⟩
end Go.Proofs.Ytnfffipkgaobhaa

/-
  BlockId: the digest of a header's form, never all zero. Conditions: each number fits its kind; the tables read as they were laid.
  Certificates as cells; zeroCert; a mark laid down. Conditions: each number fits its kind; the marks lie in the world.
  Marks and certificates laid down: Count, putCert$1, putList of marks, putCert. Conditions: what is laid down is plain; the Writer has room; the marks lie below the Writer.
-/
import Derived.Test.YtjdegphpalhapaaDoorK15
namespace Go.Proofs.YtjdegphpalhapaaDoor
set_option linter.unusedSimpArgs false
set_option linter.unusedVariables false
open Go.RowKit
set_option maxRecDepth 100000

def nzH (h : List UInt8) : List UInt8 := if h = zer 32 then zer 31 ++ [1] else h
theorem nzH_len {h : List UInt8} (hl : h.length = 32) : (nzH h).length = 32 := by
  unfold nzH; split
  · rfl
  · exact hl
def idHdr (x : Hdr) : List UInt8 := nzH (sha (17 :: encHdr x))
theorem splice31 : splice (bv (zer 32)).toArray 31 [.int .u8 1] = (bv (zer 31 ++ [1])).toArray := by rfl

set_option maxHeartbeats 2000000 in
theorem BlockId_any (w : World) (x : Hdr) (hx : x.ok) (ht : Tabs w) :
    Calls Tryd.prog 6 #[.agg x.cl.toArray] w (HashRes w (plainHdr x) (idHdr x)) := by
  have HX := Lib.hid hx
  have HT := Lib.hid ht
  have HL := Lib.hid (x.cl_len hx)
  clear hx ht
  go_enter Tryd.func6, Tryd.ntmps6
  go_wp2_with (with_reducible show wpList _ _ _ (Oper.mk _ (Op.box _ _) _ _ _ _ :: _) _ _; refine wpList_box_i rfl _ _ rfl _ rfl ?_)
  intro bx w1 hk1 hl1 hg1 hs1
  go_wp2_with (with_reducible show wpList _ _ _ (Oper.mk _ (Op.alloc _) _ _ _ _ :: _) _ _; refine wpList_alloc_i rfl 29 rfl (.agg (bv (zer 32)).toArray) zero_hash ?_)
  intro r w2 h2 hl2 hg2 hs2
  have HK2 := Lib.hid (hk1.below hl2 hk1.lt)
  have H2 := Lib.hid h2
  have HL2 := Lib.hid (hl1.trans (hl2.mono hl1.size))
  have HR := Lib.hid (show w.heap.size ≤ r by have := hl1.size; omega)
  clear hk1 hl1 h2 hl2 hg1 hs1 hg2
  go_wp2_with (with_reducible show wpList _ _ _ (Oper.mk _ (Op.load _ _) _ _ _ _ :: _) _ _; go_must (refine wpList_load_part rfl 31 _ rfl bx 0 228 rfl _ _ _ HK2.out Tryd.underlying31 rfl info_Hdr (by simp [Value.cells, HL.out]) _ (cl_all228 HL.out) ?_); go_wp2_with fail)
  refine (EncodeHeader_any w2 x HX.out).mono ?_
  rintro en w3 ⟨hl3, hres⟩
  have HL3 := Lib.hid (HL2.out.trans (hl3.mono HL2.out.size))
  have H3 := Lib.hid (H2.out.below hl3 H2.out.lt)
  have HT3 := Lib.hid (((HT.out.below (HL2.out)).below hl3))
  clear hl3 HK2
  rcases hres with ⟨hz, rfl⟩ | ⟨hz, v, rfl, hv⟩
  · have HZ := Lib.hid hz
    obtain ⟨E, hE⟩ : ∃ E, plainHdr x = E := ⟨_, rfl⟩
    have HE := Lib.hid hE
    rw [hE] at HZ ⊢
    have f1 : (E != 0) = true := by simp [HZ.out]
    have f2 : (E == 0) = false := by simp [HZ.out]
    clear hz hE
    go_wp2_with fail
    refine (id_err w3 17 _ E HZ.out).mono ?_
    rintro en w4 ⟨hl4, rfl⟩
    have HL4 := Lib.hid (HL3.out.trans (hl4.mono HL3.out.size))
    have H4 := Lib.hid (H3.out.below hl4 H3.out.lt)
    have HHH := Lib.hid (show hashOr E ([] : List UInt8) = zer 32 by unfold hashOr; rw [if_neg HZ.out])
    have HQ := Lib.hid (show hashOr E (idHdr x) = zer 32 by unfold hashOr; rw [if_neg HZ.out])
    rw [HHH.out]
    clear hl4
    have HHL := Lib.hid (show (zer 32).length = 32 from rfl)
    go_wp2_with (with_reducible show wpList _ _ _ (Oper.mk _ (Op.alloc _) _ _ _ _ :: _) _ _; refine wpList_alloc_i rfl 29 rfl (.agg (bv (zer 32)).toArray) zero_hash ?_)
    intro h w5 h5 hl5 hg5 hs5
    have H5 := Lib.hid h5
    have HL5 := Lib.hid hl5
    have HG5 := Lib.hid hg5
    clear h5 hl5 hs5 hg5
    go_wp2_with (with_reducible show wpList _ _ _ (Oper.mk _ (Op.store 29 _ _) _ _ _ _ :: _) _ _; go_must (refine wpList_store_bk rfl 29 _ _ rfl h rfl (.agg (bv (zer 32)).toArray) rfl _ _ H5.out (by rw [agg_sz (bv_sz (n := 32) HHL.out)]; exact info_h32) (by rw [agg_sz (bv_sz (n := 32) HHL.out)]; simp [bv, zer]) (by simpa [Value.cells] using bv_one (zer 32)) ?_))
    intro w6 h6 hg6 hs6
    have HB6 := Lib.hid (below_grown2 HL5.out hg6 HG5.out HL5.out.size)
    have H6 := Lib.hid (show Bk w6 h (bv (zer 32)).toArray 29 from h6)
    have HR6 := Lib.hid (H4.out.below HB6.out H4.out.lt)
    have HL6 := Lib.hid (HL4.out.trans (HB6.out.mono HL4.out.size))
    have HH6 := Lib.hid (show w.heap.size ≤ h by have := HL4.out.size; have := HG5.out; omega)
    clear h6 hg6 hs6
    go_wp2_with (first
      | (with_reducible show wpList _ _ _ (Oper.mk (some 26) (Op.load 29 _) _ _ _ _ :: _) _ _; go_must (refine wpList_load_part rfl 29 _ rfl h 0 32 rfl _ _ _ H6.out Tryd.underlying29 rfl info_h32 (by rw [bv_sz (n := 32) HHL.out]; omega) (bv (zer 32)).toArray (arr_all (bv_sz HHL.out)) ?_))
      | (with_reducible show wpList _ _ _ (Oper.mk _ (Op.store 29 _ _) _ _ _ _ :: _) _ _; go_must (refine wpList_store_bk rfl 29 _ _ rfl r rfl (.agg (bv (zer 32)).toArray) rfl _ _ HR6.out (by rw [agg_sz (bv_sz (n := 32) HHL.out)]; exact info_h32) (by rw [agg_sz (bv_sz (n := 32) HHL.out)]; simp [bv, zer]) (by simpa [Value.cells] using bv_one (zer 32)) ?_)))
    intro w9 h9 hg9 hs9
    have HB := Lib.hid (below_grown2 HL6.out hg9 HR.out HL6.out.size)
    have H9 := Lib.hid (show Bk w9 r (bv (zer 32)).toArray 29 from h9)
    clear h9 hg9 hs9
    go_wp2
    exact bodyPost_ct (x := .int .i64 E) rfl rfl rfl H9.out Tryd.underlying29 rfl info_h32 (bv_sz HHL.out).symm rfl ⟨HB.out, by rw [HE.out, HQ.out]⟩
  · have HE := Lib.hid hz
    have HV := Lib.hid hv
    rw [hz]
    clear hz hv
    obtain ⟨A, c, rfl⟩ := HV.out.form
    go_wp2_with fail
    refine (id_ok w3 17 A _ c (encHdr x) rfl HV.out.rd (by have := encHdr_len HX.out (hdrB HX.out HE.out); omega) HT3.out).mono ?_
    rintro en w4 ⟨hl4, rfl⟩
    have HL4 := Lib.hid (HL3.out.trans (hl4.mono HL3.out.size))
    have H4 := Lib.hid (H3.out.below hl4 H3.out.lt)
    clear hl4
    obtain ⟨D, hD⟩ : ∃ D, sha (17 :: encHdr x) = D := ⟨_, rfl⟩
    have HHL := Lib.hid (show D.length = 32 by rw [← hD]; exact sha_len _)
    have HD := Lib.hid hD
    have HOD := Lib.hid (show hashOr 0 D = D by unfold hashOr; rw [if_pos rfl])
    rw [hD, HOD.out]
    have HQ := Lib.hid (show idHdr x = nzH D by unfold idHdr; rw [hD])
    clear hD
    go_wp2_with (with_reducible show wpList _ _ _ (Oper.mk _ (Op.alloc _) _ _ _ _ :: _) _ _; refine wpList_alloc_i rfl 29 rfl (.agg (bv (zer 32)).toArray) zero_hash ?_)
    intro h w5 h5 hl5 hg5 hs5
    have H5 := Lib.hid h5
    have HL5 := Lib.hid hl5
    have HG5 := Lib.hid hg5
    clear h5 hl5 hs5 hg5
    go_wp2_with (with_reducible show wpList _ _ _ (Oper.mk _ (Op.store 29 _ _) _ _ _ _ :: _) _ _; go_must (refine wpList_store_bk rfl 29 _ _ rfl h rfl (.agg (bv D).toArray) rfl _ _ H5.out (by rw [agg_sz (bv_sz (n := 32) HHL.out)]; exact info_h32) (by rw [agg_sz (bv_sz (n := 32) HHL.out)]; simp [bv, zer]) (by simpa [Value.cells] using bv_one D) ?_))
    intro w6 h6 hg6 hs6
    have HB6 := Lib.hid (below_grown2 HL5.out hg6 HG5.out HL5.out.size)
    have H6 := Lib.hid (show Bk w6 h (bv D).toArray 29 from h6)
    have HR6 := Lib.hid (H4.out.below HB6.out H4.out.lt)
    have HL6 := Lib.hid (HL4.out.trans (HB6.out.mono HL4.out.size))
    have HH6 := Lib.hid (show w.heap.size ≤ h by have := HL4.out.size; have := HG5.out; omega)
    clear h6 hg6 hs6
    by_cases hz : D = zer 32
    · have HZ := Lib.hid hz
      have q1 : (true : Bool) = true ↔ bv D = bv (zer 32) := by rw [HZ.out]; simp
      clear hz
      go_wp2_with (first
        | (with_reducible show wpList _ _ _ (Oper.mk (some 21) (Op.load 29 _) _ _ _ _ :: _) _ _; go_must (refine wpList_load_part rfl 29 _ rfl h 0 32 rfl _ _ _ H6.out Tryd.underlying29 rfl info_h32 (by rw [bv_sz (n := 32) HHL.out]; omega) (bv D).toArray (arr_all (bv_sz HHL.out)) ?_))
        | (with_reducible show wpList _ _ _ (Oper.mk _ (Op.build _ _) _ _ _ _ :: _) _ _; go_must (refine wpList_buildv rfl 29 [] rfl [] rfl _ built_hash ?_))
        | (with_reducible show wpList _ _ _ (Oper.mk _ (Op.binOp BinOp.eql 29 _ _ _) _ _ _ _ :: _) _ _; go_must (refine wpList_eql_flat rfl 29 _ _ _ rfl (bv D) (bv (zer 32)) rfl rfl 2 _ flat_hash (by omega) agg_hash guard_hash (fits_hash HHL.out) (fits_hash rfl) true q1 ?_))
        | (with_reducible show wpList _ _ _ (Oper.mk _ (Op.store 5 _ _) _ _ _ _ :: _) _ _; go_must (refine wpList_store_w rfl 5 _ _ rfl h 31 rfl .u8 1 rfl _ _ H6.out (by kernel_rfl) (by rw [bv_sz (n := 32) HHL.out]; omega) ?_)))
      intro w7 h7 hg7 hs7
      have HB7 := Lib.hid (below_grown2 HL6.out hg7 HH6.out HL6.out.size)
      have H7 := Lib.hid (show Bk w7 h (bv (zer 31 ++ [1])).toArray 29 from by rw [HZ.out, splice31] at h7; exact h7)
      have HR7 := Lib.hid (HR6.out.grown hg7 (by have := H4.out.lt; have := HG5.out; intro e; injection e with e; omega))
      have HHM := Lib.hid (show (zer 31 ++ [(1 : UInt8)]).length = 32 from rfl)
      have HN := Lib.hid (show nzH D = zer 31 ++ [1] by unfold nzH; rw [if_pos HZ.out])
      clear h7 hg7 hs7
      go_wp2_with (first
        | (with_reducible show wpList _ _ _ (Oper.mk (some 26) (Op.load 29 _) _ _ _ _ :: _) _ _; go_must (refine wpList_load_part rfl 29 _ rfl h 0 32 rfl _ _ _ H7.out Tryd.underlying29 rfl info_h32 (by rw [bv_sz (n := 32) HHM.out]; omega) (bv (zer 31 ++ [(1 : UInt8)])).toArray (arr_all (bv_sz HHM.out)) ?_))
        | (with_reducible show wpList _ _ _ (Oper.mk _ (Op.store 29 _ _) _ _ _ _ :: _) _ _; go_must (refine wpList_store_bk rfl 29 _ _ rfl r rfl (.agg (bv (zer 31 ++ [(1 : UInt8)])).toArray) rfl _ _ HR7.out (by rw [agg_sz (bv_sz (n := 32) HHM.out)]; exact info_h32) (by rw [agg_sz (bv_sz (n := 32) HHM.out)]; simp [bv, zer]) (by simpa [Value.cells] using bv_one (zer 31 ++ [(1 : UInt8)])) ?_)))
      intro w9 h9 hg9 hs9
      have HB := Lib.hid (below_grown2 HB7.out hg9 HR.out HB7.out.size)
      have H9 := Lib.hid (show Bk w9 r (bv (zer 31 ++ [(1 : UInt8)])).toArray 29 from h9)
      clear h9 hg9 hs9
      go_wp2
      exact bodyPost_ct (x := .int .i64 0) rfl rfl rfl H9.out Tryd.underlying29 rfl info_h32 (bv_sz HHM.out).symm rfl ⟨HB.out, by rw [HE.out, HQ.out, HN.out]; unfold hashOr; rw [if_pos rfl]⟩
    · have HZ := Lib.hid hz
      have q1 : (false : Bool) = true ↔ bv D = bv (zer 32) := by constructor; intro e; cases e; intro e; exact absurd (bv_inj e) HZ.out
      have HN := Lib.hid (show nzH D = D by unfold nzH; rw [if_neg HZ.out])
      clear hz
      go_wp2_with (first
        | (with_reducible show wpList _ _ _ (Oper.mk _ (Op.load 29 _) _ _ _ _ :: _) _ _; go_must (refine wpList_load_part rfl 29 _ rfl h 0 32 rfl _ _ _ H6.out Tryd.underlying29 rfl info_h32 (by rw [bv_sz (n := 32) HHL.out]; omega) (bv D).toArray (arr_all (bv_sz HHL.out)) ?_))
        | (with_reducible show wpList _ _ _ (Oper.mk _ (Op.build _ _) _ _ _ _ :: _) _ _; go_must (refine wpList_buildv rfl 29 [] rfl [] rfl _ built_hash ?_))
        | (with_reducible show wpList _ _ _ (Oper.mk _ (Op.binOp BinOp.eql 29 _ _ _) _ _ _ _ :: _) _ _; go_must (refine wpList_eql_flat rfl 29 _ _ _ rfl (bv D) (bv (zer 32)) rfl rfl 2 _ flat_hash (by omega) agg_hash guard_hash (fits_hash HHL.out) (fits_hash rfl) false q1 ?_))
        | (with_reducible show wpList _ _ _ (Oper.mk _ (Op.store 29 _ _) _ _ _ _ :: _) _ _; go_must (refine wpList_store_bk rfl 29 _ _ rfl r rfl (.agg (bv D).toArray) rfl _ _ HR6.out (by rw [agg_sz (bv_sz (n := 32) HHL.out)]; exact info_h32) (by rw [agg_sz (bv_sz (n := 32) HHL.out)]; simp [bv, zer]) (by simpa [Value.cells] using bv_one D) ?_)))
      intro w9 h9 hg9 hs9
      have HB := Lib.hid (below_grown2 HL6.out hg9 HR.out HL6.out.size)
      have H9 := Lib.hid (show Bk w9 r (bv D).toArray 29 from h9)
      clear h9 hg9 hs9
      go_wp2
      exact bodyPost_ct (x := .int .i64 0) rfl rfl rfl H9.out Tryd.underlying29 rfl info_h32 (bv_sz HHL.out).symm rfl ⟨HB.out, by rw [HE.out, HQ.out, HN.out]; unfold hashOr; rw [if_pos rfl]⟩
end Go.Proofs.YtjdegphpalhapaaDoor
namespace Go.Proofs.YtjdegphpalhapaaDoor
set_option linter.unusedSimpArgs false
set_option linter.unusedVariables false
open Go.RowKit
set_option maxRecDepth 100000

structure Mk where
  idx : Int
  time : Int
  sl : List UInt8
def Mk.cl (m : Mk) : List Value := [.int .i64 m.idx, .int .u64 m.time] ++ bv m.sl
structure Mk.ok (m : Mk) : Prop where
  idx : I64 m.idx
  time : U64 m.time
  sl : m.sl.length = 16
/-- a certificate; its marks lie at A -/
structure Crt where
  height : Int
  round : Int
  id : List UInt8
  A : Option Addr
  n : Nat
  c : Nat
  ms : List Mk
def Crt.cl (x : Crt) : List Value := [.int .u64 x.height, .int .i64 x.round] ++ bv x.id ++ [.slice x.A x.n x.c]
structure Crt.ok (x : Crt) : Prop where
  height : U64 x.height
  round : I64 x.round
  id : x.id.length = 32
  n : x.n = x.ms.length
  ms : ∀ m ∈ x.ms, m.ok
def Crt.at (x : Crt) (w : World) : Prop := Rd w x.A (x.ms.flatMap Mk.cl)
theorem Crt.cl_len (x : Crt) (h : x.ok) : x.cl.length = 35 := by simp [Crt.cl, bv_length, h.id]
theorem Crt.cl_id (x : Crt) (h : x.id.length = 32) : x.cl.toArray.extract 2 (2 + 32) = (bv x.id).toArray := by
  refine extract_cl _ _ _ _ ?_
  have e : x.cl.drop 2 = bv x.id ++ [.slice x.A x.n x.c] := by simp [Crt.cl]
  rw [e, show 2 + 32 - 2 = (bv x.id).length from by rw [bv_length, h]]
  exact List.take_left
theorem Crt.cl_34 (x : Crt) (h : x.id.length = 32) : x.cl.toArray[34]? = some (.slice x.A x.n x.c) := by
  simp [Crt.cl, bv, List.getElem?_append, h]
theorem info_Crt : (Tryd.prog.info? 34).map (·.size) = some 35 := by kernel_rfl
theorem info_Mk : (Tryd.prog.info? 106).map (·.size) = some 18 := by kernel_rfl
theorem cl_all35 {l : List Value} (h : l.length = 35) : l.toArray.extract 0 (0 + 35) = l.toArray := by
  apply Array.ext'
  simp [List.take_of_length_le (Nat.le_of_eq h)]
theorem Mk.cl_len (m : Mk) (h : m.ok) : m.cl.length = 18 := by simp [Mk.cl, bv_length, h.sl]

/-- the cells of the k-th mark -/
theorem mk_at : ∀ (ms : List Mk) (hm : ∀ m ∈ ms, m.ok) (k : Nat) (hk : k < ms.length) (j : Nat) (u : Value), (ms[k]).cl[j]? = some u → (ms.flatMap Mk.cl)[18 * k + j]? = some u
  | m :: ms, hm, 0, hk, j, u, hu => by
    rw [List.flatMap_cons, Nat.mul_zero, Nat.zero_add]
    exact List.getElem?_append_left (List.getElem?_eq_some_iff.1 hu).1 |>.trans hu
  | m :: ms, hm, k + 1, hk, j, u, hu => by
    have hl := m.cl_len (hm m (List.mem_cons_self ..))
    rw [List.flatMap_cons, List.getElem?_append_right (by omega), hl, show 18 * (k + 1) + j - 18 = 18 * k + j by omega]
    exact mk_at ms (fun m' h' => hm m' (List.mem_cons_of_mem _ h')) k (by simpa using hk) j u (by simpa using hu)

section
variable {P : Program}
theorem wpList_load_at {ops : Array Oper} {rest : List Oper} {o : Oper} {a : Act} {w : World} {Q : Exit → Act → World → Prop} (hw : Region.wanted o (yielded ops a.tmps) = true) (ty : TypeId) (x : Operand) (ho : o.op = .load ty x)
    (ad : Addr) (n : Nat) (hx : a.eval x = .pointer (some ad)) (vs : List Value) (hc : ∀ j v, vs[j]? = some v → w.cell? (ad.add j) = some v) (d : TypeDesc) (hu : P.underlying ty = some d) (hd : aggD d = true) (hi : (P.info? ty).map (·.size) = some n) (hn : vs.length = n)
    (h : wpList P ops Q rest (a.put o.dst (.agg vs.toArray)) w) : wpList P ops Q (o :: rest) a w := by
  refine wpList_want hw fun K hK => ?_
  have hl : (loadCells ad vs.length).run P w = .ok vs.toArray w :=
    run_loadCells_list (P := P) w ad vs hc
  rw [hn] at hl
  have hagg : (isAgg ty).run P w = .ok true w := by
    rw [run_isAgg hu w]
    congr 1
    unfold isAggT
    rw [hu]
    cases d <;> simp [aggD] at hd ⊢
  have hv : (loadVar ty ad).run P w = .ok (.agg vs.toArray) w := by
    simp [loadVar, Sem.run_bind, hagg, run_sizeOf' hi, hl]
  unfold Oper.wp execOp
  simp only [ho, hx, Instr.loadAt, Instr.sureAddr, Sem.run_bind, Sem.run_pure, Result.andThen_ok, hv]
  exact hK _ _ h
end

def zeroC (x : Crt) : Bool := (x.height == 0) && ((x.round == 0) && ((x.id == zeros 32) && ((x.n : Int) == 0)))

set_option maxHeartbeats 1000000 in
theorem zeroCert_any (w : World) (x : Crt) (hx : x.ok) :
    Calls Tryd.prog 22 #[.agg x.cl.toArray] w fun e w' => e = .returned (.bool (zeroC x)) ∧ Below w.heap.size w w' := by
  obtain ⟨q1, h1⟩ : ∃ q, (x.height == 0) = q := ⟨_, rfl⟩
  obtain ⟨q2, h2⟩ : ∃ q, (x.round == 0) = q := ⟨_, rfl⟩
  obtain ⟨q3, h3⟩ : ∃ q, (x.id == zeros 32) = q := ⟨_, rfl⟩
  obtain ⟨q4, h4⟩ : ∃ q, ((x.n : Int) == 0) = q := ⟨_, rfl⟩
  have hz : zeroC x = (q1 && (q2 && (q3 && q4))) := by unfold zeroC; rw [h1, h2, h3, h4]
  have HZ := Lib.hid hz
  rw [hz]
  clear hz
  cases q1 <;> cases q2 <;> cases q3
  all_goals
    go_enter Tryd.func22, Tryd.ntmps22
    go_wp2_with (refine wpList_box_bk rfl _ _ rfl _ rfl ?_)
    intro g w1 hb hbl hg hs
    clear hg hs
    have c0 : w1.cell? ⟨g, 0, none⟩ = some (.int .u64 x.height) := hb.cell 0
    have c1 : w1.cell? ⟨g, 1, none⟩ = some (.int .i64 x.round) := hb.cell 1
    have c2 : w1.cell? ⟨g, 34, none⟩ = some (.slice x.A x.n x.c) := (hb.cell 34).trans (x.cl_34 hx.id)
    go_wp2_with (first
      | (with_reducible show wpList _ _ _ (Oper.mk _ (Op.load 29 _) _ _ _ _ :: _) _ _; refine wpList_load_part rfl 29 _ rfl g 2 32 rfl _ _ _ hb Tryd.underlying29 rfl info_hash (by have := x.cl_len hx; simp [this]) _ (x.cl_id hx.id) ?_)
      | (with_reducible show wpList _ _ _ (Oper.mk _ (Op.build _ _) _ _ _ _ :: _) _ _; refine wpList_buildv rfl 29 [] rfl [] rfl _ built_hash ?_)
      | (with_reducible show wpList _ _ _ (Oper.mk _ (Op.binOp BinOp.eql 29 _ _ _) _ _ _ _ :: _) _ _; refine wpList_eql_flat rfl 29 _ _ _ rfl (bv x.id) (bv (zeros 32)) rfl rfl 2 _ flat_hash (by omega) agg_hash guard_hash (fits_hash hx.id) (fits_hash rfl) _ (bv_iff rfl) ?_))
    go_ret
    exact ⟨by simp, hbl⟩
end Go.Proofs.YtjdegphpalhapaaDoor
namespace Go.Proofs.YtjdegphpalhapaaDoor
set_option linter.unusedSimpArgs false
set_option linter.unusedVariables false
open Go.RowKit
set_option maxRecDepth 100000

theorem rd_eff {w w' : World} {A : Option Addr} {xs : List Value} {B : Nat} {ts : List TypeId} (h : Rd w A xs) (e : Eff B ts w w') (hB : B ≤ w.heap.size) (hA : ∀ ad, A = some ad → xs ≠ [] → ad.block < B) : Rd w' A xs := fun j u hu => by
  obtain ⟨ad, ha, hc⟩ := h j u hu
  have hne : xs ≠ [] := by rintro rfl; simp at hu
  have hb := hA ad ha hne
  have hk := e.block ad.block (by omega) (.inl hb)
  refine ⟨ad, ha, ?_⟩
  rw [← hc]
  have hblk : (ad.add j).block = ad.block := by unfold Addr.add; split <;> rfl
  unfold World.cell?
  rw [hblk, hk]
structure MkB (m : Mk) : Prop where
  i1 : 0 ≤ m.idx
  i2 : m.idx < 64
  t1 : 0 ≤ m.time
  t2 : m.time ≤ 1125899906842624
def encMk (m : Mk) : List UInt8 := varB m.idx.toNat ++ varB m.time.toNat ++ m.sl
theorem encMk_len {m : Mk} (hm : m.ok) (hp : MkB m) : (encMk m).length ≤ 36 := by
  obtain ⟨i1, i2, t1, t2⟩ := hp
  have l1 := varB_int (n := m.idx) (by omega) (by unfold two64; omega)
  have l2 := varB_int (n := m.time) (by omega) (by unfold two64; omega)
  have l3 := hm.sl
  simp only [encMk, List.length_append]
  omega

set_option maxHeartbeats 400000 in
theorem count_any (w : World) (B g : Nat) (bs : List UInt8) (n : Nat) (h : Wr w B g bs) (hn : n ≤ 1000000000000) (hb : bs.length + 10 ≤ room46) :
    Calls Tryd.prog 108 #[.pointer (some ⟨g, 0, none⟩), .int .i64 (n : Int)] w fun e w' => e = .returned (.tuple #[]) ∧ Wr w' B g (bs ++ varB n) ∧ Eff B WrT w w' := by
  go_enter Tryd.func108, Tryd.ntmps108
  have p0 : ¬ ((n : Int) < 0) := by omega
  have p1 : IntKind.u64.wrap (n : Int) = n := by rw [IntKind.wrap_u64]; omega
  go_wp2_with (first
    | (go_at_call 117; refine (live_any _ B g bs h).mono ?_; rintro e w' ⟨rfl, rfl⟩)
    | (go_at_call 85; go_must (refine (var_any _ B g bs n h (by unfold two64; omega) hb).mono ?_); rintro e w' ⟨rfl, hw, he⟩))
  go_end0
  exact ⟨rfl, hw, he⟩

theorem Mk.cl_sl (m : Mk) (j : Nat) (u : Value) (h : (bv m.sl)[j]? = some u) : m.cl.toArray[2 + j]? = some u := by
  rw [List.getElem?_toArray, Mk.cl, List.getElem?_append_right (by simp)]
  simpa using h
set_option maxHeartbeats 400000 in
theorem putMk_any (w : World) (B g : Nat) (bs : List UInt8) (m : Mk) (hm : m.ok) (hp : MkB m) (hw : Wr w B g bs) (hb : bs.length + 100 ≤ room46) :
    Calls Tryd.prog 89 #[.pointer (some ⟨g, 0, none⟩), .agg m.cl.toArray] w fun e w' => e = .returned (.tuple #[]) ∧ Wr w' B g (bs ++ encMk m) ∧ Eff B WrT w w' := by
  obtain ⟨i1, i2, t1, t2⟩ := hp
  have l1 := varB_int (n := m.idx) (by omega) (by unfold two64; omega)
  have l2 := varB_int (n := m.time) (by omega) (by unfold two64; omega)
  have LS := Lib.hid hm.sl
  have HML := Lib.hid (m.cl_len hm)
  have p1 : IntKind.u64.wrap m.idx = m.idx := by rw [IntKind.wrap_u64]; omega
  go_enter Tryd.func89, Tryd.ntmps89
  go_wp2_with (refine wpList_box_bk rfl _ _ rfl _ rfl ?_)
  intro bx w1 hk1 hbl hg hs
  clear hg hs
  have hw1 := hw.below hbl
  have c0 : w1.cell? ⟨bx, 0, none⟩ = some (.int .i64 m.idx) := hk1.cell 0
  go_wp2_with fail
  refine (var_int _ B g bs m.idx hw1 (by omega) (by unfold two64; omega) (by omega)).mono ?_
  rintro e w2 ⟨rfl, hw2, e2⟩
  have hk2 := hk1.effT e2 (by decide)
  have c1 : w2.cell? ⟨bx, 1, none⟩ = some (.int .u64 m.time) := hk2.cell 1
  go_wp2_with fail
  refine (var_int _ B g _ m.time hw2 (by omega) (by unfold two64; omega) (by simp only [List.length_append]; omega)).mono ?_
  rintro e w3 ⟨rfl, hw3, e3⟩
  have hk3 := hk2.effT e3 (by decide)
  have hr3 : Rd w3 (some ⟨bx, 2, none⟩) (bv m.sl) := Rd.of_bk hk3 2 _ (fun j u hu => m.cl_sl j u hu)
  go_wp2_with fail
  refine (raw_any _ B g _ m.sl _ 16 16 hw3 hr3 LS.out (by simp only [List.length_append]; omega)).mono ?_
  rintro e w4 ⟨rfl, hw4, e4⟩
  go_wp2
  go_end0
  refine ⟨rfl, ?_, (Eff.of_below hbl _ _).trans (e2.trans (e3.trans e4))⟩
  unfold encMk
  simpa only [List.append_assoc] using hw4
theorem take_mks (ms : List Mk) (k : Nat) (hk : k < ms.length) : (ms.take (k + 1)).flatMap encMk = (ms.take k).flatMap encMk ++ encMk ms[k] := by
  rw [List.take_succ_eq_append_getElem hk, List.flatMap_append]; simp
theorem mks_len {ms : List Mk} (hm : ∀ m ∈ ms, m.ok) (hp : ∀ m ∈ ms, MkB m) : ∀ k, ((ms.take k).flatMap encMk).length ≤ 36 * k := by
  intro k
  induction k with
  | zero => simp
  | succ k ih =>
    rcases Nat.lt_or_ge k ms.length with h | h
    · rw [take_mks ms k h, List.length_append]
      have := encMk_len (hm _ (List.getElem_mem h)) (hp _ (List.getElem_mem h))
      omega
    · rw [List.take_of_length_le (by omega)]
      rw [List.take_of_length_le (by omega)] at ih
      omega
theorem add_add_k (ad : Addr) (k j : Nat) : (ad.add (k * 18)).add j = ad.add (18 * k + j) := by
  rw [show 18 * k + j = k * 18 + j by omega]
  unfold Addr.add
  split <;> split <;> simp_all <;> omega
def zeroMk : List Value := [.int .i64 0, .int .u64 0] ++ bv (zer 16)
theorem zeroMk_sz : zeroMk.toArray.size = 18 := by rw [List.size_toArray, zeroMk, List.length_append, bv_length]; rfl
theorem zero_Mk : (Tryd.prog.info? 106).bind (·.zero) = some (.agg zeroMk.toArray) := by kernel_rfl
theorem mk_one (m : Mk) : ∀ u ∈ (Value.agg m.cl.toArray).cells.toList, u.oneCell' = true := by
  intro u hu
  simp only [Value.cells, Mk.cl, List.mem_append, List.mem_cons, List.not_mem_nil, or_false] at hu
  rcases hu with (rfl | rfl) | hu
  · rfl
  · rfl
  · exact bv_one m.sl u (by simpa [Value.cells] using hu)
set_option maxHeartbeats 1000000 in
theorem putMks_any (w : World) (B g : Nat) (bs : List UInt8) (A : Option Addr) (n c : Nat) (ms : List Mk) (hm : ∀ m ∈ ms, m.ok) (hp : ∀ m ∈ ms, MkB m) (hn : n = ms.length) (hl : n ≤ 64) (hr : Rd w A (ms.flatMap Mk.cl)) (hA : ∀ ad, A = some ad → ms.flatMap Mk.cl ≠ [] → ad.block < B) (hB : B ≤ w.heap.size) (hw : Wr w B g bs) (hb : bs.length + 4000 ≤ room46) :
    Calls Tryd.prog 88 #[.pointer (some ⟨g, 0, none⟩), .slice A n c, .func (.func 89) #[] #[]] w fun e w' => e = .returned (.tuple #[]) ∧ Wr w' B g (bs ++ (varB n ++ ms.flatMap encMk)) ∧ Eff B WrT w w' := by
  have HM := Lib.hid hm
  have HP := Lib.hid hp
  have HN := Lib.hid hn
  have HA := Lib.hid hA
  have HR := Lib.hid hr
  have HL := Lib.hid (mks_len hm hp)
  have hv := varB_ten (n := n) (by unfold two64; omega)
  clear hm hp hn hA hr
  go_enter Tryd.func88, Tryd.ntmps88
  go_wp2_with (go_at_call 108; go_must (refine (count_any _ B g bs n hw (by omega) (by omega)).mono ?_); rintro e w1 ⟨rfl, hw1, e1⟩)
  have HW1 := Lib.hid hw1
  have HE1 := Lib.hid e1
  have HR1 := Lib.hid (rd_eff HR.out e1 hB HA.out)
  clear hw1 e1
  go_loopw [14] (fun i wr => ∃ k : Nat, k ≤ n ∧ i = .int .i64 k ∧ Wr wr B g (bs ++ varB n ++ (ms.take k).flatMap encMk) ∧ Rd wr A (ms.flatMap Mk.cl) ∧ Eff B WrT w wr) (fun i _ => n - (intOf i).toNat)
  case atStart => exact ⟨0, by omega, rfl, by simpa using HW1.out, HR1.out, HE1.out⟩
  case round =>
    clear HW1 HE1 HR1
    obtain ⟨k, hk, rfl, hw2, hr2, e2⟩ := hrel
    have HW2 := Lib.hid hw2
    have HR2 := Lib.hid hr2
    have HE2 := Lib.hid e2
    clear hw2 hr2 e2
    by_cases hlt : k < n
    · have hkl : k < ms.length := by rw [← HN.out]; exact hlt
      obtain ⟨m, hmk⟩ : ∃ m, ms[k] = m := ⟨_, rfl⟩
      have hmem : m ∈ ms := by rw [← hmk]; exact List.getElem_mem hkl
      have HMO := Lib.hid (HM.out m hmem)
      have HMP := Lib.hid (HP.out m hmem)
      have HT := Lib.hid (show (ms.take (k + 1)).flatMap encMk = (ms.take k).flatMap encMk ++ encMk m by rw [take_mks ms k hkl, hmk])
      obtain ⟨ad, hA, hcell⟩ : ∃ ad, A = some ad ∧ ∀ j u, m.cl[j]? = some u → wr.cell? (ad.add (18 * k + j)) = some u := by
        have h0 := mk_at ms HM.out k hkl 0 (.int .i64 (ms[k]).idx) rfl
        obtain ⟨ad, ha, _⟩ := HR2.out _ _ h0
        refine ⟨ad, ha, fun j u hu => ?_⟩
        obtain ⟨ad', ha', hc⟩ := HR2.out _ _ (mk_at ms HM.out k hkl j u (by rw [hmk]; exact hu))
        rw [ha] at ha'; injection ha' with ha'; rw [ha']; exact hc
      subst hA
      have HC := Lib.hid hcell
      clear hcell hmem hmk
      have hi1 : (k : Int) < n := by omega
      go_wp2_with (first
        | (with_reducible show wpList _ _ _ (Oper.mk (some 17) (Op.load 106 _) _ _ _ _ :: _) _ _; go_must (refine wpList_load_at rfl 106 _ rfl (ad.add (k * 18)) 18 rfl m.cl (fun j u hu => by rw [add_add_k]; exact HC.out j u hu) _ Tryd.underlying106 rfl info_Mk (m.cl_len HMO.out) ?_))
        | (with_reducible show wpList _ _ _ (Oper.mk _ (Op.alloc _) _ _ _ _ :: _) _ _; refine wpList_alloc_i rfl 106 rfl (.agg zeroMk.toArray) zero_Mk ?_))
      intro r w6 h6 hl6 hg6 hs6
      have H6 := Lib.hid h6
      have HL6 := Lib.hid hl6
      have HG6 := Lib.hid hg6
      have HSZ := Lib.hid (show m.cl.toArray.size = 18 by rw [List.size_toArray, m.cl_len HMO.out])
      clear h6 hl6 hg6 hs6
      go_wp2_with (with_reducible show wpList _ _ _ (Oper.mk _ (Op.store 106 _ _) _ _ _ _ :: _) _ _; go_must (refine wpList_store_bk rfl 106 _ _ rfl r rfl (.agg m.cl.toArray) rfl _ _ H6.out (by rw [agg_sz HSZ.out]; exact info_Mk) (by rw [agg_sz HSZ.out]; exact zeroMk_sz.symm) (mk_one m) ?_))
      intro w7 h7 hg7 hs7
      have HL7 := Lib.hid (below_grown2 HL6.out hg7 HG6.out HL6.out.size)
      have H7 := Lib.hid (show Bk w7 r m.cl.toArray 106 from h7)
      have HW7 := Lib.hid (HW2.out.below HL7.out)
      have HR7 := Lib.hid (HR2.out.below HL7.out)
      have HS7 := Lib.hid (show B ≤ w7.heap.size by have := HE2.out.size; have := HL7.out.size; omega)
      clear h7 hg7 hs7
      go_wp2_with (with_reducible show wpList _ _ _ (Oper.mk (some 20) (Op.load 106 _) _ _ _ _ :: _) _ _; go_must (refine wpList_load_part rfl 106 _ rfl r 0 18 rfl _ _ _ H7.out Tryd.underlying106 rfl info_Mk (by rw [HSZ.out]; omega) m.cl.toArray (arr_all HSZ.out) ?_); go_wp2_with fail)
      refine (putMk_any _ B g _ m HMO.out HMP.out HW7.out (by simp only [List.length_append]; have := HL.out k; omega)).mono ?_
      rintro e w8 ⟨rfl, hw8, e8⟩
      have HW8 := Lib.hid hw8
      have HR8 := Lib.hid (rd_eff HR7.out e8 HS7.out HA.out)
      have HE8 := Lib.hid (HE2.out.trans ((Eff.of_below HL7.out _ _).trans e8))
      clear hw8 e8
      go_wp2
      go_round
      case rel => exact ⟨k + 1, by omega, by go_num, by rw [HT.out, ← List.append_assoc]; exact HW8.out, HR8.out, HE8.out⟩
      case measure => simp [intOf]; omega
    · have hk7 : k = n := by omega
      subst hk7
      have HT := Lib.hid (show ms.take k = ms from List.take_of_length_le (by rw [HN.out]; exact Nat.le_refl _))
      rw [HT.out] at HW2
      go_wp2
      go_end0
      refine ⟨rfl, ?_, HE2.out⟩
      simpa only [List.append_assoc] using HW2.out

-- ---- a whole certificate
def encCrt (x : Crt) : List UInt8 := varB x.height.toNat ++ varB x.round.toNat ++ x.id ++ varB x.n ++ x.ms.flatMap encMk
structure CrtB (x : Crt) : Prop where
  h1 : 0 ≤ x.height
  h2 : x.height ≤ 1099511627776
  r1 : 0 ≤ x.round
  r2 : x.round ≤ 65535
  n : x.n ≤ 64
  ms : ∀ m ∈ x.ms, MkB m
theorem encCrt_len {x : Crt} (hx : x.ok) (hp : CrtB x) : (encCrt x).length ≤ 2400 := by
  obtain ⟨h1, h2, r1, r2, n, ms⟩ := hp
  have lh := varB_int (n := x.height) (by omega) (by unfold two64; omega)
  have lr := varB_int (n := x.round) (by omega) (by unfold two64; omega)
  have lv := varB_ten (n := x.n) (by unfold two64; omega)
  have lm := mks_len hx.ms ms x.ms.length
  rw [List.take_of_length_le (Nat.le_refl _)] at lm
  have li := hx.id
  have hn := hx.n
  simp only [encCrt, List.length_append]
  omega

set_option maxHeartbeats 1000000 in
theorem putCert_any (w : World) (B g : Nat) (bs : List UInt8) (x : Crt) (hx : x.ok) (hp : CrtB x) (hr : x.at w) (hA : ∀ ad, x.A = some ad → x.ms.flatMap Mk.cl ≠ [] → ad.block < B) (hB : B ≤ w.heap.size) (hw : Wr w B g bs) (hb : bs.length + 5000 ≤ room46) :
    Calls Tryd.prog 51 #[.pointer (some ⟨g, 0, none⟩), .agg x.cl.toArray] w fun e w' => e = .returned (.tuple #[]) ∧ Wr w' B g (bs ++ encCrt x) ∧ Eff B WrT w w' := by
  obtain ⟨h1, h2, r1, r2, hn64, hms⟩ := hp
  have lh := varB_int (n := x.height) (by omega) (by unfold two64; omega)
  have lr := varB_int (n := x.round) (by omega) (by unfold two64; omega)
  have p1 : IntKind.u64.wrap x.round = x.round := by rw [IntKind.wrap_u64]; omega
  have HX := Lib.hid hx
  have HMS := Lib.hid hms
  have Li := Lib.hid hx.id
  have HA := Lib.hid hA
  have HR := Lib.hid (show Rd w x.A (x.ms.flatMap Mk.cl) from hr)
  clear hr hA hms
  go_enter Tryd.func51, Tryd.ntmps51
  go_wp2_with (refine wpList_box_bk rfl _ _ rfl _ rfl ?_)
  intro bx w1 hk hbl hg hs
  clear hg hs
  have hw1 := hw.below hbl
  have HR1 := Lib.hid (HR.out.below hbl)
  have HS1 := Lib.hid (Nat.le_trans hB hbl.size)
  have c0 : w1.cell? ⟨bx, 0, none⟩ = some (.int .u64 x.height) := hk.cell 0
  go_wp2_with fail
  refine (var_int _ B g bs x.height hw1 (by omega) (by unfold two64; omega) (by omega)).mono ?_
  rintro e w2 ⟨rfl, hw2, e2⟩
  have hk2 := hk.effT e2 (by decide)
  have c1 : w2.cell? ⟨bx, 1, none⟩ = some (.int .i64 x.round) := hk2.cell 1
  go_wp2_with fail
  refine (var_int _ B g _ x.round hw2 (by omega) (by unfold two64; omega) (by simp only [List.length_append]; omega)).mono ?_
  rintro e w3 ⟨rfl, hw3, e3⟩
  have hk3 := hk2.effT e3 (by decide)
  go_wp2_with (refine wpList_load_part rfl 29 _ rfl bx 2 32 rfl _ _ _ hk3 Tryd.underlying29 rfl info_hash (by have := x.cl_len hx; simp [this]) _ (x.cl_id hx.id) ?_)
  refine (putHash_any _ B g _ x.id hw3 Li.out (by simp only [List.length_append]; omega)).mono ?_
  rintro e w4 ⟨rfl, hw4, e4⟩
  have hk4 := hk3.effT e4 (by decide)
  have c2 : w4.cell? ⟨bx, 34, none⟩ = some (.slice x.A x.n x.c) := (hk4.cell 34).trans (x.cl_34 hx.id)
  have HE4 := Lib.hid (e2.trans (e3.trans e4))
  have HR4 := Lib.hid (rd_eff HR1.out HE4.out HS1.out HA.out)
  have HS4 := Lib.hid (Nat.le_trans HS1.out HE4.out.size)
  go_wp2_with fail
  refine (putMks_any _ B g _ x.A x.n x.c x.ms HX.out.ms HMS.out HX.out.n hn64 HR4.out HA.out HS4.out hw4 (by simp only [List.length_append, Li.out]; omega)).mono ?_
  rintro e w5 ⟨rfl, hw5, e5⟩
  go_wp2
  go_end0
  refine ⟨rfl, ?_, (Eff.of_below hbl _ _).trans (HE4.out.trans e5)⟩
  unfold encCrt
  simpa only [List.append_assoc] using hw5
end Go.Proofs.YtjdegphpalhapaaDoor

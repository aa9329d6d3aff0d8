/-
  A header as cells; PlainHeader; putHeader. Conditions: each number fits its kind; the Writer has room.
  A header laid down; EncodeHeader. Conditions: each number fits its kind.
  BlockId: the digest of a header's form, never all zero. Conditions: each number fits its kind; the tables read as they were laid.
  Certificates as cells; zeroCert; a mark laid down. Conditions: each number fits its kind; the marks lie in the world.
-/
import Derived.Test.YtnfffipkgaobhaaM11
namespace Go.Proofs.Ytnfffipkgaobhaa
set_option linter.unusedSimpArgs false
set_option linter.unusedVariables false
open Go.RowKit
set_option maxRecDepth 100000

/-- a header; hh: its seven hashes, one behind the other -/
structure Hdr where
  chain : ByteArray
  height : Int
  time : Int
  hh : List UInt8
  prop : Int
def Hdr.cl (x : Hdr) : List Value := [.string x.chain, .int .u64 x.height, .int .u64 x.time] ++ bv x.hh ++ [.int .u64 x.prop]
structure Hdr.ok (x : Hdr) : Prop where
  chain : x.chain.size ≤ 9223372036854775807
  height : U64 x.height
  time : U64 x.time
  hh : x.hh.length = 224
  prop : U64 x.prop
def plainHdr (x : Hdr) : Int := firstErr [named x.chain.size, height x.height, moment x.time, field (x.prop == 0)]
def encHdr (x : Hdr) : List UInt8 := varB x.chain.size ++ x.chain.data.toList ++ varB x.height.toNat ++ varB x.time.toNat ++ x.hh ++ varB x.prop.toNat
def hpart (l : List UInt8) (k : Nat) : List UInt8 := (l.drop (32 * k)).take 32
theorem hpart_len {l : List UInt8} (h : l.length = 224) {k : Nat} (hk : k < 7) : (hpart l k).length = 32 := by
  simp [hpart, h]; omega
theorem hpart_take (l : List UInt8) (k : Nat) : l.take (32 * k) ++ hpart l k = l.take (32 * (k + 1)) := by
  unfold hpart
  rw [show 32 * (k + 1) = 32 * k + 32 by omega, List.take_add]
theorem Hdr.cl_len (x : Hdr) (h : x.ok) : x.cl.length = 228 := by simp [Hdr.cl, bv_length, h.hh]
theorem Hdr.cl_hh (x : Hdr) (h : x.ok) (k : Nat) (hk : k < 7) : x.cl.toArray.extract (3 + 32 * k) (3 + 32 * k + 32) = (bv (hpart x.hh k)).toArray := by
  refine extract_cl _ _ _ _ ?_
  have e : x.cl.drop (3 + 32 * k) = (bv x.hh).drop (32 * k) ++ [.int .u64 x.prop] := by
    have l1 : (bv x.hh).length = 224 := by rw [bv_length, h.hh]
    simp only [Hdr.cl, List.append_assoc]
    rw [List.drop_append]
    simp only [List.length_cons, List.length_nil]
    rw [show ([Value.string x.chain, .int .u64 x.height, .int .u64 x.time] : List Value).drop (3 + 32 * k) = [] from List.drop_of_length_le (by simp), List.nil_append, show 3 + 32 * k - (0 + 1 + 1 + 1) = 32 * k by omega, List.drop_append_of_le_length (by omega)]
  rw [e, show 3 + 32 * k + 32 - (3 + 32 * k) = 32 by omega, List.take_append_of_le_length (by simp [bv_length, h.hh]; omega)]
  simp [hpart, bv, List.map_drop, List.map_take]
theorem Hdr.cl_prop (x : Hdr) (h : x.ok) : x.cl.toArray[227]? = some (.int .u64 x.prop) := by
  simp [Hdr.cl, bv, List.getElem?_append, h.hh]

structure HdrB (x : Hdr) : Prop where
  c1 : 1 ≤ x.chain.size
  c2 : x.chain.size ≤ 16
  h1 : 1 ≤ x.height
  h2 : x.height ≤ 1099511627776
  t1 : 0 ≤ x.time
  t2 : x.time ≤ 1125899906842624
  p1 : 1 ≤ x.prop
  p2 : x.prop < 18446744073709551616
theorem hdrB {x : Hdr} (hx : x.ok) (h : plainHdr x = 0) : HdrB x := by
  have hall := firstErr_zero h
  have a1 := hall (named x.chain.size) (by simp)
  have a2 := hall (height x.height) (by simp)
  have a3 := hall (moment x.time) (by simp)
  have a4 := field_zero (hall (field (x.prop == 0)) (by simp))
  have b1 := of_decide_eq_false (field_zero a1)
  have b2 := of_decide_eq_false (field_zero a2)
  have b3 := of_decide_eq_false (field_zero a3)
  have ht := hx.time
  have hf := hx.prop
  unfold U64 at ht hf
  have a4' : x.prop ≠ 0 := by simpa using a4
  exact ⟨by omega, by omega, by omega, by omega, ht.1, by omega, by omega, hf.2⟩
theorem encHdr_len {x : Hdr} (hx : x.ok) (hp : HdrB x) : (encHdr x).length ≤ 290 := by
  obtain ⟨c1, c2, h1, h2, t1, t2, p1, p2⟩ := hp
  have l0 := varB_ten (n := x.chain.size) (by unfold two64; omega)
  have l1 := varB_int (n := x.height) (by omega) (by unfold two64; omega)
  have l2 := varB_int (n := x.time) (by omega) (by unfold two64; omega)
  have l3 := varB_int (n := x.prop) (by omega) (by unfold two64; omega)
  have li := hx.hh
  have lc : x.chain.data.toList.length = x.chain.size := by rw [Array.length_toList]; rfl
  simp only [encHdr, List.length_append]
  omega

-- ---- seven hashes as one array
theorem fold_set (off : Nat) : ∀ (v : List Value) (k : Nat) (pre mid post : List Value), mid.length = v.length → pre.length = off + k →
    (v.zipIdx k).foldl (fun (cs : Array Value) (p : Value × Nat) => cs.setIfInBounds (off + p.2) p.1) (pre ++ mid ++ post).toArray = (pre ++ v ++ post).toArray
  | [], k, pre, mid, post, h1, h2 => by
    have : mid = [] := List.eq_nil_of_length_eq_zero (by simpa using h1)
    subst this; simp
  | a :: v, k, pre, m :: mid, post, h1, h2 => by
    have hset : (pre ++ (m :: mid) ++ post).toArray.setIfInBounds (off + k) a = ((pre ++ [a]) ++ mid ++ post).toArray := by
      rw [List.setIfInBounds_toArray, ← h2]
      congr 1
      simp [List.set_append]
    rw [List.zipIdx_cons, List.foldl_cons, hset, fold_set off v (k + 1) (pre ++ [a]) mid post (by simpa using h1) (by simp [h2]; omega)]
    simp
  | a :: v, k, pre, [], post, h1, h2 => by simp at h1
def partsAt : Nat → List (List Value) → List (Nat × Value)
  | _, [] => []
  | k, p :: ps => (k, .agg p.toArray) :: partsAt (k + 1) ps
theorem fill_cat (n : Nat) : ∀ (ps : List (List Value)) (k : Nat) (pre mid : List Value), (∀ p ∈ ps, p.length = n) → pre.length = k * n → mid.length = ps.length * n →
    Instr.fill (fun i => some (i * n, n)) (pre ++ mid).toArray (partsAt k ps) = some (pre ++ ps.flatten).toArray
  | [], k, pre, mid, _, _, h => by
    have : mid = [] := List.eq_nil_of_length_eq_zero (by simpa using h)
    subst this; simp [partsAt, Instr.fill]
  | p :: ps, k, pre, mid, hp, h1, h2 => by
    have hpn := hp p (List.mem_cons_self ..)
    have hm : mid = mid.take n ++ mid.drop n := (List.take_append_drop n mid).symm
    have hml : n ≤ mid.length := by rw [h2, List.length_cons, Nat.succ_mul]; omega
    have e1 := fold_set (k * n) p 0 pre (mid.take n) (mid.drop n) (by rw [List.length_take, hpn]; omega) (by omega)
    rw [List.append_assoc, ← hm] at e1
    have e2 := fill_cat n ps (k + 1) (pre ++ p) (mid.drop n) (fun q hq => hp q (List.mem_cons_of_mem _ hq)) (by rw [List.length_append, h1, hpn, Nat.succ_mul]) (by rw [List.length_drop, h2, List.length_cons, Nat.succ_mul]; omega)
    rw [partsAt, Instr.fill]
    simp only [Value.cells, List.size_toArray, hpn, ne_eq, not_true_eq_false, false_or]
    rw [if_neg (by simp only [decide_false, Bool.false_or, decide_eq_true_eq]; rw [List.length_append, h1]; omega)]
    have e3 : ∀ cs : Array Value, p.toArray.zipIdx.foldl (fun cs (x : Value × Nat) => cs.setIfInBounds (k * n + x.2) x.1) cs = (p.zipIdx 0).foldl (fun (cs : Array Value) (q : Value × Nat) => cs.setIfInBounds (k * n + q.2) q.1) cs := fun cs => by
      rw [← Array.foldl_toList]; simp
    rw [e3, e1, e2, List.flatten_cons, List.append_assoc]
theorem hh_parts (l : List UInt8) (h : l.length = 224) : [bv (hpart l 0), bv (hpart l 1), bv (hpart l 2), bv (hpart l 3), bv (hpart l 4), bv (hpart l 5), bv (hpart l 6)].flatten = bv l := by
  have e : l = hpart l 0 ++ (hpart l 1 ++ (hpart l 2 ++ (hpart l 3 ++ (hpart l 4 ++ (hpart l 5 ++ hpart l 6))))) := by
    have e7 : l.take (32 * 7) = l := List.take_of_length_le (by omega)
    rw [← e7]
    have hp : ∀ k, k < 7 → hpart (l.take (32 * 7)) k = hpart l k := fun k _ => by rw [e7]
    rw [hp 0 (by omega), hp 1 (by omega), hp 2 (by omega), hp 3 (by omega), hp 4 (by omega), hp 5 (by omega), hp 6 (by omega)]
    rw [← hpart_take l 6, ← hpart_take l 5, ← hpart_take l 4, ← hpart_take l 3, ← hpart_take l 2, ← hpart_take l 1, ← hpart_take l 0]
    simp
  have e2 := congrArg bv e
  rw [e2]
  simp [bv]
theorem arr_all {cs : Array Value} {n : Nat} (h : cs.size = n) : cs.extract 0 (0 + n) = cs := by subst h; simp
end Go.Proofs.Ytnfffipkgaobhaa
namespace Go.Proofs.Ytnfffipkgaobhaa
set_option linter.unusedSimpArgs false
set_option linter.unusedVariables false
open Go.RowKit
set_option maxRecDepth 100000

theorem info_Hdr : (Try.prog.info? 34).map (·.size) = some 228 := by kernel_rfl
theorem cl_all228 {l : List Value} (h : l.length = 228) : l.toArray.extract 0 (0 + 228) = l.toArray := by
  apply Array.ext'
  simp [List.take_of_length_le (Nat.le_of_eq h)]
end Go.Proofs.Ytnfffipkgaobhaa
namespace Go.Proofs.Ytnfffipkgaobhaa
set_option linter.unusedSimpArgs false
set_option linter.unusedVariables false
open Go.RowKit
set_option maxRecDepth 100000

def nzH (h : List UInt8) : List UInt8 := if h = zer 32 then zer 31 ++ [1] else h
theorem nzH_len {h : List UInt8} (hl : h.length = 32) : (nzH h).length = 32 := by
  unfold nzH; split
  · rfl
  · exact hl
def idHdr (x : Hdr) : List UInt8 := nzH (sha (17 :: encHdr x))
theorem splice31 : splice (bv (zer 32)).toArray 31 [.int .u8 1] = (bv (zer 31 ++ [1])).toArray := by rfl

end Go.Proofs.Ytnfffipkgaobhaa
namespace Go.Proofs.Ytnfffipkgaobhaa
set_option linter.unusedSimpArgs false
set_option linter.unusedVariables false
open Go.RowKit
set_option maxRecDepth 100000

structure Mk where
  idx : Int
  time : Int
  sl : List UInt8
def Mk.cl (m : Mk) : List Value := [.int .i64 m.idx, .int .u64 m.time] ++ bv m.sl
structure Mk.ok (m : Mk) : Prop where
  idx : I64 m.idx
  time : U64 m.time
  sl : m.sl.length = 16
/-- a certificate; its marks lie at A -/
structure Crt where
  height : Int
  round : Int
  id : List UInt8
  A : Option Addr
  n : Nat
  c : Nat
  ms : List Mk
def Crt.cl (x : Crt) : List Value := [.int .u64 x.height, .int .i64 x.round] ++ bv x.id ++ [.slice x.A x.n x.c]
structure Crt.ok (x : Crt) : Prop where
  height : U64 x.height
  round : I64 x.round
  id : x.id.length = 32
  n : x.n = x.ms.length
  ms : ∀ m ∈ x.ms, m.ok
def Crt.at (x : Crt) (w : World) : Prop := Rd w x.A (x.ms.flatMap Mk.cl)
theorem Crt.cl_len (x : Crt) (h : x.ok) : x.cl.length = 35 := by simp [Crt.cl, bv_length, h.id]
theorem Crt.cl_id (x : Crt) (h : x.id.length = 32) : x.cl.toArray.extract 2 (2 + 32) = (bv x.id).toArray := by
  refine extract_cl _ _ _ _ ?_
  have e : x.cl.drop 2 = bv x.id ++ [.slice x.A x.n x.c] := by simp [Crt.cl]
  rw [e, show 2 + 32 - 2 = (bv x.id).length from by rw [bv_length, h]]
  exact List.take_left
theorem Crt.cl_34 (x : Crt) (h : x.id.length = 32) : x.cl.toArray[34]? = some (.slice x.A x.n x.c) := by
  simp [Crt.cl, bv, List.getElem?_append, h]
theorem info_Crt : (Try.prog.info? 30).map (·.size) = some 35 := by kernel_rfl
theorem info_Mk : (Try.prog.info? 50).map (·.size) = some 18 := by kernel_rfl
theorem cl_all35 {l : List Value} (h : l.length = 35) : l.toArray.extract 0 (0 + 35) = l.toArray := by
  apply Array.ext'
  simp [List.take_of_length_le (Nat.le_of_eq h)]
theorem Mk.cl_len (m : Mk) (h : m.ok) : m.cl.length = 18 := by simp [Mk.cl, bv_length, h.sl]

/-- the cells of the k-th mark -/
theorem mk_at : ∀ (ms : List Mk) (hm : ∀ m ∈ ms, m.ok) (k : Nat) (hk : k < ms.length) (j : Nat) (u : Value), (ms[k]).cl[j]? = some u → (ms.flatMap Mk.cl)[18 * k + j]? = some u
  | m :: ms, hm, 0, hk, j, u, hu => by
    rw [List.flatMap_cons, Nat.mul_zero, Nat.zero_add]
    exact List.getElem?_append_left (List.getElem?_eq_some_iff.1 hu).1 |>.trans hu
  | m :: ms, hm, k + 1, hk, j, u, hu => by
    have hl := m.cl_len (hm m (List.mem_cons_self ..))
    rw [List.flatMap_cons, List.getElem?_append_right (by omega), hl, show 18 * (k + 1) + j - 18 = 18 * k + j by omega]
    exact mk_at ms (fun m' h' => hm m' (List.mem_cons_of_mem _ h')) k (by simpa using hk) j u (by simpa using hu)

section
variable {P : Program}
theorem wpList_load_at {ops : Array Oper} {rest : List Oper} {o : Oper} {a : Act} {w : World} {Q : Exit → Act → World → Prop} (hw : Region.wanted o (yielded ops a.tmps) = true) (ty : TypeId) (x : Operand) (ho : o.op = .load ty x)
    (ad : Addr) (n : Nat) (hx : a.eval x = .pointer (some ad)) (vs : List Value) (hc : ∀ j v, vs[j]? = some v → w.cell? (ad.add j) = some v) (d : TypeDesc) (hu : P.underlying ty = some d) (hd : aggD d = true) (hi : (P.info? ty).map (·.size) = some n) (hn : vs.length = n)
    (h : wpList P ops Q rest (a.put o.dst (.agg vs.toArray)) w) : wpList P ops Q (o :: rest) a w := by
  refine wpList_want hw fun K hK => ?_
  have hl : (loadCells ad vs.length).run P w = .ok vs.toArray w :=
    run_loadCells_list (P := P) w ad vs hc
  rw [hn] at hl
  have hagg : (isAgg ty).run P w = .ok true w := by
    rw [run_isAgg hu w]
    congr 1
    unfold isAggT
    rw [hu]
    cases d <;> simp [aggD] at hd ⊢
  have hv : (loadVar ty ad).run P w = .ok (.agg vs.toArray) w := by
    simp [loadVar, Sem.run_bind, hagg, run_sizeOf' hi, hl]
  unfold Oper.wp execOp
  simp only [ho, hx, Instr.loadAt, Instr.sureAddr, Sem.run_bind, Sem.run_pure, Result.andThen_ok, hv]
  exact hK _ _ h
end

def zeroC (x : Crt) : Bool := (x.height == 0) && ((x.round == 0) && ((x.id == zeros 32) && ((x.n : Int) == 0)))

set_option maxHeartbeats 1000000 in
theorem zeroCert_any (w : World) (x : Crt) (hx : x.ok) :
    Calls Try.prog 24 #[.agg x.cl.toArray] w fun e w' => e = .returned (.bool (zeroC x)) ∧ Below w.heap.size w w' := by
  obtain ⟨q1, h1⟩ : ∃ q, (x.height == 0) = q := ⟨_, rfl⟩
  obtain ⟨q2, h2⟩ : ∃ q, (x.round == 0) = q := ⟨_, rfl⟩
  obtain ⟨q3, h3⟩ : ∃ q, (x.id == zeros 32) = q := ⟨_, rfl⟩
  obtain ⟨q4, h4⟩ : ∃ q, ((x.n : Int) == 0) = q := ⟨_, rfl⟩
  have hz : zeroC x = (q1 && (q2 && (q3 && q4))) := by unfold zeroC; rw [h1, h2, h3, h4]
  have HZ := Lib.hid hz
  rw [hz]
  clear hz
  cases q1 <;> cases q2 <;> cases q3
  all_goals
    go_enter Try.func24, Try.ntmps24
    go_wp2_with (refine wpList_box_bk rfl _ _ rfl _ rfl ?_)
    intro g w1 hb hbl hg hs
    clear hg hs
    have c0 : w1.cell? ⟨g, 0, none⟩ = some (.int .u64 x.height) := hb.cell 0
    have c1 : w1.cell? ⟨g, 1, none⟩ = some (.int .i64 x.round) := hb.cell 1
    have c2 : w1.cell? ⟨g, 34, none⟩ = some (.slice x.A x.n x.c) := (hb.cell 34).trans (x.cl_34 hx.id)
    go_wp2_with (first
      | (with_reducible show wpList _ _ _ (Oper.mk _ (Op.load 27 _) _ _ _ _ :: _) _ _; refine wpList_load_part rfl 27 _ rfl g 2 32 rfl _ _ _ hb Try.underlying27 rfl info_hash (by have := x.cl_len hx; simp [this]) _ (x.cl_id hx.id) ?_)
      | (with_reducible show wpList _ _ _ (Oper.mk _ (Op.build _ _) _ _ _ _ :: _) _ _; refine wpList_buildv rfl 27 [] rfl [] rfl _ built_hash ?_)
      | (with_reducible show wpList _ _ _ (Oper.mk _ (Op.binOp BinOp.eql 27 _ _ _) _ _ _ _ :: _) _ _; refine wpList_eql_flat rfl 27 _ _ _ rfl (bv x.id) (bv (zeros 32)) rfl rfl 2 _ flat_hash (by omega) agg_hash guard_hash (fits_hash hx.id) (fits_hash rfl) _ (bv_iff rfl) ?_))
    go_ret
    exact ⟨by simp, hbl⟩
end Go.Proofs.Ytnfffipkgaobhaa

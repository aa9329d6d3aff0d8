/-
  A header as cells; PlainHeader; putHeader. Conditions: each number fits its kind; the Writer has room.
  A header laid down; EncodeHeader. Conditions: each number fits its kind.
  Certificates as cells; zeroCert; a mark laid down. Conditions: each number fits its kind; the marks lie in the world.
-/
import Derived.Test.YtlhnhjglcbggmaaGreatRRY05
namespace Go.Proofs.YtlhnhjglcbggmaaGreatRR
set_option linter.unusedSimpArgs false
set_option linter.unusedVariables false
open Go.RowKit
set_option maxRecDepth 100000

/-- a header; hh: its seven hashes, one behind the other -/
structure Hdr where
 chain : ByteArray
 height : Int
 time : Int
 hh : List UInt8
 prop : Int
def Hdr.cl (x : Hdr) : List Value := [.string x.chain, .int .u64 x.height, .int .u64 x.time] ++ bv x.hh ++ [.int .u64 x.prop]
structure Hdr.ok (x : Hdr) : Prop where
 chain : x.chain.size ≤ 9223372036854775807
 height : U64 x.height
 time : U64 x.time
 hh : x.hh.length = 224
 prop : U64 x.prop
def plainHdr (x : Hdr) : Int := firstErr [named x.chain.size, height x.height, moment x.time, field (x.prop == 0)]
def encHdr (x : Hdr) : List UInt8 := varB x.chain.size ++ x.chain.data.toList ++ varB x.height.toNat ++ varB x.time.toNat ++ x.hh ++ varB x.prop.toNat
def hpart (l : List UInt8) (k : Nat) : List UInt8 := (l.drop (32 * k)).take 32
theorem hpart_len {l : List UInt8} (h : l.length = 224) {k : Nat} (hk : k < 7) : (hpart l k).length = 32 := by
 simp [hpart, h]; omega
theorem hpart_take (l : List UInt8) (k : Nat) : l.take (32 * k) ++ hpart l k = l.take (32 * (k + 1)) := by
 unfold hpart
 rw [show 32 * (k + 1) = 32 * k + 32 by omega, List.take_add]
theorem Hdr.cl_len (x : Hdr) (h : x.ok) : x.cl.length = 228 := by simp [Hdr.cl, bv_length, h.hh]
theorem Hdr.cl_hh (x : Hdr) (h : x.ok) (k : Nat) (hk : k < 7) : x.cl.toArray.extract (3 + 32 * k) (3 + 32 * k + 32) = (bv (hpart x.hh k)).toArray := by
 refine extract_cl _ _ _ _ ?_
 have e : x.cl.drop (3 + 32 * k) = (bv x.hh).drop (32 * k) ++ [.int .u64 x.prop] := by
  have l1 : (bv x.hh).length = 224 := by rw [bv_length, h.hh]
  simp only [Hdr.cl, List.append_assoc]
  rw [List.drop_append]
  simp only [List.length_cons, List.length_nil]
  rw [show ([Value.string x.chain, .int .u64 x.height, .int .u64 x.time] : List Value).drop (3 + 32 * k) = [] from List.drop_of_length_le (by simp), List.nil_append, show 3 + 32 * k - (0 + 1 + 1 + 1) = 32 * k by omega, List.drop_append_of_le_length (by omega)]
 rw [e, show 3 + 32 * k + 32 - (3 + 32 * k) = 32 by omega, List.take_append_of_le_length (by simp [bv_length, h.hh]; omega)]
 simp [hpart, bv, List.map_drop, List.map_take]
theorem Hdr.cl_prop (x : Hdr) (h : x.ok) : x.cl.toArray[227]? = some (.int .u64 x.prop) := by
 simp [Hdr.cl, bv, List.getElem?_append, h.hh]

set_option maxHeartbeats 1000000 in
theorem plainHdr_any (w : World) (x : Hdr) (hx : x.ok) :
  Calls Tryz.prog 45 #[.agg x.cl.toArray] w fun e w' => e = .returned (.int .i64 (plainHdr x)) ∧ Below w.heap.size w w' := by
 go_enter Tryz.func45, Tryz.ntmps45
 go_wp2_with (refine wpList_box_bk rfl _ _ rfl _ rfl ?_)
 intro g w1 hb hbl hg hs
 have Hg := Lib.hid hg; clear hg
 have HSz := Lib.hid hs; clear hs
 have Hc := Lib.hid hx.chain
 have c0 : w1.cell? ⟨g, 0, none⟩ = some (.string x.chain) := hb.cell 0
 have c1 : w1.cell? ⟨g, 1, none⟩ = some (.int .u64 x.height) := hb.cell 1
 have c2 : w1.cell? ⟨g, 2, none⟩ = some (.int .u64 x.time) := hb.cell 2
 have c3 : w1.cell? ⟨g, 227, none⟩ = some (.int .u64 x.prop) := (hb.cell 227).trans (x.cl_prop hx)
 go_wp2_with fail
 refine wp_region_still_tail 13 (by kernel_rfl) (by kernel_rfl) ?_
 simp only [List.take_succ_cons, List.take_zero, List.drop_succ_cons, List.drop_zero]
 refine still_quiet _ _ ?_
 repeat (first | go_big_quiet_skip | (go_big_quiet_want; go_big_quiet_op; first | go_big_quiet_on | (apply Exists.intro; refine ⟨still_of (by first | (go_at_call 75; exact field_any _ _) | (go_at_call 89; exact named_any _ _ Hc.out) | (go_at_call 72; exact height_any _ _) | (go_at_call 74; exact moment_any _ _)), ?_⟩; go_big_quiet_on)))
 refine wpQuiet_nil ?_
 change wpList _ _ _ _ _ w1.drew
 go_wp2_with (go_at_call 70; go_must (refine (all_any _ _ 4 4 [_, _, _, _] (rd_errs w1.drew _ [_, _, _, _] rfl) rfl (by omega)).mono ?_); rintro e w2 ⟨rfl, rfl⟩)
 go_ret
 exact ⟨ret_i64 (by rfl), (hbl.drew).alloc (Nat.le_of_lt (by have := HSz.out; have := Hg.out; simp; omega)) _⟩

structure HdrB (x : Hdr) : Prop where
 c1 : 1 ≤ x.chain.size
 c2 : x.chain.size ≤ 16
 h1 : 1 ≤ x.height
 h2 : x.height ≤ 1099511627776
 t1 : 0 ≤ x.time
 t2 : x.time ≤ 1125899906842624
 p1 : 1 ≤ x.prop
 p2 : x.prop < 18446744073709551616
theorem hdrB {x : Hdr} (hx : x.ok) (h : plainHdr x = 0) : HdrB x := by
 have hall := firstErr_zero h
 have a1 := hall (named x.chain.size) (by simp)
 have a2 := hall (height x.height) (by simp)
 have a3 := hall (moment x.time) (by simp)
 have a4 := field_zero (hall (field (x.prop == 0)) (by simp))
 have b1 := of_decide_eq_false (field_zero a1)
 have b2 := of_decide_eq_false (field_zero a2)
 have b3 := of_decide_eq_false (field_zero a3)
 have ht := hx.time
 have hf := hx.prop
 unfold U64 at ht hf
 have a4' : x.prop ≠ 0 := by simpa using a4
 exact ⟨by omega, by omega, by omega, by omega, ht.1, by omega, by omega, hf.2⟩
theorem encHdr_len {x : Hdr} (hx : x.ok) (hp : HdrB x) : (encHdr x).length ≤ 290 := by
 obtain ⟨c1, c2, h1, h2, t1, t2, p1, p2⟩ := hp
 have l0 := varB_ten (n := x.chain.size) (by unfold two64; omega)
 have l1 := varB_int (n := x.height) (by omega) (by unfold two64; omega)
 have l2 := varB_int (n := x.time) (by omega) (by unfold two64; omega)
 have l3 := varB_int (n := x.prop) (by omega) (by unfold two64; omega)
 have li := hx.hh
 have lc : x.chain.data.toList.length = x.chain.size := by rw [Array.length_toList]; rfl
 simp only [encHdr, List.length_append]
 omega

-- ---- seven hashes as one array
theorem fold_set (off : Nat) : ∀ (v : List Value) (k : Nat) (pre mid post : List Value), mid.length = v.length → pre.length = off + k →
  (v.zipIdx k).foldl (fun (cs : Array Value) (p : Value × Nat) => cs.setIfInBounds (off + p.2) p.1) (pre ++ mid ++ post).toArray = (pre ++ v ++ post).toArray
 | [], k, pre, mid, post, h1, h2 => by
  have : mid = [] := List.eq_nil_of_length_eq_zero (by simpa using h1)
  subst this; simp
 | a :: v, k, pre, m :: mid, post, h1, h2 => by
  have hset : (pre ++ (m :: mid) ++ post).toArray.setIfInBounds (off + k) a = ((pre ++ [a]) ++ mid ++ post).toArray := by
   rw [List.setIfInBounds_toArray, ← h2]
   congr 1
   simp [List.set_append]
  rw [List.zipIdx_cons, List.foldl_cons, hset, fold_set off v (k + 1) (pre ++ [a]) mid post (by simpa using h1) (by simp [h2]; omega)]
  simp
 | a :: v, k, pre, [], post, h1, h2 => by simp at h1
def partsAt : Nat → List (List Value) → List (Nat × Value)
 | _, [] => []
 | k, p :: ps => (k, .agg p.toArray) :: partsAt (k + 1) ps
theorem fill_cat (n : Nat) : ∀ (ps : List (List Value)) (k : Nat) (pre mid : List Value), (∀ p ∈ ps, p.length = n) → pre.length = k * n → mid.length = ps.length * n →
  Instr.fill (fun i => some (i * n, n)) (pre ++ mid).toArray (partsAt k ps) = some (pre ++ ps.flatten).toArray
 | [], k, pre, mid, _, _, h => by
  have : mid = [] := List.eq_nil_of_length_eq_zero (by simpa using h)
  subst this; simp [partsAt, Instr.fill]
 | p :: ps, k, pre, mid, hp, h1, h2 => by
  have hpn := hp p (List.mem_cons_self ..)
  have hm : mid = mid.take n ++ mid.drop n := (List.take_append_drop n mid).symm
  have hml : n ≤ mid.length := by rw [h2, List.length_cons, Nat.succ_mul]; omega
  have e1 := fold_set (k * n) p 0 pre (mid.take n) (mid.drop n) (by rw [List.length_take, hpn]; omega) (by omega)
  rw [List.append_assoc, ← hm] at e1
  have e2 := fill_cat n ps (k + 1) (pre ++ p) (mid.drop n) (fun q hq => hp q (List.mem_cons_of_mem _ hq)) (by rw [List.length_append, h1, hpn, Nat.succ_mul]) (by rw [List.length_drop, h2, List.length_cons, Nat.succ_mul]; omega)
  rw [partsAt, Instr.fill]
  simp only [Value.cells, List.size_toArray, hpn, ne_eq, not_true_eq_false, false_or]
  rw [if_neg (by simp only [decide_false, Bool.false_or, decide_eq_true_eq]; rw [List.length_append, h1]; omega)]
  have e3 : ∀ cs : Array Value, p.toArray.zipIdx.foldl (fun cs (x : Value × Nat) => cs.setIfInBounds (k * n + x.2) x.1) cs = (p.zipIdx 0).foldl (fun (cs : Array Value) (q : Value × Nat) => cs.setIfInBounds (k * n + q.2) q.1) cs := fun cs => by
   rw [← Array.foldl_toList]; simp
  rw [e3, e1, e2, List.flatten_cons, List.append_assoc]
theorem hh_parts (l : List UInt8) (h : l.length = 224) : [bv (hpart l 0), bv (hpart l 1), bv (hpart l 2), bv (hpart l 3), bv (hpart l 4), bv (hpart l 5), bv (hpart l 6)].flatten = bv l := by
 have e : l = hpart l 0 ++ (hpart l 1 ++ (hpart l 2 ++ (hpart l 3 ++ (hpart l 4 ++ (hpart l 5 ++ hpart l 6))))) := by
  have e7 : l.take (32 * 7) = l := List.take_of_length_le (by omega)
  rw [← e7]
  have hp : ∀ k, k < 7 → hpart (l.take (32 * 7)) k = hpart l k := fun k _ => by rw [e7]
  rw [hp 0 (by omega), hp 1 (by omega), hp 2 (by omega), hp 3 (by omega), hp 4 (by omega), hp 5 (by omega), hp 6 (by omega)]
  rw [← hpart_take l 6, ← hpart_take l 5, ← hpart_take l 4, ← hpart_take l 3, ← hpart_take l 2, ← hpart_take l 1, ← hpart_take l 0]
  simp
 have e2 := congrArg bv e
 rw [e2]
 simp [bv]
theorem zero_7 : ∃ it ie, Tryz.prog.info? 169 = some it ∧ Tryz.prog.underlying 169 = some (.array 7 29) ∧ it.zero = some (.agg (bv (zer 224)).toArray) ∧ Tryz.prog.info? 29 = some ie ∧ ie.size = 32 := ⟨_, _, rfl, rfl, by kernel_rfl, rfl, by kernel_rfl⟩
theorem built_7 (l : List UInt8) (h : l.length = 224) : Tryz.prog.built 169 (partsAt 0 [bv (hpart l 0), bv (hpart l 1), bv (hpart l 2), bv (hpart l 3), bv (hpart l 4), bv (hpart l 5), bv (hpart l 6)]) = some (bv l).toArray := by
 obtain ⟨it, ie, e1, e2, e3, e4, e5⟩ := zero_7
 unfold Program.built
 rw [e1, e2]
 simp only [e3, e4, e5]
 have hc := fill_cat 32 [bv (hpart l 0), bv (hpart l 1), bv (hpart l 2), bv (hpart l 3), bv (hpart l 4), bv (hpart l 5), bv (hpart l 6)] 0 [] (bv (zer 224)) (by
  intro p hp
  simp only [List.mem_cons, List.not_mem_nil, or_false] at hp
  rcases hp with rfl | rfl | rfl | rfl | rfl | rfl | rfl <;> (rw [bv_length]; exact hpart_len h (by omega))) (by simp) (by simp [bv_length, zer])
 rw [List.nil_append, List.nil_append, hh_parts l h] at hc
 exact hc
theorem run_index7 (l : List UInt8) (h : l.length = 224) (k : Nat) (hk : k < 7) (w : World) : (Instr.index 169 (.agg (bv l).toArray) (.int .i64 (k : Int))).run Tryz.prog w = .ok (.agg (bv (hpart l k)).toArray) w := by
 have hu : Tryz.prog.underlying 169 = some (.array 7 29) := rfl
 have hi := info_h32
 have ha : (isAgg 29).run Tryz.prog w = .ok true w := by
  rw [run_isAgg Tryz.underlying29 w]; rfl
 have ex : List.take 32 (List.drop (k * 32) (bv l)) = bv (hpart l k) := by
  rw [Nat.mul_comm]
  simp [hpart, bv, List.map_drop, List.map_take]
 have h0 : (0 : Int) ≤ (k : Int) ∧ (k : Int) < 7 := by omega
 simp [Instr.index, asIntOf, run_underlying hu, part, ha, run_sizeOf' hi, hk, ex, Sem.run_bind, Sem.run_pure]
theorem exec_index7 {ρ : Operand → Value} {o : Oper} {x y : Operand} (l : List UInt8) (h : l.length = 224) (k : Nat) (hk : k < 7) (ho : o.op = .index 169 x y) (hx : ρ x = .agg (bv l).toArray) (hy : ρ y = .int .i64 (k : Int)) (w : World) : (execOp ρ o).run Tryz.prog w = .ok (.value (.agg (bv (hpart l k)).toArray)) w := by
 unfold execOp
 simp only [ho, hx, hy, Sem.run_bind, Sem.run_pure, run_index7 l h k hk w, Result.andThen_ok]

theorem arr_all {cs : Array Value} {n : Nat} (h : cs.size = n) : cs.extract 0 (0 + n) = cs := by subst h; simp
set_option maxHeartbeats 1000000 in
theorem putHeader_any (w : World) (B g : Nat) (bs : List UInt8) (x : Hdr) (hx : x.ok) (hp : HdrB x) (hw : Wr w B g bs) (hb : bs.length + 400 ≤ room46) :
  Calls Tryz.prog 46 #[.pointer (some ⟨g, 0, none⟩), .agg x.cl.toArray] w fun e w' => e = .returned (.tuple #[]) ∧ Wr w' B g (bs ++ encHdr x) ∧ Eff B WrT w w' := by
 obtain ⟨q1, q2, h1, h2, t1, t2, p1, p2⟩ := hp
 have l0 := varB_ten (n := x.chain.size) (by unfold two64; omega)
 have l1 := varB_int (n := x.height) (by omega) (by unfold two64; omega)
 have l2 := varB_int (n := x.time) (by omega) (by unfold two64; omega)
 have l3 := varB_int (n := x.prop) (by omega) (by unfold two64; omega)
 have LC := Lib.hid (show x.chain.data.toList.length = x.chain.size by rw [Array.length_toList]; rfl)
 have HX := Lib.hid hx
 have P2 := Lib.hid p2
 have HH := Lib.hid hx.hh
 have HLN := Lib.hid (x.cl_len hx)
 clear p2
 go_enter Tryz.func46, Tryz.ntmps46
 go_wp2_with (with_reducible show wpList _ _ _ (Oper.mk _ (Op.box _ _) _ _ _ _ :: _) _ _; refine wpList_box_bk rfl _ _ rfl _ rfl ?_)
 intro bx w1 hk hbl hg hs
 clear hg hs
 have hw1 := hw.below hbl
 have c0 : w1.cell? ⟨bx, 0, none⟩ = some (.string x.chain) := hk.cell 0
 go_wp2_with fail
 refine (text_any _ B g bs x.chain hw1 (by unfold two64; omega) (by omega)).mono ?_
 rintro e w2 ⟨rfl, hw2, e2⟩
 have hk2 := hk.effT e2 (by decide)
 have c1 : w2.cell? ⟨bx, 1, none⟩ = some (.int .u64 x.height) := hk2.cell 1
 go_wp2_with fail
 refine (var_int _ B g _ x.height hw2 (by omega) (by unfold two64; omega) (by simp only [List.length_append, LC.out]; omega)).mono ?_
 rintro e w3 ⟨rfl, hw3, e3⟩
 have hk3 := hk2.effT e3 (by decide)
 have c2 : w3.cell? ⟨bx, 2, none⟩ = some (.int .u64 x.time) := hk3.cell 2
 go_wp2_with fail
 refine (var_int _ B g _ x.time hw3 (by omega) (by unfold two64; omega) (by simp only [List.length_append, LC.out]; omega)).mono ?_
 rintro e w4 ⟨rfl, hw4, e4⟩
 have hk4 := Lib.hid (hk3.effT e4 (by decide))
 obtain ⟨b4, hb4⟩ : ∃ b4, bs ++ (varB x.chain.size ++ x.chain.data.toList) ++ varB x.height.toNat ++ varB x.time.toNat = b4 := ⟨_, rfl⟩
 have hl4 : b4.length + 350 ≤ room46 := by rw [← hb4]; simp only [List.length_append, LC.out]; omega
 rw [hb4] at hw4
 have HB4 := Lib.hid hb4
 have HL4 := Lib.hid hl4
 have HW4 := Lib.hid hw4
 have HE4 := Lib.hid ((Eff.of_below hbl B WrT).trans (e2.trans (e3.trans e4)))
 clear hb4 hl4 hw4 e2 e3 e4 hbl hw1 hw2 hw3 hk hk2 hk3 c0 c1 c2
 go_wp2_with (first
  | (with_reducible show wpList _ _ _ (Oper.mk (some 19) (Op.load _ _) _ _ _ _ :: _) _ _; refine wpList_load_part rfl 29 _ rfl bx (3 + 32 * 0) 32 rfl _ _ _ hk4.out Tryz.underlying29 rfl info_h32 (by simp [HLN.out]) _ (x.cl_hh HX.out 0 (by omega)) ?_)
  | (with_reducible show wpList _ _ _ (Oper.mk (some 21) (Op.load _ _) _ _ _ _ :: _) _ _; refine wpList_load_part rfl 29 _ rfl bx (3 + 32 * 1) 32 rfl _ _ _ hk4.out Tryz.underlying29 rfl info_h32 (by simp [HLN.out]) _ (x.cl_hh HX.out 1 (by omega)) ?_)
  | (with_reducible show wpList _ _ _ (Oper.mk (some 23) (Op.load _ _) _ _ _ _ :: _) _ _; refine wpList_load_part rfl 29 _ rfl bx (3 + 32 * 2) 32 rfl _ _ _ hk4.out Tryz.underlying29 rfl info_h32 (by simp [HLN.out]) _ (x.cl_hh HX.out 2 (by omega)) ?_)
  | (with_reducible show wpList _ _ _ (Oper.mk (some 25) (Op.load _ _) _ _ _ _ :: _) _ _; refine wpList_load_part rfl 29 _ rfl bx (3 + 32 * 3) 32 rfl _ _ _ hk4.out Tryz.underlying29 rfl info_h32 (by simp [HLN.out]) _ (x.cl_hh HX.out 3 (by omega)) ?_)
  | (with_reducible show wpList _ _ _ (Oper.mk (some 27) (Op.load _ _) _ _ _ _ :: _) _ _; refine wpList_load_part rfl 29 _ rfl bx (3 + 32 * 4) 32 rfl _ _ _ hk4.out Tryz.underlying29 rfl info_h32 (by simp [HLN.out]) _ (x.cl_hh HX.out 4 (by omega)) ?_)
  | (with_reducible show wpList _ _ _ (Oper.mk (some 29) (Op.load _ _) _ _ _ _ :: _) _ _; refine wpList_load_part rfl 29 _ rfl bx (3 + 32 * 5) 32 rfl _ _ _ hk4.out Tryz.underlying29 rfl info_h32 (by simp [HLN.out]) _ (x.cl_hh HX.out 5 (by omega)) ?_)
  | (with_reducible show wpList _ _ _ (Oper.mk (some 31) (Op.load _ _) _ _ _ _ :: _) _ _; refine wpList_load_part rfl 29 _ rfl bx (3 + 32 * 6) 32 rfl _ _ _ hk4.out Tryz.underlying29 rfl info_h32 (by simp [HLN.out]) _ (x.cl_hh HX.out 6 (by omega)) ?_)
  | (with_reducible show wpList _ _ _ (Oper.mk _ (Op.build _ _) _ _ _ _ :: _) _ _; go_must (refine wpList_buildv rfl 169 [_, _, _, _, _, _, _] rfl (partsAt 0 [bv (hpart x.hh 0), bv (hpart x.hh 1), bv (hpart x.hh 2), bv (hpart x.hh 3), bv (hpart x.hh 4), bv (hpart x.hh 5), bv (hpart x.hh 6)]) rfl _ (built_7 x.hh HH.out) ?_)))
 go_loopw [33] (fun i wr => ∃ k : Nat, k ≤ 7 ∧ i = .int .i64 k ∧ Wr wr B g (b4 ++ x.hh.take (32 * k)) ∧ Bk wr bx x.cl.toArray 40 ∧ Eff B WrT w wr) (fun i _ => 7 - (intOf i).toNat)
 case atStart => exact ⟨0, by omega, rfl, by simpa using HW4.out, hk4.out, HE4.out⟩
 case round =>
  clear HW4 hk4 HE4
  obtain ⟨k, hk, rfl, hw5, hk5, he5⟩ := hrel
  have HW5 := Lib.hid hw5
  have HK5 := Lib.hid hk5
  have HE5 := Lib.hid he5
  have hlk : (x.hh.take (32 * k)).length = 32 * k := by rw [List.length_take, HH.out]; omega
  have HLK := Lib.hid hlk
  clear hw5 hk5 he5 hlk
  by_cases hlt : k < 7
  ·obtain ⟨h, hh⟩ : ∃ h, hpart x.hh k = h := ⟨_, rfl⟩
   have HP := Lib.hid hh
   have HPL := Lib.hid (show h.length = 32 by rw [← hh]; exact hpart_len HH.out hlt)
   clear hh
   have hi1 : (k : Int) < 7 := by omega
   go_wp2_with (with_reducible show wpList _ _ _ (Oper.mk _ (Op.index _ _ _) _ _ _ _ :: _) _ _; go_must (refine wpList_exec rfl (exec_index7 x.hh HH.out k hlt rfl rfl rfl) ?_); rw [HP.out]; go_wp2_with (with_reducible show wpList _ _ _ (Oper.mk _ (Op.alloc _) _ _ _ _ :: _) _ _; refine wpList_alloc_i rfl 29 rfl (.agg (bv (zer 32)).toArray) zero_hash ?_))
   intro r w6 h6 hl6 hg6 hs6
   have H6 := Lib.hid h6
   have HL6 := Lib.hid hl6
   have HG6 := Lib.hid hg6
   clear h6 hl6 hg6 hs6
   go_wp2_with (with_reducible show wpList _ _ _ (Oper.mk _ (Op.store 29 _ _) _ _ _ _ :: _) _ _; go_must (refine wpList_store_bk rfl 29 _ _ rfl r rfl (.agg (bv h).toArray) rfl _ _ H6.out (by rw [agg_sz (bv_sz HPL.out)]; exact info_h32) (by rw [agg_sz (bv_sz HPL.out)]; simp [bv, zer]) (by simpa [Value.cells] using bv_one h) ?_))
   intro w7 h7 hg7 hs7
   have HL7 := Lib.hid (below_grown2 HL6.out hg7 HG6.out HL6.out.size)
   have H7 := Lib.hid h7
   have HW7 := Lib.hid (HW5.out.below HL7.out)
   have HK7 := Lib.hid (HK5.out.below HL7.out HK5.out.lt)
   clear h7 hg7 hs7
   go_wp2_with (with_reducible show wpList _ _ _ (Oper.mk _ (Op.load 29 _) _ _ _ _ :: _) _ _; go_must (refine wpList_load_part rfl 29 _ rfl r 0 32 rfl _ _ _ H7.out Tryz.underlying29 rfl info_h32 (by rw [bv_sz HPL.out]; omega) (bv h).toArray (arr_all (bv_sz HPL.out)) ?_); go_wp2_with fail)
   refine (putHash_any _ B g _ h HW7.out HPL.out (by rw [List.length_append, HLK.out]; have := HL4.out; omega)).mono ?_
   rintro e w8 ⟨rfl, hw8, e8⟩
   have HW8 := Lib.hid hw8
   have HK8 := Lib.hid (HK7.out.effT e8 (by decide))
   have HE8 := Lib.hid (HE5.out.trans ((Eff.of_below HL7.out _ _).trans e8))
   clear hw8 e8
   go_wp2
   go_round
   case rel => exact ⟨k + 1, by omega, by go_num, by rw [← hpart_take, HP.out, ← List.append_assoc]; exact HW8.out, HK8.out, HE8.out⟩
   case measure => simp [intOf]; omega
  ·have hk7 : k = 7 := by omega
   subst hk7
   have HT := Lib.hid (show x.hh.take (32 * 7) = x.hh from List.take_of_length_le (by rw [HH.out]; omega))
   rw [HT.out] at HW5 HLK
   have c3 : wr.cell? ⟨bx, 227, none⟩ = some (.int .u64 x.prop) := (HK5.out.cell 227).trans (x.cl_prop HX.out)
   go_wp2_with fail
   refine (var_int _ B g _ x.prop HW5.out (by omega) (by unfold two64; exact P2.out) (by rw [List.length_append, HH.out]; have := HL4.out; omega)).mono ?_
   rintro e w6 ⟨rfl, hw6, e6⟩
   have HW6 := Lib.hid hw6
   have HE6 := Lib.hid (HE5.out.trans e6)
   clear hw6 e6
   go_wp2
   go_end0
   refine ⟨rfl, ?_, HE6.out⟩
   have := HW6.out
   rw [← HB4.out] at this
   unfold encHdr
   simpa only [List.append_assoc] using this
end Go.Proofs.YtlhnhjglcbggmaaGreatRR
namespace Go.Proofs.YtlhnhjglcbggmaaGreatRR
set_option linter.unusedSimpArgs false
set_option linter.unusedVariables false
open Go.RowKit
set_option maxRecDepth 100000

theorem info_Hdr : (Tryz.prog.info? 40).map (·.size) = some 228 := by kernel_rfl
theorem cl_all228 {l : List Value} (h : l.length = 228) : l.toArray.extract 0 (0 + 228) = l.toArray := by
 apply Array.ext'
 simp [List.take_of_length_le (Nat.le_of_eq h)]
set_option maxHeartbeats 2000000 in
theorem encodeHdr_any (w : World) (x : Hdr) (hx : x.ok) :
  Calls Tryz.prog 44 #[.agg x.cl.toArray, .int .i64 9223372036854775807, .func (.func 45) #[] #[], .func (.func 46) #[] #[]] w (BytesRes w (plainHdr x) (encHdr x)) := by
 have HX := Lib.hid hx
 have HL := Lib.hid (x.cl_len hx)
 clear hx
 obtain ⟨F, hF⟩ : ∃ F, plainHdr x = F := ⟨_, rfl⟩
 have HF := Lib.hid hF
 rw [hF]
 clear hF
 by_cases hf : F = 0
 ·have HB := Lib.hid (hdrB HX.out (HF.out.trans hf))
  have f1 : (F != 0) = false := by simp [hf]
  have f2 : (F == 0) = true := by simp [hf]
  have HZ := Lib.hid hf
  clear hf
  go_enter Tryz.func44, Tryz.ntmps44
  go_wp2_with (first
   | (with_reducible show wpList _ _ _ (Oper.mk _ (Op.box _ _) _ _ _ _ :: _) _ _; refine wpList_box_bk rfl _ _ rfl _ rfl ?_; intro bx w1 hk hbl hg hs; have HK1 := Lib.hid (bk_eqT (cs' := x.cl.toArray) hk rfl); have HB1 := Lib.hid hbl; clear hk hbl hg hs)
   | (with_reducible show wpList _ _ _ (Oper.mk (some 15) (Op.load _ _) _ _ _ _ :: _) _ _; refine wpList_load_part rfl 40 _ rfl bx 0 228 rfl _ _ _ HK1.out Tryz.underlying40 rfl info_Hdr (by simp [HL.out]) _ (cl_all228 HL.out) ?_))
  refine (plainHdr_any w1 x HX.out).mono ?_
  rintro e w2 ⟨rfl, e2⟩
  rw [HF.out]
  have HB2 := Lib.hid (HB1.out.trans (e2.mono HB1.out.size))
  have HK2 := Lib.hid (HK1.out.below e2 HK1.out.lt)
  clear e2 HB1 HK1
  go_wp2_with fail
  refine (newWriter_any w2).mono ?_
  rintro e w3 ⟨g, rfl, hw3, e3⟩
  have HK3 := Lib.hid (HK2.out.below e3 HK2.out.lt)
  have HS2 := Lib.hid HB2.out.size
  have HS3 := Lib.hid e3.size
  have HB3 := Lib.hid (HB2.out.trans (e3.mono HB2.out.size))
  clear e3 HK2
  go_wp2_with (with_reducible show wpList _ _ _ (Oper.mk (some 23) (Op.load _ _) _ _ _ _ :: _) _ _; refine wpList_load_part rfl 40 _ rfl bx 0 228 rfl _ _ _ HK3.out Tryz.underlying40 rfl info_Hdr (by simp [HL.out]) _ (cl_all228 HL.out) ?_)
  refine (putHeader_any w3 _ g [] x HX.out HB.out hw3 (by unfold room46; simp)).mono ?_
  rintro e w4 ⟨rfl, hw4, e4⟩
  have hlen : ([] ++ encHdr x).length ≤ reach47 ∧ ([] ++ encHdr x).length ≤ 300 := by
   have h1 := encHdr_len HX.out HB.out
   unfold reach47
   rw [List.nil_append]
   omega
  have HLEN := Lib.hid hlen
  have HB4 := Lib.hid (HB3.out.trans (e4.to HS2.out HS3.out))
  clear hlen e4
  go_wp2_with fail
  refine (out_any w4 _ g _ hw4 HLEN.out.1).mono ?_
  rintro e w5 ⟨v, rfl, hv, e5⟩
  obtain ⟨Av, cv, rfl⟩ := hv.form
  have HB5 := Lib.hid (HB4.out.trans (e5.mono HB4.out.size))
  have HV := Lib.hid (hv.mono HB4.out.size)
  have HE := Lib.hid (show ([] ++ encHdr x : List UInt8) = encHdr x from rfl)
  rw [HE.out] at HLEN HV ⊢
  obtain ⟨bs, hbs⟩ : ∃ bs, encHdr x = bs := ⟨_, rfl⟩
  rw [hbs] at HLEN HV ⊢
  obtain ⟨L, hL⟩ : ∃ L, bs.length = L := ⟨_, rfl⟩
  have HLL := Lib.hid hL
  have HBS := Lib.hid hbs
  rw [hL] at HLEN HV ⊢
  have hl9 : ¬ ((9223372036854775807 : Int) < (L : Int)) := by have := HLEN.out.2; omega
  have HX2 := Lib.hid HLEN
  clear hv e5 hw3 hw4 hbs HE HLEN hL
  go_wp2
  go_ret2
  exact ⟨HB5.out, .inr ⟨HZ.out, .slice Av L cv, rfl, by rw [HBS.out]; exact HV.out⟩⟩
 ·have f1 : (F != 0) = true := by simp [hf]
  have f2 : (F == 0) = false := by simp [hf]
  have HZ := Lib.hid hf
  clear hf
  go_enter Tryz.func44, Tryz.ntmps44
  go_wp2_with (first
   | (with_reducible show wpList _ _ _ (Oper.mk _ (Op.box _ _) _ _ _ _ :: _) _ _; refine wpList_box_bk rfl _ _ rfl _ rfl ?_; intro bx w1 hk hbl hg hs; have HK1 := Lib.hid (bk_eqT (cs' := x.cl.toArray) hk rfl); have HB1 := Lib.hid hbl; clear hk hbl hg hs)
   | (with_reducible show wpList _ _ _ (Oper.mk (some 15) (Op.load _ _) _ _ _ _ :: _) _ _; refine wpList_load_part rfl 40 _ rfl bx 0 228 rfl _ _ _ HK1.out Tryz.underlying40 rfl info_Hdr (by simp [HL.out]) _ (cl_all228 HL.out) ?_))
  refine (plainHdr_any w1 x HX.out).mono ?_
  rintro e w2 ⟨rfl, e2⟩
  rw [HF.out]
  have HB2 := Lib.hid (HB1.out.trans (e2.mono HB1.out.size))
  clear e2
  go_wp2
  go_ret2
  exact ⟨HB2.out, .inl ⟨HZ.out, rfl⟩⟩

set_option maxHeartbeats 1000000 in
theorem EncodeHeader_any (w : World) (x : Hdr) (hx : x.ok) :
  Calls Tryz.prog 17 #[.agg x.cl.toArray] w (BytesRes w (plainHdr x) (encHdr x)) := by
 have HL := Lib.hid (x.cl_len hx)
 have HX := Lib.hid hx
 clear hx
 generalize hF : plainHdr x = F
 have HF := Lib.hid hF
 clear hF
 go_enter Tryz.func17, Tryz.ntmps17
 go_wp2_with (first
   | (with_reducible show wpList _ _ _ (Oper.mk _ (Op.box _ _) _ _ _ _ :: _) _ _; refine wpList_box_bk rfl _ _ rfl _ rfl ?_; intro bx w1 hk hbl hg hs; have HK1 := Lib.hid (bk_eqT (cs' := x.cl.toArray) hk rfl); have HB1 := Lib.hid hbl; clear hk hbl hg hs)
   | (with_reducible show wpList _ _ _ (Oper.mk (some 4) (Op.load _ _) _ _ _ _ :: _) _ _; refine wpList_load_part rfl 40 _ rfl bx 0 228 rfl _ _ _ HK1.out Tryz.underlying40 rfl info_Hdr (by simp [HL.out]) _ (cl_all228 HL.out) ?_))
 refine (encodeHdr_any w1 x HX.out).mono ?_
 rw [HF.out]
 rintro e w2 ⟨e2, ⟨hz, rfl⟩ | ⟨hz, v, rfl, hv⟩⟩
 ·have HZ := Lib.hid hz
  have HB2 := Lib.hid (HB1.out.trans (e2.mono HB1.out.size))
  clear hz e2
  go_wp2
  go_ret2
  exact ⟨HB2.out, .inl ⟨HZ.out, rfl⟩⟩
 ·obtain ⟨Av, cv, rfl⟩ := hv.form
  have HZ := Lib.hid hz
  have HB2 := Lib.hid (HB1.out.trans (e2.mono HB1.out.size))
  have HV := Lib.hid (hv.mono HB1.out.size)
  clear hz e2 hv
  go_wp2
  go_ret2
  exact ⟨HB2.out, .inr ⟨HZ.out, _, rfl, HV.out⟩⟩
end Go.Proofs.YtlhnhjglcbggmaaGreatRR
namespace Go.Proofs.YtlhnhjglcbggmaaGreatRR
set_option linter.unusedSimpArgs false
set_option linter.unusedVariables false
open Go.RowKit
set_option maxRecDepth 100000

structure Mk where
 idx : Int
 time : Int
 sl : List UInt8
def Mk.cl (m : Mk) : List Value := [.int .i64 m.idx, .int .u64 m.time] ++ bv m.sl
structure Mk.ok (m : Mk) : Prop where
 idx : I64 m.idx
 time : U64 m.time
 sl : m.sl.length = 16
/-- a certificate; its marks lie at A -/
structure Crt where
 height : Int
 round : Int
 id : List UInt8
 A : Option Addr
 n : Nat
 c : Nat
 ms : List Mk
def Crt.cl (x : Crt) : List Value := [.int .u64 x.height, .int .i64 x.round] ++ bv x.id ++ [.slice x.A x.n x.c]
structure Crt.ok (x : Crt) : Prop where
 height : U64 x.height
 round : I64 x.round
 id : x.id.length = 32
 n : x.n = x.ms.length
 ms : ∀ m ∈ x.ms, m.ok
def Crt.at (x : Crt) (w : World) : Prop := Rd w x.A (x.ms.flatMap Mk.cl)
theorem Crt.cl_len (x : Crt) (h : x.ok) : x.cl.length = 35 := by simp [Crt.cl, bv_length, h.id]
theorem Crt.cl_id (x : Crt) (h : x.id.length = 32) : x.cl.toArray.extract 2 (2 + 32) = (bv x.id).toArray := by
 refine extract_cl _ _ _ _ ?_
 have e : x.cl.drop 2 = bv x.id ++ [.slice x.A x.n x.c] := by simp [Crt.cl]
 rw [e, show 2 + 32 - 2 = (bv x.id).length from by rw [bv_length, h]]
 exact List.take_left
theorem Crt.cl_34 (x : Crt) (h : x.id.length = 32) : x.cl.toArray[34]? = some (.slice x.A x.n x.c) := by
 simp [Crt.cl, bv, List.getElem?_append, h]
theorem info_Crt : (Tryz.prog.info? 36).map (·.size) = some 35 := by kernel_rfl
theorem info_Mk : (Tryz.prog.info? 139).map (·.size) = some 18 := by kernel_rfl
theorem cl_all35 {l : List Value} (h : l.length = 35) : l.toArray.extract 0 (0 + 35) = l.toArray := by
 apply Array.ext'
 simp [List.take_of_length_le (Nat.le_of_eq h)]
theorem Mk.cl_len (m : Mk) (h : m.ok) : m.cl.length = 18 := by simp [Mk.cl, bv_length, h.sl]

/-- the cells of the k-th mark -/
theorem mk_at : ∀ (ms : List Mk) (hm : ∀ m ∈ ms, m.ok) (k : Nat) (hk : k < ms.length) (j : Nat) (u : Value), (ms[k]).cl[j]? = some u → (ms.flatMap Mk.cl)[18 * k + j]? = some u
 | m :: ms, hm, 0, hk, j, u, hu => by
  rw [List.flatMap_cons, Nat.mul_zero, Nat.zero_add]
  exact List.getElem?_append_left (List.getElem?_eq_some_iff.1 hu).1 |>.trans hu
 | m :: ms, hm, k + 1, hk, j, u, hu => by
  have hl := m.cl_len (hm m (List.mem_cons_self ..))
  rw [List.flatMap_cons, List.getElem?_append_right (by omega), hl, show 18 * (k + 1) + j - 18 = 18 * k + j by omega]
  exact mk_at ms (fun m' h' => hm m' (List.mem_cons_of_mem _ h')) k (by simpa using hk) j u (by simpa using hu)

section
variable {P : Program}
theorem wpList_load_at {ops : Array Oper} {rest : List Oper} {o : Oper} {a : Act} {w : World} {Q : Exit → Act → World → Prop} (hw : Region.wanted o (yielded ops a.tmps) = true) (ty : TypeId) (x : Operand) (ho : o.op = .load ty x)
  (ad : Addr) (n : Nat) (hx : a.eval x = .pointer (some ad)) (vs : List Value) (hc : ∀ j v, vs[j]? = some v → w.cell? (ad.add j) = some v) (d : TypeDesc) (hu : P.underlying ty = some d) (hd : aggD d = true) (hi : (P.info? ty).map (·.size) = some n) (hn : vs.length = n)
  (h : wpList P ops Q rest (a.put o.dst (.agg vs.toArray)) w) : wpList P ops Q (o :: rest) a w := by
 refine wpList_want hw fun K hK => ?_
 have hl : (loadCells ad vs.length).run P w = .ok vs.toArray w :=
  run_loadCells_list (P := P) w ad vs hc
 rw [hn] at hl
 have hagg : (isAgg ty).run P w = .ok true w := by
  rw [run_isAgg hu w]
  congr 1
  unfold isAggT
  rw [hu]
  cases d <;> simp [aggD] at hd ⊢
 have hv : (loadVar ty ad).run P w = .ok (.agg vs.toArray) w := by
  simp [loadVar, Sem.run_bind, hagg, run_sizeOf' hi, hl]
 unfold Oper.wp execOp
 simp only [ho, hx, Instr.loadAt, Instr.sureAddr, Sem.run_bind, Sem.run_pure, Result.andThen_ok, hv]
 exact hK _ _ h
end

def zeroC (x : Crt) : Bool := (x.height == 0) && ((x.round == 0) && ((x.id == zeros 32) && ((x.n : Int) == 0)))

set_option maxHeartbeats 1000000 in
theorem zeroCert_any (w : World) (x : Crt) (hx : x.ok) :
  Calls Tryz.prog 84 #[.agg x.cl.toArray] w fun e w' => e = .returned (.bool (zeroC x)) ∧ Below w.heap.size w w' := by
 obtain ⟨q1, h1⟩ : ∃ q, (x.height == 0) = q := ⟨_, rfl⟩
 obtain ⟨q2, h2⟩ : ∃ q, (x.round == 0) = q := ⟨_, rfl⟩
 obtain ⟨q3, h3⟩ : ∃ q, (x.id == zeros 32) = q := ⟨_, rfl⟩
 obtain ⟨q4, h4⟩ : ∃ q, ((x.n : Int) == 0) = q := ⟨_, rfl⟩
 have hz : zeroC x = (q1 && (q2 && (q3 && q4))) := by unfold zeroC; rw [h1, h2, h3, h4]
 have HZ := Lib.hid hz
 rw [hz]
 clear hz
 cases q1 <;> cases q2 <;> cases q3
 all_goals
  go_enter Tryz.func84, Tryz.ntmps84
  go_wp2_with (refine wpList_box_bk rfl _ _ rfl _ rfl ?_)
  intro g w1 hb hbl hg hs
  clear hg hs
  have c0 : w1.cell? ⟨g, 0, none⟩ = some (.int .u64 x.height) := hb.cell 0
  have c1 : w1.cell? ⟨g, 1, none⟩ = some (.int .i64 x.round) := hb.cell 1
  have c2 : w1.cell? ⟨g, 34, none⟩ = some (.slice x.A x.n x.c) := (hb.cell 34).trans (x.cl_34 hx.id)
  go_wp2_with (first
   | (with_reducible show wpList _ _ _ (Oper.mk _ (Op.load 29 _) _ _ _ _ :: _) _ _; refine wpList_load_part rfl 29 _ rfl g 2 32 rfl _ _ _ hb Tryz.underlying29 rfl info_hash (by have := x.cl_len hx; simp [this]) _ (x.cl_id hx.id) ?_)
   | (with_reducible show wpList _ _ _ (Oper.mk _ (Op.build _ _) _ _ _ _ :: _) _ _; refine wpList_buildv rfl 29 [] rfl [] rfl _ built_hash ?_)
   | (with_reducible show wpList _ _ _ (Oper.mk _ (Op.binOp BinOp.eql 29 _ _ _) _ _ _ _ :: _) _ _; refine wpList_eql_flat rfl 29 _ _ _ rfl (bv x.id) (bv (zeros 32)) rfl rfl 2 _ flat_hash (by omega) agg_hash guard_hash (fits_hash hx.id) (fits_hash rfl) _ (bv_iff rfl) ?_))
  go_ret
  exact ⟨by simp, hbl⟩
end Go.Proofs.YtlhnhjglcbggmaaGreatRR

/-
  The median of a certificate's times, by both ways; a council's soundness, in plain Lean. No program here.
  A state: what is plain, the form; the form says where it ends, how long it is at most. No program here.
  A State's lists laid down: offences, accounts, releases. Conditions: each number fits its kind; the list lies in the world.
-/
import Derived.Test.YtlhnhjglcbggmaaGreatRRW07
import Derived.Test.YtlhnhjglcbggmaaGreatRRW16
import Derived.Test.YtlhnhjglcbggmaaGreatRRW24
namespace Go.Proofs.YtlhnhjglcbggmaaGreatRR
set_option linter.unusedSimpArgs false
set_option linter.unusedVariables false
open Go.RowKit
set_option maxRecDepth 100000

section
variable {α : Type} (t p : α → Int)
end

/-- a member of a council -/
structure Mem where
  addr : Int
  power : Int
  prio : Int
def Mem.cl (m : Mem) : List Value := [.int .u64 m.addr, .int .u64 m.power, .int .i64 m.prio]
structure Mem.ok (m : Mem) : Prop where
  addr : U64 m.addr
  power : U64 m.power
  prio : I64 m.prio
theorem Mem.cl_len (m : Mem) : m.cl.length = 3 := rfl
def supply : Int := 1152921504606846975
end Go.Proofs.YtlhnhjglcbggmaaGreatRR
namespace Go.Proofs.YtlhnhjglcbggmaaGreatRR
set_option linter.unusedSimpArgs false
set_option linter.unusedVariables false
open Go.RowKit
set_option maxRecDepth 100000

/-- a council; its members lie at A -/
structure Cou where
  A : Option Addr
  n : Nat
  c : Nat
  ms : List Mem
def Cou.cl (x : Cou) : List Value := [.slice x.A x.n x.c]
structure Cou.ok (x : Cou) : Prop where
  n : x.n = x.ms.length
  ms : ∀ m ∈ x.ms, m.ok
def Cou.at (x : Cou) (w : World) : Prop := Rd w x.A (x.ms.flatMap Mem.cl)
structure Pst where
  height : Int
  time : Int
  cou : Cou
def Pst.cl (x : Pst) : List Value := [.int .u64 x.height, .int .u64 x.time, .slice x.cou.A x.cou.n x.cou.c]
structure Pst.ok (x : Pst) : Prop where
  height : U64 x.height
  time : U64 x.time
  cou : x.cou.ok
structure Off where
  height : Int
  addr : Int
def Off.cl (x : Off) : List Value := [.int .u64 x.height, .int .u64 x.addr]
structure Off.ok (x : Off) : Prop where
  height : U64 x.height
  addr : U64 x.addr
structure Acc where
  addr : Int
  bal : Int
  bond : Int
  nonce : Int
  jailed : Bool
def Acc.cl (x : Acc) : List Value := [.int .u64 x.addr, .int .u64 x.bal, .int .u64 x.bond, .int .u64 x.nonce, .bool x.jailed]
structure Acc.ok (x : Acc) : Prop where
  addr : U64 x.addr
  bal : U64 x.bal
  bond : U64 x.bond
  nonce : U64 x.nonce
structure Rls where
  height : Int
  addr : Int
  born : Int
  amount : Int
def Rls.cl (x : Rls) : List Value := [.int .u64 x.height, .int .u64 x.addr, .int .u64 x.born, .int .u64 x.amount]
structure Rls.ok (x : Rls) : Prop where
  height : U64 x.height
  addr : U64 x.addr
  born : U64 x.born
  amount : U64 x.amount
structure Par where
  bond : Int
  seats : Int
  slash : Int
  period : Int
  age : Int
  txs : Int
  propose : Int
  votes : Int
  pause : Int
  resend : Int
  trust : Int
  drift : Int
def Par.cl (p : Par) : List Value := [.int .u64 p.bond, .int .i64 p.seats, .int .u64 p.slash, .int .u64 p.period, .int .u64 p.age, .int .i64 p.txs, .int .u64 p.propose, .int .u64 p.votes, .int .u64 p.pause, .int .u64 p.resend, .int .u64 p.trust, .int .u64 p.drift]
structure Par.ok (p : Par) : Prop where
  bond : U64 p.bond
  seats : I64 p.seats
  slash : U64 p.slash
  period : U64 p.period
  age : U64 p.age
  txs : I64 p.txs
  propose : U64 p.propose
  votes : U64 p.votes
  pause : U64 p.pause
  resend : U64 p.resend
  trust : U64 p.trust
  drift : U64 p.drift
structure Sta where
  chain : ByteArray
  par : Par
  height : Int
  time : Int
  last : List UInt8
  cou : Cou
  next : Cou
  pA : Option Addr
  pn : Nat
  pc : Nat
  ps : List Pst
  oA : Option Addr
  on : Nat
  oc : Nat
  os : List Off
  aA : Option Addr
  an : Nat
  ac : Nat
  acs : List Acc
  rA : Option Addr
  rn : Nat
  rc : Nat
  rs : List Rls
  burnt : Int
  supply : Int
def Sta.cl (x : Sta) : List Value := [.string x.chain] ++ x.par.cl ++ [.int .u64 x.height, .int .u64 x.time] ++ bv x.last ++ x.cou.cl ++ x.next.cl ++ [.slice x.pA x.pn x.pc, .slice x.oA x.on x.oc, .slice x.aA x.an x.ac, .slice x.rA x.rn x.rc, .int .u64 x.burnt, .int .u64 x.supply]
structure Sta.ok (x : Sta) : Prop where
  chain : x.chain.size ≤ 9223372036854775807
  par : x.par.ok
  height : U64 x.height
  time : U64 x.time
  last : x.last.length = 32
  cou : x.cou.ok
  next : x.next.ok
  pn : x.pn = x.ps.length
  ps : ∀ p ∈ x.ps, p.ok
  on : x.on = x.os.length
  os : ∀ p ∈ x.os, p.ok
  an : x.an = x.acs.length
  acs : ∀ p ∈ x.acs, p.ok
  rn : x.rn = x.rs.length
  rs : ∀ p ∈ x.rs, p.ok
  burnt : U64 x.burnt
  supply : U64 x.supply
structure Sta.at (x : Sta) (w : World) : Prop where
  cou : x.cou.at w
  next : x.next.at w
  p : Rd w x.pA (x.ps.flatMap Pst.cl)
  pc : ∀ p ∈ x.ps, p.cou.at w
  o : Rd w x.oA (x.os.flatMap Off.cl)
  a : Rd w x.aA (x.acs.flatMap Acc.cl)
  r : Rd w x.rA (x.rs.flatMap Rls.cl)
-- ---- what is plain
def badKey (a b : Int × Int) : Bool := decide (b.1 < a.1) || (decide (a.1 = b.1) && decide (b.2 ≤ a.2))
def risingE {α : Type} (key : α → Int × Int) : List α → Int
  | x :: y :: r => if badKey (key x) (key y) = true then 42 else risingE key (y :: r)
  | _ => 0
def memKey (m : Mem) : Int × Int := (m.addr, 0)
def pstKey (p : Pst) : Int × Int := (p.height, 0)
def offKey (o : Off) : Int × Int := (o.height, o.addr)
def accKey (a : Acc) : Int × Int := (a.addr, 0)
def rlsKey (r : Rls) : Int × Int := (r.height, r.addr)
def headS (x : Sta) : Int := firstErr [named x.chain.size, field (decide (1099511627776 < x.height)), moment x.time, field (decide (x.par.seats < 1) || decide (64 < x.par.seats)), field (decide (x.par.txs < 0) || decide (1000 < x.par.txs))]
def bigS (x : Sta) : Bool := decide (64 < x.cou.n) || decide (64 < x.next.n) || decide (256 < x.pn) || decide (65536 < x.an) || x.ps.any (fun p => decide (64 < p.cou.n))
def risS (x : Sta) : List Int := [risingE memKey x.cou.ms, risingE memKey x.next.ms] ++ x.ps.map (fun p => risingE memKey p.cou.ms) ++ [risingE pstKey x.ps, risingE offKey x.os, risingE accKey x.acs, risingE rlsKey x.rs]
def plainSta (x : Sta) : Int := if headS x ≠ 0 then headS x else if bigS x = true then 4 else firstErr (risS x)
-- ---- the form
def zig (p : Int) : Nat := if p < 0 then (2 * (-p - 1) + 1).toNat else (2 * p).toNat
def encMem (m : Mem) : List UInt8 := varB m.addr.toNat ++ varB m.power.toNat ++ varB (zig m.prio)
def encCou (x : Cou) : List UInt8 := varB x.n ++ x.ms.flatMap encMem
def encPst (x : Pst) : List UInt8 := varB x.height.toNat ++ varB x.time.toNat ++ encCou x.cou
def encOff (x : Off) : List UInt8 := varB x.height.toNat ++ varB x.addr.toNat
def encAcc (x : Acc) : List UInt8 := varB x.addr.toNat ++ varB x.bal.toNat ++ varB x.bond.toNat ++ varB x.nonce.toNat ++ [if x.jailed then 1 else 0]
def encRls (x : Rls) : List UInt8 := varB x.height.toNat ++ varB x.addr.toNat ++ varB x.born.toNat ++ varB x.amount.toNat
def encPar (p : Par) : List UInt8 := varB p.bond.toNat ++ [UInt8.ofNat p.seats.toNat] ++ varB p.slash.toNat ++ varB p.period.toNat ++ varB p.age.toNat ++ varB p.txs.toNat ++ varB p.propose.toNat ++ varB p.votes.toNat ++ varB p.pause.toNat ++ varB p.resend.toNat ++ varB p.trust.toNat ++ varB p.drift.toNat
def formSta (x : Sta) : List UInt8 := varB x.chain.size ++ x.chain.data.toList ++ encPar x.par ++ varB x.height.toNat ++ varB x.time.toNat ++ x.last ++ encCou x.cou ++ encCou x.next ++ (varB x.pn ++ x.ps.flatMap encPst) ++ (varB x.on ++ x.os.flatMap encOff) ++ (varB x.an ++ x.acs.flatMap encAcc) ++ (varB x.rn ++ x.rs.flatMap encRls) ++ varB x.burnt.toNat ++ varB x.supply.toNat
structure StaB (x : Sta) : Prop where
  c1 : 1 ≤ x.chain.size
  c2 : x.chain.size ≤ 16
  s1 : 1 ≤ x.par.seats
  s2 : x.par.seats ≤ 64
  t1 : 0 ≤ x.par.txs
  t2 : x.par.txs ≤ 1000
  cou : x.cou.n ≤ 64
  next : x.next.n ≤ 64
  pn : x.pn ≤ 256
  an : x.an ≤ 65536
  ps : ∀ p ∈ x.ps, p.cou.n ≤ 64
theorem staB {x : Sta} (hx : x.ok) (h : plainSta x = 0) : StaB x := by
  unfold plainSta at h
  by_cases he : headS x = 0
  · rw [if_neg (by simp [he])] at h
    by_cases hb : bigS x = true
    · rw [if_pos hb] at h; cases h
    · have hall := firstErr_zero he
      have a1 := of_decide_eq_false (field_zero (hall (named x.chain.size) (by simp)))
      have a2 : (decide (x.par.seats < 1) || decide (64 < x.par.seats)) = false := field_zero (hall (field (decide (x.par.seats < 1) || decide (64 < x.par.seats))) (by simp))
      have a3 : (decide (x.par.txs < 0) || decide (1000 < x.par.txs)) = false := field_zero (hall (field (decide (x.par.txs < 0) || decide (1000 < x.par.txs))) (by simp))
      unfold bigS at hb
      simp only [Bool.or_eq_true, decide_eq_true_eq, List.any_eq_true, not_or, not_exists, not_and, Bool.or_eq_false_iff, decide_eq_false_iff_not] at hb a2 a3
      obtain ⟨⟨⟨⟨b1, b2⟩, b3⟩, b4⟩, b5⟩ := hb
      exact ⟨by omega, by omega, by omega, by omega, by omega, by omega, by omega, by omega, by omega, by omega, fun p hp => by have := b5 p hp; omega⟩
  · rw [if_pos he] at h; exact absurd h he
structure Pst.same (x y : Pst) : Prop where
  height : x.height = y.height
  time : x.time = y.time
  ms : x.cou.ms = y.cou.ms
/-- the same state, wherever its lists lie -/
structure Sta.same (x y : Sta) : Prop where
  chain : x.chain = y.chain
  par : x.par = y.par
  height : x.height = y.height
  time : x.time = y.time
  last : x.last = y.last
  cou : x.cou.ms = y.cou.ms
  next : x.next.ms = y.next.ms
  ps : Alike Pst.same x.ps y.ps
  os : x.os = y.os
  acs : x.acs = y.acs
  rs : x.rs = y.rs
  burnt : x.burnt = y.burnt
  supply : x.supply = y.supply
theorem zig_lt {p : Int} (h : I64 p) : zig p < two64 := by
  unfold I64 at h
  unfold zig two64
  split <;> omega
theorem encMem_30 {m : Mem} (hm : m.ok) : (encMem m).length ≤ 30 := by
  have h1 := u64_le hm.addr
  have h2 := u64_le hm.power
  have h3 := varB_ten (zig_lt hm.prio)
  unfold encMem
  simp only [List.length_append]
  omega
theorem encCou_len {x : Cou} (hx : x.ok) (hn : x.n ≤ 64) : (encCou x).length ≤ 1930 := by
  have h1 := varB_ten (n := x.n) (by unfold two64; omega)
  have h2 := flat_le (enc := encMem) (L := 30) (l := x.ms) fun m hm => encMem_30 (hx.ms m hm)
  have h3 := hx.n
  unfold encCou
  simp only [List.length_append]
  omega
theorem encPst_len {x : Pst} (hx : x.ok) (hn : x.cou.n ≤ 64) : (encPst x).length ≤ 1950 := by
  have h1 := u64_le hx.height
  have h2 := u64_le hx.time
  have h3 := encCou_len hx.cou hn
  unfold encPst
  simp only [List.length_append]
  omega
theorem encOff_len {x : Off} (hx : x.ok) : (encOff x).length ≤ 20 := by
  have h1 := u64_le hx.height
  have h2 := u64_le hx.addr
  unfold encOff
  simp only [List.length_append]
  omega
theorem encAcc_len {x : Acc} (hx : x.ok) : (encAcc x).length ≤ 41 := by
  have h1 := u64_le hx.addr
  have h2 := u64_le hx.bal
  have h3 := u64_le hx.bond
  have h4 := u64_le hx.nonce
  unfold encAcc
  simp only [List.length_append, List.length_cons, List.length_nil]
  omega
theorem encRls_len {x : Rls} (hx : x.ok) : (encRls x).length ≤ 40 := by
  have h1 := u64_le hx.height
  have h2 := u64_le hx.addr
  have h3 := u64_le hx.born
  have h4 := u64_le hx.amount
  unfold encRls
  simp only [List.length_append]
  omega
end Go.Proofs.YtlhnhjglcbggmaaGreatRR
namespace Go.Proofs.YtlhnhjglcbggmaaGreatRR
set_option linter.unusedSimpArgs false
set_option linter.unusedVariables false
open Go.RowKit
set_option maxRecDepth 100000

theorem info_Off : (Tryz.prog.info? 145).map (·.size) = some 2 := by kernel_rfl
def zeroOff : List Value := [.int .u64 0, .int .u64 0]
theorem zero_Off : (Tryz.prog.info? 145).bind (·.zero) = some (.agg zeroOff.toArray) := by kernel_rfl
theorem zeroOff_sz : zeroOff.toArray.size = 2 := rfl
theorem Off.cl_len (m : Off) : m.cl.length = 2 := rfl
theorem off_one (m : Off) : ∀ u ∈ (Value.agg m.cl.toArray).cells.toList, u.oneCell' = true := by
  intro u hu
  simp only [Value.cells, Off.cl, List.mem_cons, List.not_mem_nil, or_false] at hu
  rcases hu with rfl | rfl <;> rfl
set_option maxHeartbeats 1000000 in
theorem putOff_any (w : World) (B g : Nat) (bs : List UInt8) (m : Off) (hm : m.ok) (hw : Wr w B g bs) (hb : bs.length + 100 ≤ room46) :
    Calls Tryz.prog 125 #[.pointer (some ⟨g, 0, none⟩), .agg m.cl.toArray] w fun e w' => e = .returned (.tuple #[]) ∧ Wr w' B g (bs ++ encOff m) ∧ Eff B WrT w w' := by
  have l_height := varB_int (n := m.height) hm.height.1 (by have := hm.height.2; unfold two64; omega)
  have l_addr := varB_int (n := m.addr) hm.addr.1 (by have := hm.addr.2; unfold two64; omega)
  have Hheight := Lib.hid hm.height
  have Haddr := Lib.hid hm.addr
  clear hm
  go_enter Tryz.func125, Tryz.ntmps125
  go_wp2_with (refine wpList_box_bk rfl _ _ rfl _ rfl ?_)
  intro bx w1 hk1 hbl hg hs
  clear hg hs
  have hw1 := hw.below hbl
  have c0 : w1.cell? ⟨bx, 0, none⟩ = some (.int .u64 m.height) := hk1.cell 0
  go_wp2_with fail
  refine (var_int w1 B g _ m.height hw1 Hheight.out.1 (by have := Hheight.out.2; unfold two64; omega) (by (try simp only [List.length_append]); omega)).mono ?_
  rintro e w2 ⟨rfl, hw2, e2⟩
  have hk2 := hk1.effT e2 (by decide)
  clear c0 hw1
  have c1 : w2.cell? ⟨bx, 1, none⟩ = some (.int .u64 m.addr) := hk2.cell 1
  go_wp2_with fail
  refine (var_int w2 B g _ m.addr hw2 Haddr.out.1 (by have := Haddr.out.2; unfold two64; omega) (by (try simp only [List.length_append]); omega)).mono ?_
  rintro e w3 ⟨rfl, hw3, e3⟩
  have hk3 := hk2.effT e3 (by decide)
  clear c1 hw2
  go_wp2
  go_end0
  refine ⟨rfl, ?_, (Eff.of_below hbl _ _).trans (e2.trans (e3))⟩
  unfold encOff
  simpa only [List.append_assoc] using hw3
def ttOff (_ : Off) : Prop := True
theorem putOffs_take (ms : List Off) (k : Nat) (hk : k < ms.length) : (ms.take (k + 1)).flatMap encOff = (ms.take k).flatMap encOff ++ encOff ms[k] := by
  rw [List.take_succ_eq_append_getElem hk, List.flatMap_append]; simp
theorem putOffs_len {ms : List Off} (h : ∀ m ∈ ms, (encOff m).length ≤ 20) : ∀ k, ((ms.take k).flatMap encOff).length ≤ 20 * k := by
  intro k
  induction k with
  | zero => simp
  | succ k ih =>
    rcases Nat.lt_or_ge k ms.length with hl | hl
    · rw [putOffs_take ms k hl, List.length_append]
      have := h _ (List.getElem_mem hl)
      omega
    · rw [List.take_of_length_le (by omega)]
      rw [List.take_of_length_le (by omega)] at ih
      omega
set_option maxHeartbeats 1000000 in
theorem putOffs_any (w : World) (B g : Nat) (bs : List UInt8) (A : Option Addr) (n c : Nat) (ms : List Off) (hm : ∀ m ∈ ms, Off.ok m) (hp : ∀ m ∈ ms, ttOff m) (hle : ∀ m ∈ ms, (encOff m).length ≤ 20) (hn : n = ms.length) (hl : n ≤ 1000000000) (hr : Rd w A (ms.flatMap Off.cl)) (hA : ∀ ad, A = some ad → ms.flatMap Off.cl ≠ [] → ad.block < B) (hB : B ≤ w.heap.size) (hw : Wr w B g bs) (hb : bs.length + 20 * n + 110 ≤ room46) :
    Calls Tryz.prog 124 #[.pointer (some ⟨g, 0, none⟩), .slice A n c, .func (.func 125) #[] #[]] w fun e w' => e = .returned (.tuple #[]) ∧ Wr w' B g (bs ++ (varB n ++ ms.flatMap encOff)) ∧ Eff B WrT w w' := by
  have HM := Lib.hid hm
  have HP := Lib.hid hp
  have HN := Lib.hid hn
  have HA := Lib.hid hA
  have HR := Lib.hid hr
  have HL := Lib.hid (putOffs_len hle)
  have HLN := Lib.hid (show ∀ m ∈ ms, (Off.cl m).length = 2 from fun m h => m.cl_len)
  have hv := varB_ten (n := n) (by unfold two64; omega)
  clear hm hp hn hA hr hle
  go_enter Tryz.func124, Tryz.ntmps124
  go_wp2_with (go_at_call 139; go_must (refine (count_any _ B g bs n hw (by omega) (by omega)).mono ?_); rintro e w1 ⟨rfl, hw1, e1⟩)
  have HW1 := Lib.hid hw1
  have HE1 := Lib.hid e1
  have HR1 := Lib.hid (rd_eff HR.out e1 hB HA.out)
  clear hw1 e1
  go_loopw [14] (fun i wr => ∃ k : Nat, k ≤ n ∧ i = .int .i64 (k : Int) ∧ Wr wr B g (bs ++ varB n ++ (ms.take k).flatMap encOff) ∧ Rd wr A (ms.flatMap Off.cl) ∧ Eff B WrT w wr) (fun i _ => n - (intOf i).toNat)
  case atStart => exact ⟨0, by omega, rfl, by simpa using HW1.out, HR1.out, HE1.out⟩
  case round =>
    clear HW1 HE1 HR1
    obtain ⟨k, hk, rfl, hw2, hr2, e2⟩ := hrel
    have HW2 := Lib.hid hw2
    have HR2 := Lib.hid hr2
    have HE2 := Lib.hid e2
    clear hw2 hr2 e2
    by_cases hlt : k < n
    · have hkl : k < ms.length := by rw [← HN.out]; exact hlt
      obtain ⟨ad, hA, hcell⟩ := rd_elem (by omega) HLN.out HR2.out hkl
      obtain ⟨m, hmk⟩ : ∃ m, ms[k] = m := ⟨_, rfl⟩
      have hmem : m ∈ ms := by rw [← hmk]; exact List.getElem_mem hkl
      have HMO := Lib.hid (HM.out m hmem)
      have HMP := Lib.hid (HP.out m hmem)
      have HML := Lib.hid (HLN.out m hmem)
      have HT := Lib.hid (show (ms.take (k + 1)).flatMap encOff = (ms.take k).flatMap encOff ++ encOff m by rw [putOffs_take ms k hkl, hmk])
      rw [hmk] at hcell
      subst hA
      have HC := Lib.hid hcell
      clear hcell hmem hmk
      have hi1 : (k : Int) < n := by omega
      go_wp2_with (first
        | (with_reducible show wpList _ _ _ (Oper.mk (some 17) (Op.load _ _) _ _ _ _ :: _) _ _; go_must (refine wpList_load_at rfl 145 _ rfl (ad.add (k * 2)) 2 rfl (Off.cl m) HC.out _ Tryz.underlying145 rfl info_Off HML.out ?_))
        | (with_reducible show wpList _ _ _ (Oper.mk _ (Op.alloc _) _ _ _ _ :: _) _ _; refine wpList_alloc_i rfl 145 rfl (.agg zeroOff.toArray) zero_Off ?_))
      intro r w6 h6 hl6 hg6 hs6
      have H6 := Lib.hid h6
      have HL6 := Lib.hid hl6
      have HG6 := Lib.hid hg6
      have HSZ := Lib.hid (show (Off.cl m).toArray.size = 2 by rw [List.size_toArray, HML.out])
      clear h6 hl6 hg6 hs6
      go_wp2_with (with_reducible show wpList _ _ _ (Oper.mk _ (Op.store 145 _ _) _ _ _ _ :: _) _ _; go_must (refine wpList_store_bk rfl 145 _ _ rfl r rfl (.agg (Off.cl m).toArray) rfl _ _ H6.out (by rw [agg_sz HSZ.out]; exact info_Off) (by rw [agg_sz HSZ.out]; exact zeroOff_sz.symm) (off_one m) ?_))
      intro w7 h7 hg7 hs7
      have HL7 := Lib.hid (below_grown2 HL6.out hg7 HG6.out HL6.out.size)
      have H7 := Lib.hid (show Bk w7 r (Off.cl m).toArray 145 from h7)
      have HW7 := Lib.hid (HW2.out.below HL7.out)
      have HR7 := Lib.hid (HR2.out.below HL7.out)
      have HS7 := Lib.hid (show B ≤ w7.heap.size by have := HE2.out.size; have := HL7.out.size; omega)
      clear h7 hg7 hs7
      go_wp2_with (with_reducible show wpList _ _ _ (Oper.mk (some 20) (Op.load _ _) _ _ _ _ :: _) _ _; go_must (refine wpList_load_part rfl 145 _ rfl r 0 2 rfl _ _ _ H7.out Tryz.underlying145 rfl info_Off (by rw [HSZ.out]; omega) (Off.cl m).toArray (arr_all HSZ.out) ?_); go_wp2_with fail)
      refine (putOff_any _ B g _ m HMO.out HW7.out (by simp only [List.length_append]; have h1 := HL.out k; have h2 : 20 * k ≤ 20 * n := Nat.mul_le_mul_left _ hk; omega)).mono ?_
      rintro e w8 ⟨rfl, hw8, e8⟩
      have HW8 := Lib.hid hw8
      have HR8 := Lib.hid (rd_eff HR7.out e8 HS7.out HA.out)
      have HE8 := Lib.hid (HE2.out.trans ((Eff.of_below HL7.out _ _).trans e8))
      clear hw8 e8
      go_wp2
      go_round
      case rel => exact ⟨k + 1, by omega, by go_num, by rw [HT.out, ← List.append_assoc]; exact HW8.out, HR8.out, HE8.out⟩
      case measure => simp [intOf]; omega
    · have hk7 : k = n := by omega
      subst hk7
      have HT := Lib.hid (show ms.take k = ms from List.take_of_length_le (by rw [HN.out]; exact Nat.le_refl _))
      rw [HT.out] at HW2
      go_wp2
      go_end0
      refine ⟨rfl, ?_, HE2.out⟩
      simpa only [List.append_assoc] using HW2.out
theorem info_Acc : (Tryz.prog.info? 191).map (·.size) = some 5 := by kernel_rfl
def zeroAcc : List Value := [.int .u64 0, .int .u64 0, .int .u64 0, .int .u64 0, .bool false]
theorem zero_Acc : (Tryz.prog.info? 191).bind (·.zero) = some (.agg zeroAcc.toArray) := by kernel_rfl
theorem zeroAcc_sz : zeroAcc.toArray.size = 5 := rfl
theorem Acc.cl_len (m : Acc) : m.cl.length = 5 := rfl
theorem acc_one (m : Acc) : ∀ u ∈ (Value.agg m.cl.toArray).cells.toList, u.oneCell' = true := by
  intro u hu
  simp only [Value.cells, Acc.cl, List.mem_cons, List.not_mem_nil, or_false] at hu
  rcases hu with rfl | rfl | rfl | rfl | rfl <;> rfl
set_option maxHeartbeats 1000000 in
theorem putAcc_any (w : World) (B g : Nat) (bs : List UInt8) (m : Acc) (hm : m.ok) (hw : Wr w B g bs) (hb : bs.length + 100 ≤ room46) :
    Calls Tryz.prog 127 #[.pointer (some ⟨g, 0, none⟩), .agg m.cl.toArray] w fun e w' => e = .returned (.tuple #[]) ∧ Wr w' B g (bs ++ encAcc m) ∧ Eff B WrT w w' := by
  have l_addr := varB_int (n := m.addr) hm.addr.1 (by have := hm.addr.2; unfold two64; omega)
  have l_bal := varB_int (n := m.bal) hm.bal.1 (by have := hm.bal.2; unfold two64; omega)
  have l_bond := varB_int (n := m.bond) hm.bond.1 (by have := hm.bond.2; unfold two64; omega)
  have l_nonce := varB_int (n := m.nonce) hm.nonce.1 (by have := hm.nonce.2; unfold two64; omega)
  have Haddr := Lib.hid hm.addr
  have Hbal := Lib.hid hm.bal
  have Hbond := Lib.hid hm.bond
  have Hnonce := Lib.hid hm.nonce
  clear hm
  go_enter Tryz.func127, Tryz.ntmps127
  go_wp2_with (refine wpList_box_bk rfl _ _ rfl _ rfl ?_)
  intro bx w1 hk1 hbl hg hs
  clear hg hs
  have hw1 := hw.below hbl
  have c0 : w1.cell? ⟨bx, 0, none⟩ = some (.int .u64 m.addr) := hk1.cell 0
  go_wp2_with fail
  refine (var_int w1 B g _ m.addr hw1 Haddr.out.1 (by have := Haddr.out.2; unfold two64; omega) (by (try simp only [List.length_append]); omega)).mono ?_
  rintro e w2 ⟨rfl, hw2, e2⟩
  have hk2 := hk1.effT e2 (by decide)
  clear c0 hw1
  have c1 : w2.cell? ⟨bx, 1, none⟩ = some (.int .u64 m.bal) := hk2.cell 1
  go_wp2_with fail
  refine (var_int w2 B g _ m.bal hw2 Hbal.out.1 (by have := Hbal.out.2; unfold two64; omega) (by (try simp only [List.length_append]); omega)).mono ?_
  rintro e w3 ⟨rfl, hw3, e3⟩
  have hk3 := hk2.effT e3 (by decide)
  clear c1 hw2
  have c2 : w3.cell? ⟨bx, 2, none⟩ = some (.int .u64 m.bond) := hk3.cell 2
  go_wp2_with fail
  refine (var_int w3 B g _ m.bond hw3 Hbond.out.1 (by have := Hbond.out.2; unfold two64; omega) (by (try simp only [List.length_append]); omega)).mono ?_
  rintro e w4 ⟨rfl, hw4, e4⟩
  have hk4 := hk3.effT e4 (by decide)
  clear c2 hw3
  have c3 : w4.cell? ⟨bx, 3, none⟩ = some (.int .u64 m.nonce) := hk4.cell 3
  go_wp2_with fail
  refine (var_int w4 B g _ m.nonce hw4 Hnonce.out.1 (by have := Hnonce.out.2; unfold two64; omega) (by (try simp only [List.length_append]); omega)).mono ?_
  rintro e w5 ⟨rfl, hw5, e5⟩
  have hk5 := hk4.effT e5 (by decide)
  clear c3 hw4
  have c4 : w5.cell? ⟨bx, 4, none⟩ = some (.bool m.jailed) := hk5.cell 4
  go_wp2_with fail
  refine (bool_any w5 B g _ m.jailed hw5 (by (try simp only [List.length_append]); omega)).mono ?_
  rintro e w6 ⟨rfl, hw6, e6⟩
  go_wp2
  go_end0
  refine ⟨rfl, ?_, (Eff.of_below hbl _ _).trans (e2.trans (e3.trans (e4.trans (e5.trans (e6)))))⟩
  unfold encAcc
  simpa only [List.append_assoc] using hw6
def ttAcc (_ : Acc) : Prop := True
theorem putAccs_take (ms : List Acc) (k : Nat) (hk : k < ms.length) : (ms.take (k + 1)).flatMap encAcc = (ms.take k).flatMap encAcc ++ encAcc ms[k] := by
  rw [List.take_succ_eq_append_getElem hk, List.flatMap_append]; simp
theorem putAccs_len {ms : List Acc} (h : ∀ m ∈ ms, (encAcc m).length ≤ 41) : ∀ k, ((ms.take k).flatMap encAcc).length ≤ 41 * k := by
  intro k
  induction k with
  | zero => simp
  | succ k ih =>
    rcases Nat.lt_or_ge k ms.length with hl | hl
    · rw [putAccs_take ms k hl, List.length_append]
      have := h _ (List.getElem_mem hl)
      omega
    · rw [List.take_of_length_le (by omega)]
      rw [List.take_of_length_le (by omega)] at ih
      omega
set_option maxHeartbeats 1000000 in
theorem putAccs_any (w : World) (B g : Nat) (bs : List UInt8) (A : Option Addr) (n c : Nat) (ms : List Acc) (hm : ∀ m ∈ ms, Acc.ok m) (hp : ∀ m ∈ ms, ttAcc m) (hle : ∀ m ∈ ms, (encAcc m).length ≤ 41) (hn : n = ms.length) (hl : n ≤ 1000000000) (hr : Rd w A (ms.flatMap Acc.cl)) (hA : ∀ ad, A = some ad → ms.flatMap Acc.cl ≠ [] → ad.block < B) (hB : B ≤ w.heap.size) (hw : Wr w B g bs) (hb : bs.length + 41 * n + 110 ≤ room46) :
    Calls Tryz.prog 126 #[.pointer (some ⟨g, 0, none⟩), .slice A n c, .func (.func 127) #[] #[]] w fun e w' => e = .returned (.tuple #[]) ∧ Wr w' B g (bs ++ (varB n ++ ms.flatMap encAcc)) ∧ Eff B WrT w w' := by
  have HM := Lib.hid hm
  have HP := Lib.hid hp
  have HN := Lib.hid hn
  have HA := Lib.hid hA
  have HR := Lib.hid hr
  have HL := Lib.hid (putAccs_len hle)
  have HLN := Lib.hid (show ∀ m ∈ ms, (Acc.cl m).length = 5 from fun m h => m.cl_len)
  have hv := varB_ten (n := n) (by unfold two64; omega)
  clear hm hp hn hA hr hle
  go_enter Tryz.func126, Tryz.ntmps126
  go_wp2_with (go_at_call 139; go_must (refine (count_any _ B g bs n hw (by omega) (by omega)).mono ?_); rintro e w1 ⟨rfl, hw1, e1⟩)
  have HW1 := Lib.hid hw1
  have HE1 := Lib.hid e1
  have HR1 := Lib.hid (rd_eff HR.out e1 hB HA.out)
  clear hw1 e1
  go_loopw [14] (fun i wr => ∃ k : Nat, k ≤ n ∧ i = .int .i64 (k : Int) ∧ Wr wr B g (bs ++ varB n ++ (ms.take k).flatMap encAcc) ∧ Rd wr A (ms.flatMap Acc.cl) ∧ Eff B WrT w wr) (fun i _ => n - (intOf i).toNat)
  case atStart => exact ⟨0, by omega, rfl, by simpa using HW1.out, HR1.out, HE1.out⟩
  case round =>
    clear HW1 HE1 HR1
    obtain ⟨k, hk, rfl, hw2, hr2, e2⟩ := hrel
    have HW2 := Lib.hid hw2
    have HR2 := Lib.hid hr2
    have HE2 := Lib.hid e2
    clear hw2 hr2 e2
    by_cases hlt : k < n
    · have hkl : k < ms.length := by rw [← HN.out]; exact hlt
      obtain ⟨ad, hA, hcell⟩ := rd_elem (by omega) HLN.out HR2.out hkl
      obtain ⟨m, hmk⟩ : ∃ m, ms[k] = m := ⟨_, rfl⟩
      have hmem : m ∈ ms := by rw [← hmk]; exact List.getElem_mem hkl
      have HMO := Lib.hid (HM.out m hmem)
      have HMP := Lib.hid (HP.out m hmem)
      have HML := Lib.hid (HLN.out m hmem)
      have HT := Lib.hid (show (ms.take (k + 1)).flatMap encAcc = (ms.take k).flatMap encAcc ++ encAcc m by rw [putAccs_take ms k hkl, hmk])
      rw [hmk] at hcell
      subst hA
      have HC := Lib.hid hcell
      clear hcell hmem hmk
      have hi1 : (k : Int) < n := by omega
      go_wp2_with (first
        | (with_reducible show wpList _ _ _ (Oper.mk (some 17) (Op.load _ _) _ _ _ _ :: _) _ _; go_must (refine wpList_load_at rfl 191 _ rfl (ad.add (k * 5)) 5 rfl (Acc.cl m) HC.out _ Tryz.underlying191 rfl info_Acc HML.out ?_))
        | (with_reducible show wpList _ _ _ (Oper.mk _ (Op.alloc _) _ _ _ _ :: _) _ _; refine wpList_alloc_i rfl 191 rfl (.agg zeroAcc.toArray) zero_Acc ?_))
      intro r w6 h6 hl6 hg6 hs6
      have H6 := Lib.hid h6
      have HL6 := Lib.hid hl6
      have HG6 := Lib.hid hg6
      have HSZ := Lib.hid (show (Acc.cl m).toArray.size = 5 by rw [List.size_toArray, HML.out])
      clear h6 hl6 hg6 hs6
      go_wp2_with (with_reducible show wpList _ _ _ (Oper.mk _ (Op.store 191 _ _) _ _ _ _ :: _) _ _; go_must (refine wpList_store_bk rfl 191 _ _ rfl r rfl (.agg (Acc.cl m).toArray) rfl _ _ H6.out (by rw [agg_sz HSZ.out]; exact info_Acc) (by rw [agg_sz HSZ.out]; exact zeroAcc_sz.symm) (acc_one m) ?_))
      intro w7 h7 hg7 hs7
      have HL7 := Lib.hid (below_grown2 HL6.out hg7 HG6.out HL6.out.size)
      have H7 := Lib.hid (show Bk w7 r (Acc.cl m).toArray 191 from h7)
      have HW7 := Lib.hid (HW2.out.below HL7.out)
      have HR7 := Lib.hid (HR2.out.below HL7.out)
      have HS7 := Lib.hid (show B ≤ w7.heap.size by have := HE2.out.size; have := HL7.out.size; omega)
      clear h7 hg7 hs7
      go_wp2_with (with_reducible show wpList _ _ _ (Oper.mk (some 20) (Op.load _ _) _ _ _ _ :: _) _ _; go_must (refine wpList_load_part rfl 191 _ rfl r 0 5 rfl _ _ _ H7.out Tryz.underlying191 rfl info_Acc (by rw [HSZ.out]; omega) (Acc.cl m).toArray (arr_all HSZ.out) ?_); go_wp2_with fail)
      refine (putAcc_any _ B g _ m HMO.out HW7.out (by simp only [List.length_append]; have h1 := HL.out k; have h2 : 41 * k ≤ 41 * n := Nat.mul_le_mul_left _ hk; omega)).mono ?_
      rintro e w8 ⟨rfl, hw8, e8⟩
      have HW8 := Lib.hid hw8
      have HR8 := Lib.hid (rd_eff HR7.out e8 HS7.out HA.out)
      have HE8 := Lib.hid (HE2.out.trans ((Eff.of_below HL7.out _ _).trans e8))
      clear hw8 e8
      go_wp2
      go_round
      case rel => exact ⟨k + 1, by omega, by go_num, by rw [HT.out, ← List.append_assoc]; exact HW8.out, HR8.out, HE8.out⟩
      case measure => simp [intOf]; omega
    · have hk7 : k = n := by omega
      subst hk7
      have HT := Lib.hid (show ms.take k = ms from List.take_of_length_le (by rw [HN.out]; exact Nat.le_refl _))
      rw [HT.out] at HW2
      go_wp2
      go_end0
      refine ⟨rfl, ?_, HE2.out⟩
      simpa only [List.append_assoc] using HW2.out
theorem info_Rls : (Tryz.prog.info? 195).map (·.size) = some 4 := by kernel_rfl
def zeroRls : List Value := [.int .u64 0, .int .u64 0, .int .u64 0, .int .u64 0]
theorem zero_Rls : (Tryz.prog.info? 195).bind (·.zero) = some (.agg zeroRls.toArray) := by kernel_rfl
theorem zeroRls_sz : zeroRls.toArray.size = 4 := rfl
theorem Rls.cl_len (m : Rls) : m.cl.length = 4 := rfl
theorem rls_one (m : Rls) : ∀ u ∈ (Value.agg m.cl.toArray).cells.toList, u.oneCell' = true := by
  intro u hu
  simp only [Value.cells, Rls.cl, List.mem_cons, List.not_mem_nil, or_false] at hu
  rcases hu with rfl | rfl | rfl | rfl <;> rfl
set_option maxHeartbeats 1000000 in
theorem putRls_any (w : World) (B g : Nat) (bs : List UInt8) (m : Rls) (hm : m.ok) (hw : Wr w B g bs) (hb : bs.length + 100 ≤ room46) :
    Calls Tryz.prog 130 #[.pointer (some ⟨g, 0, none⟩), .agg m.cl.toArray] w fun e w' => e = .returned (.tuple #[]) ∧ Wr w' B g (bs ++ encRls m) ∧ Eff B WrT w w' := by
  have l_height := varB_int (n := m.height) hm.height.1 (by have := hm.height.2; unfold two64; omega)
  have l_addr := varB_int (n := m.addr) hm.addr.1 (by have := hm.addr.2; unfold two64; omega)
  have l_born := varB_int (n := m.born) hm.born.1 (by have := hm.born.2; unfold two64; omega)
  have l_amount := varB_int (n := m.amount) hm.amount.1 (by have := hm.amount.2; unfold two64; omega)
  have Hheight := Lib.hid hm.height
  have Haddr := Lib.hid hm.addr
  have Hborn := Lib.hid hm.born
  have Hamount := Lib.hid hm.amount
  clear hm
  go_enter Tryz.func130, Tryz.ntmps130
  go_wp2_with (refine wpList_box_bk rfl _ _ rfl _ rfl ?_)
  intro bx w1 hk1 hbl hg hs
  clear hg hs
  have hw1 := hw.below hbl
  have c0 : w1.cell? ⟨bx, 0, none⟩ = some (.int .u64 m.height) := hk1.cell 0
  go_wp2_with fail
  refine (var_int w1 B g _ m.height hw1 Hheight.out.1 (by have := Hheight.out.2; unfold two64; omega) (by (try simp only [List.length_append]); omega)).mono ?_
  rintro e w2 ⟨rfl, hw2, e2⟩
  have hk2 := hk1.effT e2 (by decide)
  clear c0 hw1
  have c1 : w2.cell? ⟨bx, 1, none⟩ = some (.int .u64 m.addr) := hk2.cell 1
  go_wp2_with fail
  refine (var_int w2 B g _ m.addr hw2 Haddr.out.1 (by have := Haddr.out.2; unfold two64; omega) (by (try simp only [List.length_append]); omega)).mono ?_
  rintro e w3 ⟨rfl, hw3, e3⟩
  have hk3 := hk2.effT e3 (by decide)
  clear c1 hw2
  have c2 : w3.cell? ⟨bx, 2, none⟩ = some (.int .u64 m.born) := hk3.cell 2
  go_wp2_with fail
  refine (var_int w3 B g _ m.born hw3 Hborn.out.1 (by have := Hborn.out.2; unfold two64; omega) (by (try simp only [List.length_append]); omega)).mono ?_
  rintro e w4 ⟨rfl, hw4, e4⟩
  have hk4 := hk3.effT e4 (by decide)
  clear c2 hw3
  have c3 : w4.cell? ⟨bx, 3, none⟩ = some (.int .u64 m.amount) := hk4.cell 3
  go_wp2_with fail
  refine (var_int w4 B g _ m.amount hw4 Hamount.out.1 (by have := Hamount.out.2; unfold two64; omega) (by (try simp only [List.length_append]); omega)).mono ?_
  rintro e w5 ⟨rfl, hw5, e5⟩
  have hk5 := hk4.effT e5 (by decide)
  clear c3 hw4
  go_wp2
  go_end0
  refine ⟨rfl, ?_, (Eff.of_below hbl _ _).trans (e2.trans (e3.trans (e4.trans (e5))))⟩
  unfold encRls
  simpa only [List.append_assoc] using hw5
def ttRls (_ : Rls) : Prop := True
theorem putRlss_take (ms : List Rls) (k : Nat) (hk : k < ms.length) : (ms.take (k + 1)).flatMap encRls = (ms.take k).flatMap encRls ++ encRls ms[k] := by
  rw [List.take_succ_eq_append_getElem hk, List.flatMap_append]; simp
theorem putRlss_len {ms : List Rls} (h : ∀ m ∈ ms, (encRls m).length ≤ 40) : ∀ k, ((ms.take k).flatMap encRls).length ≤ 40 * k := by
  intro k
  induction k with
  | zero => simp
  | succ k ih =>
    rcases Nat.lt_or_ge k ms.length with hl | hl
    · rw [putRlss_take ms k hl, List.length_append]
      have := h _ (List.getElem_mem hl)
      omega
    · rw [List.take_of_length_le (by omega)]
      rw [List.take_of_length_le (by omega)] at ih
      omega
set_option maxHeartbeats 1000000 in
theorem putRlss_any (w : World) (B g : Nat) (bs : List UInt8) (A : Option Addr) (n c : Nat) (ms : List Rls) (hm : ∀ m ∈ ms, Rls.ok m) (hp : ∀ m ∈ ms, ttRls m) (hle : ∀ m ∈ ms, (encRls m).length ≤ 40) (hn : n = ms.length) (hl : n ≤ 1000000000) (hr : Rd w A (ms.flatMap Rls.cl)) (hA : ∀ ad, A = some ad → ms.flatMap Rls.cl ≠ [] → ad.block < B) (hB : B ≤ w.heap.size) (hw : Wr w B g bs) (hb : bs.length + 40 * n + 110 ≤ room46) :
    Calls Tryz.prog 129 #[.pointer (some ⟨g, 0, none⟩), .slice A n c, .func (.func 130) #[] #[]] w fun e w' => e = .returned (.tuple #[]) ∧ Wr w' B g (bs ++ (varB n ++ ms.flatMap encRls)) ∧ Eff B WrT w w' := by
  have HM := Lib.hid hm
  have HP := Lib.hid hp
  have HN := Lib.hid hn
  have HA := Lib.hid hA
  have HR := Lib.hid hr
  have HL := Lib.hid (putRlss_len hle)
  have HLN := Lib.hid (show ∀ m ∈ ms, (Rls.cl m).length = 4 from fun m h => m.cl_len)
  have hv := varB_ten (n := n) (by unfold two64; omega)
  clear hm hp hn hA hr hle
  go_enter Tryz.func129, Tryz.ntmps129
  go_wp2_with (go_at_call 139; go_must (refine (count_any _ B g bs n hw (by omega) (by omega)).mono ?_); rintro e w1 ⟨rfl, hw1, e1⟩)
  have HW1 := Lib.hid hw1
  have HE1 := Lib.hid e1
  have HR1 := Lib.hid (rd_eff HR.out e1 hB HA.out)
  clear hw1 e1
  go_loopw [14] (fun i wr => ∃ k : Nat, k ≤ n ∧ i = .int .i64 (k : Int) ∧ Wr wr B g (bs ++ varB n ++ (ms.take k).flatMap encRls) ∧ Rd wr A (ms.flatMap Rls.cl) ∧ Eff B WrT w wr) (fun i _ => n - (intOf i).toNat)
  case atStart => exact ⟨0, by omega, rfl, by simpa using HW1.out, HR1.out, HE1.out⟩
  case round =>
    clear HW1 HE1 HR1
    obtain ⟨k, hk, rfl, hw2, hr2, e2⟩ := hrel
    have HW2 := Lib.hid hw2
    have HR2 := Lib.hid hr2
    have HE2 := Lib.hid e2
    clear hw2 hr2 e2
    by_cases hlt : k < n
    · have hkl : k < ms.length := by rw [← HN.out]; exact hlt
      obtain ⟨ad, hA, hcell⟩ := rd_elem (by omega) HLN.out HR2.out hkl
      obtain ⟨m, hmk⟩ : ∃ m, ms[k] = m := ⟨_, rfl⟩
      have hmem : m ∈ ms := by rw [← hmk]; exact List.getElem_mem hkl
      have HMO := Lib.hid (HM.out m hmem)
      have HMP := Lib.hid (HP.out m hmem)
      have HML := Lib.hid (HLN.out m hmem)
      have HT := Lib.hid (show (ms.take (k + 1)).flatMap encRls = (ms.take k).flatMap encRls ++ encRls m by rw [putRlss_take ms k hkl, hmk])
      rw [hmk] at hcell
      subst hA
      have HC := Lib.hid hcell
      clear hcell hmem hmk
      have hi1 : (k : Int) < n := by omega
      go_wp2_with (first
        | (with_reducible show wpList _ _ _ (Oper.mk (some 17) (Op.load _ _) _ _ _ _ :: _) _ _; go_must (refine wpList_load_at rfl 195 _ rfl (ad.add (k * 4)) 4 rfl (Rls.cl m) HC.out _ Tryz.underlying195 rfl info_Rls HML.out ?_))
        | (with_reducible show wpList _ _ _ (Oper.mk _ (Op.alloc _) _ _ _ _ :: _) _ _; refine wpList_alloc_i rfl 195 rfl (.agg zeroRls.toArray) zero_Rls ?_))
      intro r w6 h6 hl6 hg6 hs6
      have H6 := Lib.hid h6
      have HL6 := Lib.hid hl6
      have HG6 := Lib.hid hg6
      have HSZ := Lib.hid (show (Rls.cl m).toArray.size = 4 by rw [List.size_toArray, HML.out])
      clear h6 hl6 hg6 hs6
      go_wp2_with (with_reducible show wpList _ _ _ (Oper.mk _ (Op.store 195 _ _) _ _ _ _ :: _) _ _; go_must (refine wpList_store_bk rfl 195 _ _ rfl r rfl (.agg (Rls.cl m).toArray) rfl _ _ H6.out (by rw [agg_sz HSZ.out]; exact info_Rls) (by rw [agg_sz HSZ.out]; exact zeroRls_sz.symm) (rls_one m) ?_))
      intro w7 h7 hg7 hs7
      have HL7 := Lib.hid (below_grown2 HL6.out hg7 HG6.out HL6.out.size)
      have H7 := Lib.hid (show Bk w7 r (Rls.cl m).toArray 195 from h7)
      have HW7 := Lib.hid (HW2.out.below HL7.out)
      have HR7 := Lib.hid (HR2.out.below HL7.out)
      have HS7 := Lib.hid (show B ≤ w7.heap.size by have := HE2.out.size; have := HL7.out.size; omega)
      clear h7 hg7 hs7
      go_wp2_with (with_reducible show wpList _ _ _ (Oper.mk (some 20) (Op.load _ _) _ _ _ _ :: _) _ _; go_must (refine wpList_load_part rfl 195 _ rfl r 0 4 rfl _ _ _ H7.out Tryz.underlying195 rfl info_Rls (by rw [HSZ.out]; omega) (Rls.cl m).toArray (arr_all HSZ.out) ?_); go_wp2_with fail)
      refine (putRls_any _ B g _ m HMO.out HW7.out (by simp only [List.length_append]; have h1 := HL.out k; have h2 : 40 * k ≤ 40 * n := Nat.mul_le_mul_left _ hk; omega)).mono ?_
      rintro e w8 ⟨rfl, hw8, e8⟩
      have HW8 := Lib.hid hw8
      have HR8 := Lib.hid (rd_eff HR7.out e8 HS7.out HA.out)
      have HE8 := Lib.hid (HE2.out.trans ((Eff.of_below HL7.out _ _).trans e8))
      clear hw8 e8
      go_wp2
      go_round
      case rel => exact ⟨k + 1, by omega, by go_num, by rw [HT.out, ← List.append_assoc]; exact HW8.out, HR8.out, HE8.out⟩
      case measure => simp [intOf]; omega
    · have hk7 : k = n := by omega
      subst hk7
      have HT := Lib.hid (show ms.take k = ms from List.take_of_length_le (by rw [HN.out]; exact Nat.le_refl _))
      rw [HT.out] at HW2
      go_wp2
      go_end0
      refine ⟨rfl, ?_, HE2.out⟩
      simpa only [List.append_assoc] using HW2.out
end Go.Proofs.YtlhnhjglcbggmaaGreatRR

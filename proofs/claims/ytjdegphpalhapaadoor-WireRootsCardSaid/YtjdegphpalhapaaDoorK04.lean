/-
  TxBytes, VoteBytes, ProposalBytes of package wire: the error of the name or of the thing, or the letter, the name and the form without the seal. Condition: each number fits its kind.
  A transaction laid down with its seal; EncodeTx. Conditions: each number fits its kind; the Writer has room.
  SHA-256 in plain Lean: the words, the rounds, bytes eaten 64 at a time; a hasher that takes them piece by piece comes to what one that takes them at once does. No program.
-/
import Derived.Test.YtjdegphpalhapaaDoorK03
import Derived.Test.YtjdegphpalhapaaDoorChecked
namespace Go.Proofs.YtjdegphpalhapaaDoor
set_option linter.unusedSimpArgs false
set_option linter.unusedVariables false
open Go.RowKit
set_option maxRecDepth 100000

/-- what a call that answers bytes or an error comes to -/
def BytesRes (w : World) (err : Int) (l : List UInt8) (e : Ending) (w' : World) : Prop :=
  Below w.heap.size w w' ∧ ((err ≠ 0 ∧ e = .returned (.tuple #[.slice none 0 0, .int .i64 err])) ∨ (err = 0 ∧ ∃ v, e = .returned (.tuple #[v, .int .i64 0]) ∧ Bs w' w.heap.size v l))

def textB (s : ByteArray) : List UInt8 := varB s.size ++ s.data.toList
def saidErr (chain : ByteArray) (wrong : Int) : Int := firstErr [named chain.size, wrong]
theorem saidErr_zero {chain : ByteArray} {wrong : Int} (h : saidErr chain wrong = 0) : wrong = 0 ∧ 1 ≤ chain.size ∧ chain.size ≤ 16 := by
  have hall := firstErr_zero h
  have a := hall (named chain.size) (by simp)
  have b := of_decide_eq_false (field_zero a)
  exact ⟨hall wrong (by simp), by omega, by omega⟩
theorem cl_all {l : List Value} {n : Nat} (h : l.length = n) : l.toArray.extract 0 (0 + n) = l.toArray := by
  apply Array.ext'
  simp [← h]
theorem ofNat_lit (n : Nat) (h : n < 256) : ((UInt8.ofNat n).toNat : Int) = n := by rw [byte_of]; omega

theorem info_Tx : (Tryd.prog.info? 27).map (·.size) = some 22 := by kernel_rfl

def bytesTx (chain : ByteArray) (x : Tx) : List UInt8 := [84] ++ textB chain ++ encTx x

theorem info_Vote : (Tryd.prog.info? 73).map (·.size) = some 53 := by kernel_rfl

def bytesVote (chain : ByteArray) (x : Vote) : List UInt8 := [86] ++ textB chain ++ encVote x

def bytesProposal (chain : ByteArray) (x : Proposal) : List UInt8 := [80] ++ textB chain ++ encProposal x

end Go.Proofs.YtjdegphpalhapaaDoor
namespace Go.Proofs.YtjdegphpalhapaaDoor
set_option linter.unusedSimpArgs false
set_option linter.unusedVariables false
open Go.RowKit
set_option maxRecDepth 100000

theorem cl_sealTx (x : Tx) (j : Nat) (u : Value) (h : (bv x.sl)[j]? = some u) : x.cl.toArray[6 + j]? = some u := by
  rw [List.getElem?_toArray, Tx.cl, List.getElem?_append_right (by simp)]
  simpa using h
theorem bk_eqT {w : World} {g : Nat} {t : TypeId} {cs cs' : Array Value} (h : Bk w g cs t) (e : cs = cs') : Bk w g cs' t := e ▸ h
set_option maxHeartbeats 1000000 in
theorem putTx_raw (w : World) (B g : Nat) (bs : List UInt8) (x : Tx) (hx : x.ok) (hp : TxB x) (hw : Wr w B g bs) (hb : bs.length + 200 ≤ room46) :
    Calls Tryd.prog 78 #[.pointer (some ⟨g, 0, none⟩), .agg x.cl.toArray, .func (.func 79) #[.pointer (some ⟨g, 0, none⟩)] #[]] w fun e w' => e = .returned (.tuple #[]) ∧ Wr w' B g (bs ++ (encTx x ++ x.sl)) ∧ Eff B WrT w w' := by
  have k1 := hp.k1
  have k2 := hp.k2
  obtain ⟨fa, fb⟩ := hx.frm
  obtain ⟨ta, tb⟩ := hx.to
  obtain ⟨aa, ab⟩ := hx.amount
  obtain ⟨ea, eb⟩ := hx.fee
  obtain ⟨na, nb⟩ := hx.nonce
  have l1 := varB_int (n := x.frm) (by omega) (by unfold two64; omega)
  have l2 := varB_int (n := x.to) (by omega) (by unfold two64; omega)
  have l3 := varB_int (n := x.amount) (by omega) (by unfold two64; omega)
  have l4 := varB_int (n := x.fee) (by omega) (by unfold two64; omega)
  have l5 := varB_int (n := x.nonce) (by omega) (by unfold two64; omega)
  have FB := Lib.hid fb; clear fb
  have TB := Lib.hid tb; clear tb
  have AB := Lib.hid ab; clear ab
  have EB := Lib.hid eb; clear eb
  have NB := Lib.hid nb; clear nb
  have hlen := Lib.hid (x.cl_len hx)
  go_enter Tryd.func78, Tryd.ntmps78
  go_wp2_with (refine wpList_box_bk rfl _ _ rfl _ rfl ?_)
  intro bx w1 hk1 hbl hg hs
  clear hg hs
  have hw1 := hw.below hbl
  have c0 : w1.cell? ⟨bx, 0, none⟩ = some (.int .i64 x.kind) := hk1.cell 0
  go_wp2_with fail
  refine (byte_int _ B g bs x.kind hw1 (by omega) (by omega) (by omega)).mono ?_
  rintro e w2 ⟨rfl, hw2, e2⟩
  have hk2 := hk1.effT e2 (by decide)
  have d1 : w2.cell? ⟨bx, 1, none⟩ = some (.int .u64 x.frm) := hk2.cell 1
  have d2 : w2.cell? ⟨bx, 2, none⟩ = some (.int .u64 x.to) := hk2.cell 2
  have d3 : w2.cell? ⟨bx, 3, none⟩ = some (.int .u64 x.amount) := hk2.cell 3
  have d4 : w2.cell? ⟨bx, 4, none⟩ = some (.int .u64 x.fee) := hk2.cell 4
  have d5 : w2.cell? ⟨bx, 5, none⟩ = some (.int .u64 x.nonce) := hk2.cell 5
  go_wp2_with fail
  have i0 : ∀ wx : World, (Instr.index 151 (.agg #[.int .u64 x.frm, .int .u64 x.to, .int .u64 x.amount, .int .u64 x.fee, .int .u64 x.nonce]) (.int .i64 0)).run Tryd.prog wx = .ok (.int .u64 x.frm) wx := fun _ => by kernel_rfl
  have i1 : ∀ wx : World, (Instr.index 151 (.agg #[.int .u64 x.frm, .int .u64 x.to, .int .u64 x.amount, .int .u64 x.fee, .int .u64 x.nonce]) (.int .i64 1)).run Tryd.prog wx = .ok (.int .u64 x.to) wx := fun _ => by kernel_rfl
  have i2 : ∀ wx : World, (Instr.index 151 (.agg #[.int .u64 x.frm, .int .u64 x.to, .int .u64 x.amount, .int .u64 x.fee, .int .u64 x.nonce]) (.int .i64 2)).run Tryd.prog wx = .ok (.int .u64 x.amount) wx := fun _ => by kernel_rfl
  have i3 : ∀ wx : World, (Instr.index 151 (.agg #[.int .u64 x.frm, .int .u64 x.to, .int .u64 x.amount, .int .u64 x.fee, .int .u64 x.nonce]) (.int .i64 3)).run Tryd.prog wx = .ok (.int .u64 x.fee) wx := fun _ => by kernel_rfl
  have i4 : ∀ wx : World, (Instr.index 151 (.agg #[.int .u64 x.frm, .int .u64 x.to, .int .u64 x.amount, .int .u64 x.fee, .int .u64 x.nonce]) (.int .i64 4)).run Tryd.prog wx = .ok (.int .u64 x.nonce) wx := fun _ => by kernel_rfl
  refine wp_loop_rounds 6 ?_
  rw [rounds_succ]
  go_wp2_with fail
  refine (var_int _ B g _ x.frm hw2 (by omega) (by unfold two64; exact FB.out) (by simp only [List.length_append, List.length_cons, List.length_nil]; omega)).mono ?_
  rintro e w3 ⟨rfl, hw3, e3⟩
  go_wp2_with fail
  rw [rounds_succ]
  go_wp2_with fail
  refine (var_int _ B g _ x.to hw3 (by omega) (by unfold two64; exact TB.out) (by simp only [List.length_append, List.length_cons, List.length_nil]; omega)).mono ?_
  rintro e w4 ⟨rfl, hw4, e4⟩
  go_wp2_with fail
  rw [rounds_succ]
  go_wp2_with fail
  refine (var_int _ B g _ x.amount hw4 (by omega) (by unfold two64; exact AB.out) (by simp only [List.length_append, List.length_cons, List.length_nil]; omega)).mono ?_
  rintro e w5 ⟨rfl, hw5, e5⟩
  go_wp2_with fail
  rw [rounds_succ]
  go_wp2_with fail
  refine (var_int _ B g _ x.fee hw5 (by omega) (by unfold two64; exact EB.out) (by simp only [List.length_append, List.length_cons, List.length_nil]; omega)).mono ?_
  rintro e w6 ⟨rfl, hw6, e6⟩
  go_wp2_with fail
  rw [rounds_succ]
  go_wp2_with fail
  refine (var_int _ B g _ x.nonce hw6 (by omega) (by unfold two64; exact NB.out) (by simp only [List.length_append, List.length_cons, List.length_nil]; omega)).mono ?_
  rintro e w7 ⟨rfl, hw7, e7⟩
  go_wp2_with fail
  rw [rounds_succ]
  have hk7 := ((((hk2.effT e3 (by decide)).effT e4 (by decide)).effT e5 (by decide)).effT e6 (by decide)).effT e7 (by decide)
  have hr7 : Rd w7 (some ⟨bx, 6, none⟩) (bv x.sl) := Rd.of_bk hk7 6 _ (fun j u hu => cl_sealTx x j u hu)
  have Ls := Lib.hid hx.sl
  go_wp2_with fail
  refine (raw_any _ B g _ x.sl _ 16 16 hw7 hr7 Ls.out (by simp only [List.length_append, List.length_cons, List.length_nil]; omega)).mono ?_
  rintro e w8 ⟨rfl, hw8, e8⟩
  go_wp2
  go_end0
  refine ⟨rfl, ?_, (Eff.of_below hbl _ _).trans (e2.trans (e3.trans (e4.trans (e5.trans (e6.trans (e7.trans e8))))))⟩
  unfold encTx
  simpa only [List.append_assoc] using hw8

set_option maxHeartbeats 1000000 in
theorem putSealedTx_any (w : World) (B g : Nat) (bs : List UInt8) (x : Tx) (hx : x.ok) (hp : TxB x) (hw : Wr w B g bs) (hb : bs.length + 200 ≤ room46) :
    Calls Tryd.prog 44 #[.pointer (some ⟨g, 0, none⟩), .agg x.cl.toArray] w fun e w' => e = .returned (.tuple #[]) ∧ Wr w' B g (bs ++ (encTx x ++ x.sl)) ∧ Eff B WrT w w' := by
  have HP := Lib.hid hp
  have HB := Lib.hid hb
  clear hp hb
  go_enter Tryd.func44, Tryd.ntmps44
  go_wp2_with (with_reducible show wpList _ _ _ (Oper.mk _ (Op.box _ _) _ _ _ _ :: _) _ _; refine wpList_box_bk rfl _ _ rfl _ rfl ?_)
  intro bx w1 hk hbl hg hs
  clear hg hs
  have hw1 := hw.below hbl
  go_wp2_with (with_reducible show wpList _ _ _ (Oper.mk _ (Op.load _ _) _ _ _ _ :: _) _ _; refine wpList_load_part rfl 27 _ rfl bx 0 22 rfl _ _ _ hk Tryd.underlying27 rfl info_Tx (by have := x.cl_len hx; simp [Value.cells, this]) _ (cl_all (x.cl_len hx)) ?_)
  refine (putTx_raw w1 B g bs x hx HP.out hw1 HB.out).mono ?_
  rintro e w2 ⟨rfl, hw2, e2⟩
  go_wp2
  go_end0
  exact ⟨rfl, hw2, (Eff.of_below hbl _ _).trans e2⟩

def formTx (x : Tx) : List UInt8 := encTx x ++ x.sl
set_option maxHeartbeats 2000000 in
theorem encodeTx_any (w : World) (x : Tx) (hx : x.ok) :
    Calls Tryd.prog 42 #[.agg x.cl.toArray, .int .i64 9223372036854775807, .func (.func 43) #[] #[], .func (.func 44) #[] #[]] w (BytesRes w (plainTx x) (formTx x)) := by
  have HX := Lib.hid hx
  have HL := Lib.hid (x.cl_len hx)
  clear hx
  obtain ⟨F, hF⟩ : ∃ F, plainTx x = F := ⟨_, rfl⟩
  have HF := Lib.hid hF
  rw [hF]
  clear hF
  by_cases hf : F = 0
  · have HB := Lib.hid (txB (HF.out.trans hf))
    have f1 : (F != 0) = false := by simp [hf]
    have f2 : (F == 0) = true := by simp [hf]
    have HZ := Lib.hid hf
    clear hf
    go_enter Tryd.func42, Tryd.ntmps42
    go_wp2_with (first
      | (with_reducible show wpList _ _ _ (Oper.mk _ (Op.box _ _) _ _ _ _ :: _) _ _; refine wpList_box_bk rfl _ _ rfl _ rfl ?_; intro bx w1 hk hbl hg hs; have HK1 := Lib.hid (bk_eqT (cs' := x.cl.toArray) hk rfl); have HB1 := Lib.hid hbl; clear hk hbl hg hs)
      | (with_reducible show wpList _ _ _ (Oper.mk (some 15) (Op.load _ _) _ _ _ _ :: _) _ _; refine wpList_load_part rfl 27 _ rfl bx 0 22 rfl _ _ _ HK1.out Tryd.underlying27 rfl info_Tx (by simp [HL.out]) _ (cl_all HL.out) ?_))
    refine (plainTx_any w1 x).mono ?_
    rintro e w2 ⟨rfl, e2⟩
    rw [HF.out]
    have HB2 := Lib.hid (HB1.out.trans (e2.mono HB1.out.size))
    have HK2 := Lib.hid (HK1.out.below e2 HK1.out.lt)
    clear e2 HB1 HK1
    go_wp2_with fail
    refine (newWriter_any w2).mono ?_
    rintro e w3 ⟨g, rfl, hw3, e3⟩
    have HK3 := Lib.hid (HK2.out.below e3 HK2.out.lt)
    have HS2 := Lib.hid HB2.out.size
    have HS3 := Lib.hid e3.size
    have HB3 := Lib.hid (HB2.out.trans (e3.mono HB2.out.size))
    clear e3 HK2
    go_wp2_with (with_reducible show wpList _ _ _ (Oper.mk (some 23) (Op.load _ _) _ _ _ _ :: _) _ _; refine wpList_load_part rfl 27 _ rfl bx 0 22 rfl _ _ _ HK3.out Tryd.underlying27 rfl info_Tx (by simp [HL.out]) _ (cl_all HL.out) ?_)
    refine (putSealedTx_any w3 _ g [] x HX.out HB.out hw3 (by unfold room46; simp)).mono ?_
    rintro e w4 ⟨rfl, hw4, e4⟩
    have hlen : ([] ++ (encTx x ++ x.sl)).length ≤ reach47 ∧ ([] ++ (encTx x ++ x.sl)).length ≤ 300 := by
      have h1 := encTx_len HX.out HB.out
      have h2 := HX.out.sl
      unfold reach47
      simp only [List.nil_append, List.length_append, h2]
      omega
    have HLEN := Lib.hid hlen
    have HB4 := Lib.hid (HB3.out.trans (e4.to HS2.out HS3.out))
    clear hlen e4
    go_wp2_with fail
    refine (out_any w4 _ g _ hw4 HLEN.out.1).mono ?_
    rintro e w5 ⟨v, rfl, hv, e5⟩
    obtain ⟨Av, cv, rfl⟩ := hv.form
    have HB5 := Lib.hid (HB4.out.trans (e5.mono HB4.out.size))
    have HV := Lib.hid (hv.mono HB4.out.size)
    have HE := Lib.hid (show ([] ++ (encTx x ++ x.sl) : List UInt8) = formTx x from rfl)
    rw [HE.out] at HLEN HV ⊢
    obtain ⟨bs, hbs⟩ : ∃ bs, formTx x = bs := ⟨_, rfl⟩
    rw [hbs] at HLEN HV ⊢
    obtain ⟨L, hL⟩ : ∃ L, bs.length = L := ⟨_, rfl⟩
    have HLL := Lib.hid hL
    have HBS := Lib.hid hbs
    rw [hL] at HLEN HV ⊢
    have hl9 : ¬ ((9223372036854775807 : Int) < (L : Int)) := by have := HLEN.out.2; omega
    have HX2 := Lib.hid HLEN
    clear hv e5 hw3 hw4 hbs HE HLEN hL
    go_wp2
    go_ret2
    exact ⟨HB5.out, .inr ⟨HZ.out, .slice Av L cv, rfl, by rw [HBS.out]; exact HV.out⟩⟩
  · have f1 : (F != 0) = true := by simp [hf]
    have f2 : (F == 0) = false := by simp [hf]
    have HZ := Lib.hid hf
    clear hf
    go_enter Tryd.func42, Tryd.ntmps42
    go_wp2_with (first
      | (with_reducible show wpList _ _ _ (Oper.mk _ (Op.box _ _) _ _ _ _ :: _) _ _; refine wpList_box_bk rfl _ _ rfl _ rfl ?_; intro bx w1 hk hbl hg hs; have HK1 := Lib.hid (bk_eqT (cs' := x.cl.toArray) hk rfl); have HB1 := Lib.hid hbl; clear hk hbl hg hs)
      | (with_reducible show wpList _ _ _ (Oper.mk (some 15) (Op.load _ _) _ _ _ _ :: _) _ _; refine wpList_load_part rfl 27 _ rfl bx 0 22 rfl _ _ _ HK1.out Tryd.underlying27 rfl info_Tx (by simp [HL.out]) _ (cl_all HL.out) ?_))
    refine (plainTx_any w1 x).mono ?_
    rintro e w2 ⟨rfl, e2⟩
    rw [HF.out]
    have HB2 := Lib.hid (HB1.out.trans (e2.mono HB1.out.size))
    clear e2
    go_wp2
    go_ret2
    exact ⟨HB2.out, .inl ⟨HZ.out, rfl⟩⟩

set_option maxHeartbeats 1000000 in
theorem EncodeTx_any (w : World) (x : Tx) (hx : x.ok) :
    Calls Tryd.prog 19 #[.agg x.cl.toArray] w (BytesRes w (plainTx x) (formTx x)) := by
  have HL := Lib.hid (x.cl_len hx)
  have HX := Lib.hid hx
  clear hx
  generalize hF : plainTx x = F
  have HF := Lib.hid hF
  clear hF
  go_enter Tryd.func19, Tryd.ntmps19
  go_wp2_with (first
      | (with_reducible show wpList _ _ _ (Oper.mk _ (Op.box _ _) _ _ _ _ :: _) _ _; refine wpList_box_bk rfl _ _ rfl _ rfl ?_; intro bx w1 hk hbl hg hs; have HK1 := Lib.hid (bk_eqT (cs' := x.cl.toArray) hk rfl); have HB1 := Lib.hid hbl; clear hk hbl hg hs)
      | (with_reducible show wpList _ _ _ (Oper.mk (some 4) (Op.load _ _) _ _ _ _ :: _) _ _; refine wpList_load_part rfl 27 _ rfl bx 0 22 rfl _ _ _ HK1.out Tryd.underlying27 rfl info_Tx (by simp [HL.out]) _ (cl_all HL.out) ?_))
  refine (encodeTx_any w1 x HX.out).mono ?_
  rw [HF.out]
  rintro e w2 ⟨e2, ⟨hz, rfl⟩ | ⟨hz, v, rfl, hv⟩⟩
  · have HZ := Lib.hid hz
    have HB2 := Lib.hid (HB1.out.trans (e2.mono HB1.out.size))
    clear hz e2
    go_wp2
    go_ret2
    exact ⟨HB2.out, .inl ⟨HZ.out, rfl⟩⟩
  · obtain ⟨Av, cv, rfl⟩ := hv.form
    have HZ := Lib.hid hz
    have HB2 := Lib.hid (HB1.out.trans (e2.mono HB1.out.size))
    have HV := Lib.hid (hv.mono HB1.out.size)
    clear hz e2 hv
    go_wp2
    go_ret2
    exact ⟨HB2.out, .inr ⟨HZ.out, _, rfl, HV.out⟩⟩
end Go.Proofs.YtjdegphpalhapaaDoor
namespace Go.Proofs.YtjdegphpalhapaaDoor
set_option linter.unusedSimpArgs false
set_option linter.unusedVariables false

section
variable {S : Type}
def eat (m : S → List UInt8 → S) (s : S) (l : List UInt8) : S :=
  if h : l.length < 64 then s else eat m (m s (l.take 64)) (l.drop 64)
termination_by l.length
decreasing_by rw [List.length_drop]; omega

theorem eat_short {m : S → List UInt8 → S} {s : S} {l : List UInt8} (h : l.length < 64) : eat m s l = s := by
  rw [eat, dif_pos h]
theorem eat_step {m : S → List UInt8 → S} {s : S} {l : List UInt8} (h : 64 ≤ l.length) : eat m s l = eat m (m s (l.take 64)) (l.drop 64) := by
  rw [eat, dif_neg (by omega)]
theorem eat_app {m : S → List UInt8 → S} : ∀ (n : Nat) (s : S) (a b : List UInt8), a.length = 64 * n → eat m s (a ++ b) = eat m (eat m s a) b
  | 0, s, a, b, h => by
    obtain rfl : a = [] := List.length_eq_zero_iff.1 (by omega)
    rw [eat_short (l := []) (by simp)]
    rfl
  | n + 1, s, a, b, h => by
    rw [eat_step (l := a ++ b) (by rw [List.length_append]; omega), eat_step (l := a) (by omega), List.take_append_of_le_length (by omega), List.drop_append_of_le_length (by omega)]
    exact eat_app n _ _ _ (by rw [List.length_drop]; omega)
def full (l : List UInt8) : List UInt8 := l.take (64 * (l.length / 64))
def rest (l : List UInt8) : List UInt8 := l.drop (64 * (l.length / 64))
theorem full_rest (l : List UInt8) : full l ++ rest l = l := List.take_append_drop _ _
theorem full_len (l : List UInt8) : (full l).length = 64 * (l.length / 64) := by unfold full; rw [List.length_take]; omega
theorem rest_len (l : List UInt8) : (rest l).length = l.length % 64 := by unfold rest; rw [List.length_drop]; omega
theorem eat_full {m : S → List UInt8 → S} (s : S) (l : List UInt8) : eat m s (full l) = eat m s l := by
  have e := full_rest l
  have h := eat_app (m := m) (l.length / 64) s (full l) (rest l) (full_len l)
  rw [e, eat_short (l := rest l) (by rw [rest_len]; omega)] at h
  exact h.symm
/-- what was eaten, and what is held back: after more bytes -/
theorem eat_more {m : S → List UInt8 → S} (s : S) (l b : List UInt8) : eat m (eat m s l) (rest l ++ b) = eat m s (l ++ b) := by
  have e : l ++ b = full l ++ (rest l ++ b) := by rw [← List.append_assoc, full_rest]
  rw [e, eat_app _ _ _ _ (full_len l), eat_full]
end
theorem rest_more (l b : List UInt8) : rest (rest l ++ b) = rest (l ++ b) := by
  have e : l ++ b = full l ++ (rest l ++ b) := by rw [← List.append_assoc, full_rest]
  have hf := full_len l
  generalize rest l ++ b = r at e ⊢
  rw [e]
  unfold rest
  rw [List.length_append, hf]
  have e1 : 64 * ((64 * (l.length / 64) + r.length) / 64) = (full l).length + 64 * (r.length / 64) := by rw [hf]; omega
  have e2 : List.drop ((full l).length + 64 * (r.length / 64)) (full l ++ r) = List.drop (64 * (r.length / 64)) r := by
    rw [List.drop_append, List.drop_eq_nil_of_le (by omega), List.nil_append, Nat.add_sub_cancel_left]
  rw [e1, e2]
theorem rest_short {l : List UInt8} (h : l.length < 64) : rest l = l := by
  unfold rest; rw [show 64 * (l.length / 64) = 0 by omega]; rfl
theorem rest_full {l : List UInt8} (h : l.length = 64) : rest l = [] := by
  unfold rest; exact List.drop_eq_nil_of_le (by omega)

/-! the words -/
def rotr (x n : UInt32) : UInt32 := x >>> n ||| x <<< (32 - n)
def sg0 (x : UInt32) : UInt32 := rotr x 7 ^^^ rotr x 18 ^^^ (x >>> 3)
def sg1 (x : UInt32) : UInt32 := rotr x 17 ^^^ rotr x 19 ^^^ (x >>> 10)
def bg0 (x : UInt32) : UInt32 := rotr x 2 ^^^ rotr x 13 ^^^ rotr x 22
def bg1 (x : UInt32) : UInt32 := rotr x 6 ^^^ rotr x 11 ^^^ rotr x 25
def chs (e f g : UInt32) : UInt32 := (e &&& f) ^^^ (~~~e &&& g)
def maj (a b c : UInt32) : UInt32 := (a &&& b) ^^^ (a &&& c) ^^^ (b &&& c)
def word4 (a b c d : UInt8) : UInt32 := a.toUInt32 <<< 24 ||| b.toUInt32 <<< 16 ||| c.toUInt32 <<< 8 ||| d.toUInt32
/-- the i-th word of a chunk -/
def wordAt (c : List UInt8) (i : Nat) : UInt32 := word4 (c.getD (4 * i) 0) (c.getD (4 * i + 1) 0) (c.getD (4 * i + 2) 0) (c.getD (4 * i + 3) 0)
/-- the next word of the list that the rounds add -/
def nextW (l : List UInt32) (i : Nat) : UInt32 := l.getD (i - 16) 0 + sg0 (l.getD (i - 15) 0) + l.getD (i - 7) 0 + sg1 (l.getD (i - 2) 0)
/-- the first k words -/
def wk (c : List UInt8) : Nat → List UInt32
  | 0 => []
  | k + 1 => wk c k ++ [if k < 16 then wordAt c k else nextW (wk c k) k]
theorem wk_len (c : List UInt8) : ∀ k, (wk c k).length = k
  | 0 => rfl
  | k + 1 => by rw [wk, List.length_append, wk_len c k]; rfl
structure S8 where
  (a b c d e f g h : UInt32)
deriving DecidableEq
def adds256 : List UInt32 := [
  0x428a2f98, 0x71374491, 0xb5c0fbcf, 0xe9b5dba5, 0x3956c25b, 0x59f111f1, 0x923f82a4, 0xab1c5ed5,
  0xd807aa98, 0x12835b01, 0x243185be, 0x550c7dc3, 0x72be5d74, 0x80deb1fe, 0x9bdc06a7, 0xc19bf174,
  0xe49b69c1, 0xefbe4786, 0x0fc19dc6, 0x240ca1cc, 0x2de92c6f, 0x4a7484aa, 0x5cb0a9dc, 0x76f988da,
  0x983e5152, 0xa831c66d, 0xb00327c8, 0xbf597fc7, 0xc6e00bf3, 0xd5a79147, 0x06ca6351, 0x14292967,
  0x27b70a85, 0x2e1b2138, 0x4d2c6dfc, 0x53380d13, 0x650a7354, 0x766a0abb, 0x81c2c92e, 0x92722c85,
  0xa2bfe8a1, 0xa81a664b, 0xc24b8b70, 0xc76c51a3, 0xd192e819, 0xd6990624, 0xf40e3585, 0x106aa070,
  0x19a4c116, 0x1e376c08, 0x2748774c, 0x34b0bcb5, 0x391c0cb3, 0x4ed8aa4a, 0x5b9cca4f, 0x682e6ff3,
  0x748f82ee, 0x78a5636f, 0x84c87814, 0x8cc70208, 0x90befffa, 0xa4506ceb, 0xbef9a3f7, 0xc67178f2]
theorem adds_len : adds256.length = 64 := rfl
def begin256 : S8 := ⟨0x6a09e667, 0xbb67ae85, 0x3c6ef372, 0xa54ff53a, 0x510e527f, 0x9b05688c, 0x1f83d9ab, 0x5be0cd19⟩
/-- one round -/
def round8 (v : S8) (k w : UInt32) : S8 :=
  let t := v.h + bg1 v.e + chs v.e v.f v.g + k + w
  ⟨t + (bg0 v.a + maj v.a v.b v.c), v.a, v.b, v.c, v.d + t, v.e, v.f, v.g⟩
def rounds8 (s : S8) (ws : List UInt32) : Nat → S8
  | 0 => s
  | i + 1 => round8 (rounds8 s ws i) (adds256.getD i 0) (ws.getD i 0)
def add8 (s v : S8) : S8 := ⟨s.a + v.a, s.b + v.b, s.c + v.c, s.d + v.d, s.e + v.e, s.f + v.f, s.g + v.g, s.h + v.h⟩
def comp (s : S8) (c : List UInt8) : S8 := add8 s (rounds8 s (wk c 64) 64)
def S8.list (s : S8) : List UInt32 := [s.a, s.b, s.c, s.d, s.e, s.f, s.g, s.h]
def bytes4 (x : UInt32) : List UInt8 := [(x >>> 24).toUInt8, (x >>> 16).toUInt8, (x >>> 8).toUInt8, x.toUInt8]
def S8.bytes (s : S8) : List UInt8 := s.list.flatMap bytes4
theorem S8.bytes_len (s : S8) : s.bytes.length = 32 := rfl
/-- the number of bytes, in eight -/
def tail8 (n : UInt64) : List UInt8 := [(n >>> 56).toUInt8, (n >>> 48).toUInt8, (n >>> 40).toUInt8, (n >>> 32).toUInt8, (n >>> 24).toUInt8, (n >>> 16).toUInt8, (n >>> 8).toUInt8, n.toUInt8]
theorem tail8_len (n : UInt64) : (tail8 n).length = 8 := rfl
/-- how many zeros stand behind the mark -/
def gap (n : Nat) : Nat := (119 - n % 64) % 64
theorem gap_fits (n : Nat) : (n + 1 + gap n) % 64 = 56 := by unfold gap; omega
def shaPad (l : List UInt8) : List UInt8 := l ++ ([0x80] ++ List.replicate (gap l.length) 0 ++ tail8 (UInt64.ofNat (l.length * 8)))
theorem shaPad_len (l : List UInt8) : (shaPad l).length % 64 = 0 := by
  have := gap_fits l.length
  unfold shaPad
  simp only [List.length_append, List.length_replicate, List.length_cons, List.length_nil, tail8_len]
  omega
def sha (l : List UInt8) : List UInt8 := (eat comp begin256 (shaPad l)).bytes
theorem sha_len (l : List UInt8) : (sha l).length = 32 := rfl
end Go.Proofs.YtjdegphpalhapaaDoor

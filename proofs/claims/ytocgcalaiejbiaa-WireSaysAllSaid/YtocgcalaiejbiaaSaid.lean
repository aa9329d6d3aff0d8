/-
  TxBytes, VoteBytes, ProposalBytes of package wire: the error of the name or of the thing, or the letter, the name and the form without the seal. Condition: each number fits its kind.
-/
import Derived.Test.YtocgcalaiejbiaaPut
namespace Go.Proofs.Ytocgcalaiejbiaa
set_option linter.unusedSimpArgs false
set_option linter.unusedVariables false
open Go.RowKit
set_option maxRecDepth 100000

/-- what a call that answers bytes or an error comes to -/
def BytesRes (w : World) (err : Int) (l : List UInt8) (e : Ending) (w' : World) : Prop :=
  Below w.heap.size w w' ∧ ((err ≠ 0 ∧ e = .returned (.tuple #[.slice none 0 0, .int .i64 err])) ∨ (err = 0 ∧ ∃ v, e = .returned (.tuple #[v, .int .i64 0]) ∧ Bs w' w.heap.size v l))

def textB (s : ByteArray) : List UInt8 := varB s.size ++ s.data.toList
def saidErr (chain : ByteArray) (wrong : Int) : Int := firstErr [named chain.size, wrong]
theorem saidErr_zero {chain : ByteArray} {wrong : Int} (h : saidErr chain wrong = 0) : wrong = 0 ∧ 1 ≤ chain.size ∧ chain.size ≤ 16 := by
  have hall := firstErr_zero h
  have a := hall (named chain.size) (by simp)
  have b := of_decide_eq_false (field_zero a)
  exact ⟨hall wrong (by simp), by omega, by omega⟩
theorem cl_all {l : List Value} {n : Nat} (h : l.length = n) : l.toArray.extract 0 (0 + n) = l.toArray := by
  apply Array.ext'
  simp [← h]
theorem ofNat_lit (n : Nat) (h : n < 256) : ((UInt8.ofNat n).toNat : Int) = n := by rw [byte_of]; omega

theorem info_Tx : (Try.prog.info? 27).map (·.size) = some 22 := by kernel_rfl

set_option maxHeartbeats 400000 in
theorem putTx_fn (w : World) (B g bx : Nat) (bs : List UInt8) (x : Tx) (hx : x.ok) (hp : TxB x) (hk : Bk w bx x.cl.toArray 27) (hw : Wr w B g bs) (hb : bs.length + 200 ≤ room46) :
    Calls Try.prog 28 #[.pointer (some ⟨g, 0, none⟩), .pointer (some ⟨bx, 0, none⟩)] w fun e w' => e = .returned (.tuple #[]) ∧ Wr w' B g (bs ++ encTx x) ∧ Eff B WrT w w' := by
  go_enter Try.func28, Try.ntmps28
  go_wp2_with (refine wpList_load_part rfl 27 _ rfl bx 0 22 rfl _ _ _ hk Try.underlying27 rfl info_Tx (by have := x.cl_len hx; simp [this]) _ (cl_all (x.cl_len hx)) ?_)
  refine (putTx_no w B g bs x hx hp hw hb).mono ?_
  rintro e w1 ⟨rfl, hw1, e1⟩
  go_wp2
  go_end0
  exact ⟨rfl, hw1, e1⟩

def bytesTx (chain : ByteArray) (x : Tx) : List UInt8 := [84] ++ textB chain ++ encTx x

set_option maxHeartbeats 1000000 in
theorem saidTx_any (w : World) (chain : ByteArray) (x : Tx) (bx : Nat) (hx : x.ok) (hk : Bk w bx x.cl.toArray 27) (hc : chain.size ≤ 9223372036854775807) :
    Calls Try.prog 26 #[.int .u8 84, .string chain, .int .i64 (plainTx x), .func (.func 28) #[] #[.pointer (some ⟨bx, 0, none⟩)]] w (BytesRes w (saidErr chain (plainTx x)) (bytesTx chain x)) := by
  have Hc := Lib.hid hc; clear hc
  have hr := rd_errs w #[.int .i64 (named chain.size), .int .i64 (plainTx x)] [named chain.size, plainTx x] rfl
  have hbl0 : Below w.heap.size w (w.alloc (.cells #[.int .i64 (named chain.size), .int .i64 (plainTx x)] 37)) := (Below.refl _ _).alloc (Nat.le_refl _) _
  obtain ⟨q, hq⟩ : ∃ q, (saidErr chain (plainTx x) != 0) = q := ⟨_, rfl⟩
  have Hq := Lib.hid hq
  unfold saidErr at hq
  cases q
  · have hz0 : saidErr chain (plainTx x) = 0 := by have := Hq.out; simpa using this
    obtain ⟨hz, c1, c2⟩ := saidErr_zero hz0
    have lc := varB_ten (n := chain.size) (by unfold two64; omega)
    have HZ0 := Lib.hid hz0; clear hz0
    have HP := Lib.hid (txB hz)
    clear hz
    go_enter Try.func26, Try.ntmps26
    go_wp2_with fail
    refine (named_any w chain Hc.out).mono ?_
    rintro e w1 ⟨rfl, rfl⟩
    go_wp2_with fail
    refine (all_any _ _ 2 2 [named chain.size, plainTx x] hr rfl (by omega)).mono ?_
    rintro e w1 ⟨rfl, rfl⟩
    generalize hW1 : w.alloc (.cells #[.int .i64 (named chain.size), .int .i64 (plainTx x)] 37) = w1 at *
    clear hW1 hr
    go_wp2_with fail
    refine (newWriter_any w1).mono ?_
    rintro e w2 ⟨g, rfl, hw2, e2⟩
    go_wp2_with fail
    have hby := byte_any w2 _ g [] 84 hw2 (by unfold room46; simp)
    refine hby.mono ?_
    rintro e w3 ⟨rfl, hw3, e3⟩
    clear hby
    go_wp2_with fail
    refine (text_any w3 _ g _ chain hw3 (by unfold two64; omega) (by unfold room46; simp; omega)).mono ?_
    rintro e w4 ⟨rfl, hw4, e4⟩
    have hk1 := hk.below hbl0 hk.lt
    have hk2 := hk1.below e2 hk1.lt
    have hk3 := hk2.eff e3 (.inl hk1.lt)
    have hk4 := hk3.eff e4 (.inl hk1.lt)
    go_wp2_with fail
    refine (putTx_fn w4 _ g bx _ x hx HP.out hk4 hw4 (by unfold room46; simp; omega)).mono ?_
    rintro e w5 ⟨rfl, hw5, e5⟩
    go_wp2_with fail
    have hlen : ([] ++ [84] ++ (varB chain.size ++ chain.data.toList) ++ encTx x : List UInt8).length ≤ reach47 := by
      have := encTx_len hx HP.out
      simp only [List.length_append, List.length_cons, List.length_nil, Array.length_toList]
      have e : chain.data.size = chain.size := rfl
      unfold reach47; omega
    refine (out_any w5 _ g _ hw5 hlen).mono ?_
    rintro e w6 ⟨v, rfl, hv, e6⟩
    go_wp2
    go_ret2
    have s1 := hbl0.size
    have s2 := e2.size
    have s3 := e3.size
    have s4 := e4.size
    have s5 := e5.size
    refine ⟨hbl0.trans ((e2.mono s1).trans ((e3.to s1 (by omega)).trans ((e4.to s1 (by omega)).trans ((e5.to s1 (by omega)).trans (e6.mono (by omega)))))), .inr ⟨HZ0.out, v, rfl, hv.mono (by omega)⟩⟩
  · have hz0 : saidErr chain (plainTx x) ≠ 0 := by have := Hq.out; simpa using this
    have HZ0 := Lib.hid hz0; clear hz0
    go_enter Try.func26, Try.ntmps26
    go_wp2_with fail
    refine (named_any w chain Hc.out).mono ?_
    rintro e w1 ⟨rfl, rfl⟩
    go_wp2_with fail
    refine (all_any _ _ 2 2 [named chain.size, plainTx x] hr rfl (by omega)).mono ?_
    rintro e w1 ⟨rfl, rfl⟩
    go_wp2
    go_ret2
    exact ⟨hbl0, .inl ⟨HZ0.out, rfl⟩⟩

set_option maxHeartbeats 400000 in
theorem TxBytes_any (w : World) (chain : ByteArray) (x : Tx) (hx : x.ok) (hc : chain.size ≤ 9223372036854775807) :
    Calls Try.prog 7 #[.string chain, .agg x.cl.toArray] w (BytesRes w (saidErr chain (plainTx x)) (bytesTx chain x)) := by
  have Hc := Lib.hid hc; clear hc
  go_enter Try.func7, Try.ntmps7
  go_wp2_with (refine wpList_box_bk rfl _ _ rfl _ rfl ?_)
  intro bx w1 hk1 hbl hg hs
  clear hg hs
  go_wp2_with (refine wpList_load_part rfl 27 _ rfl bx 0 22 rfl _ _ _ hk1 Try.underlying27 rfl info_Tx (by have := x.cl_len hx; simp [this]) _ (cl_all (x.cl_len hx)) ?_)
  refine (plainTx_any w1 x).mono ?_
  rintro e w2 ⟨rfl, e2⟩
  have hk2 := hk1.below e2 hk1.lt
  go_wp2_with fail
  refine (saidTx_any w2 chain x bx hx hk2 Hc.out).mono ?_
  rintro e w3 ⟨e3, hcase⟩
  have s1 := hbl.size
  have s2 := e2.size
  rcases hcase with ⟨hz, rfl⟩ | ⟨hz, v, rfl, hv⟩
  · have HZ := Lib.hid hz; clear hz
    go_wp2
    go_ret2
    exact ⟨hbl.trans ((e2.mono s1).trans (e3.mono (by omega))), .inl ⟨HZ.out, rfl⟩⟩
  · have HZ := Lib.hid hz; clear hz
    go_wp2
    go_ret2
    exact ⟨hbl.trans ((e2.mono s1).trans (e3.mono (by omega))), .inr ⟨HZ.out, v, rfl, hv.mono (by omega)⟩⟩

theorem info_Vote : (Try.prog.info? 31).map (·.size) = some 53 := by kernel_rfl

set_option maxHeartbeats 400000 in
theorem putVote_fn (w : World) (B g bx : Nat) (bs : List UInt8) (x : Vote) (hx : x.ok) (hp : VoteB x) (hk : Bk w bx x.cl.toArray 31) (hw : Wr w B g bs) (hb : bs.length + 200 ≤ room46) :
    Calls Try.prog 32 #[.pointer (some ⟨g, 0, none⟩), .pointer (some ⟨bx, 0, none⟩)] w fun e w' => e = .returned (.tuple #[]) ∧ Wr w' B g (bs ++ encVote x) ∧ Eff B WrT w w' := by
  go_enter Try.func32, Try.ntmps32
  go_wp2_with (refine wpList_load_part rfl 31 _ rfl bx 0 53 rfl _ _ _ hk Try.underlying31 rfl info_Vote (by have := x.cl_len hx; simp [this]) _ (cl_all (x.cl_len hx)) ?_)
  refine (putVote_no w B g bs x hx hp hw hb).mono ?_
  rintro e w1 ⟨rfl, hw1, e1⟩
  go_wp2
  go_end0
  exact ⟨rfl, hw1, e1⟩

def bytesVote (chain : ByteArray) (x : Vote) : List UInt8 := [86] ++ textB chain ++ encVote x

set_option maxHeartbeats 1000000 in
theorem saidVote_any (w : World) (chain : ByteArray) (x : Vote) (bx : Nat) (hx : x.ok) (hk : Bk w bx x.cl.toArray 31) (hc : chain.size ≤ 9223372036854775807) :
    Calls Try.prog 26 #[.int .u8 86, .string chain, .int .i64 (plainVote x), .func (.func 32) #[] #[.pointer (some ⟨bx, 0, none⟩)]] w (BytesRes w (saidErr chain (plainVote x)) (bytesVote chain x)) := by
  have Hc := Lib.hid hc; clear hc
  have hr := rd_errs w #[.int .i64 (named chain.size), .int .i64 (plainVote x)] [named chain.size, plainVote x] rfl
  have hbl0 : Below w.heap.size w (w.alloc (.cells #[.int .i64 (named chain.size), .int .i64 (plainVote x)] 37)) := (Below.refl _ _).alloc (Nat.le_refl _) _
  obtain ⟨q, hq⟩ : ∃ q, (saidErr chain (plainVote x) != 0) = q := ⟨_, rfl⟩
  have Hq := Lib.hid hq
  unfold saidErr at hq
  cases q
  · have hz0 : saidErr chain (plainVote x) = 0 := by have := Hq.out; simpa using this
    obtain ⟨hz, c1, c2⟩ := saidErr_zero hz0
    have lc := varB_ten (n := chain.size) (by unfold two64; omega)
    have HZ0 := Lib.hid hz0; clear hz0
    have HP := Lib.hid (voteB hx hz)
    clear hz
    go_enter Try.func26, Try.ntmps26
    go_wp2_with fail
    refine (named_any w chain Hc.out).mono ?_
    rintro e w1 ⟨rfl, rfl⟩
    go_wp2_with fail
    refine (all_any _ _ 2 2 [named chain.size, plainVote x] hr rfl (by omega)).mono ?_
    rintro e w1 ⟨rfl, rfl⟩
    generalize hW1 : w.alloc (.cells #[.int .i64 (named chain.size), .int .i64 (plainVote x)] 37) = w1 at *
    clear hW1 hr
    go_wp2_with fail
    refine (newWriter_any w1).mono ?_
    rintro e w2 ⟨g, rfl, hw2, e2⟩
    go_wp2_with fail
    have hby := byte_any w2 _ g [] 86 hw2 (by unfold room46; simp)
    refine hby.mono ?_
    rintro e w3 ⟨rfl, hw3, e3⟩
    clear hby
    go_wp2_with fail
    refine (text_any w3 _ g _ chain hw3 (by unfold two64; omega) (by unfold room46; simp; omega)).mono ?_
    rintro e w4 ⟨rfl, hw4, e4⟩
    have hk1 := hk.below hbl0 hk.lt
    have hk2 := hk1.below e2 hk1.lt
    have hk3 := hk2.eff e3 (.inl hk1.lt)
    have hk4 := hk3.eff e4 (.inl hk1.lt)
    go_wp2_with fail
    refine (putVote_fn w4 _ g bx _ x hx HP.out hk4 hw4 (by unfold room46; simp; omega)).mono ?_
    rintro e w5 ⟨rfl, hw5, e5⟩
    go_wp2_with fail
    have hlen : ([] ++ [86] ++ (varB chain.size ++ chain.data.toList) ++ encVote x : List UInt8).length ≤ reach47 := by
      have := encVote_len hx HP.out
      simp only [List.length_append, List.length_cons, List.length_nil, Array.length_toList]
      have e : chain.data.size = chain.size := rfl
      unfold reach47; omega
    refine (out_any w5 _ g _ hw5 hlen).mono ?_
    rintro e w6 ⟨v, rfl, hv, e6⟩
    go_wp2
    go_ret2
    have s1 := hbl0.size
    have s2 := e2.size
    have s3 := e3.size
    have s4 := e4.size
    have s5 := e5.size
    refine ⟨hbl0.trans ((e2.mono s1).trans ((e3.to s1 (by omega)).trans ((e4.to s1 (by omega)).trans ((e5.to s1 (by omega)).trans (e6.mono (by omega)))))), .inr ⟨HZ0.out, v, rfl, hv.mono (by omega)⟩⟩
  · have hz0 : saidErr chain (plainVote x) ≠ 0 := by have := Hq.out; simpa using this
    have HZ0 := Lib.hid hz0; clear hz0
    go_enter Try.func26, Try.ntmps26
    go_wp2_with fail
    refine (named_any w chain Hc.out).mono ?_
    rintro e w1 ⟨rfl, rfl⟩
    go_wp2_with fail
    refine (all_any _ _ 2 2 [named chain.size, plainVote x] hr rfl (by omega)).mono ?_
    rintro e w1 ⟨rfl, rfl⟩
    go_wp2
    go_ret2
    exact ⟨hbl0, .inl ⟨HZ0.out, rfl⟩⟩

set_option maxHeartbeats 400000 in
theorem VoteBytes_any (w : World) (chain : ByteArray) (x : Vote) (hx : x.ok) (hc : chain.size ≤ 9223372036854775807) :
    Calls Try.prog 8 #[.string chain, .agg x.cl.toArray] w (BytesRes w (saidErr chain (plainVote x)) (bytesVote chain x)) := by
  have Hc := Lib.hid hc; clear hc
  go_enter Try.func8, Try.ntmps8
  go_wp2_with (refine wpList_box_bk rfl _ _ rfl _ rfl ?_)
  intro bx w1 hk1 hbl hg hs
  clear hg hs
  go_wp2_with (refine wpList_load_part rfl 31 _ rfl bx 0 53 rfl _ _ _ hk1 Try.underlying31 rfl info_Vote (by have := x.cl_len hx; simp [this]) _ (cl_all (x.cl_len hx)) ?_)
  refine (plainVote_any w1 x hx).mono ?_
  rintro e w2 ⟨rfl, e2⟩
  have hk2 := hk1.below e2 hk1.lt
  go_wp2_with fail
  refine (saidVote_any w2 chain x bx hx hk2 Hc.out).mono ?_
  rintro e w3 ⟨e3, hcase⟩
  have s1 := hbl.size
  have s2 := e2.size
  rcases hcase with ⟨hz, rfl⟩ | ⟨hz, v, rfl, hv⟩
  · have HZ := Lib.hid hz; clear hz
    go_wp2
    go_ret2
    exact ⟨hbl.trans ((e2.mono s1).trans (e3.mono (by omega))), .inl ⟨HZ.out, rfl⟩⟩
  · have HZ := Lib.hid hz; clear hz
    go_wp2
    go_ret2
    exact ⟨hbl.trans ((e2.mono s1).trans (e3.mono (by omega))), .inr ⟨HZ.out, v, rfl, hv.mono (by omega)⟩⟩

theorem info_Proposal : (Try.prog.info? 33).map (·.size) = some 52 := by kernel_rfl

set_option maxHeartbeats 400000 in
theorem putProposal_fn (w : World) (B g bx : Nat) (bs : List UInt8) (x : Proposal) (hx : x.ok) (hp : ProposalB x) (hk : Bk w bx x.cl.toArray 33) (hw : Wr w B g bs) (hb : bs.length + 200 ≤ room46) :
    Calls Try.prog 35 #[.pointer (some ⟨g, 0, none⟩), .pointer (some ⟨bx, 0, none⟩)] w fun e w' => e = .returned (.tuple #[]) ∧ Wr w' B g (bs ++ encProposal x) ∧ Eff B WrT w w' := by
  go_enter Try.func35, Try.ntmps35
  go_wp2_with (refine wpList_load_part rfl 33 _ rfl bx 0 52 rfl _ _ _ hk Try.underlying33 rfl info_Proposal (by have := x.cl_len hx; simp [this]) _ (cl_all (x.cl_len hx)) ?_)
  refine (putProposal_no w B g bs x hx hp hw hb).mono ?_
  rintro e w1 ⟨rfl, hw1, e1⟩
  go_wp2
  go_end0
  exact ⟨rfl, hw1, e1⟩

def bytesProposal (chain : ByteArray) (x : Proposal) : List UInt8 := [80] ++ textB chain ++ encProposal x

set_option maxHeartbeats 1000000 in
theorem saidProposal_any (w : World) (chain : ByteArray) (x : Proposal) (bx : Nat) (hx : x.ok) (hk : Bk w bx x.cl.toArray 33) (hc : chain.size ≤ 9223372036854775807) :
    Calls Try.prog 26 #[.int .u8 80, .string chain, .int .i64 (plainProposal x), .func (.func 35) #[] #[.pointer (some ⟨bx, 0, none⟩)]] w (BytesRes w (saidErr chain (plainProposal x)) (bytesProposal chain x)) := by
  have Hc := Lib.hid hc; clear hc
  have hr := rd_errs w #[.int .i64 (named chain.size), .int .i64 (plainProposal x)] [named chain.size, plainProposal x] rfl
  have hbl0 : Below w.heap.size w (w.alloc (.cells #[.int .i64 (named chain.size), .int .i64 (plainProposal x)] 37)) := (Below.refl _ _).alloc (Nat.le_refl _) _
  obtain ⟨q, hq⟩ : ∃ q, (saidErr chain (plainProposal x) != 0) = q := ⟨_, rfl⟩
  have Hq := Lib.hid hq
  unfold saidErr at hq
  cases q
  · have hz0 : saidErr chain (plainProposal x) = 0 := by have := Hq.out; simpa using this
    obtain ⟨hz, c1, c2⟩ := saidErr_zero hz0
    have lc := varB_ten (n := chain.size) (by unfold two64; omega)
    have HZ0 := Lib.hid hz0; clear hz0
    have HP := Lib.hid (proposalB hx hz)
    clear hz
    go_enter Try.func26, Try.ntmps26
    go_wp2_with fail
    refine (named_any w chain Hc.out).mono ?_
    rintro e w1 ⟨rfl, rfl⟩
    go_wp2_with fail
    refine (all_any _ _ 2 2 [named chain.size, plainProposal x] hr rfl (by omega)).mono ?_
    rintro e w1 ⟨rfl, rfl⟩
    generalize hW1 : w.alloc (.cells #[.int .i64 (named chain.size), .int .i64 (plainProposal x)] 37) = w1 at *
    clear hW1 hr
    go_wp2_with fail
    refine (newWriter_any w1).mono ?_
    rintro e w2 ⟨g, rfl, hw2, e2⟩
    go_wp2_with fail
    have hby := byte_any w2 _ g [] 80 hw2 (by unfold room46; simp)
    refine hby.mono ?_
    rintro e w3 ⟨rfl, hw3, e3⟩
    clear hby
    go_wp2_with fail
    refine (text_any w3 _ g _ chain hw3 (by unfold two64; omega) (by unfold room46; simp; omega)).mono ?_
    rintro e w4 ⟨rfl, hw4, e4⟩
    have hk1 := hk.below hbl0 hk.lt
    have hk2 := hk1.below e2 hk1.lt
    have hk3 := hk2.eff e3 (.inl hk1.lt)
    have hk4 := hk3.eff e4 (.inl hk1.lt)
    go_wp2_with fail
    refine (putProposal_fn w4 _ g bx _ x hx HP.out hk4 hw4 (by unfold room46; simp; omega)).mono ?_
    rintro e w5 ⟨rfl, hw5, e5⟩
    go_wp2_with fail
    have hlen : ([] ++ [80] ++ (varB chain.size ++ chain.data.toList) ++ encProposal x : List UInt8).length ≤ reach47 := by
      have := encProposal_len hx HP.out
      simp only [List.length_append, List.length_cons, List.length_nil, Array.length_toList]
      have e : chain.data.size = chain.size := rfl
      unfold reach47; omega
    refine (out_any w5 _ g _ hw5 hlen).mono ?_
    rintro e w6 ⟨v, rfl, hv, e6⟩
    go_wp2
    go_ret2
    have s1 := hbl0.size
    have s2 := e2.size
    have s3 := e3.size
    have s4 := e4.size
    have s5 := e5.size
    refine ⟨hbl0.trans ((e2.mono s1).trans ((e3.to s1 (by omega)).trans ((e4.to s1 (by omega)).trans ((e5.to s1 (by omega)).trans (e6.mono (by omega)))))), .inr ⟨HZ0.out, v, rfl, hv.mono (by omega)⟩⟩
  · have hz0 : saidErr chain (plainProposal x) ≠ 0 := by have := Hq.out; simpa using this
    have HZ0 := Lib.hid hz0; clear hz0
    go_enter Try.func26, Try.ntmps26
    go_wp2_with fail
    refine (named_any w chain Hc.out).mono ?_
    rintro e w1 ⟨rfl, rfl⟩
    go_wp2_with fail
    refine (all_any _ _ 2 2 [named chain.size, plainProposal x] hr rfl (by omega)).mono ?_
    rintro e w1 ⟨rfl, rfl⟩
    go_wp2
    go_ret2
    exact ⟨hbl0, .inl ⟨HZ0.out, rfl⟩⟩

set_option maxHeartbeats 400000 in
theorem ProposalBytes_any (w : World) (chain : ByteArray) (x : Proposal) (hx : x.ok) (hc : chain.size ≤ 9223372036854775807) :
    Calls Try.prog 9 #[.string chain, .agg x.cl.toArray] w (BytesRes w (saidErr chain (plainProposal x)) (bytesProposal chain x)) := by
  have Hc := Lib.hid hc; clear hc
  go_enter Try.func9, Try.ntmps9
  go_wp2_with (refine wpList_box_bk rfl _ _ rfl _ rfl ?_)
  intro bx w1 hk1 hbl hg hs
  clear hg hs
  go_wp2_with (refine wpList_load_part rfl 33 _ rfl bx 0 52 rfl _ _ _ hk1 Try.underlying33 rfl info_Proposal (by have := x.cl_len hx; simp [this]) _ (cl_all (x.cl_len hx)) ?_)
  refine (plainProposal_any w1 x hx).mono ?_
  rintro e w2 ⟨rfl, e2⟩
  have hk2 := hk1.below e2 hk1.lt
  go_wp2_with fail
  refine (saidProposal_any w2 chain x bx hx hk2 Hc.out).mono ?_
  rintro e w3 ⟨e3, hcase⟩
  have s1 := hbl.size
  have s2 := e2.size
  rcases hcase with ⟨hz, rfl⟩ | ⟨hz, v, rfl, hv⟩
  · have HZ := Lib.hid hz; clear hz
    go_wp2
    go_ret2
    exact ⟨hbl.trans ((e2.mono s1).trans (e3.mono (by omega))), .inl ⟨HZ.out, rfl⟩⟩
  · have HZ := Lib.hid hz; clear hz
    go_wp2
    go_ret2
    exact ⟨hbl.trans ((e2.mono s1).trans (e3.mono (by omega))), .inr ⟨HZ.out, v, rfl, hv.mono (by omega)⟩⟩
end Go.Proofs.Ytocgcalaiejbiaa

/-
  The parts laid down. Conditions: each number fits its kind; lists lie in the world; the Writer has room.
-/
import Derived.Test.YtlhnhjglcbggmaaGreatRRYPb7
namespace Go.Proofs.YtlhnhjglcbggmaaGreatRR
set_option linter.unusedSimpArgs false
set_option linter.unusedVariables false
open Go.RowKit
set_option maxRecDepth 100000

set_option maxHeartbeats 1000000 in
theorem put_proposal (w : World) (B g : Nat) (bs : List UInt8) (p : Prts) (a : Nat) (hp : p.ok) (hpl : PK.plain p .proposal = 0) (hat : p.at w) (hlo : p.low B) (hB : B ≤ w.heap.size) (hk : Bk w a p.cl.toArray 177) (hw : Wr w B g bs) (hb : bs.length + 400000 ≤ room46) :
  Calls Tryz.prog 145 #[.pointer (some ⟨g, 0, none⟩), .pointer (some ⟨a, 0, none⟩)] w fun e w' => e = .returned (.tuple #[]) ∧ Wr w' B g (bs ++ PK.form p .proposal) ∧ Eff B WrT w w' := by
 have HX := Lib.hid hp
 have HP := Lib.hid hpl
 have HAT := Lib.hid hat
 have HLO := Lib.hid hlo
 have HK := Lib.hid hk
 have HL := Lib.hid (p.len hp)
 clear hp hpl hat hlo hk
 go_enter Tryz.func145, Tryz.ntmps145
 go_wp2_with (with_reducible show wpList _ _ _ (Oper.mk (some 8) (Op.load _ _) _ _ _ _ :: _) _ _; go_must (refine wpList_load_part rfl 33 _ rfl a 0 52 rfl _ _ _ HK.out Tryz.underlying33 rfl info_PropB (by simp [HL.out]) _ (p.ex_prop HX.out) ?_))
 refine (putSealedProposal_any w B g bs p.prop HX.out.prop (proposalB HX.out.prop HP.out) hw (by omega)).mono ?_
 rintro e w2 ⟨rfl, hw2, e2⟩
 go_wp2
 go_end0
 exact ⟨rfl, hw2, e2⟩

set_option maxHeartbeats 1000000 in
theorem put_block (w : World) (B g : Nat) (bs : List UInt8) (p : Prts) (a : Nat) (hp : p.ok) (hpl : PK.plain p .block = 0) (hat : p.at w) (hlo : p.low B) (hB : B ≤ w.heap.size) (hk : Bk w a p.cl.toArray 177) (hw : Wr w B g bs) (hb : bs.length + 400000 ≤ room46) :
  Calls Tryz.prog 149 #[.pointer (some ⟨g, 0, none⟩), .pointer (some ⟨a, 0, none⟩)] w fun e w' => e = .returned (.tuple #[]) ∧ Wr w' B g (bs ++ PK.form p .block) ∧ Eff B WrT w w' := by
 have HX := Lib.hid hp
 have HP := Lib.hid hpl
 have HAT := Lib.hid hat
 have HLO := Lib.hid hlo
 have HK := Lib.hid hk
 have HL := Lib.hid (p.len hp)
 clear hp hpl hat hlo hk
 go_enter Tryz.func149, Tryz.ntmps149
 go_wp2_with (with_reducible show wpList _ _ _ (Oper.mk (some 8) (Op.load _ _) _ _ _ _ :: _) _ _; go_must (refine wpList_load_part rfl 44 _ rfl a 52 265 rfl _ _ _ HK.out Tryz.underlying44 rfl info_BlkB (by simp [HL.out]) _ (p.ex_blk HX.out) ?_))
 refine (putBlock_any w B g bs p.blk HX.out.blk (blkB HX.out.blk HP.out) HAT.out.b HLO.out.b hB hw (by omega)).mono ?_
 rintro e w2 ⟨rfl, hw2, e2⟩
 go_wp2
 go_end0
 exact ⟨rfl, hw2, e2⟩

set_option maxHeartbeats 1000000 in
theorem put_cert (w : World) (B g : Nat) (bs : List UInt8) (p : Prts) (a : Nat) (hp : p.ok) (hpl : PK.plain p .cert = 0) (hat : p.at w) (hlo : p.low B) (hB : B ≤ w.heap.size) (hk : Bk w a p.cl.toArray 177) (hw : Wr w B g bs) (hb : bs.length + 400000 ≤ room46) :
  Calls Tryz.prog 167 #[.pointer (some ⟨g, 0, none⟩), .pointer (some ⟨a, 0, none⟩)] w fun e w' => e = .returned (.tuple #[]) ∧ Wr w' B g (bs ++ PK.form p .cert) ∧ Eff B WrT w w' := by
 have HX := Lib.hid hp
 have HP := Lib.hid hpl
 have HAT := Lib.hid hat
 have HLO := Lib.hid hlo
 have HK := Lib.hid hk
 have HL := Lib.hid (p.len hp)
 clear hp hpl hat hlo hk
 go_enter Tryz.func167, Tryz.ntmps167
 go_wp2_with (with_reducible show wpList _ _ _ (Oper.mk (some 8) (Op.load _ _) _ _ _ _ :: _) _ _; go_must (refine wpList_load_part rfl 36 _ rfl a 318 35 rfl _ _ _ HK.out Tryz.underlying36 rfl info_Crt (by simp [HL.out]) _ (p.ex_crt HX.out) ?_))
 refine (putCert_any w B g bs p.crt HX.out.crt (crtB HX.out.crt (firstErr_zero HP.out (plainCrt p.crt) (by simp))) HAT.out.c HLO.out.c hB hw (by omega)).mono ?_
 rintro e w2 ⟨rfl, hw2, e2⟩
 go_wp2
 go_end0
 exact ⟨rfl, hw2, e2⟩

set_option maxHeartbeats 1000000 in
theorem put_tx (w : World) (B g : Nat) (bs : List UInt8) (p : Prts) (a : Nat) (hp : p.ok) (hpl : PK.plain p .tx = 0) (hat : p.at w) (hlo : p.low B) (hB : B ≤ w.heap.size) (hk : Bk w a p.cl.toArray 177) (hw : Wr w B g bs) (hb : bs.length + 400000 ≤ room46) :
  Calls Tryz.prog 171 #[.pointer (some ⟨g, 0, none⟩), .pointer (some ⟨a, 0, none⟩)] w fun e w' => e = .returned (.tuple #[]) ∧ Wr w' B g (bs ++ PK.form p .tx) ∧ Eff B WrT w w' := by
 have HX := Lib.hid hp
 have HP := Lib.hid hpl
 have HAT := Lib.hid hat
 have HLO := Lib.hid hlo
 have HK := Lib.hid hk
 have HL := Lib.hid (p.len hp)
 clear hp hpl hat hlo hk
 go_enter Tryz.func171, Tryz.ntmps171
 go_wp2_with (with_reducible show wpList _ _ _ (Oper.mk (some 8) (Op.load _ _) _ _ _ _ :: _) _ _; go_must (refine wpList_load_part rfl 27 _ rfl a 353 22 rfl _ _ _ HK.out Tryz.underlying27 rfl info_Tx (by simp [HL.out]) _ (p.ex_tx HX.out) ?_))
 refine (putSealedTx_any w B g bs p.tx HX.out.tx (txB HP.out) hw (by omega)).mono ?_
 rintro e w2 ⟨rfl, hw2, e2⟩
 go_wp2
 go_end0
 exact ⟨rfl, hw2, e2⟩

set_option maxHeartbeats 1000000 in
theorem put_evidence (w : World) (B g : Nat) (bs : List UInt8) (p : Prts) (a : Nat) (hp : p.ok) (hpl : PK.plain p .evidence = 0) (hat : p.at w) (hlo : p.low B) (hB : B ≤ w.heap.size) (hk : Bk w a p.cl.toArray 177) (hw : Wr w B g bs) (hb : bs.length + 400000 ≤ room46) :
  Calls Tryz.prog 175 #[.pointer (some ⟨g, 0, none⟩), .pointer (some ⟨a, 0, none⟩)] w fun e w' => e = .returned (.tuple #[]) ∧ Wr w' B g (bs ++ PK.form p .evidence) ∧ Eff B WrT w w' := by
 have HX := Lib.hid hp
 have HP := Lib.hid hpl
 have HAT := Lib.hid hat
 have HLO := Lib.hid hlo
 have HK := Lib.hid hk
 have HL := Lib.hid (p.len hp)
 clear hp hpl hat hlo hk
 go_enter Tryz.func175, Tryz.ntmps175
 go_wp2_with (with_reducible show wpList _ _ _ (Oper.mk (some 8) (Op.load _ _) _ _ _ _ :: _) _ _; go_must (refine wpList_load_part rfl 38 _ rfl a 375 106 rfl _ _ _ HK.out Tryz.underlying38 rfl info_EvB (by simp [HL.out]) _ (p.ex_ev HX.out) ?_))
 refine (putEvidence_any w B g bs p.ev HX.out.ev (evB HX.out.ev HP.out).1 (evB HX.out.ev HP.out).2 hw (by omega)).mono ?_
 rintro e w2 ⟨rfl, hw2, e2⟩
 go_wp2
 go_end0
 exact ⟨rfl, hw2, e2⟩

set_option maxHeartbeats 1000000 in
theorem put_polka (w : World) (B g : Nat) (bs : List UInt8) (p : Prts) (a : Nat) (hp : p.ok) (hpl : PK.plain p .polka = 0) (hat : p.at w) (hlo : p.low B) (hB : B ≤ w.heap.size) (hk : Bk w a p.cl.toArray 177) (hw : Wr w B g bs) (hb : bs.length + 400000 ≤ room46) :
  Calls Tryz.prog 154 #[.pointer (some ⟨g, 0, none⟩), .pointer (some ⟨a, 0, none⟩)] w fun e w' => e = .returned (.tuple #[]) ∧ Wr w' B g (bs ++ PK.form p .polka) ∧ Eff B WrT w w' := by
 have HX := Lib.hid hp
 have HP := Lib.hid hpl
 have HAT := Lib.hid hat
 have HLO := Lib.hid hlo
 have HK := Lib.hid hk
 have HL := Lib.hid (p.len hp)
 clear hp hpl hat hlo hk
 have c1 : w.cell? ⟨a, 317, none⟩ = some (.slice p.vA p.vn p.vc) := (HK.out.cell 317).trans (p.at_v HX.out)
 have HE := Lib.hid (votesErr_zero (firstErr_zero HP.out (votesErr p.vn p.vs) (by simp)))
 have HVB := Lib.hid (show ∀ v ∈ p.vs, VoteB v from fun v hv => voteB (HX.out.vs v hv) (HE.out.2 v hv))
 go_enter Tryz.func154, Tryz.ntmps154
 go_wp2_with fail
 refine (putVotes_any w B g bs p.vA p.vn p.vc p.vs HX.out.vs HVB.out (fun v hv => Nat.le_trans (formVote_83 (HX.out.vs v hv) (HVB.out v hv)) (by omega)) HX.out.vn (Nat.le_trans HE.out.1 (by omega)) HAT.out.v HLO.out.v hB hw (by have := HE.out.1; omega)).mono ?_
 rintro e w2 ⟨rfl, hw2, e2⟩
 go_wp2
 go_end0
 exact ⟨rfl, hw2, e2⟩

set_option maxHeartbeats 1000000 in
theorem put_some (w : World) (B g : Nat) (bs : List UInt8) (p : Prts) (a : Nat) (hp : p.ok) (hpl : PK.plain p .some = 0) (hat : p.at w) (hlo : p.low B) (hB : B ≤ w.heap.size) (hk : Bk w a p.cl.toArray 177) (hw : Wr w B g bs) (hb : bs.length + 400000 ≤ room46) :
  Calls Tryz.prog 154 #[.pointer (some ⟨g, 0, none⟩), .pointer (some ⟨a, 0, none⟩)] w fun e w' => e = .returned (.tuple #[]) ∧ Wr w' B g (bs ++ PK.form p .some) ∧ Eff B WrT w w' := by
 have HX := Lib.hid hp
 have HP := Lib.hid hpl
 have HAT := Lib.hid hat
 have HLO := Lib.hid hlo
 have HK := Lib.hid hk
 have HL := Lib.hid (p.len hp)
 clear hp hpl hat hlo hk
 have c1 : w.cell? ⟨a, 317, none⟩ = some (.slice p.vA p.vn p.vc) := (HK.out.cell 317).trans (p.at_v HX.out)
 have HE := Lib.hid (votesErr_zero (firstErr_zero HP.out (votesErr p.vn p.vs) (by simp)))
 have HVB := Lib.hid (show ∀ v ∈ p.vs, VoteB v from fun v hv => voteB (HX.out.vs v hv) (HE.out.2 v hv))
 go_enter Tryz.func154, Tryz.ntmps154
 go_wp2_with fail
 refine (putVotes_any w B g bs p.vA p.vn p.vc p.vs HX.out.vs HVB.out (fun v hv => Nat.le_trans (formVote_83 (HX.out.vs v hv) (HVB.out v hv)) (by omega)) HX.out.vn (Nat.le_trans HE.out.1 (by omega)) HAT.out.v HLO.out.v hB hw (by have := HE.out.1; omega)).mono ?_
 rintro e w2 ⟨rfl, hw2, e2⟩
 go_wp2
 go_end0
 exact ⟨rfl, hw2, e2⟩

set_option maxHeartbeats 1000000 in
theorem put_one (w : World) (B g : Nat) (bs : List UInt8) (p : Prts) (a : Nat) (hp : p.ok) (hpl : PK.plain p .one = 0) (hat : p.at w) (hlo : p.low B) (hB : B ≤ w.heap.size) (hk : Bk w a p.cl.toArray 177) (hw : Wr w B g bs) (hb : bs.length + 400000 ≤ room46) :
  Calls Tryz.prog 157 #[.pointer (some ⟨g, 0, none⟩), .pointer (some ⟨a, 0, none⟩)] w fun e w' => e = .returned (.tuple #[]) ∧ Wr w' B g (bs ++ PK.form p .one) ∧ Eff B WrT w w' := by
 have HX := Lib.hid hp
 have HP := Lib.hid hpl
 have HAT := Lib.hid hat
 have HLO := Lib.hid hlo
 have HK := Lib.hid hk
 have HL := Lib.hid (p.len hp)
 clear hp hpl hat hlo hk
 obtain ⟨v, hv, hpv⟩ := one_votes HX.out.vn HP.out
 have c1 : w.cell? ⟨a, 317, none⟩ = some (.slice p.vA p.vn p.vc) := (HK.out.cell 317).trans (p.at_v HX.out)
 have hvn : p.vn = 1 := by rw [HX.out.vn, hv]; rfl
 have hvo : v.ok := HX.out.vs v (by rw [hv]; simp)
 obtain ⟨ad, hA, hcell⟩ := rd_elem (N := 53) (by omega) (fun x h => x.cl_len (HX.out.vs x h)) HAT.out.v (k := 0) (by rw [hv]; simp)
 have e0 : ∀ (h : 0 < p.vs.length), p.vs[0] = v := by rw [hv]; intro h; rfl
 rw [e0] at hcell
 have HC := Lib.hid hcell
 have HVO := Lib.hid hvo
 have HVB := Lib.hid (voteB hvo hpv)
 have HXL := Lib.hid (v.cl_len hvo)
 have HR := Lib.hid (show PK.form p .one = formVote v by simp only [PK.form]; rw [hv]; simp only [oneForm])
 rw [hA, hvn] at c1
 rw [HR.out]
 clear hcell hvo e0 hv hpv hvn
 go_enter Tryz.func157, Tryz.ntmps157
 go_wp2_with (with_reducible show wpList _ _ _ (Oper.mk (some 10) (Op.load _ _) _ _ _ _ :: _) _ _; go_must (first | refine wpList_load_at rfl 31 _ rfl (ad.add (0 * 53)) 53 rfl v.cl HC.out _ Tryz.underlying31 rfl info_Vote HXL.out ?_ | refine wpList_load_at rfl 31 _ rfl ad 53 rfl v.cl (by have := HC.out; simpa using this) _ Tryz.underlying31 rfl info_Vote HXL.out ?_))
 refine (putSealedVote_any w B g bs v HVO.out HVB.out hw (by omega)).mono ?_
 rintro e w2 ⟨rfl, hw2, e2⟩
 go_wp2
 go_end0
 exact ⟨rfl, hw2, e2⟩

set_option maxHeartbeats 1000000 in
theorem put_height (w : World) (B g : Nat) (bs : List UInt8) (p : Prts) (a : Nat) (hp : p.ok) (hpl : PK.plain p .height = 0) (hat : p.at w) (hlo : p.low B) (hB : B ≤ w.heap.size) (hk : Bk w a p.cl.toArray 177) (hw : Wr w B g bs) (hb : bs.length + 400000 ≤ room46) :
  Calls Tryz.prog 161 #[.pointer (some ⟨g, 0, none⟩), .pointer (some ⟨a, 0, none⟩)] w fun e w' => e = .returned (.tuple #[]) ∧ Wr w' B g (bs ++ PK.form p .height) ∧ Eff B WrT w w' := by
 have HX := Lib.hid hp
 have HP := Lib.hid hpl
 have HAT := Lib.hid hat
 have HLO := Lib.hid hlo
 have HK := Lib.hid hk
 have HL := Lib.hid (p.len hp)
 clear hp hpl hat hlo hk
 have c1 : w.cell? ⟨a, 481, none⟩ = some (.int .u64 p.height) := (HK.out.cell 481).trans (p.at_height HX.out)
 go_enter Tryz.func161, Tryz.ntmps161
 go_wp2_with fail
 refine (var_int w B g bs p.height hw HX.out.height.1 (by have := HX.out.height.2; unfold two64; omega) (by omega)).mono ?_
 rintro e w2 ⟨rfl, hw2, e2⟩
 go_wp2
 go_end0
 exact ⟨rfl, hw2, e2⟩

set_option maxHeartbeats 1000000 in
theorem put_round (w : World) (B g : Nat) (bs : List UInt8) (p : Prts) (a : Nat) (hp : p.ok) (hpl : PK.plain p .round = 0) (hat : p.at w) (hlo : p.low B) (hB : B ≤ w.heap.size) (hk : Bk w a p.cl.toArray 177) (hw : Wr w B g bs) (hb : bs.length + 400000 ≤ room46) :
  Calls Tryz.prog 164 #[.pointer (some ⟨g, 0, none⟩), .pointer (some ⟨a, 0, none⟩)] w fun e w' => e = .returned (.tuple #[]) ∧ Wr w' B g (bs ++ PK.form p .round) ∧ Eff B WrT w w' := by
 have HX := Lib.hid hp
 have HP := Lib.hid hpl
 have HAT := Lib.hid hat
 have HLO := Lib.hid hlo
 have HK := Lib.hid hk
 have HL := Lib.hid (p.len hp)
 clear hp hpl hat hlo hk
 have c1 : w.cell? ⟨a, 482, none⟩ = some (.int .i64 p.round) := (HK.out.cell 482).trans (p.at_round HX.out)
 have p1 : IntKind.u64.wrap p.round = p.round := by rw [IntKind.wrap_u64]; have := roundB HP.out; omega
 go_enter Tryz.func164, Tryz.ntmps164
 go_wp2_with fail
 refine (var_int w B g bs p.round hw (roundB HP.out).1 (by have := (roundB HP.out).2; unfold two64; omega) (by omega)).mono ?_
 rintro e w2 ⟨rfl, hw2, e2⟩
 go_wp2
 go_end0
 exact ⟨rfl, hw2, e2⟩

set_option maxHeartbeats 1000000 in
theorem put_good (w : World) (B g : Nat) (bs : List UInt8) (p : Prts) (a : Nat) (hp : p.ok) (hpl : PK.plain p .good = 0) (hat : p.at w) (hlo : p.low B) (hB : B ≤ w.heap.size) (hk : Bk w a p.cl.toArray 177) (hw : Wr w B g bs) (hb : bs.length + 400000 ≤ room46) :
  Calls Tryz.prog 179 #[.pointer (some ⟨g, 0, none⟩), .pointer (some ⟨a, 0, none⟩)] w fun e w' => e = .returned (.tuple #[]) ∧ Wr w' B g (bs ++ PK.form p .good) ∧ Eff B WrT w w' := by
 have HX := Lib.hid hp
 have HP := Lib.hid hpl
 have HAT := Lib.hid hat
 have HLO := Lib.hid hlo
 have HK := Lib.hid hk
 have HL := Lib.hid (p.len hp)
 clear hp hpl hat hlo hk
 have c1 : w.cell? ⟨a, 483, none⟩ = some (.bool p.good) := (HK.out.cell 483).trans (p.at_good HX.out)
 go_enter Tryz.func179, Tryz.ntmps179
 go_wp2_with fail
 refine (bool_any w B g bs p.good hw (by omega)).mono ?_
 rintro e w2 ⟨rfl, hw2, e2⟩
 go_wp2
 go_end0
 exact ⟨rfl, hw2, e2⟩

set_option maxHeartbeats 1000000 in
theorem put_step (w : World) (B g : Nat) (bs : List UInt8) (p : Prts) (a : Nat) (hp : p.ok) (hpl : PK.plain p .step = 0) (hat : p.at w) (hlo : p.low B) (hB : B ≤ w.heap.size) (hk : Bk w a p.cl.toArray 177) (hw : Wr w B g bs) (hb : bs.length + 400000 ≤ room46) :
  Calls Tryz.prog 183 #[.pointer (some ⟨g, 0, none⟩), .pointer (some ⟨a, 0, none⟩)] w fun e w' => e = .returned (.tuple #[]) ∧ Wr w' B g (bs ++ PK.form p .step) ∧ Eff B WrT w w' := by
 have HX := Lib.hid hp
 have HP := Lib.hid hpl
 have HAT := Lib.hid hat
 have HLO := Lib.hid hlo
 have HK := Lib.hid hk
 have HL := Lib.hid (p.len hp)
 clear hp hpl hat hlo hk
 have c1 : w.cell? ⟨a, 484, none⟩ = some (.int .i64 p.step) := (HK.out.cell 484).trans (p.at_step HX.out)
 have hst : (decide (p.step < 1) || decide (3 < p.step)) = false := field_zero HP.out
 simp only [Bool.or_eq_false_iff, decide_eq_false_iff_not] at hst
 have p1 : IntKind.u8.wrap p.step = p.step := by rw [IntKind.wrap_u8]; omega
 go_enter Tryz.func183, Tryz.ntmps183
 go_wp2_with fail
 refine (byte_int w B g bs p.step hw (by omega) (by omega) (by omega)).mono ?_
 rintro e w2 ⟨rfl, hw2, e2⟩
 go_wp2
 go_end0
 exact ⟨rfl, hw2, e2⟩

/-- the functions that a part holds -/
def PK.f1 : PK → FuncId
 | .proposal => 144
 | .block => 148
 | .polka => 152
 | .some => 159
 | .one => 156
 | .cert => 166
 | .tx => 170
 | .evidence => 174
 | .height => 160
 | .round => 163
 | .good => 178
 | .step => 182
def PK.f2 : PK → FuncId
 | .proposal => 145
 | .block => 149
 | .polka => 154
 | .some => 154
 | .one => 157
 | .cert => 167
 | .tx => 171
 | .evidence => 175
 | .height => 161
 | .round => 164
 | .good => 179
 | .step => 183
def PK.f3 : PK → FuncId
 | .proposal => 146
 | .block => 150
 | .polka => 155
 | .some => 155
 | .one => 158
 | .cert => 168
 | .tx => 172
 | .evidence => 176
 | .height => 162
 | .round => 165
 | .good => 180
 | .step => 184
theorem PK.in1 (k : PK) (args : Array Value) (w : World) : (callFunc k.f1 args).run Tryz.prog w = .ok (.enter k.f1 args) w :=
 match k with
 | .proposal => run_callFunc_enter Tryz.func144 (by kernel_rfl) (by kernel_rfl) args w
 | .block => run_callFunc_enter Tryz.func148 (by kernel_rfl) (by kernel_rfl) args w
 | .polka => run_callFunc_enter Tryz.func152 (by kernel_rfl) (by kernel_rfl) args w
 | .some => run_callFunc_enter Tryz.func159 (by kernel_rfl) (by kernel_rfl) args w
 | .one => run_callFunc_enter Tryz.func156 (by kernel_rfl) (by kernel_rfl) args w
 | .cert => run_callFunc_enter Tryz.func166 (by kernel_rfl) (by kernel_rfl) args w
 | .tx => run_callFunc_enter Tryz.func170 (by kernel_rfl) (by kernel_rfl) args w
 | .evidence => run_callFunc_enter Tryz.func174 (by kernel_rfl) (by kernel_rfl) args w
 | .height => run_callFunc_enter Tryz.func160 (by kernel_rfl) (by kernel_rfl) args w
 | .round => run_callFunc_enter Tryz.func163 (by kernel_rfl) (by kernel_rfl) args w
 | .good => run_callFunc_enter Tryz.func178 (by kernel_rfl) (by kernel_rfl) args w
 | .step => run_callFunc_enter Tryz.func182 (by kernel_rfl) (by kernel_rfl) args w
theorem PK.in2 (k : PK) (args : Array Value) (w : World) : (callFunc k.f2 args).run Tryz.prog w = .ok (.enter k.f2 args) w :=
 match k with
 | .proposal => run_callFunc_enter Tryz.func145 (by kernel_rfl) (by kernel_rfl) args w
 | .block => run_callFunc_enter Tryz.func149 (by kernel_rfl) (by kernel_rfl) args w
 | .polka => run_callFunc_enter Tryz.func154 (by kernel_rfl) (by kernel_rfl) args w
 | .some => run_callFunc_enter Tryz.func154 (by kernel_rfl) (by kernel_rfl) args w
 | .one => run_callFunc_enter Tryz.func157 (by kernel_rfl) (by kernel_rfl) args w
 | .cert => run_callFunc_enter Tryz.func167 (by kernel_rfl) (by kernel_rfl) args w
 | .tx => run_callFunc_enter Tryz.func171 (by kernel_rfl) (by kernel_rfl) args w
 | .evidence => run_callFunc_enter Tryz.func175 (by kernel_rfl) (by kernel_rfl) args w
 | .height => run_callFunc_enter Tryz.func161 (by kernel_rfl) (by kernel_rfl) args w
 | .round => run_callFunc_enter Tryz.func164 (by kernel_rfl) (by kernel_rfl) args w
 | .good => run_callFunc_enter Tryz.func179 (by kernel_rfl) (by kernel_rfl) args w
 | .step => run_callFunc_enter Tryz.func183 (by kernel_rfl) (by kernel_rfl) args w
theorem plainPK_any (k : PK) (w : World) (p : Prts) (a : Nat) (hp : p.ok) (hat : p.at w) (hk : Bk w a p.cl.toArray 177) :
  Calls Tryz.prog k.f1 #[.pointer (some ⟨a, 0, none⟩)] w fun e w' => e = .returned (.int .i64 (k.plain p)) ∧ Below w.heap.size w w' :=
 match k with
 | .proposal => plain_proposal w p a hp hat hk
 | .block => plain_block w p a hp hat hk
 | .polka => plain_polka w p a hp hat hk
 | .some => plain_some w p a hp hat hk
 | .one => plain_one w p a hp hat hk
 | .cert => plain_cert w p a hp hat hk
 | .tx => plain_tx w p a hp hat hk
 | .evidence => plain_evidence w p a hp hat hk
 | .height => plain_height w p a hp hat hk
 | .round => plain_round w p a hp hat hk
 | .good => plain_good w p a hp hat hk
 | .step => plain_step w p a hp hat hk
theorem putPK_any (k : PK) (w : World) (B g : Nat) (bs : List UInt8) (p : Prts) (a : Nat) (hp : p.ok) (hpl : k.plain p = 0) (hat : p.at w) (hlo : p.low B) (hB : B ≤ w.heap.size) (hk : Bk w a p.cl.toArray 177) (hw : Wr w B g bs) (hb : bs.length + 400000 ≤ room46) :
  Calls Tryz.prog k.f2 #[.pointer (some ⟨g, 0, none⟩), .pointer (some ⟨a, 0, none⟩)] w fun e w' => e = .returned (.tuple #[]) ∧ Wr w' B g (bs ++ k.form p) ∧ Eff B WrT w w' :=
 match k, hpl with
 | .proposal, hpl => put_proposal w B g bs p a hp hpl hat hlo hB hk hw hb
 | .block, hpl => put_block w B g bs p a hp hpl hat hlo hB hk hw hb
 | .polka, hpl => put_polka w B g bs p a hp hpl hat hlo hB hk hw hb
 | .some, hpl => put_some w B g bs p a hp hpl hat hlo hB hk hw hb
 | .one, hpl => put_one w B g bs p a hp hpl hat hlo hB hk hw hb
 | .cert, hpl => put_cert w B g bs p a hp hpl hat hlo hB hk hw hb
 | .tx, hpl => put_tx w B g bs p a hp hpl hat hlo hB hk hw hb
 | .evidence, hpl => put_evidence w B g bs p a hp hpl hat hlo hB hk hw hb
 | .height, hpl => put_height w B g bs p a hp hpl hat hlo hB hk hw hb
 | .round, hpl => put_round w B g bs p a hp hpl hat hlo hB hk hw hb
 | .good, hpl => put_good w B g bs p a hp hpl hat hlo hB hk hw hb
 | .step, hpl => put_step w B g bs p a hp hpl hat hlo hB hk hw hb
end Go.Proofs.YtlhnhjglcbggmaaGreatRR

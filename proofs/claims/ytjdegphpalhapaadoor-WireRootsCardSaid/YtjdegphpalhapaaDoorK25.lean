/-
  The reference's CertId. Conditions: each number fits its kind; the marks lie in the world; the table reads as it was laid.
  The law's own helpers: num, sameBytes, turn. Conditions: sizes below 2^46; what is turned is the call's own.
  The law's helper turn: it writes over its slice, and appends to it: what else there is stays. Conditions: the slice is the call's own, below 2^46 bytes.
  The Go text of WireSigns returns true for whatever name, transfer, vote and proposal. Condition: each number fits its kind.
  An argument of the claim opened: a name, and what is signed of it, as numbers, bytes and a text. No condition.
  An argument of the claim opened: a slice of bytes. No condition.
-/
import Derived.Test.YtjdegphpalhapaaDoorKCr7
import Derived.Test.YtjdegphpalhapaaDoorK18
import Derived.Test.YtjdegphpalhapaaDoorK20
import Derived.ProofKit
import Derived.OpenShut
import Derived.SizedLaws
namespace Go.Proofs.YtjdegphpalhapaaDoor
set_option linter.unusedSimpArgs false
set_option linter.unusedVariables false
open Go.RowKit
set_option maxRecDepth 100000
set_option maxHeartbeats 4000000 in
theorem rCertId_any (w : World) (x : Crt) (hx : x.ok) (hat : x.at w) (ht : RTab w) :
    Calls Tryd.prog 10 #[.agg x.cl.toArray] w (HashRes w (plainCrt x) (idCrt x)) := by
  have HX := Lib.hid hx
  have HT := Lib.hid ht
  have HAT := Lib.hid (show Rd w x.A (x.ms.flatMap Mk.cl) from hat)
  have HL := Lib.hid (x.cl_len hx)
  clear hx ht hat
  go_enter Tryd.func10, Tryd.ntmps10
  go_wp2_with (with_reducible show wpList _ _ _ (Oper.mk _ (Op.box _ _) _ _ _ _ :: _) _ _; refine wpList_box_i rfl _ _ rfl _ rfl ?_)
  intro bx w1 hk1 hl1 hg1 hs1
  go_wp2_with (with_reducible show wpList _ _ _ (Oper.mk _ (Op.alloc _) _ _ _ _ :: _) _ _; refine wpList_alloc_i rfl 29 rfl (.agg (bv (zer 32)).toArray) zero_hash ?_)
  intro r w2 h2 hl2 hg2 hs2
  have HK2 := Lib.hid (hk1.below hl2 hk1.lt)
  have H2 := Lib.hid h2
  have HL2 := Lib.hid (hl1.trans (hl2.mono hl1.size))
  have HR := Lib.hid (show w.heap.size ≤ r by have := hl1.size; omega)
  clear hk1 hl1 h2 hl2 hg1 hs1 hg2
  go_wp2_with (with_reducible show wpList _ _ _ (Oper.mk (some 5) (Op.load _ _) _ _ _ _ :: _) _ _; go_must (refine wpList_load_part rfl 34 _ rfl bx 0 35 rfl _ _ _ HK2.out Tryd.underlying34 rfl info_Crt (by simp [HL.out]) _ (cl_all35 HL.out) ?_); go_wp2_with fail)
  refine (rPlainCrt_any w2 x HX.out (show Rd w2 x.A (x.ms.flatMap Mk.cl) from HAT.out.below HL2.out)).mono ?_
  rintro en w3 ⟨rfl, hl3⟩
  have HL3 := Lib.hid (HL2.out.trans (hl3.mono HL2.out.size))
  have H3 := Lib.hid (H2.out.below hl3 H2.out.lt)
  have HK3 := Lib.hid (HK2.out.below hl3 HK2.out.lt)
  clear hl3 HK2 H2
  obtain ⟨E, hE⟩ : ∃ E, plainCrt x = E := ⟨_, rfl⟩
  have HE := Lib.hid hE
  rw [hE]
  clear hE
  by_cases he : E = 0
  · have f1 : (E != 0) = false := by simp [he]
    have f2 : (E == 0) = true := by simp [he]
    have HE0 := Lib.hid he
    have hB := crtB HX.out (HE.out.trans he)
    have HTB := Lib.hid hB
    have HFL := Lib.hid (encCrt_len HX.out hB)
    clear he hB
    go_wp2_with (with_reducible show wpList _ _ _ (Oper.mk (some 11) (Op.load _ _) _ _ _ _ :: _) _ _; go_must (refine wpList_load_part rfl 34 _ rfl bx 0 35 rfl _ _ _ HK3.out Tryd.underlying34 rfl info_Crt (by simp [HL.out]) _ (cl_all35 HL.out) ?_); go_wp2_with fail)
    refine (rNoCert_any w3 x HX.out).mono ?_
    rintro en w4 ⟨rfl, hl4⟩
    have HLX := Lib.hid (HL3.out.trans (hl4.mono HL3.out.size))
    have HX4 := Lib.hid (H3.out.below hl4 H3.out.lt)
    have HKX := Lib.hid (HK3.out.below hl4 HK3.out.lt)
    clear hl4 HK3 H3 HL3
    obtain ⟨Z, hZ⟩ : ∃ Z, zeroC x = Z := ⟨_, rfl⟩
    rw [hZ]
    have HZ := Lib.hid hZ
    clear hZ
    cases Z
    case true =>
      go_wp2_with (first
        | (with_reducible show wpList _ _ _ (Oper.mk _ (Op.build _ _) _ _ _ _ :: _) _ _; go_must (refine wpList_buildv rfl 29 [] rfl [] rfl _ built_hash ?_))
        | (with_reducible show wpList _ _ _ (Oper.mk _ (Op.store 29 _ _) _ _ _ _ :: _) _ _; go_must (refine wpList_store_bk rfl 29 _ _ rfl r rfl (.agg (bv (zer 32)).toArray) rfl _ _ HX4.out (by rw [agg_sz (bv_sz (n := 32) rfl)]; exact info_h32) rfl (by simpa [Value.cells] using bv_one (zer 32)) ?_)))
      intro w5 h5 hg5 hs5
      have HB := Lib.hid (below_grown2 HLX.out hg5 HR.out HLX.out.size)
      have H5 := Lib.hid (show Bk w5 r (bv (zer 32)).toArray 29 from h5)
      clear h5 hg5 hs5
      go_wp2
      exact bodyPost_ct (x := .int .i64 0) rfl rfl rfl H5.out Tryd.underlying29 rfl info_h32 (bv_sz (n := 32) rfl).symm rfl ⟨HB.out, by rw [HE.out, HE0.out]; unfold hashOr idCrt; rw [if_pos rfl, if_pos HZ.out]⟩
    case false =>
      go_wp2_with (with_reducible show wpList _ _ _ (Oper.mk (some 15) (Op.load _ _) _ _ _ _ :: _) _ _; go_must (refine wpList_load_part rfl 34 _ rfl bx 0 35 rfl _ _ _ (HKX.out.below ((Below.refl _ _).alloc (Nat.le_refl _) _) HKX.out.lt) Tryd.underlying34 rfl info_Crt (by simp [HL.out]) _ (cl_all35 HL.out) ?_); go_wp2_with fail)
      have HBA := Lib.hid (show Below w4.heap.size w4 (w4.alloc (.cells #[.int .u8 18] 5)) from (Below.refl _ _).alloc (Nat.le_refl _) _)
      have HKA := Lib.hid (show Bk (w4.alloc (.cells #[.int .u8 18] 5)) w4.heap.size #[.int .u8 18] 5 from Bk.new w4 _ _)
      obtain ⟨wa, hwa⟩ : ∃ wa, w4.alloc (.cells #[.int .u8 18] 5) = wa := ⟨_, rfl⟩
      obtain ⟨g0, hg0⟩ : ∃ g0, w4.heap.size = g0 := ⟨_, rfl⟩
      rw [hwa] at HBA HKA ⊢
      have HATA := Lib.hid (show Rd wa x.A (x.ms.flatMap Mk.cl) from (HAT.out.below HLX.out).below (hg0 ▸ HBA.out))
      rw [hg0] at HBA HKA ⊢
      refine (rCert_any wa x HX.out HTB.out (show Rd wa x.A (x.ms.flatMap Mk.cl) from HATA.out)).mono ?_
      rintro en w5 ⟨v, rfl, hv, hl5⟩
      obtain ⟨A, c, rfl⟩ := hv.form
      have HV := Lib.hid hv
      have HK5 := Lib.hid (HKA.out.below hl5 HKA.out.lt)
      have HL5 := Lib.hid (HLX.out.trans (((by rw [hg0]; exact HBA.out : Below w4.heap.size w4 wa).trans (hl5.mono HBA.out.size)).mono HLX.out.size))
      have H5 := Lib.hid (((HX4.out.below (by rw [hg0]; exact HBA.out) HX4.out.lt)).below hl5 (by have := HX4.out.lt; have := HBA.out.size; omega))
      have c16 : w5.cell? ⟨g0, 0, none⟩ = some (.int .u8 (18 : UInt8).toNat) := HK5.out.cell 0
      have HNE := Lib.hid (show 1 ≤ (encCrt x).length by have := HX.out.id; unfold encCrt; simp only [List.length_append]; omega)
      clear hv hl5 hwa hg0
      go_wp2_with (at_builtin; go_must (refine wpList_app_one rfl _ _ rfl g0 18 rfl c16 A _ c (encCrt x) rfl rfl HV.out.rd HNE.out (by have := HFL.out; unfold reach47; omega) ?_); intro v6 w6 own6 hl6)
      have HL6 := Lib.hid (HL5.out.trans (hl6.mono HL5.out.size))
      have H6 := Lib.hid (H5.out.below hl6 H5.out.lt)
      clear hl6
      refine (rSum_bs w6 _ v6 (18 :: encCrt x) own6 (by simp) (by have := HFL.out; unfold room46; simp only [List.length_cons]; omega) (HT.out.below HL6.out HT.out.lt HL6.out.size)).mono ?_
      rintro en w7 ⟨rfl, hl7⟩
      have HL7 := Lib.hid (HL6.out.trans (hl7.mono HL6.out.size))
      have H7 := Lib.hid (H6.out.below hl7 H6.out.lt)
      have HY := Lib.hid (bv_sz (sha_len (18 :: encCrt x)))
      clear hl7
      go_wp2_with (with_reducible show wpList _ _ _ (Oper.mk _ (Op.store 29 _ _) _ _ _ _ :: _) _ _; go_must (refine wpList_store_bk rfl 29 _ _ rfl r rfl (.agg (bv (sha (18 :: encCrt x))).toArray) rfl _ _ H7.out (by rw [agg_sz HY.out]; exact info_h32) (by rw [agg_sz HY.out]; simp [bv, zer]) (by simpa [Value.cells] using bv_one (sha (18 :: encCrt x))) ?_))
      intro w8 h8 hg8 hs8
      have HB := Lib.hid (below_grown2 HL7.out hg8 HR.out HL7.out.size)
      have H8 := Lib.hid h8
      clear h8 hg8 hs8
      go_wp2
      exact bodyPost_ct (x := .int .i64 0) rfl rfl rfl H8.out Tryd.underlying29 rfl info_h32 HY.out.symm rfl ⟨HB.out, by rw [HE.out, HE0.out]; unfold hashOr idCrt; rw [if_pos rfl, if_neg (by rw [HZ.out]; decide)]⟩
  · have f1 : (E != 0) = true := by simp [he]
    have f2 : (E == 0) = false := by simp [he]
    have HE0 := Lib.hid he
    clear he
    go_wp2_with (first
      | (with_reducible show wpList _ _ _ (Oper.mk _ (Op.build _ _) _ _ _ _ :: _) _ _; go_must (refine wpList_buildv rfl 29 [] rfl [] rfl _ built_hash ?_))
      | (with_reducible show wpList _ _ _ (Oper.mk _ (Op.store 29 _ _) _ _ _ _ :: _) _ _; go_must (refine wpList_store_bk rfl 29 _ _ rfl r rfl (.agg (bv (zer 32)).toArray) rfl _ _ H3.out (by rw [agg_sz (bv_sz (n := 32) rfl)]; exact info_h32) rfl (by simpa [Value.cells] using bv_one (zer 32)) ?_)))
    intro w5 h5 hg5 hs5
    have HB := Lib.hid (below_grown2 HL3.out hg5 HR.out HL3.out.size)
    have H5 := Lib.hid (show Bk w5 r (bv (zer 32)).toArray 29 from h5)
    clear h5 hg5 hs5
    go_wp2
    exact bodyPost_ct (x := .int .i64 E) rfl rfl rfl H5.out Tryd.underlying29 rfl info_h32 (bv_sz (n := 32) rfl).symm rfl ⟨HB.out, by rw [HE.out]; unfold hashOr; rw [if_neg HE0.out]⟩
end Go.Proofs.YtjdegphpalhapaaDoor
namespace Go.Proofs.YtjdegphpalhapaaDoor
set_option linter.unusedSimpArgs false
set_option linter.unusedVariables false
open Go.RowKit
set_option maxRecDepth 100000

set_option maxHeartbeats 400000 in
theorem lawNum_any (w : World) (n : Int) :
    Calls Tryd.prog 11 #[.int .i64 n] w fun e w' => e = .returned (.int .i64 n) ∧ w = w' := by
  go_enter Tryd.func11, Tryd.ntmps11
  go_wp2
  go_ret
  exact ⟨rfl, rfl⟩

theorem take_eq_succ {l1 l2 : List UInt8} {k : Nat} {a : UInt8} (h1 : l1[k]? = some a) (h2 : l2[k]? = some a) (h : l1.take k = l2.take k) : l1.take (k + 1) = l2.take (k + 1) := by
  rw [List.take_add_one, List.take_add_one, h, h1, h2]

theorem below_drewN {B n : Nat} {a w : World} (h : Below B a w) : Below B a (w.drewN n) := ⟨h.os, h.tape, h.output, h.size, h.block⟩
end Go.Proofs.YtjdegphpalhapaaDoor
namespace Go.Proofs.YtjdegphpalhapaaDoor
set_option linter.unusedSimpArgs false
set_option linter.unusedVariables false
open Go.RowKit
set_option maxRecDepth 100000

/-- a row of bytes of the call's own, whatever they are -/
def Bz (w : World) (B : Nat) (v : Value) (n : Nat) : Prop := ∃ zs : List Int, w.ownsRow B 5 1 v n (zs.map (Value.int .u8))
theorem Bs.bz {w : World} {B : Nat} {v : Value} {l : List UInt8} (h : Bs w B v l) : Bz w B v l.length := ⟨l.map fun b => (b.toNat : Int), by rw [List.map_map]; exact h⟩
theorem grown_trans {w w1 w2 : World} {r r' : Option Nat} (h1 : w.grownBy w1 r) (h2 : w1.grownBy w2 r') (h : r' = r ∨ r' = none ∨ ∃ k, r' = some k ∧ w.heap.size ≤ k) : w.grownBy w2 r :=
  ⟨h2.os.trans h1.os, h2.tape.trans h1.tape, h2.output.trans h1.output, Nat.le_trans h1.size h2.size, fun k hk hr => by
    rw [h2.block k (Nat.lt_of_lt_of_le hk h1.size) ?_, h1.block k hk hr]
    intro e
    rcases h with h | h | ⟨j, h, hj⟩
    · exact hr (e.trans h)
    · rw [h] at e; cases e
    · rw [h] at e; cases e; omega⟩
theorem grown_drewN {w w1 : World} {r : Option Nat} (h : w.grownBy w1 r) (n : Nat) : w.grownBy (w1.drewN n) r := ⟨h.os, h.tape, h.output, h.size, h.block⟩

theorem bz_set {w : World} {B g n c : Nat} {zs : List Int} (h : w.ownsRow B 5 1 (.slice (some ⟨g, 0, none⟩) n c) n (zs.map (Value.int .u8))) (k : Nat) (u : Int) : Bz (w.setCell ⟨g, k, none⟩ (.int .u8 u)) B (.slice (some ⟨g, 0, none⟩) n c) n := by
  refine ⟨zs.set k u, ?_⟩
  have := (h.stored k (.int .u8 u)).1
  rw [← List.map_set] at this
  exact this
end Go.Proofs.YtjdegphpalhapaaDoor
namespace Go.Proofs.YtjdegphpalhapaaDoor
set_option linter.unusedSimpArgs false
set_option linter.unusedVariables false
open Go.RowKit
set_option maxRecDepth 100000

def ansB (err : Int) (l : List UInt8) : List UInt8 := if err = 0 then l else []
theorem res_ans {w w' : World} {err : Int} {l : List UInt8} {e : Ending} (h : BytesRes w err l e w') : Below w.heap.size w w' ∧ ∃ A c, e = .returned (.tuple #[.slice A (ansB err l).length c, .int .i64 err]) ∧ Bs w' w.heap.size (.slice A (ansB err l).length c) (ansB err l) := by
  obtain ⟨hb, h⟩ := h
  refine ⟨hb, ?_⟩
  rcases h with ⟨hz, rfl⟩ | ⟨hz, v, rfl, hv⟩
  · have ha : ansB err l = [] := by unfold ansB; rw [if_neg hz]
    rw [ha]
    exact ⟨none, 0, rfl, Bs.nil _ _⟩
  · have ha : ansB err l = l := by unfold ansB; rw [if_pos hz]
    rw [ha]
    obtain ⟨A, c, rfl⟩ := hv.form
    subst hz
    exact ⟨A, c, rfl, hv⟩
theorem bs_kept {w w' : World} {B : Nat} {v : Value} {l : List UInt8} {r : Option Nat} (h : Bs w B v l) (hg : w.grownBy w' r) (hr : ∀ k, r = some k → k < B) : Bs w' B v l := by
  refine World.ownsRow.kept h hg ?_
  cases hv : v.ownBlock with
  | none => exact .inl rfl
  | some k =>
    right
    intro e
    have h1 := (World.ownsRow.lt h k hv).1
    have h2 := hr k e.symm
    omega
theorem bs_lt {w : World} {B : Nat} {v : Value} {l : List UInt8} (h : Bs w B v l) : ∀ k, v.ownBlock = some k → k < w.heap.size := fun k hk => (World.ownsRow.lt h k hk).2
theorem bs_kept' {w w' : World} {B : Nat} {v : Value} {l : List UInt8} {r : Option Nat} (h : Bs w B v l) (hg : w.grownBy w' r) (hr : ∀ k, r = some k → B ≤ k) (hv : ∀ k, v.ownBlock = some k → ∀ j, r = some j → k < j) : Bs w' B v l := by
  refine World.ownsRow.kept h hg ?_
  cases hv' : v.ownBlock with
  | none => exact .inl rfl
  | some k =>
    right
    intro e
    have := hv k hv' k e.symm
    omega

structure Name where
  chain : ByteArray
  tx : Tx
  vote : Vote
  prop : Proposal
def Name.cl (x : Name) : List Value := [.string x.chain] ++ x.tx.cl ++ x.vote.cl ++ x.prop.cl
structure Name.ok (x : Name) : Prop where
  chain : x.chain.size ≤ 9223372036854775807
  tx : x.tx.ok
  vote : x.vote.ok
  prop : x.prop.ok
theorem Name.cl_len (x : Name) (h : x.ok) : x.cl.length = 128 := by
  simp only [Name.cl, List.length_append, List.length_cons, List.length_nil, x.tx.cl_len h.tx, x.vote.cl_len h.vote, x.prop.cl_len h.prop]
theorem Name.cl_tx (x : Name) (h : x.ok) : x.cl.toArray.extract 1 (1 + 22) = x.tx.cl.toArray := by
  refine extract_cl _ _ _ _ ?_
  have e : x.cl.drop 1 = x.tx.cl ++ (x.vote.cl ++ x.prop.cl) := by simp [Name.cl]
  rw [e, show 1 + 22 - 1 = x.tx.cl.length from by rw [x.tx.cl_len h.tx]]
  exact List.take_left
theorem Name.cl_vote (x : Name) (h : x.ok) : x.cl.toArray.extract 23 (23 + 53) = x.vote.cl.toArray := by
  refine extract_cl _ _ _ _ ?_
  have e0 : x.cl = ([.string x.chain] ++ x.tx.cl) ++ (x.vote.cl ++ x.prop.cl) := by simp [Name.cl]
  have e1 : ([.string x.chain] ++ x.tx.cl : List Value).length = 23 := by rw [List.length_append, x.tx.cl_len h.tx]; rfl
  have e : x.cl.drop 23 = x.vote.cl ++ x.prop.cl := by rw [e0, ← e1]; exact List.drop_left
  rw [e, show 23 + 53 - 23 = x.vote.cl.length from by rw [x.vote.cl_len h.vote]]
  exact List.take_left
theorem Name.cl_prop (x : Name) (h : x.ok) : x.cl.toArray.extract 76 (76 + 52) = x.prop.cl.toArray := by
  refine extract_cl _ _ _ _ ?_
  have e0 : x.cl = ([.string x.chain] ++ x.tx.cl ++ x.vote.cl) ++ x.prop.cl := by simp [Name.cl]
  have e1 : ([.string x.chain] ++ x.tx.cl ++ x.vote.cl : List Value).length = 76 := by rw [List.length_append, List.length_append, x.tx.cl_len h.tx, x.vote.cl_len h.vote]; rfl
  have e : x.cl.drop 76 = x.prop.cl := by rw [e0, ← e1]; exact List.drop_left
  rw [e, show 76 + 52 - 76 = x.prop.cl.length from by rw [x.prop.cl_len h.prop]]
  exact List.take_length

theorem ansTx_len (x : Name) (h : x.ok) : (ansB (saidErr x.chain (plainTx x.tx)) (bytesTx x.chain x.tx)).length ≤ 200 := by
  unfold ansB
  split
  · rename_i hz
    obtain ⟨hz, c1, c2⟩ := saidErr_zero hz
    have := encTx_len h.tx (txB hz)
    have lc := varB_ten (n := x.chain.size) (by unfold two64; omega)
    have e : x.chain.data.size = x.chain.size := rfl
    simp only [bytesTx, textB, List.length_append, List.length_cons, List.length_nil, Array.length_toList]
    omega
  · simp
theorem ansVote_len (x : Name) (h : x.ok) : (ansB (saidErr x.chain (plainVote x.vote)) (bytesVote x.chain x.vote)).length ≤ 200 := by
  unfold ansB
  split
  · rename_i hz
    obtain ⟨hz, c1, c2⟩ := saidErr_zero hz
    have := encVote_len h.vote (voteB h.vote hz)
    have lc := varB_ten (n := x.chain.size) (by unfold two64; omega)
    have e : x.chain.data.size = x.chain.size := rfl
    simp only [bytesVote, textB, List.length_append, List.length_cons, List.length_nil, Array.length_toList]
    omega
  · simp
theorem ansProposal_len (x : Name) (h : x.ok) : (ansB (saidErr x.chain (plainProposal x.prop)) (bytesProposal x.chain x.prop)).length ≤ 200 := by
  unfold ansB
  split
  · rename_i hz
    obtain ⟨hz, c1, c2⟩ := saidErr_zero hz
    have := encProposal_len h.prop (proposalB h.prop hz)
    have lc := varB_ten (n := x.chain.size) (by unfold two64; omega)
    have e : x.chain.data.size = x.chain.size := rfl
    simp only [bytesProposal, textB, List.length_append, List.length_cons, List.length_nil, Array.length_toList]
    omega
  · simp
end Go.Proofs.YtjdegphpalhapaaDoor
namespace Go.Proofs.YtjdegphpalhapaaDoor
set_option linter.unusedSimpArgs false
set_option linter.unusedVariables false
open Go.RowKit
set_option maxRecDepth 100000

def All2 (R : TypeId → Value → Prop) : List TypeId → List Value → Prop
  | [], [] => True
  | t :: ts, v :: vs => R t v ∧ All2 R ts vs
  | _, _ => False
theorem All2.of {R : TypeId → Value → Prop} : ∀ {ts : List TypeId} {vs : List Value}, ts.length = vs.length → (∀ (i : Nat) (v : Value), vs[i]? = some v → ∃ u, ts[i]? = some u ∧ R u v) → All2 R ts vs
  | [], [], _, _ => trivial
  | [], _ :: _, h, _ => by simp at h
  | _ :: _, [], h, _ => by simp at h
  | t :: ts, v :: vs, h, hr => by
    refine ⟨?_, All2.of (ts := ts) (vs := vs) (by simpa using h) fun i u hu => by simpa using hr (i + 1) u (by simpa using hu)⟩
    obtain ⟨u, hu, h2⟩ := hr 0 v rfl
    simp at hu
    subst hu
    exact h2
theorem All2.cons {R : TypeId → Value → Prop} {t : TypeId} {ts : List TypeId} {vs : List Value} (h : All2 R (t :: ts) vs) : ∃ v vs', vs = v :: vs' ∧ R t v ∧ All2 R ts vs' := by
  cases vs with
  | nil => exact h.elim
  | cons v vs => exact ⟨v, vs, rfl, h.1, h.2⟩
theorem All2.nil {R : TypeId → Value → Prop} {vs : List Value} (h : All2 R [] vs) : vs = [] := by
  cases vs with
  | nil => rfl
  | cons v vs => exact h.elim

section
variable {w : World} {base : Nat}
def OkC (w : World) (base : Nat) (t : TypeId) (v : Value) : Prop := Cell.okWide Tryd.prog w .any base t v
theorem okc_int {t : TypeId} {k : IntKind} {v : Value} (hu : Tryd.prog.underlying t = some (.int k)) (h : OkC w base t v) : ∃ n : Int, v = .int k n ∧ k.has n := by
  unfold OkC Cell.okWide at h
  rw [hu] at h
  cases v <;> simp only [Cell.ok, hu] at h
  case int k' n => obtain ⟨rfl, h⟩ := h; exact ⟨n, rfl, h⟩
theorem okc_string {t : TypeId} {v : Value} (hu : Tryd.prog.underlying t = some .string) (h : OkC w base t v) : ∃ s : ByteArray, v = .string s ∧ s.size ≤ 9223372036854775807 := by
  unfold OkC Cell.okWide at h
  rw [hu] at h
  cases v <;> simp only [Cell.ok, hu] at h
  case string s => exact ⟨s, rfl, by have e : IntKind.i64.max = 9223372036854775807 := by decide
                                     rw [e] at h; omega⟩
theorem okc_i64 {t : TypeId} {v : Value} (hu : Tryd.prog.underlying t = some (.int .i64)) (h : OkC w base t v) : ∃ n : Int, v = .int .i64 n ∧ I64 n := by
  obtain ⟨n, rfl, hn⟩ := okc_int hu h
  refine ⟨n, rfl, ?_⟩
  simp [IntKind.has, IntKind.min, IntKind.max, IntKind.bits, IntKind.signed] at hn
  unfold I64
  omega
theorem okc_u64 {t : TypeId} {v : Value} (hu : Tryd.prog.underlying t = some (.int .u64)) (h : OkC w base t v) : ∃ n : Int, v = .int .u64 n ∧ U64 n := by
  obtain ⟨n, rfl, hn⟩ := okc_int hu h
  refine ⟨n, rfl, ?_⟩
  simp [IntKind.has, IntKind.min, IntKind.max, IntKind.bits, IntKind.signed] at hn
  unfold U64
  omega
theorem okc_u8 {t : TypeId} {v : Value} (hu : Tryd.prog.underlying t = some (.int .u8)) (h : OkC w base t v) : ∃ b : UInt8, v = .int .u8 (b.toNat : Int) := by
  obtain ⟨n, rfl, hn⟩ := okc_int hu h
  refine ⟨UInt8.ofNat n.toNat, ?_⟩
  simp [IntKind.has, IntKind.min, IntKind.max, IntKind.bits, IntKind.signed] at hn
  rw [byte_of]
  congr 1
  omega
theorem okc_bytes {t : TypeId} (hu : Tryd.prog.underlying t = some (.int .u8)) : ∀ {n : Nat} {ts : List TypeId} {vs : List Value}, All2 (OkC w base) (List.replicate n t ++ ts) vs → ∃ l vs', l.length = n ∧ vs = bv l ++ vs' ∧ All2 (OkC w base) ts vs'
  | 0, ts, vs, h => ⟨[], vs, rfl, rfl, h⟩
  | n + 1, ts, vs, h => by
    obtain ⟨v, vs1, rfl, h1, h2⟩ := All2.cons (t := t) (ts := List.replicate n t ++ ts) (by simpa [List.replicate_succ] using h)
    obtain ⟨b, rfl⟩ := okc_u8 hu h1
    obtain ⟨l, vs2, hl, rfl, h3⟩ := okc_bytes hu h2
    exact ⟨b :: l, vs2, by simp [hl], by simp [bv], h3⟩
end
def txTs : List TypeId := [3, 23, 23, 22, 22, 22]
def sealTs : List TypeId := List.replicate 16 5
def hashTs : List TypeId := List.replicate 32 5
theorem open_tx {w : World} {base : Nat} {ts : List TypeId} {vs : List Value} (h : All2 (OkC w base) (txTs ++ (sealTs ++ ts)) vs) : ∃ (x : Tx) (vs' : List Value), x.ok ∧ vs = x.cl ++ vs' ∧ All2 (OkC w base) ts vs' := by
  obtain ⟨v0, r0, rfl, h0, t1⟩ := All2.cons h
  obtain ⟨v1, r1, rfl, h1, t2⟩ := All2.cons t1
  obtain ⟨v2, r2, rfl, h2, t3⟩ := All2.cons t2
  obtain ⟨v3, r3, rfl, h3, t4⟩ := All2.cons t3
  obtain ⟨v4, r4, rfl, h4, t5⟩ := All2.cons t4
  obtain ⟨v5, r5, rfl, h5, t6⟩ := All2.cons t5
  obtain ⟨l, r6, hl, rfl, t7⟩ := okc_bytes Tryd.underlying5 t6
  obtain ⟨n0, rfl, k0⟩ := okc_i64 Tryd.underlying3 h0
  obtain ⟨n1, rfl, k1⟩ := okc_u64 Tryd.underlying23 h1
  obtain ⟨n2, rfl, k2⟩ := okc_u64 Tryd.underlying23 h2
  obtain ⟨n3, rfl, k3⟩ := okc_u64 Tryd.underlying22 h3
  obtain ⟨n4, rfl, k4⟩ := okc_u64 Tryd.underlying22 h4
  obtain ⟨n5, rfl, k5⟩ := okc_u64 Tryd.underlying22 h5
  exact ⟨⟨n0, n1, n2, n3, n4, n5, l⟩, r6, ⟨k0, k1, k2, k3, k4, k5, hl⟩, by simp [Tx.cl], t7⟩
theorem open_vote {w : World} {base : Nat} {ts : List TypeId} {vs : List Value} (h : All2 (OkC w base) ([3, 22, 3] ++ (hashTs ++ ([22, 23] ++ (sealTs ++ ts)))) vs) : ∃ (x : Vote) (vs' : List Value), x.ok ∧ vs = x.cl ++ vs' ∧ All2 (OkC w base) ts vs' := by
  obtain ⟨v0, r0, rfl, h0, t1⟩ := All2.cons h
  obtain ⟨v1, r1, rfl, h1, t2⟩ := All2.cons t1
  obtain ⟨v2, r2, rfl, h2, t3⟩ := All2.cons t2
  obtain ⟨l, r3, hl, rfl, t4⟩ := okc_bytes Tryd.underlying5 t3
  obtain ⟨v4, r4, rfl, h4, t5⟩ := All2.cons t4
  obtain ⟨v5, r5, rfl, h5, t6⟩ := All2.cons t5
  obtain ⟨l2, r6, hl2, rfl, t7⟩ := okc_bytes Tryd.underlying5 t6
  obtain ⟨n0, rfl, k0⟩ := okc_i64 Tryd.underlying3 h0
  obtain ⟨n1, rfl, k1⟩ := okc_u64 Tryd.underlying22 h1
  obtain ⟨n2, rfl, k2⟩ := okc_i64 Tryd.underlying3 h2
  obtain ⟨n4, rfl, k4⟩ := okc_u64 Tryd.underlying22 h4
  obtain ⟨n5, rfl, k5⟩ := okc_u64 Tryd.underlying23 h5
  exact ⟨⟨n0, n1, n2, l, n4, n5, l2⟩, r6, ⟨k0, k1, k2, hl, k4, k5, hl2⟩, by simp [Vote.cl], t7⟩
theorem open_prop {w : World} {base : Nat} {ts : List TypeId} {vs : List Value} (h : All2 (OkC w base) ([22, 3, 3] ++ (hashTs ++ ([23] ++ (sealTs ++ ts)))) vs) : ∃ (x : Proposal) (vs' : List Value), x.ok ∧ vs = x.cl ++ vs' ∧ All2 (OkC w base) ts vs' := by
  obtain ⟨v0, r0, rfl, h0, t1⟩ := All2.cons h
  obtain ⟨v1, r1, rfl, h1, t2⟩ := All2.cons t1
  obtain ⟨v2, r2, rfl, h2, t3⟩ := All2.cons t2
  obtain ⟨l, r3, hl, rfl, t4⟩ := okc_bytes Tryd.underlying5 t3
  obtain ⟨v4, r4, rfl, h4, t5⟩ := All2.cons t4
  obtain ⟨l2, r6, hl2, rfl, t6⟩ := okc_bytes Tryd.underlying5 t5
  obtain ⟨n0, rfl, k0⟩ := okc_u64 Tryd.underlying22 h0
  obtain ⟨n1, rfl, k1⟩ := okc_i64 Tryd.underlying3 h1
  obtain ⟨n2, rfl, k2⟩ := okc_i64 Tryd.underlying3 h2
  obtain ⟨n4, rfl, k4⟩ := okc_u64 Tryd.underlying23 h4
  exact ⟨⟨n0, n1, n2, l, n4, l2⟩, r6, ⟨k0, k1, k2, hl, k4, hl2⟩, by simp [Proposal.cl], t6⟩
def nameTs : List TypeId := [9] ++ (txTs ++ (sealTs ++ ([3, 22, 3] ++ (hashTs ++ ([22, 23] ++ (sealTs ++ ([22, 3, 3] ++ (hashTs ++ ([23] ++ (sealTs ++ []))))))))))
end Go.Proofs.YtjdegphpalhapaaDoor
namespace Go.Proofs.YtjdegphpalhapaaDoor
set_option linter.unusedSimpArgs false
set_option linter.unusedVariables false
open Go.ChangeShapes Go.WideShapes Go.ChangeAt Go.RowKit
set_option maxRecDepth 100000

theorem cells_u8 : Tryd.prog.cellsOf 5 = 1 := by kernel_rfl
theorem bytes_u8 : Tryd.prog.bytesOf 5 = 1 := by kernel_rfl
section
variable {H : Type} {enc : TypeId × Value → H}
theorem open_bytes {W : World} {base : Nat} {v1 : Value} {d1 : DataW H} {p1 : List MemPlace} (hval : Value.okWide Tryd.prog W .any base 57 v1) (h1 : DataW.Trod enc Tryd.prog W 0 (fun _ => true) true 57 v1 d1 p1) :
    ∃ A n c l, v1 = .slice A n c ∧ Rd W A (bv l) ∧ n = l.length ∧ ((n = 0) ∨ ∃ es ss, d1 = .slice es ss ∧ es.length = n) := by
  obtain ⟨a1, len, cap, rfl⟩ := okWide_slice Tryd.underlying57 hval
  obtain ⟨fuel, hf⟩ := h1
  rcases open_ints Tryd.underlying57 Tryd.underlying5 cells_u8 hf with ⟨hcs, hx⟩ | ⟨a, len', cap', zs, hcs, _, hl, hm, hz, hx, hcell, hwz⟩
  · simp [Value.cells] at hcs
    obtain ⟨rfl, rfl, rfl⟩ := hcs
    exact ⟨none, 0, 0, [], rfl, Rd.nil _ _, rfl, .inl rfl⟩
  · simp [Value.cells] at hcs
    obtain ⟨rfl, rfl, rfl⟩ := hcs
    simp only [Prod.mk.injEq] at hx
    obtain ⟨rfl, rfl⟩ := hx
    simp only [if_true] at hz
    have hlen : ((zs.take len).map fun n => UInt8.ofNat n.toNat).length = len := by simp; omega
    refine ⟨some a, len, cap, (zs.take len).map fun n => UInt8.ofNat n.toNat, rfl, ?_, hlen.symm, .inr ⟨_, _, rfl, by simp [lits]; omega⟩⟩
    intro j u hu
    have hj : j < len := by
      have := (List.getElem?_eq_some_iff.1 hu).1
      rw [bv_length, hlen] at this
      exact this
    refine ⟨a, rfl, ?_⟩
    have hcj := hcell j (by omega)
    rw [hcj]
    have hb := range_u8 hwz j
    have e : zs.getD j 0 = zs[j]'(by omega) := by simp [List.getD, List.getElem?_eq_getElem (show j < zs.length by omega)]
    have e' : zs[j]?.getD 0 = zs[j]'(by omega) := by simp [List.getElem?_eq_getElem (show j < zs.length by omega)]
    rw [e'] at hb
    rw [bv_get] at hu
    simp only [List.getElem?_map, List.getElem?_take, hj, if_true, List.getElem?_eq_getElem (show j < zs.length by omega), Option.map_some, Option.some.injEq] at hu
    rw [← hu, e, byte_of]
    congr 2
    omega
end
end Go.Proofs.YtjdegphpalhapaaDoor

/-
  The digest of parts, one behind the other (joined); the digest of bytes (Sum of package digest). Conditions: the parts lie in memory; they are not too long; the two tables read as they were laid.
-/
import Derived.Test.YtjdegphpalhapaaDoorJ11
namespace Go.Proofs.YtjdegphpalhapaaDoor
set_option linter.unusedSimpArgs false
set_option linter.unusedVariables false
open Go.RowKit
set_option maxRecDepth 100000

/-- a slice of bytes that lies in memory -/
structure Piece where
  A : Option Addr
  c : Nat
  b : List UInt8
def Piece.val (p : Piece) : Value := .slice p.A p.b.length p.c
structure Piece.ok (w : World) (p : Piece) : Prop where
  rd : Rd w p.A (bv p.b)
  le : p.b.length ≤ p.c
  lt : ∀ ad, p.A = some ad → ad.block < w.heap.size
theorem Piece.ok.below {w w' : World} {p : Piece} (h : p.ok w) (hb : Below w.heap.size w w') : p.ok w' := ⟨h.rd.below hb, h.le, fun ad ha => Nat.lt_of_lt_of_le (h.lt ad ha) hb.size⟩
def allOf (ps : List Piece) : List UInt8 := ps.flatMap Piece.b
/-- the tables of the digest -/
structure Tabs (w : World) : Prop where
  ad : Adds w 3
  bg : Begins w 1
  l1 : 3 < w.heap.size
  l2 : 1 < w.heap.size
theorem Tabs.below {w w' : World} (h : Tabs w) (hb : Below w.heap.size w w') : Tabs w' :=
  ⟨h.ad.below hb h.l1, h.bg.below hb h.l2, Nat.lt_of_lt_of_le h.l1 hb.size, Nat.lt_of_lt_of_le h.l2 hb.size⟩
theorem rd_below {w w' : World} {A : Option Addr} {xs : List Value} {B : Nat} (h : Rd w A xs) (hb : Below B w w') (hB : B = w.heap.size) : Rd w' A xs := by subst hB; exact h.below hb

set_option maxHeartbeats 2000000 in
theorem joined_any (w : World) (A : Option Addr) (n c : Nat) (ps : List Piece) (hn : ps.length = n) (hr : Rd w A (ps.map Piece.val)) (hp : ∀ p ∈ ps, p.ok w) (hl : (allOf ps).length + 200 ≤ room46) (ht : Tabs w) (hm : n ≤ 1000) :
    Calls Tryd.prog 80 #[.slice A n c] w fun e w' => e = .returned (.agg (bv (sha (allOf ps))).toArray) ∧ Below w.heap.size w w' := by
  have HN := Lib.hid hn
  have HR := Lib.hid hr
  have HP := Lib.hid hp
  have HL := Lib.hid hl
  have HT := Lib.hid ht
  have hG := ht.l1
  clear hn hr hp hl ht
  go_enter Tryd.func80, Tryd.ntmps80
  go_wp2_with (with_reducible show wpList _ _ _ (Oper.mk _ (Op.alloc _) _ _ _ _ :: _) _ _; refine wpList_alloc_i rfl 29 rfl (.agg (bv (zer 32)).toArray) zero_hash ?_)
  intro r w1 h1 hl1 hg1 hs1
  have HT1 := Lib.hid (HT.out.below hl1)
  have HL1 := Lib.hid hl1
  have H1 := Lib.hid h1
  clear h1 hl1
  go_wp2_with fail
  refine (New_any w1 HT1.out.bg).mono ?_
  rintro en w2 ⟨g, rfl, hh, hl2, hg2⟩
  have HS := Lib.hid (show Sx w w2 r g [] from ⟨H1.out.below hl2 H1.out.lt, hh, HT1.out.ad.below hl2 HT1.out.l1, HL1.out.trans (hl2.mono HL1.out.size), by
    obtain ⟨part, _, _, hk⟩ := hh
    have := hk.lt
    omega⟩)
  clear hh hl2 hg2 HT1 H1 HL1 hg1 hs1
  go_wp2
  go_loopw [9] (fun i wr => ∃ k : Nat, k ≤ n ∧ i = .int .i64 k ∧ Sx w wr r g (allOf (ps.take k))) (fun i _ => n - (intOf i).toNat)
  case atStart => exact ⟨0, by omega, rfl, by simpa [allOf] using HS.out⟩
  case round =>
    clear HS
    obtain ⟨k, hk, rfl, S⟩ := hrel
    have HS := Lib.hid S
    clear S
    by_cases hlt : k < n
    · have hkl : k < ps.length := by rw [HN.out]; exact hlt
      obtain ⟨p, hpk⟩ : ∃ p, ps[k]? = some p := ⟨_, List.getElem?_eq_getElem hkl⟩
      have hpe : ps.take (k + 1) = ps.take k ++ [p] := by
        rw [List.take_succ_eq_append_getElem hkl]
        congr 2
        have := List.getElem?_eq_getElem hkl
        rw [hpk] at this
        exact (Option.some.inj this).symm
      have hle : (allOf (ps.take k)).length + p.b.length + 200 ≤ room46 := by
        have h0 := HL.out
        have e : allOf ps = allOf (ps.take k) ++ (p.b ++ allOf (ps.drop (k + 1))) := by
          have : ps = ps.take k ++ (p :: ps.drop (k + 1)) := by
            conv => lhs; rw [← List.take_append_drop (k + 1) ps, hpe, List.append_assoc]
            rfl
          conv => lhs; rw [this]
          simp [allOf]
        rw [e] at h0
        simp only [List.length_append] at h0
        omega
      have hpm : p ∈ ps := List.mem_of_getElem? hpk
      have HPO := Lib.hid (HP.out p hpm)
      obtain ⟨ad, hA, hcell⟩ := HR.out.below HS.out.be k p.val (by rw [List.getElem?_map, hpk]; rfl)
      subst hA
      obtain ⟨Ap, cp, b⟩ := p
      obtain ⟨m, hm2⟩ : ∃ m, b.length = m := ⟨_, rfl⟩
      simp only [Piece.val, hm2] at hcell
      have HM := Lib.hid hm2
      have HPE := Lib.hid hpe
      have HLE := Lib.hid hle
      have lk : (k : Int) < n := by omega
      clear hkl hpk hpe hle hpm hm2
      go_wp2_with fail
      refine (write_any _ g (allOf (ps.take k)) b Ap m cp HM.out (by rw [← HM.out]; exact HPO.out.le) (HPO.out.rd.below HS.out.be) (fun ad h => by have := HPO.out.lt ad h; have := HS.out.lt; omega) HS.out.hs (by have h9 : (allOf (ps.take k)).length + b.length + 200 ≤ room46 := HLE.out; rw [← HM.out]; omega) HS.out.ad (Nat.lt_of_lt_of_le hG HS.out.be.size) (by have := HS.out.lt; omega)).mono ?_
      rintro en w5 ⟨rfl, hh5, hg5⟩
      have HS5 := Lib.hid (show Sx w w5 r g (allOf (ps.take (k + 1))) from by
        have e : allOf (ps.take (k + 1)) = allOf (ps.take k) ++ b := by rw [HPE.out]; simp [allOf]
        rw [e]
        exact HS.out.write hg5 hh5 hG)
      clear hh5 hg5 hcell HS
      go_wp2
      go_roundw
      case rel => first | exact ⟨k + 1, by omega, by go_num, HS5.out⟩ | ((repeat apply Exists.intro); exact ⟨⟨k + 1, by omega, by go_num, HS5.out⟩, rfl⟩)
      case measure => simp [intOf]; omega
    · have hkn : n = k := by omega
      subst hkn
      have e : ps.take n = ps := List.take_of_length_le (by rw [HN.out]; exact Nat.le_refl _)
      rw [e] at HS
      clear hlt hk e
      go_wp2_with fail
      refine (Sum_any _ g (allOf ps) HS.out.hs HL.out HS.out.ad (Nat.lt_of_lt_of_le hG HS.out.be.size)).mono ?_
      rintro en w6 ⟨rfl, hl6⟩
      have HS6 := Lib.hid (HS.out.below hl6 hG)
      have HZ := Lib.hid (show (bv (sha (allOf ps))).toArray.size = 32 by rw [List.size_toArray, bv_length, sha_len])
      clear hl6 HS
      go_wp2_with (with_reducible show wpList _ _ _ (Oper.mk _ (Op.store 29 _ _) _ _ _ _ :: _) _ _; go_must (refine wpList_store_bk rfl 29 _ _ rfl r rfl (.agg (bv (sha (allOf ps))).toArray) rfl _ _ HS6.out.res (by rw [agg_sz HZ.out]; exact info_h32) (by rw [agg_sz HZ.out]; simp [bv, zer]) (by simpa [Value.cells] using bv_one (sha (allOf ps))) ?_))
      intro w11 h11 hg11 hs11
      have HB11 := Lib.hid (below_grown2 HS6.out.be hg11 HS6.out.lt.1 HS6.out.be.size)
      have H11 := Lib.hid h11
      clear h11 hg11 hs11
      go_wp2
      exact bodyPost_cell rfl rfl H11.out Tryd.underlying29 rfl info_h32 HZ.out.symm rfl ⟨rfl, HB11.out⟩

set_option maxHeartbeats 1000000 in
theorem dSum_any (w : World) (p : Piece) (hp : p.ok w) (hl : p.b.length + 200 ≤ room46) (ht : Tabs w) :
    Calls Tryd.prog 45 #[p.val] w fun e w' => e = .returned (.agg (bv (sha p.b)).toArray) ∧ Below w.heap.size w w' := by
  obtain ⟨Ap, cp, b⟩ := p
  have HP := Lib.hid hp
  have HL := Lib.hid hl
  have HT := Lib.hid ht
  obtain ⟨m, hm⟩ : ∃ m, b.length = m := ⟨_, rfl⟩
  have HM := Lib.hid hm
  simp only [Piece.val, hm]
  clear hp hl ht hm
  go_enter Tryd.func45, Tryd.ntmps45
  go_wp2_with (with_reducible show wpList _ _ _ (Oper.mk _ (Op.alloc _) _ _ _ _ :: _) _ _; refine wpList_alloc_i rfl 29 rfl (.agg (bv (zer 32)).toArray) zero_hash ?_)
  intro r w1 h1 hl1 hg1 hs1
  have H1 := Lib.hid h1
  have HL1 := Lib.hid hl1
  clear h1 hl1
  go_wp2_with fail
  have HA2 := Lib.hid ((Below.refl w1.heap.size w1).alloc (Nat.le_refl _) (Obj.cells #[Value.slice Ap m cp] 57))
  have HT2 := Lib.hid ((HT.out.below HL1.out).below HA2.out)
  have HP2 := Lib.hid ((HP.out.below HL1.out).below HA2.out)
  have HR2 := Lib.hid (show Rd (w1.alloc (Obj.cells #[Value.slice Ap m cp] 57)) (some ⟨w1.heap.size, 0, none⟩) ([(⟨Ap, cp, b⟩ : Piece)].map Piece.val) from Rd.of_bk (Bk.new w1 _ _) 0 _ (fun j u hu => by rw [← HM.out]; simpa [Piece.val] using hu))
  have HE := Lib.hid (show allOf [(⟨Ap, cp, b⟩ : Piece)] = b by simp [allOf])
  refine (joined_any _ _ 1 1 [⟨Ap, cp, b⟩] rfl HR2.out (by intro p hp; rw [List.mem_singleton.1 hp]; exact HP2.out) (by rw [HE.out]; exact HL.out) HT2.out (by omega)).mono ?_
  rw [HE.out]
  rintro en w6 ⟨rfl, hl6⟩
  have H6 := Lib.hid ((H1.out.below HA2.out H1.out.lt).below hl6 (by have := H1.out.lt; simp; omega))
  have HL6 := Lib.hid (HL1.out.trans ((HA2.out.trans (hl6.mono (by simp))).mono HL1.out.size))
  have HZ := Lib.hid (show (bv (sha b)).toArray.size = 32 by rw [List.size_toArray, bv_length, sha_len])
  clear hl6 HT2 HP2 HR2 HA2
  go_wp2_with (with_reducible show wpList _ _ _ (Oper.mk _ (Op.store 29 _ _) _ _ _ _ :: _) _ _; go_must (refine wpList_store_bk rfl 29 _ _ rfl r rfl (.agg (bv (sha b)).toArray) rfl _ _ H6.out (by rw [agg_sz HZ.out]; exact info_h32) (by rw [agg_sz HZ.out]; simp [bv, zer]) (by simpa [Value.cells] using bv_one (sha b)) ?_))
  intro w11 h11 hg11 hs11
  have HB11 := Lib.hid (below_grown2 HL6.out hg11 hg1 HL6.out.size)
  have H11 := Lib.hid h11
  clear h11 hg11 hs11
  go_wp2
  exact bodyPost_cell rfl rfl H11.out Tryd.underlying29 rfl info_h32 HZ.out.symm rfl ⟨rfl, HB11.out⟩
end Go.Proofs.YtjdegphpalhapaaDoor

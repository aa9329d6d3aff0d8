/-
  The reference's reader: Byte, Bytes, Text, Raw, End, New; small. Condition: it was made by New (Rr); New's bytes are within reach.
-/
import Derived.Test.YtocgcalaiejbiaaRr2
namespace Go.Proofs.Ytocgcalaiejbiaa
set_option linter.unusedSimpArgs false
set_option linter.unusedVariables false
open Go.RowKit
set_option maxRecDepth 100000

set_option maxHeartbeats 1000000 in
theorem rrByte_any (w : World) (g : Nat) (A : Option Addr) (c : Nat) (l : List UInt8) (p : Nat) (e : Int) (h : Rr w g A c l p e) :
    Calls Try.prog 88 #[.pointer (some ⟨g, 0, none⟩)] w (RrRes g A c l (readByte l p e) (Value.int .u8) w) := by
  have hle := h.le
  have hK : (after [] p e (coreRaw l 1 p)).err ≠ 0 ∧ readByte l p e = ⟨0, (after [] p e (coreRaw l 1 p)).at', (after [] p e (coreRaw l 1 p)).err⟩ ∨ (after [] p e (coreRaw l 1 p)).err = 0 ∧ ∃ b, (after [] p e (coreRaw l 1 p)).val = [b] ∧ readByte l p e = ⟨(b.toNat : Int), (after [] p e (coreRaw l 1 p)).at', 0⟩ := by
    unfold readByte
    by_cases he : e = 0
    · subst he
      rw [after_zero, after_zero]
      unfold coreRaw coreByte
      by_cases hlt : l.length - p < 1
      · left
        rw [if_pos hlt, List.getElem?_eq_none (by omega)]
        exact ⟨by show (10 : Int) ≠ 0; decide, rfl⟩
      · right
        have hp : p < l.length := by omega
        rw [if_neg hlt, List.getElem?_eq_getElem hp]
        exact ⟨rfl, l[p], by rw [List.drop_eq_getElem_cons hp]; rfl, rfl⟩
    · left
      rw [after_ne _ _ _ he, after_ne _ _ _ he]
      exact ⟨he, rfl⟩
  have key := rtake_any w g A c l p e 1 (by omega) h
  generalize after [] p e (coreRaw l 1 p) = K at *
  generalize readByte l p e = K2 at *
  have HKEY := Lib.hid key
  clear key h
  rcases hK with ⟨he, hk⟩ | ⟨he, b, hv, hk⟩
  · have HK := Lib.hid hk
    have HD := Lib.hid (show decide (K.err = 0) = false from by simp [he])
    clear hk he
    go_enter Try.func88, Try.ntmps88
    go_wp2_with fail
    refine HKEY.out.mono ?_
    rintro en w1 ⟨A1, m, c1, hm, rfl, hs, ch, re⟩
    rw [HD.out]
    have HC := Lib.hid ch
    have HR := Lib.hid re
    clear ch re hs hm
    go_wp2
    go_ret
    rw [HK.out]
    exact ⟨rfl, HC.out, HR.out⟩
  · have HK := Lib.hid hk
    have HE := Lib.hid he
    have HD := Lib.hid (show decide (K.err = 0) = true from by simp [he])
    have HV := Lib.hid hv
    clear hk he hv
    go_enter Try.func88, Try.ntmps88
    go_wp2_with fail
    refine HKEY.out.mono ?_
    rintro en w1 ⟨A1, m, c1, hm, rfl, hs, ch, re⟩
    rw [HD.out]
    have hm1 : m = 1 := by rw [hm, HV.out]; rfl
    subst hm1
    have hrd := hs.rd
    rw [HV.out] at hrd
    obtain ⟨ad, rfl, hcell⟩ := hrd 0 (.int .u8 b.toNat) rfl
    have hcell2 : w1.cell? ad = some (.int .u8 b.toNat) := by simpa [Addr.add] using hcell
    have HC := Lib.hid ch
    have HR := Lib.hid re
    clear ch re hs hm hrd
    obtain ⟨z, hz⟩ : ∃ z : Int, (b.toNat : Int) = z := ⟨_, rfl⟩
    rw [hz] at hcell hcell2
    have HZ := Lib.hid hz
    clear hz
    go_wp2
    go_ret
    rw [HK.out]
    refine ⟨by rw [HZ.out]; rfl, HC.out, ?_⟩
    have := HR.out
    rwa [HE.out] at this

/-- what the reference's Bytes answers -/
def RbRes (g : Nat) (A : Option Addr) (c : Nat) (l : List UInt8) (k : Got (List UInt8)) (w : World) (en : Ending) (w' : World) : Prop :=
  ∃ A' m c', m = k.val.length ∧ en = .returned (.slice A' m c') ∧ Bs w' w.heap.size (.slice A' m c') k.val ∧ Ch [g] w w' ∧ Rr w' g A c l k.at' k.err

set_option maxHeartbeats 1000000 in
theorem rrRaw_any (w : World) (g : Nat) (A : Option Addr) (c : Nat) (l : List UInt8) (p : Nat) (e : Int) (n : Nat) (hn : n ≤ 1000000) (h : Rr w g A c l p e) :
    Calls Try.prog 113 #[.pointer (some ⟨g, 0, none⟩), .int .i64 n] w (RbRes g A c l (readRaw n l p e) w) := by
  have key : Calls Try.prog 111 #[.pointer (some ⟨g, 0, none⟩), .int .i64 n] w (RtRes g A c l (readRaw n l p e) w) := rtake_any w g A c l p e n (by omega) h
  have c2 : w.cell? ⟨g, 2, none⟩ = some (.int .i64 e) := h.bk.cell 2
  generalize readRaw n l p e = K at *
  have HKEY := Lib.hid key
  clear key h
  have hn0 : ¬ (n : Int) < 0 := by omega
  obtain ⟨q, hq⟩ : ∃ q, (e == 0) = q := ⟨_, rfl⟩
  cases q
  all_goals
    go_enter Try.func113, Try.ntmps113
    go_wp2_with fail
    refine HKEY.out.mono ?_
    rintro en w1 ⟨A1, m, c1, hm, rfl, hs, ch, re⟩
    have HM := Lib.hid hm
    have HC := Lib.hid ch
    have HR := Lib.hid re
    have HS := Lib.hid hs
    clear ch re hs hm c2
    go_wp2
    go_ret
    exact ⟨A1, m, c1, HM.out, rfl, HS.out, HC.out, HR.out⟩

set_option maxHeartbeats 1000000 in
theorem rrEnd_any (w : World) (g : Nat) (A : Option Addr) (c : Nat) (l : List UInt8) (p : Nat) (e : Int) (h : Rr w g A c l p e) :
    Calls Try.prog 51 #[.pointer (some ⟨g, 0, none⟩)] w fun en w' => en = .returned (.int .i64 (endErr l p e)) ∧ Ch [g] w w' ∧ Rr w' g A c l p e := by
  have H := Lib.hid h
  have c0 : w.cell? ⟨g, 0, none⟩ = some (.slice A l.length c) := h.bk.cell 0
  have c1 : w.cell? ⟨g, 1, none⟩ = some (.int .i64 p) := h.bk.cell 1
  have c2 : w.cell? ⟨g, 2, none⟩ = some (.int .i64 e) := h.bk.cell 2
  have hreach := h.reach
  unfold reach47 at hreach
  clear h
  by_cases he : e = 0
  · subst he
    by_cases hp : p < l.length
    · have HK := Lib.hid (show endErr l p 0 = 13 from by unfold endErr; rw [if_pos rfl, if_pos hp])
      have hp' : (p : Int) < l.length := by omega
      go_enter Try.func51, Try.ntmps51
      go_wp2
      go_quiet (fail)
      go_wp2
      go_ret
      rw [HK.out]
      exact ⟨rfl, (Ch.refl _ _).drewN _, H.out.drewN _⟩
    · have HK := Lib.hid (show endErr l p 0 = 0 from by unfold endErr; rw [if_pos rfl, if_neg hp])
      have hp' : ¬ (p : Int) < l.length := by omega
      go_enter Try.func51, Try.ntmps51
      go_wp2
      go_quiet (fail)
      go_wp2
      go_ret
      rw [HK.out]
      exact ⟨rfl, (Ch.refl _ _).drewN _, H.out.drewN _⟩
  · have HK := Lib.hid (show endErr l p e = e from by unfold endErr; rw [if_neg he])
    have h1 : (e != 0) = true := by simp [he]
    have h2 : (e == 0) = false := by simp [he]
    clear he
    go_enter Try.func51, Try.ntmps51
    go_wp2
    go_quiet (fail)
    go_wp2
    go_ret
    rw [HK.out]
    exact ⟨rfl, (Ch.refl _ _).drewN _, H.out.drewN _⟩

set_option maxHeartbeats 1000000 in
theorem rSmall_any (w : World) (n : Nat) :
    Calls Try.prog 91 #[.int .u64 n] w fun en w' => en = .returned (.int .i64 (small n)) ∧ w = w' := by
  by_cases hn : n ≤ 2147483647
  · have hk : small n = n := by unfold small; omega
    have HK := Lib.hid hk
    have W : IntKind.i64.wrap (n : Int) = n := by rw [IntKind.wrap_i64]; omega
    have h1 : (n : Int) ≤ 2147483647 := by omega
    clear hk
    go_enter Try.func91, Try.ntmps91
    go_wp2
    go_ret
    rw [HK.out]
    exact ⟨rfl, rfl⟩
  · have hk : small n = 2147483647 := by unfold small; omega
    have HK := Lib.hid hk
    have h1 : ¬ (n : Int) ≤ 2147483647 := by omega
    have h2 : (2147483647 : Int) < n := by omega
    clear hk
    go_enter Try.func91, Try.ntmps91
    go_wp2
    go_ret
    rw [HK.out]
    exact ⟨rfl, rfl⟩

theorem rr_new {w1 : World} {B c' : Nat} {A' : Option Addr} {l : List UInt8} (hs : Bs w1 B (.slice A' l.length c') l) (hl : l.length ≤ reach47) :
    Rr (w1.alloc (.cells #[.slice A' l.length c', .int .i64 0, .int .i64 0] 126)) w1.heap.size A' c' l 0 0 ∧ (∀ a, A' = some a → B ≤ a.block) := by
  have hlt : ∀ a, A' = some a → B ≤ a.block ∧ a.block < w1.heap.size := fun a ha => World.ownsRow.lt hs a.block (by rw [ha]; rfl)
  have hcap : l.length ≤ c' ∧ c' ≤ 9223372036854775807 := by
    rcases hs.2 with ⟨h1, h2⟩ | ⟨g, cap, cur, hv, _, _, h3, h4, _⟩
    · injection h1 with _ _ h3
      subst h3
      exact ⟨by omega, by omega⟩
    · injection hv with _ _ h5
      subst h5
      unfold maxLen at h4
      exact ⟨h3, h4⟩
  exact ⟨⟨Bk.new _ _ _, hs.rd.alloc _, fun a ha => by have := hlt a ha; omega, fun a ha => by have := hlt a ha; simp; omega, Nat.zero_le _, hcap.1, hcap.2, hl⟩, fun a ha => (hlt a ha).1⟩

set_option maxHeartbeats 1000000 in
theorem rrNew_any (w : World) (A : Option Addr) (n c : Nat) (l : List UInt8) (hr : Rd w A (bv l)) (hn : n = l.length) (hl : l.length ≤ reach47) :
    Calls Try.prog 87 #[.slice A n c] w fun en w' => ∃ g A' c', en = .returned (.pointer (some ⟨g, 0, none⟩)) ∧ Rr w' g A' c' l 0 0 ∧ w.heap.size ≤ g ∧ (∀ a, A' = some a → w.heap.size ≤ a.block) ∧ Below w.heap.size w w' := by
  have HR := Lib.hid (hr.alloc (.cells #[] 5))
  have HN := Lib.hid hn
  have HL := Lib.hid hl
  have HM := Lib.hid (Bs.made w w.heap.size #[] [] rfl (Nat.le_refl _) (by unfold reach47; simp))
  have HB := Lib.hid ((Below.refl w.heap.size w).alloc (Nat.le_refl _) (.cells #[] 5))
  clear hr hn hl
  go_enter Try.func87, Try.ntmps87
  go_wp2_with (at_builtin; go_must (refine wpList_app rfl _ _ rfl w.heap.size (.slice (some ⟨w.heap.size, 0, none⟩) 0 0) [] rfl HM.out A n c l rfl HN.out.symm HR.out (by have := HL.out; unfold reach47 at *; simp; omega) (by simp) ?_); intro A4 c4 w7 hown7 hg7 hat7; have H7 := Lib.hid (below_app HB.out HM.out hg7 (by simp)); have O7 : Hid (Bs w7 w.heap.size (.slice A4 l.length c4) l) := Lib.hid (by have h := hown7; rw [HN.out] at h; simpa using h); clear hown7 hg7 hat7)
  go_ret
  obtain ⟨h1, h2⟩ := rr_new O7.out HL.out
  have := H7.out.size
  refine ⟨w7.heap.size, A4, c4, rfl, ?_, this, h2, H7.out.alloc this _⟩
  have e := HN.out
  subst e
  simpa using h1

set_option maxHeartbeats 4000000 in
theorem rrBytes_any (w : World) (g : Nat) (A : Option Addr) (c : Nat) (l : List UInt8) (p : Nat) (e : Int) (most : Nat) (hm : most ≤ 1000000) (h : Rr w g A c l p e) :
    Calls Try.prog 112 #[.pointer (some ⟨g, 0, none⟩), .int .i64 most] w (RbRes g A c l (readText most l p e) w) := by
  have H := Lib.hid h
  have c2 : w.cell? ⟨g, 2, none⟩ = some (.int .i64 e) := h.bk.cell 2
  have c1 : w.cell? ⟨g, 1, none⟩ = some (.int .i64 p) := h.bk.cell 1
  have hle := h.le
  have hreach := h.reach
  unfold reach47 at hreach
  clear h
  by_cases he : e = 0
  · subst he
    have hK0 : readText most l p 0 = coreText most l p := after_zero _ _ _
    have hV0 : readVar l p 0 = coreVar l p := after_zero _ _ _
    have HVR := Lib.hid (rrVar_any w g A c l p 0 H.out)
    have hm0 : ¬ (most : Int) < 0 := by omega
    have W1 : IntKind.u64.wrap (most : Int) = most := by rw [IntKind.wrap_u64]; omega
    cases hq : groups (l.drop p) 0 0 with
    | inl x =>
      have hx : x ≠ 0 := by rcases groups_err hq with h | h <;> omega
      have h1 : (x != 0) = true := by simp [hx]
      have h2 : (x == 0) = false := by simp [hx]
      have HK := Lib.hid (show readText most l p 0 = ⟨[], p, x⟩ from by rw [hK0]; unfold coreText; rw [hq])
      have HV := Lib.hid (show readVar l p 0 = ⟨0, p, x⟩ from by rw [hV0]; unfold coreVar; rw [hq])
      clear hq hx hK0 hV0
      go_enter Try.func112, Try.ntmps112
      go_wp2_with fail
      refine HVR.out.mono ?_
      rintro en w1 ⟨rfl, ch, re⟩
      rw [HV.out] at re ⊢
      have HC := Lib.hid ch
      have HR := Lib.hid re
      have d2 : w1.cell? ⟨g, 2, none⟩ = some (.int .i64 x) := re.bk.cell 2
      clear ch re c1 c2
      go_wp2
      go_ret
      rw [HK.out]
      exact ⟨none, 0, 0, rfl, rfl, World.ownsRow_nil _ _ _ _, HC.out, HR.out⟩
    | inr x =>
      obtain ⟨v, k⟩ := x
      have hkt : readText most l p 0 = if most < v then ⟨[], p, 12⟩ else if l.length - (p + k) < v then ⟨[], p, 10⟩ else ⟨(l.drop (p + k)).take v, p + k + v, 0⟩ := by rw [hK0]; unfold coreText; rw [hq]
      have HKT := Lib.hid hkt
      have HV := Lib.hid (show readVar l p 0 = ⟨v, p + k, 0⟩ from by rw [hV0]; unfold coreVar; rw [hq])
      clear hq hK0 hV0 hkt
      go_enter Try.func112, Try.ntmps112
      go_wp2_with fail
      refine HVR.out.mono ?_
      rintro en w1 ⟨rfl, ch, re⟩
      rw [HV.out] at re ⊢
      simp only at re ⊢
      generalize hpk : p + k = q at *
      clear hpk
      have hle2 := re.le
      have HC := Lib.hid ch
      have HR := Lib.hid re
      have d0 : w1.cell? ⟨g, 0, none⟩ = some (.slice A l.length c) := re.bk.cell 0
      have d1 : w1.cell? ⟨g, 1, none⟩ = some (.int .i64 q) := re.bk.cell 1
      have d2 : w1.cell? ⟨g, 2, none⟩ = some (.int .i64 0) := re.bk.cell 2
      have e1 := re.bk.frozen 1
      have e2 := re.bk.frozen 2
      clear ch re c1 c2 HVR
      by_cases hmv : most < v
      · have HK := Lib.hid (HKT.out.trans (if_pos hmv))
        have hmv' : (most : Int) < v := by omega
        go_wp2
        go_ret
        rw [HK.out]
        refine ⟨none, 0, 0, rfl, rfl, World.ownsRow_nil _ _ _ _, (HC.out.setCell (by simp) _).setCell (by simp) _, ?_⟩
        exact (HR.out.err_ 12).at_ p hle
      · have HKU := Lib.hid (HKT.out.trans (if_neg hmv))
        have hmv' : ¬ (most : Int) < v := by omega
        have W2 : IntKind.i64.wrap ((l.length : Int) - q) = (l.length : Int) - q := by rw [IntKind.wrap_i64]; omega
        have W3 : IntKind.u64.wrap ((l.length : Int) - q) = (l.length : Int) - q := by rw [IntKind.wrap_u64]; omega
        by_cases hlv : l.length - q < v
        · have HK := Lib.hid (HKU.out.trans (if_pos hlv))
          have hlv' : (l.length : Int) - q < v := by omega
          go_wp2
          go_quiet (fail)
          go_wp2
          go_ret
          rw [HK.out]
          refine ⟨none, 0, 0, rfl, rfl, World.ownsRow_nil _ _ _ _, ((HC.out.drewN _).setCell (by simp) _).setCell (by simp) _, ?_⟩
          exact ((HR.out.drewN _).err_ 10).at_ p hle
        · have HK := Lib.hid (HKU.out.trans (if_neg hlv))
          have hlv' : ¬ (l.length : Int) - q < v := by omega
          have W4 : IntKind.i64.wrap (v : Int) = v := by rw [IntKind.wrap_i64]; omega
          go_wp2
          go_quiet (fail)
          go_wp2_with fail
          refine (rtake_any _ g A c l q 0 v (by omega) (HR.out.drewN nq)).mono ?_
          have hkk : after [] q 0 (coreRaw l v q) = ⟨(l.drop q).take v, q + v, 0⟩ := by rw [after_zero]; unfold coreRaw; rw [if_neg hlv]
          rw [hkk]
          rintro en w2 ⟨A2, m, c2', hm2, rfl, hs2, ch2, re2⟩
          have HM2 := Lib.hid hm2
          have HS2 := Lib.hid hs2
          have HC2 := Lib.hid ch2
          have HR2 := Lib.hid re2
          clear hm2 hs2 ch2 re2 hkk d0 d1 d2 e1 e2 W1 W2 W3 W4
          go_wp2
          go_ret
          rw [HK.out]
          have hsz := HC.out.size
          exact ⟨A2, m, c2', HM2.out, rfl, HS2.out.mono hsz, (HC.out.drewN _).same HC2.out, HR2.out⟩
  · have HK := Lib.hid (show readText most l p e = ⟨[], p, e⟩ from after_ne _ _ _ he)
    have h1 : (e != 0) = true := by simp [he]
    have h2 : (e == 0) = false := by simp [he]
    clear he
    go_enter Try.func112, Try.ntmps112
    go_wp2
    go_ret
    rw [HK.out]
    exact ⟨none, 0, 0, rfl, rfl, World.ownsRow_nil _ _ _ _, Ch.refl _ _, H.out⟩

set_option maxHeartbeats 1000000 in
theorem rrText_any (w : World) (g : Nat) (A : Option Addr) (c : Nat) (l : List UInt8) (p : Nat) (e : Int) (h : Rr w g A c l p e) :
    Calls Try.prog 89 #[.pointer (some ⟨g, 0, none⟩), .int .i64 16] w (RrRes g A c l (readText 16 l p e) toStr w) := by
  have HB := Lib.hid (rrBytes_any w g A c l p e 16 (by omega) h)
  clear h
  generalize readText 16 l p e = K at *
  go_enter Try.func89, Try.ntmps89
  go_wp2_with fail
  refine HB.out.mono ?_
  rintro en w1 ⟨A1, m, c1, hm, rfl, hs, ch, re⟩
  have HM := Lib.hid hm
  have HS := Lib.hid hs.rd
  have HC := Lib.hid ch
  have HR := Lib.hid re
  clear hm hs ch re
  go_wp2_with (with_reducible show wpList _ _ _ (Oper.mk _ (Op.convert 36 9 _) _ _ _ _ :: _) _ _; refine wpList_conv_bs rfl 36 9 5 _ rfl A1 m c1 K.val rfl HM.out HS.out Try.underlying36 Try.underlying5 Try.underlying9 ?_)
  go_ret
  exact ⟨rfl, HC.out, HR.out⟩
end Go.Proofs.Ytocgcalaiejbiaa

/-
  Reader.Text, Err, Left, End; NewReader; narrow. Condition: the Reader was made by NewReader (Re); NewReader's bytes are within reach.
-/
import Derived.Test.YtocgcalaiejbiaaRd6
namespace Go.Proofs.Ytocgcalaiejbiaa
set_option linter.unusedSimpArgs false
set_option linter.unusedVariables false
open Go.RowKit
set_option maxRecDepth 100000

section
variable {P : Program}
theorem run_conv_bs {w : World} (src dst e : TypeId) (A : Option Addr) (n c : Nat) (l : List UInt8) (hn : n = l.length) (hr : Rd w A (bv l)) (hs : P.underlying src = some (.slice e)) (he : P.underlying e = some (.int .u8)) (hd : P.underlying dst = some .string) :
    (convert src dst (.slice A n c)).run P w = .ok (.string ⟨l.toArray⟩) w := by
  subst hn
  rcases A with _ | a
  · have hl : l = [] := by
      cases l with
      | nil => rfl
      | cons b l =>
        obtain ⟨ad, ha, _⟩ := hr 0 (.int .u8 b.toNat) rfl
        cases ha
    subst hl
    rw [run_convert_bytes_string w src dst e none _ c hs he hd]
    rfl
  · refine run_convert_bytes_back (P := P) w src dst e a c l hs he hd fun j hj => ?_
    obtain ⟨ad, ha, hc⟩ := hr j (.int .u8 (l[j].toNat : Int)) (by simp [bv, hj])
    cases ha
    exact hc
theorem wpList_conv_bs {ops : Array Oper} {rest : List Oper} {o : Oper} {a : Act} {w : World} {Q : Exit → Act → World → Prop} (hw : Region.wanted o (yielded ops a.tmps) = true) (src dst e : TypeId) (x : Operand) (ho : o.op = .convert src dst x)
    (A : Option Addr) (n c : Nat) (l : List UInt8) (hx : a.eval x = .slice A n c) (hn : n = l.length) (hr : Rd w A (bv l)) (hs : P.underlying src = some (.slice e)) (he : P.underlying e = some (.int .u8)) (hd : P.underlying dst = some .string)
    (h : wpList P ops Q rest (a.put o.dst (.string ⟨l.toArray⟩)) w) : wpList P ops Q (o :: rest) a w := by
  refine wpList_want hw fun K hK => ?_
  unfold Oper.wp execOp
  simp only [ho, hx, Sem.run_bind, Sem.run_pure, run_conv_bs src dst e A n c l hn hr hs he hd, Result.andThen_ok]
  exact hK _ _ h
end

/-- bytes with their number, at most so many -/
def coreText (most : Nat) (l : List UInt8) (p : Nat) : Got (List UInt8) := match groups (l.drop p) 0 0 with
  | .inl x => ⟨[], p, x⟩
  | .inr (v, k) => if most < v then ⟨[], p, 12⟩ else if l.length - (p + k) < v then ⟨[], p, 10⟩ else ⟨(l.drop (p + k)).take v, p + k + v, 0⟩
theorem coreText_at {most : Nat} {l : List UInt8} {p : Nat} (h : (coreText most l p).err ≠ 0) : (coreText most l p).at' = p := by
  unfold coreText at h ⊢
  cases hq : groups (l.drop p) 0 0 with
  | inl x => rfl
  | inr x =>
    obtain ⟨v, k⟩ := x
    rw [hq] at h
    simp only at h ⊢
    split
    · rfl
    · rename_i h1
      rw [if_neg h1] at h
      split
      · rfl
      · rename_i h2
        rw [if_neg h2] at h
        exact absurd rfl h
abbrev toStr (l : List UInt8) : Value := .string ⟨l.toArray⟩

def ClosRes (g : Nat) (A : Option Addr) (c : Nat) (l : List UInt8) (bv' : Nat) (T : TypeId) (v : Value) (k : Nat × Int) (w : World) (en : Ending) (w' : World) : Prop :=
  en = .returned (.int .i64 k.2) ∧ Ch [g, bv'] w w' ∧ Bk w' bv' #[v] T ∧ ∃ q', Re w' g A c l q' 0 ∧ (k.2 = 0 → q' = k.1)

set_option maxHeartbeats 2000000 in
theorem textC (w : World) (g : Nat) (A : Option Addr) (c : Nat) (l : List UInt8) (p most : Nat) (bm br bv' : Nat) (hm : most ≤ 1000000) (h : Re w g A c l p 0) (hmm : Bk w bm #[.int .i64 most] 3) (hr : Bk w br #[.pointer (some ⟨g, 0, none⟩)] 115) (hv : Bk w bv' #[.string ByteArray.empty] 9) (hne : bv' ≠ g) (hmg : bm ≠ g) (hrg : br ≠ g) (hAb : ∀ a, A = some a → a.block ≠ bv') :
    Calls Try.prog 115 #[.pointer (some ⟨bm, 0, none⟩), .pointer (some ⟨br, 0, none⟩), .pointer (some ⟨bv', 0, none⟩)] w (ClosRes g A c l bv' 9 (toStr (coreText most l p).val) ((coreText most l p).at', (coreText most l p).err) w) := by
  have cm : w.cell? ⟨bm, 0, none⟩ = some (.int .i64 most) := hmm.cell 0
  have c0 : w.cell? ⟨br, 0, none⟩ = some (.pointer (some ⟨g, 0, none⟩)) := hr.cell 0
  have hreach := h.reach
  unfold reach47 at hreach
  have W1 : IntKind.u64.wrap (most : Int) = most := by rw [IntKind.wrap_u64]; omega
  go_enter Try.func115, Try.ntmps115
  go_wp2_with fail
  refine (number_any w g A c l p h).mono ?_
  intro en w1 hres
  unfold NumRes at hres
  cases hq : groups (l.drop p) 0 0 with
  | inl x =>
    rw [hq] at hres
    obtain ⟨ch1, rfl, r1⟩ := hres
    have hx : x ≠ 0 := by rcases groups_err hq with h | h <;> omega
    have h1 : (x != 0) = true := by simp [hx]
    have h2 : (x == 0) = false := by simp [hx]
    have hk : coreText most l p = ⟨[], p, x⟩ := by unfold coreText; rw [hq]
    have HK := Lib.hid hk
    have HR := Lib.hid r1
    have HC := Lib.hid ch1
    have HX := Lib.hid hx
    clear hk r1 ch1 hq hx
    go_wp2
    go_ret
    rw [HK.out]
    exact ⟨rfl, HC.out.wide (by simp), hv.ch HC.out (by simpa using hne), p, HR.out, fun h => absurd h HX.out⟩
  | inr x =>
    obtain ⟨v, k⟩ := x
    rw [hq] at hres
    obtain ⟨ch1, rfl, r1⟩ := hres
    have hle := r1.le
    have d2 : w1.cell? ⟨g, 2, none⟩ = some (.int .i64 ((p + k : Nat) : Int)) := r1.bk.cell 2
    have d1 : w1.cell? ⟨g, 1, none⟩ = some (.slice A l.length c) := r1.bk.cell 1
    have hm1 := hmm.ch ch1 (by simpa using hmg)
    have hr1 := hr.ch ch1 (by simpa using hrg)
    have hv1 := hv.ch ch1 (by simpa using hne)
    have cm1 : w1.cell? ⟨bm, 0, none⟩ = some (.int .i64 most) := hm1.cell 0
    have c01 : w1.cell? ⟨br, 0, none⟩ = some (.pointer (some ⟨g, 0, none⟩)) := hr1.cell 0
    have hk0 : coreText most l p = if most < v then ⟨[], p, 12⟩ else if l.length - (p + k) < v then ⟨[], p, 10⟩ else ⟨(l.drop (p + k)).take v, p + k + v, 0⟩ := by unfold coreText; rw [hq]
    have HR := Lib.hid r1
    have HC := Lib.hid ch1
    have HV := Lib.hid hv1
    generalize hpk : p + k = q at *
    clear r1 ch1 hq cm c0 hm1 hr1 hv1 hpk
    by_cases hmv : most < v
    · rw [if_pos hmv] at hk0
      have HK := Lib.hid hk0
      have hmv' : (most : Int) < v := by omega
      clear hk0
      go_wp2
      go_ret
      rw [HK.out]
      exact ⟨rfl, HC.out.wide (by simp), HV.out, _, HR.out, fun h => by cases h⟩
    · rw [if_neg hmv] at hk0
      have hmv' : ¬ (most : Int) < v := by omega
      have W2 : IntKind.i64.wrap ((l.length : Int) - q) = (l.length : Int) - q := by rw [IntKind.wrap_i64]; omega
      have W3 : IntKind.u64.wrap ((l.length : Int) - q) = (l.length : Int) - q := by rw [IntKind.wrap_u64]; omega
      by_cases hlv : l.length - q < v
      · rw [if_pos hlv] at hk0
        have HK := Lib.hid hk0
        have hlv' : (l.length : Int) - q < v := by omega
        clear hk0
        go_wp2
        go_quiet (fail)
        go_wp2
        go_ret
        rw [HK.out]
        exact ⟨rfl, (HC.out.drewN _).wide (by simp), HV.out, _, HR.out.drewN _, fun h => by cases h⟩
      · rw [if_neg hlv] at hk0
        have HK := Lib.hid hk0
        have hlv' : ¬ (l.length : Int) - q < v := by omega
        have W4 : IntKind.i64.wrap (v : Int) = v := by rw [IntKind.wrap_i64]; omega
        clear hk0
        go_wp2
        go_quiet (fail)
        go_wp2_with fail
        have RN := HR.out.drewN nq
        have CN := HC.out.drewN nq
        have VN : Bk (w1.drewN nq) bv' #[.string ByteArray.empty] 9 := HV.out
        refine (take_any _ g A c l q 0 v RN (by omega)).mono ?_
        rintro en w2 ⟨ch2, ⟨hbad, _⟩ | ⟨_, A2, c2, rfl, rd2, r2⟩⟩
        · exact absurd hbad (by omega)
        have hlen : ((l.drop q).take v).length = v := by simp; omega
        have v2 := VN.ch ch2 (by simpa using hne)
        have HR2 := Lib.hid r2
        have HC2 := Lib.hid (CN.same ch2)
        have HV2 := Lib.hid v2
        have HL := Lib.hid hlen
        clear RN CN VN r2 ch2 v2 W1 W2 W3 W4 cm1 c01 d1 d2 hlen
        generalize (l.drop q).take v = ys at *
        go_wp2_with fail
        refine (clone_any w2 A2 v c2 ys rd2 HL.out.symm (by have := HL.out; unfold reach47; omega)).mono ?_
        rintro e w3 ⟨u, rfl, hs3, hb3⟩
        obtain ⟨A3, c3, rfl⟩ := hs3.form
        have hv3 := HV2.out.below hb3 HV2.out.lt
        have cv : w3.cell? ⟨bv', 0, none⟩ = some (.string ByteArray.empty) := hv3.cell 0
        have fv := hv3.frozen 0
        have HV3 := Lib.hid hv3
        have HB3 := Lib.hid hb3
        have hrd3 := hs3.rd
        clear hv3 hb3 hs3 rd2
        go_wp2_with (with_reducible show wpList _ _ _ (Oper.mk _ (Op.convert 36 9 _) _ _ _ _ :: _) _ _; refine wpList_conv_bs rfl 36 9 5 _ rfl A3 _ c3 ys rfl rfl hrd3 Try.underlying36 Try.underlying5 Try.underlying9 ?_)
        go_ret
        rw [HK.out]
        refine ⟨rfl, ?_, HV3.out.set_ 0 _, q + v, ?_, fun _ => rfl⟩
        · exact ((HC2.out.wide (by simp)).same (Ch.of_below _ HB3.out)).setCell (by simp) _
        · exact (HR2.out.below HB3.out).ch ((Ch.refl [bv'] _).setCell (by simp) _) (by simpa using fun h => hne h.symm) (fun a ha => by simpa using hAb a ha)
end Go.Proofs.Ytocgcalaiejbiaa

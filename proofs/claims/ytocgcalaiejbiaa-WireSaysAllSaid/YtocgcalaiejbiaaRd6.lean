/-
  Reader.Raw: so many bytes in new memory, or none. Condition: the Reader was made by NewReader (Re).
-/
import Derived.Test.YtocgcalaiejbiaaRd5
namespace Go.Proofs.Ytocgcalaiejbiaa
set_option linter.unusedSimpArgs false
set_option linter.unusedVariables false
open Go.RowKit
set_option maxRecDepth 100000

/-- what a read of bytes leaves -/
structure ReadResV (w : World) (g : Nat) (A : Option Addr) (c : Nat) (l : List UInt8) (bv : Nat) (B : Nat) (bs : List UInt8) (q : Nat) (x : Int) (en : Ending) (w' : World) : Prop where
  en : en = .returned (.tuple #[])
  ch : Ch [g, bv] w w'
  bk : ∃ v, Bk w' bv #[v] 36 ∧ Bs w' B v bs
  re : Re w' g A c l q x

set_option maxHeartbeats 1000000 in
theorem read_noV (w : World) (g : Nat) (A : Option Addr) (c : Nat) (l : List UInt8) (p : Nat) (e : Int) (F : Value) (bv B : Nat) (h : Re w g A c l p e) (hb : Bk w bv #[.slice none 0 0] 36) (he : e ≠ 0) :
    Calls Try.prog 102 #[.pointer (some ⟨g, 0, none⟩), F] w (ReadResV w g A c l bv B [] p e) := by
  refine (read_no w g A c l p e F bv _ _ h hb he).mono ?_
  rintro en w' ⟨h1, h2, h3, h4⟩
  exact ⟨h1, h2, ⟨_, h3, World.ownsRow_nil _ _ _ _⟩, h4⟩

theorem bs_set {w : World} {B : Nat} {v : Value} {bs : List UInt8} {g : Nat} {cs : Array Value} {t : TypeId} (h : Bs w B v bs) (hk : Bk w g cs t) (hne : 5 ≠ t) (i : Nat) (u : Value) : Bs (w.setCell ⟨g, i, none⟩ u) B v bs :=
  ownsRow_setCell_other (a := ⟨g, i, none⟩) h (own_ne_bk h hk hne) _

set_option maxHeartbeats 1000000 in
theorem read_okV (w : World) (g : Nat) (A : Option Addr) (c : Nat) (l : List UInt8) (p : Nat) (fn : FuncId) (caps : Array Value) (bv B : Nat) (bs : List UInt8) (q : Nat) (x : Int) (h : Re w g A c l p 0) (hne : bv ≠ g)
    (hq : x ≠ 0 → q = p) (hcf : ∀ w : World, (callFunc fn caps).run Try.prog w = .ok (.enter fn caps) w)
    (hc : Calls Try.prog fn caps w fun en w' => en = .returned (.int .i64 x) ∧ Ch [g, bv] w w' ∧ (∃ v, Bk w' bv #[v] 36 ∧ Bs w' B v bs) ∧ ∃ q', Re w' g A c l q' 0 ∧ (x = 0 → q' = q)) :
    Calls Try.prog 102 #[.pointer (some ⟨g, 0, none⟩), .func (.func fn) #[] caps] w (ReadResV w g A c l bv B bs q x) := by
  have c0 : w.cell? ⟨g, 0, none⟩ = some (.bool true) := h.bk.cell 0
  have c2 : w.cell? ⟨g, 2, none⟩ = some (.int .i64 p) := h.bk.cell 2
  have c3 : w.cell? ⟨g, 3, none⟩ = some (.int .i64 0) := h.bk.cell 3
  have H := Lib.hid h
  have HC := Lib.hid hc
  have HQ := Lib.hid hq
  clear h hc hq
  go_enter Try.func102, Try.ntmps102
  go_wp2_with fail
  refine HC.out.mono ?_
  rintro en w1 ⟨rfl, ch1, ⟨v, b1, s1⟩, q', r1, e1⟩
  have d2 : w1.cell? ⟨g, 2, none⟩ = some (.int .i64 q') := r1.bk.cell 2
  have d3 : w1.cell? ⟨g, 3, none⟩ = some (.int .i64 0) := r1.bk.cell 3
  have f2 := r1.bk.frozen 2
  have f3 := r1.bk.frozen 3
  have HR := Lib.hid r1
  have HE := Lib.hid e1
  have HS := Lib.hid s1
  clear r1 e1 c0 c2 c3 s1
  by_cases hx : x = 0
  · have he := HE.out hx
    subst hx
    have HE2 := Lib.hid he
    clear he HE
    go_wp2
    go_end0
    refine ⟨rfl, ch1, ⟨v, b1, HS.out⟩, ?_⟩
    have := HR.out
    rwa [HE2.out] at this
  · have h1 : (x != 0) = true := by simp [hx]
    have h2 : (x == 0) = false := by simp [hx]
    have HX := Lib.hid hx
    clear hx
    go_wp2
    go_end0
    have r2 := HR.out.at_ p H.out.le
    have r3 := r2.err_ x
    refine ⟨rfl, (ch1.setCell (by simp) _).setCell (by simp) _, ⟨v, (b1.far (by simpa using hne) _).far (by simpa using hne) _, ?_⟩, ?_⟩
    · exact bs_set (bs_set HS.out HR.out.bk (by decide) _ _) r2.bk (by decide) _ _
    · rw [HQ.out HX.out]
      exact r3

/-- so many bytes -/
def coreRaw (l : List UInt8) (n p : Nat) : Got (List UInt8) := if l.length - p < n then ⟨[], p, 10⟩ else ⟨(l.drop p).take n, p + n, 0⟩
theorem coreRaw_at {l : List UInt8} {n p : Nat} (h : (coreRaw l n p).err ≠ 0) : (coreRaw l n p).at' = p := by
  unfold coreRaw at h ⊢
  split
  · rfl
  · rename_i hn; rw [if_neg hn] at h; exact absurd rfl h
theorem TakeRes.core {g : Nat} {A : Option Addr} {c : Nat} {l : List UInt8} {p n : Nat} {w : World} {en : Ending} {w' : World} (h : TakeRes g A c l p 0 n w en w') :
    Ch [g] w w' ∧ ∃ A' m c', m = (coreRaw l n p).val.length ∧ en = .returned (.tuple #[.slice A' m c', .int .i64 (coreRaw l n p).err]) ∧ Rd w' A' (bv (coreRaw l n p).val) ∧ Re w' g A c l (coreRaw l n p).at' 0 := by
  obtain ⟨h1, ⟨h2, h3, h4⟩ | ⟨h2, A', c', h3, h4, h5⟩⟩ := h
  · unfold coreRaw
    rw [if_pos h2]
    exact ⟨h1, none, 0, 0, rfl, h3, Rd.nil _ _, h4⟩
  · unfold coreRaw
    rw [if_neg (by omega)]
    refine ⟨h1, A', n, c', ?_, h3, h4, h5⟩
    have := h5.le
    simp; omega
theorem coreRaw_len {l : List UInt8} {n p : Nat} : (coreRaw l n p).val.length ≤ l.length := by
  unfold coreRaw
  split
  · simp
  · simp; omega

set_option maxHeartbeats 1000000 in
theorem rawC (w : World) (g : Nat) (A : Option Addr) (c : Nat) (l : List UInt8) (p n : Nat) (br bn bv : Nat) (hn : n ≤ 9223372036854775807) (h : Re w g A c l p 0) (hr : Bk w br #[.pointer (some ⟨g, 0, none⟩)] 115) (hnn : Bk w bn #[.int .i64 n] 3) (hv : Bk w bv #[.slice none 0 0] 36) (hne : bv ≠ g) (hAb : ∀ a, A = some a → a.block ≠ bv) :
    Calls Try.prog 116 #[.pointer (some ⟨br, 0, none⟩), .pointer (some ⟨bn, 0, none⟩), .pointer (some ⟨bv, 0, none⟩)] w fun en w' => en = .returned (.int .i64 (coreRaw l n p).err) ∧ Ch [g, bv] w w' ∧ (∃ v, Bk w' bv #[v] 36 ∧ Bs w' w.heap.size v (coreRaw l n p).val) ∧ ∃ q', Re w' g A c l q' 0 ∧ ((coreRaw l n p).err = 0 → q' = (coreRaw l n p).at') := by
  have c0 : w.cell? ⟨br, 0, none⟩ = some (.pointer (some ⟨g, 0, none⟩)) := hr.cell 0
  have cn : w.cell? ⟨bn, 0, none⟩ = some (.int .i64 n) := hnn.cell 0
  go_enter Try.func116, Try.ntmps116
  go_wp2_with fail
  refine (take_any w g A c l p 0 n h hn).mono ?_
  intro en w1 hres
  obtain ⟨ch1, A', m, c', hm, rfl, rd1, r1⟩ := hres.core
  clear hres
  have hv1 := hv.ch ch1 (by simpa using hne)
  have hreach := h.reach
  have hlen : (coreRaw l n p).val.length ≤ reach47 := Nat.le_trans coreRaw_len hreach
  have HM := Lib.hid hm
  have HL := Lib.hid hlen
  have HR := Lib.hid r1
  have HC := Lib.hid ch1
  have HV := Lib.hid hv1
  have HS := Lib.hid ch1.size
  clear r1 ch1 c0 cn hv1 hm hlen
  go_wp2_with fail
  refine (clone_any w1 A' m c' (coreRaw l n p).val rd1 HM.out HL.out).mono ?_
  rintro e w2 ⟨v, rfl, hs2, hb2⟩
  obtain ⟨A2, c2, rfl⟩ := hs2.form
  have hv2 := HV.out.below hb2 HV.out.lt
  have cv : w2.cell? ⟨bv, 0, none⟩ = some (.slice none 0 0) := hv2.cell 0
  have fv := hv2.frozen 0
  have HV2 := Lib.hid hv2
  have HB2 := Lib.hid hb2
  have HS2 := Lib.hid hs2
  clear hv2 hb2 hs2
  go_wp2
  go_ret
  refine ⟨rfl, ?_, ⟨_, HV2.out.set_ 0 _, (bs_set HS2.out HV2.out (by decide) _ _).mono HS.out⟩, (coreRaw l n p).at', ?_, fun _ => rfl⟩
  · exact ((HC.out.wide (by simp)).same (Ch.of_below _ HB2.out)).setCell (by simp) _
  · exact (HR.out.below HB2.out).ch ((Ch.refl [bv] _).setCell (by simp) _) (by simpa using fun h => hne h.symm) (fun a ha => by simpa using hAb a ha)

/-- what Raw answers -/
def RawRes (g : Nat) (A : Option Addr) (c : Nat) (l : List UInt8) (k : Got (List UInt8)) (w : World) (en : Ending) (w' : World) : Prop :=
  ∃ A' c', en = .returned (.slice A' k.val.length c') ∧ Bs w' w.heap.size (.slice A' k.val.length c') k.val ∧ Ch [g] w w' ∧ Re w' g A c l k.at' k.err

set_option maxHeartbeats 1000000 in
theorem Raw_any (w : World) (g : Nat) (A : Option Addr) (c : Nat) (l : List UInt8) (p : Nat) (e : Int) (n : Nat) (hn : n ≤ 9223372036854775807) (h : Re w g A c l p e) :
    Calls Try.prog 109 #[.pointer (some ⟨g, 0, none⟩), .int .i64 n] w (RawRes g A c l (after [] p e (coreRaw l n p)) w) := by
  have R2 := ((h.alloc (.cells #[.pointer (some ⟨g, 0, none⟩)] 115)).alloc (.cells #[.int .i64 n] 3)).alloc (.cells #[.slice none 0 0] 36)
  have B0 : Bk (((w.alloc (.cells #[.pointer (some ⟨g, 0, none⟩)] 115)).alloc (.cells #[.int .i64 n] 3)).alloc (.cells #[.slice none 0 0] 36)) w.heap.size #[.pointer (some ⟨g, 0, none⟩)] 115 := ((Bk.new w 115 _).alloc _).alloc _
  have B1 : Bk (((w.alloc (.cells #[.pointer (some ⟨g, 0, none⟩)] 115)).alloc (.cells #[.int .i64 n] 3)).alloc (.cells #[.slice none 0 0] 36)) (w.heap.size + 1) #[.int .i64 n] 3 := by
    have := ((Bk.new (w.alloc (.cells #[.pointer (some ⟨g, 0, none⟩)] 115)) 3 #[.int .i64 n]).alloc (.cells #[.slice none 0 0] 36))
    simpa using this
  have B2 : Bk (((w.alloc (.cells #[.pointer (some ⟨g, 0, none⟩)] 115)).alloc (.cells #[.int .i64 n] 3)).alloc (.cells #[.slice none 0 0] 36)) (w.heap.size + 1 + 1) #[.slice none 0 0] 36 := by
    have := Bk.new ((w.alloc (.cells #[.pointer (some ⟨g, 0, none⟩)] 115)).alloc (.cells #[.int .i64 n] 3)) 36 #[.slice none 0 0]
    simpa using this
  have hb2 : Below w.heap.size w (((w.alloc (.cells #[.pointer (some ⟨g, 0, none⟩)] 115)).alloc (.cells #[.int .i64 n] 3)).alloc (.cells #[.slice none 0 0] 36)) := (((Below.refl _ _).alloc (Nat.le_refl _) _).alloc (by simp) _).alloc (by simp; omega) _
  have hgl : g < w.heap.size := h.bk.lt
  have hAl := h.lt
  have HL := Lib.hid hAl
  clear h hAl
  go_enter Try.func109, Try.ntmps109
  go_wp2_with fail
  generalize ((w.alloc (.cells #[.pointer (some ⟨g, 0, none⟩)] 115)).alloc (.cells #[.int .i64 n] 3)).alloc (.cells #[.slice none 0 0] 36) = w2 at *
  obtain ⟨b2, hb2v⟩ : ∃ b, w.heap.size + 1 + 1 = b := ⟨_, rfl⟩
  rw [hb2v] at B2 ⊢
  obtain ⟨b1, hb1v⟩ : ∃ b, w.heap.size + 1 = b := ⟨_, rfl⟩
  rw [hb1v] at B1 ⊢
  have HV2 := Lib.hid hb2v
  clear hb2v hb1v
  have HS := Lib.hid hb2.size
  have key : Calls Try.prog 102 #[.pointer (some ⟨g, 0, none⟩), .func (.func 116) #[] #[.pointer (some ⟨w.heap.size, 0, none⟩), .pointer (some ⟨b1, 0, none⟩), .pointer (some ⟨b2, 0, none⟩)]] w2
      (ReadResV w2 g A c l b2 w2.heap.size (after [] p e (coreRaw l n p)).val (after [] p e (coreRaw l n p)).at' (after [] p e (coreRaw l n p)).err) := by
    have hne : b2 ≠ g := by have := HV2.out; omega
    by_cases he : e = 0
    · subst he
      rw [after_zero]
      exact read_okV w2 g A c l p _ _ b2 _ _ _ _ R2 hne coreRaw_at (run_callFunc_enter Try.func116 (by kernel_rfl) (by kernel_rfl) _)
        (rawC w2 g A c l p n _ b1 b2 hn R2 B0 B1 B2 hne (fun a ha => by have := HL.out a ha; have := HV2.out; omega))
    · rw [after_ne _ _ _ he]
      exact read_noV w2 g A c l p e _ b2 _ R2 B2 he
  refine key.mono ?_
  rintro en w3 ⟨rfl, ch3, ⟨v, b3, s3⟩, r3⟩
  obtain ⟨A', c', rfl⟩ := s3.form
  have cv := b3.cell 0
  have fv := b3.frozen 0
  simp at cv
  have HZ := Lib.hid (rd_close hb2 ch3 b3 r3 (by have := HV2.out; omega) hgl HL.out)
  have HB := Lib.hid (bs_set s3 b3 (by decide) 0 (.slice A' (after [] p e (coreRaw l n p)).val.length c'))
  clear key R2 B0 B1 B2 hb2 ch3 b3 r3 s3 HL
  generalize after ([] : List UInt8) p e (coreRaw l n p) = K at *
  go_wp2
  have c4 := HZ.out.1
  exact bodyPost_ret (v := .slice A' K.val.length c') (by simp [results, Try.results109, go_sem, c4]) rfl ⟨A', c', rfl, HB.out.mono HS.out, HZ.out.2⟩
end Go.Proofs.Ytocgcalaiejbiaa

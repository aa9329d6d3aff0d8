/-
  Reader.Raw: so many bytes in new memory, or none. Condition: the Reader was made by NewReader (Re).
  Reader.Text, Err, Left, End; NewReader; narrow; a seal that is not read. Condition: the Reader was made by NewReader (Re); NewReader's bytes are within reach.
  getHash, getSeal, signed: so many bytes in an array, zeros where they can't be read. Condition: the Reader was made by NewReader (Re).
-/
import Derived.Test.YtlhnhjglcbggmaaGreatRRY13
import Derived.Deep.RegionLaw
import Derived.Laws.CopyOwn
import Derived.Test.YtlhnhjglcbggmaaGreatRRY04
namespace Go.Proofs.YtlhnhjglcbggmaaGreatRR
set_option linter.unusedSimpArgs false
set_option linter.unusedVariables false
open Go.RowKit
set_option maxRecDepth 100000

/-- what a read of bytes leaves -/
structure ReadResV (w : World) (g : Nat) (A : Option Addr) (c : Nat) (l : List UInt8) (bv : Nat) (B : Nat) (bs : List UInt8) (q : Nat) (x : Int) (en : Ending) (w' : World) : Prop where
 en : en = .returned (.tuple #[])
 ch : Ch [g, bv] w w'
 bk : ∃ v, Bk w' bv #[v] 66 ∧ Bs w' B v bs
 re : Re w' g A c l q x

set_option maxHeartbeats 1000000 in
theorem read_noV (w : World) (g : Nat) (A : Option Addr) (c : Nat) (l : List UInt8) (p : Nat) (e : Int) (F : Value) (bv B : Nat) (h : Re w g A c l p e) (hb : Bk w bv #[.slice none 0 0] 66) (he : e ≠ 0) :
  Calls Tryz.prog 187 #[.pointer (some ⟨g, 0, none⟩), F] w (ReadResV w g A c l bv B [] p e) := by
 refine (read_no w g A c l p e F bv _ _ h hb he).mono ?_
 rintro en w' ⟨h1, h2, h3, h4⟩
 exact ⟨h1, h2, ⟨_, h3, World.ownsRow_nil _ _ _ _⟩, h4⟩

theorem bs_set {w : World} {B : Nat} {v : Value} {bs : List UInt8} {g : Nat} {cs : Array Value} {t : TypeId} (h : Bs w B v bs) (hk : Bk w g cs t) (hne : 5 ≠ t) (i : Nat) (u : Value) : Bs (w.setCell ⟨g, i, none⟩ u) B v bs :=
 ownsRow_setCell_other (a := ⟨g, i, none⟩) h (own_ne_bk h hk hne) _

set_option maxHeartbeats 1000000 in
theorem read_okV (w : World) (g : Nat) (A : Option Addr) (c : Nat) (l : List UInt8) (p : Nat) (fn : FuncId) (caps : Array Value) (bv B : Nat) (bs : List UInt8) (q : Nat) (x : Int) (h : Re w g A c l p 0) (hne : bv ≠ g)
  (hq : x ≠ 0 → q = p) (hcf : ∀ w : World, (callFunc fn caps).run Tryz.prog w = .ok (.enter fn caps) w)
  (hc : Calls Tryz.prog fn caps w fun en w' => en = .returned (.int .i64 x) ∧ Ch [g, bv] w w' ∧ (∃ v, Bk w' bv #[v] 66 ∧ Bs w' B v bs) ∧ ∃ q', Re w' g A c l q' 0 ∧ (x = 0 → q' = q)) :
  Calls Tryz.prog 187 #[.pointer (some ⟨g, 0, none⟩), .func (.func fn) #[] caps] w (ReadResV w g A c l bv B bs q x) := by
 have c0 : w.cell? ⟨g, 0, none⟩ = some (.bool true) := h.bk.cell 0
 have c2 : w.cell? ⟨g, 2, none⟩ = some (.int .i64 p) := h.bk.cell 2
 have c3 : w.cell? ⟨g, 3, none⟩ = some (.int .i64 0) := h.bk.cell 3
 have H := Lib.hid h
 have HC := Lib.hid hc
 have HQ := Lib.hid hq
 clear h hc hq
 go_enter Tryz.func187, Tryz.ntmps187
 go_wp2_with fail
 refine HC.out.mono ?_
 rintro en w1 ⟨rfl, ch1, ⟨v, b1, s1⟩, q', r1, e1⟩
 have d2 : w1.cell? ⟨g, 2, none⟩ = some (.int .i64 q') := r1.bk.cell 2
 have d3 : w1.cell? ⟨g, 3, none⟩ = some (.int .i64 0) := r1.bk.cell 3
 have f2 := r1.bk.frozen 2
 have f3 := r1.bk.frozen 3
 have HR := Lib.hid r1
 have HE := Lib.hid e1
 have HS := Lib.hid s1
 clear r1 e1 c0 c2 c3 s1
 by_cases hx : x = 0
 ·have he := HE.out hx
  subst hx
  have HE2 := Lib.hid he
  clear he HE
  go_wp2
  go_end0
  refine ⟨rfl, ch1, ⟨v, b1, HS.out⟩, ?_⟩
  have := HR.out
  rwa [HE2.out] at this
 ·have h1 : (x != 0) = true := by simp [hx]
  have h2 : (x == 0) = false := by simp [hx]
  have HX := Lib.hid hx
  clear hx
  go_wp2
  go_end0
  have r2 := HR.out.at_ p H.out.le
  have r3 := r2.err_ x
  refine ⟨rfl, (ch1.setCell (by simp) _).setCell (by simp) _, ⟨v, (b1.far (by simpa using hne) _).far (by simpa using hne) _, ?_⟩, ?_⟩
  ·exact bs_set (bs_set HS.out HR.out.bk (by decide) _ _) r2.bk (by decide) _ _
  ·rw [HQ.out HX.out]
   exact r3

/-- so many bytes -/
def coreRaw (l : List UInt8) (n p : Nat) : Got (List UInt8) := if l.length - p < n then ⟨[], p, 10⟩ else ⟨(l.drop p).take n, p + n, 0⟩
theorem coreRaw_at {l : List UInt8} {n p : Nat} (h : (coreRaw l n p).err ≠ 0) : (coreRaw l n p).at' = p := by
 unfold coreRaw at h ⊢
 split
 ·rfl
 ·rename_i hn; rw [if_neg hn] at h; exact absurd rfl h
theorem TakeRes.core {g : Nat} {A : Option Addr} {c : Nat} {l : List UInt8} {p n : Nat} {w : World} {en : Ending} {w' : World} (h : TakeRes g A c l p 0 n w en w') :
  Ch [g] w w' ∧ ∃ A' m c', m = (coreRaw l n p).val.length ∧ en = .returned (.tuple #[.slice A' m c', .int .i64 (coreRaw l n p).err]) ∧ Rd w' A' (bv (coreRaw l n p).val) ∧ Re w' g A c l (coreRaw l n p).at' 0 := by
 obtain ⟨h1, ⟨h2, h3, h4⟩ | ⟨h2, A', c', h3, h4, h5⟩⟩ := h
 ·unfold coreRaw
  rw [if_pos h2]
  exact ⟨h1, none, 0, 0, rfl, h3, Rd.nil _ _, h4⟩
 ·unfold coreRaw
  rw [if_neg (by omega)]
  refine ⟨h1, A', n, c', ?_, h3, h4, h5⟩
  have := h5.le
  simp; omega
theorem coreRaw_len {l : List UInt8} {n p : Nat} : (coreRaw l n p).val.length ≤ l.length := by
 unfold coreRaw
 split
 ·simp
 ·simp; omega

set_option maxHeartbeats 1000000 in
theorem rawC (w : World) (g : Nat) (A : Option Addr) (c : Nat) (l : List UInt8) (p n : Nat) (br bn bv : Nat) (hn : n ≤ 9223372036854775807) (h : Re w g A c l p 0) (hr : Bk w br #[.pointer (some ⟨g, 0, none⟩)] 156) (hnn : Bk w bn #[.int .i64 n] 3) (hv : Bk w bv #[.slice none 0 0] 66) (hne : bv ≠ g) (hAb : ∀ a, A = some a → a.block ≠ bv) :
  Calls Tryz.prog 203 #[.pointer (some ⟨br, 0, none⟩), .pointer (some ⟨bn, 0, none⟩), .pointer (some ⟨bv, 0, none⟩)] w fun en w' => en = .returned (.int .i64 (coreRaw l n p).err) ∧ Ch [g, bv] w w' ∧ (∃ v, Bk w' bv #[v] 66 ∧ Bs w' w.heap.size v (coreRaw l n p).val) ∧ ∃ q', Re w' g A c l q' 0 ∧ ((coreRaw l n p).err = 0 → q' = (coreRaw l n p).at') := by
 have c0 : w.cell? ⟨br, 0, none⟩ = some (.pointer (some ⟨g, 0, none⟩)) := hr.cell 0
 have cn : w.cell? ⟨bn, 0, none⟩ = some (.int .i64 n) := hnn.cell 0
 go_enter Tryz.func203, Tryz.ntmps203
 go_wp2_with fail
 refine (take_any w g A c l p 0 n h hn).mono ?_
 intro en w1 hres
 obtain ⟨ch1, A', m, c', hm, rfl, rd1, r1⟩ := hres.core
 clear hres
 have hv1 := hv.ch ch1 (by simpa using hne)
 have hreach := h.reach
 have hlen : (coreRaw l n p).val.length ≤ reach47 := Nat.le_trans coreRaw_len hreach
 have HM := Lib.hid hm
 have HL := Lib.hid hlen
 have HR := Lib.hid r1
 have HC := Lib.hid ch1
 have HV := Lib.hid hv1
 have HS := Lib.hid ch1.size
 clear r1 ch1 c0 cn hv1 hm hlen
 go_wp2_with fail
 refine (clone_any w1 A' m c' (coreRaw l n p).val rd1 HM.out HL.out).mono ?_
 rintro e w2 ⟨v, rfl, hs2, hb2⟩
 obtain ⟨A2, c2, rfl⟩ := hs2.form
 have hv2 := HV.out.below hb2 HV.out.lt
 have cv : w2.cell? ⟨bv, 0, none⟩ = some (.slice none 0 0) := hv2.cell 0
 have fv := hv2.frozen 0
 have HV2 := Lib.hid hv2
 have HB2 := Lib.hid hb2
 have HS2 := Lib.hid hs2
 clear hv2 hb2 hs2
 go_wp2
 go_ret
 refine ⟨rfl, ?_, ⟨_, HV2.out.set_ 0 _, (bs_set HS2.out HV2.out (by decide) _ _).mono HS.out⟩, (coreRaw l n p).at', ?_, fun _ => rfl⟩
 ·exact ((HC.out.wide (by simp)).same (Ch.of_below _ HB2.out)).setCell (by simp) _
 ·exact (HR.out.below HB2.out).ch ((Ch.refl [bv] _).setCell (by simp) _) (by simpa using fun h => hne h.symm) (fun a ha => by simpa using hAb a ha)

/-- what Raw answers -/
def RawRes (g : Nat) (A : Option Addr) (c : Nat) (l : List UInt8) (k : Got (List UInt8)) (w : World) (en : Ending) (w' : World) : Prop :=
 ∃ A' c', en = .returned (.slice A' k.val.length c') ∧ Bs w' w.heap.size (.slice A' k.val.length c') k.val ∧ Ch [g] w w' ∧ Re w' g A c l k.at' k.err

set_option maxHeartbeats 1000000 in
theorem Raw_any (w : World) (g : Nat) (A : Option Addr) (c : Nat) (l : List UInt8) (p : Nat) (e : Int) (n : Nat) (hn : n ≤ 9223372036854775807) (h : Re w g A c l p e) :
  Calls Tryz.prog 192 #[.pointer (some ⟨g, 0, none⟩), .int .i64 n] w (RawRes g A c l (after [] p e (coreRaw l n p)) w) := by
 have R2 := ((h.alloc (.cells #[.pointer (some ⟨g, 0, none⟩)] 156)).alloc (.cells #[.int .i64 n] 3)).alloc (.cells #[.slice none 0 0] 66)
 have B0 : Bk (((w.alloc (.cells #[.pointer (some ⟨g, 0, none⟩)] 156)).alloc (.cells #[.int .i64 n] 3)).alloc (.cells #[.slice none 0 0] 66)) w.heap.size #[.pointer (some ⟨g, 0, none⟩)] 156 := ((Bk.new w 156 _).alloc _).alloc _
 have B1 : Bk (((w.alloc (.cells #[.pointer (some ⟨g, 0, none⟩)] 156)).alloc (.cells #[.int .i64 n] 3)).alloc (.cells #[.slice none 0 0] 66)) (w.heap.size + 1) #[.int .i64 n] 3 := by
  have := ((Bk.new (w.alloc (.cells #[.pointer (some ⟨g, 0, none⟩)] 156)) 3 #[.int .i64 n]).alloc (.cells #[.slice none 0 0] 66))
  simpa using this
 have B2 : Bk (((w.alloc (.cells #[.pointer (some ⟨g, 0, none⟩)] 156)).alloc (.cells #[.int .i64 n] 3)).alloc (.cells #[.slice none 0 0] 66)) (w.heap.size + 1 + 1) #[.slice none 0 0] 66 := by
  have := Bk.new ((w.alloc (.cells #[.pointer (some ⟨g, 0, none⟩)] 156)).alloc (.cells #[.int .i64 n] 3)) 66 #[.slice none 0 0]
  simpa using this
 have hb2 : Below w.heap.size w (((w.alloc (.cells #[.pointer (some ⟨g, 0, none⟩)] 156)).alloc (.cells #[.int .i64 n] 3)).alloc (.cells #[.slice none 0 0] 66)) := (((Below.refl _ _).alloc (Nat.le_refl _) _).alloc (by simp) _).alloc (by simp; omega) _
 have hgl : g < w.heap.size := h.bk.lt
 have hAl := h.lt
 have HL := Lib.hid hAl
 clear h hAl
 go_enter Tryz.func192, Tryz.ntmps192
 go_wp2_with fail
 generalize ((w.alloc (.cells #[.pointer (some ⟨g, 0, none⟩)] 156)).alloc (.cells #[.int .i64 n] 3)).alloc (.cells #[.slice none 0 0] 66) = w2 at *
 obtain ⟨b2, hb2v⟩ : ∃ b, w.heap.size + 1 + 1 = b := ⟨_, rfl⟩
 rw [hb2v] at B2 ⊢
 obtain ⟨b1, hb1v⟩ : ∃ b, w.heap.size + 1 = b := ⟨_, rfl⟩
 rw [hb1v] at B1 ⊢
 have HV2 := Lib.hid hb2v
 clear hb2v hb1v
 have HS := Lib.hid hb2.size
 have key : Calls Tryz.prog 187 #[.pointer (some ⟨g, 0, none⟩), .func (.func 203) #[] #[.pointer (some ⟨w.heap.size, 0, none⟩), .pointer (some ⟨b1, 0, none⟩), .pointer (some ⟨b2, 0, none⟩)]] w2
   (ReadResV w2 g A c l b2 w2.heap.size (after [] p e (coreRaw l n p)).val (after [] p e (coreRaw l n p)).at' (after [] p e (coreRaw l n p)).err) := by
  have hne : b2 ≠ g := by have := HV2.out; omega
  by_cases he : e = 0
  ·subst he
   rw [after_zero]
   exact read_okV w2 g A c l p _ _ b2 _ _ _ _ R2 hne coreRaw_at (run_callFunc_enter Tryz.func203 (by kernel_rfl) (by kernel_rfl) _)
    (rawC w2 g A c l p n _ b1 b2 hn R2 B0 B1 B2 hne (fun a ha => by have := HL.out a ha; have := HV2.out; omega))
  ·rw [after_ne _ _ _ he]
   exact read_noV w2 g A c l p e _ b2 _ R2 B2 he
 refine key.mono ?_
 rintro en w3 ⟨rfl, ch3, ⟨v, b3, s3⟩, r3⟩
 obtain ⟨A', c', rfl⟩ := s3.form
 have cv := b3.cell 0
 have fv := b3.frozen 0
 simp at cv
 have HZ := Lib.hid (rd_close hb2 ch3 b3 r3 (by have := HV2.out; omega) hgl HL.out)
 have HB := Lib.hid (bs_set s3 b3 (by decide) 0 (.slice A' (after [] p e (coreRaw l n p)).val.length c'))
 clear key R2 B0 B1 B2 hb2 ch3 b3 r3 s3 HL
 generalize after ([] : List UInt8) p e (coreRaw l n p) = K at *
 go_wp2
 have c4 := HZ.out.1
 exact bodyPost_ret (v := .slice A' K.val.length c') (by simp [results, Tryz.results192, go_sem, c4]) rfl ⟨A', c', rfl, HB.out.mono HS.out, HZ.out.2⟩
end Go.Proofs.YtlhnhjglcbggmaaGreatRR
namespace Go.Proofs.YtlhnhjglcbggmaaGreatRR
set_option linter.unusedSimpArgs false
set_option linter.unusedVariables false
open Go.RowKit
set_option maxRecDepth 100000

set_option maxHeartbeats 1000000 in
theorem Err_any (w : World) (g : Nat) (A : Option Addr) (c : Nat) (l : List UInt8) (p : Nat) (e : Int) (h : Re w g A c l p e) :
  Calls Tryz.prog 132 #[.pointer (some ⟨g, 0, none⟩)] w fun en w' => en = .returned (.int .i64 e) ∧ w = w' := by
 have c0 : w.cell? ⟨g, 0, none⟩ = some (.bool true) := h.bk.cell 0
 have c3 : w.cell? ⟨g, 3, none⟩ = some (.int .i64 e) := h.bk.cell 3
 clear h
 go_enter Tryz.func132, Tryz.ntmps132
 go_wp2
 go_ret
 exact ⟨rfl, rfl⟩

set_option maxHeartbeats 1000000 in
theorem Left_any (w : World) (g : Nat) (A : Option Addr) (c : Nat) (l : List UInt8) (p : Nat) (e : Int) (h : Re w g A c l p e) :
  Calls Tryz.prog 133 #[.pointer (some ⟨g, 0, none⟩)] w fun en w' => en = .returned (.int .i64 ((l.length : Int) - p)) ∧ ∃ n, w' = w.drewN n := by
 have c1 : w.cell? ⟨g, 1, none⟩ = some (.slice A l.length c) := h.bk.cell 1
 have c2 : w.cell? ⟨g, 2, none⟩ = some (.int .i64 p) := h.bk.cell 2
 have hle := h.le
 have hreach := h.reach
 unfold reach47 at hreach
 have W1 : IntKind.i64.wrap ((l.length : Int) - p) = (l.length : Int) - p := by rw [IntKind.wrap_i64]; omega
 clear h
 go_enter Tryz.func133, Tryz.ntmps133
 go_wp2
 go_quiet (fail)
 go_wp2
 go_ret
 exact ⟨rfl, nq, rfl⟩

def endErr (l : List UInt8) (p : Nat) (e : Int) : Int := if e = 0 then (if p < l.length then 13 else 0) else e
def SameRe (g : Nat) (A : Option Addr) (c : Nat) (l : List UInt8) (p : Nat) (e : Int) (x : Int) (w : World) (en : Ending) (w' : World) : Prop :=
 en = .returned (.int .i64 x) ∧ Ch [g] w w' ∧ Re w' g A c l p e
set_option maxHeartbeats 1000000 in
theorem End_any (w : World) (g : Nat) (A : Option Addr) (c : Nat) (l : List UInt8) (p : Nat) (e : Int) (h : Re w g A c l p e) :
  Calls Tryz.prog 79 #[.pointer (some ⟨g, 0, none⟩)] w (SameRe g A c l p e (endErr l p e) w) := by
 have H := Lib.hid h
 clear h
 have hle := H.out.le
 by_cases he : e = 0
 ·subst he
  go_enter Tryz.func79, Tryz.ntmps79
  go_wp2_with fail
  refine (Err_any w g A c l p 0 H.out).mono ?_
  rintro en w1 ⟨rfl, rfl⟩
  go_wp2_with fail
  refine (Left_any w g A c l p 0 H.out).mono ?_
  rintro en w1 ⟨rfl, nd, rfl⟩
  by_cases hp : p < l.length
  ·have hk : endErr l p 0 = 13 := by unfold endErr; rw [if_pos rfl, if_pos hp]
   have HK := Lib.hid hk
   have hp' : (0 : Int) < (l.length : Int) - p := by omega
   clear hk
   go_wp2
   go_ret
   rw [HK.out]
   exact ⟨rfl, (Ch.refl _ _).drewN _, H.out.drewN _⟩
  ·have hk : endErr l p 0 = 0 := by unfold endErr; rw [if_pos rfl, if_neg hp]
   have HK := Lib.hid hk
   have hp' : ¬ (0 : Int) < (l.length : Int) - p := by omega
   clear hk
   go_wp2
   go_ret
   rw [HK.out]
   exact ⟨rfl, (Ch.refl _ _).drewN _, H.out.drewN _⟩
 ·have h1 : (e != 0) = true := by simp [he]
  have h2 : (e == 0) = false := by simp [he]
  have hk : endErr l p e = e := by unfold endErr; rw [if_neg he]
  have HK := Lib.hid hk
  clear hk he
  go_enter Tryz.func79, Tryz.ntmps79
  go_wp2_with fail
  refine (Err_any w g A c l p e H.out).mono ?_
  rintro en w1 ⟨rfl, rfl⟩
  go_wp2
  go_ret
  rw [HK.out]
  exact ⟨rfl, Ch.refl _ _, H.out⟩

def small (n : Nat) : Nat := min n 2147483647
set_option maxHeartbeats 1000000 in
theorem narrow_any (w : World) (n : Nat) :
  Calls Tryz.prog 136 #[.int .u64 n] w fun en w' => en = .returned (.int .i64 (small n)) ∧ w = w' := by
 by_cases hn : n ≤ 2147483647
 ·have hk : small n = n := by unfold small; omega
  have HK := Lib.hid hk
  have W : IntKind.i64.wrap (n : Int) = n := by rw [IntKind.wrap_i64]; omega
  have h1 : (n : Int) ≤ 2147483647 := by omega
  clear hk
  go_enter Tryz.func136, Tryz.ntmps136
  go_wp2
  go_ret
  rw [HK.out]
  exact ⟨rfl, rfl⟩
 ·have hk : small n = 2147483647 := by unfold small; omega
  have HK := Lib.hid hk
  have h1 : ¬ (n : Int) ≤ 2147483647 := by omega
  have h2 : (2147483647 : Int) < n := by omega
  clear hk
  go_enter Tryz.func136, Tryz.ntmps136
  go_wp2
  go_ret
  rw [HK.out]
  exact ⟨rfl, rfl⟩

theorem re_new {w1 : World} {B c' : Nat} {A' : Option Addr} {l : List UInt8} (hs : Bs w1 B (.slice A' l.length c') l) (hl : l.length ≤ reach47) :
  Re (w1.alloc (.cells #[.bool true, .slice A' l.length c', .int .i64 0, .int .i64 0] 217)) w1.heap.size A' c' l 0 0 ∧ (∀ a, A' = some a → B ≤ a.block) := by
 have hlt : ∀ a, A' = some a → B ≤ a.block ∧ a.block < w1.heap.size := fun a ha => World.ownsRow.lt hs a.block (by rw [ha]; rfl)
 have hcap : l.length ≤ c' ∧ c' ≤ 9223372036854775807 := by
  rcases hs.2 with ⟨h1, h2⟩ | ⟨g, cap, cur, hv, _, _, h3, h4, _⟩
  ·injection h1 with _ _ h3
   subst h3
   exact ⟨by omega, by omega⟩
  ·injection hv with _ _ h5
   subst h5
   unfold maxLen at h4
   exact ⟨h3, h4⟩
 exact ⟨⟨Bk.new _ _ _, hs.rd.alloc _, fun a ha => by have := hlt a ha; omega, fun a ha => by have := hlt a ha; simp; omega, Nat.zero_le _, hcap.1, hcap.2, hl⟩, fun a ha => (hlt a ha).1⟩

set_option maxHeartbeats 1000000 in
theorem newReader_any (w : World) (A : Option Addr) (n c : Nat) (l : List UInt8) (hr : Rd w A (bv l)) (hn : n = l.length) (hl : l.length ≤ reach47) :
  Calls Tryz.prog 78 #[.slice A n c] w fun en w' => ∃ g A' c', en = .returned (.pointer (some ⟨g, 0, none⟩)) ∧ Re w' g A' c' l 0 0 ∧ w.heap.size ≤ g ∧ (∀ a, A' = some a → w.heap.size ≤ a.block) ∧ Below w.heap.size w w' := by
 have HR := Lib.hid hr
 have HN := Lib.hid hn
 have HL := Lib.hid hl
 clear hr hn hl
 go_enter Tryz.func78, Tryz.ntmps78
 go_wp2_with fail
 refine (clone_any w A n c l HR.out HN.out HL.out).mono ?_
 rintro e w1 ⟨v, rfl, hs, hb⟩
 obtain ⟨A', c', rfl⟩ := hs.form
 have HS := Lib.hid hs
 have HB := Lib.hid hb
 clear hs hb
 go_wp2
 go_ret
 obtain ⟨h1, h2⟩ := re_new HS.out HL.out
 have := HB.out.size
 exact ⟨w1.heap.size, A', c', rfl, h1, this, h2, HB.out.alloc this _⟩
end Go.Proofs.YtlhnhjglcbggmaaGreatRR
namespace Go.Proofs.YtlhnhjglcbggmaaGreatRR
set_option linter.unusedSimpArgs false
set_option linter.unusedVariables false
open Go.RowKit
set_option maxRecDepth 100000

theorem step_call {P : Program} {ops : Array Oper} {o : Oper} {a : Act} {w : World} {K : Act → World → Prop} {Q : Exit → Act → World → Prop} {E : Prop} (hgd : o.guard = none) {f : FuncId} {vs : Array Value} {post : Ending → World → Prop}
  (hrun : (execOp a.eval o).run P w = .ok (.enter f vs) w) (hc : Calls P f vs w post) (hK : ∀ e w', post e w' → ∃ v, e = .returned v ∧ K (a.put o.dst v) w') :
  if Region.wanted o (yielded ops a.tmps) = true then Oper.wp P o a w K Q else E := by
 have hw : Region.wanted o (yielded ops a.tmps) = true := by simp [Region.wanted, hgd]
 rw [if_pos hw]
 unfold Oper.wp
 rw [hrun]
 refine Calls.mono hc fun e w' he => ?_
 obtain ⟨v, rfl, hv⟩ := hK e w' he
 exact hv

/-- bytes laid into so many cells -/
def padded (n : Nat) (l : List UInt8) : List UInt8 := l ++ zeros (n - l.length)
theorem splice_zero (n : Nat) (l : List UInt8) : Go.splice (bv (zeros n)) 0 (bv l) = bv (padded n l) := by
 unfold Go.splice padded
 rw [bv_append]
 simp [bv, zeros]
theorem coreRaw_le {l : List UInt8} {n p : Nat} : (coreRaw l n p).val.length ≤ n := by
 unfold coreRaw
 split
 ·simp
 ·simp; omega
theorem after_le {l : List UInt8} {n p : Nat} {e : Int} : (after [] p e (coreRaw l n p)).val.length ≤ n := by
 unfold after
 split
 ·exact coreRaw_le
 ·simp
theorem re_any {w w' : World} {g : Nat} {A : Option Addr} {c : Nat} {l : List UInt8} {p : Nat} {e : Int} (h : Re w g A c l p e) (hh : w'.heap = w.heap) : Re w' g A c l p e :=
 ⟨by unfold Bk; rw [hh]; exact h.bk, fun j u hu => by
   obtain ⟨ad, ha, hc⟩ := h.rd j u hu
   exact ⟨ad, ha, by rw [World.cell?_of_block (w := w) (by rw [hh])]; exact hc⟩, h.ne, fun a ha => by rw [hh]; exact h.lt a ha, h.le, h.cap, h.room, h.reach⟩

theorem rd_pos {w : World} {A : Option Addr} {xs : List Value} (h : Rd w A xs) (h0 : 0 < xs.length) : ∃ ad, A = some ad ∧ ∀ j v, xs[j]? = some v → w.cell? (ad.add j) = some v := by
 obtain ⟨ad, ha, _⟩ := h.at_ h0
 subst ha
 exact ⟨ad, rfl, fun j v hj => by
  obtain ⟨ad', ha', hc⟩ := h j v hj
  cases ha'
  exact hc⟩
theorem re_low {w w' : World} {g : Nat} {A : Option Addr} {c : Nat} {l : List UInt8} {p : Nat} {e : Int} {B : Nat} (h : Re w g A c l p e) (hb : Below B w w') (hg : g < B) (hA : ∀ a, A = some a → a.block < B) : Re w' g A c l p e :=
 ⟨h.bk.below hb hg, h.rd.of_cells fun ad j ha _ => hb.cell (by rw [add_block]; exact hA ad ha), h.ne, fun a ha => Nat.lt_of_lt_of_le (h.lt a ha) hb.size, h.le, h.cap, h.room, h.reach⟩
theorem re_own {w w' : World} {g : Nat} {A : Option Addr} {c : Nat} {l : List UInt8} {p : Nat} {e : Int} {b : Nat} (h : Re w g A c l p e) (hg' : w.grownBy w' (some b)) (hg : g < b) (hA : ∀ a, A = some a → a.block < b) : Re w' g A c l p e :=
 h.ch (Ch.of_grown hg') (by simp; omega) (fun a ha => by have := hA a ha; simp; omega)
theorem ch_own {w w4 w5 : World} {g b : Nat} (h : Ch [g] w w4) (hg' : w4.grownBy w5 (some b)) (hb : w.heap.size ≤ b) : Ch [g] w w5 :=
 h.trans (Ch.of_grown hg') (fun k hk => .inr (by simp at hk; omega))
theorem ch_low {w w1 w3 w4 : World} {g B : Nat} (h1 : Below w.heap.size w w1) (ch3 : Ch [g] w1.drew w3) (hb : Below B w3 w4) (hB : w.heap.size ≤ B) : Ch [g] w w4 :=
 ⟨(hb.os.trans ch3.os).trans h1.os, (hb.tape.trans ch3.tape).trans h1.tape, (hb.output.trans ch3.output).trans h1.output, Nat.le_trans (Nat.le_trans h1.size ch3.size) hb.size, fun k hk hn => by
  rw [hb.block k (by omega), ch3.block k (Nat.lt_of_lt_of_le hk h1.size) hn]
  exact h1.block k hk⟩

set_option maxHeartbeats 2000000 in
theorem getHash_any (w : World) (g : Nat) (A : Option Addr) (c : Nat) (l : List UInt8) (p : Nat) (e : Int) (h : Re w g A c l p e) :
  Calls Tryz.prog 137 #[.pointer (some ⟨g, 0, none⟩)] w (RdRes g A c l (after [] p e (coreRaw l 32 p)) (fun x => .agg (bv (padded 32 x)).toArray) w) := by
 have H := Lib.hid h
 have hgl : g < w.heap.size := h.bk.lt
 clear h
 have hle : (after [] p e (coreRaw l 32 p)).val.length ≤ 32 := after_le
 have key0 := fun (wx : World) (hx : Re wx g A c l p e) => Raw_any wx g A c l p e 32 (by omega) hx
 generalize after [] p e (coreRaw l 32 p) = K at *
 have HLE := Lib.hid hle
 have HKEY := Lib.hid key0
 clear hle key0
 go_enter Tryz.func137, Tryz.ntmps137
 go_wp2_with (with_reducible show wpList _ _ _ (Oper.mk _ (Op.alloc _) _ _ _ _ :: _) _ _; refine wpList_alloc_bk rfl _ rfl (.agg (bv (zeros 32)).toArray) (by kernel_rfl) ?_)
 intro bh w1 hk1 hb1 hg1 hs1
 have HR := Lib.hid (H.out.below hb1)
 have HB := Lib.hid hb1
 have HK := Lib.hid hk1
 have HG := Lib.hid hg1
 have HN := Lib.hid (show bh ≠ g by omega)
 clear hb1 hk1 hg1 hs1
 go_wp2
 go_region_law (first
  | (refine step_copy_splice rfl (.tmp 3) (.tmp 5) 66 66 rfl 5 Tryz.underlying66 (by kernel_rfl) (some ⟨bh, 0, none⟩) A3 32 32 K.val.length c3 (by simp [Act.eval, Act.put]) (by simp [Act.eval, Act.put]) bh 0 (bv (zeros 32)) 29 HK3.out (bv K.val) (by rw [bv_length]; exact (Nat.min_eq_left HLE.out).symm) (fun h0 => ⟨rfl, rd_pos HS3.out.rd h0⟩) (by have := HLE.out; simp [bv_length, zeros]; omega) (bv_one _) bh w3 (Below.refl _ _) (Nat.le_refl _) ?_; intro w4 hg4 hb4)
  | (refine step_call rfl (by go_simp) (HKEY.out _ (re_any HR.out rfl)) ?_; rintro e3 w3 ⟨A3, c3, rfl, hs3, ch3, re3⟩; refine ⟨_, rfl, ?_⟩; have HS3 := Lib.hid hs3; have HC3 := Lib.hid ch3; have HR3 := Lib.hid re3; have HK3 := Lib.hid (Bk.ch (w := w1.drew) HK.out ch3 (by simpa using HN.out)); clear hs3 ch3 re3))
 have R4 := re_low HR3.out hb4 (by have := HG.out; omega) (fun a ha => by have := H.out.lt a ha; have := HG.out; omega)
 have C4 := ch_low (w := w) (HB.out) (ch3 := HC3.out) hb4 (by have := HG.out; omega)
 have hg4' := hg4.out
 rw [splice_zero] at hg4'
 have B4 : Bk w4 bh (bv (padded 32 K.val)).toArray 29 := hg4'
 clear hg4' hg4 hb4
 have hpl : (bv (padded 32 K.val)).length = 32 := by have := HLE.out; simp [bv_length, padded, zeros]; omega
 have HPL := Lib.hid hpl
 have HR4 := Lib.hid R4
 have HC4 := Lib.hid C4
 clear R4 C4 hpl
 have HSZ := Lib.hid (show ((Tryz.prog.info? 29).map (·.size)) = some (Value.agg (bv (padded 32 K.val)).toArray).cells.size from by
  rw [show ((Tryz.prog.info? 29).map (·.size)) = some 32 from by kernel_rfl]
  exact congrArg some (by simp [Value.cells, HPL.out]))
 have HONE := Lib.hid (show ∀ u ∈ (Value.agg (bv (padded 32 K.val)).toArray).cells.toList, u.oneCell' = true from by
  simpa [Value.cells] using bv_one (padded 32 K.val))
 go_wp2_with (first
  | (with_reducible show wpList _ _ _ (Oper.mk _ (Op.load _ _) _ _ _ _ :: _) _ _; refine wpList_load_part rfl 29 _ rfl bh 0 32 rfl _ _ _ B4 Tryz.underlying29 rfl (by kernel_rfl) (by simp [HPL.out]) _ (cl_all HPL.out) ?_)
  | (with_reducible show wpList _ _ _ (Oper.mk _ (Op.store _ _ _) _ _ _ _ :: _) _ _; go_must (refine wpList_store_bk rfl 29 _ _ rfl bh rfl (.agg (bv (padded 32 K.val)).toArray) rfl _ _ B4 HSZ.out rfl HONE.out ?_; intro w5 hk5 hg5 hs5)))
 have HC5 := Lib.hid (ch_own (w := w) HC4.out hg5 (by have := HG.out; omega))
 have HR5 := Lib.hid (re_own HR4.out hg5 (by have := HG.out; omega) (fun a ha => by have := H.out.lt a ha; have := HG.out; omega))
 exact bodyPost_cell Tryz.results137 rfl hk5 Tryz.underlying29 rfl (show ((Tryz.prog.info? 29).map (·.size)) = some 32 from by kernel_rfl) (by simp [Value.cells, HPL.out]) rfl ⟨rfl, HC5.out, HR5.out⟩

set_option maxHeartbeats 2000000 in
theorem getSeal_any (w : World) (g : Nat) (A : Option Addr) (c : Nat) (l : List UInt8) (p : Nat) (e : Int) (h : Re w g A c l p e) :
  Calls Tryz.prog 193 #[.pointer (some ⟨g, 0, none⟩)] w (RdRes g A c l (after [] p e (coreRaw l 16 p)) (fun x => .agg (bv (padded 16 x)).toArray) w) := by
 have H := Lib.hid h
 have hgl : g < w.heap.size := h.bk.lt
 clear h
 have hle : (after [] p e (coreRaw l 16 p)).val.length ≤ 16 := after_le
 have key0 := fun (wx : World) (hx : Re wx g A c l p e) => Raw_any wx g A c l p e 16 (by omega) hx
 generalize after [] p e (coreRaw l 16 p) = K at *
 have HLE := Lib.hid hle
 have HKEY := Lib.hid key0
 clear hle key0
 go_enter Tryz.func193, Tryz.ntmps193
 go_wp2_with (with_reducible show wpList _ _ _ (Oper.mk _ (Op.alloc _) _ _ _ _ :: _) _ _; refine wpList_alloc_bk rfl _ rfl (.agg (bv (zeros 16)).toArray) (by kernel_rfl) ?_)
 intro bh w1 hk1 hb1 hg1 hs1
 have HR := Lib.hid (H.out.below hb1)
 have HB := Lib.hid hb1
 have HK := Lib.hid hk1
 have HG := Lib.hid hg1
 have HN := Lib.hid (show bh ≠ g by omega)
 clear hb1 hk1 hg1 hs1
 go_wp2
 go_region_law (first
  | (refine step_copy_splice rfl (.tmp 3) (.tmp 5) 66 66 rfl 5 Tryz.underlying66 (by kernel_rfl) (some ⟨bh, 0, none⟩) A3 16 16 K.val.length c3 (by simp [Act.eval, Act.put]) (by simp [Act.eval, Act.put]) bh 0 (bv (zeros 16)) 25 HK3.out (bv K.val) (by rw [bv_length]; exact (Nat.min_eq_left HLE.out).symm) (fun h0 => ⟨rfl, rd_pos HS3.out.rd h0⟩) (by have := HLE.out; simp [bv_length, zeros]; omega) (bv_one _) bh w3 (Below.refl _ _) (Nat.le_refl _) ?_; intro w4 hg4 hb4)
  | (refine step_call rfl (by go_simp) (HKEY.out _ (re_any HR.out rfl)) ?_; rintro e3 w3 ⟨A3, c3, rfl, hs3, ch3, re3⟩; refine ⟨_, rfl, ?_⟩; have HS3 := Lib.hid hs3; have HC3 := Lib.hid ch3; have HR3 := Lib.hid re3; have HK3 := Lib.hid (Bk.ch (w := w1.drew) HK.out ch3 (by simpa using HN.out)); clear hs3 ch3 re3))
 have R4 := re_low HR3.out hb4 (by have := HG.out; omega) (fun a ha => by have := H.out.lt a ha; have := HG.out; omega)
 have C4 := ch_low (w := w) (HB.out) (ch3 := HC3.out) hb4 (by have := HG.out; omega)
 have hg4' := hg4.out
 rw [splice_zero] at hg4'
 have B4 : Bk w4 bh (bv (padded 16 K.val)).toArray 25 := hg4'
 clear hg4' hg4 hb4
 have hpl : (bv (padded 16 K.val)).length = 16 := by have := HLE.out; simp [bv_length, padded, zeros]; omega
 have HPL := Lib.hid hpl
 have HR4 := Lib.hid R4
 have HC4 := Lib.hid C4
 clear R4 C4 hpl
 have HSZ := Lib.hid (show ((Tryz.prog.info? 25).map (·.size)) = some (Value.agg (bv (padded 16 K.val)).toArray).cells.size from by
  rw [show ((Tryz.prog.info? 25).map (·.size)) = some 16 from by kernel_rfl]
  exact congrArg some (by simp [Value.cells, HPL.out]))
 have HONE := Lib.hid (show ∀ u ∈ (Value.agg (bv (padded 16 K.val)).toArray).cells.toList, u.oneCell' = true from by
  simpa [Value.cells] using bv_one (padded 16 K.val))
 go_wp2_with (first
  | (with_reducible show wpList _ _ _ (Oper.mk _ (Op.load _ _) _ _ _ _ :: _) _ _; refine wpList_load_part rfl 25 _ rfl bh 0 16 rfl _ _ _ B4 Tryz.underlying25 rfl (by kernel_rfl) (by simp [HPL.out]) _ (cl_all HPL.out) ?_)
  | (with_reducible show wpList _ _ _ (Oper.mk _ (Op.store _ _ _) _ _ _ _ :: _) _ _; go_must (refine wpList_store_bk rfl 25 _ _ rfl bh rfl (.agg (bv (padded 16 K.val)).toArray) rfl _ _ B4 HSZ.out rfl HONE.out ?_; intro w5 hk5 hg5 hs5)))
 have HC5 := Lib.hid (ch_own (w := w) HC4.out hg5 (by have := HG.out; omega))
 have HR5 := Lib.hid (re_own HR4.out hg5 (by have := HG.out; omega) (fun a ha => by have := H.out.lt a ha; have := HG.out; omega))
 exact bodyPost_cell Tryz.results193 rfl hk5 Tryz.underlying25 rfl (show ((Tryz.prog.info? 25).map (·.size)) = some 16 from by kernel_rfl) (by simp [Value.cells, HPL.out]) rfl ⟨rfl, HC5.out, HR5.out⟩

end Go.Proofs.YtlhnhjglcbggmaaGreatRR

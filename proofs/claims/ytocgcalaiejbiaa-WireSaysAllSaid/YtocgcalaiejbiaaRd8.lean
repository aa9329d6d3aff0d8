/-
  Reader.Text, Err, Left, End; NewReader; narrow; a seal that is not read. Condition: the Reader was made by NewReader (Re); NewReader's bytes are within reach.
-/
import Derived.Test.YtocgcalaiejbiaaRd7
namespace Go.Proofs.Ytocgcalaiejbiaa
set_option linter.unusedSimpArgs false
set_option linter.unusedVariables false
open Go.RowKit
set_option maxRecDepth 100000

set_option maxHeartbeats 1000000 in
theorem getText_any (w : World) (g : Nat) (A : Option Addr) (c : Nat) (l : List UInt8) (p : Nat) (e : Int) (most : Nat) (hm : most ≤ 1000000) (h : Re w g A c l p e) :
    Calls Try.prog 105 #[.pointer (some ⟨g, 0, none⟩), .int .i64 most] w (RdRes g A c l (after [] p e (coreText most l p)) toStr w) := by
  have R2 := ((h.alloc (.cells #[.pointer (some ⟨g, 0, none⟩)] 115)).alloc (.cells #[.int .i64 most] 3)).alloc (.cells #[.string ByteArray.empty] 9)
  have B0 : Bk (((w.alloc (.cells #[.pointer (some ⟨g, 0, none⟩)] 115)).alloc (.cells #[.int .i64 most] 3)).alloc (.cells #[.string ByteArray.empty] 9)) w.heap.size #[.pointer (some ⟨g, 0, none⟩)] 115 := ((Bk.new w 115 _).alloc _).alloc _
  have B1 : Bk (((w.alloc (.cells #[.pointer (some ⟨g, 0, none⟩)] 115)).alloc (.cells #[.int .i64 most] 3)).alloc (.cells #[.string ByteArray.empty] 9)) (w.heap.size + 1) #[.int .i64 most] 3 := by
    have := ((Bk.new (w.alloc (.cells #[.pointer (some ⟨g, 0, none⟩)] 115)) 3 #[.int .i64 most]).alloc (.cells #[.string ByteArray.empty] 9))
    simpa using this
  have B2 : Bk (((w.alloc (.cells #[.pointer (some ⟨g, 0, none⟩)] 115)).alloc (.cells #[.int .i64 most] 3)).alloc (.cells #[.string ByteArray.empty] 9)) (w.heap.size + 1 + 1) #[.string ByteArray.empty] 9 := by
    have := Bk.new ((w.alloc (.cells #[.pointer (some ⟨g, 0, none⟩)] 115)).alloc (.cells #[.int .i64 most] 3)) 9 #[.string ByteArray.empty]
    simpa using this
  have hb2 : Below w.heap.size w (((w.alloc (.cells #[.pointer (some ⟨g, 0, none⟩)] 115)).alloc (.cells #[.int .i64 most] 3)).alloc (.cells #[.string ByteArray.empty] 9)) := (((Below.refl _ _).alloc (Nat.le_refl _) _).alloc (by simp) _).alloc (by simp; omega) _
  have hgl : g < w.heap.size := h.bk.lt
  have hAl := h.lt
  have HL := Lib.hid hAl
  clear h hAl
  go_enter Try.func105, Try.ntmps105
  go_wp2_with fail
  have hW : ((w.alloc (.cells #[.pointer (some ⟨g, 0, none⟩)] 115)).alloc (.cells #[.int .i64 most] 3)).alloc (.cells #[.string { data := #[] }] 9) = ((w.alloc (.cells #[.pointer (some ⟨g, 0, none⟩)] 115)).alloc (.cells #[.int .i64 most] 3)).alloc (.cells #[.string ByteArray.empty] 9) := rfl
  try rw [hW]
  clear hW
  generalize ((w.alloc (.cells #[.pointer (some ⟨g, 0, none⟩)] 115)).alloc (.cells #[.int .i64 most] 3)).alloc (.cells #[.string ByteArray.empty] 9) = w2 at *
  obtain ⟨b2, hb2v⟩ : ∃ b, w.heap.size + 1 + 1 = b := ⟨_, rfl⟩
  rw [hb2v] at B2 ⊢
  obtain ⟨b1, hb1v⟩ : ∃ b, w.heap.size + 1 = b := ⟨_, rfl⟩
  rw [hb1v] at B1 ⊢
  have HV2 := Lib.hid hb2v
  have HV1 := Lib.hid hb1v
  clear hb2v hb1v
  have key : Calls Try.prog 102 #[.pointer (some ⟨g, 0, none⟩), .func (.func 115) #[] #[.pointer (some ⟨b1, 0, none⟩), .pointer (some ⟨w.heap.size, 0, none⟩), .pointer (some ⟨b2, 0, none⟩)]] w2
      (ReadRes w2 g A c l b2 9 (toStr (after [] p e (coreText most l p)).val) (after [] p e (coreText most l p)).at' (after [] p e (coreText most l p)).err) := by
    have hne : b2 ≠ g := by have := HV2.out; omega
    by_cases he : e = 0
    · subst he
      rw [after_zero]
      exact read_ok w2 g A c l p _ _ b2 _ _ _ _ R2 hne coreText_at (run_callFunc_enter Try.func115 (by kernel_rfl) (by kernel_rfl) _)
        (textC w2 g A c l p most b1 _ b2 hm R2 B1 B0 B2 hne (by have := HV1.out; omega) (by omega) (fun a ha => by have := HL.out a ha; have := HV2.out; omega))
    · rw [after_ne _ _ _ he]
      exact read_no w2 g A c l p e _ b2 _ _ R2 B2 he
  refine key.mono ?_
  rintro en w3 ⟨rfl, ch3, b3, r3⟩
  have cv := b3.cell 0
  have fv := b3.frozen 0
  simp at cv
  have HZ := Lib.hid (rd_close hb2 ch3 b3 r3 (by have := HV2.out; omega) hgl HL.out)
  clear key R2 B0 B1 B2 hb2 ch3 b3 r3 HL
  generalize after ([] : List UInt8) p e (coreText most l p) = K at *
  go_wp2
  have c4 := HZ.out.1
  exact bodyPost_ret (v := toStr K.val) (by simp [results, Try.results105, go_sem, c4]) rfl ⟨rfl, HZ.out.2⟩

set_option maxHeartbeats 1000000 in
theorem dText_any (w : World) (g : Nat) (A : Option Addr) (c : Nat) (l : List UInt8) (p : Nat) (e : Int) (h : Re w g A c l p e) :
    Calls Try.prog 81 #[.pointer (some ⟨g, 0, none⟩), .int .i64 16] w (RdRes g A c l (after [] p e (coreText 16 l p)) toStr w) := by
  have hc := getText_any w g A c l p e 16 (by omega) h
  have HC := Lib.hid hc
  clear hc h
  go_enter Try.func81, Try.ntmps81
  go_wp2_with fail
  refine HC.out.mono ?_
  rintro en w1 ⟨rfl, h1⟩
  go_wp2
  go_ret
  exact ⟨rfl, h1⟩

set_option maxHeartbeats 1000000 in
theorem Err_any (w : World) (g : Nat) (A : Option Addr) (c : Nat) (l : List UInt8) (p : Nat) (e : Int) (h : Re w g A c l p e) :
    Calls Try.prog 80 #[.pointer (some ⟨g, 0, none⟩)] w fun en w' => en = .returned (.int .i64 e) ∧ w = w' := by
  have c0 : w.cell? ⟨g, 0, none⟩ = some (.bool true) := h.bk.cell 0
  have c3 : w.cell? ⟨g, 3, none⟩ = some (.int .i64 e) := h.bk.cell 3
  clear h
  go_enter Try.func80, Try.ntmps80
  go_wp2
  go_ret
  exact ⟨rfl, rfl⟩

set_option maxHeartbeats 1000000 in
theorem Left_any (w : World) (g : Nat) (A : Option Addr) (c : Nat) (l : List UInt8) (p : Nat) (e : Int) (h : Re w g A c l p e) :
    Calls Try.prog 106 #[.pointer (some ⟨g, 0, none⟩)] w fun en w' => en = .returned (.int .i64 ((l.length : Int) - p)) ∧ ∃ n, w' = w.drewN n := by
  have c1 : w.cell? ⟨g, 1, none⟩ = some (.slice A l.length c) := h.bk.cell 1
  have c2 : w.cell? ⟨g, 2, none⟩ = some (.int .i64 p) := h.bk.cell 2
  have hle := h.le
  have hreach := h.reach
  unfold reach47 at hreach
  have W1 : IntKind.i64.wrap ((l.length : Int) - p) = (l.length : Int) - p := by rw [IntKind.wrap_i64]; omega
  clear h
  go_enter Try.func106, Try.ntmps106
  go_wp2
  go_quiet (fail)
  go_wp2
  go_ret
  exact ⟨rfl, nq, rfl⟩

def endErr (l : List UInt8) (p : Nat) (e : Int) : Int := if e = 0 then (if p < l.length then 13 else 0) else e
def SameRe (g : Nat) (A : Option Addr) (c : Nat) (l : List UInt8) (p : Nat) (e : Int) (x : Int) (w : World) (en : Ending) (w' : World) : Prop :=
  en = .returned (.int .i64 x) ∧ Ch [g] w w' ∧ Re w' g A c l p e
set_option maxHeartbeats 1000000 in
theorem End_any (w : World) (g : Nat) (A : Option Addr) (c : Nat) (l : List UInt8) (p : Nat) (e : Int) (h : Re w g A c l p e) :
    Calls Try.prog 82 #[.pointer (some ⟨g, 0, none⟩)] w (SameRe g A c l p e (endErr l p e) w) := by
  have H := Lib.hid h
  clear h
  have hle := H.out.le
  by_cases he : e = 0
  · subst he
    go_enter Try.func82, Try.ntmps82
    go_wp2_with fail
    refine (Err_any w g A c l p 0 H.out).mono ?_
    rintro en w1 ⟨rfl, rfl⟩
    go_wp2_with fail
    refine (Left_any w g A c l p 0 H.out).mono ?_
    rintro en w1 ⟨rfl, nd, rfl⟩
    by_cases hp : p < l.length
    · have hk : endErr l p 0 = 13 := by unfold endErr; rw [if_pos rfl, if_pos hp]
      have HK := Lib.hid hk
      have hp' : (0 : Int) < (l.length : Int) - p := by omega
      clear hk
      go_wp2
      go_ret
      rw [HK.out]
      exact ⟨rfl, (Ch.refl _ _).drewN _, H.out.drewN _⟩
    · have hk : endErr l p 0 = 0 := by unfold endErr; rw [if_pos rfl, if_neg hp]
      have HK := Lib.hid hk
      have hp' : ¬ (0 : Int) < (l.length : Int) - p := by omega
      clear hk
      go_wp2
      go_ret
      rw [HK.out]
      exact ⟨rfl, (Ch.refl _ _).drewN _, H.out.drewN _⟩
  · have h1 : (e != 0) = true := by simp [he]
    have h2 : (e == 0) = false := by simp [he]
    have hk : endErr l p e = e := by unfold endErr; rw [if_neg he]
    have HK := Lib.hid hk
    clear hk he
    go_enter Try.func82, Try.ntmps82
    go_wp2_with fail
    refine (Err_any w g A c l p e H.out).mono ?_
    rintro en w1 ⟨rfl, rfl⟩
    go_wp2
    go_ret
    rw [HK.out]
    exact ⟨rfl, Ch.refl _ _, H.out⟩

def small (n : Nat) : Nat := min n 2147483647
set_option maxHeartbeats 1000000 in
theorem narrow_any (w : World) (n : Nat) :
    Calls Try.prog 84 #[.int .u64 n] w fun en w' => en = .returned (.int .i64 (small n)) ∧ w = w' := by
  by_cases hn : n ≤ 2147483647
  · have hk : small n = n := by unfold small; omega
    have HK := Lib.hid hk
    have W : IntKind.i64.wrap (n : Int) = n := by rw [IntKind.wrap_i64]; omega
    have h1 : (n : Int) ≤ 2147483647 := by omega
    clear hk
    go_enter Try.func84, Try.ntmps84
    go_wp2
    go_ret
    rw [HK.out]
    exact ⟨rfl, rfl⟩
  · have hk : small n = 2147483647 := by unfold small; omega
    have HK := Lib.hid hk
    have h1 : ¬ (n : Int) ≤ 2147483647 := by omega
    have h2 : (2147483647 : Int) < n := by omega
    clear hk
    go_enter Try.func84, Try.ntmps84
    go_wp2
    go_ret
    rw [HK.out]
    exact ⟨rfl, rfl⟩

theorem re_new {w1 : World} {B c' : Nat} {A' : Option Addr} {l : List UInt8} (hs : Bs w1 B (.slice A' l.length c') l) (hl : l.length ≤ reach47) :
    Re (w1.alloc (.cells #[.bool true, .slice A' l.length c', .int .i64 0, .int .i64 0] 141)) w1.heap.size A' c' l 0 0 ∧ (∀ a, A' = some a → B ≤ a.block) := by
  have hlt : ∀ a, A' = some a → B ≤ a.block ∧ a.block < w1.heap.size := fun a ha => World.ownsRow.lt hs a.block (by rw [ha]; rfl)
  have hcap : l.length ≤ c' ∧ c' ≤ 9223372036854775807 := by
    rcases hs.2 with ⟨h1, h2⟩ | ⟨g, cap, cur, hv, _, _, h3, h4, _⟩
    · injection h1 with _ _ h3
      subst h3
      exact ⟨by omega, by omega⟩
    · injection hv with _ _ h5
      subst h5
      unfold maxLen at h4
      exact ⟨h3, h4⟩
  exact ⟨⟨Bk.new _ _ _, hs.rd.alloc _, fun a ha => by have := hlt a ha; omega, fun a ha => by have := hlt a ha; simp; omega, Nat.zero_le _, hcap.1, hcap.2, hl⟩, fun a ha => (hlt a ha).1⟩

set_option maxHeartbeats 1000000 in
theorem newReader_any (w : World) (A : Option Addr) (n c : Nat) (l : List UInt8) (hr : Rd w A (bv l)) (hn : n = l.length) (hl : l.length ≤ reach47) :
    Calls Try.prog 78 #[.slice A n c] w fun en w' => ∃ g A' c', en = .returned (.pointer (some ⟨g, 0, none⟩)) ∧ Re w' g A' c' l 0 0 ∧ w.heap.size ≤ g ∧ (∀ a, A' = some a → w.heap.size ≤ a.block) ∧ Below w.heap.size w w' := by
  have HR := Lib.hid hr
  have HN := Lib.hid hn
  have HL := Lib.hid hl
  clear hr hn hl
  go_enter Try.func78, Try.ntmps78
  go_wp2_with fail
  refine (clone_any w A n c l HR.out HN.out HL.out).mono ?_
  rintro e w1 ⟨v, rfl, hs, hb⟩
  obtain ⟨A', c', rfl⟩ := hs.form
  have HS := Lib.hid hs
  have HB := Lib.hid hb
  clear hs hb
  go_wp2
  go_ret
  obtain ⟨h1, h2⟩ := re_new HS.out HL.out
  have := HB.out.size
  exact ⟨w1.heap.size, A', c', rfl, h1, this, h2, HB.out.alloc this _⟩
end Go.Proofs.Ytocgcalaiejbiaa

/-
  What each call of a codec Writer does: bytes are laid down behind those that are there. Condition: the Writer was made by NewWriter (Wr), no fault is set, and at most 2^46 bytes are laid down.
-/
import Derived.Test.YtocgcalaiejbiaaProg
import Derived.Test.YtocgcalaiejbiaaEng
namespace Go.Proofs.Ytocgcalaiejbiaa
set_option linter.unusedSimpArgs false
set_option linter.unusedVariables false
open Go.RowKit

theorem info_u8 : (Try.prog.info? 5).map (fun i => (i.zero, i.size, i.bytes)) = some (some (.int .u8 0), 1, 1) := by kernel_rfl

/-- a Writer in block g, made from block B on, that holds these bytes and no fault -/
def Wr (w : World) (B g : Nat) (bs : List UInt8) : Prop :=
  ∃ sl, Bk w g #[.bool true, sl, .int .i64 0] 135 ∧ B ≤ g ∧ w.ownsRow B 5 1 sl bs.length (bv bs)
/-- what a Writer's calls may change -/
abbrev WrT : List TypeId := [5, 135]

/-- a number in as few bytes as it needs, the lowest seven bits first -/
def varB (n : Nat) : List UInt8 := if n < 128 then [UInt8.ofNat n] else UInt8.ofNat (n % 128 + 128) :: varB (n / 128)
termination_by n
decreasing_by omega

theorem varB_small {n : Nat} (h : n < 128) : varB n = [UInt8.ofNat n] := by unfold varB; rw [if_pos h]
theorem varB_big {n : Nat} (h : 128 ≤ n) : varB n = UInt8.ofNat (n % 128 + 128) :: varB (n / 128) := by
  conv => lhs; unfold varB
  rw [if_neg (by omega)]
theorem varB_pos (n : Nat) : 1 ≤ (varB n).length := by
  by_cases h : n < 128
  · rw [varB_small h]; simp
  · rw [varB_big (by omega)]; simp
theorem varB_len (k : Nat) : ∀ n, n < 128 ^ k → (varB n).length ≤ k + 0 ∨ n = 0 := by
  induction k with
  | zero => intro n h; right; simp at h; omega
  | succ k ih =>
    intro n h
    by_cases hn : n < 128
    · left; rw [varB_small hn]; simp
    · rw [varB_big (by omega)]
      rcases ih (n / 128) (by rw [Nat.pow_succ] at h; omega) with h' | h'
      · left; simp; omega
      · omega
theorem varB_ten {n : Nat} (h : n < two64) : (varB n).length ≤ 10 := by
  rcases varB_len 10 n (by unfold two64 at h; simp; omega) with h' | h'
  · exact h'
  · subst h'; rw [varB_small (by omega)]; simp

theorem Wr.lt {w : World} {B g : Nat} {bs : List UInt8} (h : Wr w B g bs) : g < w.heap.size := by obtain ⟨sl, hb, _⟩ := h; exact hb.lt
theorem Wr.below {w w' : World} {B g : Nat} {bs : List UInt8} (h : Wr w B g bs) (e : Below w.heap.size w w') : Wr w' B g bs := by
  obtain ⟨sl, hb, hB, ho⟩ := h
  exact ⟨sl, hb.below e hb.lt, hB, own_below ho e⟩
theorem Wr.alloc {w : World} {B g : Nat} {bs : List UInt8} (h : Wr w B g bs) (o : Obj) : Wr (w.alloc o) B g bs := h.below ((Below.refl _ _).alloc (Nat.le_refl _) o)
theorem Wr.drew {w : World} {B g : Nat} {bs : List UInt8} (h : Wr w B g bs) : Wr w.drew B g bs := h

set_option maxHeartbeats 400000 in
theorem live_any (w : World) (B g : Nat) (bs : List UInt8) (h : Wr w B g bs) :
    Calls Try.prog 114 #[.pointer (some ⟨g, 0, none⟩)] w fun e w' => e = .returned (.bool true) ∧ w = w' := by
  obtain ⟨sl, hb, hB, ho⟩ := h
  have c0 := hb.cell 0
  have c2 := hb.cell 2
  simp at c0 c2
  go_enter Try.func114, Try.ntmps114
  go_wp2
  go_ret
  exact ⟨rfl, rfl⟩

set_option maxHeartbeats 400000 in
theorem put_any (w : World) (B g : Nat) (bs news : List UInt8) (A : Option Addr) (n c : Nat) (h : Wr w B g bs) (hr : Rd w A (bv news)) (hn : news.length = n) (hb : bs.length + n ≤ room46) :
    Calls Try.prog 98 #[.pointer (some ⟨g, 0, none⟩), .slice A n c] w fun e w' => e = .returned (.tuple #[]) ∧ Wr w' B g (bs ++ news) ∧ Eff B WrT w w' := by
  have h0 := h
  subst hn
  obtain ⟨sl, hk, hB, ho⟩ := h
  obtain ⟨i0, hi, hz0, hz1, hz2⟩ := info_parts info_u8
  have c1 := hk.cell 1
  have f1 := hk.frozen 1
  simp at c1
  go_enter Try.func98, Try.ntmps98
  go_wp2_with (first
    | (go_at_call 114; refine (live_any _ B g bs h0).mono ?_; rintro e w' ⟨rfl, rfl⟩)
    | (at_builtin; refine wpList_append_rd _ rfl _ _ 36 rfl B 5 i0 (.int .u8 0) 1 1 Try.underlying36 hi hz0 hz1 hz2 rfl (by decide) _ _ _ rfl ho A _ c (bv news) rfl ?c1 hr (bv_one _) ?c2 ?c3 ?c4 ?_))
  case c1 => rw [bv_length, Nat.mul_one]
  case c2 => unfold room46 at hb; unfold maxLen; omega
  case c3 => unfold room46 at hb; omega
  case c4 => have := hk.lt; omega
  intro A' c' w1 hown1 hg1 hblk
  have hk1 : Bk w1 g #[.bool true, sl, .int .i64 0] 135 := hk.grown hg1 (fun e => own_ne_bk ho hk (by decide) e.symm)
  have d1 := hk1.cell 1
  have e1 := hk1.frozen 1
  simp at d1
  clear hblk hi hz0 hz1 hz2 hr hb c1 f1
  go_wp2
  go_end0
  have hne := own_ne_bk hown1 hk1 (by decide)
  have hl : (bs ++ news).length = bs.length + news.length := by simp
  refine ⟨rfl, ⟨.slice A' (bs.length + news.length) c', ?_, hB, ?_⟩, ?_⟩
  · have := hk1.set_ 1 (.slice A' (bs.length + news.length) c')
    simpa using this
  · rw [hl, bv_append]
    exact ownsRow_setCell_other hown1 hne _
  · exact (Eff.grown hg1 (fun k hk' => by
      obtain ⟨a1, cc, t, f, a2, a3⟩ := own_row ho k hk'
      exact ⟨a1, cc, t, f, a2, by simp at a3; simp [a3]⟩)).trans (Eff.setCell hk1 hB (by decide) 1 _)

/-- the row that a call's listed bytes lie in -/
theorem rd_lit (w : World) (cs : Array Value) (l : List UInt8) (h : cs.toList = bv l) : Rd (w.alloc (.cells cs 5)) (some ⟨w.heap.size, 0, none⟩) (bv l) :=
  Rd.of_bk (Bk.new w 5 cs) 0 _ (fun j u hu => by rw [← h] at hu; simpa using hu)

set_option maxHeartbeats 400000 in
theorem byte_any (w : World) (B g : Nat) (bs : List UInt8) (b : UInt8) (h : Wr w B g bs) (hb : bs.length + 1 ≤ room46) :
    Calls Try.prog 58 #[.pointer (some ⟨g, 0, none⟩), .int .u8 b.toNat] w fun e w' => e = .returned (.tuple #[]) ∧ Wr w' B g (bs ++ [b]) ∧ Eff B WrT w w' := by
  have hr := rd_lit w #[.int .u8 b.toNat] [b] rfl
  have h1 := h.alloc (.cells #[.int .u8 b.toNat] 5)
  go_enter Try.func58, Try.ntmps58
  go_wp2_with (go_at_call 98; go_must (refine (put_any _ B g bs [b] _ 1 1 h1 hr rfl hb).mono ?_); rintro e w' ⟨rfl, hw, he⟩)
  go_end0
  exact ⟨rfl, hw, (Eff.alloc _ _).trans he⟩

set_option maxHeartbeats 400000 in
theorem raw_any (w : World) (B g : Nat) (bs news : List UInt8) (A : Option Addr) (n c : Nat) (h : Wr w B g bs) (hr : Rd w A (bv news)) (hn : news.length = n) (hb : bs.length + n ≤ room46) :
    Calls Try.prog 101 #[.pointer (some ⟨g, 0, none⟩), .slice A n c] w fun e w' => e = .returned (.tuple #[]) ∧ Wr w' B g (bs ++ news) ∧ Eff B WrT w w' := by
  have Hn := Lib.hid hn; clear hn
  go_enter Try.func101, Try.ntmps101
  go_wp2_with (go_at_call 98; go_must (refine (put_any _ B g bs news A n c h hr Hn.out hb).mono ?_); rintro e w' ⟨rfl, hw, he⟩)
  go_end0
  exact ⟨rfl, hw, he⟩

set_option maxRecDepth 100000 in
set_option maxHeartbeats 400000 in
theorem var_any (w : World) (B g : Nat) (bs : List UInt8) (n : Nat) (h : Wr w B g bs) (hn : n < two64) (hb : bs.length + 10 ≤ room46) :
    Calls Try.prog 64 #[.pointer (some ⟨g, 0, none⟩), .int .u64 n] w fun e w' => e = .returned (.tuple #[]) ∧ Wr w' B g (bs ++ varB n) ∧ Eff B WrT w w' := by
  go_enter Try.func64, Try.ntmps64
  go_wp2
  go_loopw [1] (fun v wr => ∃ (m : Nat) (done : List UInt8), v = .int .u64 m ∧ m < two64 ∧ done ++ varB m = varB n ∧ Wr wr B g (bs ++ done) ∧ Eff B WrT w wr) (fun v _ => (intOf v).toNat)
  case atStart => exact ⟨n, [], rfl, hn, rfl, by simpa using h, Eff.refl _ _ _⟩
  case round =>
    obtain ⟨m, done, rfl, hm, hd, hw, he⟩ := hrel
    have Hd := Lib.hid hd; clear hd
    by_cases hc : 128 ≤ m
    · have hr := rd_lit wr #[.int .u8 (bits .or .u8 ((m : Int) % 256) 128)] [UInt8.ofNat (m % 128 + 128)] (by rw [or128]; rfl)
      have h1 := hw.alloc (.cells #[.int .u8 (bits .or .u8 ((m : Int) % 256) 128)] 5)
      have hl : (bs ++ done).length + 1 ≤ room46 := by
        have h2 := congrArg List.length Hd.out
        have h3 := varB_ten hn
        have h4 := varB_pos m
        simp only [List.length_append] at h2 ⊢
        omega
      go_wp2_with (go_at_call 98; go_must (refine (put_any _ B g (bs ++ done) _ _ 1 1 h1 hr rfl hl).mono ?_); rintro e w' ⟨rfl, hw', he'⟩)
      refine ⟨⟨m / 128, done ++ [UInt8.ofNat (m % 128 + 128)], by go_num, by unfold two64 at *; omega, ?_, by rw [← List.append_assoc]; exact hw', he.trans ((Eff.alloc _ _).trans he')⟩, by simp [intOf]; omega⟩
      rw [List.append_assoc, ← Hd.out, varB_big hc]; rfl
    · have hr := rd_lit wr #[.int .u8 (m : Int)] [UInt8.ofNat m] (by simp [bv]; omega)
      have h1 := hw.alloc (.cells #[.int .u8 (m : Int)] 5)
      have hl : (bs ++ done).length + 1 ≤ room46 := by
        have h2 := congrArg List.length Hd.out
        have h3 := varB_ten hn
        have h4 := varB_pos m
        simp only [List.length_append] at h2 ⊢
        omega
      go_wp2_with (go_at_call 98; go_must (refine (put_any _ B g (bs ++ done) _ _ 1 1 h1 hr rfl hl).mono ?_); rintro e w' ⟨rfl, hw', he'⟩)
      go_end0
      refine ⟨rfl, ?_, he.trans ((Eff.alloc _ _).trans he')⟩
      rw [← Hd.out, varB_small (by omega), ← List.append_assoc]; exact hw'
end Go.Proofs.Ytocgcalaiejbiaa

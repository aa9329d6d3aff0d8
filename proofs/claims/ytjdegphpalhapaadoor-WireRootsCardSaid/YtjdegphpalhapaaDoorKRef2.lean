/-
  The document's own forms (assentref01, assentref04): a number in as few bytes as it needs, a text, a hash, a seal, pieces one behind the other: lists of bytes in new memory. Conditions: sizes below 2^46.
-/
import Derived.Test.YtjdegphpalhapaaDoorKRef1
import Derived.Test.YtjdegphpalhapaaDoorK04
namespace Go.Proofs.YtjdegphpalhapaaDoor
set_option linter.unusedSimpArgs false
set_option linter.unusedVariables false
open Go.RowKit
set_option maxRecDepth 100000

theorem info_u8' : ∃ i0, Tryd.prog.info? 5 = some i0 ∧ i0.zero = some (.int .u8 0) ∧ i0.size = 1 ∧ i0.bytes = 1 := info_parts info_u8

/-- append of bytes onto a list of bytes of the call's own -/
theorem wpList_app {ops : Array Oper} {rest : List Oper} {o : Oper} {a : Act} {w : World} {Q : Exit → Act → World → Prop} (hgd : o.guard = none) (s x : Operand)
    (ho : o.op = .call { callee := .builtin .append, args := #[s, x], argTypes := #[57, 57] }) (B : Nat) (sv : Value) (l1 : List UInt8) (hs : a.eval s = sv) (hown : Bs w B sv l1)
    (A : Option Addr) (n c : Nat) (l2 : List UInt8) (hx : a.eval x = .slice A n c) (hn : l2.length = n) (hr : Rd w A (bv l2)) (hlen : l1.length + l2.length ≤ reach47 + 64) (hB : B ≤ w.heap.size)
    (h : ∀ A' c' w', Bs w' B (.slice A' (l1.length + n) c') (l1 ++ l2) → w.grownBy w' sv.ownBlock → ((Value.slice A' (l1.length + n) c').ownBlock = sv.ownBlock ∨ (Value.slice A' (l1.length + n) c').ownBlock = some w.heap.size) → wpList Tryd.prog ops Q rest (a.put o.dst (.slice A' (l1.length + n) c')) w') : wpList Tryd.prog ops Q (o :: rest) a w := by
  obtain ⟨i0, hi, hz0, hz1, hz2⟩ := info_u8'
  subst hn
  refine wpList_append_rd w hgd s x 57 ho B 5 i0 (.int .u8 0) 1 1 Tryd.underlying57 hi hz0 hz1 hz2 rfl (by decide) sv l1.length (bv l1) hs hown A _ c (bv l2) hx (by rw [bv_length, Nat.mul_one]) hr (bv_one _) (by unfold reach47 at hlen; unfold maxLen; omega) (by unfold reach47 at hlen; omega) hB ?_
  intro A' c' w' h1 h2 h3
  refine h A' c' w' ?_ h2 h3
  unfold Bs
  rw [bv_append, List.length_append]
  exact h1
/-- the same of a text's bytes -/
theorem wpList_apps {ops : Array Oper} {rest : List Oper} {o : Oper} {a : Act} {w : World} {Q : Exit → Act → World → Prop} (hgd : o.guard = none) (s x : Operand)
    (ho : o.op = .call { callee := .builtin .append, args := #[s, x], argTypes := #[57, 9] }) (B : Nat) (sv : Value) (l1 : List UInt8) (hs : a.eval s = sv) (hown : Bs w B sv l1)
    (z : ByteArray) (hx : a.eval x = .string z) (hlen : l1.length + z.size ≤ reach47 + 64) (hB : B ≤ w.heap.size)
    (h : ∀ A' c' w', Bs w' B (.slice A' (l1.length + z.size) c') (l1 ++ z.data.toList) → w.grownBy w' sv.ownBlock → ((Value.slice A' (l1.length + z.size) c').ownBlock = sv.ownBlock ∨ (Value.slice A' (l1.length + z.size) c').ownBlock = some w.heap.size) → wpList Tryd.prog ops Q rest (a.put o.dst (.slice A' (l1.length + z.size) c')) w') : wpList Tryd.prog ops Q (o :: rest) a w := by
  obtain ⟨i0, hi, hz0, hz1, hz2⟩ := info_u8'
  refine wpList_append_src w hgd s x 57 9 ho B 5 i0 (.int .u8 0) 1 1 Tryd.underlying57 hi hz0 hz1 hz2 rfl (by decide) sv l1.length (bv l1) hs hown _ _ _ hx (Src.ofString w Tryd.underlying9 z) (by unfold reach47 at hlen; unfold maxLen; omega) (by unfold reach47 at hlen; omega) hB ?_
  intro A' c' w' h1 h2 h3
  refine h A' c' w' ?_ h2 h3
  unfold Bs
  rw [bv_append, List.length_append]
  exact h1
theorem Bs.nil (w : World) (B : Nat) : Bs w B (.slice none 0 0) [] := World.ownsRow_nil _ _ _ _
theorem Bs.made (w : World) (B : Nat) (cs : Array Value) (l : List UInt8) (h : cs.toList = bv l) (hB : B ≤ w.heap.size) (hl : l.length ≤ reach47) : Bs (w.alloc (.cells cs 5)) B (.slice (some ⟨w.heap.size, 0, none⟩) l.length l.length) l := by
  have hsz : cs.size = l.length := by rw [← Array.length_toList, h, bv_length]
  have := World.ownsRow_lit (base := B) (e := 5) (size := 1) w cs l.length hB (by unfold reach47 at hl; unfold maxLen; omega) (by rw [hsz, Nat.mul_one])
  rw [h] at this
  exact this
theorem Bs.alloc {w : World} {B : Nat} {v : Value} {l : List UInt8} (h : Bs w B v l) (o : Obj) : Bs (w.alloc o) B v l := World.ownsRow.alloc h o
theorem Bs.blk {w : World} {B : Nat} {v : Value} {l : List UInt8} (h : Bs w B v l) : ∀ k, v.ownBlock = some k → B ≤ k := fun k hk => (own_row h k hk).1
theorem below_app {w0 w w' : World} {B : Nat} {sv : Value} {l : List UInt8} (h : Below B w0 w) (hs : Bs w B sv l) (hg : w.grownBy w' sv.ownBlock) (hB : B ≤ w.heap.size) : Below B w0 w' := h.grown hg hB hs.blk

theorem wrap_byte128 (m : Nat) : ((m : Int) % 128 + 128) % 256 = ((UInt8.ofNat (m % 128 + 128)).toNat : Int) := by rw [byte_of]; omega

set_option maxHeartbeats 1000000 in
theorem rVar_any (w : World) (n : Nat) (hn : n < two64) :
    Calls Tryd.prog 91 #[.int .u64 n] w fun e w' => ∃ v, e = .returned v ∧ Bs w' w.heap.size v (varB n) ∧ Below w.heap.size w w' := by
  go_enter Tryd.func91, Tryd.ntmps91
  go_wp2
  go_loopw [0, 3] (fun v b wr => ∃ (m : Nat) (done : List UInt8), v = .int .u64 m ∧ m < two64 ∧ done ++ varB m = varB n ∧ Bs wr w.heap.size b done ∧ Below w.heap.size w wr) (fun v _ _ => (intOf v).toNat)
  case atStart => exact ⟨n, [], rfl, hn, rfl, Bs.nil _ _, Below.refl _ _⟩
  case round =>
    obtain ⟨m, done, rfl, hm, hd, hown, hbl⟩ := hrel
    have hl : done.length + 1 ≤ 10 := by
      have h2 := congrArg List.length hd
      have h3 := varB_ten hn
      have h4 := varB_pos m
      simp only [List.length_append] at h2
      omega
    have hl2 : done.length + 1 ≤ reach47 + 64 := by unfold reach47; omega
    have Hd := Lib.hid hd; clear hd
    have hmb : m < 18446744073709551616 := hm
    by_cases hc : 128 ≤ m
    · have hr := rd_lit wr #[.int .u8 ((m : Int) % 128 + 128)] [UInt8.ofNat (m % 128 + 128)] (by have := wrap_byte128 m; simp [bv]; omega)
      go_wp2_with (at_builtin; go_must (refine wpList_app rfl _ _ rfl w.heap.size _ _ rfl (hown.alloc _) _ 1 1 [UInt8.ofNat (m % 128 + 128)] rfl rfl hr hl2 (by have := hbl.size; simp; omega) ?_); intro A' c' w1 hown1 hg1 hat1)
      refine ⟨⟨m / 128, done ++ [UInt8.ofNat (m % 128 + 128)], by go_num, by unfold two64 at *; omega, ?_, hown1, below_app (hbl.alloc hbl.size _) (hown.alloc _) hg1 (by have := hbl.size; simp; omega)⟩, by simp [intOf]; omega⟩
      rw [List.append_assoc, ← Hd.out, varB_big hc]; rfl
    · have hr := rd_lit wr #[.int .u8 (m : Int)] [UInt8.ofNat m] (by simp [bv]; omega)
      go_wp2_with (at_builtin; go_must (refine wpList_app rfl _ _ rfl w.heap.size _ _ rfl (hown.alloc _) _ 1 1 [UInt8.ofNat m] rfl rfl hr hl2 (by have := hbl.size; simp; omega) ?_); intro A' c' w1 hown1 hg1 hat1)
      go_ret
      refine ⟨_, rfl, ?_, below_app (hbl.alloc hbl.size _) (hown.alloc _) hg1 (by have := hbl.size; simp; omega)⟩
      rw [← Hd.out, varB_small (by omega)]; exact hown1
theorem rVar_int (w : World) (n : Int) (h0 : 0 ≤ n) (hn : n < two64) :
    Calls Tryd.prog 91 #[.int .u64 n] w fun e w' => ∃ v, e = .returned v ∧ Bs w' w.heap.size v (varB n.toNat) ∧ Below w.heap.size w w' := by
  obtain ⟨m, rfl⟩ := Int.eq_ofNat_of_zero_le h0
  exact rVar_any w m (by omega)

set_option maxHeartbeats 400000 in
theorem rNum_any (w : World) (n : Int) (h0 : 0 ≤ n) (hn : n < two64) :
    Calls Tryd.prog 55 #[.int .u64 n] w fun e w' => ∃ v, e = .returned v ∧ Bs w' w.heap.size v (varB n.toNat) ∧ Below w.heap.size w w' := by
  go_enter Tryd.func55, Tryd.ntmps55
  go_wp2_with (go_at_call 91; go_must (refine (rVar_int _ n h0 hn).mono ?_); rintro e w' ⟨v, rfl, hv, hb⟩)
  go_ret
  exact ⟨v, rfl, hv, hb⟩

set_option maxHeartbeats 400000 in
theorem rHash_any (w : World) (h : List UInt8) (hl : h.length = 32) :
    Calls Tryd.prog 60 #[.agg (bv h).toArray] w fun e w' => ∃ v, e = .returned v ∧ Bs w' w.heap.size v h ∧ Below w.heap.size w w' := by
  go_enter Tryd.func60, Tryd.ntmps60
  go_wp2_with (with_reducible show wpList _ _ _ (Oper.mk _ (Op.box _ _) _ _ _ _ :: _) _ _; refine wpList_box_bk rfl _ _ rfl _ rfl ?_)
  intro g1 w1 hk hbl hg hs
  have hr : Rd w1 (some ⟨g1, 0, none⟩) (bv h) := Rd.of_bk hk 0 _ (fun j u hu => by simpa using hu)
  have hr2 := hr.alloc (.cells #[] 5)
  have hm := Bs.made w1 w.heap.size #[] [] rfl hbl.size (by unfold reach47; simp)
  clear hg hs
  have hlen : ([] : List UInt8).length + h.length ≤ reach47 + 64 := by unfold reach47; simp [hl]
  have Hl := Lib.hid hl; clear hl
  go_wp2_with (at_builtin; go_must (refine wpList_app rfl _ _ rfl w.heap.size _ [] rfl hm _ 32 32 h rfl Hl.out hr2 hlen (by have := hbl.size; simp; omega) ?_); intro A' c' w2 hown1 hg1 hat1)
  go_ret
  exact ⟨_, rfl, hown1, below_app (hbl.alloc hbl.size _) hm hg1 (by have := hbl.size; simp; omega)⟩

set_option maxHeartbeats 400000 in
theorem rSealed_no (w : World) (h : Array Value) :
    Calls Tryd.prog 56 #[.agg h, .bool false] w fun e w' => ∃ v, e = .returned v ∧ Bs w' w.heap.size v [] ∧ Below w.heap.size w w' := by
  go_enter Tryd.func56, Tryd.ntmps56
  go_wp2_with (with_reducible show wpList _ _ _ (Oper.mk _ (Op.box _ _) _ _ _ _ :: _) _ _; refine wpList_box_bk rfl _ _ rfl _ rfl ?_)
  intro g1 w1 hk hbl hg hs
  clear hg hs
  go_wp2
  go_ret
  exact ⟨_, rfl, Bs.nil _ _, hbl⟩
theorem info_seal : (Tryd.prog.info? 25).map (·.size) = some 16 := by kernel_rfl
set_option maxHeartbeats 400000 in
theorem rSealed_yes (w : World) (h : List UInt8) (hl : h.length = 16) :
    Calls Tryd.prog 56 #[.agg (bv h).toArray, .bool true] w fun e w' => ∃ v, e = .returned v ∧ Bs w' w.heap.size v h ∧ Below w.heap.size w w' := by
  go_enter Tryd.func56, Tryd.ntmps56
  go_wp2_with (with_reducible show wpList _ _ _ (Oper.mk _ (Op.box _ _) _ _ _ _ :: _) _ _; refine wpList_box_bk rfl _ _ rfl _ rfl ?_)
  intro g1 w1 hk hbl hg hs
  have hr : Rd w1 (some ⟨g1, 0, none⟩) (bv h) := Rd.of_bk hk 0 _ (fun j u hu => by simpa using hu)
  have hr2 := hr.alloc (.cells #[] 5)
  have hm := Bs.made w1 w.heap.size #[] [] rfl hbl.size (by unfold reach47; simp)
  clear hg hs
  have hlen : ([] : List UInt8).length + h.length ≤ reach47 + 64 := by unfold reach47; simp [hl]
  have Hl := Lib.hid hl; clear hl
  go_wp2_with (at_builtin; go_must (refine wpList_app rfl _ _ rfl w.heap.size _ [] rfl hm _ 16 16 h rfl Hl.out hr2 hlen (by have := hbl.size; simp; omega) ?_); intro A' c' w2 hown1 hg1 hat1)
  go_ret
  exact ⟨_, rfl, hown1, below_app (hbl.alloc hbl.size _) hm hg1 (by have := hbl.size; simp; omega)⟩

set_option maxHeartbeats 1000000 in
theorem rText_any (w : World) (s : ByteArray) (hs : s.size ≤ reach47) :
    Calls Tryd.prog 59 #[.string s] w fun e w' => ∃ v, e = .returned v ∧ Bs w' w.heap.size v (textB s) ∧ Below w.heap.size w w' := by
  have h1 : s.size ≤ 9223372036854775807 := by unfold reach47 at hs; omega
  go_enter Tryd.func59, Tryd.ntmps59
  go_wp2_with fail
  refine (rVar_any w s.size (by unfold reach47 at hs; unfold two64; omega)).mono ?_
  rintro e w1 ⟨v, rfl, hv, hb1⟩
  go_wp2_with (with_reducible show wpList _ _ _ (Oper.mk _ (Op.convert _ _ _) _ _ _ _ :: _) _ _; refine wpList_conv_sb rfl 9 57 5 _ rfl s rfl Tryd.underlying9 Tryd.underlying57 Tryd.underlying5 ?_)
  intro g c w2 hr hb2 hg
  clear hg
  have hv2 := hv.below hb2
  have s1 := hb1.size
  have s2 := hb2.size
  have hvl := varB_ten (n := s.size) (by unfold reach47 at hs; unfold two64; omega)
  obtain ⟨A, cv, rfl⟩ := hv2.form
  go_wp2_with (at_builtin; go_must (refine wpList_app rfl _ _ rfl w.heap.size _ (varB s.size) rfl hv2 _ _ c s.data.toList rfl ?_ hr ?_ ?_ ?_))
  · rfl
  · have : s.data.toList.length = s.size := rfl
    unfold reach47 at hs ⊢; omega
  · omega
  intro A' c' w3 hown1 hg1 hat1
  go_wp2
  go_ret
  exact ⟨_, rfl, hown1, below_app (hb1.trans (hb2.mono s1)) hv2 hg1 (by omega)⟩
end Go.Proofs.YtjdegphpalhapaaDoor

/-
  The program's councils, on: the priorities, sound, Sound. Conditions: each number fits its kind; the members lie in the world.
  A row that the library sorts: what it holds ahead of the sort and behind it, in this work's own words. No condition.
  Marks sorted by their times: the library's sort at marks, with the closure of Median. Conditions: each mark's numbers fit their kinds; at most 64 marks, in a block of the call's own.
  The parts of the program's Median: Or, seated, the copy of the marks, power. Conditions: each number fits its kind; the lists lie in the world.
  The power of marks; the program's Median. Conditions: each number fits its kind; the lists lie in the world.
-/
import Derived.Test.YtnfffipkgaobhaaM27
import Derived.Shelf.SlSortCmp.WholeK
namespace Go.Proofs.Ytnfffipkgaobhaa
set_option linter.unusedSimpArgs false
set_option linter.unusedVariables false
open Go.RowKit
set_option maxRecDepth 100000

/-- where the first is at which p holds, or below 0 -/
def IdxB (b : Bool) (e : Ending) : Prop := ∃ i : Int, e = .returned (.int .i64 i) ∧ (if b = true then 0 ≤ i else i = -1)
theorem any_take_succ {α : Type} (p : α → Bool) (l : List α) (k : Nat) (hk : k < l.length) (h : (l.take k).any p = false) : (l.take (k + 1)).any p = p l[k] := by
  rw [List.take_succ_eq_append_getElem hk, List.any_append, h]; simp
theorem any_of_take {α : Type} (p : α → Bool) (l : List α) (k : Nat) (h : (l.take k).any p = true) : l.any p = true := by
  rw [List.any_eq_true] at h ⊢
  obtain ⟨x, hx, hp⟩ := h
  exact ⟨x, List.mem_of_mem_take hx, hp⟩

set_option maxHeartbeats 1000000 in
theorem prio_any (w : World) (m : Mem) (b : Nat) (t : Int) (h0 : 0 ≤ t) (h1 : t ≤ 8070450532247928825) (hm : m.ok) (hb : b < w.heap.size) (hc : w.cell? ⟨b, 0, none⟩ = some (.int .i64 t)) :
    Calls Try.prog 42 #[.agg m.cl.toArray, .pointer (some ⟨b, 0, none⟩)] w fun e w' => e = .returned (.bool (decide (m.prio < -t) || decide (t < m.prio))) ∧ Below w.heap.size w w' := by
  obtain ⟨q1, hq1⟩ : ∃ q, decide (m.prio < -t) = q := ⟨_, rfl⟩
  obtain ⟨q2, hq2⟩ : ∃ q, decide (t < m.prio) = q := ⟨_, rfl⟩
  have p1 : IntKind.i64.wrap (-t) = -t := by rw [IntKind.wrap_i64]; omega
  have HC := Lib.hid hc
  have HBL := Lib.hid hb
  rw [hq1, hq2]
  clear hc
  cases q1
  all_goals
    go_enter Try.func42, Try.ntmps42
    go_wp2_with (with_reducible show wpList _ _ _ (Oper.mk _ (Op.box _ _) _ _ _ _ :: _) _ _; refine wpList_box_i rfl _ _ rfl _ rfl ?_)
    intro g w1 hk1 hb1 hg1 hs1
    have c0 : w1.cell? ⟨g, 2, none⟩ = some (.int .i64 m.prio) := hk1.cell 2
    have c1 : w1.cell? ⟨b, 0, none⟩ = some (.int .i64 t) := cell_keep HC.out hb1
    have HB1 := Lib.hid hb1
    clear hk1 hb1 hg1 hs1
    go_wp2
    go_ret
    exact ⟨by simp, HB1.out⟩

set_option maxHeartbeats 2000000 in
theorem idxMem_any (w : World) (A : Option Addr) (n c : Nat) (ms : List Mem) (hn : n = ms.length) (hm : ∀ m ∈ ms, m.ok) (hr : Rd w A (ms.flatMap Mem.cl)) (hl : n ≤ 10000000000000) (b : Nat) (t : Int) (h0 : 0 ≤ t) (h1 : t ≤ 8070450532247928825) (hb : b < w.heap.size) (hc : w.cell? ⟨b, 0, none⟩ = some (.int .i64 t)) :
    Calls Try.prog 55 #[.slice A n c, .func (.func 42) #[] #[.pointer (some ⟨b, 0, none⟩)]] w fun e w' => IdxB (ms.any fun m => decide (m.prio < -t) || decide (t < m.prio)) e ∧ Below w.heap.size w w' := by
  have HN := Lib.hid hn
  have HM := Lib.hid hm
  have HR := Lib.hid hr
  have HC := Lib.hid hc
  obtain ⟨p, hp⟩ : ∃ p : Mem → Bool, (fun m : Mem => decide (m.prio < -t) || decide (t < m.prio)) = p := ⟨_, rfl⟩
  have HCL := Lib.hid (show ∀ wr m, Below w.heap.size w wr → m.ok → Calls Try.prog 42 #[.agg m.cl.toArray, .pointer (some ⟨b, 0, none⟩)] wr fun e w' => e = .returned (.bool (p m)) ∧ Below wr.heap.size wr w' from fun wr m hbl hmo => by
    rw [← hp]
    exact prio_any wr m b t h0 h1 hmo (Nat.lt_of_lt_of_le hb hbl.size) (cell_keep hc hbl))
  rw [hp]
  clear hn hm hr hc hp
  go_enter Try.func55, Try.ntmps55
  go_wp2
  go_loopw [8] (fun i wr => ∃ k : Nat, k ≤ n ∧ i = .int .i64 (k : Int) ∧ (ms.take k).any p = false ∧ Below w.heap.size w wr) (fun i _ => n - (intOf i).toNat)
  case atStart => exact ⟨0, by omega, rfl, rfl, Below.refl _ _⟩
  case round =>
    obtain ⟨k, hk, rfl, hp4, hb4⟩ := hrel
    have HP4 := Lib.hid hp4
    have HB := Lib.hid hb4
    clear hp4 hb4
    by_cases hlt : k < n
    · have hkl : k < ms.length := by rw [← HN.out]; exact hlt
      obtain ⟨ad, hA, hcell⟩ := rd_elem (by omega) memln (HR.out.below HB.out) hkl
      have HTK := Lib.hid (any_take_succ p ms k hkl HP4.out)
      obtain ⟨m, hmk⟩ : ∃ m, ms[k] = m := ⟨_, rfl⟩
      have HMO := Lib.hid (HM.out m (by rw [← hmk]; exact List.getElem_mem hkl))
      rw [hmk] at hcell HTK
      have HC4 := Lib.hid hcell
      subst hA
      clear hcell hmk
      have hi : (k : Int) < n := by omega
      obtain ⟨q, hq⟩ : ∃ q, p m = q := ⟨_, rfl⟩
      have HCM := HCL.out wr m HB.out HMO.out
      rw [hq] at HCM HTK
      have HCM := Lib.hid HCM
      go_wp2_with (with_reducible show wpList _ _ _ (Oper.mk (some 15) (Op.load _ _) _ _ _ _ :: _) _ _; go_must (refine wpList_load_at rfl 53 _ rfl (ad.add (k * 3)) 3 rfl m.cl HC4.out _ Try.underlying53 rfl info_Mem m.cl_len ?_); go_wp2_with fail)
      refine (HCM.out).mono ?_
      rintro e w5 ⟨rfl, h5⟩
      have HB5 := Lib.hid (HB.out.trans (h5.mono HB.out.size))
      clear h5
      cases q
      · go_wp2
        go_round
        case rel => exact ⟨k + 1, by omega, by go_num, HTK.out, HB5.out⟩
        case measure => simp [intOf]; omega
      · have HY := Lib.hid (any_of_take p ms (k + 1) HTK.out)
        go_wp2
        go_ret
        exact ⟨⟨k, rfl, by rw [if_pos HY.out]; omega⟩, HB5.out⟩
    · have hk' : k = n := by omega
      have HZ := Lib.hid (show ms.any p = false by rw [← HP4.out, List.take_of_length_le (by rw [hk', HN.out]; exact Nat.le_refl _)])
      clear hk'
      go_wp2
      go_ret
      exact ⟨⟨-1, rfl, by rw [if_neg (by rw [HZ.out]; exact Bool.false_ne_true)]⟩, HB.out⟩
set_option maxHeartbeats 1000000 in
theorem contMem_any (w : World) (A : Option Addr) (n c : Nat) (ms : List Mem) (hn : n = ms.length) (hm : ∀ m ∈ ms, m.ok) (hr : Rd w A (ms.flatMap Mem.cl)) (hl : n ≤ 10000000000000) (b : Nat) (t : Int) (h0 : 0 ≤ t) (h1 : t ≤ 8070450532247928825) (hb : b < w.heap.size) (hc : w.cell? ⟨b, 0, none⟩ = some (.int .i64 t)) :
    Calls Try.prog 41 #[.slice A n c, .func (.func 42) #[] #[.pointer (some ⟨b, 0, none⟩)]] w fun e w' => e = .returned (.bool (ms.any fun m => decide (m.prio < -t) || decide (t < m.prio))) ∧ Below w.heap.size w w' := by
  have HI := Lib.hid (idxMem_any w A n c ms hn hm hr hl b t h0 h1 hb hc)
  obtain ⟨q, hq⟩ : ∃ q, (ms.any fun m => decide (m.prio < -t) || decide (t < m.prio)) = q := ⟨_, rfl⟩
  rw [hq] at HI ⊢
  clear hn hm hr hc hq
  go_enter Try.func41, Try.ntmps41
  go_wp2_with fail
  refine (HI.out).mono ?_
  rintro e w5 ⟨⟨i, rfl, hi⟩, h5⟩
  have HB5 := Lib.hid h5
  clear h5
  cases q
  · rw [if_neg Bool.false_ne_true] at hi
    subst hi
    go_wp2
    go_ret
    exact ⟨rfl, HB5.out⟩
  · rw [if_pos rfl] at hi
    go_wp2
    go_ret
    exact ⟨rfl, HB5.out⟩

def souV (ms : List Mem) : Value := .tuple #[.int .u64 (if soundErr ms = 0 then totalM ms else 0), .int .i64 (soundErr ms)]
theorem souV_err {ms : List Mem} {E : Int} (h : soundErr ms = E) (h0 : E ≠ 0) : Value.tuple #[.int .u64 0, .int .i64 E] = souV ms := by unfold souV; rw [h, if_neg h0]
theorem souV_ok {ms : List Mem} {T : Int} (h : soundErr ms = 0) (hT : totalM ms = T) : Value.tuple #[.int .u64 T, .int .i64 0] = souV ms := by unfold souV; rw [h, if_pos rfl, hT]
theorem souErr_of {ms : List Mem} {E : Int} (h : memE ms = E) (h0 : E ≠ 0) : soundErr ms = E := by
  unfold memE at h
  unfold soundErr
  split at h
  · rw [if_pos ‹_›]; exact h
  · rw [if_neg ‹_›]
    split at h
    · rw [if_pos ‹_›]; exact h
    · rw [if_neg ‹_›]
      split at h
      · rw [if_pos ‹_›]; exact h
      · rw [if_neg ‹_›]
        split at h
        · rw [if_pos ‹_›]; exact h
        · exact absurd h.symm h0
theorem souErr_on {ms : List Mem} (h : memE ms = 0) : totalM ms ≤ supply ∧ 0 < ms.length ∧ ms.length ≤ 64 ∧ memErr none ms = 0 ∧ soundErr ms = if ms.any (prioBad (totalM ms)) = true then 2 else 0 := by
  unfold memE at h
  unfold soundErr
  split at h
  · cases h
  · rw [if_neg ‹_›]
    split at h
    · cases h
    · rw [if_neg ‹_›]
      split at h
      · next he => exact absurd h he
      · next he =>
        rw [if_neg ‹_›]
        split at h
        · cases h
        · rw [if_neg ‹_›]
          exact ⟨by omega, by omega, by omega, by simpa using he, rfl⟩
theorem info_Cou : (Try.prog.info? 24).map (·.size) = some 1 := by kernel_rfl

set_option maxHeartbeats 2000000 in
theorem sound_any (w : World) (A : Option Addr) (n c : Nat) (ms : List Mem) (hn : n = ms.length) (hm : ∀ m ∈ ms, m.ok) (hr : Rd w A (ms.flatMap Mem.cl)) (hl : n ≤ 10000000000000) :
    Calls Try.prog 23 #[.agg #[.slice A n c]] w fun e w' => e = .returned (souV ms) ∧ Below w.heap.size w w' := by
  have HN := Lib.hid hn
  have HM := Lib.hid hm
  have HR := Lib.hid hr
  have H0 := Lib.hid (show 0 ≤ totalM ms from psum_nonneg _ fun m h => (hm m h).power.1)
  obtain ⟨E, hE⟩ : ∃ E, memE ms = E := ⟨_, rfl⟩
  have HE := Lib.hid hE
  clear hn hm hr hE
  go_enter Try.func23, Try.ntmps23
  go_wp2_with (with_reducible show wpList _ _ _ (Oper.mk _ (Op.box _ _) _ _ _ _ :: _) _ _; refine wpList_box_i rfl _ _ rfl _ rfl ?_)
  intro g w1 hk1 hb1 hg1 hs1
  have c0 : w1.cell? ⟨g, 0, none⟩ = some (.slice A n c) := hk1.cell 0
  have HB1 := Lib.hid hb1
  have HK1 := Lib.hid hk1
  clear hk1 hb1 hg1 hs1
  go_wp2_with fail
  refine (members_any w1 A n c ms HN.out HM.out (HR.out.below HB1.out) hl).mono ?_
  rintro e w2 ⟨rfl, h2⟩
  have HB2 := Lib.hid (HB1.out.trans (h2.mono HB1.out.size))
  have c2 : w2.cell? ⟨g, 0, none⟩ = some (.slice A n c) := cell_keep c0 h2
  clear h2 c0
  by_cases he : E = 0
  · have HV : Hid (memV ms = .tuple #[.int .u64 (totalM ms), .int .i64 0]) := Lib.hid (memV_ok (HE.out.trans he)).symm
    obtain ⟨s1, s2, s3, s4, s5⟩ := souErr_on (HE.out.trans he)
    obtain ⟨T, hT⟩ : ∃ T, totalM ms = T := ⟨_, rfl⟩
    have HTT := Lib.hid hT
    rw [hT] at HV s1 H0 s5
    have HS := Lib.hid s5
    have h0 : 0 ≤ T := H0.out
    have h1 : T ≤ 1152921504606846975 := s1
    clear he hT s1 s2 s3 s4 s5
    rw [HV.out]
    have p1 : IntKind.i64.wrap T = T := by rw [IntKind.wrap_i64]; omega
    have p2 : IntKind.i64.wrap (7 * T) = 7 * T := by rw [IntKind.wrap_i64]; omega
    go_wp2_with (with_reducible show wpList _ _ _ (Oper.mk _ (Op.alloc _) _ _ _ _ :: _) _ _; refine wpList_alloc_i rfl 2 rfl (.int .i64 0) (by kernel_rfl) ?_)
    intro q w4 k4 l4 g4 s4
    have HB4 := Lib.hid (HB2.out.trans (l4.mono HB2.out.size))
    have HK4 := Lib.hid (bk_eqT (cs' := #[.int .i64 0]) k4 rfl)
    have HG4 := Lib.hid (show w.heap.size ≤ q by have := HB2.out.size; omega)
    have c4 : w4.cell? ⟨g, 0, none⟩ = some (.slice A n c) := cell_keep c2 l4
    have HNE := Lib.hid (show g ≠ q by
      have h1 := HK1.out.lt
      intro e; subst e
      have hc : w2.cell? ⟨g, 0, none⟩ = none := by simp [World.cell?, Array.getElem?_eq_none g4]
      rw [hc] at c2; cases c2)
    clear k4 l4 g4 s4 c2
    go_wp2_with (with_reducible show wpList _ _ _ (Oper.mk _ (Op.store 2 _ _) _ _ _ _ :: _) _ _; go_must (refine wpList_store_bk rfl 2 _ _ rfl q rfl (.int .i64 (7 * T)) rfl _ _ HK4.out (by kernel_rfl) rfl (by intro u hu; simp [Value.cells] at hu; subst hu; simp [Value.oneCell']) ?_))
    intro w5 h5 hg5 hs5
    have HB5 := Lib.hid (below_grown2 HB4.out hg5 HG4.out HB4.out.size)
    have HK5 := Lib.hid (show Bk w5 q #[.int .i64 (7 * T)] 2 from h5)
    have c5 : w5.cell? ⟨g, 0, none⟩ = some (.slice A n c) := by
      have hgl : g < w4.heap.size := by
        rcases Nat.lt_or_ge g w4.heap.size with h | h
        · exact h
        · have : w4.cell? ⟨g, 0, none⟩ = none := by simp [World.cell?, Array.getElem?_eq_none h]
          rw [this] at c4; cases c4
      have := hg5.block g hgl (by intro e; injection e with e; exact HNE.out e)
      rw [← c4]
      unfold World.cell?
      rw [this]
    clear h5 hg5 hs5 c4
    obtain ⟨b, hb⟩ : ∃ b, ms.any (prioBad T) = b := ⟨_, rfl⟩
    have HBB := Lib.hid hb
    have HCT := Lib.hid (contMem_any w5 A n c ms HN.out HM.out (HR.out.below HB5.out) hl q (7 * T) (by omega) (by omega) HK5.out.lt (HK5.out.cell 0))
    rw [show (ms.any fun m => decide (m.prio < -(7 * T)) || decide (7 * T < m.prio)) = b from hb] at HCT
    clear hb
    go_wp2_with fail
    refine HCT.out.mono ?_
    rintro e w6 ⟨rfl, h6⟩
    have HB6 := Lib.hid (HB5.out.trans (h6.mono HB5.out.size))
    clear h6
    cases b
    · have HZ := Lib.hid (show soundErr ms = 0 by rw [HS.out, HBB.out]; rfl)
      go_wp2
      go_ret2
      exact ⟨ret_eq (souV_ok HZ.out HTT.out), HB6.out⟩
    · have HZ := Lib.hid (show soundErr ms = 2 by rw [HS.out, HBB.out]; rfl)
      go_wp2
      go_ret2
      exact ⟨ret_eq (souV_err HZ.out (by decide)), HB6.out⟩
  · have HV : Hid (memV ms = .tuple #[.int .u64 0, .int .i64 E]) := Lib.hid (memV_err HE.out he).symm
    have HZ := Lib.hid (souErr_of HE.out he)
    have HE0 := Lib.hid he
    have f1 : (E != 0) = true := by simp [he]
    have f2 : (E == 0) = false := by simp [he]
    rw [HV.out]
    clear he
    go_wp2
    go_ret2
    exact ⟨ret_eq (souV_err HZ.out HE0.out), HB2.out⟩
set_option maxHeartbeats 1000000 in
theorem Sound_any (w : World) (A : Option Addr) (n c : Nat) (ms : List Mem) (hn : n = ms.length) (hm : ∀ m ∈ ms, m.ok) (hr : Rd w A (ms.flatMap Mem.cl)) (hl : n ≤ 10000000000000) :
    Calls Try.prog 13 #[.agg #[.slice A n c]] w fun e w' => e = .returned (.int .i64 (soundErr ms)) ∧ Below w.heap.size w w' := by
  have HS := Lib.hid (show ∀ w', Below w.heap.size w w' → Calls Try.prog 23 #[.agg #[.slice A n c]] w' fun e w'' => e = .returned (.tuple #[.int .u64 (if soundErr ms = 0 then totalM ms else 0), .int .i64 (soundErr ms)]) ∧ Below w'.heap.size w' w'' from fun w' hb => sound_any w' A n c ms hn hm (hr.below hb) hl)
  obtain ⟨E, hE⟩ : ∃ E, soundErr ms = E := ⟨_, rfl⟩
  obtain ⟨T, hT⟩ : ∃ T, (if E = 0 then totalM ms else 0) = T := ⟨_, rfl⟩
  rw [hE, hT] at HS
  rw [hE]
  clear hn hm hr hE hT
  go_enter Try.func13, Try.ntmps13
  go_wp2_with (with_reducible show wpList _ _ _ (Oper.mk _ (Op.box _ _) _ _ _ _ :: _) _ _; refine wpList_box_i rfl _ _ rfl _ rfl ?_)
  intro g w1 hk1 hb1 hg1 hs1
  have HB1 := Lib.hid hb1
  have HK1 := Lib.hid (bk_eqT (cs' := #[.slice A n c]) hk1 rfl)
  clear hk1 hb1 hg1 hs1
  go_wp2_with (with_reducible show wpList _ _ _ (Oper.mk (some 6) (Op.load _ _) _ _ _ _ :: _) _ _; go_must (refine wpList_load_part rfl 24 _ rfl g 0 1 rfl _ _ _ HK1.out Try.underlying24 rfl info_Cou (by simp) #[.slice A n c] rfl ?_); go_wp2_with fail)
  refine (HS.out w1 HB1.out).mono ?_
  rintro e w2 ⟨rfl, h2⟩
  have HB2 := Lib.hid (HB1.out.trans (h2.mono HB1.out.size))
  clear h2
  go_wp2
  go_ret
  exact ⟨rfl, HB2.out⟩
end Go.Proofs.Ytnfffipkgaobhaa
namespace Go.Proofs.Ytnfffipkgaobhaa
set_option linter.unusedSimpArgs false
set_option linter.unusedVariables false
open Go.RowKit Go.Sort
set_option maxRecDepth 100000

section
variable {α : Type} [Inhabited α] {enc : α → List Value} {N : Nat}
theorem flatK_at (hk : ∀ x, (enc x).length = N) (hN : 0 < N) (d : Array α) (j : Nat) (u : Value) (h : (d.toList.flatMap enc)[j]? = some u) : j < d.size * N ∧ (flatK enc N d)[j]! = u := by
  have hlen : (d.toList.flatMap enc).length = d.size * N := by
    rw [fl_len d.toList (fun x _ => hk x)]; simp
  have hj : j < d.size * N := by rw [← hlen]; exact (List.getElem?_eq_some_iff.1 h).1
  refine ⟨hj, ?_⟩
  rw [get_flatK enc N d j hj]
  have hq : j / N < d.size := Nat.div_lt_of_lt_mul (by rw [Nat.mul_comm]; exact hj)
  have hr : j % N < N := Nat.mod_lt _ hN
  have hx : d[j / N]! = d[j / N]'hq := getElem!_pos d _ hq
  have hl : j % N < (enc d[j / N]!).length := by rw [hk]; exact hr
  have h2 := fl_at (cl := enc) (N := N) d.toList (fun x _ => hk x) (j / N) (by simpa using hq) (j % N) _ (List.getElem?_eq_getElem (by rw [hk]; exact hr))
  rw [Nat.div_add_mod, h] at h2
  injection h2 with h2
  have hy : d[j / N]! = d.toList[j / N]'(by simpa using hq) := by rw [hx]; simp
  rw [h2, hy]
  exact getElem!_pos (enc (d.toList[j / N]'(by simpa using hq))) (j % N) (by rw [hk]; exact hr)
theorem holdsK_of (hk : ∀ x, (enc x).length = N) (hN : 0 < N) {w : World} {g : Nat} {cur : Array Value} {e : TypeId} {d : Array α} (hg : w.heap[g]? = some (.cells cur e (0, 0))) (hc : cur.toList.take (d.size * N) = d.toList.flatMap enc) : HoldsK enc N w g 0 d := by
  intro j hj
  rw [size_flatK] at hj
  have hlen : (d.toList.flatMap enc).length = d.size * N := by
    rw [fl_len d.toList (fun x _ => hk x)]; simp
  have hx : (d.toList.flatMap enc)[j]? = some ((d.toList.flatMap enc)[j]'(by omega)) := List.getElem?_eq_getElem (by omega)
  obtain ⟨_, hf⟩ := flatK_at hk hN d j _ hx
  have hcur : cur[j]? = some ((d.toList.flatMap enc)[j]'(by omega)) := by
    rw [← hx, ← hc, List.getElem?_take, if_pos hj, Array.getElem?_toList]
  refine ⟨?_, ?_⟩
  · unfold World.cell?
    simp only [hg, Nat.zero_add]
    rw [show (id (flatK enc N d)[j]! : Value) = (flatK enc N d)[j]! from rfl, hf]
    simpa using hcur
  · unfold World.frozen?
    simp [hg]
theorem sortW_heap (w : World) (g m : Nat) (d' : Array α) (os : Array Obj) : (sortWorldK enc N w g 0 m d' os).heap = w.heap.modify g (onCells (putCells id 0 (flatK enc N d'))) ++ os := rfl
theorem sortW_block {w : World} {g m k : Nat} {d' : Array α} {os : Array Obj} (hk : k ≠ g) (hl : k < w.heap.size) : (sortWorldK enc N w g 0 m d' os).heap[k]? = w.heap[k]? := by
  rw [sortW_heap, Array.getElem?_append_left (by simpa using hl), Array.getElem?_modify, if_neg (Ne.symm hk)]
theorem sortW_below {w : World} {g m B : Nat} {d' : Array α} {os : Array Obj} (hB : B ≤ g) (hg : g < w.heap.size) : Below B w (sortWorldK enc N w g 0 m d' os) :=
  ⟨rfl, rfl, rfl, by rw [sortW_heap]; simp, fun k hk => sortW_block (by omega) (by omega)⟩
theorem sortW_rd (hk : ∀ x, (enc x).length = N) (hN : 0 < N) {w : World} {g m : Nat} {cur : Array Value} {e : TypeId} {d' : Array α} {os : Array Obj} (hg : w.heap[g]? = some (.cells cur e (0, 0))) (hs : d'.size * N ≤ cur.size) :
    Rd (sortWorldK enc N w g 0 m d' os) (some ⟨g, 0, none⟩) (d'.toList.flatMap enc) := by
  intro j u hu
  obtain ⟨hj, hf⟩ := flatK_at hk hN d' j u hu
  refine ⟨_, rfl, ?_⟩
  have hl : g < w.heap.size := (Array.getElem?_eq_some_iff.1 hg).1
  have hb : (sortWorldK enc N w g 0 m d' os).heap[g]? = some (.cells (putCells id 0 (flatK enc N d') cur) e (0, 0)) := by
    rw [sortW_heap, Array.getElem?_append_left (by simpa using hl), Array.getElem?_modify, if_pos rfl, hg]
    rfl
  have e1 : (⟨g, 0, none⟩ : Addr).add j = ⟨g, j, none⟩ := by unfold Addr.add; split <;> simp_all
  rw [e1]
  unfold World.cell?
  simp only [hb]
  unfold putCells
  have hjc : j < cur.size := by omega
  have hjf : j < (flatK enc N d').size := by rw [size_flatK]; exact hj
  have hf2 : (flatK enc N d')[j] = u := by rw [← hf]; exact (getElem!_pos (flatK enc N d') j hjf).symm
  simp [Array.getElem?_mapIdx, Array.getElem?_eq_getElem hjc, hj, hf2]
end
end Go.Proofs.Ytnfffipkgaobhaa
namespace Go.Proofs.Ytnfffipkgaobhaa
set_option linter.unusedSimpArgs false
set_option linter.unusedVariables false
open Go.RowKit Go.Sort
set_option maxRecDepth 100000

def Try.sortMk_ren : Go.Shelf.Ren := ⟨fun | 6 => 17 | 15 => 33 | 14 => 32 | 28 => 52 | 29 => 53 | 20 => 44 | 21 => 45 | 22 => 46 | 23 => 47 | 24 => 48 | 25 => 49 | 26 => 50 | 27 => 51 | 46 => 56 | 47 => 57 | 48 => 58 | 49 => 59 | 50 => 60 | 57 => 61 | n => n, fun | 22 => 28 | 24 => 50 | 25 => 66 | 3 => 3 | 39 => 79 | 0 => 0 | 53 => 96 | 55 => 25 | 4 => 4 | 46 => 89 | 45 => 88 | 50 => 93 | 5 => 5 | 9 => 9 | 66 => 101 | 70 => 105 | 76 => 107 | 77 => 108 | n => n, fun | n => n⟩
theorem Try.sortMk : Go.Proofs.SlLaysF0.n6 Try.prog Try.sortMk_ren where
  mixed := by kernel_rfl
  f6 := ⟨ "slices.SortFunc[[]assent/api.Mark,assent/api.Mark]", by decide, Try.func17.trans (congrArg some (by kernel_rfl))⟩
  f14 := ⟨ "slices.pdqsortCmpFunc[assent/api.Mark]", by decide, Try.func32.trans (congrArg some (by kernel_rfl))⟩
  f15 := Try.func33.trans (congrArg some (by kernel_rfl))
  f20 := ⟨ "slices.insertionSortCmpFunc[assent/api.Mark]", by decide, Try.func44.trans (congrArg some (by kernel_rfl))⟩
  f21 := ⟨ "slices.heapSortCmpFunc[assent/api.Mark]", by decide, Try.func45.trans (congrArg some (by kernel_rfl))⟩
  f22 := ⟨ "slices.breakPatternsCmpFunc[assent/api.Mark]", by decide, Try.func46.trans (congrArg some (by kernel_rfl))⟩
  f23 := ⟨ "slices.choosePivotCmpFunc[assent/api.Mark]", by decide, Try.func47.trans (congrArg some (by kernel_rfl))⟩
  f24 := ⟨ "slices.reverseRangeCmpFunc[assent/api.Mark]", by decide, Try.func48.trans (congrArg some (by kernel_rfl))⟩
  f25 := ⟨ "slices.partialInsertionSortCmpFunc[assent/api.Mark]", by decide, Try.func49.trans (congrArg some (by kernel_rfl))⟩
  f26 := ⟨ "slices.partitionEqualCmpFunc[assent/api.Mark]", by decide, Try.func50.trans (congrArg some (by kernel_rfl))⟩
  f27 := ⟨ "slices.partitionCmpFunc[assent/api.Mark]", by decide, Try.func51.trans (congrArg some (by kernel_rfl))⟩
  f28 := Try.func52.trans (congrArg some (by kernel_rfl))
  f29 := Try.func53.trans (congrArg some (by kernel_rfl))
  f46 := ⟨ "slices.siftDownCmpFunc[assent/api.Mark]", by decide, Try.func56.trans (congrArg some (by kernel_rfl))⟩
  f47 := Try.func57.trans (congrArg some (by kernel_rfl))
  f48 := Try.func58.trans (congrArg some (by kernel_rfl))
  f49 := ⟨ "slices.medianAdjacentCmpFunc[assent/api.Mark]", by decide, Try.func59.trans (congrArg some (by kernel_rfl))⟩
  f50 := ⟨ "slices.medianCmpFunc[assent/api.Mark]", by decide, Try.func60.trans (congrArg some (by kernel_rfl))⟩
  f57 := ⟨ "slices.order2CmpFunc[assent/api.Mark]", by decide, Try.func61.trans (congrArg some (by kernel_rfl))⟩
  t0 := Try.underlying0
  a0 := Try.isAgg0
  z0 := Try.sizeOf0
  v0 := Try.zeroValue0
  t3 := Try.underlying3
  a3 := Try.isAgg3
  z3 := Try.sizeOf3
  v3 := Try.zeroValue3
  t4 := Try.underlying4
  a4 := Try.isAgg4
  z4 := Try.sizeOf4
  v4 := Try.zeroValue4
  t5 := Try.underlying5
  a5 := Try.isAgg5
  z5 := Try.sizeOf5
  v5 := Try.zeroValue5
  t9 := Try.underlying9
  a9 := Try.isAgg9
  z9 := Try.sizeOf9
  v9 := Try.zeroValue9
  t22 := Try.underlying28
  a22 := Try.isAgg28
  z22 := Try.sizeOf28
  v22 := Try.zeroValue28
  t25 := Try.underlying66
  a25 := Try.isAgg66
  z25 := Try.sizeOf66
  v25 := Try.zeroValue66
  t39 := Try.underlying79
  a39 := Try.isAgg79
  z39 := Try.sizeOf79
  v39 := Try.zeroValue79
  t45 := Try.underlying88
  a45 := Try.isAgg88
  z45 := Try.sizeOf88
  v45 := Try.zeroValue88
  t46 := Try.underlying89
  a46 := Try.isAgg89
  z46 := Try.sizeOf89
  v46 := Try.zeroValue89
  t50 := Try.underlying93
  a50 := Try.isAgg93
  z50 := Try.sizeOf93
  v50 := Try.zeroValue93
  t53 := Try.underlying96
  a53 := Try.isAgg96
  z53 := Try.sizeOf96
  v53 := Try.zeroValue96
  t55 := Try.underlying25
  a55 := Try.isAgg25
  z55 := Try.sizeOf25
  v55 := Try.zeroValue25
  t66 := Try.underlying101
  a66 := Try.isAgg101
  z66 := Try.sizeOf101
  v66 := Try.zeroValue101
  t70 := Try.underlying105
  a70 := Try.isAgg105
  z70 := Try.sizeOf105
  v70 := Try.zeroValue105
  t76 := Try.underlying107
  a76 := Try.isAgg107
  z76 := Try.sizeOf107
  v76 := Try.zeroValue107
  t77 := Try.underlying108
  a77 := Try.isAgg108
  z77 := Try.sizeOf108
  v77 := Try.zeroValue108

def cmpI (x y : Int) : Int := if x < y then -1 else if y < x then 1 else 0
set_option maxHeartbeats 400000 in
theorem isNaN_any (w : World) (x : Int) :
    Calls Try.prog 34 #[.int .u64 x] w fun e w' => e = .returned (.bool false) ∧ w = w' := by
  go_enter Try.func34, Try.ntmps34
  go_wp2
  go_ret
  exact ⟨by simp, rfl⟩
set_option maxHeartbeats 1000000 in
theorem cmpU_any (w : World) (x y : Int) :
    Calls Try.prog 19 #[.int .u64 x, .int .u64 y] w fun e w' => e = .returned (.int .i64 (cmpI x y)) ∧ w = w' := by
  go_enter Try.func19, Try.ntmps19
  by_cases h1 : x < y
  · have HZ := Lib.hid (show cmpI x y = -1 by unfold cmpI; rw [if_pos h1])
    go_wp2_with (go_at_call 34; refine (isNaN_any _ _).mono ?_; rintro e w' ⟨rfl, rfl⟩)
    go_ret
    exact ⟨ret_i64 HZ.out.symm, rfl⟩
  · by_cases h2 : y < x
    · have HZ := Lib.hid (show cmpI x y = 1 by unfold cmpI; rw [if_neg h1, if_pos h2])
      go_wp2_with (go_at_call 34; refine (isNaN_any _ _).mono ?_; rintro e w' ⟨rfl, rfl⟩)
      go_ret
      exact ⟨ret_i64 HZ.out.symm, rfl⟩
    · have HZ := Lib.hid (show cmpI x y = 0 by unfold cmpI; rw [if_neg h1, if_neg h2])
      go_wp2_with (go_at_call 34; refine (isNaN_any _ _).mono ?_; rintro e w' ⟨rfl, rfl⟩)
      go_ret
      exact ⟨ret_i64 HZ.out.symm, rfl⟩
theorem wpList_box_gr {P : Program} {ops : Array Oper} {rest : List Oper} {o : Oper} {a : Act} {w : World} {Q : Exit → Act → World → Prop} (hgd : o.guard = none) (t : TypeId) (x : Operand) (ho : o.op = .box t x) (v : Value) (hx : a.eval x = v)
    (h : ∀ g w', Bk w' g v.cells t → Below w.heap.size w w' → Hid (w' = grow w #[.cells v.cells t]) → wpList P ops Q rest (a.put o.dst (.pointer (some ⟨g, 0, none⟩))) w') : wpList P ops Q (o :: rest) a w :=
  wpList_plain hgd fun K hK => by
    unfold Oper.wp execOp
    simp only [ho, hx, Instr.box, newVar, newRow, newObj, Sem.run_bind, Sem.run_pure, Result.andThen_ok]
    exact hK _ _ (h w.heap.size (w.alloc (.cells v.cells t)) (Bk.new w t _) ((Below.refl _ _).alloc (Nat.le_refl _) _) (Lib.hid (alloc_eq_grow _ _)))
set_option maxHeartbeats 1000000 in
theorem cmpMk_any (W : World) (x y : Mk) :
    Calls Try.prog 18 #[.agg x.cl.toArray, .agg y.cl.toArray] W fun e w' => e = .returned (.int .i64 (cmpI x.time y.time)) ∧ ∃ q os', w' = grow (W.drewN q) os' := by
  obtain ⟨z, hz⟩ : ∃ z, cmpI x.time y.time = z := ⟨_, rfl⟩
  have HCT := Lib.hid (show ∀ w, Calls Try.prog 19 #[.int .u64 x.time, .int .u64 y.time] w fun e w' => e = .returned (.int .i64 z) ∧ w = w' from fun w => by rw [← hz]; exact cmpU_any w _ _)
  rw [hz]
  clear hz
  go_enter Try.func18, Try.ntmps18
  go_wp2_with (with_reducible show wpList _ _ _ (Oper.mk _ (Op.box _ _) _ _ _ _ :: _) _ _; refine wpList_box_gr rfl _ _ rfl _ rfl ?_)
  intro g w1 hk1 hb1 HG1
  go_wp2_with (with_reducible show wpList _ _ _ (Oper.mk _ (Op.box _ _) _ _ _ _ :: _) _ _; refine wpList_box_gr rfl _ _ rfl _ rfl ?_)
  intro g2 w2 hk2 hb2 HG2
  have c0 : w2.cell? ⟨g, 1, none⟩ = some (.int .u64 x.time) := (hk1.below hb2 hk1.lt).cell 1
  have c1 : w2.cell? ⟨g2, 1, none⟩ = some (.int .u64 y.time) := hk2.cell 1
  clear hk1 hk2 hb1 hb2
  go_wp2_with (go_at_call 19; refine (HCT.out _).mono ?_; rintro e w' ⟨rfl, rfl⟩)
  go_ret
  exact ⟨rfl, 0, _, by rw [HG2.out, HG1.out, grow_grow]; rfl⟩

abbrev OkMk := { m : Mk // m.ok }
instance : Inhabited OkMk := ⟨⟨⟨0, 0, List.replicate 16 0⟩, ⟨by unfold I64; decide, by unfold U64; decide, rfl⟩⟩⟩
def OkMk.enc (m : OkMk) : List Value := m.1.cl
def OkMk.cf (x y : OkMk) : Int := cmpI x.1.time y.1.time
theorem OkMk.lt (x y : OkMk) : ltOf OkMk.cf x y = decide (x.1.time < y.1.time) := by
  unfold ltOf OkMk.cf cmpI
  by_cases h1 : x.1.time < y.1.time
  · simp [h1]
  · by_cases h2 : y.1.time < x.1.time <;> simp [h1, h2]
theorem OkMk.swo : SWO (ltOf OkMk.cf) where
  irrefl x := by rw [OkMk.lt]; simp
  trans x y z h1 h2 := by rw [OkMk.lt] at *; simp at *; omega
  ntrans x y z h1 h2 := by rw [OkMk.lt] at *; simp at *; omega
theorem OkMk.len (x : OkMk) : x.enc.length = 18 := x.1.cl_len x.2
theorem okMks {ms : List Mk} (h : ∀ m ∈ ms, m.ok) : ∃ l : List OkMk, l.map (·.1) = ms := by
  induction ms with
  | nil => exact ⟨[], rfl⟩
  | cons m r ih =>
    obtain ⟨l, hl⟩ := ih fun q hq => h q (by simp [hq])
    exact ⟨⟨m, h m (by simp)⟩ :: l, by simp [hl]⟩
theorem flatMap_ok (l : List OkMk) : l.flatMap OkMk.enc = (l.map (·.1)).flatMap Mk.cl := by
  induction l with
  | nil => rfl
  | cons x r ih => rw [List.flatMap_cons, List.map_cons, List.flatMap_cons, ih]; rfl
theorem asc_pairwise {α : Type} (t : α → Int) : ∀ l : List α, l.Pairwise (fun x y => t x ≤ t y) → Asc t l
  | [], _ => trivial
  | x :: r, h => by
    rw [List.pairwise_cons] at h
    exact ⟨h.1, asc_pairwise t r h.2⟩
/-- behind the sort: the same marks by rising times; nothing below the row's block has changed -/
structure SortW (w w' : World) (B g : Nat) (ms ms' : List Mk) : Prop where
  perm : ms'.Perm ms
  asc : Asc Mk.time ms'
  ok : ∀ m ∈ ms', m.ok
  rd : Rd w' (some ⟨g, 0, none⟩) (ms'.flatMap Mk.cl)
  below : Below B w w'
set_option maxHeartbeats 1000000 in
theorem sortMk_any (w : World) (B g cap : Nat) (cur : Array Value) (ms : List Mk) (n : Nat) (hn : n = ms.length) (hm : ∀ m ∈ ms, m.ok) (hg : w.heap[g]? = some (.cells cur 50 (0, 0))) (hc : cur.toList.take (n * 18) = ms.flatMap Mk.cl) (hcs : n * 18 ≤ cur.size) (hB : B ≤ g) (hl : n ≤ 64) :
    Calls Try.prog 17 #[.slice (some ⟨g, 0, none⟩) n cap, .func (.func 18) #[] #[]] w fun e w' => e = .returned (.tuple #[]) ∧ ∃ ms', SortW w w' B g ms ms' := by
  obtain ⟨l, rfl⟩ := okMks hm
  rw [← flatMap_ok] at hc
  have hnl : n = l.length := by simpa using hn
  subst hnl
  have eg : ∀ args w, (callFunc 18 args).run Try.prog w = .ok (.enter 18 args) w := enters_of Try.func18 (by kernel_rfl) rfl
  have hsz : l.toArray.size = l.length := by simp
  have hgl : g < w.heap.size := (Array.getElem?_eq_some_iff.1 hg).1
  have hcon := AnyQ.slices_SortFunc Try.sortMk 18 Try.isAgg50 Try.sizeOf50 OkMk.enc OkMk.len (fun x v hv => mk_one x.1 v hv) OkMk.cf OkMk.swo 18 #[] g 0 cap l.toArray w eg
    (fun m os dk hdk x y => cmpMk_any _ x.1 y.1) (holdsK_of OkMk.len (by omega) hg (by rw [hsz]; exact hc)) hgl (by rw [hsz]; omega)
  rw [hsz] at hcon
  change Calls Try.prog 17 _ _ _ at hcon
  refine hcon.mono ?_
  rintro e w' ⟨rfl, d', q, os, hp, hs, rfl⟩
  obtain ⟨hds, _, hpp⟩ := hp
  have hds' : d'.size = l.length := by rw [hds, hsz]
  rw [← hds', Array.extract_size] at hpp
  rw [hds', ← hsz, Array.extract_size] at hpp
  refine ⟨rfl, d'.toList.map (·.1), ?_, ?_, ?_, ?_, sortW_below hB hgl⟩
  · have := hpp.map (·.1)
    simpa using this
  · refine asc_pairwise _ _ ?_
    rw [List.pairwise_map, List.pairwise_iff_getElem]
    intro i j hi hj hij
    have hj' : j < d'.size := by simpa using hj
    have hi' : i < d'.size := by simpa using hi
    have h := hs i j (Nat.zero_le _) hij (by rw [← hds']; exact hj')
    rw [OkMk.lt, getElem!_pos d' j hj', getElem!_pos d' i hi'] at h
    simp at h
    simpa using h
  · intro m hm
    obtain ⟨x, _, rfl⟩ := List.mem_map.1 hm
    exact x.2
  · rw [← flatMap_ok]
    exact sortW_rd OkMk.len (by omega) hg (by rw [hds']; exact hcs)
end Go.Proofs.Ytnfffipkgaobhaa
namespace Go.Proofs.Ytnfffipkgaobhaa
set_option linter.unusedSimpArgs false
set_option linter.unusedVariables false
open Go.RowKit
set_option maxRecDepth 100000

set_option maxHeartbeats 400000 in
theorem or_any (w : World) (A : Option Addr) (n c : Nat) (l : List Int) (hr : Rd w A (l.map (Value.int .i64))) (hn : l.length = n) (hm : n ≤ 1000) :
    Calls Try.prog 12 #[.slice A n c] w fun e w' => e = .returned (.int .i64 (firstErr l)) ∧ w = w' := by
  have Hn := Lib.hid hn; clear hn
  go_enter Try.func12, Try.ntmps12
  go_wp2
  go_loop [8] (fun i => ∃ k : Nat, k ≤ n ∧ i = .int .i64 k ∧ firstErr (l.drop k) = firstErr l) (fun i => n - (intOf i).toNat)
  case atStart => exact ⟨0, Nat.zero_le _, rfl, rfl⟩
  case round =>
    obtain ⟨k, hk, rfl, hf⟩ := hrel
    have Hf := Lib.hid hf; clear hf
    by_cases hlt : k < n
    · have hkl : k < l.length := by rw [Hn.out]; exact hlt
      have hd : l.drop k = l[k] :: l.drop (k + 1) := List.drop_eq_getElem_cons hkl
      obtain ⟨ad, hA, hcell⟩ := rd_at hr (j := k) (u := .int .i64 l[k]) (by simp [hkl])
      have Hd := Lib.hid hd; clear hd
      subst hA
      by_cases hz : l[k] = 0
      · rw [hz] at hcell
        have Hz := Lib.hid hz; clear hz
        go_wp2
        go_round
        case rel => exact ⟨k + 1, by omega, by go_num, by rw [← Hf.out, Hd.out]; simp [firstErr, Hz.out]⟩
        case measure => simp [intOf]; omega
      · have hz' : (l[k] == 0) = false := by simp [hz]
        have hz2 : (l[k] != 0) = true := by simp [hz]
        go_wp2
        go_ret
        exact ⟨ret_i64 (by rw [← Hf.out, Hd.out]; simp [firstErr, hz]), rfl⟩
    · have hk' : k = n := by omega
      have Hk := Lib.hid hk'; clear hk'
      go_wp2
      go_ret
      refine ⟨ret_i64 ?_, rfl⟩
      rw [← Hf.out, List.drop_of_length_le (by rw [Hn.out, Hk.out]; exact Nat.le_refl _)]; rfl

set_option maxHeartbeats 1000000 in
theorem far_any (w : World) (m : Mk) (b : Nat) (A : Option Addr) (n c : Nat) (hc : w.cell? ⟨b, 0, none⟩ = some (.slice A n c)) :
    Calls Try.prog 31 #[.agg m.cl.toArray, .pointer (some ⟨b, 0, none⟩)] w fun e w' => e = .returned (.bool (decide ((n : Int) ≤ m.idx))) ∧ Below w.heap.size w w' := by
  obtain ⟨q1, hq1⟩ : ∃ q, decide ((n : Int) ≤ m.idx) = q := ⟨_, rfl⟩
  have HC := Lib.hid hc
  rw [hq1]
  clear hc
  go_enter Try.func31, Try.ntmps31
  go_wp2_with (with_reducible show wpList _ _ _ (Oper.mk _ (Op.box _ _) _ _ _ _ :: _) _ _; refine wpList_box_i rfl _ _ rfl _ rfl ?_)
  intro g w1 hk1 hb1 hg1 hs1
  have c0 : w1.cell? ⟨g, 0, none⟩ = some (.int .i64 m.idx) := hk1.cell 0
  have c1 : w1.cell? ⟨b, 0, none⟩ = some (.slice A n c) := cell_keep HC.out hb1
  have HB1 := Lib.hid hb1
  clear hk1 hb1 hg1 hs1
  go_wp2
  go_ret
  exact ⟨by simp, HB1.out⟩

set_option maxHeartbeats 2000000 in
theorem idxMk_any (w : World) (A : Option Addr) (n c : Nat) (ms : List Mk) (hn : n = ms.length) (hm : ∀ m ∈ ms, m.ok) (hr : Rd w A (ms.flatMap Mk.cl)) (hl : n ≤ 10000000000000) (b : Nat) (A' : Option Addr) (n' c' : Nat) (hc : w.cell? ⟨b, 0, none⟩ = some (.slice A' n' c')) :
    Calls Try.prog 43 #[.slice A n c, .func (.func 31) #[] #[.pointer (some ⟨b, 0, none⟩)]] w fun e w' => IdxB (ms.any fun m => decide ((n' : Int) ≤ m.idx)) e ∧ Below w.heap.size w w' := by
  have HN := Lib.hid hn
  have HM := Lib.hid hm
  have HR := Lib.hid hr
  have HLN := Lib.hid (show ∀ m ∈ ms, m.cl.length = 18 from fun m h => m.cl_len (hm m h))
  obtain ⟨p, hp⟩ : ∃ p : Mk → Bool, (fun m : Mk => decide ((n' : Int) ≤ m.idx)) = p := ⟨_, rfl⟩
  have HCL := Lib.hid (show ∀ wr m, Below w.heap.size w wr → Calls Try.prog 31 #[.agg m.cl.toArray, .pointer (some ⟨b, 0, none⟩)] wr fun e w' => e = .returned (.bool (p m)) ∧ Below wr.heap.size wr w' from fun wr m hbl => by
    rw [← hp]
    exact far_any wr m b A' n' c' (cell_keep hc hbl))
  rw [hp]
  clear hn hm hr hc hp
  go_enter Try.func43, Try.ntmps43
  go_wp2
  go_loopw [8] (fun i wr => ∃ k : Nat, k ≤ n ∧ i = .int .i64 (k : Int) ∧ (ms.take k).any p = false ∧ Below w.heap.size w wr) (fun i _ => n - (intOf i).toNat)
  case atStart => exact ⟨0, by omega, rfl, rfl, Below.refl _ _⟩
  case round =>
    obtain ⟨k, hk, rfl, hp4, hb4⟩ := hrel
    have HP4 := Lib.hid hp4
    have HB := Lib.hid hb4
    clear hp4 hb4
    by_cases hlt : k < n
    · have hkl : k < ms.length := by rw [← HN.out]; exact hlt
      obtain ⟨ad, hA, hcell⟩ := rd_elem (by omega) HLN.out (HR.out.below HB.out) hkl
      have HTK := Lib.hid (any_take_succ p ms k hkl HP4.out)
      obtain ⟨m, hmk⟩ : ∃ m, ms[k] = m := ⟨_, rfl⟩
      have HML := Lib.hid (HLN.out m (by rw [← hmk]; exact List.getElem_mem hkl))
      rw [hmk] at hcell HTK
      have HC4 := Lib.hid hcell
      subst hA
      clear hcell hmk
      have hi : (k : Int) < n := by omega
      obtain ⟨q, hq⟩ : ∃ q, p m = q := ⟨_, rfl⟩
      have HCM := HCL.out wr m HB.out
      rw [hq] at HCM HTK
      have HCM := Lib.hid HCM
      go_wp2_with (with_reducible show wpList _ _ _ (Oper.mk (some 15) (Op.load _ _) _ _ _ _ :: _) _ _; go_must (refine wpList_load_at rfl 50 _ rfl (ad.add (k * 18)) 18 rfl m.cl HC4.out _ Try.underlying50 rfl info_Mk HML.out ?_); go_wp2_with fail)
      refine (HCM.out).mono ?_
      rintro e w5 ⟨rfl, h5⟩
      have HB5 := Lib.hid (HB.out.trans (h5.mono HB.out.size))
      clear h5
      cases q
      · go_wp2
        go_round
        case rel => exact ⟨k + 1, by omega, by go_num, HTK.out, HB5.out⟩
        case measure => simp [intOf]; omega
      · have HY := Lib.hid (any_of_take p ms (k + 1) HTK.out)
        go_wp2
        go_ret
        exact ⟨⟨k, rfl, by rw [if_pos HY.out]; omega⟩, HB5.out⟩
    · have hk' : k = n := by omega
      have HZ := Lib.hid (show ms.any p = false by rw [← HP4.out, List.take_of_length_le (by rw [hk', HN.out]; exact Nat.le_refl _)])
      clear hk'
      go_wp2
      go_ret
      exact ⟨⟨-1, rfl, by rw [if_neg (by rw [HZ.out]; exact Bool.false_ne_true)]⟩, HB.out⟩
set_option maxHeartbeats 1000000 in
theorem contMk_any (w : World) (A : Option Addr) (n c : Nat) (ms : List Mk) (hn : n = ms.length) (hm : ∀ m ∈ ms, m.ok) (hr : Rd w A (ms.flatMap Mk.cl)) (hl : n ≤ 10000000000000) (b : Nat) (A' : Option Addr) (n' c' : Nat) (hc : w.cell? ⟨b, 0, none⟩ = some (.slice A' n' c')) :
    Calls Try.prog 30 #[.slice A n c, .func (.func 31) #[] #[.pointer (some ⟨b, 0, none⟩)]] w fun e w' => e = .returned (.bool (ms.any fun m => decide ((n' : Int) ≤ m.idx))) ∧ Below w.heap.size w w' := by
  have HI := Lib.hid (idxMk_any w A n c ms hn hm hr hl b A' n' c' hc)
  obtain ⟨q, hq⟩ : ∃ q, (ms.any fun m => decide ((n' : Int) ≤ m.idx)) = q := ⟨_, rfl⟩
  rw [hq] at HI ⊢
  clear hn hm hr hc hq
  go_enter Try.func30, Try.ntmps30
  go_wp2_with fail
  refine (HI.out).mono ?_
  rintro e w5 ⟨⟨i, rfl, hi⟩, h5⟩
  have HB5 := Lib.hid h5
  clear h5
  cases q
  · rw [if_neg Bool.false_ne_true] at hi
    subst hi
    go_wp2
    go_ret
    exact ⟨rfl, HB5.out⟩
  · rw [if_pos rfl] at hi
    go_wp2
    go_ret
    exact ⟨rfl, HB5.out⟩

set_option maxHeartbeats 1000000 in
theorem seated_any (w : World) (A : Option Addr) (n c : Nat) (l : List Mem) (hn : n = l.length) (x : Crt) (hx : x.ok) (hr : x.at w) (hl : x.n ≤ 10000000000000) :
    Calls Try.prog 15 #[.agg #[.slice A n c], .agg x.cl.toArray] w fun e w' => e = .returned (.bool (!(x.ms.any (farMk l)))) ∧ Below w.heap.size w w' := by
  have HX := Lib.hid hx
  have HR := Lib.hid (show Rd w x.A (x.ms.flatMap Mk.cl) from hr)
  obtain ⟨q, hq⟩ : ∃ q, x.ms.any (farMk l) = q := ⟨_, rfl⟩
  have HQ : Hid ((x.ms.any fun m => decide ((n : Int) ≤ m.idx)) = q) := Lib.hid (by rw [← hq, hn]; rfl)
  rw [hq]
  clear hx hr hq hn
  go_enter Try.func15, Try.ntmps15
  go_wp2_with (with_reducible show wpList _ _ _ (Oper.mk _ (Op.box _ _) _ _ _ _ :: _) _ _; refine wpList_box_i rfl _ _ rfl _ rfl ?_)
  intro g w1 hk1 hb1 hg1 hs1
  go_wp2_with (with_reducible show wpList _ _ _ (Oper.mk _ (Op.box _ _) _ _ _ _ :: _) _ _; refine wpList_box_i rfl _ _ rfl _ rfl ?_)
  intro g2 w2 hk2 hb2 hg2 hs2
  have c0 : w2.cell? ⟨g, 0, none⟩ = some (.slice A n c) := (hk1.below hb2 hk1.lt).cell 0
  have c1 : w2.cell? ⟨g2, 34, none⟩ = some (.slice x.A x.n x.c) := (hk2.cell 34).trans (x.cl_34 HX.out.id)
  have HB2 := Lib.hid (hb1.trans (hb2.mono hb1.size))
  have HCT := Lib.hid (contMk_any w2 x.A x.n x.c x.ms HX.out.n HX.out.ms (HR.out.below HB2.out) hl g A n c c0)
  rw [HQ.out] at HCT
  clear hk1 hk2 hb1 hb2 hg1 hs1 hg2 hs2 c0
  go_wp2_with fail
  refine HCT.out.mono ?_
  rintro e w3 ⟨rfl, h3⟩
  have HB3 := Lib.hid (HB2.out.trans (h3.mono HB2.out.size))
  clear h3
  go_wp2
  go_ret
  exact ⟨by simp, HB3.out⟩

set_option maxHeartbeats 1000000 in
theorem cloneMk_any (w : World) (ad : Addr) (n c : Nat) (ms : List Mk) (hn : n = ms.length) (hm : ∀ m ∈ ms, m.ok) (hr : Rd w (some ad) (ms.flatMap Mk.cl)) (hl : n ≤ 64) (h0 : 0 < n) :
    Calls Try.prog 16 #[.slice (some ad) n c] w fun e w' => ∃ v, e = .returned v ∧ w'.ownsRow w.heap.size 50 18 v n (ms.flatMap Mk.cl) ∧ Below w.heap.size w w' := by
  obtain ⟨i0, hi, hz0, hz1, hz2⟩ := info_parts info_Mk3
  have HML := Lib.hid (show (ms.flatMap Mk.cl).length = n * 18 by rw [fl_len ms (fun m h => m.cl_len (hm m h)), ← hn])
  have HMO := Lib.hid (mks_one ms)
  obtain ⟨ML, hML⟩ : ∃ ML, ms.flatMap Mk.cl = ML := ⟨_, rfl⟩
  rw [hML] at HML HMO hr ⊢
  clear hML hn hm
  have hq := fun wx : World => Lib.run_eql_slice_nil (P := Try.prog) wx 28 50 (some ad) n c 0 0 Try.underlying28
  have hr1 := Lib.hid (hr.alloc (.cells #[] 50))
  have ho := Lib.hid (show (w.alloc (.cells #[] 50)).ownsRow w.heap.size 50 18 (.slice (some ⟨w.heap.size, 0, none⟩) 0 0) 0 [] from World.ownsRow_lit (base := w.heap.size) (e := 50) (size := 18) w #[] 0 (Nat.le_refl _) (by unfold maxLen; omega) (by simp))
  go_enter Try.func16, Try.ntmps16
  go_wp2_with (at_builtin; go_must (refine wpList_append_rd _ rfl _ _ 28 rfl w.heap.size 50 i0 (.agg zeroMk.toArray) 18 32 Try.underlying28 hi hz0 hz1 hz2 (by simpa [Value.cells] using zeroMk_sz) (by decide) _ _ _ rfl ho.out (some ad) _ c ML rfl HML.out hr1.out HMO.out ?c2 ?c3 ?c4 ?_))
  case c2 => unfold maxLen; omega
  case c3 => omega
  case c4 => simp
  intro A' c' w3 hown1 hg1 hblk
  have HB := Lib.hid (show Below w.heap.size w w3 from ((Below.refl _ _).alloc (Nat.le_refl _) _).grown hg1 (by simp) (by simp [Value.ownBlock]))
  have HO := Lib.hid (show w3.ownsRow w.heap.size 50 18 (.slice A' n c') n ML by simpa using hown1)
  try rw [show 0 + n = n by omega]
  clear hown1 hg1 hblk hi hz0 hz1 hz2 hq hl
  go_wp2
  go_ret
  exact ⟨_, rfl, HO.out, HB.out⟩
end Go.Proofs.Ytnfffipkgaobhaa
namespace Go.Proofs.Ytnfffipkgaobhaa
set_option linter.unusedSimpArgs false
set_option linter.unusedVariables false
open Go.RowKit
set_option maxRecDepth 100000

/-- what stands when the powers of marks are summed -/
structure Near (l : List Mem) (ms : List Mk) : Prop where
  near : ∀ m ∈ ms, 0 ≤ m.idx ∧ m.idx < l.length
  pow : ∀ m ∈ l, 0 ≤ m.power
  sum : psum (pwOf l) ms ≤ 1152921504606846975
theorem Near.take {l : List Mem} {ms : List Mk} (h : Near l ms) (k : Nat) : Near l (ms.take k) :=
  ⟨fun m hm => h.near m (List.mem_of_mem_take hm), h.pow, by
    have := psum_take_le (pwOf l) ms (fun m _ => pw_nonneg h.pow m) k
    have := h.sum
    omega⟩
theorem add_rec (a : Addr) (n : Nat) : a.add (n + 1) = ⟨a.block, a.off + (n + 1), none⟩ := by unfold Addr.add; rw [if_neg (by omega)]
theorem pwOf_at {l : List Mem} {m : Mk} {j : Nat} (hj : m.idx = (j : Int)) (h : j < l.length) : pwOf l m = (l[j]).power := by
  unfold pwOf
  rw [show m.idx.toNat = j by omega, List.getElem?_eq_getElem h]; rfl

set_option maxHeartbeats 4000000 in
theorem power_any (w : World) (A : Option Addr) (n c : Nat) (l : List Mem) (hn : n = l.length) (hr : Rd w A (l.flatMap Mem.cl)) (A' : Option Addr) (k' c' : Nat) (ms : List Mk) (hk : k' = ms.length) (hm : ∀ m ∈ ms, m.ok) (hrm : Rd w A' (ms.flatMap Mk.cl)) (hl : n ≤ 64) (hl2 : k' ≤ 64) (hne : Near l ms) :
    Calls Try.prog 20 #[.agg #[.slice A n c], .slice A' k' c'] w fun e w' => e = .returned (.int .u64 (psum (pwOf l) ms)) ∧ Below w.heap.size w w' := by
  have HN := Lib.hid hn
  have HK := Lib.hid hk
  have HR := Lib.hid hr
  have HRM := Lib.hid hrm
  have HLN := Lib.hid (show ∀ m ∈ ms, m.cl.length = 18 from fun m h => m.cl_len (hm m h))
  have HNE := Lib.hid hne
  clear hn hk hr hrm hm hne
  go_enter Try.func20, Try.ntmps20
  go_wp2_with (with_reducible show wpList _ _ _ (Oper.mk _ (Op.box _ _) _ _ _ _ :: _) _ _; refine wpList_box_i rfl _ _ rfl _ rfl ?_)
  intro g w1 hk1 hb1 hg1 hs1
  have HK1 := Lib.hid (bk_eqT (cs' := #[.slice A n c]) hk1 rfl)
  have HB1 := Lib.hid hb1
  clear hk1 hb1 hg1 hs1
  go_wp2
  go_loopw [4, 9] (fun v i wr => ∃ (k : Nat) (t : Int), k ≤ k' ∧ i = .int .i64 (k : Int) ∧ v = .int .u64 t ∧ t = psum (pwOf l) (ms.take k) ∧ Bk wr g #[.slice A n c] 24 ∧ Below w.heap.size w wr) (fun _ i _ => k' - (intOf i).toNat)
  case atStart => exact ⟨0, 0, by omega, rfl, rfl, rfl, HK1.out, HB1.out⟩
  case round =>
    clear HK1 HB1
    obtain ⟨k, t, hk, rfl, rfl, ht, hkk, hb⟩ := hrel
    have HT := Lib.hid ht
    have HB := Lib.hid hb
    have HKG := Lib.hid hkk
    clear ht hb hkk
    by_cases hlt : k < k'
    · have hkl : k < ms.length := by rw [← HK.out]; exact hlt
      obtain ⟨ad, hA, hcell⟩ := rd_elem (by omega) HLN.out (HRM.out.below HB.out) hkl
      obtain ⟨m, hmk⟩ : ∃ m, ms[k] = m := ⟨_, rfl⟩
      have hmem : m ∈ ms := by rw [← hmk]; exact List.getElem_mem hkl
      have HML := Lib.hid (HLN.out m hmem)
      have HTK := Lib.hid (show psum (pwOf l) (ms.take (k + 1)) = t + pwOf l m by rw [psum_take_succ _ _ _ hkl, hmk, ← HT.out])
      have hsum := (HNE.out.take (k + 1)).sum
      rw [HTK.out] at hsum
      have hpos := pw_nonneg HNE.out.pow m
      have hpt : 0 ≤ t := by rw [HT.out]; exact psum_nonneg _ fun q _ => pw_nonneg HNE.out.pow q
      obtain ⟨hi0, hi1⟩ := HNE.out.near m hmem
      obtain ⟨j, hj⟩ : ∃ j : Nat, m.idx = (j : Int) := ⟨m.idx.toNat, by omega⟩
      have hjl : j < l.length := by omega
      obtain ⟨am, hAm, hcm⟩ := rd_elem (by omega) memln (HR.out.below HB.out) hjl
      have HPW := Lib.hid (pwOf_at hj hjl)
      obtain ⟨P, hP⟩ : ∃ P, pwOf l m = P := ⟨_, rfl⟩
      rw [hP] at HTK hsum hpos HPW
      have HCM := Lib.hid (show ∀ wx, Below wr.heap.size wr wx → wx.cell? ⟨(am.add (j * 3)).block, (am.add (j * 3)).off + 1, none⟩ = some (.int .u64 P) from fun wx hb => by rw [← add_rec]; exact cell_keep (hcm 1 (.int .u64 P) (by rw [HPW.out]; rfl)) hb)
      rw [hmk] at hcell
      have HC := Lib.hid hcell
      have HJ := Lib.hid hj
      have hjn : (j : Int) < n := by have := HN.out; omega
      subst hA hAm
      clear hcell hmk hmem hcm hi0 hi1 hj hP
      have hi : (k : Int) < k' := by omega
      have p1 : IntKind.u64.wrap (t + P) = t + P := by rw [IntKind.wrap_u64]; omega
      go_wp2_with (first
        | (with_reducible show wpList _ _ _ (Oper.mk (some 12) (Op.load _ _) _ _ _ _ :: _) _ _; go_must (refine wpList_load_at rfl 50 _ rfl (ad.add (k * 18)) 18 rfl m.cl HC.out _ Try.underlying50 rfl info_Mk HML.out ?_))
        | (with_reducible show wpList _ _ _ (Oper.mk _ (Op.alloc _) _ _ _ _ :: _) _ _; refine wpList_alloc_i rfl 50 rfl (.agg zeroMk.toArray) zero_Mk ?_))
      intro q w4 k4 l4 g4 s4
      have K4 := Lib.hid k4
      have LR4 := Lib.hid l4
      have L4 := Lib.hid (HB.out.trans (l4.mono HB.out.size))
      have G4 := Lib.hid (show wr.heap.size ≤ q by omega)
      have HSZ := Lib.hid (show m.cl.toArray.size = 18 by rw [List.size_toArray, HML.out])
      have HKG4 := Lib.hid (HKG.out.below l4 HKG.out.lt)
      clear k4 l4 g4 s4
      go_wp2_with (with_reducible show wpList _ _ _ (Oper.mk _ (Op.store 50 _ _) _ _ _ _ :: _) _ _; go_must (refine wpList_store_bk rfl 50 _ _ rfl q rfl (.agg m.cl.toArray) rfl _ _ K4.out (by rw [agg_sz HSZ.out]; exact info_Mk) (by rw [agg_sz HSZ.out]; exact zeroMk_sz.symm) (mk_one m) ?_))
      intro w5 h5 hg5 hs5
      have LR5 := Lib.hid (below_grown2 LR4.out hg5 G4.out LR4.out.size)
      have L5 := Lib.hid (HB.out.trans (LR5.out.mono HB.out.size))
      have K5 := Lib.hid (show Bk w5 q m.cl.toArray 50 from h5)
      have HKG5 := Lib.hid (HKG.out.below LR5.out HKG.out.lt)
      have c0 : w5.cell? ⟨q, 0, none⟩ = some (.int .i64 (j : Int)) := by rw [← HJ.out]; exact K5.out.cell 0
      have c1 : w5.cell? ⟨g, 0, none⟩ = some (.slice (some am) n c) := HKG5.out.cell 0
      have c2 := HCM.out w5 LR5.out
      clear h5 hg5 hs5 K4 L4 LR4 HKG4
      go_wp2
      go_round
      case rel => exact ⟨k + 1, t + P, by omega, by go_num, rfl, HTK.out.symm, HKG5.out, L5.out⟩
      case measure => simp [intOf]; omega
    · have hk' : k = k' := by omega
      have HE := Lib.hid (show t = psum (pwOf l) ms by rw [HT.out, List.take_of_length_le (by rw [hk', HK.out]; exact Nat.le_refl _)])
      clear hk'
      rw [HE.out]
      go_wp2
      go_ret
      exact ⟨rfl, HB.out⟩
end Go.Proofs.Ytnfffipkgaobhaa

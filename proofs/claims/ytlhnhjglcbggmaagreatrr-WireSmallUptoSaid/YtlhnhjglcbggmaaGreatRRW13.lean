/-
  Reader.Text, Err, Left, End; NewReader; narrow; a seal that is not read. Condition: the Reader was made by NewReader (Re); NewReader's bytes are within reach.
  getHash, getSeal, signed: so many bytes in an array, zeros where they can't be read. Condition: the Reader was made by NewReader (Re).
  getVote, getProposal without the seal: field by field, each by the Reader's call. Condition: the Reader was made by NewReader (Re).
  heard: what is read as what is signed of a vote, of a proposal: the error, or the chain's name and the thing. Condition: the bytes are within reach.
-/
import Derived.Test.YtlhnhjglcbggmaaGreatRRW12
import Derived.Deep.RegionLaw
import Derived.Laws.CopyOwn
import Derived.Test.YtlhnhjglcbggmaaGreatRRW04
import Derived.Test.YtlhnhjglcbggmaaGreatRRW07
import Derived.Test.YtlhnhjglcbggmaaGreatRRW03
namespace Go.Proofs.YtlhnhjglcbggmaaGreatRR
set_option linter.unusedSimpArgs false
set_option linter.unusedVariables false
open Go.RowKit
set_option maxRecDepth 100000

set_option maxHeartbeats 1000000 in
theorem Err_any (w : World) (g : Nat) (A : Option Addr) (c : Nat) (l : List UInt8) (p : Nat) (e : Int) (h : Re w g A c l p e) :
    Calls Tryz.prog 132 #[.pointer (some ⟨g, 0, none⟩)] w fun en w' => en = .returned (.int .i64 e) ∧ w = w' := by
  have c0 : w.cell? ⟨g, 0, none⟩ = some (.bool true) := h.bk.cell 0
  have c3 : w.cell? ⟨g, 3, none⟩ = some (.int .i64 e) := h.bk.cell 3
  clear h
  go_enter Tryz.func132, Tryz.ntmps132
  go_wp2
  go_ret
  exact ⟨rfl, rfl⟩

set_option maxHeartbeats 1000000 in
theorem Left_any (w : World) (g : Nat) (A : Option Addr) (c : Nat) (l : List UInt8) (p : Nat) (e : Int) (h : Re w g A c l p e) :
    Calls Tryz.prog 133 #[.pointer (some ⟨g, 0, none⟩)] w fun en w' => en = .returned (.int .i64 ((l.length : Int) - p)) ∧ ∃ n, w' = w.drewN n := by
  have c1 : w.cell? ⟨g, 1, none⟩ = some (.slice A l.length c) := h.bk.cell 1
  have c2 : w.cell? ⟨g, 2, none⟩ = some (.int .i64 p) := h.bk.cell 2
  have hle := h.le
  have hreach := h.reach
  unfold reach47 at hreach
  have W1 : IntKind.i64.wrap ((l.length : Int) - p) = (l.length : Int) - p := by rw [IntKind.wrap_i64]; omega
  clear h
  go_enter Tryz.func133, Tryz.ntmps133
  go_wp2
  go_quiet (fail)
  go_wp2
  go_ret
  exact ⟨rfl, nq, rfl⟩

def endErr (l : List UInt8) (p : Nat) (e : Int) : Int := if e = 0 then (if p < l.length then 13 else 0) else e
def SameRe (g : Nat) (A : Option Addr) (c : Nat) (l : List UInt8) (p : Nat) (e : Int) (x : Int) (w : World) (en : Ending) (w' : World) : Prop :=
  en = .returned (.int .i64 x) ∧ Ch [g] w w' ∧ Re w' g A c l p e
set_option maxHeartbeats 1000000 in
theorem End_any (w : World) (g : Nat) (A : Option Addr) (c : Nat) (l : List UInt8) (p : Nat) (e : Int) (h : Re w g A c l p e) :
    Calls Tryz.prog 79 #[.pointer (some ⟨g, 0, none⟩)] w (SameRe g A c l p e (endErr l p e) w) := by
  have H := Lib.hid h
  clear h
  have hle := H.out.le
  by_cases he : e = 0
  · subst he
    go_enter Tryz.func79, Tryz.ntmps79
    go_wp2_with fail
    refine (Err_any w g A c l p 0 H.out).mono ?_
    rintro en w1 ⟨rfl, rfl⟩
    go_wp2_with fail
    refine (Left_any w g A c l p 0 H.out).mono ?_
    rintro en w1 ⟨rfl, nd, rfl⟩
    by_cases hp : p < l.length
    · have hk : endErr l p 0 = 13 := by unfold endErr; rw [if_pos rfl, if_pos hp]
      have HK := Lib.hid hk
      have hp' : (0 : Int) < (l.length : Int) - p := by omega
      clear hk
      go_wp2
      go_ret
      rw [HK.out]
      exact ⟨rfl, (Ch.refl _ _).drewN _, H.out.drewN _⟩
    · have hk : endErr l p 0 = 0 := by unfold endErr; rw [if_pos rfl, if_neg hp]
      have HK := Lib.hid hk
      have hp' : ¬ (0 : Int) < (l.length : Int) - p := by omega
      clear hk
      go_wp2
      go_ret
      rw [HK.out]
      exact ⟨rfl, (Ch.refl _ _).drewN _, H.out.drewN _⟩
  · have h1 : (e != 0) = true := by simp [he]
    have h2 : (e == 0) = false := by simp [he]
    have hk : endErr l p e = e := by unfold endErr; rw [if_neg he]
    have HK := Lib.hid hk
    clear hk he
    go_enter Tryz.func79, Tryz.ntmps79
    go_wp2_with fail
    refine (Err_any w g A c l p e H.out).mono ?_
    rintro en w1 ⟨rfl, rfl⟩
    go_wp2
    go_ret
    rw [HK.out]
    exact ⟨rfl, Ch.refl _ _, H.out⟩

def small (n : Nat) : Nat := min n 2147483647
set_option maxHeartbeats 1000000 in
theorem narrow_any (w : World) (n : Nat) :
    Calls Tryz.prog 136 #[.int .u64 n] w fun en w' => en = .returned (.int .i64 (small n)) ∧ w = w' := by
  by_cases hn : n ≤ 2147483647
  · have hk : small n = n := by unfold small; omega
    have HK := Lib.hid hk
    have W : IntKind.i64.wrap (n : Int) = n := by rw [IntKind.wrap_i64]; omega
    have h1 : (n : Int) ≤ 2147483647 := by omega
    clear hk
    go_enter Tryz.func136, Tryz.ntmps136
    go_wp2
    go_ret
    rw [HK.out]
    exact ⟨rfl, rfl⟩
  · have hk : small n = 2147483647 := by unfold small; omega
    have HK := Lib.hid hk
    have h1 : ¬ (n : Int) ≤ 2147483647 := by omega
    have h2 : (2147483647 : Int) < n := by omega
    clear hk
    go_enter Tryz.func136, Tryz.ntmps136
    go_wp2
    go_ret
    rw [HK.out]
    exact ⟨rfl, rfl⟩

theorem re_new {w1 : World} {B c' : Nat} {A' : Option Addr} {l : List UInt8} (hs : Bs w1 B (.slice A' l.length c') l) (hl : l.length ≤ reach47) :
    Re (w1.alloc (.cells #[.bool true, .slice A' l.length c', .int .i64 0, .int .i64 0] 217)) w1.heap.size A' c' l 0 0 ∧ (∀ a, A' = some a → B ≤ a.block) := by
  have hlt : ∀ a, A' = some a → B ≤ a.block ∧ a.block < w1.heap.size := fun a ha => World.ownsRow.lt hs a.block (by rw [ha]; rfl)
  have hcap : l.length ≤ c' ∧ c' ≤ 9223372036854775807 := by
    rcases hs.2 with ⟨h1, h2⟩ | ⟨g, cap, cur, hv, _, _, h3, h4, _⟩
    · injection h1 with _ _ h3
      subst h3
      exact ⟨by omega, by omega⟩
    · injection hv with _ _ h5
      subst h5
      unfold maxLen at h4
      exact ⟨h3, h4⟩
  exact ⟨⟨Bk.new _ _ _, hs.rd.alloc _, fun a ha => by have := hlt a ha; omega, fun a ha => by have := hlt a ha; simp; omega, Nat.zero_le _, hcap.1, hcap.2, hl⟩, fun a ha => (hlt a ha).1⟩

set_option maxHeartbeats 1000000 in
theorem newReader_any (w : World) (A : Option Addr) (n c : Nat) (l : List UInt8) (hr : Rd w A (bv l)) (hn : n = l.length) (hl : l.length ≤ reach47) :
    Calls Tryz.prog 78 #[.slice A n c] w fun en w' => ∃ g A' c', en = .returned (.pointer (some ⟨g, 0, none⟩)) ∧ Re w' g A' c' l 0 0 ∧ w.heap.size ≤ g ∧ (∀ a, A' = some a → w.heap.size ≤ a.block) ∧ Below w.heap.size w w' := by
  have HR := Lib.hid hr
  have HN := Lib.hid hn
  have HL := Lib.hid hl
  clear hr hn hl
  go_enter Tryz.func78, Tryz.ntmps78
  go_wp2_with fail
  refine (clone_any w A n c l HR.out HN.out HL.out).mono ?_
  rintro e w1 ⟨v, rfl, hs, hb⟩
  obtain ⟨A', c', rfl⟩ := hs.form
  have HS := Lib.hid hs
  have HB := Lib.hid hb
  clear hs hb
  go_wp2
  go_ret
  obtain ⟨h1, h2⟩ := re_new HS.out HL.out
  have := HB.out.size
  exact ⟨w1.heap.size, A', c', rfl, h1, this, h2, HB.out.alloc this _⟩
end Go.Proofs.YtlhnhjglcbggmaaGreatRR
namespace Go.Proofs.YtlhnhjglcbggmaaGreatRR
set_option linter.unusedSimpArgs false
set_option linter.unusedVariables false
open Go.RowKit
set_option maxRecDepth 100000

theorem step_call {P : Program} {ops : Array Oper} {o : Oper} {a : Act} {w : World} {K : Act → World → Prop} {Q : Exit → Act → World → Prop} {E : Prop} (hgd : o.guard = none) {f : FuncId} {vs : Array Value} {post : Ending → World → Prop}
    (hrun : (execOp a.eval o).run P w = .ok (.enter f vs) w) (hc : Calls P f vs w post) (hK : ∀ e w', post e w' → ∃ v, e = .returned v ∧ K (a.put o.dst v) w') :
    if Region.wanted o (yielded ops a.tmps) = true then Oper.wp P o a w K Q else E := by
  have hw : Region.wanted o (yielded ops a.tmps) = true := by simp [Region.wanted, hgd]
  rw [if_pos hw]
  unfold Oper.wp
  rw [hrun]
  refine Calls.mono hc fun e w' he => ?_
  obtain ⟨v, rfl, hv⟩ := hK e w' he
  exact hv

/-- bytes laid into so many cells -/
def padded (n : Nat) (l : List UInt8) : List UInt8 := l ++ zeros (n - l.length)
theorem splice_zero (n : Nat) (l : List UInt8) : Go.splice (bv (zeros n)) 0 (bv l) = bv (padded n l) := by
  unfold Go.splice padded
  rw [bv_append]
  simp [bv, zeros]
theorem coreRaw_le {l : List UInt8} {n p : Nat} : (coreRaw l n p).val.length ≤ n := by
  unfold coreRaw
  split
  · simp
  · simp; omega
theorem after_le {l : List UInt8} {n p : Nat} {e : Int} : (after [] p e (coreRaw l n p)).val.length ≤ n := by
  unfold after
  split
  · exact coreRaw_le
  · simp
theorem re_any {w w' : World} {g : Nat} {A : Option Addr} {c : Nat} {l : List UInt8} {p : Nat} {e : Int} (h : Re w g A c l p e) (hh : w'.heap = w.heap) : Re w' g A c l p e :=
  ⟨by unfold Bk; rw [hh]; exact h.bk, fun j u hu => by
      obtain ⟨ad, ha, hc⟩ := h.rd j u hu
      exact ⟨ad, ha, by rw [World.cell?_of_block (w := w) (by rw [hh])]; exact hc⟩, h.ne, fun a ha => by rw [hh]; exact h.lt a ha, h.le, h.cap, h.room, h.reach⟩

theorem rd_pos {w : World} {A : Option Addr} {xs : List Value} (h : Rd w A xs) (h0 : 0 < xs.length) : ∃ ad, A = some ad ∧ ∀ j v, xs[j]? = some v → w.cell? (ad.add j) = some v := by
  obtain ⟨ad, ha, _⟩ := h.at_ h0
  subst ha
  exact ⟨ad, rfl, fun j v hj => by
    obtain ⟨ad', ha', hc⟩ := h j v hj
    cases ha'
    exact hc⟩
theorem re_low {w w' : World} {g : Nat} {A : Option Addr} {c : Nat} {l : List UInt8} {p : Nat} {e : Int} {B : Nat} (h : Re w g A c l p e) (hb : Below B w w') (hg : g < B) (hA : ∀ a, A = some a → a.block < B) : Re w' g A c l p e :=
  ⟨h.bk.below hb hg, h.rd.of_cells fun ad j ha _ => hb.cell (by rw [add_block]; exact hA ad ha), h.ne, fun a ha => Nat.lt_of_lt_of_le (h.lt a ha) hb.size, h.le, h.cap, h.room, h.reach⟩
theorem re_own {w w' : World} {g : Nat} {A : Option Addr} {c : Nat} {l : List UInt8} {p : Nat} {e : Int} {b : Nat} (h : Re w g A c l p e) (hg' : w.grownBy w' (some b)) (hg : g < b) (hA : ∀ a, A = some a → a.block < b) : Re w' g A c l p e :=
  h.ch (Ch.of_grown hg') (by simp; omega) (fun a ha => by have := hA a ha; simp; omega)
theorem ch_own {w w4 w5 : World} {g b : Nat} (h : Ch [g] w w4) (hg' : w4.grownBy w5 (some b)) (hb : w.heap.size ≤ b) : Ch [g] w w5 :=
  h.trans (Ch.of_grown hg') (fun k hk => .inr (by simp at hk; omega))
theorem ch_low {w w1 w3 w4 : World} {g B : Nat} (h1 : Below w.heap.size w w1) (ch3 : Ch [g] w1.drew w3) (hb : Below B w3 w4) (hB : w.heap.size ≤ B) : Ch [g] w w4 :=
  ⟨(hb.os.trans ch3.os).trans h1.os, (hb.tape.trans ch3.tape).trans h1.tape, (hb.output.trans ch3.output).trans h1.output, Nat.le_trans (Nat.le_trans h1.size ch3.size) hb.size, fun k hk hn => by
    rw [hb.block k (by omega), ch3.block k (Nat.lt_of_lt_of_le hk h1.size) hn]
    exact h1.block k hk⟩

set_option maxHeartbeats 2000000 in
theorem getHash_any (w : World) (g : Nat) (A : Option Addr) (c : Nat) (l : List UInt8) (p : Nat) (e : Int) (h : Re w g A c l p e) :
    Calls Tryz.prog 137 #[.pointer (some ⟨g, 0, none⟩)] w (RdRes g A c l (after [] p e (coreRaw l 32 p)) (fun x => .agg (bv (padded 32 x)).toArray) w) := by
  have H := Lib.hid h
  have hgl : g < w.heap.size := h.bk.lt
  clear h
  have hle : (after [] p e (coreRaw l 32 p)).val.length ≤ 32 := after_le
  have key0 := fun (wx : World) (hx : Re wx g A c l p e) => Raw_any wx g A c l p e 32 (by omega) hx
  generalize after [] p e (coreRaw l 32 p) = K at *
  have HLE := Lib.hid hle
  have HKEY := Lib.hid key0
  clear hle key0
  go_enter Tryz.func137, Tryz.ntmps137
  go_wp2_with (with_reducible show wpList _ _ _ (Oper.mk _ (Op.alloc _) _ _ _ _ :: _) _ _; refine wpList_alloc_bk rfl _ rfl (.agg (bv (zeros 32)).toArray) (by kernel_rfl) ?_)
  intro bh w1 hk1 hb1 hg1 hs1
  have HR := Lib.hid (H.out.below hb1)
  have HB := Lib.hid hb1
  have HK := Lib.hid hk1
  have HG := Lib.hid hg1
  have HN := Lib.hid (show bh ≠ g by omega)
  clear hb1 hk1 hg1 hs1
  go_wp2
  go_region_law (first
    | (refine step_copy_splice rfl (.tmp 3) (.tmp 5) 66 66 rfl 5 Tryz.underlying66 (by kernel_rfl) (some ⟨bh, 0, none⟩) A3 32 32 K.val.length c3 (by simp [Act.eval, Act.put]) (by simp [Act.eval, Act.put]) bh 0 (bv (zeros 32)) 29 HK3.out (bv K.val) (by rw [bv_length]; exact (Nat.min_eq_left HLE.out).symm) (fun h0 => ⟨rfl, rd_pos HS3.out.rd h0⟩) (by have := HLE.out; simp [bv_length, zeros]; omega) (bv_one _) bh w3 (Below.refl _ _) (Nat.le_refl _) ?_; intro w4 hg4 hb4)
    | (refine step_call rfl (by go_simp) (HKEY.out _ (re_any HR.out rfl)) ?_; rintro e3 w3 ⟨A3, c3, rfl, hs3, ch3, re3⟩; refine ⟨_, rfl, ?_⟩; have HS3 := Lib.hid hs3; have HC3 := Lib.hid ch3; have HR3 := Lib.hid re3; have HK3 := Lib.hid (Bk.ch (w := w1.drew) HK.out ch3 (by simpa using HN.out)); clear hs3 ch3 re3))
  have R4 := re_low HR3.out hb4 (by have := HG.out; omega) (fun a ha => by have := H.out.lt a ha; have := HG.out; omega)
  have C4 := ch_low (w := w) (HB.out) (ch3 := HC3.out) hb4 (by have := HG.out; omega)
  have hg4' := hg4.out
  rw [splice_zero] at hg4'
  have B4 : Bk w4 bh (bv (padded 32 K.val)).toArray 29 := hg4'
  clear hg4' hg4 hb4
  have hpl : (bv (padded 32 K.val)).length = 32 := by have := HLE.out; simp [bv_length, padded, zeros]; omega
  have HPL := Lib.hid hpl
  have HR4 := Lib.hid R4
  have HC4 := Lib.hid C4
  clear R4 C4 hpl
  have HSZ := Lib.hid (show ((Tryz.prog.info? 29).map (·.size)) = some (Value.agg (bv (padded 32 K.val)).toArray).cells.size from by
    rw [show ((Tryz.prog.info? 29).map (·.size)) = some 32 from by kernel_rfl]
    exact congrArg some (by simp [Value.cells, HPL.out]))
  have HONE := Lib.hid (show ∀ u ∈ (Value.agg (bv (padded 32 K.val)).toArray).cells.toList, u.oneCell' = true from by
    simpa [Value.cells] using bv_one (padded 32 K.val))
  go_wp2_with (first
    | (with_reducible show wpList _ _ _ (Oper.mk _ (Op.load _ _) _ _ _ _ :: _) _ _; refine wpList_load_part rfl 29 _ rfl bh 0 32 rfl _ _ _ B4 Tryz.underlying29 rfl (by kernel_rfl) (by simp [HPL.out]) _ (cl_all HPL.out) ?_)
    | (with_reducible show wpList _ _ _ (Oper.mk _ (Op.store _ _ _) _ _ _ _ :: _) _ _; go_must (refine wpList_store_bk rfl 29 _ _ rfl bh rfl (.agg (bv (padded 32 K.val)).toArray) rfl _ _ B4 HSZ.out rfl HONE.out ?_; intro w5 hk5 hg5 hs5)))
  have HC5 := Lib.hid (ch_own (w := w) HC4.out hg5 (by have := HG.out; omega))
  have HR5 := Lib.hid (re_own HR4.out hg5 (by have := HG.out; omega) (fun a ha => by have := H.out.lt a ha; have := HG.out; omega))
  exact bodyPost_cell Tryz.results137 rfl hk5 Tryz.underlying29 rfl (show ((Tryz.prog.info? 29).map (·.size)) = some 32 from by kernel_rfl) (by simp [Value.cells, HPL.out]) rfl ⟨rfl, HC5.out, HR5.out⟩

set_option maxHeartbeats 2000000 in
theorem getSeal_any (w : World) (g : Nat) (A : Option Addr) (c : Nat) (l : List UInt8) (p : Nat) (e : Int) (h : Re w g A c l p e) :
    Calls Tryz.prog 193 #[.pointer (some ⟨g, 0, none⟩)] w (RdRes g A c l (after [] p e (coreRaw l 16 p)) (fun x => .agg (bv (padded 16 x)).toArray) w) := by
  have H := Lib.hid h
  have hgl : g < w.heap.size := h.bk.lt
  clear h
  have hle : (after [] p e (coreRaw l 16 p)).val.length ≤ 16 := after_le
  have key0 := fun (wx : World) (hx : Re wx g A c l p e) => Raw_any wx g A c l p e 16 (by omega) hx
  generalize after [] p e (coreRaw l 16 p) = K at *
  have HLE := Lib.hid hle
  have HKEY := Lib.hid key0
  clear hle key0
  go_enter Tryz.func193, Tryz.ntmps193
  go_wp2_with (with_reducible show wpList _ _ _ (Oper.mk _ (Op.alloc _) _ _ _ _ :: _) _ _; refine wpList_alloc_bk rfl _ rfl (.agg (bv (zeros 16)).toArray) (by kernel_rfl) ?_)
  intro bh w1 hk1 hb1 hg1 hs1
  have HR := Lib.hid (H.out.below hb1)
  have HB := Lib.hid hb1
  have HK := Lib.hid hk1
  have HG := Lib.hid hg1
  have HN := Lib.hid (show bh ≠ g by omega)
  clear hb1 hk1 hg1 hs1
  go_wp2
  go_region_law (first
    | (refine step_copy_splice rfl (.tmp 3) (.tmp 5) 66 66 rfl 5 Tryz.underlying66 (by kernel_rfl) (some ⟨bh, 0, none⟩) A3 16 16 K.val.length c3 (by simp [Act.eval, Act.put]) (by simp [Act.eval, Act.put]) bh 0 (bv (zeros 16)) 25 HK3.out (bv K.val) (by rw [bv_length]; exact (Nat.min_eq_left HLE.out).symm) (fun h0 => ⟨rfl, rd_pos HS3.out.rd h0⟩) (by have := HLE.out; simp [bv_length, zeros]; omega) (bv_one _) bh w3 (Below.refl _ _) (Nat.le_refl _) ?_; intro w4 hg4 hb4)
    | (refine step_call rfl (by go_simp) (HKEY.out _ (re_any HR.out rfl)) ?_; rintro e3 w3 ⟨A3, c3, rfl, hs3, ch3, re3⟩; refine ⟨_, rfl, ?_⟩; have HS3 := Lib.hid hs3; have HC3 := Lib.hid ch3; have HR3 := Lib.hid re3; have HK3 := Lib.hid (Bk.ch (w := w1.drew) HK.out ch3 (by simpa using HN.out)); clear hs3 ch3 re3))
  have R4 := re_low HR3.out hb4 (by have := HG.out; omega) (fun a ha => by have := H.out.lt a ha; have := HG.out; omega)
  have C4 := ch_low (w := w) (HB.out) (ch3 := HC3.out) hb4 (by have := HG.out; omega)
  have hg4' := hg4.out
  rw [splice_zero] at hg4'
  have B4 : Bk w4 bh (bv (padded 16 K.val)).toArray 25 := hg4'
  clear hg4' hg4 hb4
  have hpl : (bv (padded 16 K.val)).length = 16 := by have := HLE.out; simp [bv_length, padded, zeros]; omega
  have HPL := Lib.hid hpl
  have HR4 := Lib.hid R4
  have HC4 := Lib.hid C4
  clear R4 C4 hpl
  have HSZ := Lib.hid (show ((Tryz.prog.info? 25).map (·.size)) = some (Value.agg (bv (padded 16 K.val)).toArray).cells.size from by
    rw [show ((Tryz.prog.info? 25).map (·.size)) = some 16 from by kernel_rfl]
    exact congrArg some (by simp [Value.cells, HPL.out]))
  have HONE := Lib.hid (show ∀ u ∈ (Value.agg (bv (padded 16 K.val)).toArray).cells.toList, u.oneCell' = true from by
    simpa [Value.cells] using bv_one (padded 16 K.val))
  go_wp2_with (first
    | (with_reducible show wpList _ _ _ (Oper.mk _ (Op.load _ _) _ _ _ _ :: _) _ _; refine wpList_load_part rfl 25 _ rfl bh 0 16 rfl _ _ _ B4 Tryz.underlying25 rfl (by kernel_rfl) (by simp [HPL.out]) _ (cl_all HPL.out) ?_)
    | (with_reducible show wpList _ _ _ (Oper.mk _ (Op.store _ _ _) _ _ _ _ :: _) _ _; go_must (refine wpList_store_bk rfl 25 _ _ rfl bh rfl (.agg (bv (padded 16 K.val)).toArray) rfl _ _ B4 HSZ.out rfl HONE.out ?_; intro w5 hk5 hg5 hs5)))
  have HC5 := Lib.hid (ch_own (w := w) HC4.out hg5 (by have := HG.out; omega))
  have HR5 := Lib.hid (re_own HR4.out hg5 (by have := HG.out; omega) (fun a ha => by have := H.out.lt a ha; have := HG.out; omega))
  exact bodyPost_cell Tryz.results193 rfl hk5 Tryz.underlying25 rfl (show ((Tryz.prog.info? 25).map (·.size)) = some 16 from by kernel_rfl) (by simp [Value.cells, HPL.out]) rfl ⟨rfl, HC5.out, HR5.out⟩

end Go.Proofs.YtlhnhjglcbggmaaGreatRR
namespace Go.Proofs.YtlhnhjglcbggmaaGreatRR
set_option linter.unusedSimpArgs false
set_option linter.unusedVariables false
open Go.RowKit
set_option maxRecDepth 100000

def readByte (l : List UInt8) (p : Nat) (e : Int) : Got Int := after 0 p e (coreByte l p)
def readVar (l : List UInt8) (p : Nat) (e : Int) : Got Nat := after 0 p e (coreVar l p)
def readRaw (n : Nat) (l : List UInt8) (p : Nat) (e : Int) : Got (List UInt8) := after [] p e (coreRaw l n p)
def zeroVoteR : Vote := ⟨0, 0, 0, zeros 32, 0, 0, zeros 16⟩
def rdVote (l : List UInt8) (p : Nat) (e : Int) : Got Vote :=
  let a := readByte l p e
  let b := readVar l a.at' a.err
  let c := readVar l b.at' b.err
  let d := readRaw 32 l c.at' c.err
  let f := readVar l d.at' d.err
  let h := readVar l f.at' f.err
  ⟨⟨a.val, b.val, small c.val, padded 32 d.val, f.val, h.val, zeros 16⟩, h.at', h.err⟩
theorem readByte_bd (l : List UInt8) (p : Nat) (e : Int) : 0 ≤ (readByte l p e).val ∧ (readByte l p e).val < 256 := by
  unfold readByte after coreByte
  split
  · split
    · exact ⟨by simp, by simp⟩
    · rename_i b _
      have := UInt8.toNat_lt b
      exact ⟨by simp, by simp; omega⟩
  · exact ⟨by simp, by simp⟩
theorem readRaw_le {l : List UInt8} {n p : Nat} {e : Int} : (readRaw n l p e).val.length ≤ n := after_le
theorem padded_len {n : Nat} {l : List UInt8} (h : l.length ≤ n) : (padded n l).length = n := by simp [padded, zeros]; omega

/-- a list with a part written over, told by what lies about it -/
theorem splice_of {xs ys zs ws : List Value} {n : Nat} (h : xs.length = n) (hl : ws.length = ys.length) : splice (xs ++ (ys ++ zs)).toArray n ws = (xs ++ (ws ++ zs)).toArray := by
  subst h
  unfold splice
  apply Array.ext'
  rw [hl]
  simp
theorem vote_kind (x : Vote) (v : Int) : splice x.cl.toArray 0 [.int .i64 v] = (Vote.cl { x with kind := v }).toArray := by
  simp only [Vote.cl, List.append_assoc]
  exact splice_of (xs := []) (ys := [.int .i64 x.kind]) rfl rfl
theorem vote_height (x : Vote) (v : Int) : splice x.cl.toArray 1 [.int .u64 v] = (Vote.cl { x with height := v }).toArray := by
  simp only [Vote.cl, List.append_assoc]
  exact splice_of (xs := [.int .i64 x.kind]) (ys := [.int .u64 x.height]) rfl rfl
theorem vote_round (x : Vote) (v : Int) : splice x.cl.toArray 2 [.int .i64 v] = (Vote.cl { x with round := v }).toArray := by
  simp only [Vote.cl, List.append_assoc]
  exact splice_of (xs := [.int .i64 x.kind, .int .u64 x.height]) (ys := [.int .i64 x.round]) rfl rfl
theorem voteR_id (x : Vote) (h : List UInt8) (hx : x.id.length = 32) (hh : h.length = 32) : splice x.cl.toArray 3 (bv h) = (Vote.cl { x with id := h }).toArray := by
  simp only [Vote.cl, List.append_assoc]
  exact splice_of (xs := [.int .i64 x.kind, .int .u64 x.height, .int .i64 x.round]) (ys := bv x.id) rfl (by rw [bv_length, bv_length, hx, hh])
theorem vote_time (x : Vote) (v : Int) (hx : x.id.length = 32) : splice x.cl.toArray 35 [.int .u64 v] = (Vote.cl { x with time := v }).toArray := by
  have e : x.cl = ([.int .i64 x.kind, .int .u64 x.height, .int .i64 x.round] ++ bv x.id) ++ ([.int .u64 x.time] ++ ([.int .u64 x.frm] ++ bv x.sl)) := by simp [Vote.cl]
  have e2 : Vote.cl { x with time := v } = ([.int .i64 x.kind, .int .u64 x.height, .int .i64 x.round] ++ bv x.id) ++ ([.int .u64 v] ++ ([.int .u64 x.frm] ++ bv x.sl)) := by simp [Vote.cl]
  rw [e, e2]
  exact splice_of (by simp [bv_length, hx]) rfl
theorem vote_frm (x : Vote) (v : Int) (hx : x.id.length = 32) : splice x.cl.toArray 36 [.int .u64 v] = (Vote.cl { x with frm := v }).toArray := by
  have e : x.cl = ([.int .i64 x.kind, .int .u64 x.height, .int .i64 x.round] ++ bv x.id ++ [.int .u64 x.time]) ++ ([.int .u64 x.frm] ++ bv x.sl) := by simp [Vote.cl]
  have e2 : Vote.cl { x with frm := v } = ([.int .i64 x.kind, .int .u64 x.height, .int .i64 x.round] ++ bv x.id ++ [.int .u64 x.time]) ++ ([.int .u64 v] ++ bv x.sl) := by simp [Vote.cl]
  rw [e, e2]
  exact splice_of (by simp [bv_length, hx]) rfl
theorem vote_seal (x : Vote) (h : List UInt8) (hx : x.id.length = 32) (hs : x.sl.length = 16) (hh : h.length = 16) : splice x.cl.toArray 37 (bv h) = (Vote.cl { x with sl := h }).toArray := by
  have e : x.cl = ([.int .i64 x.kind, .int .u64 x.height, .int .i64 x.round] ++ bv x.id ++ [.int .u64 x.time, .int .u64 x.frm]) ++ (bv x.sl ++ []) := by simp [Vote.cl]
  have e2 : Vote.cl { x with sl := h } = ([.int .i64 x.kind, .int .u64 x.height, .int .i64 x.round] ++ bv x.id ++ [.int .u64 x.time, .int .u64 x.frm]) ++ (bv h ++ []) := by simp [Vote.cl]
  rw [e, e2]
  exact splice_of (by simp [bv_length, hx]) (by rw [bv_length, bv_length, hs, hh])
theorem Byte_rd (w : World) (g : Nat) (A : Option Addr) (c : Nat) (l : List UInt8) (p : Nat) (e : Int) (h : Re w g A c l p e) : Calls Tryz.prog 134 #[.pointer (some ⟨g, 0, none⟩)] w (RdRes g A c l (readByte l p e) (Value.int .u8) w) := Byte_any w g A c l p e h
theorem Var_rd (w : World) (g : Nat) (A : Option Addr) (c : Nat) (l : List UInt8) (p : Nat) (e : Int) (h : Re w g A c l p e) : Calls Tryz.prog 135 #[.pointer (some ⟨g, 0, none⟩)] w (RdRes g A c l (readVar l p e) toU64 w) := Var_any w g A c l p e h
abbrev toHash (n : Nat) (x : List UInt8) : Value := .agg (bv (padded n x)).toArray
theorem Hash_rd (w : World) (g : Nat) (A : Option Addr) (c : Nat) (l : List UInt8) (p : Nat) (e : Int) (h : Re w g A c l p e) : Calls Tryz.prog 137 #[.pointer (some ⟨g, 0, none⟩)] w (RdRes g A c l (readRaw 32 l p e) (toHash 32) w) := getHash_any w g A c l p e h
theorem Seal_rd (w : World) (g : Nat) (A : Option Addr) (c : Nat) (l : List UInt8) (p : Nat) (e : Int) (h : Re w g A c l p e) : Calls Tryz.prog 193 #[.pointer (some ⟨g, 0, none⟩)] w (RdRes g A c l (readRaw 16 l p e) (toHash 16) w) := getSeal_any w g A c l p e h
theorem vote_len (x : Vote) (h : x.id.length = 32) (hs : x.sl.length = 16) : x.cl.length = 53 := by simp [Vote.cl, bv_length, h, hs]
theorem voteR_one (x : Vote) : ∀ u ∈ x.cl.toArray.toList, u.oneCell' = true := by
  intro u hu
  simp only [Vote.cl, List.mem_append, List.mem_cons, List.not_mem_nil, or_false] at hu
  rcases hu with ((h | h) | h) | h
  · rcases h with rfl | rfl | rfl <;> rfl
  · exact bv_one _ u h
  · rcases h with rfl | rfl <;> rfl
  · exact bv_one _ u h
theorem zeros_len (n : Nat) : (zeros n).length = n := by simp [zeros]
theorem bk_eq {w : World} {g : Nat} {t : TypeId} {cs cs' : Array Value} (h : Bk w g cs t) (e : cs = cs') : Bk w g cs' t := e ▸ h

theorem vote_fit (x : Vote) (h : x.id.length = 32) (hs : x.sl.length = 16) (k : Nat) (hk : k ≤ 53) : k ≤ x.cl.toArray.size := by simp [vote_len x h hs]; exact hk
theorem info_int1 : (Tryz.prog.info? 3).map (·.size) = some 1 := by kernel_rfl
theorem info_u641 : (Tryz.prog.info? 22).map (·.size) = some 1 := by kernel_rfl
theorem info_addr1 : (Tryz.prog.info? 23).map (·.size) = some 1 := by kernel_rfl
theorem info_seal16 : (Tryz.prog.info? 25).map (·.size) = some 16 := by kernel_rfl
theorem info_hash32 : (Tryz.prog.info? 29).map (·.size) = some 32 := by kernel_rfl
theorem info_vote53 : (Tryz.prog.info? 31).map (·.size) = some 53 := by kernel_rfl
theorem one_one {v : Value} (h : v.oneCell' = true) : ∀ u ∈ [v], u.oneCell' = true := by
  intro u hu
  simp at hu
  subst hu
  exact h

/-- a part of a known block written -/
theorem wpList_st {P : Program} {ops : Array Oper} {rest : List Oper} {o : Oper} {a : Act} {w : World} {Q : Exit → Act → World → Prop} (hw : Region.wanted o (yielded ops a.tmps) = true) (ty : TypeId) (x y : Operand) (ho : o.op = .store ty x y)
    (g off : Nat) (hx : a.eval x = .pointer (some ⟨g, off, none⟩)) (v : Value) (hy : a.eval y = v) (xs : List Value) (hv : v.cells.toList = xs) (n : Nat) (hi : (P.info? ty).map (·.size) = some n) (hl : xs.length = n) (cs : Array Value) (t : TypeId) (hk : Bk w g cs t) (hn : off + n ≤ cs.size) (h1 : ∀ u ∈ xs, u.oneCell' = true)
    (h : ∀ w', Bk w' g (splice cs off xs) t → w.grownBy w' (some g) → w'.heap.size = w.heap.size → wpList P ops Q rest (a.put o.dst undef) w') : wpList P ops Q (o :: rest) a w := by
  subst hv
  have hl' : v.cells.size = n := by simpa using hl
  subst hl'
  exact wpList_store_part hw ty x y ho g off hx v hy cs t hk hi hn h1 h

/-- a thing under way: what the Reader is at, what has been laid into the variable -/
structure Bld (w0 : World) (g : Nat) (A : Option Addr) (c : Nat) (l : List UInt8) (bx : Nat) (T : TypeId) (w : World) (p : Nat) (e : Int) (X : Array Value) : Prop where
  re : Re w g A c l p e
  ch : Ch [g] w0 w
  bk : Bk w bx X T
structure Side (w0 : World) (g : Nat) (A : Option Addr) (bx : Nat) : Prop where
  g : g < w0.heap.size
  a : ∀ a, A = some a → a.block < w0.heap.size
  x : w0.heap.size ≤ bx
section
variable {w0 w w' : World} {g : Nat} {A : Option Addr} {c : Nat} {l : List UInt8} {bx : Nat} {T : TypeId} {p : Nat} {e : Int} {X : Array Value}
theorem Bld.call {p' : Nat} {e' : Int} (h : Bld w0 g A c l bx T w p e X) (s : Side w0 g A bx) (ch : Ch [g] w w') (re : Re w' g A c l p' e') : Bld w0 g A c l bx T w' p' e' X :=
  ⟨re, h.ch.same ch, h.bk.ch ch (by have := s.g; have := s.x; simp; omega)⟩
theorem Bld.below (h : Bld w0 g A c l bx T w p e X) (hb : Below w.heap.size w w') : Bld w0 g A c l bx T w' p e X :=
  ⟨h.re.below hb, h.ch.same (Ch.of_below _ hb), h.bk.below hb h.bk.lt⟩
theorem Bld.store {X' Y : Array Value} (h : Bld w0 g A c l bx T w p e X) (s : Side w0 g A bx) (hk : Bk w' bx Y T) (hg : w.grownBy w' (some bx)) (he : Y = X') : Bld w0 g A c l bx T w' p e X' :=
  ⟨re_own h.re hg (by have := s.g; have := s.x; omega) (fun a ha => by have := s.a a ha; have := s.x; omega), ch_own h.ch hg s.x, he ▸ hk⟩
end

theorem splice_all {xs : List Value} {n : Nat} (h : xs.length = n) : splice xs.toArray 0 xs = xs.toArray := by
  unfold splice
  apply Array.ext'
  simp

theorem groups_bd {rest : List UInt8} : ∀ {k acc v n : Nat}, groups rest k acc = .inr (v, n) → acc < 128 ^ k → k ≤ 9 → v < 18446744073709551616 := by
  induction rest with
  | nil => intro k acc v n h; unfold groups at h; cases h
  | cons b rest ih =>
    intro k acc v n h ha hk
    have hb := UInt8.toNat_lt b
    unfold groups at h
    split at h
    · cases h
    · rename_i hbad
      split at h
      · rename_i hlt
        cases h
        exact acc_lt ha hk hlt (fun h9 => by omega)
      · rename_i hge
        by_cases h9 : k = 9
        · omega
        · refine ih h ?_ (by omega)
          exact acc_lt' ha (by omega)
theorem readVar_bd (l : List UInt8) (p : Nat) (e : Int) : (readVar l p e).val < 18446744073709551616 := by
  unfold readVar after coreVar
  split
  · cases hq : groups (l.drop p) 0 0 with
    | inl x => simp
    | inr x => exact groups_bd hq (by decide) (by omega)
  · simp
end Go.Proofs.YtlhnhjglcbggmaaGreatRR
namespace Go.Proofs.YtlhnhjglcbggmaaGreatRR
set_option linter.unusedSimpArgs false
set_option linter.unusedVariables false
open Go.RowKit
set_option maxRecDepth 100000

structure Hd (w0 : World) (g : Nat) (A : Option Addr) (c : Nat) (l : List UInt8) (b1 b2 : Nat) (Z : Array Value) (T : TypeId) (w : World) (p : Nat) (e : Int) : Prop where
  re : Re w g A c l p e
  bel : Below w0.heap.size w0 w
  z1 : Bk w b1 Z T
  z2 : Bk w b2 Z T
structure HdS (w0 : World) (g : Nat) (A : Option Addr) (b1 b2 : Nat) : Prop where
  b : w0.heap.size ≤ b1
  b12 : b1 < b2
  g : b2 < g
  a : ∀ a, A = some a → b2 < a.block
section
variable {w0 w w' : World} {g : Nat} {A : Option Addr} {c : Nat} {l : List UInt8} {b1 b2 : Nat} {Z : Array Value} {T : TypeId} {p : Nat} {e : Int}
theorem Hd.call {p' : Nat} {e' : Int} (h : Hd w0 g A c l b1 b2 Z T w p e) (s : HdS w0 g A b1 b2) (ch : Ch [g] w w') (re : Re w' g A c l p' e') : Hd w0 g A c l b1 b2 Z T w' p' e' :=
  ⟨re, h.bel.trans (ch.below (by have := h.bel.size; omega) (fun k hk => by have := s.b; have := s.b12; have := s.g; simp at hk; omega)),
    h.z1.ch ch (by have := s.b12; have := s.g; simp; omega), h.z2.ch ch (by have := s.g; simp; omega)⟩
theorem Hd.below (h : Hd w0 g A c l b1 b2 Z T w p e) (hb : Below w.heap.size w w') : Hd w0 g A c l b1 b2 Z T w' p e :=
  ⟨h.re.below hb, h.bel.trans (hb.mono h.bel.size), h.z1.below hb h.z1.lt, h.z2.below hb h.z2.lt⟩
theorem Hd.drew (h : Hd w0 g A c l b1 b2 Z T w p e) : Hd w0 g A c l b1 b2 Z T w.drew p e := ⟨re_any h.re rfl, h.bel.drew, h.z1, h.z2⟩
end
theorem I64.of_small (n : Nat) : I64 (small n) := by unfold I64 small; omega
theorem U64.of_bd {n : Nat} (h : n < 18446744073709551616) : U64 (n : Int) := ⟨by omega, by omega⟩
theorem cell_block {w : World} {a : Addr} (h : w.cell? a ≠ none) : a.block < w.heap.size := by
  cases hc : w.cell? a with
  | none => exact absurd hc h
  | some v => exact World.block_lt_of_cell? w a hc
theorem splice_same {xs ys : List Value} {n : Nat} (h : xs.length = n) (h2 : ys.length = n) : splice ys.toArray 0 xs = xs.toArray := by
  unfold splice
  apply Array.ext'
  simp only [List.take_zero, List.nil_append, Nat.zero_add]
  rw [List.drop_of_length_le (by omega), List.append_nil]
theorem Hd.own {w0 w w' : World} {g : Nat} {A : Option Addr} {c : Nat} {l : List UInt8} {b1 b2 b : Nat} {Z : Array Value} {T : TypeId} {p : Nat} {e : Int} (h : Hd w0 g A c l b1 b2 Z T w p e) (hg : w.grownBy w' (some b)) (h1 : g < b) (h2 : ∀ a, A = some a → a.block < b) (h3 : b1 < b) (h4 : b2 < b) (h5 : w0.heap.size ≤ b) : Hd w0 g A c l b1 b2 Z T w' p e :=
  ⟨re_own h.re hg h1 h2, h.bel.grown hg h.bel.size (fun k hk => by cases hk; exact h5), h.z1.grown hg (by simp; omega), h.z2.grown hg (by simp; omega)⟩

end Go.Proofs.YtlhnhjglcbggmaaGreatRR

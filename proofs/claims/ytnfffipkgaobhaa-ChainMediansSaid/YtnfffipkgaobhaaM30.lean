/-
  The reference's Median. Conditions: each number fits its kind; the lists lie in the world.
  The law of a region that draws its order, over whatever relation between worlds that each operation keeps and that no known fact minds. No condition: lemmas over any program.
  What a row's first cells keep while a call appends onto rows of its own: the relation for the law of a region that draws its order, and the append as a step of it. No condition: lemmas over any program.
-/
import Derived.Test.YtnfffipkgaobhaaM29
import Derived.Test.YtnfffipkgaobhaaM14
import Derived.Test.YtnfffipkgaobhaaM25
namespace Go.Proofs.Ytnfffipkgaobhaa
set_option linter.unusedSimpArgs false
set_option linter.unusedVariables false
open Go.RowKit
set_option maxRecDepth 100000

/-- what is read of the two lists -/
structure Two (wx : World) (ax am : Addr) (ms : List Mk) (l : List Mem) : Prop where
  idx : ∀ k (h : k < ms.length), wx.cell? (ax.add (k * 18)) = some (.int .i64 (ms[k]).idx)
  time : ∀ k (h : k < ms.length), wx.cell? ⟨(ax.add (k * 18)).block, (ax.add (k * 18)).off + 1, none⟩ = some (.int .u64 (ms[k]).time)
  pow : ∀ j (h : j < l.length), wx.cell? ⟨(am.add (j * 3)).block, (am.add (j * 3)).off + 1, none⟩ = some (.int .u64 (l[j]).power)
theorem two_of {wx : World} {ax am : Addr} {ms : List Mk} {l : List Mem} (hm : ∀ m ∈ ms, m.ok) (h1 : Rd wx (some ax) (ms.flatMap Mk.cl)) (h2 : Rd wx (some am) (l.flatMap Mem.cl)) : Two wx ax am ms l := by
  refine ⟨fun k h => ?_, fun k h => ?_, fun j h => ?_⟩
  · obtain ⟨ad, e, hc⟩ := rd_elem (cl := Mk.cl) (N := 18) (by omega) (fun q hq => q.cl_len (hm q hq)) h1 h
    injection e with e; subst e
    simpa [Addr.add] using hc 0 (.int .i64 (ms[k]).idx) rfl
  · obtain ⟨ad, e, hc⟩ := rd_elem (cl := Mk.cl) (N := 18) (by omega) (fun q hq => q.cl_len (hm q hq)) h1 h
    injection e with e; subst e
    rw [← add_rec]
    exact hc 1 (.int .u64 (ms[k]).time) rfl
  · obtain ⟨ad, e, hc⟩ := rd_elem (by omega) memln h2 h
    injection e with e; subst e
    rw [← add_rec]
    exact hc 1 (.int .u64 (l[j]).power) rfl
theorem upTo_take_succ {α : Type} (t p : α → Int) (b : Int) (l : List α) (k : Nat) (hk : k < l.length) : upTo t p b (l.take (k + 1)) = upTo t p b (l.take k) + (if t l[k] ≤ b then p l[k] else 0) := by
  rw [List.take_succ_eq_append_getElem hk, upTo_append]; simp [upTo]
theorem upTo_bound {α : Type} (t p : α → Int) (b : Int) (l : List α) (h0 : ∀ x ∈ l, 0 ≤ p x) (k : Nat) : 0 ≤ upTo t p b (l.take k) ∧ upTo t p b (l.take k) ≤ psum p l := by
  have h := upTo_le t p (b := b) (l := l.take k) fun x hx => h0 x (List.mem_of_mem_take hx)
  have := psum_take_le p l h0 k
  omega
theorem bestS_drop {α : Type} (t p : α → Int) (T : Int) (L : List α) {k : Nat} (hk : k < L.length) (b : Option Int) : bestS t p T L (L.drop k) b = bestS t p T L (L.drop (k + 1)) (if T < 2 * upTo t p (t L[k]) L ∧ (∀ v, b = some v → t L[k] < v) then some (t L[k]) else b) := by
  rw [List.drop_eq_getElem_cons hk]
  rfl
/-- the first loop's end -/
structure Rest (l : List Mem) (ms : List Mk) (T : Int) : Prop where
  near : ∀ m ∈ ms, 0 ≤ m.idx ∧ m.idx < l.length
  t0 : 0 ≤ T
  t1 : T ≤ 1152921504606846975

set_option maxHeartbeats 8000000 in
theorem rMedian_any (w : World) (A : Option Addr) (n c : Nat) (l : List Mem) (hn : n = l.length) (hm : ∀ m ∈ l, m.ok) (hr : Rd w A (l.flatMap Mem.cl)) (hl : n ≤ 10000000000000) (x : Crt) (hx : x.ok) (hat : x.at w) (hxl : x.n ≤ 10000000000000) :
    Calls Try.prog 7 #[.agg #[.slice A n c], .agg x.cl.toArray] w fun e w' => e = .returned (medV l x) ∧ Below w.heap.size w w' := by
  have HN := Lib.hid hn
  have HX := Lib.hid hx
  have HXL := Lib.hid (x.cl_len hx)
  have HR := Lib.hid hr
  have HAT := Lib.hid (show Rd w x.A (x.ms.flatMap Mk.cl) from hat)
  have HM := Lib.hid hm
  obtain ⟨E1, hE1⟩ : ∃ E, soundErr l = E := ⟨_, rfl⟩
  obtain ⟨E2, hE2⟩ : ∃ E, plainCrt x = E := ⟨_, rfl⟩
  have HC1 := Lib.hid (show ∀ w', Below w.heap.size w w' → Calls Try.prog 21 #[.agg #[.slice A n c]] w' fun e w'' => e = .returned (.int .i64 E1) ∧ Below w'.heap.size w' w'' from fun w' hb => by rw [← hE1]; exact rSound_any w' A n c l hn hm (hr.below hb) hl)
  have HC2 := Lib.hid (show ∀ w', Below w.heap.size w w' → Calls Try.prog 22 #[.agg x.cl.toArray] w' fun e w'' => e = .returned (.int .i64 E2) ∧ Below w'.heap.size w' w'' from fun w' hb => by rw [← hE2]; exact rPlainCrt_any w' x hx (show Rd w' x.A (x.ms.flatMap Mk.cl) from hat.below hb))
  have HE1 := Lib.hid hE1
  have HE2 := Lib.hid hE2
  have HMR : Hid (medRes l x = if E1 ≠ 0 then (0, E1) else if E2 ≠ 0 then (0, E2) else if x.ms.length = 0 then (0, 127) else if x.ms.any (farMk l) = true then (0, 101) else ((bestS Mk.time (pwOf l) (psum (pwOf l) x.ms) x.ms x.ms none).getD 0, 0)) := Lib.hid (by unfold medRes; rw [hE1, hE2])
  clear hn hx hr hat hm hE1 hE2
  go_enter Try.func7, Try.ntmps7
  go_wp2_with (with_reducible show wpList _ _ _ (Oper.mk _ (Op.box _ _) _ _ _ _ :: _) _ _; refine wpList_box_i rfl _ _ rfl _ rfl ?_)
  intro g w1 hk1 hb1 hg1 hs1
  go_wp2_with (with_reducible show wpList _ _ _ (Oper.mk _ (Op.box _ _) _ _ _ _ :: _) _ _; refine wpList_box_i rfl _ _ rfl _ rfl ?_)
  intro g2 w2 hk2 hb2 hg2 hs2
  have HKG := Lib.hid ((bk_eqT (cs' := #[.slice A n c]) hk1 rfl).below hb2 hk1.lt)
  have HKX := Lib.hid (bk_eqT (cs' := x.cl.toArray) hk2 rfl)
  have HB2 := Lib.hid (hb1.trans (hb2.mono hb1.size))
  clear hk1 hk2 hb1 hb2 hg1 hg2 hs1 hs2
  go_wp2_with (with_reducible show wpList _ _ _ (Oper.mk (some 15) (Op.load _ _) _ _ _ _ :: _) _ _; go_must (refine wpList_load_part rfl 24 _ rfl g 0 1 rfl _ _ _ HKG.out Try.underlying24 rfl info_Cou (by simp) _ (arr_all (n := 1) rfl) ?_); go_wp2_with fail)
  refine (HC1.out w2 HB2.out).mono ?_
  rintro e w3 ⟨rfl, h3⟩
  have HB3 := Lib.hid (HB2.out.trans (h3.mono HB2.out.size))
  have HKG := Lib.hid (HKG.out.below h3 HKG.out.lt)
  have HKX := Lib.hid (HKX.out.below h3 HKX.out.lt)
  clear h3 HB2
  by_cases he : E1 = 0
  case neg =>
    have f1 : (E1 != 0) = true := by simp [he]
    have f2 : (E1 == 0) = false := by simp [he]
    have HZ := Lib.hid (show medRes l x = (0, E1) by rw [HMR.out, if_pos he])
    clear he
    go_wp2
    go_ret2
    exact ⟨ret_eq (medV_eq HZ.out), HB3.out⟩
  have HS1 := Lib.hid (HE1.out.trans he)
  have HMR := Lib.hid (show medRes l x = if E2 ≠ 0 then (0, E2) else if x.ms.length = 0 then (0, 127) else if x.ms.any (farMk l) = true then (0, 101) else ((bestS Mk.time (pwOf l) (psum (pwOf l) x.ms) x.ms x.ms none).getD 0, 0) by rw [HMR.out, if_neg (by simp [he])])
  have f1 : (E1 != 0) = false := by simp [he]
  have f2 : (E1 == 0) = true := by simp [he]
  clear he
  go_wp2_with (with_reducible show wpList _ _ _ (Oper.mk (some 20) (Op.load _ _) _ _ _ _ :: _) _ _; go_must (refine wpList_load_part rfl 30 _ rfl g2 0 35 rfl _ _ _ HKX.out Try.underlying30 rfl info_Crt (by simp [HXL.out]) _ (cl_allN HXL.out) ?_); go_wp2_with fail)
  refine (HC2.out w3 HB3.out).mono ?_
  rintro e w6 ⟨rfl, h3⟩
  have HB6 := Lib.hid (HB3.out.trans (h3.mono HB3.out.size))
  have HKG := Lib.hid (HKG.out.below h3 HKG.out.lt)
  have HKX := Lib.hid (HKX.out.below h3 HKX.out.lt)
  clear h3 HB3
  by_cases he : E2 = 0
  case neg =>
    have f1 : (E2 != 0) = true := by simp [he]
    have f2 : (E2 == 0) = false := by simp [he]
    have HZ := Lib.hid (show medRes l x = (0, E2) by rw [HMR.out, if_pos he])
    clear he
    go_wp2
    go_ret2
    exact ⟨ret_eq (medV_eq HZ.out), HB6.out⟩
  have HS2 := Lib.hid (HE2.out.trans he)
  have HMR := Lib.hid (show medRes l x = if x.ms.length = 0 then (0, 127) else if x.ms.any (farMk l) = true then (0, 101) else ((bestS Mk.time (pwOf l) (psum (pwOf l) x.ms) x.ms x.ms none).getD 0, 0) by rw [HMR.out, if_neg (by simp [he])])
  have f1 : (E2 != 0) = false := by simp [he]
  have f2 : (E2 == 0) = true := by simp [he]
  clear he
  have c34 : w6.cell? ⟨g2, 34, none⟩ = some (.slice x.A x.n x.c) := (HKX.out.cell 34).trans (x.cl_34 HX.out.id)
  have HC34 := Lib.hid (show x.cl.toArray[34]? = some (.slice x.A x.n x.c) from x.cl_34 HX.out.id)
  have HNM := Lib.hid (show x.n = x.ms.length from HX.out.n)
  have HMO := Lib.hid (show ∀ m ∈ x.ms, m.ok from HX.out.ms)
  have HASC := Lib.hid (plainCrt_asc HX.out HS2.out)
  have HSO := Lib.hid (sounds_of HM.out HS1.out)
  have H0 := Lib.hid (show ∀ m ∈ l, 0 ≤ m.power from fun m hm => by have := (HSO.out.pow m hm).1; omega)
  have HTS := Lib.hid (show psum (pwOf l) x.ms ≤ 1152921504606846975 by
    have h1 := pw_le l H0.out x.ms 0 HASC.out
    have h2 := HSO.out.total
    unfold totalM supply at h2
    rw [List.drop_zero] at h1
    omega)
  have HID := Lib.hid (ascI_idx x.ms 0 HASC.out)
  have H64 := Lib.hid (show x.ms.length ≤ 64 by
    have h := HS2.out
    unfold plainCrt at h
    by_cases hz : zeroC x = true
    · unfold zeroC at hz
      simp only [Bool.and_eq_true, beq_iff_eq] at hz
      have := hz.2.2.2
      have := HNM.out
      omega
    · rw [if_neg hz] at h
      by_cases hh : headC x = 0
      · rw [if_neg (by simp [hh])] at h
        by_cases hb : 64 < (x.n : Int)
        · rw [if_pos hb] at h; cases h
        · have := HNM.out; omega
      · rw [if_pos hh] at h; exact absurd h hh)
  obtain ⟨m, hm⟩ : ∃ m, x.n = m := ⟨_, rfl⟩
  obtain ⟨AX, hAX⟩ : ∃ A, x.A = A := ⟨_, rfl⟩
  obtain ⟨cx, hcx⟩ : ∃ c, x.c = c := ⟨_, rfl⟩
  obtain ⟨ms, hms⟩ : ∃ ms, x.ms = ms := ⟨_, rfl⟩
  rw [hm, hAX, hcx] at c34 HC34
  rw [hm, hms] at HNM
  rw [hms] at HMR HMO HASC HTS HID H64
  rw [hAX, hms] at HAT
  clear hm hAX hcx hms HE1 HE2 HC1 HC2
  by_cases hz : m = 0
  · have HZ := Lib.hid (show medRes l x = (0, 127) by rw [HMR.out, if_pos (by rw [← HNM.out]; exact hz)])
    have z1 : (m : Int) = 0 := by omega
    have z2 : ((m : Int) == 0) = true := by simp [hz]
    subst hz
    go_wp2
    go_ret2
    exact ⟨ret_eq (medV_eq HZ.out), HB6.out⟩
  have z1 : ¬ (m : Int) = 0 := by omega
  have z2 : ((m : Int) == 0) = false := by simpa using z1
  have HMR := Lib.hid (show medRes l x = if ms.any (farMk l) = true then (0, 101) else ((bestS Mk.time (pwOf l) (psum (pwOf l) ms) ms ms none).getD 0, 0) by rw [HMR.out, if_neg (by rw [← HNM.out]; exact hz)])
  have hm0 : 0 < m := by omega
  clear hz z1
  obtain ⟨ax, hax⟩ : ∃ ax, AX = some ax := by
    match ms, HNM.out, HAT.out, HMO.out with
    | [], h, _, _ => simp at h; omega
    | y :: r, _, h, hmo =>
      obtain ⟨ad, h1, _⟩ := rd_elem (cl := Mk.cl) (N := 18) (by omega) (fun q hq => q.cl_len (hmo q hq)) h (k := 0) (by simp)
      exact ⟨ad, h1⟩
  obtain ⟨am, ham⟩ : ∃ am, A = some am := by
    match l, HSO.out.pos, HR.out with
    | [], h, _ => simp at h
    | y :: r, _, h =>
      obtain ⟨ad, h1, _⟩ := rd_elem (cl := Mem.cl) (N := 3) (by omega) memln h (k := 0) (by simp)
      exact ⟨ad, h1⟩
  subst hax ham
  have HTW := Lib.hid (show ∀ wx, Below w.heap.size w wx → Two wx ax am ms l from fun wx hb => two_of HMO.out (HAT.out.below hb) (HR.out.below hb))
  have hm64 : m ≤ 64 := by have := H64.out; have := HNM.out; omega
  have hn64 : n ≤ 64 := by have := HSO.out.len; have := HN.out; omega
  clear hl hxl HSO
  go_wp2
  clear c34
  go_loopw [7, 8] (fun v i wr => ∃ (k : Nat) (t : Int), k ≤ m ∧ i = .int .i64 (k : Int) ∧ v = .int .u64 t ∧ t = psum (pwOf l) (ms.take k) ∧ (ms.take k).any (farMk l) = false ∧ Bk wr g #[.slice (some am) n c] 24 ∧ Bk wr g2 x.cl.toArray 30 ∧ Below w.heap.size w wr) (fun _ i _ => m - (intOf i).toNat)
  case atStart => exact ⟨0, 0, by omega, rfl, rfl, rfl, rfl, HKG.out, HKX.out, HB6.out⟩
  case round =>
    clear HKG HKX HB6
    obtain ⟨k, t, hk, rfl, rfl, ht, hf, hkg, hkx, hb⟩ := hrel
    have HT := Lib.hid ht
    have HF := Lib.hid hf
    have HKG := Lib.hid hkg
    have HKX := Lib.hid hkx
    have HB := Lib.hid hb
    have c1 : wr.cell? ⟨g, 0, none⟩ = some (.slice (some am) n c) := hkg.cell 0
    have c2 : wr.cell? ⟨g2, 34, none⟩ = some (.slice (some ax) m cx) := (hkx.cell 34).trans HC34.out
    clear ht hf hkg hkx hb
    by_cases hlt : k < m
    · have hkl : k < ms.length := by rw [← HNM.out]; exact hlt
      have hi : (k : Int) < m := by omega
      have hid := HID.out _ (List.getElem_mem hkl)
      have HFK := Lib.hid (any_take_succ (farMk l) ms k hkl HF.out)
      have HPS := Lib.hid (psum_take_succ (pwOf l) ms k hkl)
      have htk := psum_take_le (pwOf l) ms (fun q _ => pw_nonneg H0.out q) (k + 1)
      have hts := HTS.out
      have hpn := pw_nonneg H0.out ms[k]
      have ht0 : 0 ≤ t := by rw [HT.out]; exact psum_nonneg _ fun q _ => pw_nonneg H0.out q
      rw [HPS.out, ← HT.out] at htk
      rw [← HT.out] at HPS
      have c3 := (HTW.out wr HB.out).idx k hkl
      obtain ⟨j, hj⟩ : ∃ j : Nat, (ms[k]).idx = (j : Int) := ⟨(ms[k]).idx.toNat, by omega⟩
      rw [hj] at c3
      have hj0 : decide ((j : Int) < 0) = false := decide_eq_false (by omega)
      have LD := Lib.hid (show Below w.heap.size w wr.drew from HB.out.drew)
      by_cases hfar : n ≤ j
      · have HY := Lib.hid (any_of_take (farMk l) ms (k + 1) (by rw [HFK.out]; unfold farMk; rw [hj, ← HN.out]; exact decide_eq_true (by omega)))
        have HZ := Lib.hid (show medRes l x = (0, 101) by rw [HMR.out, HY.out]; rfl)
        have q1 : (n : Int) ≤ (j : Int) := by omega
        clear hid htk hts hpn hj
        go_wp2_with fail
        refine wp_region_still_tail 18 (by kernel_rfl) (by kernel_rfl) ?_
        simp only [List.take_succ_cons, List.take_zero, List.drop_succ_cons, List.drop_zero]
        refine still_quiet _ _ ?_
        repeat (first | go_big_quiet_skip | (go_big_quiet_want; go_big_quiet_op; go_big_quiet_on))
        refine wpQuiet_nil ?_
        change wpList _ _ _ _ _ wr.drew
        go_wp2
        go_ret2
        exact ⟨ret_eq (medV_eq HZ.out), LD.out⟩
      · have hjl : j < l.length := by have := HN.out; omega
        have HY := Lib.hid (show (ms.take (k + 1)).any (farMk l) = false by rw [HFK.out]; unfold farMk; rw [hj, ← HN.out]; exact decide_eq_false (by omega))
        have HPW := Lib.hid (pwOf_at hj hjl)
        have c4 := (HTW.out wr HB.out).pow j hjl
        rw [← HPW.out] at c4
        obtain ⟨P, hP⟩ : ∃ P, pwOf l ms[k] = P := ⟨_, rfl⟩
        rw [hP] at c4 HPS hpn htk
        have q1 : ¬ (n : Int) ≤ (j : Int) := by omega
        have q2 : (j : Int) < n := by omega
        have p1 : IntKind.u64.wrap (t + P) = t + P := by rw [IntKind.wrap_u64]; omega
        have HKG2 := Lib.hid (show Bk wr.drew g #[.slice (some am) n c] 24 from HKG.out.drew)
        have HKX2 := Lib.hid (show Bk wr.drew g2 x.cl.toArray 30 from HKX.out.drew)
        clear hid htk hts hpn hj hP ht0
        go_wp2_with fail
        refine wp_region_still_tail 18 (by kernel_rfl) (by kernel_rfl) ?_
        simp only [List.take_succ_cons, List.take_zero, List.drop_succ_cons, List.drop_zero]
        refine still_quiet _ _ ?_
        repeat (first | go_big_quiet_skip | (go_big_quiet_want; go_big_quiet_op; go_big_quiet_on))
        refine wpQuiet_nil ?_
        change wpList _ _ _ _ _ wr.drew
        obtain ⟨wd, hwd⟩ : ∃ wd, wr.drew = wd := ⟨_, rfl⟩
        rw [hwd]
        have d1 : wd.cell? ⟨g, 0, none⟩ = some (.slice (some am) n c) := by rw [← hwd]; exact c1
        have d2 : wd.cell? ⟨g2, 34, none⟩ = some (.slice (some ax) m cx) := by rw [← hwd]; exact c2
        have d3 : wd.cell? (ax.add (k * 18)) = some (.int .i64 (j : Int)) := by rw [← hwd]; exact c3
        have d4 : wd.cell? ⟨(am.add (j * 3)).block, (am.add (j * 3)).off + 1, none⟩ = some (.int .u64 P) := by rw [← hwd]; exact c4
        rw [hwd] at LD HKG2 HKX2
        clear hwd c1 c2 c3 c4
        go_wp2_with fail
        refine wp_region_still_tail 13 (by kernel_rfl) (by kernel_rfl) ?_
        simp only [List.take_succ_cons, List.take_zero, List.drop_succ_cons, List.drop_zero]
        refine still_quiet _ _ ?_
        repeat (first | go_big_quiet_skip | (go_big_quiet_want; go_big_quiet_op; go_big_quiet_on))
        refine wpQuiet_nil ?_
        change wpList _ _ _ _ _ wd.drew
        go_wp2
        go_round
        case rel => exact ⟨k + 1, t + P, by omega, by go_num, rfl, HPS.out.symm, HY.out, HKG2.out.drew, HKX2.out.drew, LD.out.drew⟩
        case measure => simp [intOf]; omega
    · have hk' : k = m := by omega
      have htake : ms.take k = ms := List.take_of_length_le (by rw [hk', HNM.out]; exact Nat.le_refl _)
      have HFZ := Lib.hid (show ms.any (farMk l) = false by rw [← HF.out, htake])
      have HTT := Lib.hid (show psum (pwOf l) ms = t by rw [HT.out, htake])
      have HNR := Lib.hid (show ∀ q ∈ ms, 0 ≤ q.idx ∧ q.idx < l.length from fun q hq => ⟨HID.out q hq, by
        rcases Int.lt_or_le q.idx l.length with h | h
        · exact h
        · have := List.any_eq_true.2 ⟨q, hq, show farMk l q = true from decide_eq_true h⟩
          rw [HFZ.out] at this; cases this⟩)
      have ht0 : 0 ≤ t := by rw [HT.out]; exact psum_nonneg _ fun q _ => pw_nonneg H0.out q
      have ht1 : t ≤ 1152921504606846975 := by rw [← HTT.out]; exact HTS.out
      obtain ⟨BB, hBB⟩ : ∃ BB, bestS Mk.time (pwOf l) t ms ms none = BB := ⟨_, rfl⟩
      have HMZ := Lib.hid (show medRes l x = (BB.getD 0, 0) by rw [HMR.out, HFZ.out, if_neg Bool.false_ne_true, HTT.out, hBB])
      have HBB := Lib.hid hBB
      clear hk' htake hBB HT HF HMR
      go_wp2
      clear c1 c2
      go_loopw [9, 10, 11] (fun f v i wr => ∃ (k : Nat) (b : Option Int), k ≤ m ∧ i = .int .i64 (k : Int) ∧ f = .bool b.isSome ∧ v = .int .u64 (b.getD 0) ∧ bestS Mk.time (pwOf l) t ms (ms.drop k) b = BB ∧ Bk wr g #[.slice (some am) n c] 24 ∧ Bk wr g2 x.cl.toArray 30 ∧ Below w.heap.size w wr) (fun _ _ i _ => m - (intOf i).toNat)
      case atStart => exact ⟨0, none, by omega, rfl, rfl, rfl, HBB.out, HKG.out, HKX.out, HB.out⟩
      case round =>
        clear HKG HKX HB HBB
        obtain ⟨k, b, hk, rfl, rfl, rfl, hbs, hkg, hkx, hb⟩ := hrel
        have HBS := Lib.hid hbs
        have HKG := Lib.hid hkg
        have HKX := Lib.hid hkx
        have HB := Lib.hid hb
        have c2 : wr.cell? ⟨g2, 34, none⟩ = some (.slice (some ax) m cx) := (hkx.cell 34).trans HC34.out
        clear hbs hkg hkx hb
        by_cases hlt : k < m
        · have hkl : k < ms.length := by rw [← HNM.out]; exact hlt
          have hi : (k : Int) < m := by omega
          have HBD := Lib.hid (bestS_drop Mk.time (pwOf l) t ms hkl b)
          have c3 := (HTW.out wr HB.out).time k hkl
          obtain ⟨tm, htm⟩ : ∃ tm, (ms[k]).time = tm := ⟨_, rfl⟩
          rw [htm] at c3 HBD
          clear htm
          go_wp2
          clear c2 c3
          go_loopw [13, 14] (fun v j wr => ∃ (q : Nat) (S : Int), q ≤ m ∧ j = .int .i64 (q : Int) ∧ v = .int .u64 S ∧ S = upTo Mk.time (pwOf l) tm (ms.take q) ∧ Bk wr g #[.slice (some am) n c] 24 ∧ Bk wr g2 x.cl.toArray 30 ∧ Below w.heap.size w wr) (fun _ j _ => m - (intOf j).toNat)
          case atStart => exact ⟨0, 0, by omega, rfl, rfl, rfl, HKG.out, HKX.out, HB.out⟩
          case round =>
            clear HKG HKX HB
            obtain ⟨q, S, hq, rfl, rfl, hS, hkg, hkx, hb⟩ := hrel
            have HS := Lib.hid hS
            have HKG := Lib.hid hkg
            have HKX := Lib.hid hkx
            have HB := Lib.hid hb
            have c1 : wr.cell? ⟨g, 0, none⟩ = some (.slice (some am) n c) := hkg.cell 0
            have c2 : wr.cell? ⟨g2, 34, none⟩ = some (.slice (some ax) m cx) := (hkx.cell 34).trans HC34.out
            obtain ⟨hs0, hs1⟩ := upTo_bound Mk.time (pwOf l) tm ms (fun q _ => pw_nonneg H0.out q) q
            rw [← hS, HTT.out] at hs1
            rw [← hS] at hs0
            clear hS hkg hkx hb
            by_cases hlq : q < m
            · have hql : q < ms.length := by rw [← HNM.out]; exact hlq
              have hi2 : (q : Int) < m := by omega
              have HUP := Lib.hid (upTo_take_succ Mk.time (pwOf l) tm ms q hql)
              have hup := (upTo_bound Mk.time (pwOf l) tm ms (fun q _ => pw_nonneg H0.out q) (q + 1)).2
              rw [HUP.out, ← HS.out, HTT.out] at hup
              rw [← HS.out] at HUP
              have c3 := (HTW.out wr HB.out).time q hql
              have c5 := (HTW.out wr HB.out).idx q hql
              obtain ⟨hn0, hn1⟩ := HNR.out _ (List.getElem_mem hql)
              obtain ⟨j, hj⟩ : ∃ j : Nat, (ms[q]).idx = (j : Int) := ⟨(ms[q]).idx.toNat, by omega⟩
              have hjl : j < l.length := by omega
              have HPW := Lib.hid (pwOf_at hj hjl)
              have c4 := (HTW.out wr HB.out).pow j hjl
              rw [← HPW.out] at c4
              rw [hj] at c5
              obtain ⟨P, hP⟩ : ∃ P, pwOf l ms[q] = P := ⟨_, rfl⟩
              obtain ⟨ut, hut⟩ : ∃ ut, (ms[q]).time = ut := ⟨_, rfl⟩
              rw [hP] at c4 HUP hup
              rw [hut] at c3 HUP hup
              have q2 : (j : Int) < n := by have := HN.out; omega
              clear hn0 hn1 hj hjl hP hut HPW
              by_cases hle : ut ≤ tm
              · rw [if_pos hle] at hup
                have HU := Lib.hid (show upTo Mk.time (pwOf l) tm (ms.take (q + 1)) = S + P by rw [HUP.out, if_pos hle])
                have p1 : IntKind.u64.wrap (S + P) = S + P := by
                  rw [IntKind.wrap_u64]
                  have : 0 ≤ S + P := by rw [← HU.out]; exact (upTo_bound Mk.time (pwOf l) tm ms (fun q _ => pw_nonneg H0.out q) (q + 1)).1
                  omega
                have LD := Lib.hid (show Below w.heap.size w wr.drew from HB.out.drew)
                have HKG2 := Lib.hid (show Bk wr.drew g #[.slice (some am) n c] 24 from HKG.out.drew)
                have HKX2 := Lib.hid (show Bk wr.drew g2 x.cl.toArray 30 from HKX.out.drew)
                clear hup HUP
                go_wp2_with fail
                refine wp_region_still_tail 13 (by kernel_rfl) (by kernel_rfl) ?_
                simp only [List.take_succ_cons, List.take_zero, List.drop_succ_cons, List.drop_zero]
                refine still_quiet _ _ ?_
                repeat (first | go_big_quiet_skip | (go_big_quiet_want; go_big_quiet_op; go_big_quiet_on))
                refine wpQuiet_nil ?_
                change wpList _ _ _ _ _ wr.drew
                go_wp2
                go_round
                case rel => exact ⟨q + 1, S + P, by omega, by go_num, rfl, HU.out.symm, HKG2.out, HKX2.out, LD.out⟩
                case measure => simp [intOf]; omega
              · have HU := Lib.hid (show upTo Mk.time (pwOf l) tm (ms.take (q + 1)) = S by rw [HUP.out, if_neg hle]; omega)
                clear hup HUP c4 c5
                go_wp2
                go_round
                case rel => exact ⟨q + 1, S, by omega, by go_num, rfl, HU.out.symm, HKG.out, HKX.out, HB.out⟩
                case measure => simp [intOf]; omega
            · have hq' : q = m := by omega
              have HU := Lib.hid (show upTo Mk.time (pwOf l) tm ms = S by rw [HS.out, List.take_of_length_le (by rw [hq', HNM.out]; exact Nat.le_refl _)])
              rw [HU.out] at HBD
              have p2 : IntKind.u64.wrap (2 * S) = 2 * S := by rw [IntKind.wrap_u64]; omega
              clear hq' HS
              by_cases hbig : t < 2 * S
              · rcases b with _ | v
                · have HZ := Lib.hid (show bestS Mk.time (pwOf l) t ms (ms.drop (k + 1)) (some tm) = BB by
                    rw [← HBS.out, HBD.out, if_pos ⟨hbig, fun v hv => by cases hv⟩])
                  clear HBD HBS
                  go_wp2
                  go_round
                  case rel => exact ⟨k + 1, some tm, by omega, by go_num, rfl, rfl, HZ.out, HKG.out, HKX.out, HB.out⟩
                  case measure => simp [intOf]; omega
                · by_cases hv : tm < v
                  · have HZ := Lib.hid (show bestS Mk.time (pwOf l) t ms (ms.drop (k + 1)) (some tm) = BB by
                      rw [← HBS.out, HBD.out, if_pos ⟨hbig, fun u hu => by injection hu with hu; omega⟩])
                    clear HBD HBS
                    go_wp2
                    go_round
                    case rel => exact ⟨k + 1, some tm, by omega, by go_num, rfl, rfl, HZ.out, HKG.out, HKX.out, HB.out⟩
                    case measure => simp [intOf]; omega
                  · have HZ := Lib.hid (show bestS Mk.time (pwOf l) t ms (ms.drop (k + 1)) (some v) = BB by
                      rw [← HBS.out, HBD.out, if_neg (fun h => hv (h.2 v rfl))])
                    clear HBD HBS
                    go_wp2
                    go_round
                    case rel => exact ⟨k + 1, some v, by omega, by go_num, rfl, rfl, HZ.out, HKG.out, HKX.out, HB.out⟩
                    case measure => simp [intOf]; omega
              · have HZ := Lib.hid (show bestS Mk.time (pwOf l) t ms (ms.drop (k + 1)) b = BB by
                  rw [← HBS.out, HBD.out, if_neg (fun h => hbig h.1)])
                clear HBD HBS
                go_wp2
                go_round
                case rel => exact ⟨k + 1, b, by omega, by go_num, rfl, rfl, HZ.out, HKG.out, HKX.out, HB.out⟩
                case measure => simp [intOf]; omega
        · have hk' : k = m := by omega
          have HZ := Lib.hid (show b = BB by
            rw [← HBS.out, List.drop_of_length_le (by rw [hk', HNM.out]; exact Nat.le_refl _)]; rfl)
          have HMY := Lib.hid (show medRes l x = (b.getD 0, 0) by rw [HMZ.out, HZ.out])
          clear hk'
          go_wp2
          go_ret2
          exact ⟨ret_eq (medV_eq HMY.out), HB.out⟩
end Go.Proofs.Ytnfffipkgaobhaa
namespace Go.Proofs.Ytnfffipkgaobhaa
set_option linter.unusedSimpArgs false
set_option linter.unusedVariables false
open Go.RowKit

def SteadyW (R : World → World → Prop) (K : Known) : Prop := ∀ v w w', K v w → R w w' → K v w'
theorem Is.steadyW (R : World → World → Prop) (x : Value) : SteadyW R (Is x) := fun _ _ _ h _ => h
def SteadysW (R : World → World → Prop) : List Known → Prop
  | [] => True
  | k :: ks => SteadyW R k ∧ SteadysW R ks
theorem SteadysW.at {R : World → World → Prop} : ∀ {ks : List Known}, SteadysW R ks → ∀ i, SteadyW R (kat ks i)
  | [], _, _ => fun _ _ _ _ _ => trivial
  | _ :: _, h, 0 => h.1
  | _ :: _, h, i + 1 => SteadysW.at h.2 i
def QStepW (R : World → World → Prop) (a0 : Act) (d : Tmp) (K : Known) (w : World) : Exit → Act → World → Prop
  | .normal, a', w' => a'.defers = a0.defers ∧ R w w' ∧ K (a'.tmps.getD d undef) w'
  | _, _, _ => False
section
variable (R : World → World → Prop) (P : Program) (ops : Array Oper) (ks : List Known)
def FreeStepW (w : World) (a0 : Act) (i : Nat) (d : Tmp) : List (Nat × Tmp) → Act → Prop
  | [], a => ∃ o, ops[i]? = some o ∧ wpList P ops (QStepW R a0 d (kat ks i) w) [o] a w
  | (e, t) :: ds, a => ∀ v, kat ks e v w → FreeStepW w a0 i d ds (a.put (some t) v)
def FreeStepsW (w0 : World) (a0 : Act) : Nat → List (Tmp × List (Nat × Tmp)) → Prop
  | _, [] => True
  | i, (t, ds) :: xs => (∀ w, R w0 w → FreeStepW R P ops ks w a0 i t ds a0) ∧ FreeStepsW w0 a0 (i + 1) xs
end
section
variable {R : World → World → Prop} {P : Program} {ops : Array Oper} {ks : List Known} {Q : Exit → Act → World → Prop}
theorem FreeStepW.open {w : World} {a0 a : Act} {i : Nat} {d : Tmp} : ∀ {ds : List (Nat × Tmp)} {b : Act}, FreeStepW R P ops ks w a0 i d ds b → (∀ x ∈ ds, kat ks x.1 (a.tmps.getD x.2 undef) w) →
    ∃ o, ops[i]? = some o ∧ wpList P ops (QStepW R a0 d (kat ks i) w) [o] (over a (ds.map (·.2)) b) w
  | [], _, h, _ => h
  | (e, t) :: ds, b, h, hk => FreeStepW.open (ds := ds) (h _ (hk (e, t) (List.mem_cons_self ..))) (fun x hx => hk x (List.mem_cons_of_mem _ hx))
theorem FreeStepsW.at {w0 : World} {a0 : Act} : ∀ {its : List (Tmp × List (Nat × Tmp))} {k : Nat}, FreeStepsW R P ops ks w0 a0 k its → ∀ j x, its[j]? = some x → ∀ w, R w0 w → FreeStepW R P ops ks w a0 (k + j) x.1 x.2 a0
  | [], _, _, _, _, h => by cases h
  | (t, ds) :: its, k, h, 0, x, hx => by cases hx; exact h.1
  | (t, ds) :: its, k, h, j + 1, x, hx => by
    have := FreeStepsW.at (its := its) h.2 j x (by simpa using hx)
    rwa [show k + 1 + j = k + (j + 1) by omega] at this

structure FreeInvW (R : World → World → Prop) (ops : Array Oper) (its : List (Tmp × List (Nat × Tmp))) (ks : List Known) (a0 : Act) (w0 : World) (L : Array Bool) (a : Act) (w : World) : Prop where
  head : HeadInv .any ops its.length L
  defers : a.defers = a0.defers
  size : a.tmps.size = a0.tmps.size
  off : ∀ t, (∀ x ∈ its, x.1 ≠ t) → a.tmps.getD t undef = a0.tmps.getD t undef
  rely : R w0 w
  known : ∀ i x, its[i]? = some x → L.getD i false = true → kat ks i (a.tmps.getD x.1 undef) w

theorem wp_carryW {o : Oper} {a b a0 : Act} {d : Tmp} {K : Known} {w : World} {next : Act → World → Prop} (hd : o.dst = some d) (hg : o.guard = none) (he : execOp a.eval o = execOp b.eval o) (hb : b.defers = a0.defers) (hdb : d < b.tmps.size)
    (h : wpList P ops (QStepW R a0 d K w) [o] b w) (hn : ∀ v w', R w w' → K v w' → next (a.put (some d) v) w') : o.wp P a w next Q := by
  unfold wpList at h
  rw [if_pos (by simp [Region.wanted, hg])] at h
  rcases h with h | ⟨_, _, _, h⟩
  case inr => exact h.elim
  unfold Oper.wp at *
  rw [he]
  have key : ∀ v w', wpList P ops (QStepW R a0 d K w) [] (b.put o.dst v) w' → next (a.put o.dst v) w' := by
    intro v w' h'
    rw [hd] at h' ⊢
    obtain ⟨_, h2, h3⟩ := h'
    rw [put_get hdb] at h3
    exact hn v w' h2 h3
  generalize (execOp b.eval o).run P w = r at h
  cases r with
  | ok n w' =>
    cases n <;> simp only [Oper.upon] at h ⊢
    case value v => exact key v w' h
    case skip => exact key undef w' h
    case defer x =>
      obtain ⟨h1, _⟩ := h
      exfalso
      have h2 : ({ b with defers := x :: b.defers }.put o.dst undef).defers = x :: b.defers := by rw [hd]; rfl
      rw [h2, hb] at h1
      have := congrArg List.length h1
      simp at this
    case enter f args =>
      refine Calls.mono h fun e w'' he => ?_
      cases e with
      | returned u => exact key u w'' he
      | panicked c => exact he.elim
      | outgrown => obtain ⟨_, _, h⟩ := he; exact h.elim
    case row row args => exact Rows.mono h fun u w'' he => key u w'' he
  | halt x w' =>
    cases x <;> simp only [Oper.upon] at h ⊢
    case panic u => exact h.elim

theorem wpAny_freeW (hT : ∀ a b c, R a b → R b c → R a c) {l : List Oper} {its : List (Tmp × List (Nat × Tmp))} {a0 : Act} {w0 : World} (hB : freeB l.toArray its = true) (hsz : ∀ x ∈ its, x.1 < a0.tmps.size) (hst : SteadysW R ks)
    (hsteps : FreeStepsW R P l.toArray ks w0 a0 0 its)
    (hend : ∀ w, R w0 w → FreeEnd ks w (fun a => wpList P l.toArray Q (l.drop its.length) a w) 0 its a0) :
    ∀ (m : Nat) (L : Array Bool) (a : Act) (w : World), left L its.length = m → FreeInvW R l.toArray its ks a0 w0 L a w → wpAny P .any l.toArray Q (m + (l.length - its.length)) L a w := by
  simp only [freeB, Bool.and_eq_true, decide_eq_true_eq, List.all_eq_true, List.mem_range] at hB
  obtain ⟨⟨⟨⟨⟨hsel, hn⟩, hs⟩, hc⟩, hone⟩, hseq⟩ := hB
  have hn' : its.length < l.length := by simpa using hn
  intro m
  induction m with
  | zero =>
    intro L a w hL inv
    have hall := left_zero its.length hL
    have hLe : L = allTrue l.toArray.size its.length := by
      apply Array.ext
      · rw [allTrue_size]; exact inv.head.size
      · intro j hj hj'
        have hj2 : j < l.toArray.size := by rw [allTrue_size] at hj'; exact hj'
        have e1 := allTrue_get l.toArray.size its.length j hj2
        have e2 : L.getD j false = decide (j < its.length) := by
          by_cases hlt : j < its.length
          · rw [hall j hlt]; simp [hlt]
          · rw [getD_both (inv.head.tail j (by omega) hj2)]; simp [hlt]
        have e3 := e2.trans e1.symm
        have e4 : L.getD j false = L[j] := by simp [hj]
        have e5 : (allTrue l.toArray.size its.length).getD j false = (allTrue l.toArray.size its.length)[j] := by simp only [Array.getD_eq_getD_getElem?, Array.getElem?_eq_getElem hj', Option.getD_some]
        rw [← e4, ← e5]
        exact e3
    have hfe := (hend w inv.rely).open (a := a) (fun j x hx => by
      have hlt : j < its.length := (List.getElem?_eq_some_iff.1 hx).1
      rw [Nat.zero_add]
      exact inv.known j x hx (hall j hlt))
    have hae : over a (its.map (·.1)) a0 = a := by
      refine act_ext ?_ ?_ fun t => ?_
      · rw [over_defers, inv.defers]
      · rw [over_size, inv.size]
      · refine over_get a t _ a0 inv.size ?_
        by_cases ht : t ∈ its.map (·.1)
        · exact .inl ht
        · refine .inr (inv.off t fun x hx e => ht (List.mem_map.2 ⟨x, hx, e⟩)).symm
    rw [hae] at hfe
    have hdl : (l.drop its.length).length = l.length - its.length := by simp
    have := wpAny_of_seq (md := .any) (P := P) (Q' := Q) (l.drop its.length) its.length L a w (fun j => by simp [List.getElem?_drop]) (by rw [hdl, hLe]; simpa using hseq) hfe
    rw [hdl] at this
    rw [Nat.zero_add]
    exact this
  | succ m ih =>
    intro L a w hL inv
    obtain ⟨i0, hi0, hf0, hmin⟩ := left_pos (L := L) its.length (by rw [hL]; exact Nat.succ_pos m)
    have hun0 : L.getD i0 true = false := getD_in (by rw [inv.head.size]; exact Nat.lt_trans hi0 hn) hf0
    have hfu : m + 1 + (l.length - its.length) = (m + (l.length - its.length)) + 1 := by clear hL hun0 hf0; omega
    rw [hfu]
    refine ⟨fun hr => ?_, fun i hi => ?_⟩
    · exfalso
      obtain ⟨o, d, ds, ho, _, _, _, haf, _, _⟩ := freeOne_spec (hone i0 hi0)
      have : i0 ∈ Region.ready .any l.toArray L := mem_ready.2 ⟨hun0, o, ho, fun e he hb => hmin e.on (haf e he hb)⟩
      rw [hr] at this
      cases this
    · have hin : i < its.length := by
        rcases Nat.lt_or_ge i its.length with h | h
        · exact h
        · exact absurd hi (tail_waits hs hc hn inv.head _ i0 rfl hi0 hun0 i h)
      obtain ⟨hun, o', ho', hall⟩ := mem_ready.1 hi
      obtain ⟨o, d, ds, ho, hit, hg, hd, haf, hdeps, hdist⟩ := freeOne_spec (hone i hin)
      have hoe : o' = o := Option.some.inj (ho'.symm.trans ho)
      subst hoe
      have hlisted : ∀ x ∈ ds, L.getD x.1 false = true := by
        intro x hx
        obtain ⟨o2, ho2, e, he, hb, hon⟩ := Region.waitsFor_spec (hdeps x hx).1
        have : o2 = o' := Option.some.inj (ho2.symm.trans ho)
        subst this
        rw [← hon]
        exact hall e he hb
      have hdk : ∀ x ∈ ds, ∃ y, its[x.1]? = some y ∧ y.1 = x.2 := by
        intro x hx
        have h3 := (hdeps x hx).2.2
        cases hy : its[x.1]? with
        | none => rw [hy] at h3; cases h3
        | some y => rw [hy] at h3; exact ⟨y, rfl, Option.some.inj h3⟩
      have hst1 := hsteps.at i (d, ds) hit w inv.rely
      rw [Nat.zero_add] at hst1
      obtain ⟨o2, ho2, hwp⟩ := hst1.open (a := a) (fun x hx => by
        obtain ⟨y, hy, hy2⟩ := hdk x hx
        have := inv.known x.1 y hy (hlisted x hx)
        rwa [hy2] at this)
      have hoe2 : o2 = o' := Option.some.inj (ho2.symm.trans ho)
      subst hoe2
      have hsize : d < a0.tmps.size := hsz (d, ds) (List.mem_of_getElem? hit)
      have hsame : execOp a.eval o2 = execOp (over a (ds.map (·.2)) a0).eval o2 := by
        refine run_same (ops := l.toArray) (Region.noSelect_spec hsel i o2 · · ho) fun t ht => ?_
        refine (over_get a t _ a0 inv.size ?_).symm
        by_cases htd : t ∈ ds.map (·.2)
        · exact .inl htd
        · refine .inr (inv.off t fun x hx e => ?_).symm
          obtain ⟨j, hj, hjx⟩ := List.getElem_of_mem hx
          have hjs : its[j]? = some x := by rw [← hjx]; exact List.getElem?_eq_getElem hj
          rcases (hdist j x.1 x.2 hjs).2 with ⟨y, hy, hyj⟩ | hno
          · obtain ⟨z, hz, hz2⟩ := hdk y hy
            rw [hyj, hjs] at hz
            have : x = z := Option.some.inj hz
            subst this
            exact htd (List.mem_map.2 ⟨y, hy, by rw [← hz2, e]⟩)
          · rw [e] at hno
            exact hno ht
      unfold wpOp
      simp only [ho]
      rw [if_pos (by simp [Region.wanted, hg])]
      refine .inl (wp_carryW hd hg hsame (by rw [over_defers]) (by rw [over_size]; exact hsize) hwp fun v w' hbel hk => ?_)
      have hLs : i < L.size := by rw [inv.head.size]; exact Nat.lt_trans hin hn
      refine ih (L.setIfInBounds i true) _ w' ?_ ?_
      · have := left_set hLs (getD_both hun) its.length hin
        omega
      · refine ⟨inv.head.set hi hin, inv.defers, by simp [Act.put, inv.size], fun t ht => ?_, hT _ _ _ inv.rely hbel, fun j x hj hl => ?_⟩
        · rw [put_get_ne (ht (d, ds) (List.mem_of_getElem? hit))]
          exact inv.off t ht
        · by_cases hji : i = j
          · subst hji
            rw [hit] at hj
            cases hj
            rw [put_get (by rw [inv.size]; exact hsize)]
            exact hk
          · rw [getD_set_ne false hji] at hl
            have hne : x.1 ≠ d := by
              rcases (hdist j x.1 x.2 hj).1 with h | h
              · exact absurd h.symm hji
              · exact h
            rw [put_get_ne (fun e => hne e.symm)]
            exact hst.at j _ _ _ (inv.known j x hj hl) hbel

/-- the law: n operations in whatever order, each shown by itself; the rest in turn -/
theorem wp_region_freeW (hr : ∀ w, R w w) (hT : ∀ a b c, R a b → R b c → R a c) {id : Nat} {l : List Oper} {a0 : Act} {w : World} (its : List (Tmp × List (Nat × Tmp))) (ks : List Known) (hm : P.follows .mixedOrders = true) (hB : freeB l.toArray its = true) (hsz : (its.all fun x => decide (x.1 < a0.tmps.size)) = true) (hst : SteadysW R ks)
    (hsteps : FreeStepsW R P l.toArray ks w.drew a0 0 its)
    (hend : ∀ w', R w.drew w' → FreeEnd ks w' (fun a => wpList P l.toArray Q (l.drop its.length) a w') 0 its a0) : (Code.region id l.toArray true).wp P Q a0 w := by
  refine wp_region_any hm ?_
  have hn : its.length < l.length := by
    simp only [freeB, Bool.and_eq_true, decide_eq_true_eq] at hB
    simpa using hB.1.1.1.1.2
  have hsz' : ∀ x ∈ its, x.1 < a0.tmps.size := fun x hx => by simpa using List.all_eq_true.1 hsz x hx
  have := wpAny_freeW hT (Q := Q) (w0 := w.drew) hB hsz' hst hsteps hend its.length (Array.replicate l.toArray.size false) a0 w.drew (left_all _ _)
    ⟨⟨by simp, fun j oj _ hl => (by rw [getD_replicate_false] at hl; cases hl), fun t _ ht => getD_in (by simpa using ht) (getD_replicate_false _ _)⟩, rfl, rfl, fun _ _ => rfl, hr _, fun i x _ hl => (by rw [getD_replicate_false] at hl; cases hl)⟩
  rw [show its.length + (l.length - its.length) = l.toArray.size by simp; omega] at this
  exact this
end
section
variable {R : World → World → Prop} {P : Program} {ops : Array Oper} {ks : List Known} {w w0 : World} {a0 a : Act} {i e : Nat} {d t : Tmp} {ds : List (Nat × Tmp)} {its : List (Tmp × List (Nat × Tmp))}
theorem FreeStepsW.nil : FreeStepsW R P ops ks w0 a0 i [] := trivial
theorem FreeStepsW.cons (h1 : ∀ w, R w0 w → FreeStepW R P ops ks w a0 i t ds a0) (h2 : FreeStepsW R P ops ks w0 a0 (i + 1) its) : FreeStepsW R P ops ks w0 a0 i ((t, ds) :: its) := ⟨h1, h2⟩
theorem FreeStepW.is {x : Value} (hk : kat ks e = Is x) (h : FreeStepW R P ops ks w a0 i d ds (a.put (some t) x)) : FreeStepW R P ops ks w a0 i d ((e, t) :: ds) a := fun v hv => by
  rw [hk] at hv; cases hv; exact h
theorem FreeStepW.dep {K : Known} (hk : kat ks e = K) (h : ∀ v, K v w → FreeStepW R P ops ks w a0 i d ds (a.put (some t) v)) : FreeStepW R P ops ks w a0 i d ((e, t) :: ds) a := fun v hv => h v (hk ▸ hv)
theorem FreeStepW.op {o : Oper} {K : Known} (ho : ops[i]? = some o) (hk : kat ks i = K) (h : wpList P ops (QStepW R a0 d K w) [o] a w) : FreeStepW R P ops ks w a0 i d [] a := ⟨o, ho, hk ▸ h⟩
theorem QStepW.mk {a0 a' : Act} {d : Tmp} {K : Known} {w w' : World} (h1 : a'.defers = a0.defers) (h2 : R w w') (h3 : K (a'.tmps.getD d undef) w') : QStepW R a0 d K w .normal a' w' := ⟨h1, h2, h3⟩
end
end Go.Proofs.Ytnfffipkgaobhaa
namespace Go.Proofs.Ytnfffipkgaobhaa
set_option linter.unusedSimpArgs false
set_option linter.unusedVariables false
open Go.RowKit
set_option maxRecDepth 100000

/-- below B nothing changes; of a later row of type e the first N cells stay, and behind them nothing but mk is laid; what else there is stays -/
structure Prot (B N : Nat) (mk : List Value) (e : TypeId) (w w' : World) : Prop where
  os : w'.os = w.os
  tape : w'.tape = w.tape
  output : w'.output = w.output
  size : w.heap.size ≤ w'.heap.size
  low : ∀ k, k < w.heap.size → k < B → w'.heap[k]? = w.heap[k]?
  row : ∀ k, k < w.heap.size → w'.heap[k]? = w.heap[k]? ∨ ∃ cur cur', w.heap[k]? = some (.cells cur e (0, 0)) ∧ w'.heap[k]? = some (.cells cur' e (0, 0)) ∧ cur'.size = cur.size ∧ ∀ j, j < N + mk.length → cur'[j]? = cur[j]? ∨ (N ≤ j ∧ cur'[j]? = mk[j - N]?)
namespace Prot
variable {B N : Nat} {mk : List Value} {e : TypeId} {w w' w'' : World}
theorem refl (B N : Nat) (mk : List Value) (e : TypeId) (w : World) : Prot B N mk e w w := ⟨rfl, rfl, rfl, Nat.le_refl _, fun _ _ _ => rfl, fun _ _ => .inl rfl⟩
theorem trans (h : Prot B N mk e w w') (k : Prot B N mk e w' w'') : Prot B N mk e w w'' :=
  ⟨k.os.trans h.os, k.tape.trans h.tape, k.output.trans h.output, Nat.le_trans h.size k.size, fun i hi hb => (k.low i (Nat.lt_of_lt_of_le hi h.size) hb).trans (h.low i hi hb), fun i hi => by
    rcases h.row i hi with h1 | ⟨c1, c2, h1, h2, h3, h4⟩
    · rcases k.row i (Nat.lt_of_lt_of_le hi h.size) with k1 | ⟨d1, d2, k1, k2, k3, k4⟩
      · exact .inl (k1.trans h1)
      · exact .inr ⟨d1, d2, h1.symm.trans k1, k2, k3, k4⟩
    · rcases k.row i (Nat.lt_of_lt_of_le hi h.size) with k1 | ⟨d1, d2, k1, k2, k3, k4⟩
      · exact .inr ⟨c1, c2, h1, k1.trans h2, h3, h4⟩
      · have e1 : c2 = d1 := by
          rw [h2] at k1; injection k1 with k1; injection k1 with k1
        subst e1
        refine .inr ⟨c1, d2, h1, k2, k3.trans h3, fun j hj => ?_⟩
        rcases k4 j hj with q | q
        · rcases h4 j hj with p | p
          · exact .inl (q.trans p)
          · exact .inr ⟨p.1, q.trans p.2⟩
        · exact .inr q⟩
theorem of_below (h : Below w.heap.size w w') : Prot B N mk e w w' := ⟨h.os, h.tape, h.output, h.size, fun i hi _ => h.block i hi, fun i hi => .inl (h.block i hi)⟩
theorem below (h : Prot B N mk e w w') (hB : w.heap.size ≤ B) : Below w.heap.size w w' := ⟨h.os, h.tape, h.output, h.size, fun k hk => h.low k hk (by omega)⟩
theorem belowB (h : Prot B N mk e w w') (hB : B ≤ w.heap.size) : Below B w w' := ⟨h.os, h.tape, h.output, h.size, fun k hk => h.low k (by omega) hk⟩
/-- a row whose listed cells are protected -/
theorem own {base size n : Nat} {v : Value} {xs : List Value} (h : w.ownsRow base e size v n xs) (hp : Prot B N mk e w w') (hN : ∀ j, j < n * size → j < N ∨ (j < N + mk.length ∧ xs[j]? = mk[j - N]?)) : w'.ownsRow base e size v n xs := by
  refine ⟨h.1, h.2.imp id ?_⟩
  rintro ⟨g, cap, cur, rfl, hb, hg, h1, h2, h3, h4⟩
  have hl : g < w.heap.size := (Array.getElem?_eq_some_iff.1 hg).1
  rcases hp.row g hl with hr | ⟨c1, c2, r1, r2, r3, r4⟩
  · exact ⟨g, cap, cur, rfl, hb, hr.trans hg, h1, h2, h3, h4⟩
  · have e1 : c1 = cur := by rw [hg] at r1; injection r1 with r1; injection r1 with r1; exact r1.symm
    subst e1
    refine ⟨g, cap, c2, rfl, hb, r2, h1, h2, r3.trans h3, ?_⟩
    have h0 : ∀ j, j < n * size → c1[j]? = xs[j]? := fun j hj => by
      rw [← h4, List.getElem?_take, if_pos hj, Array.getElem?_toList]
    apply List.ext_getElem?
    intro j
    rw [List.getElem?_take]
    split
    · next hj =>
      rw [Array.getElem?_toList]
      rcases hN j hj with h5 | ⟨h5, h6⟩
      · rcases r4 j (by omega) with q | q
        · rw [q]; exact h0 j hj
        · omega
      · rcases r4 j h5 with q | q
        · rw [q]; exact h0 j hj
        · rw [q.2, h6]
    · next hj =>
      have := h.1
      exact (List.getElem?_eq_none (by omega)).symm
theorem rd {g : Nat} (h : Rd w (some ⟨g, 0, none⟩) mk) (hp : Prot B N mk e w w') (hN : N = 0 ∨ mk.length ≤ N) : Rd w' (some ⟨g, 0, none⟩) mk := fun j u hu => by
  obtain ⟨ad, ha, hc⟩ := h j u hu
  injection ha with ha
  subst ha
  refine ⟨_, rfl, ?_⟩
  have hj : j < mk.length := (List.getElem?_eq_some_iff.1 hu).1
  rw [addr_add, Nat.zero_add] at hc ⊢
  have hl : g < w.heap.size := by
    rcases Nat.lt_or_ge g w.heap.size with hl | hl
    · exact hl
    · have : w.cell? ⟨g, j, none⟩ = none := by simp [World.cell?, Array.getElem?_eq_none hl]
      rw [this] at hc; cases hc
  rcases hp.row g hl with hr | ⟨c1, c2, r1, r2, r3, r4⟩
  · rw [← hc]
    unfold World.cell?
    rw [hr]
  · unfold World.cell? at hc ⊢
    simp only [r1] at hc
    simp only [r2]
    rcases r4 j (by omega) with q | ⟨q1, q2⟩
    · exact q.trans hc
    · have : N = 0 := by omega
      subst this
      rw [Nat.sub_zero] at q2
      exact q2.trans hu
end Prot
section
variable {P : Program} (w : World)
/-- append onto a row of the call's own: what changes -/
theorem run_append_prot (base : Nat) (t ty e : TypeId) (i : TypeInfo) (z : Value) (size bytes : Nat) (ht : P.underlying t = some (.slice e)) (hi : P.info? e = some i) (hz : i.zero = some z)
    (hsize : i.size = size) (hby : i.bytes = bytes) (hzs : z.cells.size = size) (hsz : 0 < size)
    (v : Value) (n : Nat) (xs : List Value) (hown : w.ownsRow base e size v n xs)
    (A : Option Addr) (m c : Nat) (news : List Value) (hl : news.length = m * size) (hr : Rd w A news) (h1 : ∀ u ∈ news, u.oneCell' = true)
    (h63 : n + m ≤ maxLen) (hbytes : (n + m) * bytes ≤ 140737488355328) (hbase : base ≤ w.heap.size) {B N : Nat} {mk : List Value} (hB : B ≤ base) (hN : ∀ g cap, v = .slice (some ⟨g, 0, none⟩) n cap → n + m ≤ cap → news = [] ∨ (n * size = N ∧ news = mk)) :
    ∃ A' c' w', (Builtin.append_ #[t, t] ty #[v, .slice A m c]).run P w = .ok (.slice A' (n + m) c') w' ∧ w'.ownsRow base e size (.slice A' (n + m) c') (n + m) (xs ++ news) ∧ Prot B N mk e w w' := by
  obtain ⟨v', w', hrun, h2, h3, h4⟩ := run_append_rd (P := P) w base t ty e i z size bytes ht hi hz hsize hby hzs hsz v n xs hown A m c news hl hr h1 h63 hbytes hbase
  obtain ⟨A', c', rfl⟩ := own_form h2
  refine ⟨A', c', w', hrun, h2, ?_⟩
  have hbl : ∀ k, k < w.heap.size → (∀ g, v.ownBlock = some g → k ≠ g) → w'.heap[k]? = w.heap[k]? := fun k hk hne => h3.block k hk (fun e1 => hne k e1.symm rfl)
  refine ⟨h3.os, h3.tape, h3.output, h3.size, fun k hk hkB => hbl k hk fun g hg e1 => by
    have := (own_row hown g hg).1
    omega, fun k hk => ?_⟩
  by_cases hkg : v.ownBlock = some k
  case neg => exact .inl (hbl k hk fun g hg e1 => hkg (by rw [hg, e1]))
  rcases hown.2 with ⟨rfl, _⟩ | ⟨g, cap, cur, rfl, hb, hh, hn, hcm, hcs, htk⟩
  · simp [Value.ownBlock] at hkg
  · have hgk : g = k := by simpa [Value.ownBlock] using hkg
    subst hgk
    -- in place, or a new block
    rcases A with _ | ad
    · left
      have hm : m = 0 := by
        have hn0 : news = [] := by
          cases hnews : news with
          | nil => rfl
          | cons u l =>
            obtain ⟨ad, ha, _⟩ := hr 0 u (by rw [hnews]; rfl)
            cases ha
        rw [hn0] at hl
        rcases Nat.eq_zero_or_pos m with h0 | h0
        · exact h0
        · have := Nat.mul_pos h0 hsz
          simp at hl; omega
      subst hm
      have hrun2 : (Builtin.append_ #[t, t] ty #[.slice (some ⟨g, 0, none⟩) n cap, .slice none 0 c]).run P w = .ok (.slice (some ⟨g, 0, none⟩) n cap) w := by
        simp [Builtin.append_, run_underlying ht, sizeOf, typeInfo, hi, Builtin.lenOf, Builtin.firstCells, hn, storeCells]
      rw [hrun2] at hrun
      injection hrun with _ hw
      rw [hw]
    · have hcells : ∀ j u, news[j]? = some u → w.cell? (ad.add j) = some u := fun j u hu => by
        obtain ⟨ad', h, hc⟩ := hr j u hu
        injection h with h
        subst h
        exact hc
      have hsrc := Src.ofSlice (P := P) (size := size) w (tx := t) ht ad m c news hl hcells h1
      by_cases hroom : n + m ≤ cap
      · right
        subst hsize
        have hfit : n * i.size + news.length ≤ cur.size := by rw [hl, hcs, ← Nat.add_mul]; exact Nat.mul_le_mul_right _ hroom
        have hst := run_storeCells_at P g (n * i.size) e news 0 cur w hh (by simpa using hfit) hsrc.one
        simp only [Nat.add_zero] at hst
        have hrun2 : (Builtin.append_ #[t, t] ty #[.slice (some ⟨g, 0, none⟩) n cap, .slice (some ad) m c]).run P w = .ok (.slice (some ⟨g, 0, none⟩) (n + m) cap) (w.setRow g (cur.toList.take (n * i.size) ++ news ++ cur.toList.drop (n * i.size + news.length)).toArray) := by
          rcases hsrc.kind with ⟨e', hk⟩ | hk <;> simp [Builtin.append_, run_underlying ht, run_underlying hk, sizeOf, typeInfo, hi, hsrc.len, hroom, hsrc.cells, Addr.add_lit, hst]
        rw [hrun2] at hrun
        injection hrun with _ hw
        rw [← hw]
        refine ⟨cur, _, hh, setRow_heap w g cur _ e _ hh, ?_, fun j hj => ?_⟩
        · simp only [List.size_toArray, List.length_append, List.length_take, List.length_drop, Array.length_toList]
          omega
        · rcases hN g cap rfl hroom with h0 | ⟨h0, h5⟩
          · left
            rw [h0]
            simp
          · subst h5
            rw [List.getElem?_toArray]
            rcases Nat.lt_or_ge j (n * i.size) with hjl | hjl
            · left
              rw [List.append_assoc, List.getElem?_append_left (by rw [List.length_take, Array.length_toList]; omega), List.getElem?_take, if_pos hjl, Array.getElem?_toList]
            · right
              refine ⟨by omega, ?_⟩
              rw [List.append_assoc, List.getElem?_append_right (by rw [List.length_take, Array.length_toList]; omega), List.length_take, show min (n * i.size) cur.toList.length = N by rw [Array.length_toList]; omega, List.getElem?_append_left (by omega)]
      · left
        subst hsize
        have holds : ∀ j u, xs[j]? = some u → w.cell? ((⟨g, 0, none⟩ : Addr).add j) = some u := hown.cells (g := g) rfl
        subst hby
        have hrun2 := run_append_grow_src (P := P) w t t ty e i z ht hi hz (some ⟨g, 0, none⟩) n cap xs (run_firstCells_some w.drew i.size n ⟨g, 0, none⟩ n cap xs hown.1 (by simpa using holds)) (.slice (some ad) m c) m news hsrc (by omega) (by simp only [maxLen] at h63; omega) (growslice_fits (by omega) hbytes)
        rw [hrun2] at hrun
        injection hrun with _ hw
        rw [← hw]
        exact Go.heap_alloc_old w.drew _ hk
end
section
variable {P : Program} {ops : Array Oper} {ks : List Known} {w : World} {a0 a : Act} {i : Nat} {d : Tmp} {B N : Nat} {mk : List Value} {e : TypeId}
theorem FreeStepW.append {o : Oper} {K : Known} (ho : ops[i]? = some o) (hg : o.guard = none) (hd : o.dst = some d) (hs : decide (d < a.tmps.size) = true) (hf : a.defers = a0.defers) (hk : kat ks i = K)
    (s x : Operand) (t : TypeId) (hop : o.op = .call { callee := .builtin .append, args := #[s, x], argTypes := #[t, t] })
    (base : Nat) (inf : TypeInfo) (z : Value) (size bytes : Nat) (ht : P.underlying t = some (.slice e)) (hi : P.info? e = some inf) (hz : inf.zero = some z)
    (hsize : inf.size = size) (hby : inf.bytes = bytes) (hzs : z.cells.size = size) (hsz : 0 < size)
    (v : Value) (n : Nat) (xs : List Value) (hsv : a.eval s = v) (hown : w.ownsRow base e size v n xs)
    (A : Option Addr) (m c : Nat) (news : List Value) (hx : a.eval x = .slice A m c) (hl : news.length = m * size) (hr : Rd w A news) (h1 : ∀ u ∈ news, u.oneCell' = true)
    (h63 : n + m ≤ maxLen) (hbytes : (n + m) * bytes ≤ 140737488355328) (hbase : base ≤ w.heap.size) (hB : B ≤ base) (hN : ∀ g cap, v = .slice (some ⟨g, 0, none⟩) n cap → n + m ≤ cap → news = [] ∨ (n * size = N ∧ news = mk))
    (h : ∀ A' c' w', w'.ownsRow base e size (.slice A' (n + m) c') (n + m) (xs ++ news) → Prot B N mk e w w' → K (.slice A' (n + m) c') w') : FreeStepW (Prot B N mk e) P ops ks w a0 i d [] a := by
  obtain ⟨A', c', w', hrun, h2, h3⟩ := run_append_prot (P := P) (N := N) (mk := mk) w base t o.type e inf z size bytes ht hi hz hsize hby hzs hsz v n xs hown A m c news hl hr h1 h63 hbytes hbase hB hN
  refine FreeStepW.op ho hk (wpList_plain hg fun K' hK' => ?_)
  unfold Oper.wp execOp
  simp only [hop, resolve, invoke, builtin, Sem.run_bind, Sem.run_pure, Result.andThen_ok, List.map_toArray, List.map_cons, List.map_nil, hsv, hx, hrun]
  refine hK' _ _ ?_
  refine ⟨by rw [hd]; exact hf, h3, ?_⟩
  have hsd : d < a.tmps.size := by simpa using hs
  rw [hd, put_get hsd]
  exact h A' c' w' h2 h3
end
end Go.Proofs.Ytnfffipkgaobhaa

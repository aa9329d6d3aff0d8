/-
  Marks and certificates laid down: Count, putCert$1, putList of marks, putCert. Conditions: what is laid down is plain; the Writer has room; the marks lie below the Writer.
  PlainCert. Conditions: each number fits its kind; the marks lie in the world.
  A certificate laid down; EncodeCert. Conditions: each number fits its kind; the marks lie in the world.
  CertId: all zero for the zero certificate, else the digest of its form. Conditions: each number fits its kind; the marks lie in the world; the tables read as they were laid.
  The reference's NoCert and PlainHeader. Condition: each number fits its kind.
  The document's own forms, further: join. Condition: the pieces have less than 2^46 bytes together.
-/
import Derived.Test.YtnfffipkgaobhaaM12
import Derived.Test.YtnfffipkgaobhaaMRef1
import Derived.Test.YtnfffipkgaobhaaM11
namespace Go.Proofs.Ytnfffipkgaobhaa
set_option linter.unusedSimpArgs false
set_option linter.unusedVariables false
open Go.RowKit
set_option maxRecDepth 100000

theorem rd_eff {w w' : World} {A : Option Addr} {xs : List Value} {B : Nat} {ts : List TypeId} (h : Rd w A xs) (e : Eff B ts w w') (hB : B ≤ w.heap.size) (hA : ∀ ad, A = some ad → xs ≠ [] → ad.block < B) : Rd w' A xs := fun j u hu => by
  obtain ⟨ad, ha, hc⟩ := h j u hu
  have hne : xs ≠ [] := by rintro rfl; simp at hu
  have hb := hA ad ha hne
  have hk := e.block ad.block (by omega) (.inl hb)
  refine ⟨ad, ha, ?_⟩
  rw [← hc]
  have hblk : (ad.add j).block = ad.block := by unfold Addr.add; split <;> rfl
  unfold World.cell?
  rw [hblk, hk]
structure MkB (m : Mk) : Prop where
  i1 : 0 ≤ m.idx
  i2 : m.idx < 64
  t1 : 0 ≤ m.time
  t2 : m.time ≤ 1125899906842624
def encMk (m : Mk) : List UInt8 := varB m.idx.toNat ++ varB m.time.toNat ++ m.sl
theorem encMk_len {m : Mk} (hm : m.ok) (hp : MkB m) : (encMk m).length ≤ 36 := by
  obtain ⟨i1, i2, t1, t2⟩ := hp
  have l1 := varB_int (n := m.idx) (by omega) (by unfold two64; omega)
  have l2 := varB_int (n := m.time) (by omega) (by unfold two64; omega)
  have l3 := hm.sl
  simp only [encMk, List.length_append]
  omega

theorem Mk.cl_sl (m : Mk) (j : Nat) (u : Value) (h : (bv m.sl)[j]? = some u) : m.cl.toArray[2 + j]? = some u := by
  rw [List.getElem?_toArray, Mk.cl, List.getElem?_append_right (by simp)]
  simpa using h
theorem take_mks (ms : List Mk) (k : Nat) (hk : k < ms.length) : (ms.take (k + 1)).flatMap encMk = (ms.take k).flatMap encMk ++ encMk ms[k] := by
  rw [List.take_succ_eq_append_getElem hk, List.flatMap_append]; simp
theorem mks_len {ms : List Mk} (hm : ∀ m ∈ ms, m.ok) (hp : ∀ m ∈ ms, MkB m) : ∀ k, ((ms.take k).flatMap encMk).length ≤ 36 * k := by
  intro k
  induction k with
  | zero => simp
  | succ k ih =>
    rcases Nat.lt_or_ge k ms.length with h | h
    · rw [take_mks ms k h, List.length_append]
      have := encMk_len (hm _ (List.getElem_mem h)) (hp _ (List.getElem_mem h))
      omega
    · rw [List.take_of_length_le (by omega)]
      rw [List.take_of_length_le (by omega)] at ih
      omega
theorem add_add_k (ad : Addr) (k j : Nat) : (ad.add (k * 18)).add j = ad.add (18 * k + j) := by
  rw [show 18 * k + j = k * 18 + j by omega]
  unfold Addr.add
  split <;> split <;> simp_all <;> omega
def zeroMk : List Value := [.int .i64 0, .int .u64 0] ++ bv (zer 16)
theorem zeroMk_sz : zeroMk.toArray.size = 18 := by rw [List.size_toArray, zeroMk, List.length_append, bv_length]; rfl
theorem zero_Mk : (Try.prog.info? 50).bind (·.zero) = some (.agg zeroMk.toArray) := by kernel_rfl
theorem mk_one (m : Mk) : ∀ u ∈ (Value.agg m.cl.toArray).cells.toList, u.oneCell' = true := by
  intro u hu
  simp only [Value.cells, Mk.cl, List.mem_append, List.mem_cons, List.not_mem_nil, or_false] at hu
  rcases hu with (rfl | rfl) | hu
  · rfl
  · rfl
  · exact bv_one m.sl u (by simpa [Value.cells] using hu)
def encCrt (x : Crt) : List UInt8 := varB x.height.toNat ++ varB x.round.toNat ++ x.id ++ varB x.n ++ x.ms.flatMap encMk
structure CrtB (x : Crt) : Prop where
  h1 : 0 ≤ x.height
  h2 : x.height ≤ 1099511627776
  r1 : 0 ≤ x.round
  r2 : x.round ≤ 65535
  n : x.n ≤ 64
  ms : ∀ m ∈ x.ms, MkB m
theorem encCrt_len {x : Crt} (hx : x.ok) (hp : CrtB x) : (encCrt x).length ≤ 2400 := by
  obtain ⟨h1, h2, r1, r2, n, ms⟩ := hp
  have lh := varB_int (n := x.height) (by omega) (by unfold two64; omega)
  have lr := varB_int (n := x.round) (by omega) (by unfold two64; omega)
  have lv := varB_ten (n := x.n) (by unfold two64; omega)
  have lm := mks_len hx.ms ms x.ms.length
  rw [List.take_of_length_le (Nat.le_refl _)] at lm
  have li := hx.id
  have hn := hx.n
  simp only [encCrt, List.length_append]
  omega

end Go.Proofs.Ytnfffipkgaobhaa
namespace Go.Proofs.Ytnfffipkgaobhaa
set_option linter.unusedSimpArgs false
set_option linter.unusedVariables false
open Go.RowKit
set_option maxRecDepth 100000

def mkErr (m : Mk) : Int := firstErr [field (decide (m.idx < 0) || decide (64 ≤ m.idx)), moment m.time]
def plainMks : Option Int → List Mk → Int
  | _, [] => 0
  | p, m :: ms => if mkErr m ≠ 0 then mkErr m else if (match p with | some q => decide (m.idx ≤ q) | none => false) = true then 42 else plainMks (some m.idx) ms
def headC (x : Crt) : Int := firstErr [height x.height, round x.round, field (x.id == zeros 32)]
def plainCrt (x : Crt) : Int := if zeroC x = true then 0 else if headC x ≠ 0 then headC x else if 64 < (x.n : Int) then 4 else plainMks none x.ms
def prevK (ms : List Mk) (k : Nat) : Option Int := if k = 0 then none else (ms[k - 1]?).map (·.idx)
theorem plainMks_cons (p : Option Int) (m : Mk) (ms : List Mk) : plainMks p (m :: ms) = if mkErr m ≠ 0 then mkErr m else if (match p with | some q => decide (m.idx ≤ q) | none => false) = true then 42 else plainMks (some m.idx) ms := by cases p <;> rfl
theorem plainMks_drop {ms : List Mk} {k : Nat} (hk : k < ms.length) (p : Option Int) : plainMks p (ms.drop k) = if mkErr ms[k] ≠ 0 then mkErr ms[k] else if (match p with | some q => decide (ms[k].idx ≤ q) | none => false) = true then 42 else plainMks (prevK ms (k + 1)) (ms.drop (k + 1)) := by
  rw [List.drop_eq_getElem_cons hk, plainMks_cons]
  have e : prevK ms (k + 1) = some ms[k].idx := by unfold prevK; rw [if_neg (by omega), show k + 1 - 1 = k by omega, List.getElem?_eq_getElem hk]; rfl
  rw [e]

set_option maxHeartbeats 4000000 in
theorem plainCrt_any (w : World) (x : Crt) (hx : x.ok) (hr : x.at w) :
    Calls Try.prog 14 #[.agg x.cl.toArray] w fun e w' => e = .returned (.int .i64 (plainCrt x)) ∧ Below w.heap.size w w' := by
  have HX := Lib.hid hx
  have HLN := Lib.hid (x.cl_len hx)
  have HR := Lib.hid (show Rd w x.A (x.ms.flatMap Mk.cl) from hr)
  obtain ⟨Z, hZ⟩ : ∃ Z, zeroC x = Z := ⟨_, rfl⟩
  obtain ⟨E, hE⟩ : ∃ E, headC x = E := ⟨_, rfl⟩
  obtain ⟨R, hRR⟩ : ∃ R, plainCrt x = R := ⟨_, rfl⟩
  have hRe : R = if Z = true then 0 else if E ≠ 0 then E else if 64 < (x.n : Int) then 4 else plainMks none x.ms := by rw [← hRR, plainCrt, hZ, hE]
  rw [hRR]
  have HRE := Lib.hid hRe
  have HZ := Lib.hid hZ
  have HE := Lib.hid hE
  clear hRR hRe hZ hE hx hr
  go_enter Try.func14, Try.ntmps14
  go_wp2_with (first
    | (with_reducible show wpList _ _ _ (Oper.mk _ (Op.box _ _) _ _ _ _ :: _) _ _; refine wpList_box_bk rfl _ _ rfl _ rfl ?_; intro g w1 hb hbl hg hs; have HK1 := Lib.hid (bk_eqT (cs' := x.cl.toArray) hb rfl); have HB1 := Lib.hid hbl; clear hb hbl hg hs)
    | (with_reducible show wpList _ _ _ (Oper.mk (some 7) (Op.load _ _) _ _ _ _ :: _) _ _; refine wpList_load_part rfl 30 _ rfl g 0 35 rfl _ _ _ HK1.out Try.underlying30 rfl info_Crt (by simp [HLN.out]) _ (cl_all35 HLN.out) ?_))
  refine (zeroCert_any w1 x HX.out).mono ?_
  rintro e w2 ⟨rfl, e2⟩
  rw [HZ.out]
  have HB2 := Lib.hid (HB1.out.trans (e2.mono HB1.out.size))
  have HK2 := Lib.hid (HK1.out.below e2 HK1.out.lt)
  have HR2 := Lib.hid (HR.out.below HB2.out)
  clear e2 HB1 HK1 HR
  cases Z
  case true =>
    go_wp2
    go_ret
    exact ⟨ret_i64 (by rw [HRE.out]; rfl), HB2.out⟩
  case false =>
    have c0 : w2.cell? ⟨g, 0, none⟩ = some (.int .u64 x.height) := HK2.out.cell 0
    have c1 : w2.cell? ⟨g, 1, none⟩ = some (.int .i64 x.round) := HK2.out.cell 1
    go_wp2_with fail
    refine wp_region_still_tail 11 (by kernel_rfl) (by kernel_rfl) ?_
    simp only [List.take_succ_cons, List.take_zero, List.drop_succ_cons, List.drop_zero]
    refine still_quiet _ _ ?_
    repeat (first | go_big_quiet_skip | (go_big_quiet_want; first
        | (refine quiet_load_part 27 _ rfl g 2 32 rfl _ _ _ (fun wx hw => by subst hw; exact HK2.out) Try.underlying27 rfl info_hash (by simp [HLN.out]) _ (x.cl_id HX.out.id) ?_; go_simp; go_big_quiet_on)
        | (refine quiet_eql_flat 27 _ _ _ rfl (bv x.id) (bv (zeros 32)) rfl rfl 2 _ flat_hash (by omega) agg_hash guard_hash (fits_hash HX.out.id) (fits_hash rfl) _ (bv_iff rfl) ?_; go_simp; go_big_quiet_on)
        | (go_big_quiet_op; first | go_big_quiet_on | (apply Exists.intro; refine ⟨still_of (by first | (go_at_call 28; exact field_any _ _) | (go_at_call 26; exact height_any _ _) | (go_at_call 27; exact round_any _ _)), ?_⟩; go_big_quiet_on))))
    refine wpQuiet_nil ?_
    change wpList _ _ _ _ _ w2.drew
    go_wp2_with fail
    refine (all_any _ _ 3 3 [_, _, _] (rd_errs w2.drew _ [_, _, _] rfl) rfl (by omega)).mono ?_
    rintro e w3 ⟨rfl, hw3⟩
    rw [show firstErr [height x.height, round x.round, field (x.id == zeros 32)] = E from HE.out]
    have hb3 : Below w2.heap.size w2 w3 := by rw [← hw3]; exact ((Below.refl _ _).drew).alloc (Nat.le_refl _) _
    have HB3 := Lib.hid (HB2.out.trans (hb3.mono HB2.out.size))
    have HK3 := Lib.hid (HK2.out.below hb3 HK2.out.lt)
    have HR3 := Lib.hid (HR2.out.below hb3)
    clear hb3 hw3 c0 c1 HB2 HK2 HR2
    by_cases he : E = 0
    · have f1 : (E != 0) = false := by simp [he]
      have f2 : (E == 0) = true := by simp [he]
      have HE0 := Lib.hid he
      clear he
      have c2 : w3.cell? ⟨g, 34, none⟩ = some (.slice x.A x.n x.c) := (HK3.out.cell 34).trans (x.cl_34 HX.out.id)
      by_cases hn : 64 < (x.n : Int)
      · have HN := Lib.hid hn
        go_wp2
        go_ret
        exact ⟨ret_i64 (by rw [HRE.out, if_neg (by decide), if_neg (by rw [HE0.out]; decide), if_pos HN.out]), HB3.out⟩
      · have HN := Lib.hid hn
        have HRP := Lib.hid (show R = plainMks none x.ms by rw [HRE.out, if_neg (by decide), if_neg (by rw [HE0.out]; decide), if_neg HN.out])
        obtain ⟨n, hnn⟩ : ∃ n, x.n = n := ⟨_, rfl⟩
        obtain ⟨cp, hcp⟩ : ∃ cp, x.c = cp := ⟨_, rfl⟩
        obtain ⟨A, hAA⟩ : ∃ A, x.A = A := ⟨_, rfl⟩
        obtain ⟨ms, hms⟩ : ∃ ms, x.ms = ms := ⟨_, rfl⟩
        have HNM := Lib.hid (show n = ms.length by rw [← hnn, ← hms]; exact HX.out.n)
        have HMO := Lib.hid (show ∀ m ∈ ms, m.ok by rw [← hms]; exact HX.out.ms)
        rw [hnn, hcp, hAA] at c2
        rw [hAA, hms] at HR3
        rw [hms] at HRP
        have hn64 : n ≤ 64 := by omega
        have HC34 := Lib.hid (show x.cl.toArray[34]? = some (.slice A n cp) by rw [x.cl_34 HX.out.id, hnn, hcp, hAA])
        have hn' : ¬ 64 < (n : Int) := by omega
        clear hn hnn hcp hAA hms
        go_wp2
        go_loopw [32] (fun i wr => ∃ k : Nat, k ≤ n ∧ i = .int .i64 k ∧ plainMks (prevK ms k) (ms.drop k) = R ∧ Bk wr g x.cl.toArray 30 ∧ Rd wr A (ms.flatMap Mk.cl) ∧ Below w.heap.size w wr) (fun i _ => n - (intOf i).toNat)
        case atStart => exact ⟨0, by omega, rfl, HRP.out.symm, HK3.out, HR3.out, HB3.out⟩
        case round =>
          clear HK3 HR3 HB3 HRP c2
          obtain ⟨k, hk, rfl, hp4, hk4, hr4, hb4⟩ := hrel
          have HP4 := Lib.hid hp4
          have HK4 := Lib.hid hk4
          have HR4 := Lib.hid hr4
          have HB4 := Lib.hid hb4
          clear hp4 hk4 hr4 hb4
          by_cases hlt : k < n
          · have hkl : k < ms.length := by rw [← HNM.out]; exact hlt
            have hd := plainMks_drop hkl (prevK ms k)
            obtain ⟨m, hmk⟩ : ∃ m, ms[k] = m := ⟨_, rfl⟩
            rw [HP4.out, hmk] at hd
            have HD := Lib.hid hd
            have HMK := Lib.hid (HMO.out m (by rw [← hmk]; exact List.getElem_mem hkl))
            obtain ⟨ad, hA, hcell⟩ : ∃ ad, A = some ad ∧ ∀ i (hi : i < ms.length) j u, (ms[i]).cl[j]? = some u → wr.cell? (ad.add (18 * i + j)) = some u := by
              have h0 := mk_at ms HMO.out k hkl 0 (.int .i64 (ms[k]).idx) rfl
              obtain ⟨ad, ha, _⟩ := HR4.out _ _ h0
              refine ⟨ad, ha, fun i hi j u hu => ?_⟩
              obtain ⟨ad', ha', hc⟩ := HR4.out _ _ (mk_at ms HMO.out i hi j u hu)
              rw [ha] at ha'; injection ha' with ha'; rw [ha']; exact hc
            subst hA
            have HC := Lib.hid (show ∀ j u, m.cl[j]? = some u → wr.cell? (ad.add (18 * k + j)) = some u by intro j u hu; exact hcell k hkl j u (by rw [hmk]; exact hu))
            have HCL := Lib.hid hcell
            clear hd hcell hmk
            have hi1 : (k : Int) < n := by omega
            go_wp2_with (first
              | (with_reducible show wpList _ _ _ (Oper.mk (some 36) (Op.load 50 _) _ _ _ _ :: _) _ _; go_must (refine wpList_load_at rfl 50 _ rfl (ad.add (k * 18)) 18 rfl m.cl (fun j u hu => by rw [add_add_k]; exact HC.out j u hu) _ Try.underlying50 rfl info_Mk (m.cl_len HMK.out) ?_))
              | (with_reducible show wpList _ _ _ (Oper.mk _ (Op.alloc _) _ _ _ _ :: _) _ _; refine wpList_alloc_i rfl 50 rfl (.agg zeroMk.toArray) zero_Mk ?_))
            intro r w6 h6 hl6 hg6 hs6
            have H6 := Lib.hid h6
            have HL6 := Lib.hid hl6
            have HG6 := Lib.hid hg6
            have HSZ := Lib.hid (show m.cl.toArray.size = 18 by rw [List.size_toArray, m.cl_len HMK.out])
            clear h6 hl6 hg6 hs6
            go_wp2_with (with_reducible show wpList _ _ _ (Oper.mk _ (Op.store 50 _ _) _ _ _ _ :: _) _ _; go_must (refine wpList_store_bk rfl 50 _ _ rfl r rfl (.agg m.cl.toArray) rfl _ _ H6.out (by rw [agg_sz HSZ.out]; exact info_Mk) (by rw [agg_sz HSZ.out]; exact zeroMk_sz.symm) (mk_one m) ?_))
            intro w7 h7 hg7 hs7
            have HL7 := Lib.hid (below_grown2 HL6.out hg7 HG6.out HL6.out.size)
            have H7 := Lib.hid (show Bk w7 r m.cl.toArray 50 from h7)
            clear h7 hg7 hs7 H6 HL6
            have c0 : w7.cell? ⟨r, 0, none⟩ = some (.int .i64 m.idx) := H7.out.cell 0
            have c1 : w7.cell? ⟨r, 1, none⟩ = some (.int .u64 m.time) := H7.out.cell 1
            obtain ⟨q, hq⟩ : ∃ q, decide (m.idx < 0) = q := ⟨_, rfl⟩
            have HQ := Lib.hid hq
            cases q
            all_goals
              go_wp2_with fail
              refine wp_region_still_tail 12 (by kernel_rfl) (by kernel_rfl) ?_
              simp only [List.take_succ_cons, List.take_zero, List.drop_succ_cons, List.drop_zero]
              refine still_quiet _ _ ?_
              repeat (first | go_big_quiet_skip | (go_big_quiet_want; go_big_quiet_op; first | go_big_quiet_on | (apply Exists.intro; refine ⟨still_of (by first | (go_at_call 28; exact field_any _ _) | (go_at_call 29; exact moment_any _ _)), ?_⟩; go_big_quiet_on)))
              refine wpQuiet_nil ?_
              change wpList _ _ _ _ _ w7.drew
              go_wp2_with fail
              refine (all_any _ _ 2 2 [_, _] (rd_errs w7.drew _ [_, _] rfl) rfl (by omega)).mono ?_
              rintro e w8 ⟨rfl, hw8⟩
              first
                | rw [show firstErr [field true, moment m.time] = mkErr m by unfold mkErr; rw [HQ.out]; rfl]
                | rw [show firstErr [field (decide (64 ≤ m.idx)), moment m.time] = mkErr m by unfold mkErr; rw [HQ.out]; rfl]
              have hb8 : Below w7.heap.size w7 w8 := by rw [← hw8]; exact ((Below.refl _ _).drew).alloc (Nat.le_refl _) _
              have HB8 := Lib.hid (HL7.out.trans (hb8.mono HL7.out.size))
              have H8 := Lib.hid (H7.out.below hb8 H7.out.lt)
              clear hb8 hw8 c0 c1 hq
              obtain ⟨F, hF⟩ : ∃ F, mkErr m = F := ⟨_, rfl⟩
              rw [hF]
              rw [hF] at HD
              have HFF := Lib.hid hF
              clear hF
              by_cases hf : F = 0
              · have g1 : (F != 0) = false := by simp [hf]
                have g2 : (F == 0) = true := by simp [hf]
                have HD0 := Lib.hid (show R = if (match prevK ms k with | some q => decide (m.idx ≤ q) | none => false) = true then 42 else plainMks (prevK ms (k + 1)) (ms.drop (k + 1)) by rw [HD.out, if_neg (by simp [hf])])
                have HBW := Lib.hid (HB4.out.trans (HB8.out.mono HB4.out.size))
                have HK8 := Lib.hid (HK4.out.below HB8.out HK4.out.lt)
                have HR8 := Lib.hid (HR4.out.below HB8.out)
                have HDR := Lib.hid (show Below w8.heap.size w8 w8.drew from (Below.refl _ _).drew)
                clear hf HD
                by_cases hk0 : k = 0
                · have HD1 := Lib.hid (show R = plainMks (prevK ms (k + 1)) (ms.drop (k + 1)) by rw [HD0.out, hk0]; rfl)
                  have hk1 : decide ((0 : Int) < (k : Int)) = false := decide_eq_false (by omega)
                  have hk2 : decide (0 < k) = false := decide_eq_false (by omega)
                  clear hk0
                  go_wp2_with fail
                  refine wp_region_still_tail 13 (by kernel_rfl) (by kernel_rfl) ?_
                  simp only [List.take_succ_cons, List.take_zero, List.drop_succ_cons, List.drop_zero]
                  refine still_quiet _ _ ?_
                  repeat (first | go_big_quiet_skip | (go_big_quiet_want; go_big_quiet_op; go_big_quiet_on))
                  refine wpQuiet_nil ?_
                  change wpList _ _ _ _ _ w8.drew
                  go_wp2
                  go_round
                  case rel => first
                    | exact ⟨k + 1, by omega, by go_num, HD1.out.symm, HK8.out, HR8.out, HBW.out⟩
                    | exact ⟨k + 1, by omega, by go_num, HD1.out.symm, HK8.out.below HDR.out HK8.out.lt, HR8.out.below HDR.out, HBW.out.drew⟩
                  case measure => simp [intOf]; omega
                · have hk1 : decide ((0 : Int) < (k : Int)) = true := decide_eq_true (by omega)
                  have hk2 : decide (0 < k) = true := decide_eq_true (by omega)
                  have hkp : k - 1 < ms.length := by omega
                  obtain ⟨pm, hpm⟩ : ∃ pm, ms[k - 1] = pm := ⟨_, rfl⟩
                  have hpv : prevK ms k = some pm.idx := by unfold prevK; rw [if_neg hk0, List.getElem?_eq_getElem hkp, hpm]; rfl
                  have c0 : w8.cell? ⟨r, 0, none⟩ = some (.int .i64 m.idx) := H8.out.cell 0
                  have c2 : w8.cell? ⟨g, 34, none⟩ = some (.slice (some ad) n cp) := (HK8.out.cell 34).trans HC34.out
                  have c3 : w8.cell? (ad.add ((k - 1) * 18)) = some (.int .i64 pm.idx) := by
                    obtain ⟨ad', ha', h1⟩ := HR8.out _ _ (mk_at ms HMO.out (k - 1) hkp 0 (.int .i64 (ms[k - 1]).idx) rfl)
                    injection ha' with ha'
                    rw [hpm, Nat.add_zero, Nat.mul_comm, ← ha'] at h1
                    exact h1
                  have p1 : IntKind.i64.wrap ((k : Int) - 1) = (k : Int) - 1 := by rw [IntKind.wrap_i64]; omega
                  have p2 : ((k : Int) - 1).toNat = k - 1 := by omega
                  have p3 : (0 : Int) ≤ (k : Int) - 1 := by omega
                  have p4 : (k : Int) - 1 < n := by omega
                  have p5 : k - 1 < n := by omega
                  obtain ⟨b, hb⟩ : ∃ b, decide (m.idx ≤ pm.idx) = b := ⟨_, rfl⟩
                  have HD1 := Lib.hid (show R = if b = true then 42 else plainMks (prevK ms (k + 1)) (ms.drop (k + 1)) by rw [HD0.out, hpv]; simp only [hb])
                  have HBB := Lib.hid hb
                  clear hpv hpm hk0
                  cases b
                  · go_wp2_with fail
                    refine wp_region_still_tail 13 (by kernel_rfl) (by kernel_rfl) ?_
                    simp only [List.take_succ_cons, List.take_zero, List.drop_succ_cons, List.drop_zero]
                    refine still_quiet _ _ ?_
                    repeat (first | go_big_quiet_skip | (go_big_quiet_want; go_big_quiet_op; go_big_quiet_on))
                    refine wpQuiet_nil ?_
                    change wpList _ _ _ _ _ w8.drew
                    go_wp2
                    go_round
                    case rel => first
                      | exact ⟨k + 1, by omega, by go_num, HD1.out.symm, HK8.out, HR8.out, HBW.out⟩
                      | exact ⟨k + 1, by omega, by go_num, HD1.out.symm, HK8.out.below HDR.out HK8.out.lt, HR8.out.below HDR.out, HBW.out.drew⟩
                    case measure => simp [intOf]; omega
                  · go_wp2_with fail
                    refine wp_region_still_tail 13 (by kernel_rfl) (by kernel_rfl) ?_
                    simp only [List.take_succ_cons, List.take_zero, List.drop_succ_cons, List.drop_zero]
                    refine still_quiet _ _ ?_
                    repeat (first | go_big_quiet_skip | (go_big_quiet_want; go_big_quiet_op; go_big_quiet_on))
                    refine wpQuiet_nil ?_
                    change wpList _ _ _ _ _ w8.drew
                    go_wp2
                    go_ret
                    first
                      | exact ⟨ret_i64 HD1.out.symm, HBW.out⟩
                      | exact ⟨ret_i64 HD1.out.symm, HBW.out.drew⟩
              · have g1 : (F != 0) = true := by simp [hf]
                have g2 : (F == 0) = false := by simp [hf]
                have HF := Lib.hid hf
                have HBW := Lib.hid (HB4.out.trans (HB8.out.mono HB4.out.size))
                clear hf
                go_wp2
                go_ret
                exact ⟨ret_i64 (by rw [HD.out, if_pos HF.out]), HBW.out⟩
          · have hk7 : k = n := by omega
            have HK7 := Lib.hid hk7
            have HRZ := Lib.hid (show R = 0 by rw [← HP4.out, List.drop_of_length_le (by rw [HK7.out, HNM.out]; exact Nat.le_refl _)]; cases prevK ms k <;> rfl)
            clear hk7
            go_wp2
            go_ret
            exact ⟨ret_i64 HRZ.out.symm, HB4.out⟩
    · have f1 : (E != 0) = true := by simp [he]
      have f2 : (E == 0) = false := by simp [he]
      have HE0 := Lib.hid he
      clear he
      go_wp2
      go_ret
      exact ⟨ret_i64 (by rw [HRE.out, if_neg (by decide), if_pos HE0.out]), HB3.out⟩
end Go.Proofs.Ytnfffipkgaobhaa
namespace Go.Proofs.Ytnfffipkgaobhaa
set_option linter.unusedSimpArgs false
set_option linter.unusedVariables false
open Go.RowKit
set_option maxRecDepth 100000

theorem rd_lt {w : World} {A : Option Addr} {xs : List Value} (h : Rd w A xs) {ad : Addr} (ha : A = some ad) (hne : xs ≠ []) : ad.block < w.heap.size := by
  have hl : 0 < xs.length := List.length_pos_iff.2 hne
  obtain ⟨ad', ha', hc⟩ := h 0 _ (List.getElem?_eq_getElem hl)
  rw [ha] at ha'; injection ha' with ha'; subst ha'
  rcases Nat.lt_or_ge ad.block w.heap.size with hl' | hl'
  · exact hl'
  · have hn : w.cell? (ad.add 0) = none := by simp [World.cell?, add_block, Array.getElem?_eq_none hl']
    rw [hn] at hc; cases hc
theorem mkB {m : Mk} (hm : m.ok) (h : mkErr m = 0) : MkB m := by
  have hall := firstErr_zero h
  have a1 := field_zero (hall (field (decide (m.idx < 0) || decide (64 ≤ m.idx))) (by simp))
  have a2 := of_decide_eq_false (field_zero (hall (moment m.time) (by simp)))
  have ht := hm.time
  unfold U64 at ht
  simp only [Bool.or_eq_false_iff, decide_eq_false_iff_not] at a1
  exact ⟨by omega, by omega, ht.1, by omega⟩
theorem plainMks_rest {p : Option Int} {a : Mk} {ms : List Mk} (h : plainMks p (a :: ms) = 0) : mkErr a = 0 ∧ plainMks (some a.idx) ms = 0 := by
  by_cases he : mkErr a = 0
  · refine ⟨he, ?_⟩
    cases p with
    | none => simpa [plainMks_cons, he] using h
    | some q =>
      by_cases hq : a.idx ≤ q
      · simp [plainMks_cons, he, hq] at h
      · simpa [plainMks_cons, he, hq] using h
  · rw [plainMks_cons, if_pos he] at h; exact absurd h he
theorem mksB : ∀ (ms : List Mk) (p : Option Int), (∀ m ∈ ms, m.ok) → plainMks p ms = 0 → ∀ m ∈ ms, MkB m
  | [], _, _, _, m, hm => by cases hm
  | a :: ms, p, ho, h, m, hm => by
    have hr := plainMks_rest h
    rcases List.mem_cons.1 hm with rfl | hm
    · exact mkB (ho _ (List.mem_cons_self ..)) hr.1
    · exact mksB ms _ (fun q hq => ho q (List.mem_cons_of_mem _ hq)) hr.2 m hm
theorem crtB {x : Crt} (hx : x.ok) (h : plainCrt x = 0) : CrtB x := by
  unfold plainCrt at h
  by_cases hz : zeroC x = true
  · unfold zeroC at hz
    simp only [Bool.and_eq_true, beq_iff_eq] at hz
    obtain ⟨z1, z2, _, z4⟩ := hz
    have hn := hx.n
    have hm : x.ms = [] := List.eq_nil_of_length_eq_zero (by omega)
    exact ⟨by omega, by omega, by omega, by omega, by omega, fun m hm' => by rw [hm] at hm'; cases hm'⟩
  · rw [if_neg hz] at h
    by_cases he : headC x = 0
    · rw [if_neg (by simp [he])] at h
      have hall := firstErr_zero he
      have b1 := of_decide_eq_false (field_zero (hall (height x.height) (by simp)))
      have b2 := of_decide_eq_false (field_zero (hall (round x.round) (by simp)))
      by_cases hn : 64 < (x.n : Int)
      · rw [if_pos hn] at h; cases h
      · rw [if_neg hn] at h
        exact ⟨by omega, by omega, by omega, by omega, by omega, mksB _ _ hx.ms h⟩
    · rw [if_pos he] at h; exact absurd h he
end Go.Proofs.Ytnfffipkgaobhaa
namespace Go.Proofs.Ytnfffipkgaobhaa
set_option linter.unusedSimpArgs false
set_option linter.unusedVariables false
open Go.RowKit
set_option maxRecDepth 100000

def idCrt (x : Crt) : List UInt8 := if zeroC x = true then zer 32 else sha (18 :: encCrt x)
end Go.Proofs.Ytnfffipkgaobhaa
namespace Go.Proofs.Ytnfffipkgaobhaa
set_option linter.unusedSimpArgs false
set_option linter.unusedVariables false
open Go.RowKit
set_option maxRecDepth 100000

set_option maxHeartbeats 1000000 in
theorem rNoCert_any (w : World) (x : Crt) (hx : x.ok) :
    Calls Try.prog 36 #[.agg x.cl.toArray] w fun e w' => e = .returned (.bool (zeroC x)) ∧ Below w.heap.size w w' := by
  obtain ⟨q1, h1⟩ : ∃ q, (x.height == 0) = q := ⟨_, rfl⟩
  obtain ⟨q2, h2⟩ : ∃ q, (x.round == 0) = q := ⟨_, rfl⟩
  obtain ⟨q3, h3⟩ : ∃ q, (x.id == zeros 32) = q := ⟨_, rfl⟩
  obtain ⟨q4, h4⟩ : ∃ q, ((x.n : Int) == 0) = q := ⟨_, rfl⟩
  have hz : zeroC x = (q1 && (q2 && (q3 && q4))) := by unfold zeroC; rw [h1, h2, h3, h4]
  have HZ := Lib.hid hz
  rw [hz]
  clear hz
  cases q1 <;> cases q2 <;> cases q3
  all_goals
    go_enter Try.func36, Try.ntmps36
    go_wp2_with (refine wpList_box_bk rfl _ _ rfl _ rfl ?_)
    intro g w1 hb hbl hg hs
    clear hg hs
    have c0 : w1.cell? ⟨g, 0, none⟩ = some (.int .u64 x.height) := hb.cell 0
    have c1 : w1.cell? ⟨g, 1, none⟩ = some (.int .i64 x.round) := hb.cell 1
    have c2 : w1.cell? ⟨g, 34, none⟩ = some (.slice x.A x.n x.c) := (hb.cell 34).trans (x.cl_34 hx.id)
    go_wp2_with (first
      | (with_reducible show wpList _ _ _ (Oper.mk _ (Op.load 27 _) _ _ _ _ :: _) _ _; refine wpList_load_part rfl 27 _ rfl g 2 32 rfl _ _ _ hb Try.underlying27 rfl info_hash (by have := x.cl_len hx; simp [this]) _ (x.cl_id hx.id) ?_)
      | (with_reducible show wpList _ _ _ (Oper.mk _ (Op.build _ _) _ _ _ _ :: _) _ _; refine wpList_buildv rfl 27 [] rfl [] rfl _ built_hash ?_)
      | (with_reducible show wpList _ _ _ (Oper.mk _ (Op.binOp BinOp.eql 27 _ _ _) _ _ _ _ :: _) _ _; refine wpList_eql_flat rfl 27 _ _ _ rfl (bv x.id) (bv (zeros 32)) rfl rfl 2 _ flat_hash (by omega) agg_hash guard_hash (fits_hash hx.id) (fits_hash rfl) _ (bv_iff rfl) ?_))
    go_ret
    exact ⟨by simp, hbl⟩

theorem plainHdr_val (x : Hdr) : plainHdr x = if x.chain.size < 1 ∨ 16 < x.chain.size then 41 else if height x.height ≠ 0 ∨ moment x.time ≠ 0 ∨ x.prop = 0 then 41 else 0 := by
  have e4 : field (x.prop == 0) = if x.prop = 0 then 41 else 0 := by
    by_cases h : x.prop = 0 <;> simp [field, h]
  have e1 : named x.chain.size = if x.chain.size < 1 ∨ 16 < x.chain.size then 41 else 0 := by
    unfold named field
    generalize x.chain.size = n
    by_cases h : n < 1 ∨ 16 < n
    · rw [decide_eq_true h, if_pos h]; rfl
    · rw [decide_eq_false h, if_neg h]; rfl
  have e2 : height x.height = 0 ∨ height x.height = 41 := by unfold height field; split <;> simp
  have e3 : moment x.time = 0 ∨ moment x.time = 41 := by unfold moment field; split <;> simp
  unfold plainHdr
  rw [e1, e4]
  generalize x.chain.size = n
  generalize height x.height = a at e2 ⊢
  generalize moment x.time = c at e3 ⊢
  by_cases h1 : n < 1 ∨ 16 < n
  · rw [if_pos h1, if_pos h1]; rfl
  · rw [if_neg h1, if_neg h1]
    rcases e2 with rfl | rfl <;> rcases e3 with rfl | rfl <;> by_cases h4 : x.prop = 0 <;> simp [firstErr, h4]

end Go.Proofs.Ytnfffipkgaobhaa
namespace Go.Proofs.Ytnfffipkgaobhaa
set_option linter.unusedSimpArgs false
set_option linter.unusedVariables false
open Go.RowKit
set_option maxRecDepth 100000

/-- a slice value that reads as these bytes -/
def Part (w : World) (v : Value) (l : List UInt8) : Prop := ∃ A c, v = .slice A l.length c ∧ Rd w A (bv l)
theorem Bs.part {w : World} {B : Nat} {v : Value} {l : List UInt8} (h : Bs w B v l) : Part w v l := by
  obtain ⟨A, c, rfl⟩ := h.form
  exact ⟨A, c, rfl, h.rd⟩
theorem Part.below {w w' : World} {v : Value} {l : List UInt8} (h : Part w v l) (hb : Below w.heap.size w w') : Part w' v l := by
  obtain ⟨A, c, rfl, hr⟩ := h
  exact ⟨A, c, rfl, hr.below hb⟩
def Parts (w : World) (ps : List (Value × List UInt8)) : Prop := ∀ p ∈ ps, Part w p.1 p.2
def joined (ps : List (Value × List UInt8)) : List UInt8 := ps.flatMap (·.2)
theorem joined_take {ps : List (Value × List UInt8)} {k : Nat} (h : k < ps.length) : joined (ps.take (k + 1)) = joined (ps.take k) ++ ps[k].2 := by
  unfold joined
  rw [List.take_succ_eq_append_getElem h, List.flatMap_append]
  simp
theorem joined_le {ps : List (Value × List UInt8)} (k : Nat) : (joined (ps.take k)).length ≤ (joined ps).length := by
  have e : joined ps = joined (ps.take k) ++ joined (ps.drop k) := by
    unfold joined
    rw [← List.flatMap_append, List.take_append_drop]
  rw [e, List.length_append]
  omega

end Go.Proofs.Ytnfffipkgaobhaa

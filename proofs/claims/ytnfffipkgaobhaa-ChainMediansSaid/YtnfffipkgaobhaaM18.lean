/-
  An argument of the claim opened: a slice of bytes. No condition.
  A header and a certificate among the arguments opened. No condition.
  Roots of lists, plain: the greatest power of two below a number, the top of a list's leaves, the root; and split of both sides. Condition: the number is above 1 and below a million.
  The reference's digest of no bytes. Condition: the table reads as it was laid.
  The reference's texts under a digest, and its digests of an item and of two beside one another. Conditions: the item lies in memory; the table reads as it was laid.
-/
import Derived.Test.YtnfffipkgaobhaaM17
import Derived.ProofKit
import Derived.OpenShut
import Derived.SizedLaws
import Derived.Test.YtnfffipkgaobhaaRows
import Derived.FnData
import Derived.Test.YtnfffipkgaobhaaM15
import Derived.Test.YtnfffipkgaobhaaM11
namespace Go.Proofs.Ytnfffipkgaobhaa
set_option linter.unusedSimpArgs false
set_option linter.unusedVariables false
open Go.ChangeShapes Go.WideShapes Go.ChangeAt Go.RowKit
set_option maxRecDepth 100000

theorem cells_u8 : Try.prog.cellsOf 5 = 1 := by kernel_rfl
theorem bytes_u8 : Try.prog.bytesOf 5 = 1 := by kernel_rfl
section
variable {H : Type} {enc : TypeId × Value → H}
end
end Go.Proofs.Ytnfffipkgaobhaa
namespace Go.Proofs.Ytnfffipkgaobhaa
set_option linter.unusedSimpArgs false
set_option linter.unusedVariables false
open Go.ChangeShapes Go.WideShapes Go.ChangeAt Go.RowKit
set_option maxRecDepth 100000

def hdrTs : List TypeId := [9, 25, 25] ++ (List.replicate 224 5 ++ ([32] ++ []))
theorem open_hdr {w : World} {base : Nat} {v : Value} (h : Value.okWide Try.prog w .any base 34 v) : ∃ x : Hdr, x.ok ∧ v = .agg x.cl.toArray := by
  simp only [Value.okWide, Try.underlying34] at h
  obtain ⟨cs, rfl, hsz, ts, hts, _, hall⟩ := h
  have e1 : Try.prog.cellTypes Try.prog.depth 34 = some hdrTs := by kernel_rfl
  have e2 : Try.prog.cellsOf 34 = 228 := by kernel_rfl
  have e3 : hdrTs.length = 228 := by decide
  rw [e2] at hsz
  have e4 : ts = hdrTs := Option.some.inj (hts.symm.trans e1)
  subst e4
  have ha : All2 (OkC w base) hdrTs cs.toList := All2.of (by rw [e3]; simp [hsz]) fun i v hv => by
    have hv' : cs[i]? = some v := by simpa using hv
    obtain ⟨u, hu, hc⟩ := hall i v hv'
    have hi : i < 228 := by
      have := (Array.getElem?_eq_some_iff.1 hv').1
      omega
    rw [e3, Nat.mod_eq_of_lt hi] at hu
    exact ⟨u, hu, hc⟩
  obtain ⟨v0, r0, hcs, h0, t1⟩ := All2.cons (ts := [25, 25] ++ _) ha
  obtain ⟨s, rfl, hs⟩ := okc_string Try.underlying9 h0
  obtain ⟨v1, r1, rfl, h1, t2⟩ := All2.cons (ts := [25] ++ _) t1
  obtain ⟨n1, rfl, k1⟩ := okc_u64 Try.underlying25 h1
  obtain ⟨v2, r2, rfl, h2, t3⟩ := All2.cons (ts := List.replicate 224 5 ++ _) t2
  obtain ⟨n2, rfl, k2⟩ := okc_u64 Try.underlying25 h2
  obtain ⟨l, r3, hl, rfl, t4⟩ := okc_bytes Try.underlying5 t3
  obtain ⟨v4, r4, rfl, h4, t5⟩ := All2.cons t4
  obtain ⟨n4, rfl, k4⟩ := okc_u64 Try.underlying32 h4
  obtain rfl := All2.nil t5
  refine ⟨⟨s, n1, n2, l, n4⟩, ⟨hs, k1, k2, hl, k4⟩, ?_⟩
  congr 1
  apply Array.ext'
  rw [hcs]
  simp [Hdr.cl]
def txTs' : List TypeId := txTs ++ (sealTs ++ [])
theorem open_txv {w : World} {base : Nat} {v : Value} (h : Value.okWide Try.prog w .any base 55 v) : ∃ x : Tx, x.ok ∧ v = .agg x.cl.toArray := by
  simp only [Value.okWide, Try.underlying55] at h
  obtain ⟨cs, rfl, hsz, ts, hts, _, hall⟩ := h
  have e1 : Try.prog.cellTypes Try.prog.depth 55 = some txTs' := by kernel_rfl
  have e2 : Try.prog.cellsOf 55 = 22 := by kernel_rfl
  have e3 : txTs'.length = 22 := by decide
  rw [e2] at hsz
  have e4 : ts = txTs' := Option.some.inj (hts.symm.trans e1)
  subst e4
  have ha : All2 (OkC w base) txTs' cs.toList := All2.of (by rw [e3]; simp [hsz]) fun i v hv => by
    have hv' : cs[i]? = some v := by simpa using hv
    obtain ⟨u, hu, hc⟩ := hall i v hv'
    have hi : i < 22 := by
      have := (Array.getElem?_eq_some_iff.1 hv').1
      omega
    rw [e3, Nat.mod_eq_of_lt hi] at hu
    exact ⟨u, hu, hc⟩
  obtain ⟨x, r, hx, hcs, t⟩ := open_tx ha
  obtain rfl := All2.nil t
  refine ⟨x, hx, ?_⟩
  congr 1
  apply Array.ext'
  rw [hcs]
  simp

-- ---- a certificate
section
variable {H : Type} {enc : TypeId × Value → H} {W : World} {sp : Nat → Bool} {held : Bool}
theorem wf_i64 {n : Int} (h : (Lit.int .i64 n).wf = true) : I64 n := by
  simp [Lit.wf, IntKind.min, IntKind.max, IntKind.signed, IntKind.bits] at h
  unfold I64; omega
theorem wf_u64 {n : Int} (h : (Lit.int .u64 n).wf = true) : U64 n := by
  simp [Lit.wf, IntKind.min, IntKind.max, IntKind.signed, IntKind.bits] at h
  unfold U64; omega
theorem one_at {l : List Value} {k : Nat} {v : Value} (h : (l.drop k).take 1 = [v]) : l[k]? = some v := by
  have := congrArg (fun l : List Value => l[0]?) h
  simpa using this
/-- cells that read as bytes -/
theorem trod_bytes {n fuel : Nat} {t : TypeId} {cs : List Value} {x : DataW H × List MemPlace} (ht : Try.prog.underlying t = some (.array n 5)) (hn : Try.prog.cellsOf t = n) (h : DataW.trod enc Try.prog W 0 sp held fuel t cs = some x) :
    ∃ l : List UInt8, l.length = n ∧ cs = bv l := by
  obtain ⟨xs, m, _, hx, hc, hl, hi⟩ := DataW.trod_array ht h
  rw [hn] at hc
  have hb : ∀ i, i < n → ∃ b : UInt8, cs[i]? = some (.int .u8 (b.toNat : Int)) := fun i hin => by
    have h2 := hi i hin
    rw [cells_u8, Nat.mul_one, List.getElem?_eq_getElem (by omega)] at h2
    obtain ⟨k, hk, _, hw⟩ := DataW.trod_int Try.underlying5 h2
    refine ⟨UInt8.ofNat k.toNat, ?_⟩
    rw [one_at hk, byte_of]
    simp [Lit.wf, IntKind.min, IntKind.max, IntKind.signed, IntKind.bits] at hw
    congr 2
    omega
  refine ⟨cs.map fun v => match v with | .int _ k => UInt8.ofNat k.toNat | _ => 0, by simp [hc], ?_⟩
  apply List.ext_getElem?
  intro i
  rw [bv_get, List.getElem?_map]
  rcases Nat.lt_or_ge i n with hin | hin
  · obtain ⟨b, hb⟩ := hb i hin
    rw [hb]
    simp
  · rw [List.getElem?_eq_none (by omega)]; rfl
theorem cells_Mk : Try.prog.cellsOf 50 = 18 := by kernel_rfl
theorem cells_i : Try.prog.cellsOf 3 = 1 := by kernel_rfl
theorem cells_64 : Try.prog.cellsOf 25 = 1 := by kernel_rfl
theorem cells_seal : Try.prog.cellsOf 48 = 16 := by kernel_rfl
theorem fields_Mk : ∃ fs, Try.prog.underlying 50 = some (.struct fs) ∧ fs.size = 3 ∧ (fs[0]?).map (fun f => (f.type, f.offset)) = some (3, 0) ∧ (fs[1]?).map (fun f => (f.type, f.offset)) = some (25, 1) ∧ (fs[2]?).map (fun f => (f.type, f.offset)) = some (48, 2) := ⟨_, rfl, by kernel_rfl, by kernel_rfl, by kernel_rfl, by kernel_rfl⟩
theorem fields_Crt : ∃ fs, Try.prog.underlying 30 = some (.struct fs) ∧ fs.size = 4 ∧ (fs[3]?).map (fun f => (f.type, f.offset)) = some (28, 34) := ⟨_, rfl, by kernel_rfl, by kernel_rfl⟩
theorem cells_sl : Try.prog.cellsOf 28 = 1 := by kernel_rfl
theorem trod_field {t : TypeId} {fs : Array Field} {fuel : Nat} {cs : List Value} {x : DataW H × List MemPlace} (hu : Try.prog.underlying t = some (.struct fs)) (h : DataW.trod enc Try.prog W 0 sp held fuel t cs = some x) (i : Nat) {ft : TypeId} {off : Nat} (hi : i < fs.size) (hf : (fs[i]?).map (fun f => (f.type, f.offset)) = some (ft, off)) :
    ∃ n y, DataW.trod enc Try.prog W 0 sp held n ft ((cs.drop off).take (Try.prog.cellsOf ft)) = some y := by
  obtain ⟨xs, n, _, _, _, hl, ht⟩ := DataW.trod_struct hu h
  obtain ⟨f, hf1, hf2⟩ := Option.map_eq_some_iff.1 hf
  have := ht i f hf1
  simp only [Prod.mk.injEq] at hf2
  rw [hf2.1, hf2.2, List.getElem?_eq_getElem (by omega)] at this
  exact ⟨n, _, this⟩
theorem open_mk {fuel : Nat} {cs : List Value} {x : DataW H × List MemPlace} (h : DataW.trod enc Try.prog W 0 sp held fuel 50 cs = some x) : ∃ m : Mk, m.ok ∧ cs = m.cl := by
  obtain ⟨fs, hu, hs, f0, f1, f2⟩ := fields_Mk
  obtain ⟨_, _, _, _, hlen, _, _⟩ := DataW.trod_struct hu h
  rw [cells_Mk] at hlen
  obtain ⟨_, y0, h0⟩ := trod_field hu h 0 (by omega) f0
  obtain ⟨_, y1, h1⟩ := trod_field hu h 1 (by omega) f1
  obtain ⟨_, y2, h2⟩ := trod_field hu h 2 (by omega) f2
  rw [cells_i] at h0
  rw [cells_64] at h1
  rw [cells_seal] at h2
  obtain ⟨i, k0, _, w0⟩ := DataW.trod_int Try.underlying3 h0
  obtain ⟨t, k1, _, w1⟩ := DataW.trod_int Try.underlying25 h1
  obtain ⟨l, hl, k2⟩ := trod_bytes Try.underlying48 cells_seal h2
  refine ⟨⟨i, t, l⟩, ⟨wf_i64 w0, wf_u64 w1, hl⟩, ?_⟩
  have e2 : cs.drop 2 = bv l := by rw [← k2]; exact (List.take_of_length_le (by simp [hlen])).symm
  have e0 := one_at k0
  have e1 := one_at k1
  match cs, e0, e1, e2 with
  | a :: b :: r, e0, e1, e2 =>
    simp at e0 e1 e2
    simp [Mk.cl, e0, e1, e2]
theorem list_of {α : Type} {P : Nat → α → Prop} : ∀ {n : Nat}, (∀ i, i < n → ∃ a, P i a) → ∃ l : List α, l.length = n ∧ ∀ (i : Nat) (h : i < l.length), P i l[i]
  | 0, _ => ⟨[], rfl, fun i h => absurd h (by simp)⟩
  | n + 1, h => by
    obtain ⟨l, hl, hp⟩ := list_of (n := n) fun i hi => h i (by omega)
    obtain ⟨a, ha⟩ := h n (by omega)
    refine ⟨l ++ [a], by simp [hl], fun i hi => ?_⟩
    rcases Nat.lt_or_ge i l.length with h1 | h1
    · rw [List.getElem_append_left h1]; exact hp i h1
    · have e : i = n := by simp at hi; omega
      subst e
      rw [List.getElem_append_right h1]
      simpa using ha
theorem mk_inv : ∀ (ms : List Mk), (∀ m ∈ ms, m.ok) → ∀ (j : Nat) (u : Value), (ms.flatMap Mk.cl)[j]? = some u → ∃ i r, ∃ h : i < ms.length, j = 18 * i + r ∧ r < 18 ∧ (ms[i]).cl[r]? = some u
  | [], _, j, u, h => by simp at h
  | m :: ms, hm, j, u, h => by
    have hl := m.cl_len (hm m (List.mem_cons_self ..))
    rw [List.flatMap_cons] at h
    rcases Nat.lt_or_ge j 18 with hj | hj
    · rw [List.getElem?_append_left (by omega)] at h
      exact ⟨0, j, by simp, by omega, hj, h⟩
    · rw [List.getElem?_append_right (by omega), hl] at h
      obtain ⟨i, r, hi, e, hr, hu⟩ := mk_inv ms (fun q hq => hm q (List.mem_cons_of_mem _ hq)) _ u h
      exact ⟨i + 1, r, by simpa using hi, by omega, hr, by simpa using hu⟩
theorem add_add_18 (ad : Addr) (k j : Nat) : (ad.add (k * 18)).add j = ad.add (18 * k + j) := by
  rw [show 18 * k + j = k * 18 + j by omega]
  unfold Addr.add
  split <;> split <;> simp_all <;> omega
def crtTs : List TypeId := [25, 3] ++ (List.replicate 32 5 ++ ([28] ++ []))
theorem open_crt {base : Nat} {v : Value} {d : DataW H} {p : List MemPlace} (hv : Value.okWide Try.prog W .any base 30 v) (ht : DataW.Trod enc Try.prog W 0 sp held 30 v d p) :
    ∃ x : Crt, x.ok ∧ x.at W ∧ v = .agg x.cl.toArray := by
  simp only [Value.okWide, Try.underlying30] at hv
  obtain ⟨cs, rfl, hsz, ts, hts, _, hall⟩ := hv
  have e1 : Try.prog.cellTypes Try.prog.depth 30 = some crtTs := by kernel_rfl
  have e2 : Try.prog.cellsOf 30 = 35 := by kernel_rfl
  have e3 : crtTs.length = 35 := by decide
  rw [e2] at hsz
  have e4 : ts = crtTs := Option.some.inj (hts.symm.trans e1)
  subst e4
  have ha : All2 (OkC W base) crtTs cs.toList := All2.of (by rw [e3]; simp [hsz]) fun i v hv => by
    have hv' : cs[i]? = some v := by simpa using hv
    obtain ⟨u, hu, hc⟩ := hall i v hv'
    have hi : i < 35 := by
      have := (Array.getElem?_eq_some_iff.1 hv').1
      omega
    rw [e3, Nat.mod_eq_of_lt hi] at hu
    exact ⟨u, hu, hc⟩
  obtain ⟨v1, r1, hcs, h1, t2⟩ := All2.cons (ts := [3] ++ _) ha
  obtain ⟨n1, rfl, k1⟩ := okc_u64 Try.underlying25 h1
  obtain ⟨v2, r2, rfl, h2, t3⟩ := All2.cons (ts := List.replicate 32 5 ++ _) t2
  obtain ⟨n2, rfl, k2⟩ := okc_i64 Try.underlying3 h2
  obtain ⟨l, r3, hl, rfl, t4⟩ := okc_bytes Try.underlying5 t3
  obtain ⟨v4, r4, rfl, h4, t5⟩ := All2.cons t4
  obtain rfl := All2.nil t5
  -- the marks
  obtain ⟨fuel, hf⟩ := ht
  obtain ⟨fs, hu, hs, f3⟩ := fields_Crt
  obtain ⟨_, y, hy⟩ := trod_field hu hf 3 (by omega) f3
  rw [cells_sl] at hy
  have e5 : ((Value.agg cs).cells.toList.drop 34).take 1 = [v4] := by
    show (cs.toList.drop 34).take 1 = [v4]
    rw [hcs]
    have : (bv l).length = 32 := by rw [bv_length, hl]
    rw [show (Value.int .u64 n1 :: Value.int .i64 n2 :: (bv l ++ [v4])) = ([Value.int .u64 n1, Value.int .i64 n2] ++ bv l) ++ [v4] by simp, List.drop_append, List.drop_of_length_le (by simp [this])]
    simp [this]
  rw [e5] at hy
  have hv' : cs = (([Value.int .u64 n1, Value.int .i64 n2] ++ bv l) ++ [v4]).toArray := by
    apply Array.ext'
    rw [hcs]
    simp
  rcases DataW.trod_slice Try.underlying28 hy with ⟨hn, _⟩ | ⟨a, len, cap, elems, rest, m, _, hc, _, _, _, _, hel, hE, _, _⟩
  · injection hn with hn _
    subst hn
    exact ⟨⟨n1, n2, l, none, 0, 0, []⟩, ⟨k1, k2, hl, rfl, fun m hm => by cases hm⟩, Rd.nil _ _, by rw [hv']; rfl⟩
  · injection hc with hc _
    subst hc
    have hms : ∀ i, i < len → ∃ q : Mk, q.ok ∧ ∀ r u, q.cl[r]? = some u → W.cell? (a.add (18 * i + r)) = some u := fun i hi => by
      have h := hE i hi
      rw [List.getElem?_eq_getElem (by omega), cells_Mk] at h
      simp only [Option.bind_eq_some_iff] at h
      obtain ⟨mc, hmc, htr⟩ := h
      obtain ⟨q, hq, rfl⟩ := open_mk htr
      refine ⟨q, hq, fun r u hr => ?_⟩
      unfold World.cells? at hmc
      rw [if_pos (Nat.zero_le _)] at hmc
      have hr18 : r < 18 := by rw [← q.cl_len hq]; exact (List.getElem?_eq_some_iff.1 hr).1
      have := mapM_some_get hmc r r (by simp [hr18])
      rw [hr, add_add_18] at this
      exact this
    obtain ⟨ms, hml, hmp⟩ := list_of hms
    have hmo : ∀ q ∈ ms, q.ok := fun q hq => by
      obtain ⟨i, hi, rfl⟩ := List.getElem_of_mem hq
      exact (hmp i hi).1
    refine ⟨⟨n1, n2, l, some a, len, cap, ms⟩, ⟨k1, k2, hl, hml.symm, hmo⟩, ?_, by rw [hv']; rfl⟩
    intro j u hj
    obtain ⟨i, r, hi, rfl, hr, hu⟩ := mk_inv ms hmo j u hj
    exact ⟨a, rfl, (hmp i hi).2 r u hu⟩
end
end Go.Proofs.Ytnfffipkgaobhaa
namespace Go.Proofs.Ytnfffipkgaobhaa
set_option linter.unusedSimpArgs false
set_option linter.unusedVariables false
open Go.RowKit
set_option maxRecDepth 100000

def leafH (b : List UInt8) : List UInt8 := sha (0 :: b)
def innerH (l r : List UInt8) : List UInt8 := sha (1 :: (l ++ r))
def spl (n : Nat) : Nat := 2 ^ Nat.log2 (n - 1)
theorem spl_lt {n : Nat} (h : 2 ≤ n) : spl n < n := by
  have := Nat.log2_self_le (n := n - 1) (by omega)
  unfold spl; omega
theorem spl_pos (n : Nat) : 1 ≤ spl n := Nat.one_le_two_pow
theorem spl_is {n j : Nat} (h1 : 2 ^ j < n) (h2 : n ≤ 2 ^ (j + 1)) : spl n = 2 ^ j := by
  unfold spl
  have : Nat.log2 (n - 1) = j := (Nat.log2_eq_iff (by omega)).2 ⟨by omega, by omega⟩
  rw [this]
def topF : Nat → List (List UInt8) → List UInt8
  | 0, _ => sha []
  | f + 1, ls => if ls.length = 0 then sha [] else if ls.length = 1 then ls.headD [] else innerH (topF f (ls.take (spl ls.length))) (topF f (ls.drop (spl ls.length)))
def topH (ls : List (List UInt8)) : List UInt8 := topF ls.length ls
theorem topF_eq : ∀ (f g : Nat) (ls : List (List UInt8)), ls.length ≤ f → ls.length ≤ g → topF f ls = topF g ls
  | 0, 0, _, _, _ => rfl
  | 0, g + 1, ls, h, _ => by simp [topF, show ls.length = 0 by omega]
  | f + 1, 0, ls, _, h => by simp [topF, show ls.length = 0 by omega]
  | f + 1, g + 1, ls, hf, hg => by
    unfold topF
    by_cases h0 : ls.length = 0
    · rw [if_pos h0, if_pos h0]
    · rw [if_neg h0, if_neg h0]
      by_cases h1 : ls.length = 1
      · rw [if_pos h1, if_pos h1]
      · rw [if_neg h1, if_neg h1]
        have hs := spl_lt (n := ls.length) (by omega)
        have hp := spl_pos ls.length
        rw [topF_eq f g (ls.take (spl ls.length)) (by simp; omega) (by simp; omega), topF_eq f g (ls.drop (spl ls.length)) (by simp; omega) (by simp; omega)]
theorem topH_nil : topH [] = sha [] := rfl
theorem topH_one (x : List UInt8) : topH [x] = x := by simp [topH, topF]
theorem topH_two {ls : List (List UInt8)} (h : 2 ≤ ls.length) : topH ls = innerH (topH (ls.take (spl ls.length))) (topH (ls.drop (spl ls.length))) := by
  have hs := spl_lt h
  have hp := spl_pos ls.length
  unfold topH
  obtain ⟨f, hf⟩ : ∃ f, ls.length = f + 1 := ⟨ls.length - 1, by omega⟩
  conv => lhs; rw [hf, topF]
  rw [if_neg (by omega), if_neg (by omega)]
  rw [topF_eq f (ls.take (spl ls.length)).length (ls.take (spl ls.length)) (by simp; omega) (Nat.le_refl _), topF_eq f (ls.drop (spl ls.length)).length (ls.drop (spl ls.length)) (by simp; omega) (Nat.le_refl _)]
theorem topH_len : ∀ (f : Nat) (ls : List (List UInt8)), ls.length ≤ f → (∀ l ∈ ls, l.length = 32) → (topH ls).length = 32
  | 0, ls, h, _ => by rw [List.eq_nil_of_length_eq_zero (by omega : ls.length = 0)]; exact sha_len _
  | f + 1, ls, h, ha => by
    match ls, h, ha with
    | [], _, _ => exact sha_len _
    | [x], _, ha => rw [topH_one]; exact ha x (by simp)
    | x :: y :: r, h, ha => rw [topH_two (by simp)]; exact sha_len _
def le8 (n : Nat) : List UInt8 := (List.range 8).map fun i => UInt8.ofNat (n / 2 ^ (8 * i))
theorem le8_len (n : Nat) : (le8 n).length = 8 := by simp [le8]
def rootH (n : Nat) (t : List UInt8) : List UInt8 := sha (2 :: (le8 n ++ t))
def rootOf (items : List (List UInt8)) : List UInt8 := rootH items.length (topH (items.map leafH))

end Go.Proofs.Ytnfffipkgaobhaa
namespace Go.Proofs.Ytnfffipkgaobhaa
set_option linter.unusedSimpArgs false
set_option linter.unusedVariables false
open Go.RowKit
set_option maxRecDepth 100000
end Go.Proofs.Ytnfffipkgaobhaa
namespace Go.Proofs.Ytnfffipkgaobhaa
set_option linter.unusedSimpArgs false
set_option linter.unusedVariables false
open Go.RowKit
set_option maxRecDepth 100000

end Go.Proofs.Ytnfffipkgaobhaa

/-
  The document's own forms (assentref01, assentref04): a number in as few bytes as it needs, a text, a hash, a seal, pieces one behind the other: lists of bytes in new memory. Conditions: sizes below 2^46.
  The document's digest (assentref02.Sum): it is sha of the bytes. Conditions: the bytes lie in memory; there are not too many; the table of the rounds reads as it was laid.
  The digest of a letter and a form (id of package wire); TxId. Conditions: each number fits its kind; the tables read as they were laid.
-/
import Derived.Test.YtnfffipkgaobhaaMRef1
import Derived.Test.YtnfffipkgaobhaaM03
import Derived.Test.YtnfffipkgaobhaaM08
import Derived.Test.YtnfffipkgaobhaaMSha4
import Derived.Deep.DeepCutAuto
import Derived.Deep.CutBlock
namespace Go.Proofs.Ytnfffipkgaobhaa
set_option linter.unusedSimpArgs false
set_option linter.unusedVariables false
open Go.RowKit
set_option maxRecDepth 100000

theorem info_u8' : ∃ i0, Try.prog.info? 5 = some i0 ∧ i0.zero = some (.int .u8 0) ∧ i0.size = 1 ∧ i0.bytes = 1 := info_parts info_u8

theorem Bs.nil (w : World) (B : Nat) : Bs w B (.slice none 0 0) [] := World.ownsRow_nil _ _ _ _
theorem Bs.made (w : World) (B : Nat) (cs : Array Value) (l : List UInt8) (h : cs.toList = bv l) (hB : B ≤ w.heap.size) (hl : l.length ≤ reach47) : Bs (w.alloc (.cells cs 5)) B (.slice (some ⟨w.heap.size, 0, none⟩) l.length l.length) l := by
  have hsz : cs.size = l.length := by rw [← Array.length_toList, h, bv_length]
  have := World.ownsRow_lit (base := B) (e := 5) (size := 1) w cs l.length hB (by unfold reach47 at hl; unfold maxLen; omega) (by rw [hsz, Nat.mul_one])
  rw [h] at this
  exact this
theorem Bs.alloc {w : World} {B : Nat} {v : Value} {l : List UInt8} (h : Bs w B v l) (o : Obj) : Bs (w.alloc o) B v l := World.ownsRow.alloc h o
theorem Bs.blk {w : World} {B : Nat} {v : Value} {l : List UInt8} (h : Bs w B v l) : ∀ k, v.ownBlock = some k → B ≤ k := fun k hk => (own_row h k hk).1
theorem below_app {w0 w w' : World} {B : Nat} {sv : Value} {l : List UInt8} (h : Below B w0 w) (hs : Bs w B sv l) (hg : w.grownBy w' sv.ownBlock) (hB : B ≤ w.heap.size) : Below B w0 w' := h.grown hg hB hs.blk

theorem wrap_byte128 (m : Nat) : ((m : Int) % 128 + 128) % 256 = ((UInt8.ofNat (m % 128 + 128)).toNat : Int) := by rw [byte_of]; omega

theorem info_seal : (Try.prog.info? 48).map (·.size) = some 16 := by kernel_rfl
end Go.Proofs.Ytnfffipkgaobhaa
namespace Go.Proofs.Ytnfffipkgaobhaa
set_option linter.unusedSimpArgs false
set_option linter.unusedVariables false
open Go.RowKit
set_option maxRecDepth 100000

theorem Bs.apart {w w' : World} {B g : Nat} {v : Value} {l : List UInt8} {cs : Array Value} {t : TypeId} (h : Bs w B v l) (hg : w.grownBy w' (some g)) (hk : Bk w g cs t) (ht : 5 ≠ t) : Bs w' B v l := by
  have hne := own_ne_bk h hk ht
  refine ⟨h.1, h.2.imp id ?_⟩
  rintro ⟨g', cap, cur, hv, hb, hh, rest⟩
  refine ⟨g', cap, cur, hv, hb, (hg.block g' (Array.getElem?_eq_some_iff.1 hh).1 (fun e => hne (by rw [hv]; simp [Value.ownBlock]; injection e with e))).trans hh, rest⟩
theorem own_cap {w : World} {B n c : Nat} {A : Option Addr} {l : List UInt8} (h : Bs w B (.slice A n c) l) : n ≤ c := by
  obtain ⟨A', c', e⟩ := h.form
  injection e with e1 e2 e3
  rcases h.2 with ⟨hv, hn⟩ | ⟨g', cap, cur, hv, _, _, hc, _⟩
  · injection hv with a1 a2 a3; omega
  · injection hv with a1 a2 a3; omega
theorem eat_next {s : S8} {l : List UInt8} {k : Nat} (h : 64 * k + 64 ≤ l.length) : eat comp s (l.take (64 * (k + 1))) = comp (eat comp s (l.take (64 * k))) ((l.drop (64 * k)).take 64) := by
  have e : l.take (64 * (k + 1)) = l.take (64 * k) ++ (l.drop (64 * k)).take 64 := by
    rw [show 64 * (k + 1) = 64 * k + 64 by omega, List.take_add]
  rw [e, eat_app k s _ _ (by rw [List.length_take]; omega)]
  have hl : ((l.drop (64 * k)).take 64).length = 64 := by rw [List.length_take, List.length_drop]; omega
  generalize (l.drop (64 * k)).take 64 = c at hl ⊢
  have t1 : c.take 64 = c := List.take_of_length_le (by omega)
  have t2 : c.drop 64 = [] := List.drop_eq_nil_of_le (by omega)
  rw [eat_step (l := c) (by omega), t1, t2, eat_short (l := []) (by simp)]
theorem take_rd {w : World} {A : Option Addr} {b : List UInt8} {n : Nat} (h : Rd w A (bv b)) : Rd w A (bv (b.take n)) := fun j u hu => h j u (bv_take rfl hu)
theorem cells8 {w : World} {b : Nat} {s : S8} {t : TypeId} (h : Bk w b (uv s.list).toArray t) : w.cell? ⟨b, 0, none⟩ = some (.int .u32 (uI s.a)) ∧ w.cell? ⟨b, 1, none⟩ = some (.int .u32 (uI s.b)) ∧ w.cell? ⟨b, 2, none⟩ = some (.int .u32 (uI s.c)) ∧ w.cell? ⟨b, 3, none⟩ = some (.int .u32 (uI s.d)) ∧ w.cell? ⟨b, 4, none⟩ = some (.int .u32 (uI s.e)) ∧ w.cell? ⟨b, 5, none⟩ = some (.int .u32 (uI s.f)) ∧ w.cell? ⟨b, 6, none⟩ = some (.int .u32 (uI s.g)) ∧ w.cell? ⟨b, 7, none⟩ = some (.int .u32 (uI s.h)) :=
  ⟨(h.cell 0).trans (state_0 s), (h.cell 1).trans (state_1 s), (h.cell 2).trans (state_2 s), (h.cell 3).trans (state_3 s), (h.cell 4).trans (state_4 s), (h.cell 5).trans (state_5 s), (h.cell 6).trans (state_6 s), (h.cell 7).trans (state_7 s)⟩

end Go.Proofs.Ytnfffipkgaobhaa
namespace Go.Proofs.Ytnfffipkgaobhaa
set_option linter.unusedSimpArgs false
set_option linter.unusedVariables false
open Go.RowKit
set_option maxRecDepth 100000

section
variable {P : Program}
theorem run_results_ct {fn : Func} {b c t : Nat} {tmps : Array Value} {ad : Addr} {v x : Value} {w : World} (hr : fn.results = #[.cell b t, .tmp c]) (ht : tmps.getD b undef = .pointer (some ad)) (hc : tmps.getD c undef = x) (hl : (loadVar t ad).run P w = .ok v w) :
    (results fn tmps).run P w = .ok (.tuple #[v, x]) w := by
  simp only [Array.getD_eq_getD_getElem?] at ht hc
  simp [results, hr, ht, hc, hl, asAddr, Sem.run_bind, Sem.run_pure]
theorem bodyPost_ct {fn : Func} {R : Ending → World → Prop} {act : Act} {w : World} {b c t n g : Nat} {x : Value} {cs : Array Value} {bt : TypeId} {d : TypeDesc} (hr : fn.results = #[.cell b t, .tmp c]) (ht : act.tmps.getD b undef = .pointer (some ⟨g, 0, none⟩)) (hc : act.tmps.getD c undef = x) (hk : Bk w g cs bt) (hu : P.underlying t = some d) (hda : aggD d = true) (hi : (P.info? t).map (·.size) = some n) (hn : n = cs.size) (hd : act.defers = []) (hR : R (.returned (.tuple #[.agg cs, x])) w) : bodyPost P fn R .ret act w := by
  have hl := run_loadVar_part (P := P) (off := 0) hk hu hda hi (by omega)
  have e : cs.extract 0 (0 + n) = cs := by subst hn; simp
  rw [e] at hl
  exact bodyPost_ret (run_results_ct hr ht hc hl) hd hR
end
theorem own_lt {w : World} {B n c : Nat} {A : Option Addr} {l : List UInt8} (h : Bs w B (.slice A n c) l) : ∀ ad, A = some ad → ad.block < w.heap.size := by
  intro ad ha
  rcases h.2 with ⟨hv, _⟩ | ⟨g', cap, cur, hv, _, hh, _⟩
  · injection hv with a1; rw [ha] at a1; cases a1
  · injection hv with a1
    rw [ha] at a1
    injection a1 with a1
    rw [a1]
    exact (Array.getElem?_eq_some_iff.1 hh).1
def hashOr (err : Int) (h : List UInt8) : List UInt8 := if err = 0 then h else zer 32
theorem hashOr_len {err : Int} {h : List UInt8} (hl : h.length = 32) : (hashOr err h).length = 32 := by
  unfold hashOr; split
  · exact hl
  · rfl
def HashRes (w : World) (err : Int) (h : List UInt8) (e : Ending) (w' : World) : Prop :=
  Below w.heap.size w w' ∧ e = .returned (.tuple #[.agg (bv (hashOr err h)).toArray, .int .i64 err])
theorem bv_sz {l : List UInt8} {n : Nat} (h : l.length = n) : (bv l).toArray.size = n := by rw [List.size_toArray, bv_length, h]
theorem built_hash : Try.prog.built 27 [] = some (bv (zer 32)).toArray := by kernel_rfl

theorem hashOr_err {err : Int} {h h' : List UInt8} (he : err ≠ 0) : hashOr err h = hashOr err h' := by unfold hashOr; rw [if_neg he, if_neg he]
def idTx (x : Tx) : List UInt8 := sha (16 :: formTx x)
theorem formTx_len {x : Tx} (hx : x.ok) (hp : plainTx x = 0) : (formTx x).length ≤ 300 := by
  have h1 := encTx_len hx (txB hp)
  have h2 := hx.sl
  unfold formTx
  rw [List.length_append]; omega

end Go.Proofs.Ytnfffipkgaobhaa

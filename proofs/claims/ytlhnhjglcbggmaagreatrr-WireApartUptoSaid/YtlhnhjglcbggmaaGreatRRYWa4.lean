/-
  The statement WireApart, where what it reads is of bulk at most 1048576: for whatever two things the Go function returns true, and its arguments read behind the call as before. No condition beyond the statement's own.
-/
import Derived.WalkKit
import Derived.ProofKit
import Derived.OpenShut
import Derived.JoinedCond
import Derived.Test.YtlhnhjglcbggmaaGreatRRYWa3
import Derived.Test.YtlhnhjglcbggmaaGreatRRRows
namespace Go.Proofs.YtlhnhjglcbggmaaGreatRR.wireApart
set_option linter.unusedSimpArgs false
set_option linter.unusedVariables false
open Go.ChangeShapes Go.WideShapes Go.ChangeAt Go.RowKit
set_option maxRecDepth 100000

theorem own : ownKnob Tryz.prog.godebug = none := by kernel_rfl
theorem laidOut : laidOutB Tryz.prog = true := by kernel_rfl
def zeroSt : Sta := ⟨ByteArray.empty, ⟨0, 0, 0, 0, 0, 0, 0, 0, 0, 0, 0, 0⟩, 0, 0, zer 32, ⟨none, 0, 0, []⟩, ⟨none, 0, 0, []⟩, none, 0, 0, [], none, 0, 0, [], none, 0, 0, [], none, 0, 0, [], 0, 0⟩
def zeroTh : Thg := ⟨0, zeroT, zeroV, zeroP, zeroCt, zeroE, zeroH, zeroBk, ⟨0, zeroPr⟩, ⟨0, 0, zeroPr⟩, zeroSt⟩

theorem open_Th {H : Type} {enc : TypeId × Value → H} {W : World} {sp : Nat → Bool} {held : Bool} {base : Nat} {v : Value} {d : DataW H} {p : List MemPlace} (hv : Value.okWide Tryz.prog W .any base 64 v) (ht : DataW.Trod enc Tryz.prog W 0 sp held 64 v d p) (hb : LightB 1048576 d) :
  ∃ x : Thg, x.ok ∧ x.at W ∧ x.lim 1048576 ∧ v = .agg x.cl.toArray := by
 simp only [Value.okWide, Tryz.underlying64] at hv
 obtain ⟨cs, rfl, hsz, _⟩ := hv
 obtain ⟨fuel, hf⟩ := ht
 obtain ⟨x, ⟨hx, hat, hlim⟩, hcs⟩ := td_Th hf hb (Nat.le_refl _)
 refine ⟨x, hx, hat, hlim, ?_⟩
 congr 1
 apply Array.ext'
 exact hcs
def zin : Input := ⟨#[], #[.agg zeroTh.cl.toArray, .agg zeroTh.cl.toArray], []⟩
theorem w_vars (os : Os) : (World.plainHolding Tryz.checked.prog os zin).variablesB Tryz.checked.prog = true := by kernel_rfl
theorem w_heap (os : Os) : ((World.plainHolding Tryz.checked.prog os zin).heap.toList.drop Tryz.checked.prog.globals.size).take ((begin Tryz.checked.prog (fun _ _ => 0) default).world.heap.size - Tryz.checked.prog.globals.size) =
   (begin Tryz.checked.prog (fun _ _ => 0) default).world.heap.toList.drop Tryz.checked.prog.globals.size := by kernel_rfl
theorem row_zip {P : Program} {w : World} {t : TypeId} {ts : List TypeId} {cs : Array Value} (hts : P.cellTypes P.depth t = some ts) (hl : cs.size = ts.length) (h : ((ts.zip cs.toList).all fun x => Cell.okWideB P w x.1 x.2) = true) : Cell.okWideRowB P w t cs = true := by
 unfold Cell.okWideRowB
 rw [hts]
 simp only [hl, Nat.mod_self, beq_self_eq_true, Bool.true_and, List.all_eq_true, List.mem_range]
 intro i hi
 have hi2 : i < cs.toList.length := by rw [Array.length_toList, hl]; exact hi
 rw [Nat.mod_eq_of_lt hi, List.getElem?_eq_getElem hi, show cs[i]? = some (cs.toList[i]'hi2) by rw [← Array.getElem?_toList, List.getElem?_eq_getElem hi2]]
 have hz : (ts[i], cs.toList[i]'hi2) ∈ ts.zip cs.toList := by
  have hlz : i < (ts.zip cs.toList).length := by rw [List.length_zip]; omega
  have := List.getElem_mem hlz
  rwa [List.getElem_zip] at this
 exact List.all_eq_true.1 h _ hz
noncomputable def thTs : List TypeId := (Tryz.checked.prog.cellTypes Tryz.checked.prog.depth 64).getD []
theorem w_ts : Tryz.checked.prog.cellTypes Tryz.checked.prog.depth 64 = some thTs := by kernel_rfl
theorem w_sz : zeroTh.cl.toArray.size = thTs.length := by kernel_rfl
theorem w_cells (os : Os) : ((thTs.zip zeroTh.cl.toArray.toList).all fun x => Cell.okWideB Tryz.checked.prog (World.plainHolding Tryz.checked.prog os zin) x.1 x.2) = true := by kernel_rfl
theorem w_val (os : Os) : Value.okWideB Tryz.checked.prog (World.plainHolding Tryz.checked.prog os zin) 64 (.agg zeroTh.cl.toArray) = true := by
 have hu : ∃ fs, Tryz.checked.prog.underlying 64 = some (.struct fs) := ⟨_, Tryz.underlying64⟩
 obtain ⟨fs, hu⟩ := hu
 unfold Value.okWideB
 rw [hu]
 show ((zeroTh.cl.toArray.size == Tryz.checked.prog.cellsOf 64) && Cell.okWideRowB Tryz.checked.prog (World.plainHolding Tryz.checked.prog os zin) 64 zeroTh.cl.toArray) = true
 rw [row_zip w_ts w_sz (w_cells os), Bool.and_true]
 kernel_rfl
theorem w_ok (os : Os) : Input.okWideB Tryz.checked.prog (World.plainHolding Tryz.checked.prog os zin) 3 ⟨#[], zin.args, []⟩ = true := by
 have hf : Tryz.checked.prog.funcs[3]? = some Tryz.f3 := Tryz.func3
 have h1 : (Tryz.checked.prog.inits.idxOf? 3).isNone = true := by kernel_rfl
 have h2 : (Tryz.f3.body.isSome && !Tryz.f3.ours && Tryz.f3.nfree == 0 && 2 == Tryz.f3.params.size) = true := by kernel_rfl
 unfold Input.okWideB
 rw [hf]
 simp only [h1, Bool.and_true]
 rw [show (zin.args.size) = 2 from rfl, h2, Tryz.params3]
 show ((true && true) && (true && (List.range 2).all _)) = true
 rw [show List.range 2 = [0, 1] from rfl]
 simp only [List.all_cons, List.all_nil, Bool.and_true, Bool.true_and]
 exact (Bool.and_eq_true _ _).mpr ⟨w_val os, w_val os⟩
theorem w_some {H : Type} (enc : TypeId × Value → H) (os : Os) : (DataW.whole enc Tryz.checked.prog (World.plainHolding Tryz.checked.prog os zin).memory Tryz.f3.params.toList (Rows.OpenSpec.upto Rows.wireApartSpec).vars false zin.args.toList 12).isSome = true := by kernel_rfl
theorem w_bulk {H : Type} (enc : TypeId × Value → H) (os : Os) : Rows.uptoSmall H ((Option.get _ (w_some enc os)).1 ++ (Option.get _ (w_some enc os)).2.1) = true := by kernel_rfl
theorem w_sized {H : Type} (enc : TypeId × Value → H) (os : Os) : (Rows.OpenSpec.upto Rows.wireApartSpec).bare.sizedB enc Tryz.checked.prog Tryz.f3 false (World.plainHolding Tryz.checked.prog os zin).memory zin.args 12 = true := by kernel_rfl
theorem lifted (os : Os) (started : os.Started) (H : Type) (enc : TypeId × Value → H) (F : Stop.Interp) :
  ReturnsInHanded {} Tryz.checked os 3 .any ((Rows.OpenSpec.upto Rows.wireApartSpec).pre6 enc Tryz.prog Tryz.f3 Rows.wireApartUptoRow.domain false) (((Rows.OpenSpec.upto Rows.wireApartSpec).at F).post enc Tryz.prog Tryz.f3 false true false false) := by
 refine returnsInHanded_of_cond (C := Tryz.checked) (s := Rows.OpenSpec.upto Rows.wireApartSpec) (k := Rows.uptoSmall) rfl own started (by kernel_rfl) Tryz.func3
  (OpenSpec.witness (enc := enc) (C := Tryz.checked) (s := Rows.OpenSpec.upto Rows.wireApartSpec) (k := Rows.uptoSmall) rfl false zin 12 (w_vars os) (w_heap os) (w_ok os)
   (x := Option.get _ (w_some enc os)) (Option.some_get (w_some enc os)).symm (by kernel_rfl) (w_bulk enc os) (w_sized enc os)) ?_
 intro W base args ds gs before hval0 hW hcnd hk _
 have hval : ∀ (j : Nat) t v, Tryz.f3.params[j]? = some t → args[j]? = some v → Value.okWide Tryz.prog W .any base t v := hval0
 have hW' := hW
 obtain ⟨p, q, hA0, hV, rfl, hfz, hnd⟩ := hW
 have hA : DataW.TrodAll enc Tryz.prog W 0 (fun _ => true) true Tryz.f3.params.toList args.toList ds p := hA0
 rw [Tryz.params3] at hA hval
 obtain ⟨v0, vs0, d0, ds0, p0, q0, hargs, rfl, rfl, h0, r0⟩ := trodAll_cons hA
 obtain ⟨v1, vs1, d1, ds1, p1, q1, rfl, rfl, rfl, h1, r1⟩ := trodAll_cons r0
 obtain ⟨rfl, rfl, rfl⟩ := trodAll_nil r1
 obtain rfl : args = #[v0, v1] := by cases args; simp_all
 obtain ⟨rfl, rfl⟩ := trodVars_none hV
 have k0 := h0
 have k1 := h1
 have lt1 : ∀ x ∈ p1, x.block < W.heap.size := by obtain ⟨m, hm⟩ := k1; exact DataW.trod_lt m _ _ _ hm
 have lt0 : ∀ x ∈ p0, x.block < W.heap.size := by obtain ⟨m, hm⟩ := k0; exact DataW.trod_lt m _ _ _ hm
 have hbb : LightB 1048576 d0 ∧ LightB 1048576 d1 := by
  have h : Rows.uptoBulkAll ([d0, d1] ++ []) ≤ 1048576 := of_decide_eq_true hk
  simp only [List.append_nil, Rows.uptoBulkAll] at h
  unfold LightB
  omega
 obtain ⟨x, hx, hat, hlim, rfl⟩ := open_Th (hval 0 64 v0 rfl rfl) h0 hbb.1
 obtain ⟨y, hy, hay, hlm, rfl⟩ := open_Th (hval 1 64 v1 rfl rfl) h1 hbb.2
 clear hA0 hval0 hbb
 refine (WireApart_walk W x y hx hy hat hay ⟨Nat.le_trans hlim.st.o (by decide), Nat.le_trans hlim.st.r (by decide), Nat.le_trans hlim.st.p (by decide)⟩ ⟨Nat.le_trans hlm.st.o (by decide), Nat.le_trans hlm.st.r (by decide), Nat.le_trans hlm.st.p (by decide)⟩ (Nat.le_trans hlim.crt (by decide))).mono fun e W' ⟨he, bel⟩ => ?_
 subst he
 exact ⟨_, rfl, _, _, _, [], _, [], hW', trodAll_mk1 (shut_bool Tryz.underlying4 _), (trodAll_cons_mk (Below.trod laidOut (by kernel_rfl) (of_decide_eq_true (by kernel_rfl)) k0 bel lt0) (trodAll_cons_mk (Below.trod laidOut (by kernel_rfl) (of_decide_eq_true (by kernel_rfl)) k1 bel lt1) trodAll_mk0)), rfl, bel.frame _, fun h => by cases h⟩

theorem over : Rows.wireApartUptoRow.holds Tryz.pinned (Rows.OpenSpec.upto Rows.wireApartSpec) :=
 OpenClaim.holds_of_cond 3 Tryz.f3 rfl rfl rfl rfl rfl rfl rfl ⟨rfl, rfl, rfl, rfl, rfl⟩ rfl rfl rfl rfl rfl (by kernel_rfl) Tryz.func3 (by kernel_rfl)
  (of_decide_eq_true (by kernel_rfl)) (by unfold Func.isWrapper; first | (rw [if_pos (by decide +kernel)]; kernel_rfl) | (rw [if_neg (by decide +kernel)]; exact ⟨rfl, rfl⟩))
  (fun os started H enc _ F => lifted os started H enc F)

/-- the statement -/
theorem proved : Rows.WireApartUptoSaid := over
#print axioms proved
end Go.Proofs.YtlhnhjglcbggmaaGreatRR.wireApart

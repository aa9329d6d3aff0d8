/-
  The statement WireSmall, where what it reads is of bulk at most 1048576: for whatever thing the Go function returns true, and its argument reads behind the call as before. No condition beyond the statement's own.
-/
import Derived.WalkKit
import Derived.ProofKit
import Derived.OpenShut
import Derived.JoinedCond
import Derived.Test.YtlhnhjglcbggmaaGreatRRW38
import Derived.Test.YtlhnhjglcbggmaaGreatRRRows
namespace Go.Proofs.YtlhnhjglcbggmaaGreatRR.wireSmall
set_option linter.unusedSimpArgs false
set_option linter.unusedVariables false
open Go.ChangeShapes Go.WideShapes Go.ChangeAt Go.RowKit
set_option maxRecDepth 100000

theorem own : ownKnob Tryz.prog.godebug = none := by kernel_rfl
theorem laidOut : laidOutB Tryz.prog = true := by kernel_rfl
def zeroSt : Sta := ⟨ByteArray.empty, ⟨0, 0, 0, 0, 0, 0, 0, 0, 0, 0, 0, 0⟩, 0, 0, zer 32, ⟨none, 0, 0, []⟩, ⟨none, 0, 0, []⟩, none, 0, 0, [], none, 0, 0, [], none, 0, 0, [], none, 0, 0, [], 0, 0⟩
def zeroTh : Thg := ⟨0, zeroT, zeroV, zeroP, zeroCt, zeroE, zeroH, zeroBk, ⟨0, zeroPr⟩, ⟨0, 0, zeroPr⟩, zeroSt⟩

theorem open_Th {H : Type} {enc : TypeId × Value → H} {W : World} {sp : Nat → Bool} {held : Bool} {base : Nat} {v : Value} {d : DataW H} {p : List MemPlace} (hv : Value.okWide Tryz.prog W .any base 64 v) (ht : DataW.Trod enc Tryz.prog W 0 sp held 64 v d p) (hb : LightB 1048576 d) :
    ∃ x : Thg, x.ok ∧ x.at W ∧ x.lim 1048576 ∧ v = .agg x.cl.toArray := by
  simp only [Value.okWide, Tryz.underlying64] at hv
  obtain ⟨cs, rfl, hsz, _⟩ := hv
  obtain ⟨fuel, hf⟩ := ht
  obtain ⟨x, ⟨hx, hat, hlim⟩, hcs⟩ := td_Th hf hb (Nat.le_refl _)
  refine ⟨x, hx, hat, hlim, ?_⟩
  congr 1
  apply Array.ext'
  exact hcs
def zin : Input := ⟨#[], #[.agg zeroTh.cl.toArray], []⟩
theorem w_vars (os : Os) : (World.plainHolding Tryz.checked.prog os zin).variablesB Tryz.checked.prog = true := by kernel_rfl
theorem w_heap (os : Os) : ((World.plainHolding Tryz.checked.prog os zin).heap.toList.drop Tryz.checked.prog.globals.size).take ((begin Tryz.checked.prog (fun _ _ => 0) default).world.heap.size - Tryz.checked.prog.globals.size) =
      (begin Tryz.checked.prog (fun _ _ => 0) default).world.heap.toList.drop Tryz.checked.prog.globals.size := by kernel_rfl
theorem row_zip {P : Program} {w : World} {t : TypeId} {ts : List TypeId} {cs : Array Value} (hts : P.cellTypes P.depth t = some ts) (hl : cs.size = ts.length) (h : ((ts.zip cs.toList).all fun x => Cell.okWideB P w x.1 x.2) = true) : Cell.okWideRowB P w t cs = true := by
  unfold Cell.okWideRowB
  rw [hts]
  simp only [hl, Nat.mod_self, beq_self_eq_true, Bool.true_and, List.all_eq_true, List.mem_range]
  intro i hi
  have hi2 : i < cs.toList.length := by rw [Array.length_toList, hl]; exact hi
  rw [Nat.mod_eq_of_lt hi, List.getElem?_eq_getElem hi, show cs[i]? = some (cs.toList[i]'hi2) by rw [← Array.getElem?_toList, List.getElem?_eq_getElem hi2]]
  have hz : (ts[i], cs.toList[i]'hi2) ∈ ts.zip cs.toList := by
    have hlz : i < (ts.zip cs.toList).length := by rw [List.length_zip]; omega
    have := List.getElem_mem hlz
    rwa [List.getElem_zip] at this
  exact List.all_eq_true.1 h _ hz
noncomputable def thTs : List TypeId := (Tryz.checked.prog.cellTypes Tryz.checked.prog.depth 64).getD []
theorem w_ts : Tryz.checked.prog.cellTypes Tryz.checked.prog.depth 64 = some thTs := by kernel_rfl
theorem w_sz : zeroTh.cl.toArray.size = thTs.length := by kernel_rfl
theorem w_cells (os : Os) : ((thTs.zip zeroTh.cl.toArray.toList).all fun x => Cell.okWideB Tryz.checked.prog (World.plainHolding Tryz.checked.prog os zin) x.1 x.2) = true := by kernel_rfl
theorem w_val (os : Os) : Value.okWideB Tryz.checked.prog (World.plainHolding Tryz.checked.prog os zin) 64 (.agg zeroTh.cl.toArray) = true := by
  have hu : ∃ fs, Tryz.checked.prog.underlying 64 = some (.struct fs) := ⟨_, Tryz.underlying64⟩
  obtain ⟨fs, hu⟩ := hu
  unfold Value.okWideB
  rw [hu]
  show ((zeroTh.cl.toArray.size == Tryz.checked.prog.cellsOf 64) && Cell.okWideRowB Tryz.checked.prog (World.plainHolding Tryz.checked.prog os zin) 64 zeroTh.cl.toArray) = true
  rw [row_zip w_ts w_sz (w_cells os), Bool.and_true]
  kernel_rfl
theorem w_ok (os : Os) : Input.okWideB Tryz.checked.prog (World.plainHolding Tryz.checked.prog os zin) 4 ⟨#[], zin.args, []⟩ = true := by
  have hf : Tryz.checked.prog.funcs[4]? = some Tryz.f4 := Tryz.func4
  have h1 : (Tryz.checked.prog.inits.idxOf? 4).isNone = true := by kernel_rfl
  have h2 : (Tryz.f4.body.isSome && !Tryz.f4.ours && Tryz.f4.nfree == 0 && 1 == Tryz.f4.params.size) = true := by kernel_rfl
  unfold Input.okWideB
  rw [hf]
  simp only [h1, Bool.and_true]
  rw [show (zin.args.size) = 1 from rfl, h2, Tryz.params4]
  show ((true && true) && (true && (List.range 1).all _)) = true
  rw [show List.range 1 = [0] from rfl]
  simp only [List.all_cons, List.all_nil, Bool.and_true, Bool.true_and]
  exact w_val os
theorem w_some {H : Type} (enc : TypeId × Value → H) (os : Os) : (DataW.whole enc Tryz.checked.prog (World.plainHolding Tryz.checked.prog os zin).memory Tryz.f4.params.toList (Rows.OpenSpec.upto Rows.wireSmallSpec).vars false zin.args.toList 12).isSome = true := by kernel_rfl
theorem w_bulk {H : Type} (enc : TypeId × Value → H) (os : Os) : Rows.uptoSmall H ((Option.get _ (w_some enc os)).1 ++ (Option.get _ (w_some enc os)).2.1) = true := by kernel_rfl
theorem w_sized {H : Type} (enc : TypeId × Value → H) (os : Os) : (Rows.OpenSpec.upto Rows.wireSmallSpec).bare.sizedB enc Tryz.checked.prog Tryz.f4 false (World.plainHolding Tryz.checked.prog os zin).memory zin.args 12 = true := by kernel_rfl
theorem lifted (os : Os) (started : os.Started) (H : Type) (enc : TypeId × Value → H) (F : Stop.Interp) :
    ReturnsInHanded {} Tryz.checked os 4 .any ((Rows.OpenSpec.upto Rows.wireSmallSpec).pre6 enc Tryz.prog Tryz.f4 Rows.wireSmallUptoRow.domain false) (((Rows.OpenSpec.upto Rows.wireSmallSpec).at F).post enc Tryz.prog Tryz.f4 false true false false) := by
  refine returnsInHanded_of_cond (C := Tryz.checked) (s := Rows.OpenSpec.upto Rows.wireSmallSpec) (k := Rows.uptoSmall) rfl own started (by kernel_rfl) Tryz.func4
    (OpenSpec.witness (enc := enc) (C := Tryz.checked) (s := Rows.OpenSpec.upto Rows.wireSmallSpec) (k := Rows.uptoSmall) rfl false zin 12 (w_vars os) (w_heap os) (w_ok os)
      (x := Option.get _ (w_some enc os)) (Option.some_get (w_some enc os)).symm (by kernel_rfl) (w_bulk enc os) (w_sized enc os)) ?_
  intro W base args ds gs before hval0 hW hcnd hk _
  have hval : ∀ (j : Nat) t v, Tryz.f4.params[j]? = some t → args[j]? = some v → Value.okWide Tryz.prog W .any base t v := hval0
  have hW' := hW
  obtain ⟨p, q, hA0, hV, rfl, hfz, hnd⟩ := hW
  have hA : DataW.TrodAll enc Tryz.prog W 0 (fun _ => true) true Tryz.f4.params.toList args.toList ds p := hA0
  rw [Tryz.params4] at hA hval
  obtain ⟨v0, vs0, d0, ds0, p0, q0, hargs, rfl, rfl, h0, r0⟩ := trodAll_cons hA
  obtain ⟨rfl, rfl, rfl⟩ := trodAll_nil r0
  obtain rfl : args = #[v0] := by cases args; simp_all
  obtain ⟨rfl, rfl⟩ := trodVars_none hV
  have k0 := h0
  have lt0 : ∀ x ∈ p0, x.block < W.heap.size := by obtain ⟨m, hm⟩ := k0; exact DataW.trod_lt m _ _ _ hm
  have hb0 : LightB 1048576 d0 := by
    have h : Rows.uptoBulkAll ([d0] ++ []) ≤ 1048576 := of_decide_eq_true hk
    simp only [List.append_nil, Rows.uptoBulkAll] at h
    unfold LightB
    omega
  obtain ⟨x, hx, hat, hlim, rfl⟩ := open_Th (hval 0 64 v0 rfl rfl) h0 hb0
  clear hA0 hval0 hb0
  refine (WireSmall_walk W x hx hat ⟨Nat.le_trans hlim.st.o (by decide), Nat.le_trans hlim.st.r (by decide), Nat.le_trans hlim.st.p (by decide)⟩).mono fun e W' ⟨he, bel⟩ => ?_
  subst he
  exact ⟨_, rfl, _, _, _, [], _, [], hW', trodAll_mk1 (shut_bool Tryz.underlying4 _), (trodAll_cons_mk (Below.trod laidOut (by kernel_rfl) (of_decide_eq_true (by kernel_rfl)) k0 bel lt0) trodAll_mk0), rfl, bel.frame _, fun h => by cases h⟩

theorem over : Rows.wireSmallUptoRow.holds Tryz.pinned (Rows.OpenSpec.upto Rows.wireSmallSpec) :=
  OpenClaim.holds_of_cond 4 Tryz.f4 rfl rfl rfl rfl rfl rfl rfl ⟨rfl, rfl, rfl, rfl, rfl⟩ rfl rfl rfl rfl rfl (by kernel_rfl) Tryz.func4 (by kernel_rfl)
    (of_decide_eq_true (by kernel_rfl)) (by unfold Func.isWrapper; first | (rw [if_pos (by decide +kernel)]; kernel_rfl) | (rw [if_neg (by decide +kernel)]; exact ⟨rfl, rfl⟩))
    (fun os started H enc _ F => lifted os started H enc F)

/-- the statement -/
theorem proved : Rows.WireSmallUptoSaid := over
#print axioms proved
end Go.Proofs.YtlhnhjglcbggmaaGreatRR.wireSmall

/- The row of the law FnWakes, out of its contract fnWakes_vc. Written by rowgenv.py (a program of this session's). No condition. -/
import Derived.Test.YteeklekfafedcaaRows
import Derived.Test.YteeklekfafedcaaW20
import Derived.Test.YteeklekfafedcaaV23
import Derived.Test.YteeklekfafedcaaOrd
import Derived.WalkKit
import Derived.ProofKit
import Derived.OpenShut
import Derived.ShutString
import Derived.ChangeOld
import Derived.Below
import Derived.SizedLaws
import Derived.Carry
namespace Go.Proofs.Yteeklekfafedcaa.fnWakes
open Go.ChangeShapes Go.WideShapes Go.ChangeAt Go.RowKit Go.Proofs.Yteeklekfafedcaa
set_option linter.unusedVariables false
set_option linter.unusedSimpArgs false
theorem own : ownKnob Try.prog.godebug = none := by kernel_rfl
theorem laidOut : laidOutB Try.prog = true := by kernel_rfl
set_option maxRecDepth 100000 in
set_option maxHeartbeats 4000000 in
theorem lifted (os : Os) (started : os.Started) (H : Type) (enc : TypeId × Value → H) :
    ReturnsInHanded {} Try.checked os 11 .any (Rows.fnWakesSpec.pre6 enc Try.prog Try.f11 Rows.fnWakesRow.domain false) (Rows.fnWakesSpec.post enc Try.prog Try.f11 false true false false) := by
  refine returnsInHanded_of_change_sized (C := Try.checked) own started (by kernel_rfl) Try.func11
    (ChangeSpec.witness6 (enc := enc) (C := Try.checked) false ⟨#[], #[.slice none 0 0], []⟩ 8 (by kernel_rfl) (by kernel_rfl) (by kernel_rfl) (by kernel_rfl)) ?_
  intro W base args ds gs before hval0 hW hcnd hsz0 _
  have hsz : (DataW.weightsEach Try.prog (Try.f11.params.toList ++ Rows.fnWakesSpec.plain.varTypes Try.prog) (ds ++ gs)).all (· ≤ reachBytes) = true := hsz0
  have hval : ∀ (j : Nat) t v, Try.f11.params[j]? = some t → args[j]? = some v → Value.okWide Try.prog W .any base t v := hval0
  have hW' := hW
  obtain ⟨p, q, hA0, hV, rfl, hfz, hnd⟩ := hW
  have hA : DataW.TrodAll enc Try.prog W 0 (fun _ => true) true Try.f11.params.toList args.toList ds p := hA0
  rw [Try.params11] at hA hval hsz
  obtain ⟨v0, vs0, d0, ds0, p0, q0, hargs, rfl, rfl, h0, r0⟩ := trodAll_cons hA
  obtain ⟨rfl, rfl, rfl⟩ := trodAll_nil r0
  obtain rfl : args = #[v0] := by cases args; simp_all
  obtain ⟨rfl, rfl⟩ := trodVars_none hV
  have k0 := h0
  have lt0 : ∀ x ∈ p0, x.block < W.heap.size := by obtain ⟨m, hm⟩ := k0; exact DataW.trod_lt m _ _ _ hm
  obtain ⟨a0, len0, cap0, rfl⟩ := okWide_slice Try.underlying58 (hval 0 58 v0 rfl rfl)
  obtain ⟨x0, g0, hw0⟩ := V.Reads.arg (s := (.sl 5 (.int .u8))) (agg := false) (V.reads_ok 9 58 _ (by kernel_rfl)) (by simp [V.mkV, Value.cells]) hsz (j := 0) (t := 58) rfl rfl h0
  clear hA0 hval0 hsz0 hsz
  refine (V.row_calls (vals := [.slice a0 len0 cap0]) (V.fnWakes_vc x0 hw0) (V.AAll.cons g0 (V.AAll.nil _ _))).mono fun e W' ⟨he, bel0⟩ => ?_
  have bel : Below W.heap.size W W' := bel0
  subst he
  exact ⟨_, rfl, _, _, _, [], _, [], hW', trodAll_mk1 (shut_bool Try.underlying4 _), (trodAll_cons_mk (Below.trod laidOut (by kernel_rfl) (of_decide_eq_true (by kernel_rfl)) k0 bel lt0) trodAll_mk0), rfl, bel.frame _, fun h => by cases h⟩
theorem named_ : Try.pinned.checked.prog.funcNamed Rows.fnWakesRow.func = some 11 := by kernel_rfl
theorem cl0 : (Rows.fnWakesRow.wf (OpenSpec.ofChange Rows.fnWakesSpec)) = true := by kernel_rfl
theorem cl3 : (Try.f11.params.all (Try.pinned.checked.prog.readableRec ·)) = true := by kernel_rfl
theorem cl4 : (namedTie Try.pinned.checked.prog Rows.fnWakesRow.named Rows.fnWakesSpec.vars) = true := by kernel_rfl
theorem cl5 : ((Rows.fnWakesRow.stops == [])) = true := by kernel_rfl
theorem cl7 : ((Rows.fnWakesRow.knobs == [])) = true := by kernel_rfl
theorem cl9 : ((Rows.fnWakesRow.inPlace == Try.pinned.checked.prog.inPlace 11)) = true := by kernel_rfl
theorem cl10 : ((Rows.fnWakesRow.unfollowed == Try.pinned.checked.prog.unfollowed 11)) = true := by kernel_rfl
theorem cl11 : ((Rows.fnWakesRow.recurses == Try.pinned.checked.prog.recurses 11)) = true := by kernel_rfl
theorem cl12 : ((Rows.fnWakesRow.named == Try.pinned.checked.prog.varsNamed 11)) = true := by kernel_rfl
theorem cl13 : ((Rows.fnWakesRow.maps == (Try.f11.params.toList ++ Rows.fnWakesSpec.plain.varTypes Try.pinned.checked.prog).any (Try.pinned.checked.prog.mapsRec ·))) = true := by kernel_rfl
theorem cl14 : ((Rows.fnWakesRow.ifaces == (Try.f11.params.toList ++ Rows.fnWakesSpec.plain.varTypes Try.pinned.checked.prog).any (Try.pinned.checked.prog.ifacesRec ·))) = true := by kernel_rfl
theorem cl15 : ((Rows.fnWakesRow.mapsOut == Try.pinned.checked.prog.mapsAmong Try.f11.resultTypes.toList)) = true := by kernel_rfl
theorem cl16 : ((Rows.fnWakesRow.loops == (Try.f11.params.toList ++ Rows.fnWakesSpec.plain.varTypes Try.pinned.checked.prog).any (Try.pinned.checked.prog.loopsFrom ·))) = true := by kernel_rfl
theorem cl17 : ((Rows.fnWakesRow.wideKeys == (Try.f11.params.toList ++ Rows.fnWakesSpec.plain.varTypes Try.pinned.checked.prog ++ Try.f11.resultTypes.toList).any (Try.pinned.checked.prog.wideKeysFrom ·))) = true := by kernel_rfl
theorem cl18 : (Rows.fnWakesSpec.vars.all (Try.pinned.checked.prog.varReadable ·)) = true := by kernel_rfl
theorem cl19 : (Try.f11.resultTypes.all (fun t => Try.pinned.checked.prog.readableRec t && decide (t < Try.pinned.checked.prog.types.size))) = true := by kernel_rfl
theorem cl20 : ((Rows.fnWakesRow.ifacesOut == Try.f11.resultTypes.toList.any (Try.pinned.checked.prog.ifacesRec ·))) = true := by kernel_rfl
theorem cl21 : ((Rows.fnWakesRow.loopsOut == Try.f11.resultTypes.toList.any (Try.pinned.checked.prog.loopsFrom ·))) = true := by kernel_rfl
theorem cl22 : ((Rows.fnWakesRow.plainKeys == Try.pinned.checked.prog.plainKeys)) = true := by kernel_rfl
theorem cl23 : (Rows.fnWakesRow.shortTexts.isNone) = true := by kernel_rfl
theorem cl26 : ((Rows.fnWakesRow.lifted == Try.pinned.checked.prog.liftsFinal)) = true := by rw [Ord.c26]; kernel_rfl
theorem cl27 : ((Try.pinned.checked.prog.make == some Rows.fnWakesRow.make)) = true := by rw [Ord.c27]; kernel_rfl
theorem cl29 : ((Rows.fnWakesRow.pinned == Rows.fnWakesRow.pinnedBy)) = true := by kernel_rfl
theorem cl30 : ((Rows.fnWakesRow.veiled == (Try.f11.params.toList ++ Rows.fnWakesSpec.plain.varTypes Try.pinned.checked.prog ++ Try.f11.resultTypes.toList).any (Try.pinned.checked.prog.veiledRec ·))) = true := by kernel_rfl
theorem cl31 : (Rows.fnWakesRow.veiledFits Try.pinned.checked.prog Try.f11.params.toList (Try.f11.params.toList ++ Rows.fnWakesSpec.plain.varTypes Try.pinned.checked.prog ++ Try.f11.resultTypes.toList)) = true := by kernel_rfl
theorem closed_ : joinedFacts Try.pinned.checked.prog 11 Try.f11 Rows.fnWakesSpec Rows.fnWakesRow = true := by
  unfold joinedFacts
  refine (Ord.andT (Ord.andT (Ord.andT (Ord.andT (Ord.andT (Ord.andT (Ord.andT (Ord.andT (Ord.andT (Ord.andT (Ord.andT (Ord.andT (Ord.andT (Ord.andT (Ord.andT (Ord.andT (Ord.andT (Ord.andT (Ord.andT (Ord.andT (Ord.andT (Ord.andT (Ord.andT (Ord.andT (Ord.andT (Ord.andT (Ord.andT (Ord.andT (Ord.andT (Ord.andT (Ord.andT cl0 Ord.c1) Ord.c2) cl3) cl4) cl5) Ord.c6) cl7) Ord.c8) cl9) cl10) cl11) cl12) cl13) cl14) cl15) cl16) cl17) cl18) cl19) cl20) cl21) cl22) cl23) Ord.c24) Ord.c25) cl26) cl27) ?_) cl29) cl30) cl31)
  kernel_rfl
theorem wrapped_ : Try.f11.isWrapper Try.pinned.checked.prog Rows.fnWakesRow.wrapper Rows.fnWakesRow.mainSum := by unfold Func.isWrapper; first | (rw [if_pos (by decide +kernel)]; kernel_rfl) | (rw [if_neg (by decide +kernel)]; exact ⟨rfl, rfl⟩)
theorem instance_ : Try.f11.isInstance Try.pinned.checked.prog Rows.fnWakesRow.origin Rows.fnWakesRow.targs := (of_decide_eq_true (by kernel_rfl))
theorem over : Rows.fnWakesRow.holds Try.pinned (OpenSpec.ofChange Rows.fnWakesSpec) :=
  OpenClaim.holds_of_wide 11 Try.f11 rfl rfl rfl rfl rfl rfl rfl ⟨rfl, rfl, rfl, rfl, rfl⟩ rfl rfl rfl rfl rfl named_ Try.func11 closed_
    instance_ wrapped_
    (fun os started H enc _ => lifted os started H enc)
theorem proved : Rows.FnWakesSaid := over
end Go.Proofs.Yteeklekfafedcaa.fnWakes
namespace Go.Proofs.Yteeklekfafedcaa
/-- The row, under a short name, for the claim. -/
theorem fnWakes_holds : Rows.FnWakesSaid := fnWakes.proved
#print axioms fnWakes_holds
end Go.Proofs.Yteeklekfafedcaa

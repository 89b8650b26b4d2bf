/- The row of the law FnExactFabricOk, out of its contract fnExactFabricOk_vc. Written by rowgenv.py (a program of this session's). No condition. -/
import Derived.Test.YtmechjnfeidnkaaRows
import Derived.Test.YtmechjnfeidnkaaF22
import Derived.Test.YtmechjnfeidnkaaA3
import Derived.Test.YtmechjnfeidnkaaOrd
import Derived.WalkKit
import Derived.ProofKit
import Derived.OpenShut
import Derived.ShutString
import Derived.ChangeOld
import Derived.Below
import Derived.SizedLaws
import Derived.Carry
namespace Go.Proofs.Ytmechjnfeidnkaa.fnExactFabricOk
open Go.ChangeShapes Go.WideShapes Go.ChangeAt Go.RowKit Go.Proofs.Ytmechjnfeidnkaa
set_option linter.unusedVariables false
set_option linter.unusedSimpArgs false
theorem own : ownKnob Try.prog.godebug = none := by kernel_rfl
theorem laidOut : laidOutB Try.prog = true := by kernel_rfl
set_option maxRecDepth 100000 in
set_option maxHeartbeats 4000000 in
theorem lifted (os : Os) (started : os.Started) (H : Type) (enc : TypeId × Value → H) :
    ReturnsInHanded {} Try.checked os 5 .any (Rows.fnExactFabricOkSpec.pre6 enc Try.prog Try.f5 Rows.fnExactFabricOkRow.domain false) (Rows.fnExactFabricOkSpec.post enc Try.prog Try.f5 false true false false) := by
  refine returnsInHanded_of_change_sized (C := Try.checked) own started (by kernel_rfl) Try.func5
    (ChangeSpec.witness6 (enc := enc) (C := Try.checked) false ⟨#[], #[.agg #[.slice none 0 0, .slice none 0 0, .slice none 0 0, .slice none 0 0, .slice none 0 0]], []⟩ 8 (by kernel_rfl) (by kernel_rfl) (by kernel_rfl) (by kernel_rfl)) ?_
  intro W base args ds gs before hval0 hW hcnd hsz0 _
  have hsz : (DataW.weightsEach Try.prog (Try.f5.params.toList ++ Rows.fnExactFabricOkSpec.plain.varTypes Try.prog) (ds ++ gs)).all (· ≤ reachBytes) = true := hsz0
  have hval : ∀ (j : Nat) t v, Try.f5.params[j]? = some t → args[j]? = some v → Value.okWide Try.prog W .any base t v := hval0
  have hW' := hW
  obtain ⟨p, q, hA0, hV, rfl, hfz, hnd⟩ := hW
  have hA : DataW.TrodAll enc Try.prog W 0 (fun _ => true) true Try.f5.params.toList args.toList ds p := hA0
  rw [Try.params5] at hA hval hsz
  obtain ⟨v0, vs0, d0, ds0, p0, q0, hargs, rfl, rfl, h0, r0⟩ := trodAll_cons hA
  obtain ⟨rfl, rfl, rfl⟩ := trodAll_nil r0
  obtain rfl : args = #[v0] := by cases args; simp_all
  obtain ⟨rfl, rfl⟩ := trodVars_none hV
  have k0 := h0
  have lt0 : ∀ x ∈ p0, x.block < W.heap.size := by obtain ⟨m, hm⟩ := k0; exact DataW.trod_lt m _ _ _ hm
  obtain ⟨cs0, rfl, _⟩ := okWide_struct Try.underlying53 (hval 0 53 v0 rfl rfl)
  obtain ⟨x0, g0, hw0⟩ := V.Reads.arg (s := (.pr (.sl 80 (.pr (.int .i64) (.pr (.int .i64) (.int .i64)))) (.pr (.sl 3 (.int .i64)) (.pr (.sl 115 (.pr (.int .i64) (.int .i64))) (.pr (.sl 25 (.sl 3 (.int .i64))) (.sl 4 .bool)))))) (agg := true) (V.reads_ok 9 53 _ (by kernel_rfl)) (by simp [V.mkV, Value.cells]) hsz (j := 0) (t := 53) rfl rfl h0
  clear hA0 hval0 hsz0 hsz
  refine (V.row_calls (vals := [.agg cs0]) (V.fnExactFabricOk_vc x0 hw0) (V.AAll.cons g0 (V.AAll.nil _ _))).mono fun e W' ⟨he, bel0⟩ => ?_
  have bel : Below W.heap.size W W' := bel0
  subst he
  exact ⟨_, rfl, _, _, _, [], _, [], hW', trodAll_mk1 (shut_bool Try.underlying4 _), (trodAll_cons_mk (Below.trod laidOut (by kernel_rfl) (of_decide_eq_true (by kernel_rfl)) k0 bel lt0) trodAll_mk0), rfl, bel.frame _, fun h => by cases h⟩
theorem named_ : Try.pinned.checked.prog.funcNamed Rows.fnExactFabricOkRow.func = some 5 := by kernel_rfl
theorem cl0 : (Rows.fnExactFabricOkRow.wf (OpenSpec.ofChange Rows.fnExactFabricOkSpec)) = true := by kernel_rfl
theorem cl3 : (Try.f5.params.all (Try.pinned.checked.prog.readableRec ·)) = true := by kernel_rfl
theorem cl4 : (namedTie Try.pinned.checked.prog Rows.fnExactFabricOkRow.named Rows.fnExactFabricOkSpec.vars) = true := by kernel_rfl
theorem cl5 : ((Rows.fnExactFabricOkRow.stops == [])) = true := by kernel_rfl
theorem cl7 : ((Rows.fnExactFabricOkRow.knobs == [])) = true := by kernel_rfl
theorem cl9 : ((Rows.fnExactFabricOkRow.inPlace == Try.pinned.checked.prog.inPlace 5)) = true := by kernel_rfl
theorem cl10 : ((Rows.fnExactFabricOkRow.unfollowed == Try.pinned.checked.prog.unfollowed 5)) = true := by kernel_rfl
theorem cl11 : ((Rows.fnExactFabricOkRow.recurses == Try.pinned.checked.prog.recurses 5)) = true := by kernel_rfl
theorem cl12 : ((Rows.fnExactFabricOkRow.named == Try.pinned.checked.prog.varsNamed 5)) = true := by kernel_rfl
theorem cl13 : ((Rows.fnExactFabricOkRow.maps == (Try.f5.params.toList ++ Rows.fnExactFabricOkSpec.plain.varTypes Try.pinned.checked.prog).any (Try.pinned.checked.prog.mapsRec ·))) = true := by kernel_rfl
theorem cl14 : ((Rows.fnExactFabricOkRow.ifaces == (Try.f5.params.toList ++ Rows.fnExactFabricOkSpec.plain.varTypes Try.pinned.checked.prog).any (Try.pinned.checked.prog.ifacesRec ·))) = true := by kernel_rfl
theorem cl15 : ((Rows.fnExactFabricOkRow.mapsOut == Try.pinned.checked.prog.mapsAmong Try.f5.resultTypes.toList)) = true := by kernel_rfl
theorem cl16 : ((Rows.fnExactFabricOkRow.loops == (Try.f5.params.toList ++ Rows.fnExactFabricOkSpec.plain.varTypes Try.pinned.checked.prog).any (Try.pinned.checked.prog.loopsFrom ·))) = true := by kernel_rfl
theorem cl17 : ((Rows.fnExactFabricOkRow.wideKeys == (Try.f5.params.toList ++ Rows.fnExactFabricOkSpec.plain.varTypes Try.pinned.checked.prog ++ Try.f5.resultTypes.toList).any (Try.pinned.checked.prog.wideKeysFrom ·))) = true := by kernel_rfl
theorem cl18 : (Rows.fnExactFabricOkSpec.vars.all (Try.pinned.checked.prog.varReadable ·)) = true := by kernel_rfl
theorem cl19 : (Try.f5.resultTypes.all (fun t => Try.pinned.checked.prog.readableRec t && decide (t < Try.pinned.checked.prog.types.size))) = true := by kernel_rfl
theorem cl20 : ((Rows.fnExactFabricOkRow.ifacesOut == Try.f5.resultTypes.toList.any (Try.pinned.checked.prog.ifacesRec ·))) = true := by kernel_rfl
theorem cl21 : ((Rows.fnExactFabricOkRow.loopsOut == Try.f5.resultTypes.toList.any (Try.pinned.checked.prog.loopsFrom ·))) = true := by kernel_rfl
theorem cl22 : ((Rows.fnExactFabricOkRow.plainKeys == Try.pinned.checked.prog.plainKeys)) = true := by kernel_rfl
theorem cl23 : (Rows.fnExactFabricOkRow.shortTexts.isNone) = true := by kernel_rfl
theorem cl26 : ((Rows.fnExactFabricOkRow.lifted == Try.pinned.checked.prog.liftsFinal)) = true := by rw [Ord.c26]; kernel_rfl
theorem cl27 : ((Try.pinned.checked.prog.make == some Rows.fnExactFabricOkRow.make)) = true := by rw [Ord.c27]; kernel_rfl
theorem cl29 : ((Rows.fnExactFabricOkRow.pinned == Rows.fnExactFabricOkRow.pinnedBy)) = true := by kernel_rfl
theorem cl30 : ((Rows.fnExactFabricOkRow.veiled == (Try.f5.params.toList ++ Rows.fnExactFabricOkSpec.plain.varTypes Try.pinned.checked.prog ++ Try.f5.resultTypes.toList).any (Try.pinned.checked.prog.veiledRec ·))) = true := by kernel_rfl
theorem cl31 : (Rows.fnExactFabricOkRow.veiledFits Try.pinned.checked.prog Try.f5.params.toList (Try.f5.params.toList ++ Rows.fnExactFabricOkSpec.plain.varTypes Try.pinned.checked.prog ++ Try.f5.resultTypes.toList)) = true := by kernel_rfl
theorem closed_ : joinedFacts Try.pinned.checked.prog 5 Try.f5 Rows.fnExactFabricOkSpec Rows.fnExactFabricOkRow = true := by
  unfold joinedFacts
  refine (Ord.andT (Ord.andT (Ord.andT (Ord.andT (Ord.andT (Ord.andT (Ord.andT (Ord.andT (Ord.andT (Ord.andT (Ord.andT (Ord.andT (Ord.andT (Ord.andT (Ord.andT (Ord.andT (Ord.andT (Ord.andT (Ord.andT (Ord.andT (Ord.andT (Ord.andT (Ord.andT (Ord.andT (Ord.andT (Ord.andT (Ord.andT (Ord.andT (Ord.andT (Ord.andT (Ord.andT cl0 Ord.c1) Ord.c2) cl3) cl4) cl5) Ord.c6) cl7) Ord.c8) cl9) cl10) cl11) cl12) cl13) cl14) cl15) cl16) cl17) cl18) cl19) cl20) cl21) cl22) cl23) Ord.c24) Ord.c25) cl26) cl27) ?_) cl29) cl30) cl31)
  kernel_rfl
theorem wrapped_ : Try.f5.isWrapper Try.pinned.checked.prog Rows.fnExactFabricOkRow.wrapper Rows.fnExactFabricOkRow.mainSum := by unfold Func.isWrapper; first | (rw [if_pos (by decide +kernel)]; kernel_rfl) | (rw [if_neg (by decide +kernel)]; exact ⟨rfl, rfl⟩)
theorem instance_ : Try.f5.isInstance Try.pinned.checked.prog Rows.fnExactFabricOkRow.origin Rows.fnExactFabricOkRow.targs := (of_decide_eq_true (by kernel_rfl))
theorem over : Rows.fnExactFabricOkRow.holds Try.pinned (OpenSpec.ofChange Rows.fnExactFabricOkSpec) :=
  OpenClaim.holds_of_wide 5 Try.f5 rfl rfl rfl rfl rfl rfl rfl ⟨rfl, rfl, rfl, rfl, rfl⟩ rfl rfl rfl rfl rfl named_ Try.func5 closed_
    instance_ wrapped_
    (fun os started H enc _ => lifted os started H enc)
theorem proved : Rows.FnExactFabricOkSaid := over
end Go.Proofs.Ytmechjnfeidnkaa.fnExactFabricOk
namespace Go.Proofs.Ytmechjnfeidnkaa
/-- The row, under a short name, for the claim. -/
theorem fnExactFabricOk_holds : Rows.FnExactFabricOkSaid := fnExactFabricOk.proved
#print axioms fnExactFabricOk_holds
end Go.Proofs.Ytmechjnfeidnkaa

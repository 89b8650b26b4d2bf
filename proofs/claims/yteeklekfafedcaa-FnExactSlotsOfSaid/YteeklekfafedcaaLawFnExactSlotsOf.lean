/- The row of the law FnExactSlotsOf, out of its pure statement and the contract laws_FnExactSlotsOf.calls. Written by rowgen.py (a program of this session's). No condition. -/
import Derived.Test.YteeklekfafedcaaRows
import Derived.Test.YteeklekfafedcaaPFnExactSlotsOfx6
import Derived.Test.YteeklekfafedcaaOpn
import Derived.Test.YteeklekfafedcaaOrd
import Derived.Test.YteeklekfafedcaaPureFnExactSlotsOf
import Derived.WalkKit
import Derived.ProofKit
import Derived.OpenShut
import Derived.ShutString
import Derived.ChangeOld
import Derived.Below
import Derived.SizedLaws
import Derived.Carry
namespace Go.Proofs.Yteeklekfafedcaa.fnExactSlotsOf
open Go.ChangeShapes Go.WideShapes Go.ChangeAt Go.RowKit Go.Proofs.YteeklekfafedcaaW.PrintWords Go.Proofs.YteeklekfafedcaaW.PrintLast Go.Proofs.Yteeklekfafedcaa.PFnExactSlotsOf Go.Proofs.Yteeklekfafedcaa.Pure
set_option linter.unusedVariables false
set_option linter.unusedSimpArgs false
theorem own : ownKnob Try.prog.godebug = none := by kernel_rfl
theorem laidOut : laidOutB Try.prog = true := by kernel_rfl
theorem opens105 {H : Type} {enc : TypeId × Value → H} : Opn.Opens enc Try.prog 105 k105 Pure.wf105 :=
  (Opn.opens_iso (fun x : S105 => (x.f0, x.f1, x.f2)) (fun p => (⟨p.1, p.2.1, p.2.2⟩ : S105)) (fun _ => rfl) (Opn.opens_struct Try.underlying105 (by kernel_rfl) (Opn.opensAt_cons rfl (by kernel_rfl) (Opn.opens_int Try.underlying3) (Opn.opensAt_cons rfl (by kernel_rfl) (Opn.opens_int Try.underlying3) (Opn.opensAt_one rfl (by kernel_rfl) (Opn.opens_int Try.underlying3)))))).imp (fun x h => by simpa only [Pure.wf105] using h)
set_option maxRecDepth 100000 in
theorem lifted (os : Os) (started : os.Started) (H : Type) (enc : TypeId × Value → H) :
    ReturnsInHanded {} Try.checked os 5 .any (Rows.fnExactSlotsOfSpec.pre6 enc Try.prog Try.f5 Rows.fnExactSlotsOfRow.domain false) (Rows.fnExactSlotsOfSpec.post enc Try.prog Try.f5 false true false false) := by
  refine returnsInHanded_of_change_sized (C := Try.checked) own started (by kernel_rfl) Try.func5
    (ChangeSpec.witness6 (enc := enc) (C := Try.checked) false ⟨#[], #[.slice none 0 0, .int .i64 0], []⟩ 8 (by kernel_rfl) (by kernel_rfl) (by kernel_rfl) (by kernel_rfl)) ?_
  intro W base args ds gs before hval0 hW hcnd hsz0 _
  have hsz : (DataW.weightsEach Try.prog (Try.f5.params.toList ++ Rows.fnExactSlotsOfSpec.plain.varTypes Try.prog) (ds ++ gs)).all (· ≤ reachBytes) = true := hsz0
  have hval : ∀ (j : Nat) t v, Try.f5.params[j]? = some t → args[j]? = some v → Value.okWide Try.prog W .any base t v := hval0
  have hW' := hW
  obtain ⟨p, q, hA0, hV, rfl, hfz, hnd⟩ := hW
  have hA : DataW.TrodAll enc Try.prog W 0 (fun _ => true) true Try.f5.params.toList args.toList ds p := hA0
  rw [Try.params5] at hA hval hsz
  obtain ⟨v0, vs0, d0, ds0, p0, q0, hargs, rfl, rfl, h0, r0⟩ := trodAll_cons hA
  obtain ⟨v1, vs1, d1, ds1, p1, q1, rfl, rfl, rfl, h1, r1⟩ := trodAll_cons r0
  obtain ⟨rfl, rfl, rfl⟩ := trodAll_nil r1
  obtain rfl : args = #[v0, v1] := by cases args; simp_all
  obtain ⟨rfl, rfl⟩ := trodVars_none hV
  have k0 := h0
  have lt0 : ∀ x ∈ p0, x.block < W.heap.size := by obtain ⟨m, hm⟩ := k0; exact DataW.trod_lt m _ _ _ hm
  obtain ⟨x0, hk0, hw0⟩ := Opn.Opens.arg (Opn.opens_slice (B := 24) Try.underlying32 (by kernel_rfl) (by kernel_rfl) opens105) hsz (j := 0) (t := 32) rfl rfl h0
  obtain ⟨a0, len0, cap0, rfl⟩ := okWide_slice Try.underlying32 (hval 0 32 v0 rfl rfl)
  obtain ⟨A0, c0, hcs0, hc0, hr0⟩ := hk0
  simp [Value.cells] at hcs0
  obtain ⟨rfl, rfl, rfl⟩ := hcs0
  have k1 := h1
  have lt1 : ∀ x ∈ p1, x.block < W.heap.size := by obtain ⟨m, hm⟩ := k1; exact DataW.trod_lt m _ _ _ hm
  obtain ⟨x1, hk1, hw1⟩ := Opn.Opens.arg (Opn.opens_int Try.underlying3) hsz (j := 1) (t := 3) rfl rfl h1
  obtain ⟨y1, rfl⟩ := okWide_int Try.underlying3 (hval 1 3 v1 rfl rfl)
  have hcs1 : [_] = [_] := hk1
  simp at hcs1
  replace hcs1 := hcs1.symm
  subst hcs1
  clear hA0 hval0 hsz0 hsz
  obtain ⟨k, h⟩ := Pure.FnExactSlotsOf x0 x1 hw0 hw1
  refine (laws_FnExactSlotsOf.calls k _ _ x0 x1 true W hr0 hc0 h).mono fun e W' ⟨he, bel0⟩ => ?_
  have bel : Below W.heap.size W W' := bel0
  subst he
  exact ⟨_, rfl, _, _, _, [], _, [], hW', trodAll_mk1 (shut_bool Try.underlying4 _), (trodAll_cons_mk (Below.trod laidOut (by kernel_rfl) (of_decide_eq_true (by kernel_rfl)) k0 bel lt0) (trodAll_cons_mk (Below.trod laidOut (by kernel_rfl) (of_decide_eq_true (by kernel_rfl)) k1 bel lt1) trodAll_mk0)), rfl, bel.frame _, fun h => by cases h⟩
theorem named_ : Try.pinned.checked.prog.funcNamed Rows.fnExactSlotsOfRow.func = some 5 := by kernel_rfl
theorem cl0 : (Rows.fnExactSlotsOfRow.wf (OpenSpec.ofChange Rows.fnExactSlotsOfSpec)) = true := by kernel_rfl
theorem cl3 : (Try.f5.params.all (Try.pinned.checked.prog.readableRec ·)) = true := by kernel_rfl
theorem cl4 : (namedTie Try.pinned.checked.prog Rows.fnExactSlotsOfRow.named Rows.fnExactSlotsOfSpec.vars) = true := by kernel_rfl
theorem cl5 : ((Rows.fnExactSlotsOfRow.stops == [])) = true := by kernel_rfl
theorem cl7 : ((Rows.fnExactSlotsOfRow.knobs == [])) = true := by kernel_rfl
theorem cl9 : ((Rows.fnExactSlotsOfRow.inPlace == Try.pinned.checked.prog.inPlace 5)) = true := by kernel_rfl
theorem cl10 : ((Rows.fnExactSlotsOfRow.unfollowed == Try.pinned.checked.prog.unfollowed 5)) = true := by kernel_rfl
theorem cl11 : ((Rows.fnExactSlotsOfRow.recurses == Try.pinned.checked.prog.recurses 5)) = true := by kernel_rfl
theorem cl12 : ((Rows.fnExactSlotsOfRow.named == Try.pinned.checked.prog.varsNamed 5)) = true := by kernel_rfl
theorem cl13 : ((Rows.fnExactSlotsOfRow.maps == (Try.f5.params.toList ++ Rows.fnExactSlotsOfSpec.plain.varTypes Try.pinned.checked.prog).any (Try.pinned.checked.prog.mapsRec ·))) = true := by kernel_rfl
theorem cl14 : ((Rows.fnExactSlotsOfRow.ifaces == (Try.f5.params.toList ++ Rows.fnExactSlotsOfSpec.plain.varTypes Try.pinned.checked.prog).any (Try.pinned.checked.prog.ifacesRec ·))) = true := by kernel_rfl
theorem cl15 : ((Rows.fnExactSlotsOfRow.mapsOut == Try.pinned.checked.prog.mapsAmong Try.f5.resultTypes.toList)) = true := by kernel_rfl
theorem cl16 : ((Rows.fnExactSlotsOfRow.loops == (Try.f5.params.toList ++ Rows.fnExactSlotsOfSpec.plain.varTypes Try.pinned.checked.prog).any (Try.pinned.checked.prog.loopsFrom ·))) = true := by kernel_rfl
theorem cl17 : ((Rows.fnExactSlotsOfRow.wideKeys == (Try.f5.params.toList ++ Rows.fnExactSlotsOfSpec.plain.varTypes Try.pinned.checked.prog ++ Try.f5.resultTypes.toList).any (Try.pinned.checked.prog.wideKeysFrom ·))) = true := by kernel_rfl
theorem cl18 : (Rows.fnExactSlotsOfSpec.vars.all (Try.pinned.checked.prog.varReadable ·)) = true := by kernel_rfl
theorem cl19 : (Try.f5.resultTypes.all (fun t => Try.pinned.checked.prog.readableRec t && decide (t < Try.pinned.checked.prog.types.size))) = true := by kernel_rfl
theorem cl20 : ((Rows.fnExactSlotsOfRow.ifacesOut == Try.f5.resultTypes.toList.any (Try.pinned.checked.prog.ifacesRec ·))) = true := by kernel_rfl
theorem cl21 : ((Rows.fnExactSlotsOfRow.loopsOut == Try.f5.resultTypes.toList.any (Try.pinned.checked.prog.loopsFrom ·))) = true := by kernel_rfl
theorem cl22 : ((Rows.fnExactSlotsOfRow.plainKeys == Try.pinned.checked.prog.plainKeys)) = true := by kernel_rfl
theorem cl23 : (Rows.fnExactSlotsOfRow.shortTexts.isNone) = true := by kernel_rfl
theorem cl26 : ((Rows.fnExactSlotsOfRow.lifted == Try.pinned.checked.prog.liftsFinal)) = true := by rw [Ord.c26]; kernel_rfl
theorem cl27 : ((Try.pinned.checked.prog.make == some Rows.fnExactSlotsOfRow.make)) = true := by rw [Ord.c27]; kernel_rfl
theorem cl29 : ((Rows.fnExactSlotsOfRow.pinned == Rows.fnExactSlotsOfRow.pinnedBy)) = true := by kernel_rfl
theorem cl30 : ((Rows.fnExactSlotsOfRow.veiled == (Try.f5.params.toList ++ Rows.fnExactSlotsOfSpec.plain.varTypes Try.pinned.checked.prog ++ Try.f5.resultTypes.toList).any (Try.pinned.checked.prog.veiledRec ·))) = true := by kernel_rfl
theorem cl31 : (Rows.fnExactSlotsOfRow.veiledFits Try.pinned.checked.prog Try.f5.params.toList (Try.f5.params.toList ++ Rows.fnExactSlotsOfSpec.plain.varTypes Try.pinned.checked.prog ++ Try.f5.resultTypes.toList)) = true := by kernel_rfl
theorem closed_ : joinedFacts Try.pinned.checked.prog 5 Try.f5 Rows.fnExactSlotsOfSpec Rows.fnExactSlotsOfRow = true := by
  unfold joinedFacts
  refine (Ord.andT (Ord.andT (Ord.andT (Ord.andT (Ord.andT (Ord.andT (Ord.andT (Ord.andT (Ord.andT (Ord.andT (Ord.andT (Ord.andT (Ord.andT (Ord.andT (Ord.andT (Ord.andT (Ord.andT (Ord.andT (Ord.andT (Ord.andT (Ord.andT (Ord.andT (Ord.andT (Ord.andT (Ord.andT (Ord.andT (Ord.andT (Ord.andT (Ord.andT (Ord.andT (Ord.andT cl0 Ord.c1) Ord.c2) cl3) cl4) cl5) Ord.c6) cl7) Ord.c8) cl9) cl10) cl11) cl12) cl13) cl14) cl15) cl16) cl17) cl18) cl19) cl20) cl21) cl22) cl23) Ord.c24) Ord.c25) cl26) cl27) ?_) cl29) cl30) cl31)
  kernel_rfl
theorem wrapped_ : Try.f5.isWrapper Try.pinned.checked.prog Rows.fnExactSlotsOfRow.wrapper Rows.fnExactSlotsOfRow.mainSum := by unfold Func.isWrapper; first | (rw [if_pos (by decide +kernel)]; kernel_rfl) | (rw [if_neg (by decide +kernel)]; exact ⟨rfl, rfl⟩)
theorem instance_ : Try.f5.isInstance Try.pinned.checked.prog Rows.fnExactSlotsOfRow.origin Rows.fnExactSlotsOfRow.targs := (of_decide_eq_true (by kernel_rfl))
theorem over : Rows.fnExactSlotsOfRow.holds Try.pinned (OpenSpec.ofChange Rows.fnExactSlotsOfSpec) :=
  OpenClaim.holds_of_wide 5 Try.f5 rfl rfl rfl rfl rfl rfl rfl ⟨rfl, rfl, rfl, rfl, rfl⟩ rfl rfl rfl rfl rfl named_ Try.func5 closed_
    instance_ wrapped_
    (fun os started H enc _ => lifted os started H enc)
theorem proved : Rows.FnExactSlotsOfSaid := over
end Go.Proofs.Yteeklekfafedcaa.fnExactSlotsOf
namespace Go.Proofs.Yteeklekfafedcaa
/-- The row, under a short name, for the claim. -/
theorem fnExactSlotsOf_holds : Rows.FnExactSlotsOfSaid := fnExactSlotsOf.proved
#print axioms fnExactSlotsOf_holds
end Go.Proofs.Yteeklekfafedcaa

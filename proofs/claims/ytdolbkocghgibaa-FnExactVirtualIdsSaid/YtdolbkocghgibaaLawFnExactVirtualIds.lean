/- The row of the law FnExactVirtualIds, out of its pure statement and the contract laws_FnExactVirtualIds.calls. Written by rowgen.py (a program of this session's). No condition. -/
import Derived.Test.YtdolbkocghgibaaRows
import Derived.Test.YtdolbkocghgibaaPFnExactVirtualIdsx3
import Derived.Test.YtdolbkocghgibaaOpn
import Derived.Test.YtdolbkocghgibaaOrd
import Derived.Test.YtdolbkocghgibaaPureFnExactVirtualIds
import Derived.WalkKit
import Derived.ProofKit
import Derived.OpenShut
import Derived.ShutString
import Derived.ChangeOld
import Derived.Below
import Derived.SizedLaws
import Derived.Carry
namespace Go.Proofs.Ytdolbkocghgibaa.fnExactVirtualIds
open Go.ChangeShapes Go.WideShapes Go.ChangeAt Go.RowKit Go.Proofs.YtdolbkocghgibaaW.PrintWords Go.Proofs.YtdolbkocghgibaaW.PrintLast Go.Proofs.Ytdolbkocghgibaa.PFnExactVirtualIds Go.Proofs.Ytdolbkocghgibaa.Pure
set_option linter.unusedVariables false
set_option linter.unusedSimpArgs false
theorem own : ownKnob Try.prog.godebug = none := by kernel_rfl
theorem laidOut : laidOutB Try.prog = true := by kernel_rfl
theorem opens47 {H : Type} {enc : TypeId × Value → H} : Opn.Opens enc Try.prog 47 k47 Pure.wf47 :=
  (Opn.opens_iso (fun x : S47 => (x.f0, x.f1, x.f2)) (fun p => (⟨p.1, p.2.1, p.2.2⟩ : S47)) (fun _ => rfl) (Opn.opens_struct Try.underlying47 (by kernel_rfl) (Opn.opensAt_cons rfl (by kernel_rfl) (Opn.opens_int Try.underlying3) (Opn.opensAt_cons rfl (by kernel_rfl) (Opn.opens_int Try.underlying3) (Opn.opensAt_one rfl (by kernel_rfl) (Opn.opens_int Try.underlying3)))))).imp (fun x h => by simpa only [Pure.wf47] using h)
set_option maxRecDepth 100000 in
theorem lifted (os : Os) (started : os.Started) (H : Type) (enc : TypeId × Value → H) :
    ReturnsInHanded {} Try.checked os 6 .any (Rows.fnExactVirtualIdsSpec.pre6 enc Try.prog Try.f6 Rows.fnExactVirtualIdsRow.domain false) (Rows.fnExactVirtualIdsSpec.post enc Try.prog Try.f6 false true false false) := by
  refine returnsInHanded_of_change_sized (C := Try.checked) own started (by kernel_rfl) Try.func6
    (ChangeSpec.witness6 (enc := enc) (C := Try.checked) false ⟨#[], #[.int .i64 0, .agg #[.int .i64 0, .int .i64 0, .int .i64 0]], []⟩ 8 (by kernel_rfl) (by kernel_rfl) (by kernel_rfl) (by kernel_rfl)) ?_
  intro W base args ds gs before hval0 hW hcnd hsz0 _
  have hsz : (DataW.weightsEach Try.prog (Try.f6.params.toList ++ Rows.fnExactVirtualIdsSpec.plain.varTypes Try.prog) (ds ++ gs)).all (· ≤ reachBytes) = true := hsz0
  have hval : ∀ (j : Nat) t v, Try.f6.params[j]? = some t → args[j]? = some v → Value.okWide Try.prog W .any base t v := hval0
  have hW' := hW
  obtain ⟨p, q, hA0, hV, rfl, hfz, hnd⟩ := hW
  have hA : DataW.TrodAll enc Try.prog W 0 (fun _ => true) true Try.f6.params.toList args.toList ds p := hA0
  rw [Try.params6] at hA hval hsz
  obtain ⟨v0, vs0, d0, ds0, p0, q0, hargs, rfl, rfl, h0, r0⟩ := trodAll_cons hA
  obtain ⟨v1, vs1, d1, ds1, p1, q1, rfl, rfl, rfl, h1, r1⟩ := trodAll_cons r0
  obtain ⟨rfl, rfl, rfl⟩ := trodAll_nil r1
  obtain rfl : args = #[v0, v1] := by cases args; simp_all
  obtain ⟨rfl, rfl⟩ := trodVars_none hV
  have k0 := h0
  have lt0 : ∀ x ∈ p0, x.block < W.heap.size := by obtain ⟨m, hm⟩ := k0; exact DataW.trod_lt m _ _ _ hm
  obtain ⟨x0, hk0, hw0⟩ := Opn.Opens.arg (Opn.opens_int Try.underlying3) hsz (j := 0) (t := 3) rfl rfl h0
  obtain ⟨y0, rfl⟩ := okWide_int Try.underlying3 (hval 0 3 v0 rfl rfl)
  have hcs0 : [_] = [_] := hk0
  simp at hcs0
  replace hcs0 := hcs0.symm
  subst hcs0
  have k1 := h1
  have lt1 : ∀ x ∈ p1, x.block < W.heap.size := by obtain ⟨m, hm⟩ := k1; exact DataW.trod_lt m _ _ _ hm
  obtain ⟨x1, hk1, hw1⟩ := Opn.Opens.arg opens47 hsz (j := 1) (t := 47) rfl rfl h1
  obtain ⟨cs1, rfl, _⟩ := okWide_struct Try.underlying47 (hval 1 47 v1 rfl rfl)
  have hl1 : cs1.toList = _ := k47_open hk1
  obtain rfl : cs1 = #[Value.int .i64 x1.f0, Value.int .i64 x1.f1, Value.int .i64 x1.f2] := by cases cs1; simpa using hl1
  clear hA0 hval0 hsz0 hsz
  obtain ⟨k, h⟩ := Pure.FnExactVirtualIds x0 x1 hw0 hw1
  refine (laws_FnExactVirtualIds.calls k x0 (x1.f0) (x1.f1) (x1.f2) true W h).mono fun e W' ⟨he, bel0⟩ => ?_
  have bel : Below W.heap.size W W' := bel0
  subst he
  exact ⟨_, rfl, _, _, _, [], _, [], hW', trodAll_mk1 (shut_bool Try.underlying4 _), (trodAll_cons_mk (Below.trod laidOut (by kernel_rfl) (of_decide_eq_true (by kernel_rfl)) k0 bel lt0) (trodAll_cons_mk (Below.trod laidOut (by kernel_rfl) (of_decide_eq_true (by kernel_rfl)) k1 bel lt1) trodAll_mk0)), rfl, bel.frame _, fun h => by cases h⟩
theorem named_ : Try.pinned.checked.prog.funcNamed Rows.fnExactVirtualIdsRow.func = some 6 := by kernel_rfl
theorem cl0 : (Rows.fnExactVirtualIdsRow.wf (OpenSpec.ofChange Rows.fnExactVirtualIdsSpec)) = true := by kernel_rfl
theorem cl3 : (Try.f6.params.all (Try.pinned.checked.prog.readableRec ·)) = true := by kernel_rfl
theorem cl4 : (namedTie Try.pinned.checked.prog Rows.fnExactVirtualIdsRow.named Rows.fnExactVirtualIdsSpec.vars) = true := by kernel_rfl
theorem cl5 : ((Rows.fnExactVirtualIdsRow.stops == [])) = true := by kernel_rfl
theorem cl7 : ((Rows.fnExactVirtualIdsRow.knobs == [])) = true := by kernel_rfl
theorem cl9 : ((Rows.fnExactVirtualIdsRow.inPlace == Try.pinned.checked.prog.inPlace 6)) = true := by kernel_rfl
theorem cl10 : ((Rows.fnExactVirtualIdsRow.unfollowed == Try.pinned.checked.prog.unfollowed 6)) = true := by kernel_rfl
theorem cl11 : ((Rows.fnExactVirtualIdsRow.recurses == Try.pinned.checked.prog.recurses 6)) = true := by kernel_rfl
theorem cl12 : ((Rows.fnExactVirtualIdsRow.named == Try.pinned.checked.prog.varsNamed 6)) = true := by kernel_rfl
theorem cl13 : ((Rows.fnExactVirtualIdsRow.maps == (Try.f6.params.toList ++ Rows.fnExactVirtualIdsSpec.plain.varTypes Try.pinned.checked.prog).any (Try.pinned.checked.prog.mapsRec ·))) = true := by kernel_rfl
theorem cl14 : ((Rows.fnExactVirtualIdsRow.ifaces == (Try.f6.params.toList ++ Rows.fnExactVirtualIdsSpec.plain.varTypes Try.pinned.checked.prog).any (Try.pinned.checked.prog.ifacesRec ·))) = true := by kernel_rfl
theorem cl15 : ((Rows.fnExactVirtualIdsRow.mapsOut == Try.pinned.checked.prog.mapsAmong Try.f6.resultTypes.toList)) = true := by kernel_rfl
theorem cl16 : ((Rows.fnExactVirtualIdsRow.loops == (Try.f6.params.toList ++ Rows.fnExactVirtualIdsSpec.plain.varTypes Try.pinned.checked.prog).any (Try.pinned.checked.prog.loopsFrom ·))) = true := by kernel_rfl
theorem cl17 : ((Rows.fnExactVirtualIdsRow.wideKeys == (Try.f6.params.toList ++ Rows.fnExactVirtualIdsSpec.plain.varTypes Try.pinned.checked.prog ++ Try.f6.resultTypes.toList).any (Try.pinned.checked.prog.wideKeysFrom ·))) = true := by kernel_rfl
theorem cl18 : (Rows.fnExactVirtualIdsSpec.vars.all (Try.pinned.checked.prog.varReadable ·)) = true := by kernel_rfl
theorem cl19 : (Try.f6.resultTypes.all (fun t => Try.pinned.checked.prog.readableRec t && decide (t < Try.pinned.checked.prog.types.size))) = true := by kernel_rfl
theorem cl20 : ((Rows.fnExactVirtualIdsRow.ifacesOut == Try.f6.resultTypes.toList.any (Try.pinned.checked.prog.ifacesRec ·))) = true := by kernel_rfl
theorem cl21 : ((Rows.fnExactVirtualIdsRow.loopsOut == Try.f6.resultTypes.toList.any (Try.pinned.checked.prog.loopsFrom ·))) = true := by kernel_rfl
theorem cl22 : ((Rows.fnExactVirtualIdsRow.plainKeys == Try.pinned.checked.prog.plainKeys)) = true := by kernel_rfl
theorem cl23 : (Rows.fnExactVirtualIdsRow.shortTexts.isNone) = true := by kernel_rfl
theorem cl26 : ((Rows.fnExactVirtualIdsRow.lifted == Try.pinned.checked.prog.liftsFinal)) = true := by rw [Ord.c26]; kernel_rfl
theorem cl27 : ((Try.pinned.checked.prog.make == some Rows.fnExactVirtualIdsRow.make)) = true := by rw [Ord.c27]; kernel_rfl
theorem cl29 : ((Rows.fnExactVirtualIdsRow.pinned == Rows.fnExactVirtualIdsRow.pinnedBy)) = true := by kernel_rfl
theorem cl30 : ((Rows.fnExactVirtualIdsRow.veiled == (Try.f6.params.toList ++ Rows.fnExactVirtualIdsSpec.plain.varTypes Try.pinned.checked.prog ++ Try.f6.resultTypes.toList).any (Try.pinned.checked.prog.veiledRec ·))) = true := by kernel_rfl
theorem cl31 : (Rows.fnExactVirtualIdsRow.veiledFits Try.pinned.checked.prog Try.f6.params.toList (Try.f6.params.toList ++ Rows.fnExactVirtualIdsSpec.plain.varTypes Try.pinned.checked.prog ++ Try.f6.resultTypes.toList)) = true := by kernel_rfl
theorem closed_ : joinedFacts Try.pinned.checked.prog 6 Try.f6 Rows.fnExactVirtualIdsSpec Rows.fnExactVirtualIdsRow = true := by
  unfold joinedFacts
  refine (Ord.andT (Ord.andT (Ord.andT (Ord.andT (Ord.andT (Ord.andT (Ord.andT (Ord.andT (Ord.andT (Ord.andT (Ord.andT (Ord.andT (Ord.andT (Ord.andT (Ord.andT (Ord.andT (Ord.andT (Ord.andT (Ord.andT (Ord.andT (Ord.andT (Ord.andT (Ord.andT (Ord.andT (Ord.andT (Ord.andT (Ord.andT (Ord.andT (Ord.andT (Ord.andT (Ord.andT cl0 Ord.c1) Ord.c2) cl3) cl4) cl5) Ord.c6) cl7) Ord.c8) cl9) cl10) cl11) cl12) cl13) cl14) cl15) cl16) cl17) cl18) cl19) cl20) cl21) cl22) cl23) Ord.c24) Ord.c25) cl26) cl27) ?_) cl29) cl30) cl31)
  kernel_rfl
theorem wrapped_ : Try.f6.isWrapper Try.pinned.checked.prog Rows.fnExactVirtualIdsRow.wrapper Rows.fnExactVirtualIdsRow.mainSum := by unfold Func.isWrapper; first | (rw [if_pos (by decide +kernel)]; kernel_rfl) | (rw [if_neg (by decide +kernel)]; exact ⟨rfl, rfl⟩)
theorem instance_ : Try.f6.isInstance Try.pinned.checked.prog Rows.fnExactVirtualIdsRow.origin Rows.fnExactVirtualIdsRow.targs := (of_decide_eq_true (by kernel_rfl))
theorem over : Rows.fnExactVirtualIdsRow.holds Try.pinned (OpenSpec.ofChange Rows.fnExactVirtualIdsSpec) :=
  OpenClaim.holds_of_wide 6 Try.f6 rfl rfl rfl rfl rfl rfl rfl ⟨rfl, rfl, rfl, rfl, rfl⟩ rfl rfl rfl rfl rfl named_ Try.func6 closed_
    instance_ wrapped_
    (fun os started H enc _ => lifted os started H enc)
theorem proved : Rows.FnExactVirtualIdsSaid := over
end Go.Proofs.Ytdolbkocghgibaa.fnExactVirtualIds
namespace Go.Proofs.Ytdolbkocghgibaa
/-- The row, under a short name, for the claim. -/
theorem fnExactVirtualIds_holds : Rows.FnExactVirtualIdsSaid := fnExactVirtualIds.proved
#print axioms fnExactVirtualIds_holds
end Go.Proofs.Ytdolbkocghgibaa

/- The row of the law FnExactGrantsOk, out of its pure statement and the contract laws_FnExactGrantsOk.calls. Written by rowgen.py (a program of this session's). No condition. -/
import Derived.Test.YtdolbkocghgibaaRows
import Derived.Test.YtdolbkocghgibaaPFnExactGrantsOkx2
import Derived.Test.YtdolbkocghgibaaOpn
import Derived.Test.YtdolbkocghgibaaOrd
import Derived.Test.YtdolbkocghgibaaPureFnExactGrantsOk
import Derived.WalkKit
import Derived.ProofKit
import Derived.OpenShut
import Derived.ShutString
import Derived.ChangeOld
import Derived.Below
import Derived.SizedLaws
import Derived.Carry
namespace Go.Proofs.Ytdolbkocghgibaa.fnExactGrantsOk
open Go.ChangeShapes Go.WideShapes Go.ChangeAt Go.RowKit Go.Proofs.YtdolbkocghgibaaW.PrintWords Go.Proofs.YtdolbkocghgibaaW.PrintLast Go.Proofs.Ytdolbkocghgibaa.PFnExactGrantsOk Go.Proofs.Ytdolbkocghgibaa.Pure
set_option linter.unusedVariables false
set_option linter.unusedSimpArgs false
theorem own : ownKnob Try.prog.godebug = none := by kernel_rfl
theorem laidOut : laidOutB Try.prog = true := by kernel_rfl
theorem opens99 {H : Type} {enc : TypeId × Value → H} : Opn.Opens enc Try.prog 99 k99 Pure.wf99 :=
  (Opn.opens_iso (fun x : S99 => (x.f0, x.f1, x.f2, x.f3)) (fun p => (⟨p.1, p.2.1, p.2.2.1, p.2.2.2⟩ : S99)) (fun _ => rfl) (Opn.opens_struct Try.underlying99 (by kernel_rfl) (Opn.opensAt_cons rfl (by kernel_rfl) (Opn.opens_int Try.underlying3) (Opn.opensAt_cons rfl (by kernel_rfl) (Opn.opens_int Try.underlying3) (Opn.opensAt_cons rfl (by kernel_rfl) (Opn.opens_int Try.underlying3) (Opn.opensAt_one rfl (by kernel_rfl) (Opn.opens_bool Try.underlying4))))))).imp (fun x h => by simpa only [Pure.wf99] using h)
set_option maxRecDepth 100000 in
theorem lifted (os : Os) (started : os.Started) (H : Type) (enc : TypeId × Value → H) :
    ReturnsInHanded {} Try.checked os 4 .any (Rows.fnExactGrantsOkSpec.pre6 enc Try.prog Try.f4 Rows.fnExactGrantsOkRow.domain false) (Rows.fnExactGrantsOkSpec.post enc Try.prog Try.f4 false true false false) := by
  refine returnsInHanded_of_change_sized (C := Try.checked) own started (by kernel_rfl) Try.func4
    (ChangeSpec.witness6 (enc := enc) (C := Try.checked) false ⟨#[], #[.slice none 0 0], []⟩ 8 (by kernel_rfl) (by kernel_rfl) (by kernel_rfl) (by kernel_rfl)) ?_
  intro W base args ds gs before hval0 hW hcnd hsz0 _
  have hsz : (DataW.weightsEach Try.prog (Try.f4.params.toList ++ Rows.fnExactGrantsOkSpec.plain.varTypes Try.prog) (ds ++ gs)).all (· ≤ reachBytes) = true := hsz0
  have hval : ∀ (j : Nat) t v, Try.f4.params[j]? = some t → args[j]? = some v → Value.okWide Try.prog W .any base t v := hval0
  have hW' := hW
  obtain ⟨p, q, hA0, hV, rfl, hfz, hnd⟩ := hW
  have hA : DataW.TrodAll enc Try.prog W 0 (fun _ => true) true Try.f4.params.toList args.toList ds p := hA0
  rw [Try.params4] at hA hval hsz
  obtain ⟨v0, vs0, d0, ds0, p0, q0, hargs, rfl, rfl, h0, r0⟩ := trodAll_cons hA
  obtain ⟨rfl, rfl, rfl⟩ := trodAll_nil r0
  obtain rfl : args = #[v0] := by cases args; simp_all
  obtain ⟨rfl, rfl⟩ := trodVars_none hV
  have k0 := h0
  have lt0 : ∀ x ∈ p0, x.block < W.heap.size := by obtain ⟨m, hm⟩ := k0; exact DataW.trod_lt m _ _ _ hm
  obtain ⟨x0, hk0, hw0⟩ := Opn.Opens.arg (Opn.opens_slice (B := 32) Try.underlying28 (by kernel_rfl) (by kernel_rfl) opens99) hsz (j := 0) (t := 28) rfl rfl h0
  obtain ⟨a0, len0, cap0, rfl⟩ := okWide_slice Try.underlying28 (hval 0 28 v0 rfl rfl)
  obtain ⟨A0, c0, hcs0, hc0, hr0⟩ := hk0
  simp [Value.cells] at hcs0
  obtain ⟨rfl, rfl, rfl⟩ := hcs0
  clear hA0 hval0 hsz0 hsz
  obtain ⟨k, h⟩ := Pure.FnExactGrantsOk x0 hw0
  refine (laws_FnExactGrantsOk.calls k _ _ x0 true W hr0 hc0 h).mono fun e W' ⟨he, bel0⟩ => ?_
  have bel : Below W.heap.size W W' := bel0
  subst he
  exact ⟨_, rfl, _, _, _, [], _, [], hW', trodAll_mk1 (shut_bool Try.underlying4 _), (trodAll_cons_mk (Below.trod laidOut (by kernel_rfl) (of_decide_eq_true (by kernel_rfl)) k0 bel lt0) trodAll_mk0), rfl, bel.frame _, fun h => by cases h⟩
theorem named_ : Try.pinned.checked.prog.funcNamed Rows.fnExactGrantsOkRow.func = some 4 := by kernel_rfl
theorem cl0 : (Rows.fnExactGrantsOkRow.wf (OpenSpec.ofChange Rows.fnExactGrantsOkSpec)) = true := by kernel_rfl
theorem cl3 : (Try.f4.params.all (Try.pinned.checked.prog.readableRec ·)) = true := by kernel_rfl
theorem cl4 : (namedTie Try.pinned.checked.prog Rows.fnExactGrantsOkRow.named Rows.fnExactGrantsOkSpec.vars) = true := by kernel_rfl
theorem cl5 : ((Rows.fnExactGrantsOkRow.stops == [])) = true := by kernel_rfl
theorem cl7 : ((Rows.fnExactGrantsOkRow.knobs == [])) = true := by kernel_rfl
theorem cl9 : ((Rows.fnExactGrantsOkRow.inPlace == Try.pinned.checked.prog.inPlace 4)) = true := by kernel_rfl
theorem cl10 : ((Rows.fnExactGrantsOkRow.unfollowed == Try.pinned.checked.prog.unfollowed 4)) = true := by kernel_rfl
theorem cl11 : ((Rows.fnExactGrantsOkRow.recurses == Try.pinned.checked.prog.recurses 4)) = true := by kernel_rfl
theorem cl12 : ((Rows.fnExactGrantsOkRow.named == Try.pinned.checked.prog.varsNamed 4)) = true := by kernel_rfl
theorem cl13 : ((Rows.fnExactGrantsOkRow.maps == (Try.f4.params.toList ++ Rows.fnExactGrantsOkSpec.plain.varTypes Try.pinned.checked.prog).any (Try.pinned.checked.prog.mapsRec ·))) = true := by kernel_rfl
theorem cl14 : ((Rows.fnExactGrantsOkRow.ifaces == (Try.f4.params.toList ++ Rows.fnExactGrantsOkSpec.plain.varTypes Try.pinned.checked.prog).any (Try.pinned.checked.prog.ifacesRec ·))) = true := by kernel_rfl
theorem cl15 : ((Rows.fnExactGrantsOkRow.mapsOut == Try.pinned.checked.prog.mapsAmong Try.f4.resultTypes.toList)) = true := by kernel_rfl
theorem cl16 : ((Rows.fnExactGrantsOkRow.loops == (Try.f4.params.toList ++ Rows.fnExactGrantsOkSpec.plain.varTypes Try.pinned.checked.prog).any (Try.pinned.checked.prog.loopsFrom ·))) = true := by kernel_rfl
theorem cl17 : ((Rows.fnExactGrantsOkRow.wideKeys == (Try.f4.params.toList ++ Rows.fnExactGrantsOkSpec.plain.varTypes Try.pinned.checked.prog ++ Try.f4.resultTypes.toList).any (Try.pinned.checked.prog.wideKeysFrom ·))) = true := by kernel_rfl
theorem cl18 : (Rows.fnExactGrantsOkSpec.vars.all (Try.pinned.checked.prog.varReadable ·)) = true := by kernel_rfl
theorem cl19 : (Try.f4.resultTypes.all (fun t => Try.pinned.checked.prog.readableRec t && decide (t < Try.pinned.checked.prog.types.size))) = true := by kernel_rfl
theorem cl20 : ((Rows.fnExactGrantsOkRow.ifacesOut == Try.f4.resultTypes.toList.any (Try.pinned.checked.prog.ifacesRec ·))) = true := by kernel_rfl
theorem cl21 : ((Rows.fnExactGrantsOkRow.loopsOut == Try.f4.resultTypes.toList.any (Try.pinned.checked.prog.loopsFrom ·))) = true := by kernel_rfl
theorem cl22 : ((Rows.fnExactGrantsOkRow.plainKeys == Try.pinned.checked.prog.plainKeys)) = true := by kernel_rfl
theorem cl23 : (Rows.fnExactGrantsOkRow.shortTexts.isNone) = true := by kernel_rfl
theorem cl26 : ((Rows.fnExactGrantsOkRow.lifted == Try.pinned.checked.prog.liftsFinal)) = true := by rw [Ord.c26]; kernel_rfl
theorem cl27 : ((Try.pinned.checked.prog.make == some Rows.fnExactGrantsOkRow.make)) = true := by rw [Ord.c27]; kernel_rfl
theorem cl29 : ((Rows.fnExactGrantsOkRow.pinned == Rows.fnExactGrantsOkRow.pinnedBy)) = true := by kernel_rfl
theorem cl30 : ((Rows.fnExactGrantsOkRow.veiled == (Try.f4.params.toList ++ Rows.fnExactGrantsOkSpec.plain.varTypes Try.pinned.checked.prog ++ Try.f4.resultTypes.toList).any (Try.pinned.checked.prog.veiledRec ·))) = true := by kernel_rfl
theorem cl31 : (Rows.fnExactGrantsOkRow.veiledFits Try.pinned.checked.prog Try.f4.params.toList (Try.f4.params.toList ++ Rows.fnExactGrantsOkSpec.plain.varTypes Try.pinned.checked.prog ++ Try.f4.resultTypes.toList)) = true := by kernel_rfl
theorem closed_ : joinedFacts Try.pinned.checked.prog 4 Try.f4 Rows.fnExactGrantsOkSpec Rows.fnExactGrantsOkRow = true := by
  unfold joinedFacts
  refine (Ord.andT (Ord.andT (Ord.andT (Ord.andT (Ord.andT (Ord.andT (Ord.andT (Ord.andT (Ord.andT (Ord.andT (Ord.andT (Ord.andT (Ord.andT (Ord.andT (Ord.andT (Ord.andT (Ord.andT (Ord.andT (Ord.andT (Ord.andT (Ord.andT (Ord.andT (Ord.andT (Ord.andT (Ord.andT (Ord.andT (Ord.andT (Ord.andT (Ord.andT (Ord.andT (Ord.andT cl0 Ord.c1) Ord.c2) cl3) cl4) cl5) Ord.c6) cl7) Ord.c8) cl9) cl10) cl11) cl12) cl13) cl14) cl15) cl16) cl17) cl18) cl19) cl20) cl21) cl22) cl23) Ord.c24) Ord.c25) cl26) cl27) ?_) cl29) cl30) cl31)
  kernel_rfl
theorem wrapped_ : Try.f4.isWrapper Try.pinned.checked.prog Rows.fnExactGrantsOkRow.wrapper Rows.fnExactGrantsOkRow.mainSum := by unfold Func.isWrapper; first | (rw [if_pos (by decide +kernel)]; kernel_rfl) | (rw [if_neg (by decide +kernel)]; exact ⟨rfl, rfl⟩)
theorem instance_ : Try.f4.isInstance Try.pinned.checked.prog Rows.fnExactGrantsOkRow.origin Rows.fnExactGrantsOkRow.targs := (of_decide_eq_true (by kernel_rfl))
theorem over : Rows.fnExactGrantsOkRow.holds Try.pinned (OpenSpec.ofChange Rows.fnExactGrantsOkSpec) :=
  OpenClaim.holds_of_wide 4 Try.f4 rfl rfl rfl rfl rfl rfl rfl ⟨rfl, rfl, rfl, rfl, rfl⟩ rfl rfl rfl rfl rfl named_ Try.func4 closed_
    instance_ wrapped_
    (fun os started H enc _ => lifted os started H enc)
theorem proved : Rows.FnExactGrantsOkSaid := over
end Go.Proofs.Ytdolbkocghgibaa.fnExactGrantsOk
namespace Go.Proofs.Ytdolbkocghgibaa
/-- The row, under a short name, for the claim. -/
theorem fnExactGrantsOk_holds : Rows.FnExactGrantsOkSaid := fnExactGrantsOk.proved
#print axioms fnExactGrantsOk_holds
end Go.Proofs.Ytdolbkocghgibaa

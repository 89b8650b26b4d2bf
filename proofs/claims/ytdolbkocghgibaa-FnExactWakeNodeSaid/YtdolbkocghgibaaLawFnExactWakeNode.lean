/- The row of the law FnExactWakeNode, out of its pure statement and the contract laws_FnExactWakeNode.calls. Written by rowgen.py (a program of this session's). No condition. -/
import Derived.Test.YtdolbkocghgibaaRows
import Derived.Test.YtdolbkocghgibaaPFnExactWakeNodex9
import Derived.Test.YtdolbkocghgibaaOpn
import Derived.Test.YtdolbkocghgibaaOrd
import Derived.Test.YtdolbkocghgibaaPureFnExactWakeNode
import Derived.WalkKit
import Derived.ProofKit
import Derived.OpenShut
import Derived.ShutString
import Derived.ChangeOld
import Derived.Below
import Derived.SizedLaws
import Derived.Carry
namespace Go.Proofs.Ytdolbkocghgibaa.fnExactWakeNode
open Go.ChangeShapes Go.WideShapes Go.ChangeAt Go.RowKit Go.Proofs.YtdolbkocghgibaaW.PrintWords Go.Proofs.YtdolbkocghgibaaW.PrintLast Go.Proofs.Ytdolbkocghgibaa.PFnExactWakeNode Go.Proofs.Ytdolbkocghgibaa.Pure
set_option linter.unusedVariables false
set_option linter.unusedSimpArgs false
theorem own : ownKnob Try.prog.godebug = none := by kernel_rfl
theorem laidOut : laidOutB Try.prog = true := by kernel_rfl
theorem opens92 {H : Type} {enc : TypeId × Value → H} : Opn.Opens enc Try.prog 92 k92 Pure.wf92 :=
  (Opn.opens_iso (fun x : S92 => (x.f0, x.f1, x.f2)) (fun p => (⟨p.1, p.2.1, p.2.2⟩ : S92)) (fun _ => rfl) (Opn.opens_struct Try.underlying92 (by kernel_rfl) (Opn.opensAt_cons rfl (by kernel_rfl) (Opn.opens_int Try.underlying3) (Opn.opensAt_cons rfl (by kernel_rfl) (Opn.opens_int Try.underlying3) (Opn.opensAt_one rfl (by kernel_rfl) (Opn.opens_int Try.underlying3)))))).imp (fun x h => by simpa only [Pure.wf92] using h)
set_option maxRecDepth 100000 in
theorem lifted (os : Os) (started : os.Started) (H : Type) (enc : TypeId × Value → H) :
    ReturnsInHanded {} Try.checked os 22 .any (Rows.fnExactWakeNodeSpec.pre6 enc Try.prog Try.f22 Rows.fnExactWakeNodeRow.domain false) (Rows.fnExactWakeNodeSpec.post enc Try.prog Try.f22 false true false false) := by
  refine returnsInHanded_of_change_sized (C := Try.checked) own started (by kernel_rfl) Try.func22
    (ChangeSpec.witness6 (enc := enc) (C := Try.checked) false ⟨#[], #[.slice none 0 0, .slice none 0 0, .int .i64 0], []⟩ 8 (by kernel_rfl) (by kernel_rfl) (by kernel_rfl) (by kernel_rfl)) ?_
  intro W base args ds gs before hval0 hW hcnd hsz0 _
  have hsz : (DataW.weightsEach Try.prog (Try.f22.params.toList ++ Rows.fnExactWakeNodeSpec.plain.varTypes Try.prog) (ds ++ gs)).all (· ≤ reachBytes) = true := hsz0
  have hval : ∀ (j : Nat) t v, Try.f22.params[j]? = some t → args[j]? = some v → Value.okWide Try.prog W .any base t v := hval0
  have hW' := hW
  obtain ⟨p, q, hA0, hV, rfl, hfz, hnd⟩ := hW
  have hA : DataW.TrodAll enc Try.prog W 0 (fun _ => true) true Try.f22.params.toList args.toList ds p := hA0
  rw [Try.params22] at hA hval hsz
  obtain ⟨v0, vs0, d0, ds0, p0, q0, hargs, rfl, rfl, h0, r0⟩ := trodAll_cons hA
  obtain ⟨v1, vs1, d1, ds1, p1, q1, rfl, rfl, rfl, h1, r1⟩ := trodAll_cons r0
  obtain ⟨v2, vs2, d2, ds2, p2, q2, rfl, rfl, rfl, h2, r2⟩ := trodAll_cons r1
  obtain ⟨rfl, rfl, rfl⟩ := trodAll_nil r2
  obtain rfl : args = #[v0, v1, v2] := by cases args; simp_all
  obtain ⟨rfl, rfl⟩ := trodVars_none hV
  have k0 := h0
  have lt0 : ∀ x ∈ p0, x.block < W.heap.size := by obtain ⟨m, hm⟩ := k0; exact DataW.trod_lt m _ _ _ hm
  obtain ⟨x0, hk0, hw0⟩ := Opn.Opens.arg (Opn.opens_slice (B := 24) Try.underlying22 (by kernel_rfl) (by kernel_rfl) opens92) hsz (j := 0) (t := 22) rfl rfl h0
  obtain ⟨a0, len0, cap0, rfl⟩ := okWide_slice Try.underlying22 (hval 0 22 v0 rfl rfl)
  obtain ⟨A0, c0, hcs0, hc0, hr0⟩ := hk0
  simp [Value.cells] at hcs0
  obtain ⟨rfl, rfl, rfl⟩ := hcs0
  have k1 := h1
  have lt1 : ∀ x ∈ p1, x.block < W.heap.size := by obtain ⟨m, hm⟩ := k1; exact DataW.trod_lt m _ _ _ hm
  obtain ⟨x1, hk1, hw1⟩ := Opn.Opens.arg (Opn.opens_slice (B := 8) Try.underlying41 (by kernel_rfl) (by kernel_rfl) (Opn.opens_int Try.underlying3)) hsz (j := 1) (t := 41) rfl rfl h1
  obtain ⟨a1, len1, cap1, rfl⟩ := okWide_slice Try.underlying41 (hval 1 41 v1 rfl rfl)
  obtain ⟨A1, c1, hcs1, hc1, hr1⟩ := hk1
  simp [Value.cells] at hcs1
  obtain ⟨rfl, rfl, rfl⟩ := hcs1
  have k2 := h2
  have lt2 : ∀ x ∈ p2, x.block < W.heap.size := by obtain ⟨m, hm⟩ := k2; exact DataW.trod_lt m _ _ _ hm
  obtain ⟨x2, hk2, hw2⟩ := Opn.Opens.arg (Opn.opens_int Try.underlying3) hsz (j := 2) (t := 3) rfl rfl h2
  obtain ⟨y2, rfl⟩ := okWide_int Try.underlying3 (hval 2 3 v2 rfl rfl)
  have hcs2 : [_] = [_] := hk2
  simp at hcs2
  replace hcs2 := hcs2.symm
  subst hcs2
  clear hA0 hval0 hsz0 hsz
  obtain ⟨k, h⟩ := Pure.FnExactWakeNode x0 x1 x2 hw0 hw1 hw2
  refine (laws_FnExactWakeNode.calls k _ _ x0 _ _ x1 x2 true W hr0 hc0 hr1 hc1 h).mono fun e W' ⟨he, bel0⟩ => ?_
  have bel : Below W.heap.size W W' := bel0
  subst he
  exact ⟨_, rfl, _, _, _, [], _, [], hW', trodAll_mk1 (shut_bool Try.underlying4 _), (trodAll_cons_mk (Below.trod laidOut (by kernel_rfl) (of_decide_eq_true (by kernel_rfl)) k0 bel lt0) (trodAll_cons_mk (Below.trod laidOut (by kernel_rfl) (of_decide_eq_true (by kernel_rfl)) k1 bel lt1) (trodAll_cons_mk (Below.trod laidOut (by kernel_rfl) (of_decide_eq_true (by kernel_rfl)) k2 bel lt2) trodAll_mk0))), rfl, bel.frame _, fun h => by cases h⟩
theorem named_ : Try.pinned.checked.prog.funcNamed Rows.fnExactWakeNodeRow.func = some 22 := by kernel_rfl
theorem cl0 : (Rows.fnExactWakeNodeRow.wf (OpenSpec.ofChange Rows.fnExactWakeNodeSpec)) = true := by kernel_rfl
theorem cl3 : (Try.f22.params.all (Try.pinned.checked.prog.readableRec ·)) = true := by kernel_rfl
theorem cl4 : (namedTie Try.pinned.checked.prog Rows.fnExactWakeNodeRow.named Rows.fnExactWakeNodeSpec.vars) = true := by kernel_rfl
theorem cl5 : ((Rows.fnExactWakeNodeRow.stops == [])) = true := by kernel_rfl
theorem cl7 : ((Rows.fnExactWakeNodeRow.knobs == [])) = true := by kernel_rfl
theorem cl9 : ((Rows.fnExactWakeNodeRow.inPlace == Try.pinned.checked.prog.inPlace 22)) = true := by kernel_rfl
theorem cl10 : ((Rows.fnExactWakeNodeRow.unfollowed == Try.pinned.checked.prog.unfollowed 22)) = true := by kernel_rfl
theorem cl11 : ((Rows.fnExactWakeNodeRow.recurses == Try.pinned.checked.prog.recurses 22)) = true := by kernel_rfl
theorem cl12 : ((Rows.fnExactWakeNodeRow.named == Try.pinned.checked.prog.varsNamed 22)) = true := by kernel_rfl
theorem cl13 : ((Rows.fnExactWakeNodeRow.maps == (Try.f22.params.toList ++ Rows.fnExactWakeNodeSpec.plain.varTypes Try.pinned.checked.prog).any (Try.pinned.checked.prog.mapsRec ·))) = true := by kernel_rfl
theorem cl14 : ((Rows.fnExactWakeNodeRow.ifaces == (Try.f22.params.toList ++ Rows.fnExactWakeNodeSpec.plain.varTypes Try.pinned.checked.prog).any (Try.pinned.checked.prog.ifacesRec ·))) = true := by kernel_rfl
theorem cl15 : ((Rows.fnExactWakeNodeRow.mapsOut == Try.pinned.checked.prog.mapsAmong Try.f22.resultTypes.toList)) = true := by kernel_rfl
theorem cl16 : ((Rows.fnExactWakeNodeRow.loops == (Try.f22.params.toList ++ Rows.fnExactWakeNodeSpec.plain.varTypes Try.pinned.checked.prog).any (Try.pinned.checked.prog.loopsFrom ·))) = true := by kernel_rfl
theorem cl17 : ((Rows.fnExactWakeNodeRow.wideKeys == (Try.f22.params.toList ++ Rows.fnExactWakeNodeSpec.plain.varTypes Try.pinned.checked.prog ++ Try.f22.resultTypes.toList).any (Try.pinned.checked.prog.wideKeysFrom ·))) = true := by kernel_rfl
theorem cl18 : (Rows.fnExactWakeNodeSpec.vars.all (Try.pinned.checked.prog.varReadable ·)) = true := by kernel_rfl
theorem cl19 : (Try.f22.resultTypes.all (fun t => Try.pinned.checked.prog.readableRec t && decide (t < Try.pinned.checked.prog.types.size))) = true := by kernel_rfl
theorem cl20 : ((Rows.fnExactWakeNodeRow.ifacesOut == Try.f22.resultTypes.toList.any (Try.pinned.checked.prog.ifacesRec ·))) = true := by kernel_rfl
theorem cl21 : ((Rows.fnExactWakeNodeRow.loopsOut == Try.f22.resultTypes.toList.any (Try.pinned.checked.prog.loopsFrom ·))) = true := by kernel_rfl
theorem cl22 : ((Rows.fnExactWakeNodeRow.plainKeys == Try.pinned.checked.prog.plainKeys)) = true := by kernel_rfl
theorem cl23 : (Rows.fnExactWakeNodeRow.shortTexts.isNone) = true := by kernel_rfl
theorem cl26 : ((Rows.fnExactWakeNodeRow.lifted == Try.pinned.checked.prog.liftsFinal)) = true := by rw [Ord.c26]; kernel_rfl
theorem cl27 : ((Try.pinned.checked.prog.make == some Rows.fnExactWakeNodeRow.make)) = true := by rw [Ord.c27]; kernel_rfl
theorem cl29 : ((Rows.fnExactWakeNodeRow.pinned == Rows.fnExactWakeNodeRow.pinnedBy)) = true := by kernel_rfl
theorem cl30 : ((Rows.fnExactWakeNodeRow.veiled == (Try.f22.params.toList ++ Rows.fnExactWakeNodeSpec.plain.varTypes Try.pinned.checked.prog ++ Try.f22.resultTypes.toList).any (Try.pinned.checked.prog.veiledRec ·))) = true := by kernel_rfl
theorem cl31 : (Rows.fnExactWakeNodeRow.veiledFits Try.pinned.checked.prog Try.f22.params.toList (Try.f22.params.toList ++ Rows.fnExactWakeNodeSpec.plain.varTypes Try.pinned.checked.prog ++ Try.f22.resultTypes.toList)) = true := by kernel_rfl
theorem closed_ : joinedFacts Try.pinned.checked.prog 22 Try.f22 Rows.fnExactWakeNodeSpec Rows.fnExactWakeNodeRow = true := by
  unfold joinedFacts
  refine (Ord.andT (Ord.andT (Ord.andT (Ord.andT (Ord.andT (Ord.andT (Ord.andT (Ord.andT (Ord.andT (Ord.andT (Ord.andT (Ord.andT (Ord.andT (Ord.andT (Ord.andT (Ord.andT (Ord.andT (Ord.andT (Ord.andT (Ord.andT (Ord.andT (Ord.andT (Ord.andT (Ord.andT (Ord.andT (Ord.andT (Ord.andT (Ord.andT (Ord.andT (Ord.andT (Ord.andT cl0 Ord.c1) Ord.c2) cl3) cl4) cl5) Ord.c6) cl7) Ord.c8) cl9) cl10) cl11) cl12) cl13) cl14) cl15) cl16) cl17) cl18) cl19) cl20) cl21) cl22) cl23) Ord.c24) Ord.c25) cl26) cl27) ?_) cl29) cl30) cl31)
  kernel_rfl
theorem wrapped_ : Try.f22.isWrapper Try.pinned.checked.prog Rows.fnExactWakeNodeRow.wrapper Rows.fnExactWakeNodeRow.mainSum := by unfold Func.isWrapper; first | (rw [if_pos (by decide +kernel)]; kernel_rfl) | (rw [if_neg (by decide +kernel)]; exact ⟨rfl, rfl⟩)
theorem instance_ : Try.f22.isInstance Try.pinned.checked.prog Rows.fnExactWakeNodeRow.origin Rows.fnExactWakeNodeRow.targs := (of_decide_eq_true (by kernel_rfl))
theorem over : Rows.fnExactWakeNodeRow.holds Try.pinned (OpenSpec.ofChange Rows.fnExactWakeNodeSpec) :=
  OpenClaim.holds_of_wide 22 Try.f22 rfl rfl rfl rfl rfl rfl rfl ⟨rfl, rfl, rfl, rfl, rfl⟩ rfl rfl rfl rfl rfl named_ Try.func22 closed_
    instance_ wrapped_
    (fun os started H enc _ => lifted os started H enc)
theorem proved : Rows.FnExactWakeNodeSaid := over
end Go.Proofs.Ytdolbkocghgibaa.fnExactWakeNode
namespace Go.Proofs.Ytdolbkocghgibaa
/-- The row, under a short name, for the claim. -/
theorem fnExactWakeNode_holds : Rows.FnExactWakeNodeSaid := fnExactWakeNode.proved
#print axioms fnExactWakeNode_holds
end Go.Proofs.Ytdolbkocghgibaa

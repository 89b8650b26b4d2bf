/- The row of the law FnExactSettleSleep, out of its pure statement and the contract laws_FnExactSettleSleep.calls. Written by rowgen.py (a program of this session's). No condition. -/
import Derived.Test.YtdolbkocghgibaaRows
import Derived.Test.YtdolbkocghgibaaPFnExactSettleSleepx7
import Derived.Test.YtdolbkocghgibaaOpn
import Derived.Test.YtdolbkocghgibaaOrd
import Derived.Test.YtdolbkocghgibaaPureFnExactSettleSleep
import Derived.WalkKit
import Derived.ProofKit
import Derived.OpenShut
import Derived.ShutString
import Derived.ChangeOld
import Derived.Below
import Derived.SizedLaws
import Derived.Carry
namespace Go.Proofs.Ytdolbkocghgibaa.fnExactSettleSleep
open Go.ChangeShapes Go.WideShapes Go.ChangeAt Go.RowKit Go.Proofs.YtdolbkocghgibaaW.PrintWords Go.Proofs.YtdolbkocghgibaaW.PrintLast Go.Proofs.Ytdolbkocghgibaa.PFnExactSettleSleep Go.Proofs.Ytdolbkocghgibaa.Pure
set_option linter.unusedVariables false
set_option linter.unusedSimpArgs false
theorem own : ownKnob Try.prog.godebug = none := by kernel_rfl
theorem laidOut : laidOutB Try.prog = true := by kernel_rfl
theorem opens92 {H : Type} {enc : TypeId × Value → H} : Opn.Opens enc Try.prog 92 k92 Pure.wf92 :=
  (Opn.opens_iso (fun x : S92 => (x.f0, x.f1, x.f2)) (fun p => (⟨p.1, p.2.1, p.2.2⟩ : S92)) (fun _ => rfl) (Opn.opens_struct Try.underlying92 (by kernel_rfl) (Opn.opensAt_cons rfl (by kernel_rfl) (Opn.opens_int Try.underlying3) (Opn.opensAt_cons rfl (by kernel_rfl) (Opn.opens_int Try.underlying3) (Opn.opensAt_one rfl (by kernel_rfl) (Opn.opens_int Try.underlying3)))))).imp (fun x h => by simpa only [Pure.wf92] using h)
set_option maxRecDepth 100000 in
theorem lifted (os : Os) (started : os.Started) (H : Type) (enc : TypeId × Value → H) :
    ReturnsInHanded {} Try.checked os 17 .any (Rows.fnExactSettleSleepSpec.pre6 enc Try.prog Try.f17 Rows.fnExactSettleSleepRow.domain false) (Rows.fnExactSettleSleepSpec.post enc Try.prog Try.f17 false true false false) := by
  refine returnsInHanded_of_change_sized (C := Try.checked) own started (by kernel_rfl) Try.func17
    (ChangeSpec.witness6 (enc := enc) (C := Try.checked) false ⟨#[], #[.slice none 0 0, .slice none 0 0], []⟩ 8 (by kernel_rfl) (by kernel_rfl) (by kernel_rfl) (by kernel_rfl)) ?_
  intro W base args ds gs before hval0 hW hcnd hsz0 _
  have hsz : (DataW.weightsEach Try.prog (Try.f17.params.toList ++ Rows.fnExactSettleSleepSpec.plain.varTypes Try.prog) (ds ++ gs)).all (· ≤ reachBytes) = true := hsz0
  have hval : ∀ (j : Nat) t v, Try.f17.params[j]? = some t → args[j]? = some v → Value.okWide Try.prog W .any base t v := hval0
  have hW' := hW
  obtain ⟨p, q, hA0, hV, rfl, hfz, hnd⟩ := hW
  have hA : DataW.TrodAll enc Try.prog W 0 (fun _ => true) true Try.f17.params.toList args.toList ds p := hA0
  rw [Try.params17] at hA hval hsz
  obtain ⟨v0, vs0, d0, ds0, p0, q0, hargs, rfl, rfl, h0, r0⟩ := trodAll_cons hA
  obtain ⟨v1, vs1, d1, ds1, p1, q1, rfl, rfl, rfl, h1, r1⟩ := trodAll_cons r0
  obtain ⟨rfl, rfl, rfl⟩ := trodAll_nil r1
  obtain rfl : args = #[v0, v1] := by cases args; simp_all
  obtain ⟨rfl, rfl⟩ := trodVars_none hV
  have k0 := h0
  have lt0 : ∀ x ∈ p0, x.block < W.heap.size := by obtain ⟨m, hm⟩ := k0; exact DataW.trod_lt m _ _ _ hm
  obtain ⟨x0, hk0, hw0⟩ := Opn.Opens.arg (Opn.opens_slice (B := 24) Try.underlying22 (by kernel_rfl) (by kernel_rfl) opens92) hsz (j := 0) (t := 22) rfl rfl h0
  obtain ⟨a0, len0, cap0, rfl⟩ := okWide_slice Try.underlying22 (hval 0 22 v0 rfl rfl)
  obtain ⟨A0, c0, hcs0, hc0, hr0⟩ := hk0
  simp [Value.cells] at hcs0
  obtain ⟨rfl, rfl, rfl⟩ := hcs0
  have k1 := h1
  have lt1 : ∀ x ∈ p1, x.block < W.heap.size := by obtain ⟨m, hm⟩ := k1; exact DataW.trod_lt m _ _ _ hm
  obtain ⟨x1, hk1, hw1⟩ := Opn.Opens.arg (Opn.opens_slice (B := 8) Try.underlying41 (by kernel_rfl) (by kernel_rfl) (Opn.opens_int Try.underlying3)) hsz (j := 1) (t := 41) rfl rfl h1
  obtain ⟨a1, len1, cap1, rfl⟩ := okWide_slice Try.underlying41 (hval 1 41 v1 rfl rfl)
  obtain ⟨A1, c1, hcs1, hc1, hr1⟩ := hk1
  simp [Value.cells] at hcs1
  obtain ⟨rfl, rfl, rfl⟩ := hcs1
  clear hA0 hval0 hsz0 hsz
  obtain ⟨k, h⟩ := Pure.FnExactSettleSleep x0 x1 hw0 hw1
  refine (laws_FnExactSettleSleep.calls k _ _ x0 _ _ x1 true W hr0 hc0 hr1 hc1 h).mono fun e W' ⟨he, bel0⟩ => ?_
  have bel : Below W.heap.size W W' := bel0
  subst he
  exact ⟨_, rfl, _, _, _, [], _, [], hW', trodAll_mk1 (shut_bool Try.underlying4 _), (trodAll_cons_mk (Below.trod laidOut (by kernel_rfl) (of_decide_eq_true (by kernel_rfl)) k0 bel lt0) (trodAll_cons_mk (Below.trod laidOut (by kernel_rfl) (of_decide_eq_true (by kernel_rfl)) k1 bel lt1) trodAll_mk0)), rfl, bel.frame _, fun h => by cases h⟩
theorem named_ : Try.pinned.checked.prog.funcNamed Rows.fnExactSettleSleepRow.func = some 17 := by kernel_rfl
theorem cl0 : (Rows.fnExactSettleSleepRow.wf (OpenSpec.ofChange Rows.fnExactSettleSleepSpec)) = true := by kernel_rfl
theorem cl3 : (Try.f17.params.all (Try.pinned.checked.prog.readableRec ·)) = true := by kernel_rfl
theorem cl4 : (namedTie Try.pinned.checked.prog Rows.fnExactSettleSleepRow.named Rows.fnExactSettleSleepSpec.vars) = true := by kernel_rfl
theorem cl5 : ((Rows.fnExactSettleSleepRow.stops == [])) = true := by kernel_rfl
theorem cl7 : ((Rows.fnExactSettleSleepRow.knobs == [])) = true := by kernel_rfl
theorem cl9 : ((Rows.fnExactSettleSleepRow.inPlace == Try.pinned.checked.prog.inPlace 17)) = true := by kernel_rfl
theorem cl10 : ((Rows.fnExactSettleSleepRow.unfollowed == Try.pinned.checked.prog.unfollowed 17)) = true := by kernel_rfl
theorem cl11 : ((Rows.fnExactSettleSleepRow.recurses == Try.pinned.checked.prog.recurses 17)) = true := by kernel_rfl
theorem cl12 : ((Rows.fnExactSettleSleepRow.named == Try.pinned.checked.prog.varsNamed 17)) = true := by kernel_rfl
theorem cl13 : ((Rows.fnExactSettleSleepRow.maps == (Try.f17.params.toList ++ Rows.fnExactSettleSleepSpec.plain.varTypes Try.pinned.checked.prog).any (Try.pinned.checked.prog.mapsRec ·))) = true := by kernel_rfl
theorem cl14 : ((Rows.fnExactSettleSleepRow.ifaces == (Try.f17.params.toList ++ Rows.fnExactSettleSleepSpec.plain.varTypes Try.pinned.checked.prog).any (Try.pinned.checked.prog.ifacesRec ·))) = true := by kernel_rfl
theorem cl15 : ((Rows.fnExactSettleSleepRow.mapsOut == Try.pinned.checked.prog.mapsAmong Try.f17.resultTypes.toList)) = true := by kernel_rfl
theorem cl16 : ((Rows.fnExactSettleSleepRow.loops == (Try.f17.params.toList ++ Rows.fnExactSettleSleepSpec.plain.varTypes Try.pinned.checked.prog).any (Try.pinned.checked.prog.loopsFrom ·))) = true := by kernel_rfl
theorem cl17 : ((Rows.fnExactSettleSleepRow.wideKeys == (Try.f17.params.toList ++ Rows.fnExactSettleSleepSpec.plain.varTypes Try.pinned.checked.prog ++ Try.f17.resultTypes.toList).any (Try.pinned.checked.prog.wideKeysFrom ·))) = true := by kernel_rfl
theorem cl18 : (Rows.fnExactSettleSleepSpec.vars.all (Try.pinned.checked.prog.varReadable ·)) = true := by kernel_rfl
theorem cl19 : (Try.f17.resultTypes.all (fun t => Try.pinned.checked.prog.readableRec t && decide (t < Try.pinned.checked.prog.types.size))) = true := by kernel_rfl
theorem cl20 : ((Rows.fnExactSettleSleepRow.ifacesOut == Try.f17.resultTypes.toList.any (Try.pinned.checked.prog.ifacesRec ·))) = true := by kernel_rfl
theorem cl21 : ((Rows.fnExactSettleSleepRow.loopsOut == Try.f17.resultTypes.toList.any (Try.pinned.checked.prog.loopsFrom ·))) = true := by kernel_rfl
theorem cl22 : ((Rows.fnExactSettleSleepRow.plainKeys == Try.pinned.checked.prog.plainKeys)) = true := by kernel_rfl
theorem cl23 : (Rows.fnExactSettleSleepRow.shortTexts.isNone) = true := by kernel_rfl
theorem cl26 : ((Rows.fnExactSettleSleepRow.lifted == Try.pinned.checked.prog.liftsFinal)) = true := by rw [Ord.c26]; kernel_rfl
theorem cl27 : ((Try.pinned.checked.prog.make == some Rows.fnExactSettleSleepRow.make)) = true := by rw [Ord.c27]; kernel_rfl
theorem cl29 : ((Rows.fnExactSettleSleepRow.pinned == Rows.fnExactSettleSleepRow.pinnedBy)) = true := by kernel_rfl
theorem cl30 : ((Rows.fnExactSettleSleepRow.veiled == (Try.f17.params.toList ++ Rows.fnExactSettleSleepSpec.plain.varTypes Try.pinned.checked.prog ++ Try.f17.resultTypes.toList).any (Try.pinned.checked.prog.veiledRec ·))) = true := by kernel_rfl
theorem cl31 : (Rows.fnExactSettleSleepRow.veiledFits Try.pinned.checked.prog Try.f17.params.toList (Try.f17.params.toList ++ Rows.fnExactSettleSleepSpec.plain.varTypes Try.pinned.checked.prog ++ Try.f17.resultTypes.toList)) = true := by kernel_rfl
theorem closed_ : joinedFacts Try.pinned.checked.prog 17 Try.f17 Rows.fnExactSettleSleepSpec Rows.fnExactSettleSleepRow = true := by
  unfold joinedFacts
  refine (Ord.andT (Ord.andT (Ord.andT (Ord.andT (Ord.andT (Ord.andT (Ord.andT (Ord.andT (Ord.andT (Ord.andT (Ord.andT (Ord.andT (Ord.andT (Ord.andT (Ord.andT (Ord.andT (Ord.andT (Ord.andT (Ord.andT (Ord.andT (Ord.andT (Ord.andT (Ord.andT (Ord.andT (Ord.andT (Ord.andT (Ord.andT (Ord.andT (Ord.andT (Ord.andT (Ord.andT cl0 Ord.c1) Ord.c2) cl3) cl4) cl5) Ord.c6) cl7) Ord.c8) cl9) cl10) cl11) cl12) cl13) cl14) cl15) cl16) cl17) cl18) cl19) cl20) cl21) cl22) cl23) Ord.c24) Ord.c25) cl26) cl27) ?_) cl29) cl30) cl31)
  kernel_rfl
theorem wrapped_ : Try.f17.isWrapper Try.pinned.checked.prog Rows.fnExactSettleSleepRow.wrapper Rows.fnExactSettleSleepRow.mainSum := by unfold Func.isWrapper; first | (rw [if_pos (by decide +kernel)]; kernel_rfl) | (rw [if_neg (by decide +kernel)]; exact ⟨rfl, rfl⟩)
theorem instance_ : Try.f17.isInstance Try.pinned.checked.prog Rows.fnExactSettleSleepRow.origin Rows.fnExactSettleSleepRow.targs := (of_decide_eq_true (by kernel_rfl))
theorem over : Rows.fnExactSettleSleepRow.holds Try.pinned (OpenSpec.ofChange Rows.fnExactSettleSleepSpec) :=
  OpenClaim.holds_of_wide 17 Try.f17 rfl rfl rfl rfl rfl rfl rfl ⟨rfl, rfl, rfl, rfl, rfl⟩ rfl rfl rfl rfl rfl named_ Try.func17 closed_
    instance_ wrapped_
    (fun os started H enc _ => lifted os started H enc)
theorem proved : Rows.FnExactSettleSleepSaid := over
end Go.Proofs.Ytdolbkocghgibaa.fnExactSettleSleep
namespace Go.Proofs.Ytdolbkocghgibaa
/-- The row, under a short name, for the claim. -/
theorem fnExactSettleSleep_holds : Rows.FnExactSettleSleepSaid := fnExactSettleSleep.proved
#print axioms fnExactSettleSleep_holds
end Go.Proofs.Ytdolbkocghgibaa

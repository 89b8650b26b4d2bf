/- The row of the law FnReports, out of its contract fnReports_vc. Written by rowgenv.py (a program of this session's). No condition. -/
import Derived.Test.YtoeblmcibheldaaGreatDoorRows
import Derived.Test.YtoeblmcibheldaaGreatDoorCards
import Derived.Test.YtoeblmcibheldaaGreatDoorTie
import Derived.Test.YtoeblmcibheldaaGreatDoorZReports5
import Derived.Test.YtoeblmcibheldaaGreatDoorOrd
import Derived.WalkKit
import Derived.ProofKit
import Derived.OpenShut
import Derived.ShutString
import Derived.ChangeOld
import Derived.Below
import Derived.SizedLaws
import Derived.Carry
import Derived.ChangeVars
import Derived.Handed
import Derived.LaidLaws
import Derived.LaidOnce
import Derived.Lay
import Derived.SevenTiedAt
namespace Go.Proofs.YtoeblmcibheldaaGreatDoor.fnReports
open Go.ChangeShapes Go.WideShapes Go.ChangeAt Go.RowKit Go.Proofs.YtoeblmcibheldaaGreatDoor
set_option linter.unusedVariables false
set_option linter.unusedSimpArgs false
theorem own : ownKnob Tryz.prog.godebug = none := by kernel_rfl
theorem laidOut : laidOutB Tryz.prog = true := by kernel_rfl
set_option maxRecDepth 100000 in
set_option maxHeartbeats 4000000 in
theorem lifted (os : Os) (started : os.Started) (H : Type) (enc : TypeId × Value → H) :
    ReturnsInHanded {} Tryz.checked os 3 .any (fun w args => (Rows.fnReportsSpec.pre enc Tryz.prog Tryz.f3 Rows.fnReportsRow.domain false w args ∧ laidMetH Tryz.prog Rows.fnReportsRow.laid w) ∧ sizedMet enc Tryz.prog Tryz.f3 (OpenSpec.ofChange Rows.fnReportsSpec) false w args) (Rows.fnReportsSpec.post enc Tryz.prog Tryz.f3 false true false false) := by
  refine returnsInHanded_of_change_and (C := Tryz.checked) (X := fun w _ => laidMetH Tryz.prog Rows.fnReportsRow.laid w) (fun _ _ _ hh h => h.of_heap hh) own started (by kernel_rfl) Tryz.func3
    (ChangeSpec.witness_shaped (enc := enc) (C := Tryz.checked) (os := os) (X := fun w _ => laidMetH Tryz.prog Rows.fnReportsRow.laid w) false (World.laidAll Tryz.prog os Rows.fnReportsRow.laid) #[.slice none 0 0] 8 (World.laidAll_os _ _ _)
      (World.shaped_of_ZipB (by kernel_rfl) (by kernel_rfl)) (by kernel_rfl) (by kernel_rfl) (by kernel_rfl)
      (by rw [MakeChecks.laidMetH_plain _ _ _ (by kernel_rfl)]; exact laidMet_laidAll _ (by kernel_rfl) (by kernel_rfl))) ?_
  intro W base args ds gs before hval0 hW hcnd hsz0 hL _
  rw [MakeChecks.laidMetH_plain _ _ _ (by kernel_rfl)] at hL
  have hsz : (DataW.weightsEach Tryz.prog (Tryz.f3.params.toList ++ Rows.fnReportsSpec.plain.varTypes Tryz.prog) (ds ++ gs)).all (· ≤ reachBytes) = true := hsz0
  have hval : ∀ (j : Nat) t v, Tryz.f3.params[j]? = some t → args[j]? = some v → Value.okWide Tryz.prog W .any base t v := hval0
  have hW' := hW
  obtain ⟨p, q, hA0, hV0, rfl, hfz, hnd⟩ := hW
  have hA : DataW.TrodAll enc Tryz.prog W 0 (fun _ => true) true Tryz.f3.params.toList args.toList ds p := hA0
  have hV : DataW.TrodVars enc Tryz.prog W (fun _ => true) [] gs q := hV0
  rw [Tryz.params3] at hA hval hsz
  obtain ⟨v0, vs0, d0, ds0, p0, q0, hargs, rfl, rfl, h0, r0⟩ := trodAll_cons hA
  obtain ⟨rfl, rfl, rfl⟩ := trodAll_nil r0
  obtain rfl : args = #[v0] := by cases args; simp_all
  obtain ⟨rfl, rfl⟩ := trodVars_none hV
  have k0 := h0
  have lt0 : ∀ x ∈ p0, x.block < W.heap.size := by obtain ⟨m, hm⟩ := k0; exact DataW.trod_lt m _ _ _ hm
  obtain ⟨a0, len0, cap0, rfl⟩ := okWide_slice Tryz.underlying22 (hval 0 22 v0 rfl rfl)
  obtain ⟨x0, g0, hw0⟩ := V.Reads.arg (s := (.sl 5 (.int .u8))) (agg := false) (V.reads_ok 9 22 _ (by kernel_rfl)) (by simp [V.mkV, Value.cells]) hsz (j := 0) (t := 22) rfl rfl h0
  have hgl : V.GOk (V.InZ W) W := V.gok_pow hL (.tail _ (.tail _ (.head _)))
  clear hA0 hV0 hval0 hsz0 hsz
  refine (V.row_calls hgl (vals := [.slice a0 len0 cap0]) (V.fnReports_vc x0 hw0) (V.AAll.cons g0 (V.AAll.nil _ _))).mono fun e W' ⟨he, bel0⟩ => ?_
  have bel : Below W.heap.size W W' := bel0
  subst he
  exact ⟨_, rfl, _, _, _, [], _, [], hW', trodAll_mk1 (shut_bool Tryz.underlying4 _), (trodAll_cons_mk (Below.trod laidOut (by kernel_rfl) (of_decide_eq_true (by kernel_rfl)) k0 bel lt0) trodAll_mk0), rfl, bel.frame _, fun h => by cases h⟩
theorem named_ : Tryz.pinned.checked.prog.funcNamed Rows.fnReportsRow.func = some 3 := by kernel_rfl
theorem cl0 : (Rows.fnReportsRow.wf (OpenSpec.ofChange Rows.fnReportsSpec)) = true := by kernel_rfl
theorem cl3 : (Tryz.f3.params.all (Tryz.pinned.checked.prog.readableRec ·)) = true := by kernel_rfl
theorem cl4 : (namedTie Tryz.pinned.checked.prog Rows.fnReportsRow.named Rows.fnReportsSpec.vars) = true := by kernel_rfl
theorem cl5 : ((Rows.fnReportsRow.stops == [])) = true := by kernel_rfl
theorem cl7 : ((Rows.fnReportsRow.knobs == [])) = true := by kernel_rfl
theorem cl9 : ((Rows.fnReportsRow.inPlace == Tryz.pinned.checked.prog.inPlace 3)) = true := by kernel_rfl
theorem cl10 : ((Rows.fnReportsRow.unfollowed == Tryz.pinned.checked.prog.unfollowed 3)) = true := by kernel_rfl
theorem cl11 : ((Rows.fnReportsRow.recurses == Tryz.pinned.checked.prog.recurses 3)) = true := by kernel_rfl
theorem cl12 : ((Rows.fnReportsRow.named == Tryz.pinned.checked.prog.varsNamed 3)) = true := by kernel_rfl
theorem cl13 : ((Rows.fnReportsRow.maps == (Tryz.f3.params.toList ++ Rows.fnReportsSpec.plain.varTypes Tryz.pinned.checked.prog).any (Tryz.pinned.checked.prog.mapsRec ·))) = true := by kernel_rfl
theorem cl14 : ((Rows.fnReportsRow.ifaces == (Tryz.f3.params.toList ++ Rows.fnReportsSpec.plain.varTypes Tryz.pinned.checked.prog).any (Tryz.pinned.checked.prog.ifacesRec ·))) = true := by kernel_rfl
theorem cl15 : ((Rows.fnReportsRow.mapsOut == Tryz.pinned.checked.prog.mapsAmong Tryz.f3.resultTypes.toList)) = true := by kernel_rfl
theorem cl16 : ((Rows.fnReportsRow.loops == (Tryz.f3.params.toList ++ Rows.fnReportsSpec.plain.varTypes Tryz.pinned.checked.prog).any (Tryz.pinned.checked.prog.loopsFrom ·))) = true := by kernel_rfl
theorem cl17 : ((Rows.fnReportsRow.wideKeys == (Tryz.f3.params.toList ++ Rows.fnReportsSpec.plain.varTypes Tryz.pinned.checked.prog ++ Tryz.f3.resultTypes.toList).any (Tryz.pinned.checked.prog.wideKeysFrom ·))) = true := by kernel_rfl
theorem cl18 : (Rows.fnReportsSpec.vars.all (Tryz.pinned.checked.prog.varReadable ·)) = true := by kernel_rfl
theorem cl19 : (Tryz.f3.resultTypes.all (fun t => Tryz.pinned.checked.prog.readableRec t && decide (t < Tryz.pinned.checked.prog.types.size))) = true := by kernel_rfl
theorem cl20 : ((Rows.fnReportsRow.ifacesOut == Tryz.f3.resultTypes.toList.any (Tryz.pinned.checked.prog.ifacesRec ·))) = true := by kernel_rfl
theorem cl21 : ((Rows.fnReportsRow.loopsOut == Tryz.f3.resultTypes.toList.any (Tryz.pinned.checked.prog.loopsFrom ·))) = true := by kernel_rfl
theorem cl22 : ((Rows.fnReportsRow.plainKeys == Tryz.pinned.checked.prog.plainKeys)) = true := by kernel_rfl
theorem cl23 : (Rows.fnReportsRow.shortTexts.isNone) = true := by kernel_rfl
theorem cl26 : ((Rows.fnReportsRow.lifted == Tryz.pinned.checked.prog.liftsFinal)) = true := by rw [Ord.c26]; kernel_rfl
theorem cl27 : ((Tryz.pinned.checked.prog.make == some Rows.fnReportsRow.make)) = true := by rw [Ord.c27]; kernel_rfl
theorem cl29 : ((Rows.fnReportsRow.pinned == Rows.fnReportsRow.pinnedBy)) = true := by kernel_rfl
theorem cl30 : ((Rows.fnReportsRow.veiled == (Tryz.f3.params.toList ++ Rows.fnReportsSpec.plain.varTypes Tryz.pinned.checked.prog ++ Tryz.f3.resultTypes.toList).any (Tryz.pinned.checked.prog.veiledRec ·))) = true := by kernel_rfl
theorem cl31 : (Rows.fnReportsRow.veiledFits Tryz.pinned.checked.prog Tryz.f3.params.toList (Tryz.f3.params.toList ++ Rows.fnReportsSpec.plain.varTypes Tryz.pinned.checked.prog ++ Tryz.f3.resultTypes.toList)) = true := by kernel_rfl
theorem closed_ : joinedFacts Tryz.pinned.checked.prog 3 Tryz.f3 Rows.fnReportsSpec Rows.fnReportsRow = true := by
  unfold joinedFacts
  refine (Ord.andT (Ord.andT (Ord.andT (Ord.andT (Ord.andT (Ord.andT (Ord.andT (Ord.andT (Ord.andT (Ord.andT (Ord.andT (Ord.andT (Ord.andT (Ord.andT (Ord.andT (Ord.andT (Ord.andT (Ord.andT (Ord.andT (Ord.andT (Ord.andT (Ord.andT (Ord.andT (Ord.andT (Ord.andT (Ord.andT (Ord.andT (Ord.andT (Ord.andT (Ord.andT (Ord.andT cl0 Ord.c1) Ord.c2) cl3) cl4) cl5) Ord.c6) cl7) Ord.c8) cl9) cl10) cl11) cl12) cl13) cl14) cl15) cl16) cl17) cl18) cl19) cl20) cl21) cl22) cl23) Ord.c24) Ord.c25) cl26) cl27) ?_) cl29) cl30) cl31)
  kernel_rfl
theorem wrapped_ : Tryz.f3.isWrapper Tryz.pinned.checked.prog Rows.fnReportsRow.wrapper Rows.fnReportsRow.mainSum := by unfold Func.isWrapper; first | (rw [if_pos (by decide +kernel)]; kernel_rfl) | (rw [if_neg (by decide +kernel)]; exact ⟨rfl, rfl⟩)
theorem instance_ : Tryz.f3.isInstance Tryz.pinned.checked.prog Rows.fnReportsRow.origin Rows.fnReportsRow.targs := (of_decide_eq_true (by kernel_rfl))
theorem over : Rows.fnReportsRow.holds Tryz.pinned (OpenSpec.ofChange Rows.fnReportsSpec) :=
  OpenClaim.holds_of_wide 3 Tryz.f3 rfl rfl rfl rfl rfl rfl rfl ⟨rfl, rfl, rfl, rfl, rfl⟩ rfl rfl rfl rfl rfl named_ Tryz.func3 closed_
    instance_ wrapped_
    (fun os started H enc _ => lifted os started H enc)
theorem card : Claim7.holds Tryz.pinned (.plain (OpenSpec.ofChange Rows.fnReportsSpec)) Rows.fnReportsCard :=
  Claim7.holds_tied_plain_at .later [] [.data, .data, .data] true (true, "b29c8a60b8e2d443e3560a3acbd639357223c8e53209619a88bf3f81950df5d2") true
    over (fun _ h => by cases h) (by kernel_rfl) (fun _ h => by cases h) fnReports_row_tie rfl ⟨rfl, rfl⟩ (by kernel_rfl) rfl
    (fun f fn hf hfn => by
      obtain rfl : f = 3 := Option.some.inj (named_.symm.trans hf) |>.symm
      obtain rfl : fn = Tryz.f3 := (Option.some.inj (Tryz.func3.symm.trans hfn)).symm
      exact ⟨by kernel_rfl, fun j t ht => by
        rw [Tryz.params3] at ht
        have hm : t ∈ [22] := by simpa using Array.mem_of_getElem? ht
        have hall : ([22].all fun u => !Tryz.prog.wantsStandIn u) = true := by kernel_rfl
        exact (show Tryz.prog.wantsStandIn t = false by simpa using List.all_eq_true.1 hall t hm)⟩)
    (by kernel_rfl)
end Go.Proofs.YtoeblmcibheldaaGreatDoor.fnReports
namespace Go.Proofs.YtoeblmcibheldaaGreatDoor
/-- The card, under a short name, for the claim. -/
theorem fnReports_holds : Rows.FnReportsCardSaid := fnReports.card
#print axioms fnReports_holds
end Go.Proofs.YtoeblmcibheldaaGreatDoor

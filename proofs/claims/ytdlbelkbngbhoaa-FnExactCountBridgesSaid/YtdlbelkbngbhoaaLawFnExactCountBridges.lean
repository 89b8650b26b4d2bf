/- The row of the law FnExactCountBridges, out of its pure statement and the contract laws_FnExactCountBridges.calls. Written by rowgen.py (a program of this session's). No condition. -/
import Derived.Test.YtdlbelkbngbhoaaRows
import Derived.Test.YtdlbelkbngbhoaaPFnExactCountBridgesx2
import Derived.Test.YtdlbelkbngbhoaaOpn
import Derived.Test.YtdlbelkbngbhoaaPureFnExactCountBridges
import Derived.WalkKit
import Derived.ProofKit
import Derived.OpenShut
import Derived.ShutString
import Derived.ChangeOld
import Derived.Below
import Derived.SizedLaws
import Derived.Carry
namespace Go.Proofs.Ytdlbelkbngbhoaa.fnExactCountBridges
open Go.ChangeShapes Go.WideShapes Go.ChangeAt Go.RowKit Go.Proofs.YtdlbelkbngbhoaaW.PrintWords Go.Proofs.YtdlbelkbngbhoaaW.PrintLast Go.Proofs.Ytdlbelkbngbhoaa.PFnExactCountBridges Go.Proofs.Ytdlbelkbngbhoaa.Pure
set_option linter.unusedVariables false
set_option linter.unusedSimpArgs false
theorem own : ownKnob Try.prog.godebug = none := by kernel_rfl
theorem laidOut : laidOutB Try.prog = true := by kernel_rfl
theorem opens49 {H : Type} {enc : TypeId × Value → H} : Opn.Opens enc Try.prog 49 k49 Pure.wf49 :=
  (Opn.opens_iso (fun x : S49 => (x.f0, x.f1, x.f2)) (fun p => (⟨p.1, p.2.1, p.2.2⟩ : S49)) (fun _ => rfl) (Opn.opens_struct Try.underlying49 (by kernel_rfl) (Opn.opensAt_cons rfl (by kernel_rfl) (Opn.opens_int Try.underlying3) (Opn.opensAt_cons rfl (by kernel_rfl) (Opn.opens_int Try.underlying3) (Opn.opensAt_one rfl (by kernel_rfl) (Opn.opens_int Try.underlying3)))))).imp (fun x h => by simpa only [Pure.wf49] using h)
set_option maxRecDepth 100000 in
theorem lifted (os : Os) (started : os.Started) (H : Type) (enc : TypeId × Value → H) :
    ReturnsInHanded {} Try.checked os 7 .any (Rows.fnExactCountBridgesSpec.pre6 enc Try.prog Try.f7 Rows.fnExactCountBridgesRow.domain false) (Rows.fnExactCountBridgesSpec.post enc Try.prog Try.f7 false true false false) := by
  refine returnsInHanded_of_change_sized (C := Try.checked) own started (by kernel_rfl) Try.func7
    (ChangeSpec.witness6 (enc := enc) (C := Try.checked) false ⟨#[], #[.slice none 0 0], []⟩ 8 (by kernel_rfl) (by kernel_rfl) (by kernel_rfl) (by kernel_rfl)) ?_
  intro W base args ds gs before hval0 hW hcnd hsz0 _
  have hsz : (DataW.weightsEach Try.prog (Try.f7.params.toList ++ Rows.fnExactCountBridgesSpec.plain.varTypes Try.prog) (ds ++ gs)).all (· ≤ reachBytes) = true := hsz0
  have hval : ∀ (j : Nat) t v, Try.f7.params[j]? = some t → args[j]? = some v → Value.okWide Try.prog W .any base t v := hval0
  have hW' := hW
  obtain ⟨p, q, hA0, hV, rfl, hfz, hnd⟩ := hW
  have hA : DataW.TrodAll enc Try.prog W 0 (fun _ => true) true Try.f7.params.toList args.toList ds p := hA0
  rw [Try.params7] at hA hval hsz
  obtain ⟨v0, vs0, d0, ds0, p0, q0, hargs, rfl, rfl, h0, r0⟩ := trodAll_cons hA
  obtain ⟨rfl, rfl, rfl⟩ := trodAll_nil r0
  obtain rfl : args = #[v0] := by cases args; simp_all
  obtain ⟨rfl, rfl⟩ := trodVars_none hV
  have k0 := h0
  have lt0 : ∀ x ∈ p0, x.block < W.heap.size := by obtain ⟨m, hm⟩ := k0; exact DataW.trod_lt m _ _ _ hm
  obtain ⟨x0, hk0, hw0⟩ := Opn.Opens.arg (Opn.opens_slice (B := 24) Try.underlying36 (by kernel_rfl) (by kernel_rfl) opens49) hsz (j := 0) (t := 36) rfl rfl h0
  obtain ⟨a0, len0, cap0, rfl⟩ := okWide_slice Try.underlying36 (hval 0 36 v0 rfl rfl)
  obtain ⟨A0, c0, hcs0, hc0, hr0⟩ := hk0
  simp [Value.cells] at hcs0
  obtain ⟨rfl, rfl, rfl⟩ := hcs0
  clear hA0 hval0 hsz0 hsz
  obtain ⟨k, h⟩ := Pure.FnExactCountBridges x0 hw0
  refine (laws_FnExactCountBridges.calls k _ _ x0 true W hr0 hc0 h).mono fun e W' ⟨he, bel0⟩ => ?_
  have bel : Below W.heap.size W W' := bel0
  subst he
  exact ⟨_, rfl, _, _, _, [], _, [], hW', trodAll_mk1 (shut_bool Try.underlying4 _), (trodAll_cons_mk (Below.trod laidOut (by kernel_rfl) (of_decide_eq_true (by kernel_rfl)) k0 bel lt0) trodAll_mk0), rfl, bel.frame _, fun h => by cases h⟩
theorem over : Rows.fnExactCountBridgesRow.holds Try.pinned (OpenSpec.ofChange Rows.fnExactCountBridgesSpec) :=
  OpenClaim.holds_of_wide 7 Try.f7 rfl rfl rfl rfl rfl rfl rfl ⟨rfl, rfl, rfl, rfl, rfl⟩ rfl rfl rfl rfl rfl (by kernel_rfl) Try.func7 (by kernel_rfl)
    (of_decide_eq_true (by kernel_rfl)) (by unfold Func.isWrapper; first | (rw [if_pos (by decide +kernel)]; kernel_rfl) | (rw [if_neg (by decide +kernel)]; exact ⟨rfl, rfl⟩))
    (fun os started H enc _ => lifted os started H enc)
theorem proved : Rows.FnExactCountBridgesSaid := over
end Go.Proofs.Ytdlbelkbngbhoaa.fnExactCountBridges
namespace Go.Proofs.Ytdlbelkbngbhoaa
/-- The row, under a short name, for the claim. -/
theorem fnExactCountBridges_holds : Rows.FnExactCountBridgesSaid := fnExactCountBridges.proved
#print axioms fnExactCountBridges_holds
end Go.Proofs.Ytdlbelkbngbhoaa

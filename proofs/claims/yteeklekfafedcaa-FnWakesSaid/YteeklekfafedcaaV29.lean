/- Functions that hand out a pointer; headers of frozen slices learned. No condition. -/
import Derived.Test.YteeklekfafedcaaV28
set_option linter.unusedVariables false
namespace Go.Proofs.Yteeklekfafedcaa.V
open Go Go.RowKit
/-- nothing is handed over: a law of reading -/
theorem VC.of_vx {P : Program} {f : FuncId} {args : List PV} {R : PV → PV → Prop} (h : VX P f args 0 R) (h0 : ∀ pv, args[0]? = some pv → pv.isRoot = false) : VC P f args (fun pv => ∃ ot, R pv ot) := by
  refine ⟨h.fn, fun Z w vals h1 h2 h3 => (h.run Z (fun _ => False) w vals h1 (fun b hb => hb.elim) h2 (fun j pv v _ hp hv => h3 j pv v hp hv) (fun pv v hp hv => ?_)).mono fun e w' ⟨v, pv, o, Fr, Fo, c1, c2, c3, c4, c5, c6, c7⟩ => ⟨v, pv, c1, ⟨c2.os, c2.tape, c2.output, c2.size, fun b hb => c2.block b hb id⟩, ⟨o, c3⟩, ?_⟩⟩
  · have hA := h3 0 pv v hp hv
    have := h0 pv hp
    cases pv with
    | root => cases this
    | _ => exact hA
  · rcases PV.root_or pv with ⟨k, s, fl, x, rfl⟩ | hpv
    · obtain ⟨cs, ad, B, g1, g2, g3, g4⟩ := c4
      exact ⟨cs, ad, B, Fr, g1, g2, g3, g4, fun b hb => ⟨(c6 b (.inl hb)).1.resolve_left id, (c6 b (.inl hb)).2⟩⟩
    · cases pv with
      | root => cases hpv
      | _ => exact c4

theorem VW.retag {P : Program} {c : Code} {st : St} {Q : Exit → St → Prop} {g : Nat} {k : RK} {s : Sh} {f : Fl} {x : s.ty} {ι : Type} (fj : ι → Fl) (stj : ι → St) (hg : st.at g = .root k s f x) (hf : ∀ (w : World) (Z : Nat → Prop) (cs : List Value) (B : Nat → Prop), Rep w Z s f x cs B → ∃ j, Rep w Z s (fj j) x cs B) (hp : ∀ j, put st g [] s (fj j) x hit = some (stj j)) (h : ∀ j, VW P c (stj j) Q) : VW P c st Q := by
  intro L a w hr
  have hP : Place L st w g [] s (L.C g) (L.D g) := ⟨k, s, f, x, hg, by cases s <;> trivial, ⟨f, x, get_nil _ _ _⟩, sub_nil _ _ _ _⟩
  obtain ⟨f1, x1, e1, B1, e2, e3, e4, e5, e6⟩ := hr.put hg hP
  rw [get_nil] at e1
  cases Option.some.inj e1
  obtain ⟨j, hj⟩ := hf w L.Z _ _ e3
  obtain ⟨f3, x3, hu, hst⟩ := put_spec hg (hp j)
  have r1 := e6 w (L.C g) (fj j) x B1 Free f3 x3 hit (.inl ⟨rfl, rfl⟩) rfl hj (fun b hb => .inr hb) (fun b hb => hb.elim) hu (.inl rfl)
  rw [← hst] at r1
  refine wp_mono (h j _ a w r1) fun e a' w' ⟨L', st', s', r', q⟩ => ⟨L', st', ?_, r', q⟩
  refine Stp.trans (B := ⟨L.Z, fun t b => if t = g then (L.F g b ∧ ¬ B1 b) ∨ B1 b else L.F t b, fun t => if t = g then csub s (L.C g) [] (L.C g) else L.C t, L.D⟩) ⟨rfl, rfl, rfl, Nat.le_refl _, fun _ _ _ => rfl, rfl, fun t b hb => ?_⟩ s'
  simp only at hb
  split at hb
  · exact .inl ⟨g, hb.elim (fun q => q.1) (e2 b)⟩
  · exact .inl ⟨t, hb⟩

theorem kz_l {w : World} {Z : Nat → Prop} {e : TypeId} {s b : Sh} {f : Fl} {x : (Sh.pr (.sl e s) b).ty} {cs : List Value} {B : Nat → Prop} (hf : f.l = .fz) (h : Rep w Z (.pr (.sl e s) b) f x cs B) : ∃ j : Option Addr × Nat, Rep w Z (.pr (.sl e s) b) (.pr (.kz j.1 j.2) f.r) x cs B := by
  obtain ⟨c1, c2, B1, B2, h0, h1, h2, h3, h4, h5⟩ := h
  rw [hf] at h4
  obtain ⟨A, c, q1, q2⟩ := id h4
  exact ⟨(A, c), c1, c2, B1, B2, h0, h1, h2, h3, ⟨h4, q1⟩, h5⟩
end Go.Proofs.Yteeklekfafedcaa.V

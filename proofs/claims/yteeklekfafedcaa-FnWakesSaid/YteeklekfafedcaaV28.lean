/- An empty row handed over. No condition. -/
import Derived.Test.YteeklekfafedcaaV27
set_option linter.unusedVariables false
namespace Go.Proofs.Yteeklekfafedcaa.V
open Go Go.RowKit
theorem VX.of_nil {P : Program} {f : FuncId} {args : List PV} {i : Nat} {e : TypeId} {s : Sh} {R : PV → Prop} (h : VC P f (args.set i (.v false (.sl e s) [])) R) (ha : args[i]? = some (.root (.val false) (.sl e s) .own [])) : VX P f args i (fun pv ot => R pv ∧ ot = .root (.val false) (.sl e s) .own []) := by
  refine ⟨h.fn, fun Z F w vals h1 h2 h3 h4 h5 => ?_⟩
  have hi := (List.getElem?_eq_some_iff.1 ha).1
  have hil : i < vals.length := by omega
  obtain ⟨cs, ad, B, q1, q2, q3, q4⟩ := h5 _ _ ha (List.getElem?_eq_getElem hil)
  obtain ⟨m1, m2, m3⟩ := q1
  have hcs : cs = [vals[i]] := by simpa [mkV] using m1
  subst hcs
  refine (h.run Z w vals h1 (by simpa using h3) (fun j pv v hp hv => ?_)).mono fun e0 w' ⟨v, pv, c1, c2, c3, c4⟩ => ?_
  · have hpp := hp
    have hvv := hv
    by_cases hj : j = i
    · subst hj
      rw [List.getElem?_set_self hi] at hpp
      obtain rfl := Option.some.inj hpp
      rw [List.getElem?_eq_getElem hil] at hvv
      obtain rfl := Option.some.inj hvv
      refine ⟨[vals[j]], rfl, ?_⟩
      rcases id q4 with ⟨A, hA, _⟩ | ⟨g, cap, cur, rows, Bs, hA, _, k3, k4, _⟩
      · exact ⟨A, 0, hA, Nat.le_refl _, Nat.zero_le _, fun hp => by simp at hp⟩
      · exact ⟨_, cap, hA, k3, Nat.zero_le _, fun hp => by simp at hp⟩
    · rw [List.getElem?_set_ne (fun h => hj h.symm)] at hpp
      exact h4 j _ _ hj hpp hvv
  · have hO : ∀ u, vals[i]? = some u → (PV.root (.val false) (.sl e s) .own [] : PV) = .dead ∨ GRep w' Z F (.root (.val false) (.sl e s) .own []) u := fun u hu => by
      rw [List.getElem?_eq_getElem hil] at hu
      obtain rfl := Option.some.inj hu
      refine .inr ⟨[vals[i]], ad, B, ⟨m1, m2, m3⟩, q2, q3, ?_⟩
      exact q4.frame (fun _ h => h) (fun b hb => c2.block b (by
        rcases hb with hb | hb
        · exact h1 b hb
        · exact (h2 b (q2 b hb)).1))
    have hx : ExtF w w' F := ⟨c2.os, c2.tape, c2.output, c2.size, fun b hb _ => c2.block b hb⟩
    have hFw : ∀ b, F b → (F b ∨ w.heap.size ≤ b) ∧ b < w'.heap.size := fun b hb => ⟨.inl hb, Nat.lt_of_lt_of_le (h2 b hb).1 c2.size⟩
    rcases PV.root_or pv with ⟨k, s', fl, x, rfl⟩ | hpv
    · obtain ⟨cs', ad', B', Fd, g1, g2, g3, g4, g5⟩ := c4
      refine ⟨v, _, _, Fd, F, c1, hx, ⟨c3, rfl⟩, ⟨cs', ad', B', g1, g2, g3, g4⟩, hO, fun b hb => ?_, fun b hb hF => ?_⟩
      · rcases hb with hb | hb
        · exact ⟨.inr (g5 b hb).1, (g5 b hb).2⟩
        · exact hFw b hb
      · have := (h2 b hF).1
        have := (g5 b hb).1
        omega
    · refine ⟨v, pv, _, Free, F, c1, hx, ⟨c3, rfl⟩, ?_, hO, fun b hb => ?_, fun b hb => hb.elim⟩
      · cases pv with
        | root => cases hpv
        | _ => exact c4
      · rcases hb with hb | hb
        · exact hb.elim
        · exact hFw b hb
end Go.Proofs.Yteeklekfafedcaa.V

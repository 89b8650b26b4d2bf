/- The law FnExactActOk over numbers and lists. No condition beyond the bounds of what a Go value may be. -/
import Derived.Test.YtdlbelkbngbhoaaEvl
import Derived.Test.YtdlbelkbngbhoaaPFnExactActOkx1
namespace Go.Proofs.Ytdlbelkbngbhoaa.Pure
open Go.RowKit Go.Proofs.Ytdlbelkbngbhoaa.PFnExactActOk Go.Proofs.YtdlbelkbngbhoaaW.PrintWords Go.Proofs.YtdlbelkbngbhoaaW.PrintLast Go.Proofs.Ytdlbelkbngbhoaa.Evl
set_option linter.unusedVariables false

structure S31 where
  f0 : Int
  f1 : Int
  f2 : Int
  f3 : Int
def k31 : Kd S31 := Kd.iso (Kd.pair (Kd.int .i64) (Kd.pair (Kd.int .i64) (Kd.pair (Kd.int .i64) (Kd.int .i64)))) (fun x : S31 => (x.f0, x.f1, x.f2, x.f3))
theorem k31_open {w : World} {x : S31} {cs : List Value} (h : k31.K w x cs) : cs = [Value.int .i64 x.f0, Value.int .i64 x.f1, Value.int .i64 x.f2, Value.int .i64 x.f3] := by
  obtain ⟨_, _, rfl, rfl, ⟨_, _, rfl, rfl, ⟨_, _, rfl, rfl, rfl⟩⟩⟩ := h
  rfl
def wf31 (x : S31) : Prop := ((Lit.int .i64 x.f0).wf = true) ∧ ((Lit.int .i64 x.f1).wf = true) ∧ ((Lit.int .i64 x.f2).wf = true) ∧ ((Lit.int .i64 x.f3).wf = true)

theorem in_s (a b c : Int) : spec_l01In.f a b c = some (decide (b ≤ a ∧ a ≤ c)) := by
  unfold spec_l01In.f
  by_cases h : a ≥ b
  · rw [if_pos h]; simp [h]
  · rw [if_neg h]; simp [h]
theorem in_i (a b c : Int) : impl_within.f a b c = some (decide (b ≤ a ∧ a ≤ c)) := by
  unfold impl_within.f
  by_cases h : a ≥ b
  · rw [if_pos h]; simp [h]
  · rw [if_neg h]; simp [h]
theorem FnExactActOk : ∀ (x0 : S31), (wf31 x0) → laws_FnExactActOk.f x0.f0 x0.f1 x0.f2 x0.f3 = some true := by
  intro x _
  have e : impl_ActOk.f x.f0 x.f1 x.f2 x.f3 = spec_ActOk.f x.f0 x.f1 x.f2 x.f3 := by
    simp only [impl_ActOk.f, spec_ActOk.f, impl_isWord.f, in_s, in_i, Option.bind_some]
  have t : ∃ b, spec_ActOk.f x.f0 x.f1 x.f2 x.f3 = some b := by
    simp only [spec_ActOk.f, in_s, Option.bind_some]
    repeat' split
    all_goals exact ⟨_, rfl⟩
  obtain ⟨b, hb⟩ := t
  simp only [laws_FnExactActOk.f, laws_toAct.f, Option.bind_some, e, hb]
  simp

end Go.Proofs.Ytdlbelkbngbhoaa.Pure

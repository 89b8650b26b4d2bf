/- The law FnExactVirtualOk over numbers and lists. No condition beyond the bounds of what a Go value may be. -/
import Derived.Test.YtdlbelkbngbhoaaEvl
import Derived.Test.YtdlbelkbngbhoaaPFnExactVirtualOkx1
namespace Go.Proofs.Ytdlbelkbngbhoaa.Pure
open Go.RowKit Go.Proofs.Ytdlbelkbngbhoaa.PFnExactVirtualOk Go.Proofs.YtdlbelkbngbhoaaW.PrintWords Go.Proofs.YtdlbelkbngbhoaaW.PrintLast Go.Proofs.Ytdlbelkbngbhoaa.Evl
set_option linter.unusedVariables false

structure S23 where
  f0 : Int
  f1 : Int
  f2 : Int
def k23 : Kd S23 := Kd.iso (Kd.pair (Kd.int .i64) (Kd.pair (Kd.int .i64) (Kd.int .i64))) (fun x : S23 => (x.f0, x.f1, x.f2))
theorem k23_open {w : World} {x : S23} {cs : List Value} (h : k23.K w x cs) : cs = [Value.int .i64 x.f0, Value.int .i64 x.f1, Value.int .i64 x.f2] := by
  obtain ⟨_, _, rfl, rfl, ⟨_, _, rfl, rfl, rfl⟩⟩ := h
  rfl
def wf23 (x : S23) : Prop := ((Lit.int .i64 x.f0).wf = true) ∧ ((Lit.int .i64 x.f1).wf = true) ∧ ((Lit.int .i64 x.f2).wf = true)

theorem in_s (a b c : Int) : spec_l01In.f a b c = some (decide (b ≤ a ∧ a ≤ c)) := by
  unfold spec_l01In.f
  by_cases h : a ≥ b
  · rw [if_pos h]; simp [h]
  · rw [if_neg h]; simp [h]
theorem in_i (a b c : Int) : impl_within.f a b c = some (decide (b ≤ a ∧ a ≤ c)) := by
  unfold impl_within.f
  by_cases h : a ≥ b
  · rw [if_pos h]; simp [h]
  · rw [if_neg h]; simp [h]
def vok (a b c : Int) : Bool := decide ((1 ≤ a ∧ a ≤ 255) ∧ (1 ≤ b ∧ b ≤ 255) ∧ (0 ≤ c ∧ c ≤ 64))
theorem vok_s (a b c : Int) : spec_VirtualOk.f a b c = some (vok a b c) := by
  simp only [spec_VirtualOk.f, in_s, Option.bind_some, vok, decide_eq_true_eq]
  by_cases h1 : 1 ≤ a ∧ a ≤ 255 <;> by_cases h2 : 1 ≤ b ∧ b ≤ 255 <;> simp [h1, h2]
theorem vok_i (a b c : Int) : impl_VirtualOk.f a b c = some (vok a b c) := by
  simp only [impl_VirtualOk.f, in_i, Option.bind_some, vok, decide_eq_true_eq]
  by_cases h1 : 1 ≤ a ∧ a ≤ 255 <;> by_cases h2 : 1 ≤ b ∧ b ≤ 255 <;> simp [h1, h2]
theorem FnExactVirtualOk : ∀ (x0 : S23), (wf23 x0) → laws_FnExactVirtualOk.f x0.f0 x0.f1 x0.f2 = some true := by
  intro x _
  simp [laws_FnExactVirtualOk.f, laws_toVirtual.f, vok_s, vok_i]

end Go.Proofs.Ytdlbelkbngbhoaa.Pure

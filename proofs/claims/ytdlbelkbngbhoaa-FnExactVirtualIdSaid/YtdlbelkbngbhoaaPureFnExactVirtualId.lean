/- The law FnExactVirtualId over numbers and lists. No condition beyond the bounds of what a Go value may be. -/
import Derived.Test.YtdlbelkbngbhoaaEvl
import Derived.Test.YtdlbelkbngbhoaaPFnExactVirtualIdx1
namespace Go.Proofs.Ytdlbelkbngbhoaa.Pure
open Go.RowKit Go.Proofs.Ytdlbelkbngbhoaa.PFnExactVirtualId Go.Proofs.YtdlbelkbngbhoaaW.PrintWords Go.Proofs.YtdlbelkbngbhoaaW.PrintLast Go.Proofs.Ytdlbelkbngbhoaa.Evl
set_option linter.unusedVariables false

structure S23 where
  f0 : Int
  f1 : Int
  f2 : Int
def k23 : Kd S23 := Kd.iso (Kd.pair (Kd.int .i64) (Kd.pair (Kd.int .i64) (Kd.int .i64))) (fun x : S23 => (x.f0, x.f1, x.f2))
theorem k23_open {w : World} {x : S23} {cs : List Value} (h : k23.K w x cs) : cs = [Value.int .i64 x.f0, Value.int .i64 x.f1, Value.int .i64 x.f2] := by
  obtain ⟨_, _, rfl, rfl, ⟨_, _, rfl, rfl, rfl⟩⟩ := h
  rfl
def wf23 (x : S23) : Prop := ((Lit.int .i64 x.f0).wf = true) ∧ ((Lit.int .i64 x.f1).wf = true) ∧ ((Lit.int .i64 x.f2).wf = true)

theorem in_s (a b c : Int) : spec_l01In.f a b c = some (decide (b ≤ a ∧ a ≤ c)) := by
  unfold spec_l01In.f
  by_cases h : a ≥ b
  · rw [if_pos h]; simp [h]
  · rw [if_neg h]; simp [h]
theorem in_i (a b c : Int) : impl_within.f a b c = some (decide (b ≤ a ∧ a ≤ c)) := by
  unfold impl_within.f
  by_cases h : a ≥ b
  · rw [if_pos h]; simp [h]
  · rw [if_neg h]; simp [h]
def vok (a b c : Int) : Bool := decide ((1 ≤ a ∧ a ≤ 255) ∧ (1 ≤ b ∧ b ≤ 255) ∧ (0 ≤ c ∧ c ≤ 64))
theorem vok_s (a b c : Int) : spec_VirtualOk.f a b c = some (vok a b c) := by
  simp only [spec_VirtualOk.f, in_s, Option.bind_some, vok, decide_eq_true_eq]
  by_cases h1 : 1 ≤ a ∧ a ≤ 255 <;> by_cases h2 : 1 ≤ b ∧ b ≤ 255 <;> simp [h1, h2]
theorem vok_i (a b c : Int) : impl_VirtualOk.f a b c = some (vok a b c) := by
  simp only [impl_VirtualOk.f, in_i, Option.bind_some, vok, decide_eq_true_eq]
  by_cases h1 : 1 ≤ a ∧ a ≤ 255 <;> by_cases h2 : 1 ≤ b ∧ b ≤ 255 <;> simp [h1, h2]
def isid (a : Int) : Bool := decide (0 ≤ a ∧ a ≤ 255)
theorem isid_i (a : Int) : impl_IsId.f a = some (isid a) := by simp only [impl_IsId.f, in_i, Option.bind_some, isid]
def vid (a f s c k : Int) : Int := if (isid a && vok f s c && decide (0 ≤ k ∧ k ≤ c - 1) && isid (a + f + k * s)) = true then a + f + k * s else -1
theorem vsum {a f s c k : Int} (h1 : isid a = true) (h2 : vok f s c = true) (h3 : 0 ≤ k ∧ k ≤ c - 1) : wrap64 ((wrap64 (a + f)) + (wrap64 (k * s))) = a + f + k * s := by
  simp only [isid, vok, decide_eq_true_eq] at h1 h2
  have h4 : 0 ≤ k * s := Int.mul_nonneg (by omega) (by omega)
  have h5 : k * s ≤ 63 * 255 := Int.mul_le_mul (by omega) (by omega) (by omega) (by omega)
  rw [wrap_id (x := a + f) (by omega) (by omega), wrap_id (x := k * s) (by omega) (by omega), wrap_id (by omega) (by omega)]
theorem vcount {f s c : Int} (h2 : vok f s c = true) : wrap64 (c - 1) = c - 1 := by
  simp only [vok, decide_eq_true_eq] at h2
  exact wrap_id (by omega) (by omega)
theorem vid_i (a f s c k : Int) : Ev (fun n => impl_VirtualId.f n a f s c k) (vid a f s c k) := by
  refine Ev.congr (f := fun n => if (isid a) = true then (if (vok f s c) = true then impl_VirtualId.j0 n a k (!decide (0 ≤ k ∧ k ≤ wrap64 (c - 1))) f s c else impl_VirtualId.j0 n a k true f s c) else impl_VirtualId.j0 n a k true f s c) (fun n => by simp only [impl_VirtualId.f, isid_i, vok_i, in_i, Option.bind_some]) ?_
  have hb : Ev (fun n => impl_VirtualId.j0 n a k true f s c) (-1) := by
    refine Ev.step (f := fun _ => some (-1)) (fun n => ?_) (Ev.now _)
    simp [impl_VirtualId.j0]
  by_cases h1 : isid a = true
  · refine ev_pos h1 ?_
    by_cases h2 : vok f s c = true
    · refine ev_pos h2 ?_
      rw [vcount h2]
      by_cases h3 : 0 ≤ k ∧ k ≤ c - 1
      · refine Ev.step (f := fun _ => some (vid a f s c k)) (fun n => ?_) (Ev.now _)
        simp only [impl_VirtualId.j0]
        rw [if_neg (by simp [h3]), isid_i, vsum h1 h2 h3]
        simp only [Option.bind_some, vid, h1, h2, h3, and_self, decide_true, Bool.and_true, Bool.true_and]
        by_cases h4 : isid (a + f + k * s) = true <;> simp [h4]
      · have e : (!decide (0 ≤ k ∧ k ≤ c - 1)) = true := by rw [decide_eq_false h3]; rfl
        rw [e]
        refine ev_to hb ?_
        simp [vid, h3]
    · refine ev_neg h2 (ev_to hb ?_)
      simp [vid, h2]
  · refine ev_neg h1 (ev_to hb ?_)
    simp [vid, h1]
theorem isid_s (a : Int) : spec_IsId.f a = some (isid a) := by simp only [spec_IsId.f, in_s, Option.bind_some, isid]
theorem vid_s (a f s c k : Int) : spec_VirtualId.f a f s c k = some (vid a f s c k) := by
  simp only [spec_VirtualId.f, isid_s, vok_s, in_s, Option.bind_some]
  by_cases h1 : isid a = true
  · by_cases h2 : vok f s c = true
    · rw [vcount h2]
      by_cases h3 : 0 ≤ k ∧ k ≤ c - 1
      · rw [if_pos h1, if_pos h2, if_pos (by simpa using h3), vsum h1 h2 h3]
        by_cases h4 : isid (a + f + k * s) = true <;> simp [vid, h1, h2, h3, h4]
      · rw [if_pos h1, if_pos h2, if_neg (by simpa using h3)]
        simp [vid, h3]
    · rw [if_pos h1, if_neg h2]
      simp [vid, h2]
  · rw [if_neg h1]
    simp [vid, h1]
theorem FnExactVirtualId : ∀ (x0 : Int) (x1 : S23) (x2 : Int), ((Lit.int .i64 x0).wf = true) → (wf23 x1) → ((Lit.int .i64 x2).wf = true) → ∃ k, laws_FnExactVirtualId.f k x0 x1.f0 x1.f1 x1.f2 x2 = some true := by
  intro a v k _ _ _
  refine Ev.rounds (g := fun n => laws_FnExactVirtualId.f n a v.f0 v.f1 v.f2 k) ?_
  simp only [laws_FnExactVirtualId.f, laws_toVirtual.f, vid_s, Option.bind_some]
  exact ev_map (vid_i a v.f0 v.f1 v.f2 k) (by simp)

end Go.Proofs.Ytdlbelkbngbhoaa.Pure

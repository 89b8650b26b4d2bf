/- The law FnExactVirtualOwner over numbers and lists. No condition beyond the bounds of what a Go value may be. -/
import Derived.Test.YtdlbelkbngbhoaaEvl
import Derived.Test.YtdlbelkbngbhoaaPFnExactVirtualOwnerx2
namespace Go.Proofs.Ytdlbelkbngbhoaa.Pure
open Go.RowKit Go.Proofs.Ytdlbelkbngbhoaa.PFnExactVirtualOwner Go.Proofs.YtdlbelkbngbhoaaW.PrintWords Go.Proofs.YtdlbelkbngbhoaaW.PrintLast Go.Proofs.Ytdlbelkbngbhoaa.Evl
set_option linter.unusedVariables false

structure S23 where
  f0 : Int
  f1 : Int
  f2 : Int
def k23 : Kd S23 := Kd.iso (Kd.pair (Kd.int .i64) (Kd.pair (Kd.int .i64) (Kd.int .i64))) (fun x : S23 => (x.f0, x.f1, x.f2))
theorem k23_open {w : World} {x : S23} {cs : List Value} (h : k23.K w x cs) : cs = [Value.int .i64 x.f0, Value.int .i64 x.f1, Value.int .i64 x.f2] := by
  obtain ⟨_, _, rfl, rfl, ⟨_, _, rfl, rfl, rfl⟩⟩ := h
  rfl
def wf23 (x : S23) : Prop := ((Lit.int .i64 x.f0).wf = true) ∧ ((Lit.int .i64 x.f1).wf = true) ∧ ((Lit.int .i64 x.f2).wf = true)

theorem in_s (a b c : Int) : spec_l01In.f a b c = some (decide (b ≤ a ∧ a ≤ c)) := by
  unfold spec_l01In.f
  by_cases h : a ≥ b
  · rw [if_pos h]; simp [h]
  · rw [if_neg h]; simp [h]
theorem in_i (a b c : Int) : impl_within.f a b c = some (decide (b ≤ a ∧ a ≤ c)) := by
  unfold impl_within.f
  by_cases h : a ≥ b
  · rw [if_pos h]; simp [h]
  · rw [if_neg h]; simp [h]
def vok (a b c : Int) : Bool := decide ((1 ≤ a ∧ a ≤ 255) ∧ (1 ≤ b ∧ b ≤ 255) ∧ (0 ≤ c ∧ c ≤ 64))
theorem vok_s (a b c : Int) : spec_VirtualOk.f a b c = some (vok a b c) := by
  simp only [spec_VirtualOk.f, in_s, Option.bind_some, vok, decide_eq_true_eq]
  by_cases h1 : 1 ≤ a ∧ a ≤ 255 <;> by_cases h2 : 1 ≤ b ∧ b ≤ 255 <;> simp [h1, h2]
theorem vok_i (a b c : Int) : impl_VirtualOk.f a b c = some (vok a b c) := by
  simp only [impl_VirtualOk.f, in_i, Option.bind_some, vok, decide_eq_true_eq]
  by_cases h1 : 1 ≤ a ∧ a ≤ 255 <;> by_cases h2 : 1 ≤ b ∧ b ≤ 255 <;> simp [h1, h2]
def isid (a : Int) : Bool := decide (0 ≤ a ∧ a ≤ 255)
theorem isid_i (a : Int) : impl_IsId.f a = some (isid a) := by simp only [impl_IsId.f, in_i, Option.bind_some, isid]
def vid (a f s c k : Int) : Int := if (isid a && vok f s c && decide (0 ≤ k ∧ k ≤ c - 1) && isid (a + f + k * s)) = true then a + f + k * s else -1
theorem vsum {a f s c k : Int} (h1 : isid a = true) (h2 : vok f s c = true) (h3 : 0 ≤ k ∧ k ≤ c - 1) : wrap64 ((wrap64 (a + f)) + (wrap64 (k * s))) = a + f + k * s := by
  simp only [isid, vok, decide_eq_true_eq] at h1 h2
  have h4 : 0 ≤ k * s := Int.mul_nonneg (by omega) (by omega)
  have h5 : k * s ≤ 63 * 255 := Int.mul_le_mul (by omega) (by omega) (by omega) (by omega)
  rw [wrap_id (x := a + f) (by omega) (by omega), wrap_id (x := k * s) (by omega) (by omega), wrap_id (by omega) (by omega)]
theorem vcount {f s c : Int} (h2 : vok f s c = true) : wrap64 (c - 1) = c - 1 := by
  simp only [vok, decide_eq_true_eq] at h2
  exact wrap_id (by omega) (by omega)
theorem vid_i (a f s c k : Int) : Ev (fun n => impl_VirtualId.f n a f s c k) (vid a f s c k) := by
  refine Ev.congr (f := fun n => if (isid a) = true then (if (vok f s c) = true then impl_VirtualId.j0 n a k (!decide (0 ≤ k ∧ k ≤ wrap64 (c - 1))) f s c else impl_VirtualId.j0 n a k true f s c) else impl_VirtualId.j0 n a k true f s c) (fun n => by simp only [impl_VirtualId.f, isid_i, vok_i, in_i, Option.bind_some]) ?_
  have hb : Ev (fun n => impl_VirtualId.j0 n a k true f s c) (-1) := by
    refine Ev.step (f := fun _ => some (-1)) (fun n => ?_) (Ev.now _)
    simp [impl_VirtualId.j0]
  by_cases h1 : isid a = true
  · refine ev_pos h1 ?_
    by_cases h2 : vok f s c = true
    · refine ev_pos h2 ?_
      rw [vcount h2]
      by_cases h3 : 0 ≤ k ∧ k ≤ c - 1
      · refine Ev.step (f := fun _ => some (vid a f s c k)) (fun n => ?_) (Ev.now _)
        simp only [impl_VirtualId.j0]
        rw [if_neg (by simp [h3]), isid_i, vsum h1 h2 h3]
        simp only [Option.bind_some, vid, h1, h2, h3, and_self, decide_true, Bool.and_true, Bool.true_and]
        by_cases h4 : isid (a + f + k * s) = true <;> simp [h4]
      · have e : (!decide (0 ≤ k ∧ k ≤ c - 1)) = true := by rw [decide_eq_false h3]; rfl
        rw [e]
        refine ev_to hb ?_
        simp [vid, h3]
    · refine ev_neg h2 (ev_to hb ?_)
      simp [vid, h2]
  · refine ev_neg h1 (ev_to hb ?_)
    simp [vid, h1]
theorem isid_s (a : Int) : spec_IsId.f a = some (isid a) := by simp only [spec_IsId.f, in_s, Option.bind_some, isid]
theorem vid_s (a f s c k : Int) : spec_VirtualId.f a f s c k = some (vid a f s c k) := by
  simp only [spec_VirtualId.f, isid_s, vok_s, in_s, Option.bind_some]
  by_cases h1 : isid a = true
  · by_cases h2 : vok f s c = true
    · rw [vcount h2]
      by_cases h3 : 0 ≤ k ∧ k ≤ c - 1
      · rw [if_pos h1, if_pos h2, if_pos (by simpa using h3), vsum h1 h2 h3]
        by_cases h4 : isid (a + f + k * s) = true <;> simp [vid, h1, h2, h3, h4]
      · rw [if_pos h1, if_pos h2, if_neg (by simpa using h3)]
        simp [vid, h3]
    · rw [if_pos h1, if_neg h2]
      simp [vid, h2]
  · rw [if_neg h1]
    simp [vid, h1]
/-- The least k from k0 on, below m, for which VirtualId answers id; -1 if there is none. -/
def own (a f s c id : Int) : Nat → Int → Int
  | 0, _ => -1
  | d + 1, k => if vid a f s c k = id then k else own a f s c id d (k + 1)
theorem own_i' (a f s c id : Int) (hc : c ≤ 64) (d : Nat) : ∀ k : Int, 0 ≤ k → (c - k).toNat = d → Ev (fun n => impl_VirtualOwner.l0 n a id c k f s c) (own a f s c id d k) := by
  induction d with
  | zero =>
    intro k h0 hd
    refine Ev.step (f := fun _ => some (-1)) (fun n => ?_) (Ev.now _)
    simp only [impl_VirtualOwner.l0]
    rw [if_neg (by omega)]
  | succ d ih =>
    intro k h0 hd
    refine Ev.step (f := fun n => (impl_VirtualId.f n a f s c k).bind fun t => if t = id then some k else impl_VirtualOwner.l0 n a id c (k + 1) f s c) (fun n => ?_) ?_
    · simp only [impl_VirtualOwner.l0]
      rw [if_pos (by omega), wrap_id (x := k + 1) (by omega) (by omega)]
    · refine Ev.bind (vid_i a f s c k) ?_
      simp only [own]
      exact ev_ite (fun _ => Ev.now _) (fun _ => ih (k + 1) (by omega) (by omega))
theorem own_s (a f s c id : Int) (hid : 0 ≤ id) (d : Nat) : ∀ k : Int, 0 ≤ k → (64 - k).toNat = d → Ev (fun n => spec_VirtualOwner.l0 n a id k f s c) (own a f s c id d k) := by
  induction d with
  | zero =>
    intro k h0 hd
    refine Ev.step (f := fun n => spec_VirtualOwner.j1 n a id k false f s c) (fun n => ?_) ?_
    · simp only [spec_VirtualOwner.l0]
      rw [if_neg (by omega)]
    · refine Ev.step (f := fun _ => some (-1)) (fun n => ?_) (Ev.now _)
      simp [spec_VirtualOwner.j1]
  | succ d ih =>
    intro k h0 hd
    refine Ev.step (f := fun n => spec_VirtualOwner.j1 n a id k true f s c) (fun n => ?_) ?_
    · simp only [spec_VirtualOwner.l0]
      rw [if_pos (by omega)]
      simp [hid]
    · refine Ev.step (f := fun n => if vid a f s c k = id then some k else spec_VirtualOwner.l0 n a id (k + 1) f s c) (fun n => ?_) ?_
      · simp only [spec_VirtualOwner.j1, vid_s, Option.bind_some]
        rw [if_pos trivial, wrap_id (x := k + 1) (by omega) (by omega)]
      · simp only [own]
        exact ev_ite (fun _ => Ev.now _) (fun _ => ih (k + 1) (by omega) (by omega))
theorem own_out (a f s c id : Int) (hid : 0 ≤ id) (d : Nat) : ∀ k : Int, (vok f s c = false ∨ c ≤ k) → own a f s c id d k = -1 := by
  induction d with
  | zero => intro k _; rfl
  | succ d ih =>
    intro k h
    have hv : vid a f s c k = -1 := by
      unfold vid
      rw [if_neg]
      rcases h with h | h
      · simp [h]
      · simp; omega
    simp only [own]
    rw [if_neg (by omega), ih (k + 1) (by rcases h with h | h; exact .inl h; exact .inr (by omega))]
theorem own_more (a f s c id : Int) (hid : 0 ≤ id) (d : Nat) : ∀ (e : Nat) (k : Int), (c - k).toNat = d → own a f s c id (d + e) k = own a f s c id d k := by
  induction d with
  | zero => intro e k h; rw [own_out a f s c id hid (0 + e) k (.inr (by omega))]; rfl
  | succ d ih =>
    intro e k h
    rw [show d + 1 + e = (d + e) + 1 from by omega]
    simp only [own]
    by_cases hv : vid a f s c k = id
    · rw [if_pos hv, if_pos hv]
    · rw [if_neg hv, if_neg hv, ih e (k + 1) (by omega)]
theorem FnExactVirtualOwner : ∀ (x0 : Int) (x1 : S23) (x2 : Int), ((Lit.int .i64 x0).wf = true) → (wf23 x1) → ((Lit.int .i64 x2).wf = true) → ∃ k, laws_FnExactVirtualOwner.f k x0 x1.f0 x1.f1 x1.f2 x2 = some true := by
  intro a v id _ _ _
  refine Ev.rounds (g := fun n => laws_FnExactVirtualOwner.f n a v.f0 v.f1 v.f2 id) ?_
  simp only [laws_FnExactVirtualOwner.f, laws_toVirtual.f, Option.bind_some]
  have hs : Ev (fun n => spec_VirtualOwner.f n a v.f0 v.f1 v.f2 id) (if 0 ≤ id then own a v.f0 v.f1 v.f2 id 64 0 else -1) := by
    by_cases h : 0 ≤ id
    · rw [if_pos h]
      exact own_s a v.f0 v.f1 v.f2 id h 64 0 (by omega) (by omega)
    · rw [if_neg h]
      refine Ev.step (f := fun n => spec_VirtualOwner.j1 n a id 0 false v.f0 v.f1 v.f2) (fun n => ?_) ?_
      · simp only [spec_VirtualOwner.f, spec_VirtualOwner.l0]
        rw [if_pos (by omega)]
        simp [h]
      · refine Ev.step (f := fun _ => some (-1)) (fun n => ?_) (Ev.now _)
        simp [spec_VirtualOwner.j1]
  have hb : Ev (fun n => impl_VirtualOwner.j0 n a id true v.f0 v.f1 v.f2) (-1) := by
    refine Ev.step (f := fun _ => some (-1)) (fun n => ?_) (Ev.now _)
    simp [impl_VirtualOwner.j0]
  have hi : Ev (fun n => impl_VirtualOwner.f n a v.f0 v.f1 v.f2 id) (if 0 ≤ id then own a v.f0 v.f1 v.f2 id 64 0 else -1) := by
    simp only [impl_VirtualOwner.f, vok_i, Option.bind_some]
    by_cases h : 0 ≤ id
    · rw [if_pos h]
      refine ev_neg (by omega) ?_
      by_cases hv : vok v.f0 v.f1 v.f2 = true
      · rw [hv]
        have hc : 0 ≤ v.f2 ∧ v.f2 ≤ 64 := by simp only [vok, decide_eq_true_eq] at hv; omega
        refine Ev.step (f := fun n => impl_VirtualOwner.l0 n a id v.f2 0 v.f0 v.f1 v.f2) (fun n => ?_) ?_
        · simp [impl_VirtualOwner.j0]
        · refine ev_to (own_i' a v.f0 v.f1 v.f2 id hc.2 v.f2.toNat 0 (by omega) (by omega)) ?_
          rw [← own_more a v.f0 v.f1 v.f2 id h v.f2.toNat (64 - v.f2.toNat) 0 (by omega), show v.f2.toNat + (64 - v.f2.toNat) = 64 from by omega]
      · have hv : vok v.f0 v.f1 v.f2 = false := by simpa using hv
        rw [hv]
        refine ev_to hb ?_
        rw [own_out a v.f0 v.f1 v.f2 id h 64 0 (.inl hv)]
    · rw [if_neg h]
      exact ev_pos (by omega) hb
  refine Ev.bind hs (ev_map hi ?_)
  simp

end Go.Proofs.Ytdlbelkbngbhoaa.Pure

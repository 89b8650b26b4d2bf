/- The law FnExactVirtualIds over numbers and lists. No condition beyond the bounds of what a Go value may be. -/
import Derived.Test.YtdolbkocghgibaaEvl
import Derived.Test.YtdolbkocghgibaaHof
import Derived.Test.YtdolbkocghgibaaPFnExactVirtualIdsx3
namespace Go.Proofs.Ytdolbkocghgibaa.Pure
open Go.RowKit Go.Proofs.Ytdolbkocghgibaa.PFnExactVirtualIds Go.Proofs.YtdolbkocghgibaaW.PrintWords Go.Proofs.YtdolbkocghgibaaW.PrintLast Go.Proofs.YtdolbkocghgibaaW.PrintMore Go.Proofs.Ytdolbkocghgibaa.Evl
set_option linter.unusedVariables false
set_option linter.unusedSimpArgs false

structure S47 where
  f0 : Int
  f1 : Int
  f2 : Int
def k47 : Kd S47 := Kd.iso (Kd.pair (Kd.int .i64) (Kd.pair (Kd.int .i64) (Kd.int .i64))) (fun x : S47 => (x.f0, x.f1, x.f2))
theorem k47_open {w : World} {x : S47} {cs : List Value} (h : k47.K w x cs) : cs = [Value.int .i64 x.f0, Value.int .i64 x.f1, Value.int .i64 x.f2] := by
  obtain ⟨_, _, rfl, rfl, ⟨_, _, rfl, rfl, rfl⟩⟩ := h
  rfl
def wf47 (x : S47) : Prop := ((Lit.int .i64 x.f0).wf = true) ∧ ((Lit.int .i64 x.f1).wf = true) ∧ ((Lit.int .i64 x.f2).wf = true)

theorem in_s (a b c : Int) : spec_l01In.f a b c = some (decide (b ≤ a ∧ a ≤ c)) := by
  unfold spec_l01In.f
  by_cases h : a ≥ b
  · rw [if_pos h]; simp [h]
  · rw [if_neg h]; simp [h]
theorem in_i (a b c : Int) : impl_within.f a b c = some (decide (b ≤ a ∧ a ≤ c)) := by
  unfold impl_within.f
  by_cases h : a ≥ b
  · rw [if_pos h]; simp [h]
  · rw [if_neg h]; simp [h]
def vok (a b c : Int) : Bool := decide ((1 ≤ a ∧ a ≤ 255) ∧ (1 ≤ b ∧ b ≤ 255) ∧ (0 ≤ c ∧ c ≤ 64))
theorem vok_s (a b c : Int) : spec_VirtualOk.f a b c = some (vok a b c) := by
  simp only [spec_VirtualOk.f, in_s, Option.bind_some, vok, decide_eq_true_eq]
  by_cases h1 : 1 ≤ a ∧ a ≤ 255 <;> by_cases h2 : 1 ≤ b ∧ b ≤ 255 <;> simp [h1, h2]
theorem vok_i (a b c : Int) : impl_VirtualOk.f a b c = some (vok a b c) := by
  simp only [impl_VirtualOk.f, in_i, Option.bind_some, vok, decide_eq_true_eq]
  by_cases h1 : 1 ≤ a ∧ a ≤ 255 <;> by_cases h2 : 1 ≤ b ∧ b ≤ 255 <;> simp [h1, h2]
def isid (a : Int) : Bool := decide (0 ≤ a ∧ a ≤ 255)
theorem isid_i (a : Int) : impl_IsId.f a = some (isid a) := by simp only [impl_IsId.f, in_i, Option.bind_some, isid]
def vid (a f s c k : Int) : Int := if (isid a && vok f s c && decide (0 ≤ k ∧ k ≤ c - 1) && isid (a + f + k * s)) = true then a + f + k * s else -1
theorem vsum {a f s c k : Int} (h1 : isid a = true) (h2 : vok f s c = true) (h3 : 0 ≤ k ∧ k ≤ c - 1) : wrap64 ((wrap64 (a + f)) + (wrap64 (k * s))) = a + f + k * s := by
  simp only [isid, vok, decide_eq_true_eq] at h1 h2
  have h4 : 0 ≤ k * s := Int.mul_nonneg (by omega) (by omega)
  have h5 : k * s ≤ 63 * 255 := Int.mul_le_mul (by omega) (by omega) (by omega) (by omega)
  rw [wrap_id (x := a + f) (by omega) (by omega), wrap_id (x := k * s) (by omega) (by omega), wrap_id (by omega) (by omega)]
theorem vcount {f s c : Int} (h2 : vok f s c = true) : wrap64 (c - 1) = c - 1 := by
  simp only [vok, decide_eq_true_eq] at h2
  exact wrap_id (by omega) (by omega)
theorem vid_i (a f s c k : Int) : Ev (fun n => impl_VirtualId.f n a f s c k) (vid a f s c k) := by
  refine Ev.congr (f := fun n => if (isid a) = true then (if (vok f s c) = true then impl_VirtualId.j0 n a k (!decide (0 ≤ k ∧ k ≤ wrap64 (c - 1))) f s c else impl_VirtualId.j0 n a k true f s c) else impl_VirtualId.j0 n a k true f s c) (fun n => by simp only [impl_VirtualId.f, isid_i, vok_i, in_i, Option.bind_some]) ?_
  have hb : Ev (fun n => impl_VirtualId.j0 n a k true f s c) (-1) := by
    refine Ev.step (f := fun _ => some (-1)) (fun n => ?_) (Ev.now _)
    simp [impl_VirtualId.j0]
  by_cases h1 : isid a = true
  · refine ev_pos h1 ?_
    by_cases h2 : vok f s c = true
    · refine ev_pos h2 ?_
      rw [vcount h2]
      by_cases h3 : 0 ≤ k ∧ k ≤ c - 1
      · refine Ev.step (f := fun _ => some (vid a f s c k)) (fun n => ?_) (Ev.now _)
        simp only [impl_VirtualId.j0]
        rw [if_neg (by simp [h3]), isid_i, vsum h1 h2 h3]
        simp only [Option.bind_some, vid, h1, h2, h3, and_self, decide_true, Bool.and_true, Bool.true_and]
        by_cases h4 : isid (a + f + k * s) = true <;> simp [h4]
      · have e : (!decide (0 ≤ k ∧ k ≤ c - 1)) = true := by rw [decide_eq_false h3]; rfl
        rw [e]
        refine ev_to hb ?_
        simp [vid, h3]
    · refine ev_neg h2 (ev_to hb ?_)
      simp [vid, h2]
  · refine ev_neg h1 (ev_to hb ?_)
    simp [vid, h1]
/-- Contains(l, -1) -/
theorem index_neg (d : Nat) : ∀ (l : List Int) (i : Int), 0 ≤ i → (l.length : Int) - i = d → (l.length : Int) ≤ 64 → ∃ r, Ev (fun k => slices_Index_int_int.l0 k l (-1) (l.length : Int) i) r ∧ (r ≥ 0 ↔ ∃ j : Nat, i ≤ j ∧ l[j]? = some (-1)) := by
  induction d with
  | zero =>
    intro l i h0 hd hl
    refine ⟨-1, Ev.step (f := fun _ => some (-1)) (fun k => ?_) (Ev.now _), ⟨by omega, ?_⟩⟩
    · simp only [slices_Index_int_int.l0]
      rw [if_neg (by omega)]
    · rintro ⟨j, h1, h2⟩
      have := (List.getElem?_eq_some_iff.1 h2).1
      omega
  | succ d ih =>
    intro l i h0 hd hl
    obtain ⟨m, rfl⟩ := Int.eq_ofNat_of_zero_le h0
    have hm : m < l.length := by omega
    by_cases hc : -1 = rd l (m : Int)
    · refine ⟨m, Ev.step (f := fun _ => some (m : Int)) (fun k => ?_) (Ev.now _), ⟨fun _ => ⟨m, by omega, ?_⟩, fun _ => by omega⟩⟩
      · simp only [slices_Index_int_int.l0]
        rw [if_pos (by omega), if_pos (by omega), if_pos (by omega), if_pos hc]
      · simp only [rd, Int.toNat_natCast, List.getD_eq_getElem?_getD, List.getElem?_eq_getElem hm, Option.getD_some] at hc
        rw [List.getElem?_eq_getElem hm, ← hc]
    · obtain ⟨r, hr, hi⟩ := ih l (m + 1) (by omega) (by omega) hl
      refine ⟨r, Ev.step (f := fun k => slices_Index_int_int.l0 k l (-1) (l.length : Int) (m + 1)) (fun k => ?_) hr, hi.trans ⟨fun ⟨j, h1, h2⟩ => ⟨j, by omega, h2⟩, fun ⟨j, h1, h2⟩ => ⟨j, ?_, h2⟩⟩⟩
      · simp only [slices_Index_int_int.l0]
        rw [if_pos (by omega), if_pos (by omega), if_pos (by omega), if_neg hc, wrap_id (x := (m : Int) + 1) (by omega) (by omega)]
      · rcases Nat.lt_or_ge m j with h | h
        · omega
        · have : j = m := by omega
          subst this
          exfalso
          apply hc
          simp [rd, List.getD_eq_getElem?_getD, h2]
def ids (a f s c : Int) (n : Nat) : List Int := (List.range n).map fun k : Nat => vid a f s c k
theorem ids_i (a f s c : Int) (hv : vok f s c = true) (d : Nat) : ∀ n : Nat, (c : Int) - n = d → ∃ b, Ev (fun k => impl_VirtualIds.l0 k a (ids a f s c n) c n f s c) (if b = true then [] else ids a f s c c.toNat, !b) ∧ (b = true ↔ ∃ j : Nat, j < c.toNat ∧ vid a f s c j = -1) := by
  have hc : 0 ≤ c ∧ c ≤ 64 := by simp only [vok, decide_eq_true_eq] at hv; omega
  induction d with
  | zero =>
    intro n hd
    have hn : c.toNat = n := by omega
    obtain ⟨r, hr, hi⟩ := index_neg n (ids a f s c n) 0 (by omega) (by simp [ids]) (by simp [ids]; omega)
    refine ⟨decide (r ≥ 0), Ev.step (f := fun k => (slices_Contains_int_int.f k (ids a f s c n) (-1)).bind fun t => if t = true then (some (([] : List Int), false)) else (some (ids a f s c n, true))) (fun k => ?_) ?_, ?_⟩
    · simp only [impl_VirtualIds.l0]
      rw [if_neg (by omega)]
    · refine ev_map (a := decide (r ≥ 0)) ?_ ?_
      · simp only [slices_Contains_int_int.f, slices_Index_int_int.f]
        exact ev_map hr rfl
      · by_cases h : r ≥ 0 <;> simp [h, hn]
    · rw [decide_eq_true_iff, hi]
      constructor
      · rintro ⟨j, _, h2⟩
        have := (List.getElem?_eq_some_iff.1 h2).1
        simp [ids] at this h2
        exact ⟨j, by omega, by simpa [List.getElem?_range this] using h2⟩
      · rintro ⟨j, h1, h2⟩
        refine ⟨j, by omega, ?_⟩
        have hj : j < n := by omega
        simp [ids, List.getElem?_range hj, h2]
  | succ d ih =>
    intro n hd
    obtain ⟨b, hb, hi⟩ := ih (n + 1) (by omega)
    refine ⟨b, Ev.step (f := fun k => (impl_VirtualId.f k a f s c n).bind fun t => impl_VirtualIds.l0 k a (ids a f s c n ++ [t]) c (n + 1) f s c) (fun k => ?_) ?_, hi⟩
    · simp only [impl_VirtualIds.l0]
      rw [if_pos (by omega), wrap_id (x := (n : Int) + 1) (by omega) (by omega)]
      exact congrArg _ (funext fun t => if_pos (by simp [ids]; omega))
    · refine Ev.bind (vid_i a f s c n) ?_
      have e : ids a f s c n ++ [vid a f s c n] = ids a f s c (n + 1) := by simp [ids, List.range_succ]
      rw [e]
      exact hb
/-- What VirtualIds returns. -/
def vidsR (a f s c : Int) : List Int × Bool := if isid a = true ∧ vok f s c = true ∧ ∀ j : Nat, j < c.toNat → vid a f s c j ≠ -1 then (ids a f s c c.toNat, true) else ([], false)
theorem vids_i (a f s c : Int) : Ev (fun k => impl_VirtualIds.f k a f s c) (vidsR a f s c) := by
  have hb : Ev (fun k => impl_VirtualIds.j0 k a true f s c) ([], false) := by
    refine Ev.step (f := fun _ => some ([], false)) (fun n => ?_) (Ev.now _)
    simp [impl_VirtualIds.j0]
  simp only [impl_VirtualIds.f, isid_i, vok_i, Option.bind_some]
  by_cases h1 : isid a = true
  · refine ev_pos h1 ?_
    by_cases h2 : vok f s c = true
    · have hc : 0 ≤ c ∧ c ≤ 64 := by simp only [vok, decide_eq_true_eq] at h2; omega
      obtain ⟨b, hb, hi⟩ := ids_i a f s c h2 c.toNat 0 (by omega)
      refine ev_to (Ev.step (f := fun k => impl_VirtualIds.l0 k a [] c 0 f s c) (fun k => ?_) hb) ?_
      · rw [h2]; simp [impl_VirtualIds.j0]
      · unfold vidsR
        by_cases hb : b = true
        · obtain ⟨j, h3, h4⟩ := hi.1 hb
          have hn : ¬ (isid a = true ∧ vok f s c = true ∧ ∀ j : Nat, j < c.toNat → vid a f s c j ≠ -1) := fun h => h.2.2 j h3 h4
          rw [if_neg hn, hb]; rfl
        · have hn : isid a = true ∧ vok f s c = true ∧ ∀ j : Nat, j < c.toNat → vid a f s c j ≠ -1 := ⟨h1, h2, fun j hj hv => hb (hi.2 ⟨j, hj, hv⟩)⟩
          rw [if_pos hn]
          simp [hb]
    · rw [show vok f s c = false from by simpa using h2]
      refine ev_to hb ?_
      rw [vidsR, if_neg (fun h => h2 h.2.1)]
  · refine ev_neg h1 (ev_to hb ?_)
    rw [vidsR, if_neg (fun h => h1 h.1)]
theorem vid_neg (a f s c k : Int) : vid a f s c k < 0 ↔ vid a f s c k = -1 := by
  unfold vid
  by_cases h : (isid a && vok f s c && decide (0 ≤ k ∧ k ≤ c - 1) && isid (a + f + k * s)) = true
  · rw [if_pos h]
    simp only [Bool.and_eq_true, isid, decide_eq_true_eq] at h
    omega
  · rw [if_neg h]; omega
theorem isid_s (a : Int) : spec_IsId.f a = some (isid a) := by simp only [spec_IsId.f, in_s, Option.bind_some, isid]
theorem vid_s (a f s c k : Int) : spec_VirtualId.f a f s c k = some (vid a f s c k) := by
  simp only [spec_VirtualId.f, isid_s, vok_s, in_s, Option.bind_some]
  by_cases h1 : isid a = true
  · by_cases h2 : vok f s c = true
    · rw [vcount h2]
      by_cases h3 : 0 ≤ k ∧ k ≤ c - 1
      · rw [if_pos h1, if_pos h2, if_pos (by simpa using h3), vsum h1 h2 h3]
        by_cases h4 : isid (a + f + k * s) = true <;> simp [vid, h1, h2, h3, h4]
      · rw [if_pos h1, if_pos h2, if_neg (by simpa using h3)]
        simp [vid, h3]
    · rw [if_pos h1, if_neg h2]
      simp [vid, h2]
  · rw [if_neg h1]
    simp [vid, h1]
theorem ids_s (a f s c : Int) (h1 : isid a = true) (hv : vok f s c = true) (d : Nat) : ∀ n : Nat, (c : Int) - n = d → (∀ j : Nat, j < n → vid a f s c j ≠ -1) → Ev (fun k => spec_VirtualIds.l0 k a (ids a f s c n) n f s c) (vidsR a f s c) := by
  have hc : 0 ≤ c ∧ c ≤ 64 := by simp only [vok, decide_eq_true_eq] at hv; omega
  induction d with
  | zero =>
    intro n hd hn
    have e : c.toNat = n := by omega
    refine Ev.step (f := fun _ => some (ids a f s c n, true)) (fun k => ?_) (ev_to (Ev.now _) ?_)
    · simp only [spec_VirtualIds.l0]
      rw [if_neg (by omega)]
    · rw [vidsR, if_pos ⟨h1, hv, by rw [e]; exact hn⟩, e]
  | succ d ih =>
    intro n hd hn
    refine Ev.step (f := fun k => if vid a f s c n = -1 then some ([], false) else spec_VirtualIds.l0 k a (ids a f s c (n + 1)) ((n + 1 : Nat) : Int) f s c) (fun k => ?_) ?_
    · simp only [spec_VirtualIds.l0, vid_s, Option.bind_some]
      rw [if_pos (by omega), wrap_id (x := (n : Int) + 1) (by omega) (by omega)]
      by_cases h : vid a f s c n = -1
      · rw [if_pos h, if_pos (by omega)]
      · rw [if_neg h, if_neg (fun h' => h ((vid_neg _ _ _ _ _).1 h')), if_pos (by simp [ids]; omega)]
        have e : ids a f s c n ++ [vid a f s c n] = ids a f s c (n + 1) := by simp [ids, List.range_succ]
        rw [e]; rfl
    · by_cases h : vid a f s c n = -1
      · refine ev_pos h (ev_to (Ev.now _) ?_)
        rw [vidsR, if_neg (fun h' => h'.2.2 n (by omega) h)]
      · refine ev_neg h (ih (n + 1) (by omega) (fun j hj => ?_))
        rcases Nat.eq_or_lt_of_le (Nat.le_of_lt_succ hj) with e | e
        · subst e; exact h
        · exact hn j e
theorem vids_s (a f s c : Int) : Ev (fun k => spec_VirtualIds.f k a f s c) (vidsR a f s c) := by
  have hb : Ev (fun k => spec_VirtualIds.j0 k a [] true f s c) ([], false) := by
    refine Ev.step (f := fun _ => some ([], false)) (fun n => ?_) (Ev.now _)
    simp [spec_VirtualIds.j0]
  simp only [spec_VirtualIds.f, isid_s, vok_s, Option.bind_some]
  by_cases h1 : isid a = true
  · refine ev_pos h1 ?_
    by_cases h2 : vok f s c = true
    · rw [h2]
      have hc : 0 ≤ c ∧ c ≤ 64 := by simp only [vok, decide_eq_true_eq] at h2; omega
      refine Ev.step (f := fun k => spec_VirtualIds.l0 k a (ids a f s c 0) ((0 : Nat) : Int) f s c) (fun k => ?_) (ids_s a f s c h1 h2 c.toNat 0 (by omega) (fun j hj => by omega))
      simp [spec_VirtualIds.j0, ids]
    · rw [show vok f s c = false from by simpa using h2]
      refine ev_to hb ?_
      rw [vidsR, if_neg (fun h => h2 h.2.1)]
  · refine ev_neg h1 (ev_to hb ?_)
    rw [vidsR, if_neg (fun h => h1 h.1)]
theorem gset_self {α : Type} (l : List α) (i : Nat) (a z : α) (h : i < l.length) : (l.set i a).getD i z = a := by
  simp [List.getD_eq_getElem?_getD, List.getElem?_set, h]
theorem gset_ne {α : Type} (l : List α) (i j : Nat) (a z : α) (h : i ≠ j) : (l.set i a).getD j z = l.getD j z := by
  simp [List.getD_eq_getElem?_getD, List.getElem?_set, h]
theorem eqIntS_l (l : List Int) (hl : l.length ≤ 11728124029610) (d : Nat) : ∀ i : Nat, l.length - i = d → Ev (fun k => laws_eqIntS.l0 k l l i) true := by
  induction d with
  | zero =>
    intro i hd
    refine Ev.step (f := fun _ => some true) (fun k => ?_) (Ev.now _)
    simp only [laws_eqIntS.l0]
    rw [if_neg (by omega)]
  | succ d ih =>
    intro i hd
    refine Ev.step (f := fun k => laws_eqIntS.l0 k l l (i + 1 : Nat)) (fun k => ?_) (ih _ (by omega))
    simp only [laws_eqIntS.l0]
    rw [if_pos (by omega), if_pos (by omega), if_pos (by omega), if_pos trivial, wrap_id (x := (i : Int) + 1) (by omega) (by omega)]
    rfl
theorem eqIntS_ev (l : List Int) (hl : l.length ≤ 11728124029610) : Ev (fun k => laws_eqIntS.f k l l) true := by
  simp only [laws_eqIntS.f]
  exact ev_pos trivial (eqIntS_l l hl l.length 0 (by omega))
theorem rdI (l : List Int) (i : Nat) : rd l (i : Int) = l.getD i 0 := rfl
theorem markIntS_l (k : Int) (h0 : 0 ≤ k) (len : Nat) (hl : k + (len : Int) ≤ 1152921504606846976) (d : Nat) : ∀ (xs : List Int) (i : Nat), xs.length = len → len - i = d → i ≤ len → (∀ j : Nat, j < i → xs.getD j 0 = k + (j : Int)) →
    ∃ ys : List Int, Ev (fun n => laws_markIntS.l0 n xs (k + (i : Int)) i) (k + (len : Int), ys) ∧ ys.length = len ∧ ∀ j : Nat, j < len → ys.getD j 0 = k + (j : Int) := by
  induction d with
  | zero =>
    intro xs i hx hd hi hm
    have e : i = len := by omega
    subst e
    refine ⟨xs, Ev.step (f := fun _ => some (k + (i : Int), xs)) (fun n => ?_) (Ev.now _), hx, hm⟩
    simp only [laws_markIntS.l0]
    rw [if_neg (by omega)]
  | succ d ih =>
    intro xs i hx hd hi hm
    have hlt : i < xs.length := by omega
    obtain ⟨ys, h1, h2, h3⟩ := ih (xs.set i (k + (i : Int))) (i + 1) (by simpa using hx) (by omega) (by omega) (by
      intro j hj
      rcases Nat.eq_or_lt_of_le (Nat.le_of_lt_succ hj) with e | e
      · subst e; exact gset_self _ _ _ _ hlt
      · rw [gset_ne _ _ _ _ _ (by omega)]; exact hm j e)
    refine ⟨ys, Ev.step (f := fun n => laws_markIntS.l0 n (xs.set i (k + (i : Int))) (k + ((i + 1 : Nat) : Int)) ((i + 1 : Nat) : Int)) (fun n => ?_) h1, h2, h3⟩
    simp only [laws_markIntS.l0]
    rw [if_pos (by omega), if_pos (by omega), wrap_id (x := k + (i : Int) + 1) (by omega) (by omega), wrap_id (x := (i : Int) + 1) (by omega) (by omega), show k + (i : Int) + 1 = k + ((i + 1 : Nat) : Int) from by omega]
    rfl
theorem heldIntS_l (k : Int) (h0 : 0 ≤ k) (ys : List Int) (hl : k + (ys.length : Int) ≤ 1152921504606846976) (hm : ∀ j : Nat, j < ys.length → ys.getD j 0 = k + (j : Int)) (d : Nat) : ∀ i : Nat, ys.length - i = d → i ≤ ys.length →
    Ev (fun n => laws_heldIntS.l0 n ys (k + (i : Int)) i) (k + (ys.length : Int)) := by
  induction d with
  | zero =>
    intro i hd hi
    have e : i = ys.length := by omega
    subst e
    refine Ev.step (f := fun _ => some (k + (ys.length : Int))) (fun n => ?_) (Ev.now _)
    simp only [laws_heldIntS.l0]
    rw [if_neg (by omega)]
  | succ d ih =>
    intro i hd hi
    refine Ev.step (f := fun n => laws_heldIntS.l0 n ys (k + ((i + 1 : Nat) : Int)) ((i + 1 : Nat) : Int)) (fun n => ?_) (ih (i + 1) (by omega) (by omega))
    simp only [laws_heldIntS.l0]
    rw [if_pos (by omega), if_pos (by omega), rdI, hm i (by omega), if_pos rfl, wrap_id (x := k + (i : Int) + 1) (by omega) (by omega), wrap_id (x := (i : Int) + 1) (by omega) (by omega), show k + (i : Int) + 1 = k + ((i + 1 : Nat) : Int) from by omega]
    rfl
theorem intS_marks (xs : List Int) (hl : xs.length ≤ 2097152) (k : Int) (h0 : 0 ≤ k) (h1 : k ≤ 1000000000000) : ∃ ys : List Int, Ev (fun n => laws_markIntS.f n xs k) (k + (xs.length : Int), ys) ∧ ys.length = xs.length ∧ Ev (fun n => laws_heldIntS.f n ys k) (k + (xs.length : Int)) := by
  obtain ⟨ys, a, b, c⟩ := markIntS_l k h0 xs.length (by omega) xs.length xs 0 rfl rfl (Nat.zero_le _) (fun j hj => by omega)
  refine ⟨ys, ?_, b, ?_⟩
  · have : Ev (fun n => laws_markIntS.l0 n xs (k + ((0 : Nat) : Int)) ((0 : Nat) : Int)) (k + (xs.length : Int), ys) := a
    rw [show k + ((0 : Nat) : Int) = k from by omega] at this
    exact this
  · have := heldIntS_l k h0 ys (by omega) (by rw [b]; exact c) ys.length 0 rfl (Nat.zero_le _)
    rw [show k + ((0 : Nat) : Int) = k from by omega, b] at this
    exact this
theorem FnExactVirtualIds : ∀ (x0 : Int) (x1 : S47), ((Lit.int .i64 x0).wf = true) → (wf47 x1) → ∃ k, laws_FnExactVirtualIds.f k x0 x1.f0 x1.f1 x1.f2 = some true := by
  intro a v _ _
  refine Ev.rounds (g := fun n => laws_FnExactVirtualIds.f n a v.f0 v.f1 v.f2) ?_
  simp only [laws_FnExactVirtualIds.f, laws_toVirtual.f, Option.bind_some]
  have hS := vids_s a v.f0 v.f1 v.f2
  have hI := vids_i a v.f0 v.f1 v.f2
  have hR : (vidsR a v.f0 v.f1 v.f2).1.length ≤ 64 := by
    unfold vidsR
    split
    · rename_i h
      have := h.2.1
      simp only [vok, decide_eq_true_eq] at this
      simp [ids]; omega
    · simp
  generalize vidsR a v.f0 v.f1 v.f2 = R at hS hI hR
  obtain ⟨R1, R2⟩ := R
  have hq := eqIntS_ev R1 (by simp at hR; omega)
  obtain ⟨zs, m4, m5, m6⟩ := intS_marks R1 (by simp at hR; omega) 1 (by omega) (by omega)
  have b1 : (R2 != R2) = false := by simp
  refine Ev.bind hS (Ev.bind hI (Ev.bind hq (ev_pos rfl ?_)))
  simp only [b1]
  refine Ev.step (fun n => by simp only [laws_FnExactVirtualIds.j0]; rw [if_neg (by decide)]) ?_
  simp only [laws_toVirtual.f, Option.bind_some]
  refine Ev.bind m4 (Ev.bind m6 (ev_neg (by omega) (ev_pos rfl (Ev.bind hI (Ev.bind hq (ev_pos rfl ?_))))))
  simp only [b1]
  refine Ev.step (fun n => by simp only [laws_FnExactVirtualIds.j1]; rw [if_neg (by decide)]) ?_
  exact Ev.bind m6 (ev_neg (by omega) (ev_pos rfl (Ev.now _)))

end Go.Proofs.Ytdolbkocghgibaa.Pure

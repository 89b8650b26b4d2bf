/- The law FnExactVirtualRoom over numbers and lists. No condition beyond the bounds of what a Go value may be. -/
import Derived.Test.YtdlbelkbngbhoaaEvl
import Derived.Test.YtdlbelkbngbhoaaPFnExactVirtualRoomx2
namespace Go.Proofs.Ytdlbelkbngbhoaa.Pure
open Go.RowKit Go.Proofs.Ytdlbelkbngbhoaa.PFnExactVirtualRoom Go.Proofs.YtdlbelkbngbhoaaW.PrintWords Go.Proofs.YtdlbelkbngbhoaaW.PrintLast Go.Proofs.Ytdlbelkbngbhoaa.Evl
set_option linter.unusedVariables false


theorem in_s (a b c : Int) : spec_l01In.f a b c = some (decide (b ≤ a ∧ a ≤ c)) := by
  unfold spec_l01In.f
  by_cases h : a ≥ b
  · rw [if_pos h]; simp [h]
  · rw [if_neg h]; simp [h]
theorem in_i (a b c : Int) : impl_within.f a b c = some (decide (b ≤ a ∧ a ≤ c)) := by
  unfold impl_within.f
  by_cases h : a ≥ b
  · rw [if_pos h]; simp [h]
  · rw [if_neg h]; simp [h]
def vok (a b c : Int) : Bool := decide ((1 ≤ a ∧ a ≤ 255) ∧ (1 ≤ b ∧ b ≤ 255) ∧ (0 ≤ c ∧ c ≤ 64))
theorem vok_s (a b c : Int) : spec_VirtualOk.f a b c = some (vok a b c) := by
  simp only [spec_VirtualOk.f, in_s, Option.bind_some, vok, decide_eq_true_eq]
  by_cases h1 : 1 ≤ a ∧ a ≤ 255 <;> by_cases h2 : 1 ≤ b ∧ b ≤ 255 <;> simp [h1, h2]
theorem vok_i (a b c : Int) : impl_VirtualOk.f a b c = some (vok a b c) := by
  simp only [impl_VirtualOk.f, in_i, Option.bind_some, vok, decide_eq_true_eq]
  by_cases h1 : 1 ≤ a ∧ a ≤ 255 <;> by_cases h2 : 1 ≤ b ∧ b ≤ 255 <;> simp [h1, h2]
def isid (a : Int) : Bool := decide (0 ≤ a ∧ a ≤ 255)
theorem isid_i (a : Int) : impl_IsId.f a = some (isid a) := by simp only [impl_IsId.f, in_i, Option.bind_some, isid]
def vid (a f s c k : Int) : Int := if (isid a && vok f s c && decide (0 ≤ k ∧ k ≤ c - 1) && isid (a + f + k * s)) = true then a + f + k * s else -1
theorem vsum {a f s c k : Int} (h1 : isid a = true) (h2 : vok f s c = true) (h3 : 0 ≤ k ∧ k ≤ c - 1) : wrap64 ((wrap64 (a + f)) + (wrap64 (k * s))) = a + f + k * s := by
  simp only [isid, vok, decide_eq_true_eq] at h1 h2
  have h4 : 0 ≤ k * s := Int.mul_nonneg (by omega) (by omega)
  have h5 : k * s ≤ 63 * 255 := Int.mul_le_mul (by omega) (by omega) (by omega) (by omega)
  rw [wrap_id (x := a + f) (by omega) (by omega), wrap_id (x := k * s) (by omega) (by omega), wrap_id (by omega) (by omega)]
theorem vcount {f s c : Int} (h2 : vok f s c = true) : wrap64 (c - 1) = c - 1 := by
  simp only [vok, decide_eq_true_eq] at h2
  exact wrap_id (by omega) (by omega)
theorem vid_i (a f s c k : Int) : Ev (fun n => impl_VirtualId.f n a f s c k) (vid a f s c k) := by
  refine Ev.congr (f := fun n => if (isid a) = true then (if (vok f s c) = true then impl_VirtualId.j0 n a k (!decide (0 ≤ k ∧ k ≤ wrap64 (c - 1))) f s c else impl_VirtualId.j0 n a k true f s c) else impl_VirtualId.j0 n a k true f s c) (fun n => by simp only [impl_VirtualId.f, isid_i, vok_i, in_i, Option.bind_some]) ?_
  have hb : Ev (fun n => impl_VirtualId.j0 n a k true f s c) (-1) := by
    refine Ev.step (f := fun _ => some (-1)) (fun n => ?_) (Ev.now _)
    simp [impl_VirtualId.j0]
  by_cases h1 : isid a = true
  · refine ev_pos h1 ?_
    by_cases h2 : vok f s c = true
    · refine ev_pos h2 ?_
      rw [vcount h2]
      by_cases h3 : 0 ≤ k ∧ k ≤ c - 1
      · refine Ev.step (f := fun _ => some (vid a f s c k)) (fun n => ?_) (Ev.now _)
        simp only [impl_VirtualId.j0]
        rw [if_neg (by simp [h3]), isid_i, vsum h1 h2 h3]
        simp only [Option.bind_some, vid, h1, h2, h3, and_self, decide_true, Bool.and_true, Bool.true_and]
        by_cases h4 : isid (a + f + k * s) = true <;> simp [h4]
      · have e : (!decide (0 ≤ k ∧ k ≤ c - 1)) = true := by rw [decide_eq_false h3]; rfl
        rw [e]
        refine ev_to hb ?_
        simp [vid, h3]
    · refine ev_neg h2 (ev_to hb ?_)
      simp [vid, h2]
  · refine ev_neg h1 (ev_to hb ?_)
    simp [vid, h1]
theorem isid_s (a : Int) : spec_IsId.f a = some (isid a) := by simp only [spec_IsId.f, in_s, Option.bind_some, isid]
/-- how many from n on fit, at most d more. -/
def room (a f s : Int) : Nat → Int → Int
  | 0, n => n
  | d + 1, n => if isid (a + f + n * s) = true then room a f s d (n + 1) else n
theorem nonneg_mul {n s : Int} (hn : 0 ≤ n ∧ n ≤ 64) (hs : 1 ≤ s ∧ s ≤ 255) : 0 ≤ n * s ∧ n * s ≤ 64 * 255 :=
  ⟨Int.mul_nonneg (by omega) (by omega), Int.mul_le_mul (by omega) (by omega) (by omega) (by omega)⟩
theorem rsum {a f s n : Int} (h1 : isid a = true) (hf : 1 ≤ f ∧ f ≤ 255) (hs : 1 ≤ s ∧ s ≤ 255) (hn : 0 ≤ n ∧ n ≤ 64) : wrap64 ((wrap64 (a + f)) + (wrap64 (n * s))) = a + f + n * s := by
  simp only [isid, decide_eq_true_eq] at h1
  have h4 := nonneg_mul hn hs
  rw [wrap_id (x := a + f) (by omega) (by omega), wrap_id (x := n * s) (by omega) (by omega), wrap_id (by omega) (by omega)]
theorem room_s (a f s : Int) (h1 : isid a = true) (hf : 1 ≤ f ∧ f ≤ 255) (hs : 1 ≤ s ∧ s ≤ 255) (d : Nat) : ∀ n : Int, 0 ≤ n → 64 - n = d → Ev (fun k => spec_VirtualRoom.l0 k a f s n) (room a f s d n) := by
  induction d with
  | zero =>
    intro n h0 hd
    refine Ev.step (f := fun _ => some n) (fun k => ?_) (Ev.now _)
    simp only [spec_VirtualRoom.l0]
    rw [if_neg (by omega)]
  | succ d ih =>
    intro n h0 hd
    refine Ev.step (f := fun k => if isid (a + f + n * s) = true then spec_VirtualRoom.l0 k a f s (n + 1) else some n) (fun k => ?_) ?_
    · simp only [spec_VirtualRoom.l0]
      rw [if_pos (by omega), isid_s, rsum h1 hf hs (by omega), wrap_id (x := n + 1) (by omega) (by omega)]
      simp only [Option.bind_some]
    · simp only [room]
      exact ev_ite (fun _ => ih (n + 1) (by omega) (by omega)) (fun _ => Ev.now _)
/-- what room is: the greatest count that fits, or 64 -/
theorem room_is (a f s : Int) (h1 : isid a = true) (hf : 1 ≤ f ∧ f ≤ 255) (hs : 1 ≤ s ∧ s ≤ 255) (d : Nat) : ∀ n : Int, 0 ≤ n → 64 - n = d → (n = 0 ∨ isid (a + f + (n - 1) * s) = true) →
    n ≤ room a f s d n ∧ room a f s d n ≤ 64 ∧ (room a f s d n = 0 ∨ isid (a + f + (room a f s d n - 1) * s) = true) ∧ (room a f s d n < 64 → isid (a + f + room a f s d n * s) = false) := by
  induction d with
  | zero => intro n h0 hd h; simp only [room]; exact ⟨by omega, by omega, h, by omega⟩
  | succ d ih =>
    intro n h0 hd h
    simp only [room]
    by_cases hc : isid (a + f + n * s) = true
    · rw [if_pos hc]
      have := ih (n + 1) (by omega) (by omega) (.inr (by rw [show n + 1 - 1 = n from by omega]; exact hc))
      exact ⟨by omega, this.2⟩
    · rw [if_neg hc]
      exact ⟨by omega, by omega, h, fun _ => by simpa using hc⟩
theorem mul_le {s x y : Int} (hs : 1 ≤ s ∧ s ≤ 255) (h : x ≤ y) : x * s ≤ y * s := Int.mul_le_mul_of_nonneg_right h (by omega)
/-- Contains(l, -1) -/
theorem index_neg (d : Nat) : ∀ (l : List Int) (i : Int), 0 ≤ i → (l.length : Int) - i = d → (l.length : Int) ≤ 64 → ∃ r, Ev (fun k => slices_Index_int_int.l0 k l (-1) (l.length : Int) i) r ∧ (r ≥ 0 ↔ ∃ j : Nat, i ≤ j ∧ l[j]? = some (-1)) := by
  induction d with
  | zero =>
    intro l i h0 hd hl
    refine ⟨-1, Ev.step (f := fun _ => some (-1)) (fun k => ?_) (Ev.now _), ⟨by omega, ?_⟩⟩
    · simp only [slices_Index_int_int.l0]
      rw [if_neg (by omega)]
    · rintro ⟨j, h1, h2⟩
      have := (List.getElem?_eq_some_iff.1 h2).1
      omega
  | succ d ih =>
    intro l i h0 hd hl
    obtain ⟨m, rfl⟩ := Int.eq_ofNat_of_zero_le h0
    have hm : m < l.length := by omega
    by_cases hc : -1 = rd l (m : Int)
    · refine ⟨m, Ev.step (f := fun _ => some (m : Int)) (fun k => ?_) (Ev.now _), ⟨fun _ => ⟨m, by omega, ?_⟩, fun _ => by omega⟩⟩
      · simp only [slices_Index_int_int.l0]
        rw [if_pos (by omega), if_pos (by omega), if_pos (by omega), if_pos hc]
      · simp only [rd, Int.toNat_natCast, List.getD_eq_getElem?_getD, List.getElem?_eq_getElem hm, Option.getD_some] at hc
        rw [List.getElem?_eq_getElem hm, ← hc]
    · obtain ⟨r, hr, hi⟩ := ih l (m + 1) (by omega) (by omega) hl
      refine ⟨r, Ev.step (f := fun k => slices_Index_int_int.l0 k l (-1) (l.length : Int) (m + 1)) (fun k => ?_) hr, hi.trans ⟨fun ⟨j, h1, h2⟩ => ⟨j, by omega, h2⟩, fun ⟨j, h1, h2⟩ => ⟨j, ?_, h2⟩⟩⟩
      · simp only [slices_Index_int_int.l0]
        rw [if_pos (by omega), if_pos (by omega), if_pos (by omega), if_neg hc, wrap_id (x := (m : Int) + 1) (by omega) (by omega)]
      · rcases Nat.lt_or_ge m j with h | h
        · omega
        · have : j = m := by omega
          subst this
          exfalso
          apply hc
          simp [rd, List.getD_eq_getElem?_getD, h2]
def ids (a f s c : Int) (n : Nat) : List Int := (List.range n).map fun k : Nat => vid a f s c k
theorem ids_i (a f s c : Int) (hv : vok f s c = true) (d : Nat) : ∀ n : Nat, (c : Int) - n = d → ∃ b, Ev (fun k => impl_VirtualIds.l0 k a (ids a f s c n) c n f s c) (if b = true then [] else ids a f s c c.toNat, !b) ∧ (b = true ↔ ∃ j : Nat, j < c.toNat ∧ vid a f s c j = -1) := by
  have hc : 0 ≤ c ∧ c ≤ 64 := by simp only [vok, decide_eq_true_eq] at hv; omega
  induction d with
  | zero =>
    intro n hd
    have hn : c.toNat = n := by omega
    obtain ⟨r, hr, hi⟩ := index_neg n (ids a f s c n) 0 (by omega) (by simp [ids]) (by simp [ids]; omega)
    refine ⟨decide (r ≥ 0), Ev.step (f := fun k => (slices_Contains_int_int.f k (ids a f s c n) (-1)).bind fun t => if t = true then (some (([] : List Int), false)) else (some (ids a f s c n, true))) (fun k => ?_) ?_, ?_⟩
    · simp only [impl_VirtualIds.l0]
      rw [if_neg (by omega)]
    · refine ev_map (a := decide (r ≥ 0)) ?_ ?_
      · simp only [slices_Contains_int_int.f, slices_Index_int_int.f]
        exact ev_map hr rfl
      · by_cases h : r ≥ 0 <;> simp [h, hn]
    · rw [decide_eq_true_iff, hi]
      constructor
      · rintro ⟨j, _, h2⟩
        have := (List.getElem?_eq_some_iff.1 h2).1
        simp [ids] at this h2
        exact ⟨j, by omega, by simpa [List.getElem?_range this] using h2⟩
      · rintro ⟨j, h1, h2⟩
        refine ⟨j, by omega, ?_⟩
        have hj : j < n := by omega
        simp [ids, List.getElem?_range hj, h2]
  | succ d ih =>
    intro n hd
    obtain ⟨b, hb, hi⟩ := ih (n + 1) (by omega)
    refine ⟨b, Ev.step (f := fun k => (impl_VirtualId.f k a f s c n).bind fun t => impl_VirtualIds.l0 k a (ids a f s c n ++ [t]) c (n + 1) f s c) (fun k => ?_) ?_, hi⟩
    · simp only [impl_VirtualIds.l0]
      rw [if_pos (by omega), wrap_id (x := (n : Int) + 1) (by omega) (by omega)]
      exact congrArg _ (funext fun t => if_pos (by simp [ids]; omega))
    · refine Ev.bind (vid_i a f s c n) ?_
      have e : ids a f s c n ++ [vid a f s c n] = ids a f s c (n + 1) := by simp [ids, List.range_succ]
      rw [e]
      exact hb
/-- does VirtualIds return true -/
theorem fits_i (a f s c : Int) : ∃ l, Ev (fun k => impl_VirtualIds.f k a f s c) (l, isid a && vok f s c && decide (∀ j : Nat, j < c.toNat → vid a f s c j ≠ -1)) := by
  have hb : Ev (fun k => impl_VirtualIds.j0 k a true f s c) ([], false) := by
    refine Ev.step (f := fun _ => some ([], false)) (fun n => ?_) (Ev.now _)
    simp [impl_VirtualIds.j0]
  simp only [impl_VirtualIds.f, isid_i, vok_i, Option.bind_some]
  by_cases h1 : isid a = true
  · by_cases h2 : vok f s c = true
    · have hc : 0 ≤ c ∧ c ≤ 64 := by simp only [vok, decide_eq_true_eq] at h2; omega
      obtain ⟨b, hb, hi⟩ := ids_i a f s c h2 c.toNat 0 (by omega)
      refine ⟨if b = true then [] else ids a f s c c.toNat, ev_pos h1 (ev_to (Ev.step (f := fun k => impl_VirtualIds.l0 k a [] c 0 f s c) (fun k => ?_) hb) ?_)⟩
      · rw [h2]; simp [impl_VirtualIds.j0]
      · rw [h1, h2]
        refine Prod.ext rfl ?_
        simp only [Bool.true_and]
        by_cases hb : b = true
        · obtain ⟨j, h3, h4⟩ := hi.1 hb
          rw [hb, decide_eq_false (fun h => h j h3 h4)]; rfl
        · rw [decide_eq_true (p := ∀ j : Nat, j < c.toNat → vid a f s c j ≠ -1) (fun j hj hv => hb (hi.2 ⟨j, hj, hv⟩))]
          simpa using hb
    · exact ⟨[], ev_pos h1 (ev_to (by rw [show vok f s c = false from by simpa using h2]; exact hb) (by simp [h2]))⟩
  · exact ⟨[], ev_neg h1 (ev_to hb (by simp [h1]))⟩
theorem room_i (a f s : Int) (R : Int) (P : Int → Bool) (hP : ∀ c : Int, -1 ≤ c → c ≤ 64 → (isid a && vok f s c && decide (∀ j : Nat, j < c.toNat → vid a f s c j ≠ -1)) = P c) (hR : -1 ≤ R ∧ R ≤ 64) (h1 : 0 ≤ R → P R = true) (h2 : ∀ c : Int, R < c → c ≤ 64 → 0 ≤ c → P c = false) (d : Nat) :
    ∀ c : Int, R ≤ c → c ≤ 64 → c - R = d → Ev (fun k => impl_VirtualRoom.l0 k a f s c) R := by
  induction d with
  | zero =>
    intro c hc h64 hd
    obtain rfl : c = R := by omega
    by_cases hn : 0 ≤ c
    · obtain ⟨l, hl⟩ := fits_i a f s c
      rw [hP c (by omega) h64, h1 hn] at hl
      refine Ev.step (f := fun k => (impl_VirtualIds.f k a f s c).bind fun bt => if bt.2 = true then some c else impl_VirtualRoom.l0 k a f s (wrap64 (c - 1))) (fun k => ?_) ?_
      · simp only [impl_VirtualRoom.l0]
        rw [if_pos (by omega)]
      · refine Ev.bind hl (ev_pos rfl (Ev.now _))
    · refine Ev.step (f := fun _ => some c) (fun k => ?_) (Ev.now _)
      simp only [impl_VirtualRoom.l0]
      rw [if_neg (by omega), show c = -1 from by omega]
  | succ d ih =>
    intro c hc h64 hd
    obtain ⟨l, hl⟩ := fits_i a f s c
    rw [hP c (by omega) h64, h2 c (by omega) h64 (by omega)] at hl
    refine Ev.step (f := fun k => (impl_VirtualIds.f k a f s c).bind fun bt => if bt.2 = true then some c else impl_VirtualRoom.l0 k a f s (c - 1)) (fun k => ?_) ?_
    · simp only [impl_VirtualRoom.l0]
      rw [if_pos (by omega), wrap_id (x := c - 1) (by omega) (by omega)]
    · exact Ev.bind hl (ev_neg (by simp) (ih (c - 1) (by omega) (by omega) (by omega)))
theorem FnExactVirtualRoom : ∀ (x0 : Int) (x1 : Int) (x2 : Int), ((Lit.int .i64 x0).wf = true) → ((Lit.int .i64 x1).wf = true) → ((Lit.int .i64 x2).wf = true) → ∃ k, laws_FnExactVirtualRoom.f k x0 x1 x2 = some true := by
  intro a f s _ _ _
  refine Ev.rounds (g := fun n => laws_FnExactVirtualRoom.f n a f s) ?_
  simp only [laws_FnExactVirtualRoom.f]
  by_cases h1 : isid a = true
  · by_cases h2 : vok f s 0 = true
    · have hfs : (1 ≤ f ∧ f ≤ 255) ∧ (1 ≤ s ∧ s ≤ 255) := by simp only [vok, decide_eq_true_eq] at h2; omega
      obtain ⟨hf, hs⟩ := hfs
      obtain ⟨r1, r2, r3, r4⟩ := room_is a f s h1 hf hs 64 0 (by omega) (by omega) (.inl rfl)
      have hS : Ev (fun k => spec_VirtualRoom.f k a f s) (room a f s 64 0) := by
        simp only [spec_VirtualRoom.f, isid_s, vok_s, Option.bind_some]
        refine ev_pos h1 (Ev.step (f := fun k => spec_VirtualRoom.l0 k a f s 0) (fun k => ?_) (room_s a f s h1 hf hs 64 0 (by omega) (by omega)))
        rw [h2]
        simp [spec_VirtualRoom.j0]
      have ha : 0 ≤ a ∧ a ≤ 255 := by simpa only [isid, decide_eq_true_eq] using h1
      have hI : Ev (fun k => impl_VirtualRoom.f k a f s) (room a f s 64 0) := by
        refine room_i a f s (room a f s 64 0) (fun c => isid a && vok f s c && decide (∀ j : Nat, j < c.toNat → vid a f s c j ≠ -1)) (fun c _ _ => rfl) (by omega) ?_ ?_ _ 64 (by omega) (by omega) (Int.toNat_of_nonneg (by omega)).symm
        · intro h0
          simp only [h1, Bool.true_and, Bool.and_eq_true, decide_eq_true_eq]
          generalize room a f s 64 0 = R at *
          have hv : vok f s R = true := by simp only [vok, decide_eq_true_eq]; omega
          refine ⟨hv, fun j hj => ?_⟩
          have hle : isid (a + f + j * s) = true := by
            rcases r3 with r3 | r3
            · omega
            · simp only [isid, decide_eq_true_eq] at r3 ⊢
              have m1 := mul_le (x := (j : Int)) (y := R - 1) hs (by omega)
              have m2 := nonneg_mul (n := (j : Int)) (by omega) hs
              omega
          have : vid a f s R j = a + f + j * s := by
            unfold vid
            rw [if_pos]
            simp only [h1, hv, hle, Bool.true_and, Bool.and_true, decide_eq_true_eq]
            omega
          rw [this]
          simp only [isid, decide_eq_true_eq] at hle
          omega
        · intro c hc h64 h0
          generalize room a f s 64 0 = R at *
          have hR := r4 (by omega)
          have : decide (∀ j : Nat, j < c.toNat → vid a f s c j ≠ -1) = false := by
            refine decide_eq_false (fun h => h R.toNat (by omega) ?_)
            unfold vid
            rw [if_neg]
            rw [Int.toNat_of_nonneg (by omega)]
            simp [hR]
          rw [this, Bool.and_false]
      exact Ev.bind hS (ev_map hI (by simp))
    · have h2' : ∀ c, 0 ≤ c → c ≤ 64 → vok f s c = false := by
        intro c h0 h64
        simp only [vok, decide_eq_true_eq] at h2
        simp only [vok, decide_eq_false_iff_not]
        omega
      have hS : Ev (fun k => spec_VirtualRoom.f k a f s) (-1) := by
        simp only [spec_VirtualRoom.f, isid_s, vok_s, Option.bind_some]
        refine ev_pos h1 (Ev.step (f := fun _ => some (-1)) (fun k => ?_) (Ev.now _))
        rw [show vok f s 0 = false from by simpa using h2]
        simp [spec_VirtualRoom.j0]
      have hI : Ev (fun k => impl_VirtualRoom.f k a f s) (-1) := by
        refine room_i a f s (-1) _ (fun c _ _ => rfl) (by omega) (by omega) ?_ 65 64 (by omega) (by omega) (by omega)
        intro c _ h64 h0
        simp [h2' c h0 h64]
      exact Ev.bind hS (ev_map hI (by simp))
  · have hS : Ev (fun k => spec_VirtualRoom.f k a f s) (-1) := by
      simp only [spec_VirtualRoom.f, isid_s, vok_s, Option.bind_some]
      refine ev_neg h1 (Ev.step (f := fun _ => some (-1)) (fun k => ?_) (Ev.now _))
      simp [spec_VirtualRoom.j0]
    have hI : Ev (fun k => impl_VirtualRoom.f k a f s) (-1) := by
      refine room_i a f s (-1) _ (fun c _ _ => rfl) (by omega) (by omega) ?_ 65 64 (by omega) (by omega) (by omega)
      intro c _ h64 h0
      simp [h1]
    exact Ev.bind hS (ev_map hI (by simp))

end Go.Proofs.Ytdlbelkbngbhoaa.Pure

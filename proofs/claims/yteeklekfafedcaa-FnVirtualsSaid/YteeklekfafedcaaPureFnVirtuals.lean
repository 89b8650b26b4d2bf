/- The law FnVirtuals over numbers and lists. No condition beyond the bounds of what a Go value may be. -/
import Derived.Test.YteeklekfafedcaaEvl
import Derived.Test.YteeklekfafedcaaHof
import Derived.Test.YteeklekfafedcaaPFnVirtualsx3
namespace Go.Proofs.Yteeklekfafedcaa.Pure
open Go.RowKit Go.Proofs.Yteeklekfafedcaa.PFnVirtuals Go.Proofs.YteeklekfafedcaaW.PrintWords Go.Proofs.YteeklekfafedcaaW.PrintLast Go.Proofs.YteeklekfafedcaaW.PrintMore Go.Proofs.Yteeklekfafedcaa.Evl
set_option linter.unusedVariables false
set_option linter.unusedSimpArgs false


theorem and255 (n : Int) : Go.bits .and .i64 n 255 = n % 256 := by
  have h255 : (BitVec.ofInt 64 255).toNat = 2 ^ 8 - 1 := by decide
  have key : (BitVec.ofInt 64 n &&& BitVec.ofInt 64 255).toNat = (n % ((2 ^ 64 : Nat) : Int)).toNat % 2 ^ 8 := by
    rw [BitVec.toNat_and, BitVec.toNat_ofInt, h255, Nat.and_two_pow_sub_one_eq_mod]
  show IntKind.i64.wrap ((BitVec.ofInt 64 n &&& BitVec.ofInt 64 255).toNat : Nat) = n % 256
  rw [key]
  simp only [IntKind.wrap, IntKind.bits, IntKind.signed]
  simp
  omega
/-- Where a draw stands: behind no byte that isn't there. -/
def stOk (xs : List Int) (p : Int) : Prop := 0 ≤ p ∧ p ≤ (xs.length : Int)
theorem byte_ok (xs : List Int) (hl : xs.length ≤ 1048576) (p s : Int) (hp : stOk xs p) : ∃ b p' s', spec_l01Byte.f xs p s = some (b, p', s') ∧ (0 ≤ b ∧ b ≤ 255) ∧ stOk xs p' := by
  unfold stOk at hp
  simp only [spec_l01Byte.f, and255]
  by_cases h : p < (xs.length : Int)
  · rw [if_pos h, if_pos hp.1]
    refine ⟨_, _, _, rfl, ⟨by omega, by omega⟩, ?_⟩
    rw [wrap_id (by omega) (by omega)]
    exact ⟨by omega, by omega⟩
  · rw [if_neg h]
    exact ⟨_, _, _, rfl, ⟨by omega, by omega⟩, hp⟩
theorem below_ok (xs : List Int) (hl : xs.length ≤ 1048576) (p s n : Int) (hp : stOk xs p) (h1 : 1 ≤ n) (h2 : n ≤ 256) : ∃ v p' s', spec_l01Below.f xs p s n = some (v, p', s') ∧ (0 ≤ v ∧ v < n) ∧ stOk xs p' := by
  obtain ⟨b, p', s', hb, hb2, hp'⟩ := byte_ok xs hl p s hp
  refine ⟨Int.tmod b n, p', s', ?_, ⟨Int.tmod_nonneg _ hb2.1, Int.tmod_lt_of_pos _ (by omega)⟩, hp'⟩
  simp only [spec_l01Below.f]
  rw [if_neg (by omega), if_pos h2, hb]
  simp only [Option.bind_some]
  rw [if_neg (by omega)]
theorem new_ok (xs : List Int) (hl : xs.length ≤ 1048576) : ∃ s, Ev (fun k => spec_l01New.f k xs) (xs, 0, s) := by
  have aux : ∀ (d i : Nat) (s : Int), 4000 - i = d → ∃ s', Ev (fun k => spec_l01New.l0 k xs s (i : Int)) (xs, 0, s') := by
    intro d
    induction d with
    | zero =>
      intro i s hd
      refine ⟨s, Ev.step (f := fun _ => some (xs, 0, s)) (fun k => ?_) (Ev.now _)⟩
      simp only [spec_l01New.l0]
      by_cases h : (i : Int) < (xs.length : Int)
      · rw [if_pos h, if_neg (by omega)]
      · rw [if_neg h]
    | succ d ih =>
      intro i s hd
      by_cases h : (i : Int) < (xs.length : Int)
      · obtain ⟨s', hs⟩ := ih (i + 1) (Go.bits .and .i64 (wrap64 ((wrap64 ((wrap64 (s * 131)) + (wrap64 (rd xs i)))) + 7)) 1073741823) (by omega)
        refine ⟨s', Ev.step (f := fun k => spec_l01New.l0 k xs (Go.bits .and .i64 (wrap64 ((wrap64 ((wrap64 (s * 131)) + (wrap64 (rd xs i)))) + 7)) 1073741823) ((i + 1 : Nat) : Int)) (fun k => ?_) hs⟩
        simp only [spec_l01New.l0]
        rw [if_pos h, if_pos (by omega), if_pos (by omega), wrap_id (x := (i : Int) + 1) (by omega) (by omega)]
        rfl
      · refine ⟨s, Ev.step (f := fun _ => some (xs, 0, s)) (fun k => ?_) (Ev.now _)⟩
        simp only [spec_l01New.l0]
        rw [if_neg h]
  exact aux 4000 0 _ rfl
theorem st0 (xs : List Int) : stOk xs 0 := ⟨by omega, by omega⟩
theorem in_i (a b c : Int) : impl_within.f a b c = some (decide (b ≤ a ∧ a ≤ c)) := by
  unfold impl_within.f
  by_cases h : a ≥ b
  · rw [if_pos h]; simp [h]
  · rw [if_neg h]; simp [h]
def vok (a b c : Int) : Bool := decide ((1 ≤ a ∧ a ≤ 255) ∧ (1 ≤ b ∧ b ≤ 255) ∧ (0 ≤ c ∧ c ≤ 64))
theorem vok_i (a b c : Int) : impl_VirtualOk.f a b c = some (vok a b c) := by
  simp only [impl_VirtualOk.f, in_i, Option.bind_some, vok, decide_eq_true_eq]
  by_cases h1 : 1 ≤ a ∧ a ≤ 255 <;> by_cases h2 : 1 ≤ b ∧ b ≤ 255 <;> simp [h1, h2]
def isid (a : Int) : Bool := decide (0 ≤ a ∧ a ≤ 255)
theorem isid_i (a : Int) : impl_IsId.f a = some (isid a) := by simp only [impl_IsId.f, in_i, Option.bind_some, isid]
def vid (a f s c k : Int) : Int := if (isid a && vok f s c && decide (0 ≤ k ∧ k ≤ c - 1) && isid (a + f + k * s)) = true then a + f + k * s else -1
theorem vsum {a f s c k : Int} (h1 : isid a = true) (h2 : vok f s c = true) (h3 : 0 ≤ k ∧ k ≤ c - 1) : wrap64 ((wrap64 (a + f)) + (wrap64 (k * s))) = a + f + k * s := by
  simp only [isid, vok, decide_eq_true_eq] at h1 h2
  have h4 : 0 ≤ k * s := Int.mul_nonneg (by omega) (by omega)
  have h5 : k * s ≤ 63 * 255 := Int.mul_le_mul (by omega) (by omega) (by omega) (by omega)
  rw [wrap_id (x := a + f) (by omega) (by omega), wrap_id (x := k * s) (by omega) (by omega), wrap_id (by omega) (by omega)]
theorem vcount {f s c : Int} (h2 : vok f s c = true) : wrap64 (c - 1) = c - 1 := by
  simp only [vok, decide_eq_true_eq] at h2
  exact wrap_id (by omega) (by omega)
theorem vid_i (a f s c k : Int) : Ev (fun n => impl_VirtualId.f n a f s c k) (vid a f s c k) := by
  refine Ev.congr (f := fun n => if (isid a) = true then (if (vok f s c) = true then impl_VirtualId.j0 n a k (!decide (0 ≤ k ∧ k ≤ wrap64 (c - 1))) f s c else impl_VirtualId.j0 n a k true f s c) else impl_VirtualId.j0 n a k true f s c) (fun n => by simp only [impl_VirtualId.f, isid_i, vok_i, in_i, Option.bind_some]) ?_
  have hb : Ev (fun n => impl_VirtualId.j0 n a k true f s c) (-1) := by
    refine Ev.step (f := fun _ => some (-1)) (fun n => ?_) (Ev.now _)
    simp [impl_VirtualId.j0]
  by_cases h1 : isid a = true
  · refine ev_pos h1 ?_
    by_cases h2 : vok f s c = true
    · refine ev_pos h2 ?_
      rw [vcount h2]
      by_cases h3 : 0 ≤ k ∧ k ≤ c - 1
      · refine Ev.step (f := fun _ => some (vid a f s c k)) (fun n => ?_) (Ev.now _)
        simp only [impl_VirtualId.j0]
        rw [if_neg (by simp [h3]), isid_i, vsum h1 h2 h3]
        simp only [Option.bind_some, vid, h1, h2, h3, and_self, decide_true, Bool.and_true, Bool.true_and]
        by_cases h4 : isid (a + f + k * s) = true <;> simp [h4]
      · have e : (!decide (0 ≤ k ∧ k ≤ c - 1)) = true := by rw [decide_eq_false h3]; rfl
        rw [e]
        refine ev_to hb ?_
        simp [vid, h3]
    · refine ev_neg h2 (ev_to hb ?_)
      simp [vid, h2]
  · refine ev_neg h1 (ev_to hb ?_)
    simp [vid, h1]
/-- Contains(l, -1) -/
theorem index_neg (d : Nat) : ∀ (l : List Int) (i : Int), 0 ≤ i → (l.length : Int) - i = d → (l.length : Int) ≤ 64 → ∃ r, Ev (fun k => slices_Index_int_int.l0 k l (-1) (l.length : Int) i) r ∧ (r ≥ 0 ↔ ∃ j : Nat, i ≤ j ∧ l[j]? = some (-1)) := by
  induction d with
  | zero =>
    intro l i h0 hd hl
    refine ⟨-1, Ev.step (f := fun _ => some (-1)) (fun k => ?_) (Ev.now _), ⟨by omega, ?_⟩⟩
    · simp only [slices_Index_int_int.l0]
      rw [if_neg (by omega)]
    · rintro ⟨j, h1, h2⟩
      have := (List.getElem?_eq_some_iff.1 h2).1
      omega
  | succ d ih =>
    intro l i h0 hd hl
    obtain ⟨m, rfl⟩ := Int.eq_ofNat_of_zero_le h0
    have hm : m < l.length := by omega
    by_cases hc : -1 = rd l (m : Int)
    · refine ⟨m, Ev.step (f := fun _ => some (m : Int)) (fun k => ?_) (Ev.now _), ⟨fun _ => ⟨m, by omega, ?_⟩, fun _ => by omega⟩⟩
      · simp only [slices_Index_int_int.l0]
        rw [if_pos (by omega), if_pos (by omega), if_pos (by omega), if_pos hc]
      · simp only [rd, Int.toNat_natCast, List.getD_eq_getElem?_getD, List.getElem?_eq_getElem hm, Option.getD_some] at hc
        rw [List.getElem?_eq_getElem hm, ← hc]
    · obtain ⟨r, hr, hi⟩ := ih l (m + 1) (by omega) (by omega) hl
      refine ⟨r, Ev.step (f := fun k => slices_Index_int_int.l0 k l (-1) (l.length : Int) (m + 1)) (fun k => ?_) hr, hi.trans ⟨fun ⟨j, h1, h2⟩ => ⟨j, by omega, h2⟩, fun ⟨j, h1, h2⟩ => ⟨j, ?_, h2⟩⟩⟩
      · simp only [slices_Index_int_int.l0]
        rw [if_pos (by omega), if_pos (by omega), if_pos (by omega), if_neg hc, wrap_id (x := (m : Int) + 1) (by omega) (by omega)]
      · rcases Nat.lt_or_ge m j with h | h
        · omega
        · have : j = m := by omega
          subst this
          exfalso
          apply hc
          simp [rd, List.getD_eq_getElem?_getD, h2]
def ids (a f s c : Int) (n : Nat) : List Int := (List.range n).map fun k : Nat => vid a f s c k
theorem ids_i (a f s c : Int) (hv : vok f s c = true) (d : Nat) : ∀ n : Nat, (c : Int) - n = d → ∃ b, Ev (fun k => impl_VirtualIds.l0 k a (ids a f s c n) c n f s c) (if b = true then [] else ids a f s c c.toNat, !b) ∧ (b = true ↔ ∃ j : Nat, j < c.toNat ∧ vid a f s c j = -1) := by
  have hc : 0 ≤ c ∧ c ≤ 64 := by simp only [vok, decide_eq_true_eq] at hv; omega
  induction d with
  | zero =>
    intro n hd
    have hn : c.toNat = n := by omega
    obtain ⟨r, hr, hi⟩ := index_neg n (ids a f s c n) 0 (by omega) (by simp [ids]) (by simp [ids]; omega)
    refine ⟨decide (r ≥ 0), Ev.step (f := fun k => (slices_Contains_int_int.f k (ids a f s c n) (-1)).bind fun t => if t = true then (some (([] : List Int), false)) else (some (ids a f s c n, true))) (fun k => ?_) ?_, ?_⟩
    · simp only [impl_VirtualIds.l0]
      rw [if_neg (by omega)]
    · refine ev_map (a := decide (r ≥ 0)) ?_ ?_
      · simp only [slices_Contains_int_int.f, slices_Index_int_int.f]
        exact ev_map hr rfl
      · by_cases h : r ≥ 0 <;> simp [h, hn]
    · rw [decide_eq_true_iff, hi]
      constructor
      · rintro ⟨j, _, h2⟩
        have := (List.getElem?_eq_some_iff.1 h2).1
        simp [ids] at this h2
        exact ⟨j, by omega, by simpa [List.getElem?_range this] using h2⟩
      · rintro ⟨j, h1, h2⟩
        refine ⟨j, by omega, ?_⟩
        have hj : j < n := by omega
        simp [ids, List.getElem?_range hj, h2]
  | succ d ih =>
    intro n hd
    obtain ⟨b, hb, hi⟩ := ih (n + 1) (by omega)
    refine ⟨b, Ev.step (f := fun k => (impl_VirtualId.f k a f s c n).bind fun t => impl_VirtualIds.l0 k a (ids a f s c n ++ [t]) c (n + 1) f s c) (fun k => ?_) ?_, hi⟩
    · simp only [impl_VirtualIds.l0]
      rw [if_pos (by omega), wrap_id (x := (n : Int) + 1) (by omega) (by omega)]
      exact congrArg _ (funext fun t => if_pos (by simp [ids]; omega))
    · refine Ev.bind (vid_i a f s c n) ?_
      have e : ids a f s c n ++ [vid a f s c n] = ids a f s c (n + 1) := by simp [ids, List.range_succ]
      rw [e]
      exact hb
/-- What VirtualIds returns. -/
def vidsR (a f s c : Int) : List Int × Bool := if isid a = true ∧ vok f s c = true ∧ ∀ j : Nat, j < c.toNat → vid a f s c j ≠ -1 then (ids a f s c c.toNat, true) else ([], false)
theorem vids_i (a f s c : Int) : Ev (fun k => impl_VirtualIds.f k a f s c) (vidsR a f s c) := by
  have hb : Ev (fun k => impl_VirtualIds.j0 k a true f s c) ([], false) := by
    refine Ev.step (f := fun _ => some ([], false)) (fun n => ?_) (Ev.now _)
    simp [impl_VirtualIds.j0]
  simp only [impl_VirtualIds.f, isid_i, vok_i, Option.bind_some]
  by_cases h1 : isid a = true
  · refine ev_pos h1 ?_
    by_cases h2 : vok f s c = true
    · have hc : 0 ≤ c ∧ c ≤ 64 := by simp only [vok, decide_eq_true_eq] at h2; omega
      obtain ⟨b, hb, hi⟩ := ids_i a f s c h2 c.toNat 0 (by omega)
      refine ev_to (Ev.step (f := fun k => impl_VirtualIds.l0 k a [] c 0 f s c) (fun k => ?_) hb) ?_
      · rw [h2]; simp [impl_VirtualIds.j0]
      · unfold vidsR
        by_cases hb : b = true
        · obtain ⟨j, h3, h4⟩ := hi.1 hb
          have hn : ¬ (isid a = true ∧ vok f s c = true ∧ ∀ j : Nat, j < c.toNat → vid a f s c j ≠ -1) := fun h => h.2.2 j h3 h4
          rw [if_neg hn, hb]; rfl
        · have hn : isid a = true ∧ vok f s c = true ∧ ∀ j : Nat, j < c.toNat → vid a f s c j ≠ -1 := ⟨h1, h2, fun j hj hv => hb (hi.2 ⟨j, hj, hv⟩)⟩
          rw [if_pos hn]
          simp [hb]
    · rw [show vok f s c = false from by simpa using h2]
      refine ev_to hb ?_
      rw [vidsR, if_neg (fun h => h2 h.2.1)]
  · refine ev_neg h1 (ev_to hb ?_)
    rw [vidsR, if_neg (fun h => h1 h.1)]
theorem vid_neg (a f s c k : Int) : vid a f s c k < 0 ↔ vid a f s c k = -1 := by
  unfold vid
  by_cases h : (isid a && vok f s c && decide (0 ≤ k ∧ k ≤ c - 1) && isid (a + f + k * s)) = true
  · rw [if_pos h]
    simp only [Bool.and_eq_true, isid, decide_eq_true_eq] at h
    omega
  · rw [if_neg h]; omega
theorem drawvirtual_ok (xs : List Int) (hl : xs.length ≤ 1048576) : ∃ a f s c, Ev (fun k => spec_DrawVirtual.f k xs) (a, f, s, c) ∧ (0 ≤ a ∧ a ≤ 255) ∧ (1 ≤ f ∧ f ≤ 8) ∧ (1 ≤ s ∧ s ≤ 4) ∧ (0 ≤ c ∧ c ≤ 11) := by
  obtain ⟨s0, h0⟩ := new_ok xs hl
  obtain ⟨a, p1, s1, e1, ha, q1⟩ := below_ok xs hl 0 s0 256 (st0 xs) (by omega) (by omega)
  obtain ⟨f, p2, s2, e2, hf, q2⟩ := below_ok xs hl p1 s1 8 q1 (by omega) (by omega)
  obtain ⟨s, p3, s3, e3, hs, q3⟩ := below_ok xs hl p2 s2 4 q2 (by omega) (by omega)
  obtain ⟨c, p4, s4, e4, hc, q4⟩ := below_ok xs hl p3 s3 12 q3 (by omega) (by omega)
  refine ⟨a, 1 + f, 1 + s, c, ?_, by omega, by omega, by omega, by omega⟩
  simp only [spec_DrawVirtual.f, spec_l37Virtual.f]
  refine Ev.bind h0 ?_
  simp only [e1, e2, e3, e4, Option.bind_some]
  rw [wrap_id (x := 1 + f) (by omega) (by omega), wrap_id (x := 1 + s) (by omega) (by omega)]
  exact Ev.now _
theorem vid_yes {a f s c : Int} {k : Int} (h : vid a f s c k ≠ -1) : vid a f s c k = a + f + k * s ∧ (0 ≤ k ∧ k ≤ c - 1) ∧ a + f + k * s ≤ 255 := by
  unfold vid at h ⊢
  by_cases hc : (isid a && vok f s c && decide (0 ≤ k ∧ k ≤ c - 1) && isid (a + f + k * s)) = true
  · rw [if_pos hc]
    simp only [Bool.and_eq_true, decide_eq_true_eq, isid] at hc
    exact ⟨rfl, hc.1.2, hc.2.2⟩
  · rw [if_neg hc] at h; exact absurd rfl h
theorem vids_true {a f s c : Int} (h : (vidsR a f s c).2 = true) : (vidsR a f s c).1 = ids a f s c c.toNat ∧ ∀ j : Nat, j < c.toNat → vid a f s c j ≠ -1 := by
  unfold vidsR at h ⊢
  by_cases hc : isid a = true ∧ vok f s c = true ∧ ∀ j : Nat, j < c.toNat → vid a f s c j ≠ -1
  · rw [if_pos hc]; exact ⟨rfl, hc.2.2⟩
  · rw [if_neg hc] at h; cases h
theorem vids_false {a f s c : Int} (h : (vidsR a f s c).2 = false) : (vidsR a f s c).1 = [] := by
  unfold vidsR at h ⊢
  by_cases hc : isid a = true ∧ vok f s c = true ∧ ∀ j : Nat, j < c.toNat → vid a f s c j ≠ -1
  · rw [if_pos hc] at h; cases h
  · rw [if_neg hc]
theorem fits_iff {a f s c : Int} (ha : 0 ≤ a ∧ a ≤ 255) (hf : 1 ≤ f ∧ f ≤ 8) (hs : 1 ≤ s ∧ s ≤ 4) (hc : 0 ≤ c ∧ c ≤ 64) : (vidsR a f s c).2 = true ↔ (c = 0 ∨ a + f + (c - 1) * s ≤ 255) := by
  have hv : vok f s c = true := by simp only [vok, decide_eq_true_eq]; omega
  have hi : isid a = true := by simp only [isid, decide_eq_true_eq]; omega
  have hm : ∀ x y : Int, x ≤ y → x * s ≤ y * s := fun x y h => Int.mul_le_mul_of_nonneg_right h (by omega)
  constructor
  · intro h
    rcases Int.lt_or_eq_of_le hc.1 with h0 | h0
    · have := (vids_true h).2 (c - 1).toNat (by omega)
      have := (vid_yes this).2.2
      rw [show (((c - 1).toNat : Nat) : Int) = c - 1 from by omega] at this
      exact .inr this
    · exact .inl h0.symm
  · intro h
    unfold vidsR
    rw [if_pos]
    refine ⟨hi, hv, fun j hj => ?_⟩
    have h1 : a + f + (j : Int) * s ≤ 255 := by
      rcases h with h | h
      · omega
      · have := hm j (c - 1) (by omega); omega
    have h2 : 0 ≤ (j : Int) * s := Int.mul_nonneg (by omega) (by omega)
    have h3 : decide (0 ≤ (j : Int) ∧ (j : Int) ≤ c - 1) = true := decide_eq_true (by omega)
    have h4 : isid (a + f + (j : Int) * s) = true := by simp only [isid, decide_eq_true_eq]; omega
    unfold vid
    rw [hi, hv, h3, h4, if_pos (by rfl)]
    omega
theorem room_l {a f s : Int} (ha : 0 ≤ a ∧ a ≤ 255) (hf : 1 ≤ f ∧ f ≤ 8) (hs : 1 ≤ s ∧ s ≤ 4) (m : Nat) : m ≤ 64 → (∀ c : Int, (m : Int) < c → c ≤ 64 → (vidsR a f s c).2 = false) →
    ∃ n : Int, Ev (fun k => impl_VirtualRoom.l0 k a f s (m : Int)) n ∧ 0 ≤ n ∧ n ≤ 64 ∧ (vidsR a f s n).2 = true ∧ ∀ c : Int, n < c → c ≤ 64 → (vidsR a f s c).2 = false := by
  induction m with
  | zero =>
    intro _ hm
    have h0 : (vidsR a f s 0).2 = true := (fits_iff ha hf hs (by omega)).2 (.inl rfl)
    refine ⟨0, Ev.step (f := fun k => (impl_VirtualIds.f k a f s 0).bind fun bt => if bt.2 = true then some 0 else impl_VirtualRoom.l0 k a f s (wrap64 (0 - 1))) (fun k => ?_) (Ev.bind (vids_i a f s 0) (ev_pos h0 (Ev.now _))), by omega, by omega, h0, hm⟩
    simp only [impl_VirtualRoom.l0]
    rw [if_pos (by omega)]
    rfl
  | succ m ih =>
    intro h64 hm
    by_cases h0 : (vidsR a f s ((m + 1 : Nat) : Int)).2 = true
    · refine ⟨((m + 1 : Nat) : Int), Ev.step (f := fun k => (impl_VirtualIds.f k a f s ((m + 1 : Nat) : Int)).bind fun bt => if bt.2 = true then some ((m + 1 : Nat) : Int) else impl_VirtualRoom.l0 k a f s (wrap64 (((m + 1 : Nat) : Int) - 1))) (fun k => ?_) (Ev.bind (vids_i a f s _) (ev_pos h0 (Ev.now _))), by omega, by omega, h0, hm⟩
      simp only [impl_VirtualRoom.l0]
      rw [if_pos (by omega)]
    · have h0' : (vidsR a f s ((m + 1 : Nat) : Int)).2 = false := by simpa using h0
      obtain ⟨n, hn, r⟩ := ih (by omega) (fun c h1 h2 => by
        rcases Int.lt_or_eq_of_le (show ((m + 1 : Nat) : Int) ≤ c by omega) with h | h
        · exact hm c h h2
        · rw [← h]; exact h0')
      refine ⟨n, Ev.step (f := fun k => (impl_VirtualIds.f k a f s ((m + 1 : Nat) : Int)).bind fun bt => if bt.2 = true then some ((m + 1 : Nat) : Int) else impl_VirtualRoom.l0 k a f s (m : Int)) (fun k => ?_) (Ev.bind (vids_i a f s _) (ev_neg h0 hn)), r⟩
      simp only [impl_VirtualRoom.l0]
      rw [if_pos (by omega), wrap_id (x := ((m + 1 : Nat) : Int) - 1) (by omega) (by omega), show ((m + 1 : Nat) : Int) - 1 = (m : Int) from by omega]
theorem owner_l (a f s c id : Int) (k : Nat) (hk : (k : Int) < c) (hc : c ≤ 64) (he : vid a f s c k = id) (hne : ∀ j : Nat, j < k → vid a f s c j ≠ id) (d : Nat) : ∀ i : Nat, i + d = k → Ev (fun n => impl_VirtualOwner.l0 n a id c (i : Int) f s c) (k : Int) := by
  induction d with
  | zero =>
    intro i hi
    obtain rfl : i = k := by omega
    refine Ev.step (f := fun n => (impl_VirtualId.f n a f s c (i : Int)).bind fun t => if t = id then some (i : Int) else impl_VirtualOwner.l0 n a id c (wrap64 ((i : Int) + 1)) f s c) (fun n => ?_) (Ev.bind (vid_i a f s c i) (ev_pos he (Ev.now _)))
    simp only [impl_VirtualOwner.l0]
    rw [if_pos hk]
  | succ d ih =>
    intro i hi
    refine Ev.step (f := fun n => (impl_VirtualId.f n a f s c (i : Int)).bind fun t => if t = id then some (i : Int) else impl_VirtualOwner.l0 n a id c ((i + 1 : Nat) : Int) f s c) (fun n => ?_) (Ev.bind (vid_i a f s c i) (ev_neg (hne i (by omega)) (ih (i + 1) (by omega))))
    simp only [impl_VirtualOwner.l0]
    rw [if_pos (by omega), wrap_id (x := (i : Int) + 1) (by omega) (by omega)]
    rfl
theorem FnVirtuals : ∀ (x0 : List (Int)), (x0.length * 1 ≤ 140737488351232 ∧ x0.length ≤ maxLen ∧ ∀ y ∈ x0, (Lit.int .u8 y).wf = true) → ∃ k, laws_FnVirtuals.f k x0 = some true := by
  intro l _
  refine Ev.rounds (g := fun n => laws_FnVirtuals.f n l) ?_
  simp only [laws_FnVirtuals.f, laws_big.f, Option.bind_some]
  by_cases hbig : (l.length : Int) > 1048576
  · exact ev_pos (decide_eq_true hbig) (Ev.now _)
  refine ev_neg (by simpa using hbig) ?_
  obtain ⟨a, f, s, c, hD, ha, hf, hs, hc⟩ := drawvirtual_ok l (by omega)
  obtain ⟨n, hn, hn0, hn64, hnt, hnf⟩ := room_l ha hf hs 64 (by omega) (fun c h1 h2 => by omega)
  have hN : Ev (fun k => impl_VirtualRoom.f k a f s) n := hn
  have hv : vok f s c = true := by simp only [vok, decide_eq_true_eq]; omega
  have hm : ∀ x y : Int, x ≤ y → x * s ≤ y * s := fun x y h => Int.mul_le_mul_of_nonneg_right h (by omega)
  have hok : (vidsR a f s c).2 = decide (c ≤ n) := by
    by_cases h : c ≤ n
    · rw [decide_eq_true h]
      refine (fits_iff ha hf hs (by omega)).2 ?_
      have h1 := (fits_iff ha hf hs ⟨hn0, hn64⟩).1 hnt
      rcases Int.lt_or_eq_of_le hc.1 with h0 | h0
      · have h2 := hm (c - 1) (n - 1) (by omega)
        rcases h1 with h1 | h1
        · omega
        · exact .inr (by omega)
      · exact .inl h0.symm
    · rw [decide_eq_false h]
      exact hnf c (by omega) (by omega)
  have hend : ∀ ll ok, (ok == decide (c ≤ n)) = true → (ok = true → (ll.length : Int) = c) → ∀ i : Int, (ll.length : Int) ≤ i → Ev (fun k => laws_FnVirtuals.l0 k a ll ok n i f s c) true := by
    intro ll ok h1 h2 i hi
    refine Ev.step (f := fun k => (impl_VirtualIds.f k a f s n).bind fun bt => (impl_VirtualOk.f f s c).bind fun t => if t = true then (if (ok == (decide (c ≤ n))) = true then (if bt.2 = true then (if ok = true then (some ((ll.length : Int) == c)) else (some true)) else (some false)) else (some false)) else (some false)) (fun k => ?_) ?_
    · simp only [laws_FnVirtuals.l0]
      rw [if_neg (by omega)]
    · refine Ev.bind (vids_i a f s n) ?_
      simp only [vok_i, Option.bind_some]
      refine ev_pos hv (ev_pos h1 (ev_pos hnt ?_))
      by_cases ho : ok = true
      · refine ev_pos ho (ev_to (Ev.now _) ?_)
        rw [h2 ho]; simp
      · exact ev_neg ho (Ev.now _)
  refine Ev.bind hD (Ev.bind (vids_i a f s c) (Ev.bind hN ?_))
  simp only
  by_cases ho : (vidsR a f s c).2 = true
  · obtain ⟨e1, hne⟩ := vids_true ho
    rw [e1, ho]
    rw [ho] at hok
    have hcn : c ≤ n := by simpa using hok.symm
    have hlen : (ids a f s c c.toNat).length = c.toNat := by simp [ids]
    have hget : ∀ i : Nat, i < c.toNat → rd (ids a f s c c.toNat) (i : Int) = a + f + i * s ∧ vid a f s c i = a + f + i * s := by
      intro i hi
      have h1 := (vid_yes (hne i hi)).1
      refine ⟨?_, h1⟩
      rw [← h1]
      simp [rd, ids, List.getD_eq_getElem?_getD, List.getElem?_range hi]
    have hE := hend (ids a f s c c.toNat) true (by simp [hcn]) (fun _ => by omega)
    have hL : ∀ (d i : Nat), i + d = c.toNat → Ev (fun k => laws_FnVirtuals.l0 k a (ids a f s c c.toNat) true n (i : Int) f s c) true := by
      intro d
      induction d with
      | zero => intro i hi; exact hE i (by omega)
      | succ d ih =>
        intro i hi
        obtain ⟨g1, g2⟩ := hget i (by omega)
        have hnext := ih (i + 1) (by omega)
        have hm1 := hm 0 (i : Int) (by omega)
        have hj : Ev (fun k => laws_FnVirtuals.j1 k a (ids a f s c c.toNat) true n (i : Int) (decide ((rd (ids a f s c c.toNat) (i : Int)) ≤ a)) f s c) true := by
          refine Ev.step (f := fun k => laws_FnVirtuals.l0 k a (ids a f s c c.toNat) true n ((i + 1 : Nat) : Int) f s c) (fun k => ?_) hnext
          simp only [laws_FnVirtuals.j1]
          rw [g1, if_neg (by simp; omega), wrap_id (x := (i : Int) + 1) (by omega) (by omega)]
          rfl
        have hown : Ev (fun k => impl_VirtualOwner.f k a f s c (rd (ids a f s c c.toNat) (i : Int))) (i : Int) := by
          rw [g1]
          simp only [impl_VirtualOwner.f, vok_i, Option.bind_some]
          refine ev_neg (by omega) ?_
          rw [hv]
          refine Ev.step (f := fun k => impl_VirtualOwner.l0 k a (a + f + i * s) c ((0 : Nat) : Int) f s c) (fun k => ?_) (owner_l a f s c _ i (by omega) (by omega) g2 (fun j hj hh => ?_) i 0 (by omega))
          · simp [impl_VirtualOwner.j0]
          · rw [(hget j (by omega)).2] at hh
            have h3 : (j : Int) * s + s ≤ i * s := by
              have := hm ((j : Int) + 1) i (by omega)
              rw [Int.add_mul, Int.one_mul] at this
              exact this
            omega
        refine Ev.step (f := fun k => (impl_VirtualOwner.f k a f s c (rd (ids a f s c c.toNat) (i : Int))).bind fun t185 => (if t185 = (i : Int) then ((impl_VirtualId.f k a f s c (i : Int)).bind fun t186 => (if t186 = (rd (ids a f s c c.toNat) (i : Int)) then (if (i : Int) > 0 then (if 0 ≤ (wrap64 ((i : Int) - 1)) then (if (wrap64 ((i : Int) - 1)) < ((ids a f s c c.toNat).length : Int) then (if (rd (ids a f s c c.toNat) (i : Int)) ≤ (rd (ids a f s c c.toNat) (wrap64 ((i : Int) - 1))) then (laws_FnVirtuals.j1 k a (ids a f s c c.toNat) true n (i : Int) true f s c) else (laws_FnVirtuals.j1 k a (ids a f s c c.toNat) true n (i : Int) (decide ((rd (ids a f s c c.toNat) (i : Int)) ≤ a)) f s c)) else (none)) else (none)) else (laws_FnVirtuals.j1 k a (ids a f s c c.toNat) true n (i : Int) (decide ((rd (ids a f s c c.toNat) (i : Int)) ≤ a)) f s c)) else (laws_FnVirtuals.j1 k a (ids a f s c c.toNat) true n (i : Int) true f s c))) else (laws_FnVirtuals.j1 k a (ids a f s c c.toNat) true n (i : Int) true f s c))) (fun k => ?_) ?_
        · simp only [laws_FnVirtuals.l0]
          rw [if_pos (by omega), if_pos (by omega)]
        · refine Ev.bind hown (ev_pos rfl (Ev.bind (vid_i a f s c i) (ev_pos (by rw [g1, g2]) ?_)))
          by_cases h0 : (i : Int) > 0
          · refine ev_pos h0 ?_
            rw [wrap_id (x := (i : Int) - 1) (by omega) (by omega)]
            refine ev_pos (by omega) (ev_pos (by omega) (ev_neg ?_ hj))
            rw [show (i : Int) - 1 = ((i - 1 : Nat) : Int) from by omega, (hget (i - 1) (by omega)).1, g1]
            have h3 : ((i - 1 : Nat) : Int) * s + s ≤ i * s := by
              have := hm (((i - 1 : Nat) : Int) + 1) i (by omega)
              rw [Int.add_mul, Int.one_mul] at this
              exact this
            omega
          · exact ev_neg h0 hj
    exact hL c.toNat 0 (by omega)
  · have ho' : (vidsR a f s c).2 = false := by simpa using ho
    rw [vids_false ho', ho']
    rw [ho'] at hok
    exact hend [] false (by rw [← hok]; rfl) (fun h => by cases h) 0 (by simp)

end Go.Proofs.Yteeklekfafedcaa.Pure

/- The plain law of wakes. No condition. -/
import Derived.Test.YteeklekfafedcaaW15
import Derived.Test.YteeklekfafedcaaW17
set_option linter.unusedVariables false
set_option linter.unnecessarySimpa false
set_option linter.unusedSimpArgs false
namespace Go.Proofs.Yteeklekfafedcaa.V.W
open Go Go.RowKit
theorem getD_memI {s : List Int} {i : Nat} (h : i < s.length) : s.getD i 0 ∈ s := by
  rw [List.getD_eq_getElem?_getD, List.getElem?_eq_getElem h]; exact List.getElem_mem _
theorem mem_getDI {s : List Int} {x : Int} (h : x ∈ s) : ∃ i, i < s.length ∧ s.getD i 0 = x := by
  obtain ⟨i, hi, rfl⟩ := List.mem_iff_getElem.1 h
  exact ⟨i, hi, by rw [List.getD_eq_getElem?_getD, List.getElem?_eq_getElem hi]; rfl⟩
theorem depthsOk_iff {t : List Nd} {s : List Int} : depthsOk t s = true ↔ treeOk t = true ∧ s.length = t.length ∧ ∀ i, i < s.length → 0 ≤ s.getD i 0 ∧ s.getD i 0 ≤ 3 := by
  unfold depthsOk
  rw [Bool.and_eq_true, Bool.and_eq_true, beq_iff_eq]
  refine and_congr Iff.rfl (and_congr Iff.rfl ?_)
  rw [Bool.not_eq_true', List.any_eq_false]
  constructor
  · intro h i hi
    have := h _ (getD_memI hi)
    simp only [deep, Bool.not_eq_true, Bool.not_eq_false'] at this
    exact inB_iff.1 this
  · intro h x hx
    obtain ⟨i, hi, rfl⟩ := mem_getDI hx
    simp only [deep, Bool.not_eq_true, Bool.not_eq_false']
    exact inB_iff.2 (h i hi)
theorem settle_inv {t : List Nd} {w : List Int} (h : treeOk t = true) (hw : depthsOk t w = true) : ∀ i, i ≤ t.length - 1 → (∀ j, j < t.length → 0 ≤ (settleTo t w i).getD j 0 ∧ (settleTo t w i).getD j 0 ≤ 3) ∧ ∀ j, t.length - 1 - i < j → j < t.length → over t (settleTo t w i) j ≤ (settleTo t w i).getD j 0
  | 0, _ => by
    have := depthsOk_iff.1 hw
    exact ⟨fun j hj => this.2.2 j (by omega), fun j h1 h2 => by omega⟩
  | i + 1, hi => by
    obtain ⟨h1, h2⟩ := settle_inv h hw i (by omega)
    have hl := settleTo_len t w i
    have hwl := depthsOk_len hw
    obtain ⟨p, hp, hpk⟩ := par h (j := t.length - 1 - i) (by omega) (by omega)
    have hk : t.length - 1 - i < t.length := by omega
    generalize hkk : t.length - 1 - i = k at hp hpk hk h2
    have e : settleTo t w (i + 1) = (settleTo t w i).set p (if (settleTo t w i).getD k 0 < over t (settleTo t w i) k then (settleTo t w i).getD k 0 else over t (settleTo t w i) k) := by
      show settle1 t (settleTo t w i) (t.length - 1 - i) = _
      rw [hkk, settle1, hp]; rfl
    rw [e]
    generalize settleTo t w i = s at h1 h2 hl
    have hop : over t s k = s.getD p 0 := by unfold over; rw [hp]; rfl
    have hpb := h1 p (by omega)
    have hkb := h1 k hk
    have hv : (if s.getD k 0 < over t s k then s.getD k 0 else over t s k) ≤ s.getD p 0 ∧ (if s.getD k 0 < over t s k then s.getD k 0 else over t s k) ≤ s.getD k 0 ∧ 0 ≤ (if s.getD k 0 < over t s k then s.getD k 0 else over t s k) := by
      rw [hop]; split <;> omega
    generalize (if s.getD k 0 < over t s k then s.getD k 0 else over t s k) = v at hv
    have hg : ∀ m, m < t.length → (s.set p v).getD m 0 = if p = m then v else s.getD m 0 := fun m hm => set_getD (by omega)
    refine ⟨fun j hj => ?_, fun j hj1 hj2 => ?_⟩
    · rw [hg j hj]
      have := h1 j hj
      split <;> omega
    · obtain ⟨q, hq, hqj⟩ := par h (j := j) (by omega) hj2
      have ho : ∀ s' : List Int, over t s' j = s'.getD q 0 := fun s' => by unfold over; rw [hq]; rfl
      rw [ho, hg q (by omega), hg j hj2, if_neg (show ¬ p = j by omega)]
      rcases Nat.lt_or_ge k j with h3 | h3
      · have := h2 j (by omega) hj2
        rw [ho] at this
        split
        · rename_i e2; subst e2; omega
        · exact this
      · obtain rfl : j = k := by omega
        obtain rfl : q = p := by omega
        rw [if_pos rfl]
        exact hv.2.1
theorem settled_ok {t : List Nd} {w : List Int} (h : treeOk t = true) (hw : depthsOk t w = true) : sleepOk t (settled t w) = true ∧ (settled t w).length = t.length := by
  have hl : (settled t w).length = t.length := by rw [settled, settleTo_len, depthsOk_len hw]
  have htl := treeOk_len h
  have := settle_inv h hw (t.length - 1) (Nat.le_refl _)
  refine ⟨sleepOk_iff.2 ⟨depthsOk_iff.2 ⟨h, hl, fun i hi => this.1 i (by omega)⟩, fun i hi => this.2 (i + 1) (by omega) hi⟩, hl⟩
theorem zeros_get : ∀ {l s : List Int} {m : Nat}, (∀ x ∈ l, 0 ≤ x) → m < s.length → (zeros s l).getD m 0 = if l.contains (m : Int) = true then 0 else s.getD m 0
  | [], s, m, _, _ => by simp [zeros]
  | x :: r, s, m, hx, hm => by
    show (zeros (s.set x.toNat 0) r).getD m 0 = _
    rw [zeros_get (fun y hy => hx y (List.mem_cons_of_mem _ hy)) (by rw [List.length_set]; exact hm), set_getD hm, List.contains_cons]
    have h0 := hx x (List.mem_cons_self)
    by_cases e : x.toNat = m
    · have : ((m : Int) == x) = true := by rw [beq_iff_eq]; omega
      rw [if_pos e, this]
      simp
    · have : ((m : Int) == x) = false := by rw [beq_eq_false_iff_ne]; omega
      rw [if_neg e, this, Bool.false_or]
theorem path_up {t : List Nd} {k : Int} (h : treeOk t = true) {j p : Nat} (h1 : 1 ≤ j) (hp : (t.getD j z).1 = (p : Int)) (hj : (j : Int) ∈ pathTo t k) : (p : Int) ∈ pathTo t k := by
  unfold pathTo at hj ⊢
  split at hj
  · rename_i h2
    rw [if_pos h2]
    simp only [Bool.and_eq_true] at h2
    have hk := inB_iff.1 h2.2
    rw [List.mem_reverse, List.mem_filter, List.mem_map] at hj ⊢
    obtain ⟨⟨i, hi, e⟩, _⟩ := hj
    have hi := List.mem_range.1 hi
    have e2 : anc t k (i + 1) = (p : Int) := by
      show (t.getD (anc t k i).toNat z).1 = _
      rw [e, show Int.toNat (j : Int) = j by omega, hp]
    have := (anc_lt h (show k < t.length by omega) (i + 1) (by omega)).2.2 (by omega)
    exact ⟨⟨i + 1, List.mem_range.2 (by omega), e2⟩, decide_eq_true (by omega)⟩
  · cases hj
theorem wake_ok {t : List Nd} {s : List Int} {k : Int} (h : sleepOk t s = true) : sleepOk t (zeros s (pathTo t k)) = true := by
  obtain ⟨h1, h2⟩ := sleepOk_iff.1 h
  obtain ⟨ht, hl, hv⟩ := depthsOk_iff.1 h1
  have hz : ∀ m, m < t.length → (zeros s (pathTo t k)).getD m 0 = if (pathTo t k).contains (m : Int) = true then 0 else s.getD m 0 := fun m hm => zeros_get (fun x hx => (pathTo_mem hx).1) (by omega)
  refine sleepOk_iff.2 ⟨depthsOk_iff.2 ⟨ht, by rw [zeros_len, hl], fun i hi => ?_⟩, fun i hi => ?_⟩
  · rw [zeros_len] at hi
    rw [hz i (by omega)]
    have := hv i hi
    split <;> omega
  · obtain ⟨p, hp, hpi⟩ := par ht (j := i + 1) (by omega) hi
    have ho : ∀ s' : List Int, over t s' (i + 1) = s'.getD p 0 := fun s' => by unfold over; rw [hp]; rfl
    have := h2 i hi
    rw [ho] at this
    rw [ho, hz p (by omega), hz (i + 1) hi]
    have hv1 := hv (i + 1) (by omega)
    have hv2 := hv p (by omega)
    by_cases hc : (pathTo t k).contains (((i + 1 : Nat)) : Int) = true
    · have hpc : (pathTo t k).contains (p : Int) = true := List.contains_iff_mem.2 (path_up ht (by omega) hp (List.contains_iff_mem.1 hc))
      rw [if_pos hc, if_pos hpc]
      omega
    · rw [if_neg hc]
      split <;> omega
theorem deepest_ok {t : List Nd} {s : List Int} {k : Nat} {d : Int} (h : sleepOk t s = true) (hk : k < t.length) (hd : Deepest t s k d) : s.getD k 0 ≤ d ∧ setOk t s k d = true ∧ setOk t s k (d + 1) = false ∧ d ≤ 3 ∧ 0 ≤ d := by
  obtain ⟨h1, h2⟩ := sleepOk_iff.1 h
  obtain ⟨ht, hl, hv⟩ := depthsOk_iff.1 h1
  have hkv := hv k (by omega)
  have hkt : Int.toNat (k : Int) = k := by omega
  have hself : setOk t s k (s.getD k 0) = true := by
    unfold setOk
    rw [hkt, show s.set k (s.getD k 0) = s from ?_, h, inB_iff.2 (show (0 : Int) ≤ (k : Int) ∧ (k : Int) ≤ (t.length : Int) - 1 by omega)]
    · rfl
    · refine list_ext (by rw [List.length_set]) fun m hm => ?_
      rw [List.length_set] at hm
      rw [set_getD hm]
      split
      · rename_i e; subst e; rfl
      · rfl
  have hge : s.getD k 0 ≤ d := by
    rcases Int.lt_or_le d (s.getD k 0) with h3 | h3
    · have := hd.2 _ h3 hkv.2
      rw [hself] at this; cases this
    · exact h3
  rcases hd.1 with ⟨d0, d3, dk⟩ | rfl
  · refine ⟨hge, dk, ?_, d3, d0⟩
    rcases Int.lt_or_le d 3 with h3 | h3
    · exact hd.2 _ (by omega) (by omega)
    · obtain rfl : d = 3 := by omega
      unfold setOk
      have : sleepOk t (s.set k (3 + 1)) = false := by
        rw [← Bool.not_eq_true]
        intro h4
        have := (depthsOk_iff.1 (sleepOk_iff.1 h4).1).2.2 k (by rw [List.length_set]; omega)
        rw [set_getD (by omega), if_pos rfl] at this
        omega
      rw [hkt, this]
      simp
  · omega
end Go.Proofs.Yteeklekfafedcaa.V.W

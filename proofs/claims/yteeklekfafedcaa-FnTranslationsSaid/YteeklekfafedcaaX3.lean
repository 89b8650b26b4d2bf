/- The plain law of translations. No condition. -/
import Derived.Test.YteeklekfafedcaaX2
import Derived.Test.YteeklekfafedcaaVT11
import Derived.Test.YteeklekfafedcaaVT9
set_option linter.unusedVariables false
set_option linter.unnecessarySimpa false
set_option linter.unusedSimpArgs false
namespace Go.Proofs.Yteeklekfafedcaa.V.X
open Go Go.RowKit
theorem getD_mem {xs : List PG} {i : Nat} (h : i < xs.length) : xs.getD i zPG ∈ xs := by
  rw [List.getD_eq_getElem?_getD, List.getElem?_eq_getElem h]; exact List.getElem_mem _
theorem mem_getD {xs : List PG} {x : PG} (h : x ∈ xs) : ∃ i : Nat, i < xs.length ∧ xs.getD i zPG = x := by
  obtain ⟨i, hi, rfl⟩ := List.mem_iff_getElem.1 h
  exact ⟨i, hi, by rw [List.getD_eq_getElem?_getD, List.getElem?_eq_getElem hi]; rfl⟩
theorem getD_el {xs : List PG} {i : Nat} (h : i < xs.length) : xs.getD i zPG = xs[i] := by
  rw [List.getD_eq_getElem?_getD, List.getElem?_eq_getElem h]; rfl
theorem gOk_iff {xs : List PG} : gOk xs = true ↔ (∀ x ∈ xs, gBad x = false) ∧ xs.Pairwise (fun x y => sm y x = false) ∧ xs.length ≤ 40 := by
  constructor
  · intro h
    have hl := gOk_len h
    refine ⟨fun x hx => ?_, ?_, hl⟩
    · obtain ⟨i, hi, rfl⟩ := mem_getD hx
      have := gOk_at h hi
      simp only [gAt, Bool.or_eq_false_iff] at this
      exact this.1
    · rw [List.pairwise_iff_getElem]
      intro i j hi hj hij
      have := gOk_at h hj
      simp only [gAt, Bool.or_eq_false_iff] at this
      have h2 := this.2
      rw [List.any_eq_false] at h2
      have h3 := h2 (xs.getD i zPG) (by
        have : (xs.take j)[i]? = some xs[i] := by rw [List.getElem?_take_of_lt hij, List.getElem?_eq_getElem hi]
        rw [getD_el hi]
        exact List.mem_of_getElem? this)
      rw [getD_el hi, getD_el hj] at h3
      simpa using h3
  · rintro ⟨h1, h2, h3⟩
    rw [gOk_true fun i hi => ?_]
    · exact decide_eq_true (by omega)
    · simp only [gAt, Bool.or_eq_false_iff]
      refine ⟨h1 _ (getD_mem hi), any_take_false (by omega) fun k hk => ?_⟩
      rw [List.pairwise_iff_getElem] at h2
      have := h2 k i (by omega) hi hk
      rwa [getD_el (show k < xs.length by omega), getD_el hi]
theorem gOk_kept {xs : List PG} (p : Int) (h : gOk xs = true) : gOk (keptTo xs p xs.length) = true := by
  obtain ⟨h1, h2, h3⟩ := gOk_iff.1 h
  rw [gOk_iff]
  unfold keptTo
  rw [List.take_length]
  refine ⟨fun x hx => h1 x (List.mem_filter.1 hx).1, h2.filter _, Nat.le_trans (List.length_filter_le _ _) h3⟩
theorem isol_comm (xs : List PG) (a b : Int) : isol xs a b = isol xs b a := by
  unfold isol
  congr 2
  rw [Bool.eq_iff_iff, List.any_eq_true, List.any_eq_true]
  constructor
  · rintro ⟨x, hx, h⟩
    simp only [cl1, Bool.and_eq_true, List.any_eq_true, cl2, beq_iff_eq] at h ⊢
    obtain ⟨h1, y, hy, h2, h3⟩ := h
    exact ⟨y, hy, h2, x, hx, h1, h3.symm⟩
  · rintro ⟨x, hx, h⟩
    simp only [cl1, Bool.and_eq_true, List.any_eq_true, cl2, beq_iff_eq] at h ⊢
    obtain ⟨h1, y, hy, h2, h3⟩ := h
    exact ⟨y, hy, h2, x, hx, h1, h3.symm⟩
theorem mine_iff {id pg : Int} {x : PG} : mine id pg x = true ↔ x.1 = id ∧ x.2.1 = pg := by
  simp only [mine, Bool.and_eq_true, beq_iff_eq]
theorem tmod256 {a : Int} (h : 0 ≤ a) : 0 ≤ Int.tmod a 256 ∧ Int.tmod a 256 < 256 := by
  rw [Int.tmod_eq_emod_of_nonneg h]; omega
theorem tr_range {xs : List PG} (h : gOk xs = true) {id a : Int} {w : Bool} {x : Int} (ha : 0 ≤ a) (ht : TrOk xs id a w x 0) : Int.tmod x 256 = Int.tmod (Int.tmod a 256) 256 ∧ 0 ≤ x ∧ x ≤ 65535 ∧ ∃ i : Nat, i < xs.length ∧ mine id (Int.tdiv a 256) (xs.getD i zPG) = true ∧ (xs.getD i zPG).2.2.1 = Int.tdiv x 256 := by
  rcases ht with ⟨_, i, hi, h1, h2, h3, rfl⟩ | ⟨_, h, _⟩ | ⟨_, h, _⟩
  · have ht := gOk_to h hi
    have hm := tmod256 ha
    generalize Int.tmod a 256 = m at hm ⊢
    rw [Int.tmod_eq_emod_of_nonneg hm.1, Int.tmod_eq_emod_of_nonneg (show 0 ≤ (xs.getD i zPG).2.2.1 * 256 + m by omega), Int.tdiv_eq_ediv_of_nonneg (show 0 ≤ (xs.getD i zPG).2.2.1 * 256 + m by omega)]
    refine ⟨by omega, by omega, by omega, i, hi, h1, by omega⟩
  · cases h
  · cases h
theorem isol_ne {xs : List PG} (h : gOk xs = true) {a b : Int} {v w : Bool} {x y : Int} {i j : Int} (ha : 0 ≤ a) (hb : 0 ≤ b) (hx : TrOk xs i a v x 0) (hy : TrOk xs j b w y 0) (hi : isol xs i j = true) : x ≠ y := by
  rintro rfl
  obtain ⟨_, _, _, p, hp, hp1, hp2⟩ := tr_range h ha hx
  obtain ⟨_, _, _, q, hq, hq1, hq2⟩ := tr_range h hb hy
  have hp1 := mine_iff.1 hp1
  have hq1 := mine_iff.1 hq1
  rw [isol_false hp hq (by rw [beq_iff_eq]; exact hp1.1) (by rw [beq_iff_eq]; exact hq1.1) (by rw [beq_iff_eq, hp2, hq2])] at hi
  cases hi
theorem revoked {xs : List PG} (h : gOk xs = true) {id a : Int} {w v : Bool} {x z k : Int} (ha : 0 ≤ a) (hx : TrOk xs id a w x 0) (hz : TrOk (keptTo xs (Int.tdiv x 256) xs.length) id a v z k) : k ≠ 0 ∧ z = 0 := by
  rcases hz with ⟨rfl, hz⟩ | ⟨h1, h2, _⟩ | ⟨h1, h2, _⟩
  · exfalso
    obtain ⟨i, hi, h1, _⟩ := hz
    obtain ⟨_, _, _, p, hp, hp1, hp2⟩ := tr_range h ha hx
    have hm := getD_mem hi
    generalize (keptTo xs (Int.tdiv x 256) xs.length).getD i zPG = g at h1 hm
    unfold keptTo at hm
    rw [List.take_length, List.mem_filter] at hm
    obtain ⟨q, hq, rfl⟩ := mem_getD hm.1
    have hm2 := hm.2
    have h1 := mine_iff.1 h1
    have hp1 := mine_iff.1 hp1
    have hs : ∀ s t : Nat, s < t → t < xs.length → ¬ ((xs.getD s zPG).1 = (xs.getD t zPG).1 ∧ (xs.getD s zPG).2.1 = (xs.getD t zPG).2.1) := by
      intro s t hst ht ⟨e1, e2⟩
      have := (gOk_iff.1 h).2.1
      rw [List.pairwise_iff_getElem] at this
      have := this s t (by omega) ht hst
      rw [← getD_el (show s < xs.length by omega), ← getD_el ht] at this
      simp only [sm, e1, e2, beq_self_eq_true, Bool.and_self] at this
      cases this
    have hpq : p = q := by
      rcases Nat.lt_trichotomy p q with h' | h' | h'
      · exact absurd ⟨by rw [hp1.1, h1.1], by rw [hp1.2, h1.2]⟩ (hs p q h' hq)
      · exact h'
      · exact absurd ⟨by rw [hp1.1, h1.1], by rw [hp1.2, h1.2]⟩ (hs q p h' hp)
    subst hpq
    rw [hp2] at hm2
    simp at hm2
  · exact ⟨by omega, h1⟩
  · exact ⟨by omega, h1⟩
end Go.Proofs.Yteeklekfafedcaa.V.X

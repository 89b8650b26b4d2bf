/- Trees: plain words. No condition. -/
import Derived.Test.YtmechjnfeidnkaaW2
set_option linter.unusedVariables false
set_option linter.unnecessarySimpa false
set_option linter.unusedSimpArgs false
namespace Go.Proofs.Ytmechjnfeidnkaa.V.W
open Go Go.RowKit
theorem treeOk_len {t : List Nd} (h : treeOk t = true) : 1 ≤ t.length ∧ t.length ≤ 12 := by
  simp only [treeOk, Bool.and_eq_true] at h
  have := inB_iff.1 h.1
  omega
theorem tree_parts {t : List Nd} (h : treeOk t = true) : inB t.length 1 12 = true ∧ t.getD 0 z = (-1, 0, 0) ∧ ∀ i, i + 1 < t.length → bad t i = false := by
  simp only [treeOk, Bool.and_eq_true] at h
  refine ⟨h.1, by simpa using h.2.1, fun i hi => ?_⟩
  have := List.all_eq_true.1 h.2.2 i (List.mem_range.2 (by omega))
  simpa using this
theorem any_same {t : List Nd} {j : Nat} {n : Nd} (hj : j ≤ t.length) (h : (t.take j).any (same n) = false) {m : Nat} (hm : m < j) : ¬ ((t.getD m z).1 = n.1 ∧ (t.getD m z).2.1 = n.2.1) := by
  intro ⟨h1, h2⟩
  rw [List.any_eq_false] at h
  have hml : m < t.length := by omega
  have : t.getD m z ∈ t.take j := by
    rw [List.getD_eq_getElem?_getD, List.getElem?_eq_getElem hml]
    have : (t.take j)[m]? = some t[m] := by rw [List.getElem?_take_of_lt hm, List.getElem?_eq_getElem hml]
    exact List.mem_of_getElem? this
  refine h _ this ?_
  simp only [same, h1, h2, beq_self_eq_true, Bool.and_self]
theorem tree_node {t : List Nd} (h : treeOk t = true) {j : Nat} (h1 : 1 ≤ j) (h2 : j < t.length) : 0 ≤ (t.getD j z).1 ∧ (t.getD j z).1 < j ∧ (t.getD (t.getD j z).1.toNat z).2.2 = 0 ∧ 0 ≤ (t.getD j z).2.1 ∧ (t.getD j z).2.1 ≤ 3 ∧ ∀ m, m < j → ¬ ((t.getD m z).1 = (t.getD j z).1 ∧ (t.getD m z).2.1 = (t.getD j z).2.1) := by
  obtain ⟨i, rfl⟩ : ∃ i, j = i + 1 := ⟨j - 1, by omega⟩
  have hb := (tree_parts h).2.2 i h2
  simp only [bad, bad1, Bool.or_eq_false_iff, Bool.not_eq_false'] at hb
  obtain ⟨⟨q1, q2, q3, q4⟩, q5⟩ := hb
  have q1 := inB_iff.1 q1
  have q3 := inB_iff.1 q3
  exact ⟨q1.1, by omega, by simpa using q2, q3.1, q3.2, fun m hm => any_same (by omega) q5 hm⟩
theorem par {t : List Nd} (h : treeOk t = true) {j : Nat} (h1 : 1 ≤ j) (h2 : j < t.length) : ∃ p : Nat, (t.getD j z).1 = (p : Int) ∧ p < j := by
  have := tree_node h h1 h2
  exact ⟨(t.getD j z).1.toNat, by omega, by omega⟩
end Go.Proofs.Ytmechjnfeidnkaa.V.W

/- Bridges counted: plain words. No condition. -/
import Derived.Test.YtmechjnfeidnkaaF6
set_option linter.unusedVariables false
set_option linter.unnecessarySimpa false
set_option linter.unusedSimpArgs false
namespace Go.Proofs.Ytmechjnfeidnkaa.V.W
open Go Go.RowKit
/-- the bridges from j down, if j is one -/
def visF (t : List Nd) : Nat → Nat → Nat
  | 0, _ => 0
  | f + 1, j => if (t.getD j z).2.2 = 0 then 1 + wsum (visF t f) (kids t j t.length) else 0
theorem visF_same {t : List Nd} (hok : treeOk t = true) : ∀ (f g k : Nat), k < t.length → t.length - k ≤ f → t.length - k ≤ g → visF t f k = visF t g k
  | 0, g, k, hk, h1, h2 => by omega
  | f + 1, 0, k, hk, h1, h2 => by omega
  | f + 1, g + 1, k, hk, h1, h2 => by
    rw [visF, visF]
    split
    · congr 1
      refine wsum_ext fun a ha => ?_
      obtain ⟨j, rfl, h3, h4, h5, h6⟩ := kids_pos hok ha
      exact visF_same hok f g j h4 (by omega) (by omega)
    · rfl
def vis (t : List Nd) (k : Nat) : Nat := visF t t.length k
/-- the bridges below k -/
def subs (t : List Nd) (k : Nat) : Nat := wsum (vis t) (kids t k t.length)
theorem vis_eq {t : List Nd} (hok : treeOk t = true) {k : Nat} (hk : k < t.length) : vis t k = if (t.getD k z).2.2 = 0 then 1 + subs t k else 0 := by
  unfold vis subs
  obtain ⟨n, hn⟩ : ∃ n, t.length = n + 1 := ⟨t.length - 1, by omega⟩
  rw [visF_same hok t.length (n + 1) k hk (by omega) (by omega), visF]
  split
  · congr 1
    refine wsum_ext fun a ha => ?_
    obtain ⟨j, rfl, h3, h4, h5, h6⟩ := kids_pos hok ha
    exact visF_same hok n t.length j h4 (by omega) (by omega)
  · rfl
def rsum (n : Nat) (f : Nat → Nat) : Nat := ((List.range n).map f).sum
theorem rsum_succ (n : Nat) (f : Nat → Nat) : rsum (n + 1) f = rsum n f + f n := by
  unfold rsum
  rw [List.range_succ, List.map_append, List.sum_append_nat]
  simp
theorem rsum_le {f g : Nat → Nat} : ∀ {n : Nat}, (∀ j, j < n → f j ≤ g j) → rsum n f ≤ rsum n g
  | 0, _ => Nat.le_refl _
  | n + 1, h => by
    rw [rsum_succ, rsum_succ]
    exact Nat.add_le_add (rsum_le fun j hj => h j (by omega)) (h n (by omega))
theorem rsum_add (f g : Nat → Nat) : ∀ n : Nat, rsum n (fun j => f j + g j) = rsum n f + rsum n g
  | 0 => rfl
  | n + 1 => by
    rw [rsum_succ, rsum_succ, rsum_succ, rsum_add f g n]
    omega
theorem rsum_one (m c : Nat) : ∀ n : Nat, rsum n (fun j => if j = m then c else 0) ≤ c
  | n => by
    have : rsum n (fun j => if j = m then c else 0) ≤ c ∧ (n ≤ m → rsum n (fun j => if j = m then c else 0) = 0) := by
      induction n with
      | zero => exact ⟨Nat.zero_le _, fun _ => rfl⟩
      | succ n ih =>
        rw [rsum_succ]
        split
        · rename_i e
          have := ih.2 (by omega)
          exact ⟨by omega, fun h => by omega⟩
        · exact ⟨by omega, fun h => by have := ih.2 (by omega); omega⟩
    exact this.1
theorem kids_rsum (g : Nat → Nat) (t : List Nd) (k : Int) : ∀ n, wsum g (kids t k n) = rsum n fun j => if (t.getD j z).1 = k then g j else 0
  | 0 => rfl
  | n + 1 => by
    rw [kids_succ, wsum_app, rsum_succ, kids_rsum g t k n]
    congr 1
    by_cases h : (t.getD n z).1 = k
    · rw [if_pos (by simpa using h), if_pos h]; simp [wsum]
    · rw [if_neg (by simpa using h), if_neg h]; rfl
def front (t : List Nd) (m : Nat) : Nat := rsum t.length fun j => if m ≤ j ∧ (t.getD j z).1 < (m : Int) then vis t j else 0
theorem front_step {t : List Nd} (hok : treeOk t = true) {m : Nat} (h1 : 1 ≤ m) (h2 : m < t.length) : front t m ≤ 1 + front t (m + 1) := by
  have hA : front t m ≤ rsum t.length (fun j => (if j = m then vis t m else 0) + (if m + 1 ≤ j ∧ (t.getD j z).1 < (m : Int) then vis t j else 0)) := by
    refine rsum_le fun j hj => ?_
    by_cases e : j = m
    · subst e
      rw [if_pos (rfl : j = j)]
      split <;> omega
    · rw [if_neg e]
      split
      · rw [if_pos (by omega)]; omega
      · omega
  have hB : subs t m + rsum t.length (fun j => if m + 1 ≤ j ∧ (t.getD j z).1 < (m : Int) then vis t j else 0) ≤ front t (m + 1) := by
    unfold subs front
    rw [kids_rsum, ← rsum_add]
    refine rsum_le fun j hj => ?_
    by_cases e : (t.getD j z).1 = (m : Int)
    · have hj1 : j ≠ 0 := by
        rintro rfl
        rw [(tree_parts hok).2.1] at e
        have e : (-1 : Int) = m := e
        omega
      have := tree_node hok (j := j) (by omega) hj
      rw [if_pos e, if_neg (by omega), if_pos (by omega)]
      omega
    · rw [if_neg e]
      split
      · rw [if_pos (by omega)]; omega
      · omega
  have hC := vis_eq hok h2
  have hD := rsum_one m (vis t m) t.length
  rw [rsum_add] at hA
  have hE : vis t m ≤ 1 + subs t m := by
    rw [hC]; split <;> omega
  omega
theorem front_bd {t : List Nd} (hok : treeOk t = true) : ∀ (f m : Nat), 1 ≤ m → m + f = t.length → front t m ≤ f
  | 0, m, h1, h2 => by
    have : front t m ≤ rsum t.length fun j => 0 := rsum_le fun j hj => by rw [if_neg (by omega)]; omega
    have h0 : ∀ n, rsum n (fun _ => 0) = 0 := by
      intro n
      induction n with
      | zero => rfl
      | succ n ih => rw [rsum_succ, ih]
    rw [h0] at this
    exact this
  | f + 1, m, h1, h2 => by
    have := front_step hok h1 (by omega)
    have := front_bd hok f (m + 1) (by omega) (by omega)
    omega
theorem subs_root {t : List Nd} (hok : treeOk t = true) : subs t 0 ≤ 11 := by
  have hl := treeOk_len hok
  have h1 := front_bd hok (t.length - 1) 1 (by omega) (by omega)
  have h2 : subs t 0 ≤ front t 1 := by
    unfold subs front
    rw [kids_rsum]
    refine rsum_le fun j hj => ?_
    by_cases e : (t.getD j z).1 = ((0 : Nat) : Int)
    · have hj1 : j ≠ 0 := by
        rintro rfl
        rw [(tree_parts hok).2.1] at e
        have e : (-1 : Int) = ((0 : Nat) : Int) := e
        omega
      rw [if_pos e, if_pos (by omega)]
      omega
    · rw [if_neg e]
      omega
  omega
end Go.Proofs.Ytmechjnfeidnkaa.V.W

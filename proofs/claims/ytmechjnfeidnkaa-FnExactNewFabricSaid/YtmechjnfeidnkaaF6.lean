/- Places, size by size: plain words. No condition. -/
import Derived.Test.YtmechjnfeidnkaaF5
set_option linter.unusedVariables false
set_option linter.unnecessarySimpa false
set_option linter.unusedSimpArgs false
namespace Go.Proofs.Ytmechjnfeidnkaa.V.W
open Go Go.RowKit
/-- what is laid down before the number i comes up in the round of a size -/
def atS (t : List Nd) (s : List Int) (k : Nat) (size i : Nat) : Nat := wsum (win t s) ((kids t k t.length).filter fun a => decide (size < win t s a.toNat ∨ (win t s a.toNat = size ∧ a < (i : Int))))
theorem wsum_one (f : Nat → Nat) (p q : Int → Bool) (b : Int) (hq : ∀ a, q a = (p a || a == b)) : ∀ {xs : List Int}, xs.Nodup → b ∈ xs → p b = false → wsum f (xs.filter q) = wsum f (xs.filter p) + f b.toNat
  | a :: xs, hn, h, hp => by
    have hn' := List.nodup_cons.1 hn
    by_cases e : a = b
    · subst e
      have h1 : xs.filter q = xs.filter p := List.filter_congr fun c hc => by
        have : (c == a) = false := by
          rw [beq_eq_false_iff_ne]
          rintro rfl
          exact hn'.1 hc
        rw [hq, this, Bool.or_false]
      rw [List.filter_cons_of_pos (by rw [hq]; simp), List.filter_cons_of_neg (by simp [hp]), wsum_cons, h1]
      omega
    · have h2 : b ∈ xs := by
        rcases List.mem_cons.1 h with h | h
        · exact absurd h.symm e
        · exact h
      have ih := wsum_one f p q b hq hn'.2 h2 hp
      have hqa : q a = p a := by rw [hq, (beq_eq_false_iff_ne.2 e), Bool.or_false]
      rw [List.filter_cons, List.filter_cons, hqa]
      split
      · rw [wsum_cons, wsum_cons, ih]; omega
      · exact ih
theorem atS_hit {t : List Nd} {s : List Int} {k size i : Nat} (hi : i < t.length) (hp : (t.getD i z).1 = (k : Int)) (hw : win t s i = size) : atS t s k size (i + 1) = atS t s k size i + size := by
  unfold atS
  have := wsum_one (win t s) (fun a => decide (size < win t s a.toNat ∨ (win t s a.toNat = size ∧ a < (i : Int)))) (fun a => decide (0 ≤ a ∧ (size < win t s a.toNat ∨ (win t s a.toNat = size ∧ a < (i : Int)))) || a == (i : Int)) (i : Int)
  have h1 := wsum_one (win t s) (fun a => decide (0 ≤ a ∧ (size < win t s a.toNat ∨ (win t s a.toNat = size ∧ a < (i : Int))))) (fun a => decide (0 ≤ a ∧ (size < win t s a.toNat ∨ (win t s a.toNat = size ∧ a < (i : Int)))) || a == (i : Int)) (i : Int) (fun a => rfl) (kids_nodup t k t.length) (kids_iff.2 ⟨by omega, by omega, hp⟩) (by simp [hw])
  rw [Int.toNat_natCast, hw] at h1
  rw [show ((kids t k t.length).filter fun a => decide (size < win t s a.toNat ∨ (win t s a.toNat = size ∧ a < ((i + 1 : Nat) : Int)))) = (kids t k t.length).filter (fun a => decide (0 ≤ a ∧ (size < win t s a.toNat ∨ (win t s a.toNat = size ∧ a < (i : Int)))) || a == (i : Int)) from List.filter_congr fun a ha => ?_, h1, show ((kids t k t.length).filter fun a => decide (size < win t s a.toNat ∨ (win t s a.toNat = size ∧ a < (i : Int)))) = (kids t k t.length).filter (fun a => decide (0 ≤ a ∧ (size < win t s a.toNat ∨ (win t s a.toNat = size ∧ a < (i : Int))))) from List.filter_congr fun a ha => ?_]
  · have h0 := (kids_iff.1 ha).1
    rw [decide_eq_decide]
    exact ⟨fun h => ⟨h0, h⟩, fun h => h.2⟩
  · have h0 := (kids_iff.1 ha).1
    rw [Bool.eq_iff_iff, Bool.or_eq_true, decide_eq_true_eq, decide_eq_true_eq, beq_iff_eq]
    by_cases e : a = (i : Int)
    · subst e
      simp [hw]
      omega
    · omega
theorem atS_miss {t : List Nd} {s : List Int} {k size i : Nat} (h : (t.getD i z).1 ≠ (k : Int) ∨ win t s i ≠ size) : atS t s k size (i + 1) = atS t s k size i := by
  unfold atS
  congr 1
  refine List.filter_congr fun a ha => ?_
  have h0 := kids_iff.1 ha
  rw [decide_eq_decide]
  by_cases e : a = (i : Int)
  · subst e
    rw [Int.toNat_natCast] at h0 ⊢
    have h0 := h0.2.2
    rcases h with h | h
    · exact absurd h0 h
    · constructor <;> intro h2 <;> omega
  · omega
theorem pow_lt_half {a e : Nat} (h : a = 0 ∨ ∃ i, a = 2 ^ i) : 2 ^ e < a ↔ 2 ^ (e + 1) < a ∨ a = 2 ^ (e + 1) := by
  rcases h with rfl | ⟨i, rfl⟩
  · have h1 := Nat.two_pow_pos e
    have h2 := Nat.two_pow_pos (e + 1)
    omega
  · constructor
    · intro h
      have := (Nat.pow_lt_pow_iff_right (by omega)).1 h
      have : 2 ^ (e + 1) ≤ 2 ^ i := Nat.pow_le_pow_right (by omega) (by omega)
      omega
    · intro h
      have := Nat.two_pow_pos e
      rw [Nat.pow_succ] at h
      omega
theorem atS_next {t : List Nd} {s : List Int} (hs : sizesOk t s = true) {k : Nat} (e : Nat) : atS t s k (2 ^ (e + 1)) t.length = atS t s k (2 ^ e) 1 := by
  unfold atS
  congr 1
  refine List.filter_congr fun a ha => ?_
  obtain ⟨j, rfl, h1, h2, h3, h4⟩ := kids_pos (sizesOk_iff.1 hs).1 ha
  have := pow_lt_half (e := e) (win_pow hs h2)
  rw [decide_eq_decide, Int.toNat_natCast]
  omega
theorem atS_first {t : List Nd} {s : List Int} (hok : treeOk t = true) {k m : Nat} (h : ∀ j, j < t.length → win t s j ≤ m) : atS t s k m 1 = 0 := by
  unfold atS
  rw [show ((kids t k t.length).filter fun a => decide (m < win t s a.toNat ∨ (win t s a.toNat = m ∧ a < ((1 : Nat) : Int)))) = [] from ?_]
  · rfl
  rw [List.filter_eq_nil_iff]
  intro a ha
  obtain ⟨j, rfl, h1, h2, h3, h4⟩ := kids_pos hok ha
  have := h j h2
  rw [decide_eq_true_eq, Int.toNat_natCast]
  omega
theorem atS_befs {t : List Nd} {s : List Int} {k j : Nat} : atS t s k (win t s j) j = befs t s k j := rfl
theorem atS_le (t : List Nd) (s : List Int) (k size i : Nat) : atS t s k size i ≤ ksum t s k := by
  unfold atS ksum
  have hle : ∀ (p : Int → Bool) (ys : List Int), wsum (win t s) (ys.filter p) ≤ wsum (win t s) ys := by
    intro p ys
    induction ys with
    | nil => exact Nat.le_refl _
    | cons y ys ih =>
      rw [List.filter_cons]
      split
      · rw [wsum_cons, wsum_cons]; omega
      · rw [wsum_cons]; omega
  exact hle _ _
/-- what is laid down when the number i comes up in the round of a size -/
def dS (t : List Nd) (s : List Int) (k : Nat) (D : Nat → Bool) (size i : Nat) (j : Nat) : Bool := D j || ((t.getD j z).1 == (k : Int) && (decide (size < win t s j) || (win t s j == size && decide (j < i))))
theorem dS_hit {t : List Nd} {s : List Int} {k : Nat} {D : Nat → Bool} {size i : Nat} (hp : (t.getD i z).1 = (k : Int)) (hw : win t s i = size) : (fun j => dS t s k D size i j || j == i) = dS t s k D size (i + 1) := by
  funext j
  unfold dS
  by_cases e : j = i
  · subst e
    rw [hp, hw]
    simp
  · have h1 : (j == i) = false := by simpa using e
    have h2 : decide (j < i + 1) = decide (j < i) := by rw [decide_eq_decide]; omega
    rw [h1, h2, Bool.or_false]
theorem dS_miss {t : List Nd} {s : List Int} {k : Nat} {D : Nat → Bool} {size i : Nat} (h : (t.getD i z).1 ≠ (k : Int) ∨ win t s i ≠ size) : dS t s k D size i = dS t s k D size (i + 1) := by
  funext j
  unfold dS
  by_cases e : j = i
  · subst e
    rcases h with h | h
    · rw [beq_eq_false_iff_ne.2 h]; rfl
    · rw [beq_eq_false_iff_ne.2 h]; rfl
  · have h2 : decide (j < i + 1) = decide (j < i) := by rw [decide_eq_decide]; omega
    rw [h2]
end Go.Proofs.Ytmechjnfeidnkaa.V.W

/- Words for the walk over values. No condition. -/
import Derived.Test.YteeklekfafedcaaV18
set_option linter.unusedVariables false
namespace Go.Proofs.Yteeklekfafedcaa.V
open Go Go.RowKit

section
variable {P : Program} {T : List (Nat × TI)} {st : St} {Q : Exit → St → Prop}
theorem VW.reg (hT : TabOk P T) {id : Nat} {ops : Array Oper} {y : Code} (h : ∀ K : St → Prop, (∀ s, VW P y s Q → K s) → vops P T ops ops.toList st K) : VW P (.seq (.region id ops false) y) st Q :=
  VW.seq (VW.region hT (h _ fun _ h => h))
theorem VW.regl (hT : TabOk P T) {id : Nat} {ops : Array Oper} (h : ∀ K : St → Prop, (∀ s, Q .normal s → K s) → vops P T ops ops.toList st K) : VW P (.region id ops false) st Q :=
  VW.region hT (h _ fun _ h => h)
end

theorem at0 (a : PV) (l : List PV) : St.at (a :: l) 0 = a := rfl
theorem atS (a : PV) (l : List PV) (n : Nat) : St.at (a :: l) (n + 1) = St.at l n := rfl
theorem wrap64 {x : Int} (h : -9223372036854775808 ≤ x) (k : x ≤ 9223372036854775807) : IntKind.i64.wrap x = x := by rw [IntKind.wrap_i64]; omega

/-- a row that is being filled -/
def fillTo {α : Type} (xs : List α) (z : α) (i : Nat) : List α := xs.take i ++ List.replicate (xs.length - i) z
theorem fillTo_len {α : Type} {xs : List α} {z : α} {i : Nat} (h : i ≤ xs.length) : (fillTo xs z i).length = xs.length := by
  simp [fillTo]; omega
theorem fillTo_zero {α : Type} (xs : List α) (z : α) : fillTo xs z 0 = List.replicate xs.length z := by simp [fillTo]
theorem fillTo_all {α : Type} (xs : List α) (z : α) {i : Nat} (h : xs.length ≤ i) : fillTo xs z i = xs := by
  unfold fillTo
  rw [List.take_of_length_le h, Nat.sub_eq_zero_of_le h]; simp
theorem fillTo_set {α : Type} {xs : List α} {z : α} {i : Nat} (h : i < xs.length) : (fillTo xs z i).set i (xs.getD i z) = fillTo xs z (i + 1) := by
  unfold fillTo
  apply List.ext_getElem
  · simp; omega
  · intro k h1 h2
    rw [List.getElem_set]
    split
    · rename_i e
      subst e
      rw [List.getElem_append_left (by simp; omega)]
      simp [List.getD_eq_getElem?_getD, h]
    · rename_i e
      rcases Nat.lt_or_ge k i with hk | hk
      · rw [List.getElem_append_left (by simp; omega), List.getElem_append_left (by simp; omega)]
        simp
      · rw [List.getElem_append_right (by simp; omega), List.getElem_append_right (by simp; omega)]
        simp

theorem emp0 : (#[] : Array Operand).isEmpty = true := rfl
theorem emp1 : (#[] : Array (Nat × Operand)).isEmpty = true := rfl
theorem ps1 : (PStep.l == PStep.l) = true := rfl
theorem ps2 : (PStep.l == PStep.r) = false := rfl
theorem ps3 : (PStep.r == PStep.l) = false := rfl
theorem ps4 : (PStep.r == PStep.r) = true := rfl
theorem ps5 (i j : Nat) : (PStep.el i == PStep.el j) = decide (i = j) := by
  by_cases h : i = j
  · subst h; simp
  · simp [h]
end Go.Proofs.Yteeklekfafedcaa.V

/- A predicate that may have no answer, asked of a list: the words for calls that are handed a function value. -/
import Derived.Test.YteeklekfafedcaaWWords
import Derived.Below
namespace Go.Proofs.YteeklekfafedcaaW.PrintMore
open Go.RowKit Go.Proofs.YteeklekfafedcaaW.PrintWords
/-- is there an element of which p holds (none: p has no answer for one of them) -/
def anyO {α : Type} (p : α → Option Bool) (l : List α) : Option Bool := if (l.all fun x => (p x).isSome) = true then some (l.any fun x => p x == some true) else none
def optAt : Option Nat → Int
  | some i => (i : Int)
  | none => -1
def idxO {α : Type} (p : α → Option Bool) (l : List α) : Option Int := if (l.all fun x => (p x).isSome) = true then some (optAt (l.findIdx? (fun x => p x == some true))) else none
theorem allO_mono {α : Type} {p q : α → Option Bool} (h : ∀ x, LeO (p x) (q x)) {l : List α} (ha : (l.all fun x => (p x).isSome) = true) : (l.all fun x => (q x).isSome) = true ∧ ∀ x ∈ l, q x = p x := by
  rw [List.all_eq_true] at ha
  have e : ∀ x ∈ l, q x = p x := fun x hx => by
    obtain ⟨b, hb⟩ := Option.isSome_iff_exists.1 (ha x hx)
    rw [hb, h x b hb]
  exact ⟨List.all_eq_true.2 fun x hx => by rw [e x hx]; exact ha x hx, e⟩
theorem anyO_mono {α : Type} {p q : α → Option Bool} (h : ∀ x, LeO (p x) (q x)) (l : List α) : LeO (anyO p l) (anyO q l) := by
  intro r hr
  unfold anyO at hr ⊢
  by_cases ha : (l.all fun x => (p x).isSome) = true
  · obtain ⟨h1, h2⟩ := allO_mono h ha
    rw [if_pos ha] at hr
    rw [if_pos h1, ← hr]
    congr 1
    rw [Bool.eq_iff_iff, List.any_eq_true, List.any_eq_true]
    exact ⟨fun ⟨x, hx, e⟩ => ⟨x, hx, by rw [← h2 x hx]; exact e⟩, fun ⟨x, hx, e⟩ => ⟨x, hx, by rw [h2 x hx]; exact e⟩⟩
  · rw [if_neg ha] at hr; cases hr
theorem idxO_mono {α : Type} {p q : α → Option Bool} (h : ∀ x, LeO (p x) (q x)) (l : List α) : LeO (idxO p l) (idxO q l) := by
  intro r hr
  unfold idxO at hr ⊢
  by_cases ha : (l.all fun x => (p x).isSome) = true
  · obtain ⟨h1, h2⟩ := allO_mono h ha
    rw [if_pos ha] at hr
    rw [if_pos h1, ← hr]
    have : l.findIdx? (fun x => q x == some true) = l.findIdx? (fun x => p x == some true) := by
      have aux : ∀ m : List α, (∀ x ∈ m, q x = p x) → m.findIdx? (fun x => q x == some true) = m.findIdx? (fun x => p x == some true) := by
        intro m
        induction m with
        | nil => intro _; rfl
        | cons a m ih =>
          intro hm
          rw [List.findIdx?_cons, List.findIdx?_cons, hm a List.mem_cons_self, ih (fun x hx => hm x (List.mem_cons_of_mem _ hx))]
      exact aux l h2
    rw [this]
  · rw [if_neg ha] at hr; cases hr
theorem anyO_idxO {α : Type} {p : α → Option Bool} {l : List α} {r : Bool} (h : anyO p l = some r) : ∃ i, idxO p l = some i ∧ r = decide (i ≥ 0) := by
  unfold anyO at h
  unfold idxO
  by_cases ha : (l.all fun x => (p x).isSome) = true
  · rw [if_pos ha] at h ⊢
    obtain rfl := Option.some.inj h
    refine ⟨_, rfl, ?_⟩
    cases hf : l.findIdx? (fun x => p x == some true) with
    | none =>
      have : (l.any fun x => p x == some true) = false := by
        rw [List.findIdx?_eq_none_iff] at hf
        rw [Bool.eq_false_iff]
        intro h
        obtain ⟨x, hx, e⟩ := List.any_eq_true.1 h
        rw [hf x hx] at e
        cases e
      rw [this]; rfl
    | some i =>
      have : (l.any fun x => p x == some true) = true := by
        rw [List.findIdx?_eq_some_iff_getElem] at hf
        obtain ⟨hi, e, _⟩ := hf
        exact List.any_eq_true.2 ⟨_, List.getElem_mem hi, e⟩
      rw [this]
      simp [optAt]
  · rw [if_neg ha] at h; cases h
theorem idxO_all {α : Type} {p : α → Option Bool} {l : List α} {r : Int} (h : idxO p l = some r) (k : Nat) (z : α) (hk : k < l.length) : ∃ b, p (l.getD k z) = some b := by
  unfold idxO at h
  by_cases ha : (l.all fun x => (p x).isSome) = true
  · rw [List.all_eq_true] at ha
    have := ha (l.getD k z) (by rw [List.getD_eq_getElem?_getD, List.getElem?_eq_getElem hk]; exact List.getElem_mem hk)
    exact Option.isSome_iff_exists.1 this
  · rw [if_neg ha] at h; cases h
theorem idxO_hit {α : Type} {p : α → Option Bool} {l : List α} {r : Int} (h : idxO p l = some r) (k : Nat) (z : α) (hk : k < l.length) (hn : ∀ j : Nat, j < k → p (l.getD j z) = some false) (hp : p (l.getD k z) = some true) : r = k := by
  unfold idxO at h
  by_cases ha : (l.all fun x => (p x).isSome) = true
  · rw [if_pos ha] at h
    have : l.findIdx? (fun x => p x == some true) = some k := by
      rw [List.findIdx?_eq_some_iff_getElem]
      refine ⟨hk, by simpa [List.getD_eq_getElem?_getD, List.getElem?_eq_getElem hk] using hp, fun j hj => ?_⟩
      have := hn j hj
      rw [List.getD_eq_getElem?_getD, List.getElem?_eq_getElem (show j < l.length by omega), Option.getD_some] at this
      rw [this]; decide
    rw [this] at h
    exact (Option.some.inj h).symm
  · rw [if_neg ha] at h; cases h
theorem idxO_none {α : Type} {p : α → Option Bool} {l : List α} {r : Int} (h : idxO p l = some r) (z : α) (hn : ∀ j : Nat, j < l.length → p (l.getD j z) = some false) : r = -1 := by
  unfold idxO at h
  by_cases ha : (l.all fun x => (p x).isSome) = true
  · rw [if_pos ha] at h
    have : l.findIdx? (fun x => p x == some true) = none := by
      rw [List.findIdx?_eq_none_iff]
      intro x hx
      obtain ⟨j, hj, rfl⟩ := List.getElem_of_mem hx
      have := hn j hj
      rw [List.getD_eq_getElem?_getD, List.getElem?_eq_getElem hj, Option.getD_some] at this
      rw [this]; decide
    rw [this] at h
    exact (Option.some.inj h).symm
  · rw [if_neg ha] at h; cases h
theorem ret_int_ {k : IntKind} {a b : Int} (h : a = b) : Ending.returned (.int k a) = .returned (.int k b) := by rw [h]
theorem ret_bool_ {a b : Bool} (h : a = b) : Ending.returned (.bool a) = .returned (.bool b) := by rw [h]
theorem hof_below {w0 w1 w2 : World} {b : Nat} (h : Below b w0 w1) (hb : b ≤ w1.heap.size) (h2 : Below w1.heap.size w1 w2) : Below b w0 w2 := h.trans (h2.mono hb)
end Go.Proofs.YteeklekfafedcaaW.PrintMore

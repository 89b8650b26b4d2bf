/- The law FnPlugs over numbers and lists. No condition beyond the bounds of what a Go value may be. -/
import Derived.Test.YteeklekfafedcaaEvl
import Derived.Test.YteeklekfafedcaaHof
import Derived.Test.YteeklekfafedcaaPFnPlugsx8
namespace Go.Proofs.Yteeklekfafedcaa.Pure
open Go.RowKit Go.Proofs.Yteeklekfafedcaa.PFnPlugs Go.Proofs.YteeklekfafedcaaW.PrintWords Go.Proofs.YteeklekfafedcaaW.PrintLast Go.Proofs.YteeklekfafedcaaW.PrintMore Go.Proofs.Yteeklekfafedcaa.Evl
set_option linter.unusedVariables false
set_option linter.unusedSimpArgs false


theorem in_s (a b c : Int) : spec_l01In.f a b c = some (decide (b ≤ a ∧ a ≤ c)) := by
  unfold spec_l01In.f
  by_cases h : a ≥ b
  · rw [if_pos h]; simp [h]
  · rw [if_neg h]; simp [h]
theorem in_i (a b c : Int) : impl_within.f a b c = some (decide (b ≤ a ∧ a ≤ c)) := by
  unfold impl_within.f
  by_cases h : a ≥ b
  · rw [if_pos h]; simp [h]
  · rw [if_neg h]; simp [h]
theorem some_beq (b : Bool) : ((some b : Option Bool) == some true) = b := by cases b <;> rfl
theorem anyO_tot {α : Type} (p : α → Bool) (l : List α) : anyO (fun x => some (p x)) l = some (l.any p) := by
  unfold anyO
  rw [if_pos (by simp)]
  simp only [some_beq]
theorem idxO_tot {α : Type} (p : α → Bool) (l : List α) : idxO (fun x => some (p x)) l = some (optAt (l.findIdx? p)) := by
  unfold idxO
  rw [if_pos (by simp)]
  simp only [some_beq]
/-- What it is to be a valid node number k, and a valid tree. -/
def nd (t : List S84) (k : Nat) : S84 := t.getD k z84
def nodeP (t : List S84) (k : Nat) : Prop := (0 ≤ (nd t k).f0 ∧ (nd t k).f0 ≤ (k : Int) - 1) ∧ (nd t (nd t k).f0.toNat).f2 = 0 ∧ (0 ≤ (nd t k).f1 ∧ (nd t k).f1 ≤ 3) ∧ (0 ≤ (nd t k).f2 ∧ (nd t k).f2 ≤ 4) ∧ ¬ ∃ j : Nat, j < k ∧ (nd t j).f0 = (nd t k).f0 ∧ (nd t j).f1 = (nd t k).f1
def rootP (t : List S84) : Prop := (nd t 0).f0 = -1 ∧ (nd t 0).f1 = 0 ∧ (nd t 0).f2 = 0
def treeP (t : List S84) : Prop := (1 ≤ t.length ∧ t.length ≤ 12) ∧ rootP t ∧ ∀ k : Nat, 1 ≤ k → k < t.length → nodeP t k
theorem rd_nd (t : List S84) (k : Nat) : rd_T84 t (k : Int) = nd t k := rfl
theorem rd_nd' (t : List S84) (i : Int) : rd_T84 t i = nd t i.toNat := rfl
open Classical in
theorem from_k (t : List S84) (k : Nat) (hk : k < t.length) : (∀ j : Nat, k ≤ j → j < t.length → nodeP t j) ↔ nodeP t k ∧ ∀ j : Nat, k + 1 ≤ j → j < t.length → nodeP t j :=
  ⟨fun h => ⟨h k (Nat.le_refl _) hk, fun j h1 h2 => h j (by omega) h2⟩, fun ⟨h0, h⟩ j h1 h2 => by
    rcases Nat.eq_or_lt_of_le h1 with e | e
    · exact e ▸ h0
    · exact h j e h2⟩
theorem root_b (t : List S84) : (!(((rd_T84 t 0).f0) == (-1)) || (!(((rd_T84 t 0).f1) == 0) || (!(((rd_T84 t 0).f2) == 0)))) = true ↔ ¬ rootP t := by
  unfold rootP
  show (!((nd t 0).f0 == (-1)) || (!((nd t 0).f1 == 0) || (!((nd t 0).f2 == 0)))) = true ↔ _
  by_cases h1 : (nd t 0).f0 = -1 <;> by_cases h2 : (nd t 0).f1 = 0 <;> by_cases h3 : (nd t 0).f2 = 0 <;> simp [h1, h2, h3]
section
open Classical
theorem tree_s1 (t : List S84) (hl : t.length ≤ 12) (k : Nat) (hk : k < t.length) (p d f : Int) (r : Bool) (hr : Ev (fun n => spec_TreeOk.l0 n t ((k + 1 : Nat) : Int)) r) (m : Nat) : ∀ i : Nat, k - i = m → i ≤ k → Ev (fun n => spec_TreeOk.l1 n t k i p d f) (if ∃ j : Nat, i ≤ j ∧ j < k ∧ (nd t j).f0 = p ∧ (nd t j).f1 = d then false else r) := by
  induction m with
  | zero =>
    intro i hm hi
    have e : i = k := by omega
    subst e
    rw [if_neg (by rintro ⟨j, h1, h2, _⟩; omega)]
    refine Ev.step (f := fun n => spec_TreeOk.l0 n t ((i + 1 : Nat) : Int)) (fun n => ?_) hr
    simp only [spec_TreeOk.l1]
    rw [if_neg (by omega), wrap_id (x := (i : Int) + 1) (by omega) (by omega)]
    rfl
  | succ m ih =>
    intro i hm hi
    have hn := ih (i + 1) (by omega) (by omega)
    refine Ev.step (f := fun n => if (nd t i).f0 = p then (if (nd t i).f1 = d then some false else spec_TreeOk.l1 n t k ((i + 1 : Nat) : Int) p d f) else spec_TreeOk.l1 n t k ((i + 1 : Nat) : Int) p d f) (fun n => ?_) ?_
    · simp only [spec_TreeOk.l1]
      rw [if_pos (by omega), if_pos (by omega), if_pos (by omega), rd_nd, wrap_id (x := (i : Int) + 1) (by omega) (by omega)]
      rfl
    · by_cases h1 : (nd t i).f0 = p
      · refine ev_pos h1 ?_
        by_cases h2 : (nd t i).f1 = d
        · refine ev_pos h2 ?_
          rw [if_pos ⟨i, Nat.le_refl _, by omega, h1, h2⟩]
          exact Ev.now _
        · refine ev_neg h2 (ev_to hn (ite_iff ⟨fun ⟨j, a, b⟩ => ⟨j, by omega, b⟩, fun ⟨j, a, b⟩ => ⟨j, ?_, b⟩⟩ _ _))
          rcases Nat.eq_or_lt_of_le a with e | e
          · subst e; exact absurd b.2.2 h2
          · exact e
      · refine ev_neg h1 (ev_to hn (ite_iff ⟨fun ⟨j, a, b⟩ => ⟨j, by omega, b⟩, fun ⟨j, a, b⟩ => ⟨j, ?_, b⟩⟩ _ _))
        rcases Nat.eq_or_lt_of_le a with e | e
        · subst e; exact absurd b.2.1 h1
        · exact e
theorem tree_s0 (t : List S84) (hl : t.length ≤ 12) (hroot : rootP t) (m : Nat) : ∀ k : Nat, t.length - k = m → 1 ≤ k → k ≤ t.length → Ev (fun n => spec_TreeOk.l0 n t (k : Int)) (decide (∀ j : Nat, k ≤ j → j < t.length → nodeP t j)) := by
  induction m with
  | zero =>
    intro k hm h1 hk
    rw [decide_eq_true (by intro j h2 h3; omega)]
    refine Ev.step (f := fun _ => some true) (fun n => ?_) (Ev.now _)
    simp only [spec_TreeOk.l0]
    rw [if_neg (by omega)]
  | succ m ih =>
    intro k hm h1 hk
    have hlt : k < t.length := by omega
    have hn := ih (k + 1) (by omega) (by omega) (by omega)
    have hi := tree_s1 t hl k hlt (nd t k).f0 (nd t k).f1 (nd t k).f2 _ hn (k - 1) 1 rfl (by omega)
    have hj : ∀ b : Bool, Ev (fun n => spec_TreeOk.j2 n t k b (nd t k).f0 (nd t k).f1 (nd t k).f2) (if b = true then false else (if ∃ j : Nat, 1 ≤ j ∧ j < k ∧ (nd t j).f0 = (nd t k).f0 ∧ (nd t j).f1 = (nd t k).f1 then false else decide (∀ j : Nat, k + 1 ≤ j → j < t.length → nodeP t j))) := by
      intro b
      refine Ev.step (f := fun n => if b = true then some false else spec_TreeOk.l1 n t k 1 (nd t k).f0 (nd t k).f1 (nd t k).f2) (fun n => ?_) (ev_ite (fun _ => Ev.now _) (fun _ => hi))
      simp only [spec_TreeOk.j2]
    have hb := hj true
    rw [if_pos rfl] at hb
    refine Ev.step (f := fun n => if (0 ≤ (nd t k).f0 ∧ (nd t k).f0 ≤ (k : Int) - 1) then (if (nd t (nd t k).f0.toNat).f2 = 0 then (if (0 ≤ (nd t k).f1 ∧ (nd t k).f1 ≤ 3) then spec_TreeOk.j2 n t k (!decide (0 ≤ (nd t k).f2 ∧ (nd t k).f2 ≤ 4)) (nd t k).f0 (nd t k).f1 (nd t k).f2 else spec_TreeOk.j2 n t k true (nd t k).f0 (nd t k).f1 (nd t k).f2) else spec_TreeOk.j2 n t k true (nd t k).f0 (nd t k).f1 (nd t k).f2) else spec_TreeOk.j2 n t k true (nd t k).f0 (nd t k).f1 (nd t k).f2) (fun n => ?_) ?_
    · simp only [spec_TreeOk.l0]
      rw [if_pos (by omega), if_pos (by omega), rd_nd, wrap_id (x := (k : Int) - 1) (by omega) (by omega)]
      simp only [in_s, Option.bind_some, decide_eq_true_eq]
      by_cases h3 : 0 ≤ (nd t k).f0 ∧ (nd t k).f0 ≤ (k : Int) - 1
      · rw [if_pos h3, if_pos h3, if_pos h3.1, if_pos (by omega), rd_nd']
      · rw [if_neg h3, if_neg h3]
    · rw [show decide (∀ j : Nat, k ≤ j → j < t.length → nodeP t j) = (decide (nodeP t k) && decide (∀ j : Nat, k + 1 ≤ j → j < t.length → nodeP t j)) from by rw [decide_eq_decide.2 (from_k t k hlt)]; exact Bool.decide_and _ _]
      by_cases h3 : 0 ≤ (nd t k).f0 ∧ (nd t k).f0 ≤ (k : Int) - 1
      · refine ev_pos h3 ?_
        by_cases h4 : (nd t (nd t k).f0.toNat).f2 = 0
        · refine ev_pos h4 ?_
          by_cases h5 : 0 ≤ (nd t k).f1 ∧ (nd t k).f1 ≤ 3
          · refine ev_pos h5 (ev_to (hj _) ?_)
            by_cases h6 : 0 ≤ (nd t k).f2 ∧ (nd t k).f2 ≤ 4
            · rw [if_neg (by simp [h6])]
              by_cases h7 : ∃ j : Nat, 1 ≤ j ∧ j < k ∧ (nd t j).f0 = (nd t k).f0 ∧ (nd t j).f1 = (nd t k).f1
              · rw [if_pos h7, decide_eq_false (fun h => h.2.2.2.2 (by obtain ⟨j, _, a⟩ := h7; exact ⟨j, a⟩))]; rfl
              · rw [if_neg h7, decide_eq_true (p := nodeP t k) ⟨h3, h4, h5, h6, ?_⟩]
                · rfl
                · rintro ⟨j, h8, h9, h10⟩
                  rcases Nat.eq_zero_or_pos j with e | e
                  · subst e; have := hroot.1; omega
                  · exact h7 ⟨j, e, h8, h9, h10⟩
            · rw [if_pos (by simp only [h6, decide_false, Bool.not_false]), decide_eq_false (fun h => h6 h.2.2.2.1)]; rfl
          · refine ev_neg h5 (ev_to hb ?_)
            rw [decide_eq_false (p := nodeP t k) (fun h => h5 h.2.2.1)]; rfl
        · refine ev_neg h4 (ev_to hb ?_)
          rw [decide_eq_false (p := nodeP t k) (fun h => h4 h.2.1)]; rfl
      · refine ev_neg h3 (ev_to hb ?_)
        rw [decide_eq_false (p := nodeP t k) (fun h => h3 h.1)]; rfl
theorem tree_s (t : List S84) : Ev (fun n => spec_TreeOk.f n t) (decide (treeP t)) := by
  have hb : Ev (fun n => spec_TreeOk.j0 n t true) false := by
    refine Ev.step (f := fun _ => some false) (fun n => ?_) (Ev.now _)
    simp [spec_TreeOk.j0]
  simp only [spec_TreeOk.f, in_s, Option.bind_some, decide_eq_true_eq]
  by_cases h1 : (1 : Int) ≤ t.length ∧ (t.length : Int) ≤ 12
  · refine ev_pos h1 (ev_pos (by omega) ?_)
    by_cases h2 : rootP t
    · have e : (!(((rd_T84 t 0).f0) == (-1)) || (!(((rd_T84 t 0).f1) == 0) || (!(((rd_T84 t 0).f2) == 0)))) = false := Bool.eq_false_iff.2 (fun h => (root_b t).1 h h2)
      rw [e]
      refine Ev.step (f := fun n => spec_TreeOk.l0 n t ((1 : Nat) : Int)) (fun n => by simp [spec_TreeOk.j0]) (ev_to (tree_s0 t (by omega) h2 (t.length - 1) 1 rfl (by omega) (by omega)) ?_)
      exact decide_eq_decide.2 ⟨fun h => ⟨by omega, h2, h⟩, fun h => h.2.2⟩
    · rw [(root_b t).2 h2]
      refine ev_to hb ?_
      rw [decide_eq_false (fun h => h2 h.2.1)]
  · refine ev_neg h1 (ev_to hb ?_)
    rw [decide_eq_false (fun h => h1 (by have := h.1; omega))]
end
section
open Classical
theorem any_dup (t : List S84) (k : Nat) (hk : k ≤ t.length) (p d f : Int) : slices_ContainsFunc__impl_TreeOk_1.f (t.take k) p d f = some (decide (∃ j : Nat, j < k ∧ (nd t j).f0 = p ∧ (nd t j).f1 = d)) := by
  simp only [slices_ContainsFunc__impl_TreeOk_1.f, impl_TreeOk_1.f]
  rw [anyO_tot]
  congr 1
  rw [Bool.eq_iff_iff, List.any_eq_true, decide_eq_true_iff]
  constructor
  · rintro ⟨x, hx, hp⟩
    obtain ⟨j, hj, rfl⟩ := List.getElem_of_mem hx
    rw [List.length_take] at hj
    refine ⟨j, by omega, ?_⟩
    simp only [nd, List.getD_eq_getElem?_getD, List.getElem?_eq_getElem (show j < t.length by omega), Option.getD_some]
    simpa using hp
  · rintro ⟨j, hj, hp⟩
    refine ⟨(t.take k)[j]'(by rw [List.length_take]; omega), List.getElem_mem _, ?_⟩
    simp only [nd, List.getD_eq_getElem?_getD, List.getElem?_eq_getElem (show j < t.length by omega), Option.getD_some] at hp
    simpa using hp
theorem nd_drop (t : List S84) (i : Nat) : nd (t.drop 1) i = nd t (i + 1) := by
  simp only [nd, List.getD_eq_getElem?_getD, List.getElem?_drop]
  rw [Nat.add_comm]
theorem nd_take (t : List S84) (i j : Nat) (h : j < i) : nd (t.take i) j = nd t j := by
  simp only [nd, List.getD_eq_getElem?_getD]
  rw [List.getElem?_take_of_lt h]
theorem tree_i0 (t : List S84) (hl : t.length ≤ 12) (m : Nat) : ∀ i : Nat, t.length - 1 - i = m → i + 1 ≤ t.length → Ev (fun n => impl_TreeOk.l0 n t (t.drop 1) ((t.drop 1).length : Int) (i : Int)) (decide (∀ j : Nat, i + 1 ≤ j → j < t.length → nodeP t j)) := by
  have hlen : (t.drop 1).length = t.length - 1 := by simp
  induction m with
  | zero =>
    intro i hm hk
    rw [decide_eq_true (by intro j h2 h3; omega)]
    refine Ev.step (f := fun _ => some true) (fun n => ?_) (Ev.now _)
    simp only [impl_TreeOk.l0]
    rw [if_neg (by omega)]
  | succ m ih =>
    intro i hm hk
    have hlt : i + 1 < t.length := by omega
    have hn := ih (i + 1) (by omega) (by omega)
    have hi : ∀ b : Bool, Ev (fun n => impl_TreeOk.j2 n t (t.take (i + 1)) (t.drop 1) ((t.drop 1).length : Int) i b (nd t (i + 1)).f0 (nd t (i + 1)).f1 (nd t (i + 1)).f2) (if b = true then false else (if ∃ j : Nat, j < i + 1 ∧ (nd t j).f0 = (nd t (i + 1)).f0 ∧ (nd t j).f1 = (nd t (i + 1)).f1 then false else decide (∀ j : Nat, i + 1 + 1 ≤ j → j < t.length → nodeP t j))) := by
      intro b
      refine Ev.step (f := fun n => if b = true then some false else (if ∃ j : Nat, j < i + 1 ∧ (nd t j).f0 = (nd t (i + 1)).f0 ∧ (nd t j).f1 = (nd t (i + 1)).f1 then some false else impl_TreeOk.l0 n t (t.drop 1) ((t.drop 1).length : Int) ((i + 1 : Nat) : Int))) (fun n => ?_) (ev_ite (fun _ => Ev.now _) (fun _ => ev_ite (fun _ => Ev.now _) (fun _ => hn)))
      simp only [impl_TreeOk.j2]
      rw [any_dup t (i + 1) (by omega), wrap_id (x := (i : Int) + 1) (by omega) (by omega)]
      simp only [Option.bind_some, decide_eq_true_eq]
      rfl
    have hb := hi true
    rw [if_pos rfl] at hb
    refine Ev.step (f := fun n => if (0 ≤ (nd t (i + 1)).f0 ∧ (nd t (i + 1)).f0 ≤ (i : Int)) then (if (nd t (nd t (i + 1)).f0.toNat).f2 = 0 then (if (0 ≤ (nd t (i + 1)).f1 ∧ (nd t (i + 1)).f1 ≤ 3) then impl_TreeOk.j2 n t (t.take (i + 1)) (t.drop 1) ((t.drop 1).length : Int) i (!decide (0 ≤ (nd t (i + 1)).f2 ∧ (nd t (i + 1)).f2 ≤ 4)) (nd t (i + 1)).f0 (nd t (i + 1)).f1 (nd t (i + 1)).f2 else impl_TreeOk.j2 n t (t.take (i + 1)) (t.drop 1) ((t.drop 1).length : Int) i true (nd t (i + 1)).f0 (nd t (i + 1)).f1 (nd t (i + 1)).f2) else impl_TreeOk.j2 n t (t.take (i + 1)) (t.drop 1) ((t.drop 1).length : Int) i true (nd t (i + 1)).f0 (nd t (i + 1)).f1 (nd t (i + 1)).f2) else impl_TreeOk.j2 n t (t.take (i + 1)) (t.drop 1) ((t.drop 1).length : Int) i true (nd t (i + 1)).f0 (nd t (i + 1)).f1 (nd t (i + 1)).f2) (fun n => ?_) ?_
    · simp only [impl_TreeOk.l0]
      rw [if_pos (by omega), if_pos (by omega), if_pos (by omega), wrap_id (x := (i : Int) + 1) (by omega) (by omega), if_pos (by omega), if_pos (by omega), rd_nd, nd_drop, show ((i : Int) + 1).toNat = i + 1 from by omega]
      simp only [in_i, Option.bind_some, decide_eq_true_eq]
      by_cases h3 : 0 ≤ (nd t (i + 1)).f0 ∧ (nd t (i + 1)).f0 ≤ (i : Int)
      · rw [if_pos h3, if_pos h3, if_pos h3.1, if_pos (by rw [List.length_take]; omega), rd_nd', nd_take t (i + 1) _ (by omega)]
      · rw [if_neg h3, if_neg h3]
    · rw [show decide (∀ j : Nat, i + 1 ≤ j → j < t.length → nodeP t j) = (decide (nodeP t (i + 1)) && decide (∀ j : Nat, i + 1 + 1 ≤ j → j < t.length → nodeP t j)) from by rw [decide_eq_decide.2 (from_k t (i + 1) hlt)]; exact Bool.decide_and _ _]
      by_cases h3 : 0 ≤ (nd t (i + 1)).f0 ∧ (nd t (i + 1)).f0 ≤ (i : Int)
      · refine ev_pos h3 ?_
        by_cases h4 : (nd t (nd t (i + 1)).f0.toNat).f2 = 0
        · refine ev_pos h4 ?_
          by_cases h5 : 0 ≤ (nd t (i + 1)).f1 ∧ (nd t (i + 1)).f1 ≤ 3
          · refine ev_pos h5 (ev_to (hi _) ?_)
            by_cases h6 : 0 ≤ (nd t (i + 1)).f2 ∧ (nd t (i + 1)).f2 ≤ 4
            · rw [if_neg (by simp [h6])]
              by_cases h7 : ∃ j : Nat, j < i + 1 ∧ (nd t j).f0 = (nd t (i + 1)).f0 ∧ (nd t j).f1 = (nd t (i + 1)).f1
              · rw [if_pos h7, decide_eq_false (fun h => h.2.2.2.2 h7)]; rfl
              · rw [if_neg h7, decide_eq_true (p := nodeP t (i + 1)) ⟨⟨h3.1, by omega⟩, h4, h5, h6, h7⟩]; rfl
            · rw [if_pos (by simp only [h6, decide_false, Bool.not_false]), decide_eq_false (fun h => h6 h.2.2.2.1)]; rfl
          · refine ev_neg h5 (ev_to hb ?_)
            rw [decide_eq_false (p := nodeP t (i + 1)) (fun h => h5 h.2.2.1)]; rfl
        · refine ev_neg h4 (ev_to hb ?_)
          rw [decide_eq_false (p := nodeP t (i + 1)) (fun h => h4 h.2.1)]; rfl
      · refine ev_neg h3 (ev_to hb ?_)
        rw [decide_eq_false (p := nodeP t (i + 1)) (fun h => h3 ⟨h.1.1, by have := h.1.2; omega⟩)]; rfl
theorem tree_i (t : List S84) : Ev (fun n => impl_TreeOk.f n t) (decide (treeP t)) := by
  have hb : Ev (fun n => impl_TreeOk.j0 n t true) false := by
    refine Ev.step (f := fun _ => some false) (fun n => ?_) (Ev.now _)
    simp [impl_TreeOk.j0]
  simp only [impl_TreeOk.f, in_i, Option.bind_some, decide_eq_true_eq]
  by_cases h1 : (1 : Int) ≤ t.length ∧ (t.length : Int) ≤ 12
  · refine ev_pos h1 (ev_pos (by omega) ?_)
    by_cases h2 : rootP t
    · have e : (!(((rd_T84 t 0).f0) == (-1)) || (!(((rd_T84 t 0).f1) == 0) || (!(((rd_T84 t 0).f2) == 0)))) = false := Bool.eq_false_iff.2 (fun h => (root_b t).1 h h2)
      rw [e]
      refine Ev.step (f := fun n => impl_TreeOk.l0 n t (t.drop 1) ((t.drop 1).length : Int) ((0 : Nat) : Int)) (fun n => ?_) (ev_to (tree_i0 t (by omega) (t.length - 1) 0 rfl (by omega)) ?_)
      · simp only [impl_TreeOk.j0]
        rw [if_neg (by decide), if_pos (by omega)]
        rfl
      exact decide_eq_decide.2 ⟨fun h => ⟨by omega, h2, h⟩, fun h => h.2.2⟩
    · rw [(root_b t).2 h2]
      refine ev_to hb ?_
      rw [decide_eq_false (fun h => h2 h.2.1)]
  · refine ev_neg h1 (ev_to hb ?_)
    rw [decide_eq_false (fun h => h1 (by have := h.1; omega))]
end
theorem and255 (n : Int) : Go.bits .and .i64 n 255 = n % 256 := by
  have h255 : (BitVec.ofInt 64 255).toNat = 2 ^ 8 - 1 := by decide
  have key : (BitVec.ofInt 64 n &&& BitVec.ofInt 64 255).toNat = (n % ((2 ^ 64 : Nat) : Int)).toNat % 2 ^ 8 := by
    rw [BitVec.toNat_and, BitVec.toNat_ofInt, h255, Nat.and_two_pow_sub_one_eq_mod]
  show IntKind.i64.wrap ((BitVec.ofInt 64 n &&& BitVec.ofInt 64 255).toNat : Nat) = n % 256
  rw [key]
  simp only [IntKind.wrap, IntKind.bits, IntKind.signed]
  simp
  omega
/-- Where a draw stands: behind no byte that isn't there. -/
def stOk (xs : List Int) (p : Int) : Prop := 0 ≤ p ∧ p ≤ (xs.length : Int)
theorem byte_ok (xs : List Int) (hl : xs.length ≤ 1048576) (p s : Int) (hp : stOk xs p) : ∃ b p' s', spec_l01Byte.f xs p s = some (b, p', s') ∧ (0 ≤ b ∧ b ≤ 255) ∧ stOk xs p' := by
  unfold stOk at hp
  simp only [spec_l01Byte.f, and255]
  by_cases h : p < (xs.length : Int)
  · rw [if_pos h, if_pos hp.1]
    refine ⟨_, _, _, rfl, ⟨by omega, by omega⟩, ?_⟩
    rw [wrap_id (by omega) (by omega)]
    exact ⟨by omega, by omega⟩
  · rw [if_neg h]
    exact ⟨_, _, _, rfl, ⟨by omega, by omega⟩, hp⟩
theorem below_ok (xs : List Int) (hl : xs.length ≤ 1048576) (p s n : Int) (hp : stOk xs p) (h1 : 1 ≤ n) (h2 : n ≤ 256) : ∃ v p' s', spec_l01Below.f xs p s n = some (v, p', s') ∧ (0 ≤ v ∧ v < n) ∧ stOk xs p' := by
  obtain ⟨b, p', s', hb, hb2, hp'⟩ := byte_ok xs hl p s hp
  refine ⟨Int.tmod b n, p', s', ?_, ⟨Int.tmod_nonneg _ hb2.1, Int.tmod_lt_of_pos _ (by omega)⟩, hp'⟩
  simp only [spec_l01Below.f]
  rw [if_neg (by omega), if_pos h2, hb]
  simp only [Option.bind_some]
  rw [if_neg (by omega)]
theorem new_ok (xs : List Int) (hl : xs.length ≤ 1048576) : ∃ s, Ev (fun k => spec_l01New.f k xs) (xs, 0, s) := by
  have aux : ∀ (d i : Nat) (s : Int), 4000 - i = d → ∃ s', Ev (fun k => spec_l01New.l0 k xs s (i : Int)) (xs, 0, s') := by
    intro d
    induction d with
    | zero =>
      intro i s hd
      refine ⟨s, Ev.step (f := fun _ => some (xs, 0, s)) (fun k => ?_) (Ev.now _)⟩
      simp only [spec_l01New.l0]
      by_cases h : (i : Int) < (xs.length : Int)
      · rw [if_pos h, if_neg (by omega)]
      · rw [if_neg h]
    | succ d ih =>
      intro i s hd
      by_cases h : (i : Int) < (xs.length : Int)
      · obtain ⟨s', hs⟩ := ih (i + 1) (Go.bits .and .i64 (wrap64 ((wrap64 ((wrap64 (s * 131)) + (wrap64 (rd xs i)))) + 7)) 1073741823) (by omega)
        refine ⟨s', Ev.step (f := fun k => spec_l01New.l0 k xs (Go.bits .and .i64 (wrap64 ((wrap64 ((wrap64 (s * 131)) + (wrap64 (rd xs i)))) + 7)) 1073741823) ((i + 1 : Nat) : Int)) (fun k => ?_) hs⟩
        simp only [spec_l01New.l0]
        rw [if_pos h, if_pos (by omega), if_pos (by omega), wrap_id (x := (i : Int) + 1) (by omega) (by omega)]
        rfl
      · refine ⟨s, Ev.step (f := fun _ => some (xs, 0, s)) (fun k => ?_) (Ev.now _)⟩
        simp only [spec_l01New.l0]
        rw [if_neg h]
  exact aux 4000 0 _ rfl
theorem st0 (xs : List Int) : stOk xs 0 := ⟨by omega, by omega⟩
theorem belowbig_ok (xs : List Int) (hl : xs.length ≤ 1048576) (p s n : Int) (hp : stOk xs p) (h1 : 256 < n) : ∃ v p' s', spec_l01Below.f xs p s n = some (v, p', s') ∧ (0 ≤ v ∧ v < n) ∧ stOk xs p' := by
  obtain ⟨a, p1, s1, e1, ha, q1⟩ := byte_ok xs hl p s hp
  obtain ⟨b, p2, s2, e2, hb, q2⟩ := byte_ok xs hl p1 s1 q1
  obtain ⟨c, p3, s3, e3, hc, q3⟩ := byte_ok xs hl p2 s2 q2
  obtain ⟨d, p4, s4, e4, hd, q4⟩ := byte_ok xs hl p3 s3 q3
  refine ⟨Int.tmod (a * 16777216 + b * 65536 + c * 256 + d) n, p4, s4, ?_, ⟨Int.tmod_nonneg _ (by omega), Int.tmod_lt_of_pos _ (by omega)⟩, q4⟩
  simp only [spec_l01Below.f]
  rw [if_neg (by omega), if_neg (by omega), e1]
  simp only [Option.bind_some, e2, e3, e4]
  rw [if_neg (by omega)]
  rw [wrap_id (x := a * 16777216) (by omega) (by omega), wrap_id (x := b * 65536) (by omega) (by omega), wrap_id (x := c * 256) (by omega) (by omega), wrap_id (x := a * 16777216 + b * 65536) (by omega) (by omega), wrap_id (x := a * 16777216 + b * 65536 + c * 256) (by omega) (by omega), wrap_id (x := a * 16777216 + b * 65536 + c * 256 + d) (by omega) (by omega)]
theorem pick_ok (xs : List Int) (hl : xs.length ≤ 1048576) (p s : Int) (l : List Int) (hp : stOk xs p) (h1 : 1 ≤ l.length) (h2 : l.length ≤ 256) : ∃ v p' s', spec_l01PickInt.f xs p s l = some (v, p', s') ∧ v ∈ l ∧ stOk xs p' := by
  obtain ⟨v, p', s', hb, hv, hp'⟩ := below_ok xs hl p s (l.length : Int) hp (by omega) (by omega)
  have h : v.toNat < l.length := by omega
  refine ⟨rd l v, p', s', ?_, ?_, hp'⟩
  · simp only [spec_l01PickInt.f, hb, Option.bind_some]
    rw [if_pos hv.1, if_pos hv.2]
  · show l.getD v.toNat 0 ∈ l
    rw [List.getD_eq_getElem?_getD, List.getElem?_eq_getElem h]
    exact List.getElem_mem h
section
open Classical
theorem tree_l (xs : List Int) (hl : xs.length ≤ 1048576) (d : Nat) : ∀ (i : Nat) (t : List S84) (p s : Int), 10 - i = d → i ≤ 10 → treeP t → stOk xs p → ∃ t' p' s', Ev (fun k => spec_l19Tree.l0 k t (i : Int) xs p s) (t', p', s') ∧ treeP t' ∧ stOk xs p' := by
  induction d with
  | zero =>
    intro i t p s hd hi ht hp
    obtain ⟨v, p1, s1, e1, hv, hp1⟩ := below_ok xs hl p s 8 hp (by omega) (by omega)
    refine ⟨t, p1, s1, Ev.step (f := fun _ => some (t, p1, s1)) (fun k => ?_) (Ev.now _), ht, hp1⟩
    simp only [spec_l19Tree.l0, e1, Option.bind_some]
    rw [wrap_id (x := 3 + v) (by omega) (by omega), if_neg (by omega)]
  | succ d ih =>
    intro i t p s hd hi ht hp
    have htl := ht.1
    obtain ⟨v, p1, s1, e1, hv, hp1⟩ := below_ok xs hl p s 8 hp (by omega) (by omega)
    by_cases h : (i : Int) < 3 + v
    · obtain ⟨a, p2, s2, e2, ha, hp2⟩ := below_ok xs hl p1 s1 (t.length : Int) hp1 (by omega) (by omega)
      obtain ⟨b, p3, s3, e3, hb, hp3⟩ := below_ok xs hl p2 s2 4 hp2 (by omega) (by omega)
      obtain ⟨c, p4, s4, e4, hc, hp4⟩ := pick_ok xs hl p3 s3 [0, 0, 1, 1, 2, 4] hp3 (by simp) (by simp)
      obtain ⟨t1, q1, r1, x1, y1, z1⟩ := ih (i + 1) t p4 s4 (by omega) (by omega) ht hp4
      by_cases hn : treeP (t ++ [(⟨a, b, c⟩ : S84)])
      · obtain ⟨t2, q2, r2, x2, y2, z2⟩ := ih (i + 1) (t ++ [(⟨a, b, c⟩ : S84)]) p4 s4 (by omega) (by omega) hn hp4
        refine ⟨t2, q2, r2, Ev.step (f := fun k => (spec_TreeOk.f k (t ++ [(⟨a, b, c⟩ : S84)])).bind fun w => if w = true then spec_l19Tree.l0 k (t ++ [(⟨a, b, c⟩ : S84)]) ((i + 1 : Nat) : Int) xs p4 s4 else spec_l19Tree.l0 k t ((i + 1 : Nat) : Int) xs p4 s4) (fun k => ?_) (Ev.bind (tree_s _) (ev_pos (decide_eq_true hn) x2)), y2, z2⟩
        simp only [spec_l19Tree.l0, e1, e2, e3, e4, Option.bind_some, List.nil_append, List.length_nil, List.length_singleton]
        rw [wrap_id (x := 3 + v) (by omega) (by omega), if_pos h, if_pos (by omega), if_pos (by omega), wrap_id (x := (i : Int) + 1) (by omega) (by omega)]
        rfl
      · refine ⟨t1, q1, r1, Ev.step (f := fun k => (spec_TreeOk.f k (t ++ [(⟨a, b, c⟩ : S84)])).bind fun w => if w = true then spec_l19Tree.l0 k (t ++ [(⟨a, b, c⟩ : S84)]) ((i + 1 : Nat) : Int) xs p4 s4 else spec_l19Tree.l0 k t ((i + 1 : Nat) : Int) xs p4 s4) (fun k => ?_) (Ev.bind (tree_s _) (ev_neg (by simpa using hn) x1)), y1, z1⟩
        simp only [spec_l19Tree.l0, e1, e2, e3, e4, Option.bind_some, List.nil_append, List.length_nil, List.length_singleton]
        rw [wrap_id (x := 3 + v) (by omega) (by omega), if_pos h, if_pos (by omega), if_pos (by omega), wrap_id (x := (i : Int) + 1) (by omega) (by omega)]
        rfl
    · refine ⟨t, p1, s1, Ev.step (f := fun _ => some (t, p1, s1)) (fun k => ?_) (Ev.now _), ht, hp1⟩
      simp only [spec_l19Tree.l0, e1, Option.bind_some]
      rw [wrap_id (x := 3 + v) (by omega) (by omega), if_neg h]
theorem root_tree : treeP [(⟨-1, 0, 0⟩ : S84)] := ⟨by simp, ⟨rfl, rfl, rfl⟩, fun k h1 h2 => by simp at h2; omega⟩
theorem tree_ok (xs : List Int) (hl : xs.length ≤ 1048576) (p s : Int) (hp : stOk xs p) : ∃ t' p' s', Ev (fun k => spec_l19Tree.f k xs p s) (t', p', s') ∧ treeP t' ∧ stOk xs p' := tree_l xs hl 10 0 _ p s rfl (by omega) root_tree hp
end
theorem places_l (xs : List Int) (hl : xs.length ≤ 1048576) (d : Nat) : ∀ (i : Nat) (l : List Int) (p s : Int), 12 - i = d → i ≤ 12 → l.length = i → (∀ x ∈ l, 0 ≤ x ∧ x < 10000) → stOk xs p → ∃ l', Ev (fun k => spec_DrawPlaces.l0 k l (i : Int) xs p s) l' ∧ l'.length = 12 ∧ ∀ x ∈ l', 0 ≤ x ∧ x < 10000 := by
  induction d with
  | zero =>
    intro i l p s hd hi h1 h2 hp
    refine ⟨l, Ev.step (f := fun _ => some l) (fun k => ?_) (Ev.now _), by omega, h2⟩
    simp only [spec_DrawPlaces.l0]
    rw [if_neg (by omega)]
  | succ d ih =>
    intro i l p s hd hi h1 h2 hp
    obtain ⟨v, p1, s1, e1, hv, hp1⟩ := belowbig_ok xs hl p s 10000 hp (by omega)
    obtain ⟨l', x1, x2, x3⟩ := ih (i + 1) (l ++ [v]) p1 s1 (by omega) (by omega) (by simp [h1]) (fun x hx => by
      rcases List.mem_append.1 hx with e | e
      · exact h2 x e
      · rw [List.mem_singleton] at e; omega) hp1
    refine ⟨l', Ev.step (f := fun k => spec_DrawPlaces.l0 k (l ++ [v]) ((i + 1 : Nat) : Int) xs p1 s1) (fun k => ?_) x1, x2, x3⟩
    simp only [spec_DrawPlaces.l0, e1, Option.bind_some]
    rw [if_pos (by omega), if_pos (by omega), wrap_id (x := (i : Int) + 1) (by omega) (by omega)]
    rfl
theorem places_ok (xs : List Int) (hl : xs.length ≤ 1048576) : ∃ l, Ev (fun k => spec_DrawPlaces.f k xs) l ∧ l.length = 12 ∧ ∀ x ∈ l, 0 ≤ x ∧ x < 10000 := by
  obtain ⟨s0, h0⟩ := new_ok xs hl
  obtain ⟨l, h1, h2, h3⟩ := places_l xs hl 12 0 [] 0 s0 rfl (by omega) rfl (fun x hx => by cases hx) (st0 xs)
  refine ⟨l, ?_, h2, h3⟩
  simp only [spec_DrawPlaces.f]
  exact Ev.bind h0 h1
theorem gset_self {α : Type} (l : List α) (i : Nat) (a z : α) (h : i < l.length) : (l.set i a).getD i z = a := by
  simp [List.getD_eq_getElem?_getD, List.getElem?_set, h]
theorem gset_ne {α : Type} (l : List α) (i j : Nat) (a z : α) (h : i ≠ j) : (l.set i a).getD j z = l.getD j z := by
  simp [List.getD_eq_getElem?_getD, List.getElem?_set, h]
/-- The path from node i up to the root, and the list from the root down to i; the reversal as slices.Reverse makes it. -/
def up (t : List S84) : Nat → Int → List Int
  | 0, _ => []
  | d + 1, i => if i < 0 then [] else i :: up t d ((nd t i.toNat).f0)
theorem up_len (t : List S84) (d : Nat) : ∀ i : Int, (up t d i).length ≤ d := by
  induction d with
  | zero => intro i; exact Nat.le_refl _
  | succ d ih =>
    intro i
    simp only [up]
    split
    · simp
    · simp only [List.length_cons]; have := ih (nd t i.toNat).f0; omega
/-- In a valid tree: a node's parent is a node of a smaller number, and the root's is -1. -/
theorem parU {t : List S84} (ht : treeP t) (i : Nat) (hi : i < t.length) : -1 ≤ (nd t i).f0 ∧ (nd t i).f0 < (i : Int) := by
  rcases Nat.eq_zero_or_pos i with e | e
  · subst e; have := ht.2.1.1; omega
  · have := (ht.2.2 i e hi).1; omega
section
open Classical
noncomputable def pathV (t : List S84) (a : Int) : List Int := if treeP t ∧ (0 ≤ a ∧ a ≤ (t.length : Int) - 1) then (up t t.length a).reverse else []
theorem pathV_len (t : List S84) (a : Int) : (pathV t a).length ≤ t.length := by
  unfold pathV
  split
  · simpa using up_len t t.length a
  · simp
theorem up_mem (t : List S84) (ht : treeP t) (d : Nat) : ∀ i : Int, i < (t.length : Int) → ∀ x ∈ up t d i, 0 ≤ x ∧ x < (t.length : Int) := by
  induction d with
  | zero => intro i h x hx; cases hx
  | succ d ih =>
    intro i h x hx
    simp only [up] at hx
    by_cases hi : i < 0
    · rw [if_pos hi] at hx; cases hx
    · rw [if_neg hi] at hx
      have hp := parU ht i.toNat (by omega)
      rcases List.mem_cons.1 hx with e | e
      · subst e; omega
      · exact ih _ (by omega) x e
theorem pathV_mem (t : List S84) (a : Int) : ∀ x ∈ pathV t a, 0 ≤ x ∧ x < (t.length : Int) := by
  intro x hx
  unfold pathV at hx
  by_cases h : treeP t ∧ (0 ≤ a ∧ a ≤ (t.length : Int) - 1)
  · rw [if_pos h] at hx
    exact up_mem t h.1 t.length a (by omega) x (by simpa using hx)
  · rw [if_neg h] at hx; cases hx
theorem pathV_pos (t : List S84) (a : Int) (ht : treeP t) : (pathV t a).length = 0 ↔ ¬ (0 ≤ a ∧ a ≤ (t.length : Int) - 1) := by
  unfold pathV
  have hl := ht.1
  by_cases h : 0 ≤ a ∧ a ≤ (t.length : Int) - 1
  · rw [if_pos ⟨ht, h⟩]
    obtain ⟨m, hm⟩ : ∃ m, t.length = m + 1 := ⟨t.length - 1, by omega⟩
    rw [hm]
    simp only [up]
    rw [if_neg (by omega)]
    simp; omega
  · rw [if_neg (fun x => h x.2)]
    simpa using h
end
theorem rdI' (l : List Int) (i : Nat) : rd l (i : Int) = l.getD i 0 := rfl
theorem rev_l (xs : List Int) (hl : xs.length ≤ 1048576) (d : Nat) : ∀ (ys : List Int) (i : Nat), ys.length = xs.length → xs.length - 2 * i = d → i ≤ xs.length →
    (∀ p : Nat, p < i → ys.getD p 0 = xs.getD (xs.length - 1 - p) 0) → (∀ p : Nat, i ≤ p → p + i < xs.length → ys.getD p 0 = xs.getD p 0) → (∀ p : Nat, p < xs.length → xs.length ≤ p + i → ys.getD p 0 = xs.getD (xs.length - 1 - p) 0) →
    Ev (fun k => slices_Reverse_int_int.l0 k ys (i : Int) ((xs.length : Int) - 1 - (i : Int))) xs.reverse := by
  induction d using Nat.strongRecOn with
  | ind d ih =>
    intro ys i hy hd hi h1 h2 h3
    by_cases hlt : 2 * i + 1 < xs.length
    · have hn := ih (xs.length - 2 * (i + 1)) (by omega) ((ys.set i (ys.getD (xs.length - 1 - i) 0)).set (xs.length - 1 - i) (ys.getD i 0)) (i + 1) (by simpa using hy) rfl (by omega)
        (fun p hp => by
          by_cases e : p = i
          · subst e
            rw [gset_ne _ _ _ _ _ (by omega), gset_self _ _ _ _ (by omega), h2 _ (by omega) (by omega)]
          · rw [gset_ne _ _ _ _ _ (by omega), gset_ne _ _ _ _ _ (by omega), h1 p (by omega)])
        (fun p hp hq => by rw [gset_ne _ _ _ _ _ (by omega), gset_ne _ _ _ _ _ (by omega), h2 p (by omega) (by omega)])
        (fun p hp hq => by
          by_cases e : p = xs.length - 1 - i
          · subst e
            rw [gset_self _ _ _ _ (by simp; omega), h2 i (by omega) (by omega)]
            congr 1; omega
          · rw [gset_ne _ _ _ _ _ (by omega), gset_ne _ _ _ _ _ (by omega), h3 p hp (by omega)])
      refine Ev.step (f := fun k => slices_Reverse_int_int.l0 k ((ys.set i (ys.getD (xs.length - 1 - i) 0)).set (xs.length - 1 - i) (ys.getD i 0)) ((i + 1 : Nat) : Int) ((xs.length : Int) - 1 - ((i + 1 : Nat) : Int))) (fun k => ?_) hn
      simp only [slices_Reverse_int_int.l0]
      rw [show ((xs.length : Int) - 1 - (i : Int)) = ((xs.length - 1 - i : Nat) : Int) from by omega]
      rw [if_pos (by omega), if_pos (by omega), if_pos (by omega), if_pos (by omega), if_pos (by omega), rdI', rdI', wrap_id (x := (i : Int) + 1) (by omega) (by omega), wrap_id (x := ((xs.length - 1 - i : Nat) : Int) - 1) (by omega) (by omega)]
      rw [show ((xs.length : Int) - 1 - ((i + 1 : Nat) : Int)) = ((xs.length - 1 - i : Nat) : Int) - 1 from by omega]
      rfl
    · refine Ev.step (f := fun _ => some xs.reverse) (fun k => ?_) (Ev.now _)
      simp only [slices_Reverse_int_int.l0]
      rw [if_neg (by omega)]
      congr 1
      refine List.ext_getElem (by simpa using hy) (fun p hp hq => ?_)
      have hp' : p < xs.length := by omega
      have a : ys.getD p 0 = xs.getD (xs.length - 1 - p) 0 := by
        by_cases e1 : p < i
        · exact h1 p e1
        · by_cases e2 : xs.length ≤ p + i
          · exact h3 p hp' e2
          · rw [h2 p (by omega) (by omega)]
            congr 1; omega
      rw [List.getElem_reverse]
      simpa [List.getD_eq_getElem?_getD, List.getElem?_eq_getElem hp, List.getElem?_eq_getElem (show xs.length - 1 - p < xs.length by omega)] using a
theorem rev_ev (xs : List Int) (hl : xs.length ≤ 1048576) : Ev (fun k => slices_Reverse_int_int.f k xs) xs.reverse := by
  have := rev_l xs hl xs.length xs 0 rfl (by omega) (Nat.zero_le _) (fun p hp => by omega) (fun p _ _ => rfl) (fun p hp hq => by omega)
  simp only [slices_Reverse_int_int.f]
  rw [wrap_id (by omega) (by omega)]
  rw [show ((xs.length : Int) - 1 - ((0 : Nat) : Int)) = (xs.length : Int) - 1 from by omega] at this
  exact this
section
open Classical
theorem isn_i (t : List S84) (hl : t.length ≤ 1048576) (a : Int) : Ev (fun k => impl_isNode.f k t a) (decide (treeP t ∧ (0 ≤ a ∧ a ≤ (t.length : Int) - 1))) := by
  simp only [impl_isNode.f, in_i, Option.bind_some]
  refine Ev.bind (tree_i t) ?_
  rw [wrap_id (x := (t.length : Int) - 1) (by omega) (by omega)]
  by_cases h : treeP t
  · refine ev_pos (by simpa using h) (ev_to (Ev.now _) ?_)
    exact decide_eq_decide.2 ⟨fun x => ⟨h, x⟩, fun x => x.2⟩
  · refine ev_neg (by simpa using h) (ev_to (Ev.now _) ?_)
    exact (decide_eq_false (fun x => h x.1)).symm
theorem path_il (t : List S84) (ht : treeP t) (d : Nat) : ∀ (i : Int) (acc : List Int), -1 ≤ i → i < (d : Int) → i < (t.length : Int) → acc.length + d ≤ 1048576 → Ev (fun k => impl_PathTo.l0 k t i acc) ((acc ++ up t d i).reverse) := by
  induction d with
  | zero =>
    intro i acc h0 h1 h2 h3
    refine Ev.step (f := fun k => (slices_Reverse_int_int.f k acc).bind fun x => some x) (fun k => ?_) (ev_map (rev_ev acc (by omega)) (by simp [up]))
    simp only [impl_PathTo.l0]
    rw [if_neg (by omega)]
  | succ d ih =>
    intro i acc h0 h1 h2 h3
    by_cases hi : i < 0
    · refine Ev.step (f := fun k => (slices_Reverse_int_int.f k acc).bind fun x => some x) (fun k => ?_) (ev_map (rev_ev acc (by omega)) (by simp only [up]; rw [if_pos hi]; simp))
      simp only [impl_PathTo.l0]
      rw [if_neg (by omega)]
    · have hp := parU ht i.toNat (by omega)
      have hn := ih (nd t i.toNat).f0 (acc ++ [i]) (by omega) (by omega) (by omega) (by simp; omega)
      refine Ev.step (f := fun k => impl_PathTo.l0 k t (nd t i.toNat).f0 (acc ++ [i])) (fun k => ?_) (ev_to hn ?_)
      · simp only [impl_PathTo.l0]
        rw [if_pos (by omega), if_pos (by omega), if_pos (by omega), if_pos (by omega)]
        rfl
      · simp only [up]
        rw [if_neg hi]
        simp
theorem path_i (t : List S84) (hl : t.length ≤ 1048576) (a : Int) : Ev (fun k => impl_PathTo.f k t a) (pathV t a) := by
  simp only [impl_PathTo.f, Option.bind_some]
  refine Ev.bind (isn_i t hl a) ?_
  unfold pathV
  by_cases h : treeP t ∧ (0 ≤ a ∧ a ≤ (t.length : Int) - 1)
  · refine ev_pos (by simpa using h) ?_
    rw [if_pos h]
    have := path_il t h.1 t.length a [] (by omega) (by omega) (by omega) (by simp; omega)
    rw [List.nil_append] at this
    exact this
  · refine ev_neg (by simpa using h) ?_
    rw [if_neg h]
    exact Ev.now _
end
section
open Classical
theorem mem_drop_iff (p : List Int) (a : Int) (i : Nat) (h : i < p.length) : (a ∈ p.drop i) ↔ (p[i] = a ∨ a ∈ p.drop (i + 1)) := by
  rw [List.drop_eq_getElem_cons h, List.mem_cons]
  exact ⟨fun x => x.imp Eq.symm id, fun x => x.imp Eq.symm id⟩
noncomputable def belowV (t : List S84) (a b : Int) : Bool := decide (b ∈ pathV t a)
end
section
open Classical
theorem idx_l (p : List Int) (hp : p.length ≤ 1048576) (a : Int) (d : Nat) : ∀ i : Nat, p.length - i = d → i ≤ p.length → ∃ r : Int, Ev (fun k => slices_Index_int_int.l0 k p a (p.length : Int) i) r ∧ decide (r ≥ 0) = decide (a ∈ p.drop i) := by
  induction d with
  | zero =>
    intro i hd hi
    rw [List.drop_eq_nil_of_le (by omega)]
    refine ⟨-1, Ev.step (f := fun _ => some (-1)) (fun k => ?_) (Ev.now _), by simp⟩
    simp only [slices_Index_int_int.l0]
    rw [if_neg (by omega)]
  | succ d ih =>
    intro i hd hi
    have h : i < p.length := by omega
    have hr : rd p (i : Int) = p[i] := by show p.getD i 0 = _; simp [List.getD_eq_getElem?_getD, List.getElem?_eq_getElem h]
    obtain ⟨r, hn, hv⟩ := ih (i + 1) (by omega) (by omega)
    by_cases e : a = p[i]
    · refine ⟨(i : Int), Ev.step (f := fun _ => some (i : Int)) (fun k => ?_) (Ev.now _), ?_⟩
      · simp only [slices_Index_int_int.l0]
        rw [if_pos (by omega), if_pos (by omega), if_pos (by omega), hr, if_pos e]
      · rw [decide_eq_true (show (i : Int) ≥ 0 by omega), decide_eq_true ((mem_drop_iff p a i h).2 (Or.inl e.symm))]
    · refine ⟨r, Ev.step (f := fun k => slices_Index_int_int.l0 k p a (p.length : Int) ((i + 1 : Nat) : Int)) (fun k => ?_) hn, ?_⟩
      · simp only [slices_Index_int_int.l0]
        rw [if_pos (by omega), if_pos (by omega), if_pos (by omega), hr, if_neg e, wrap_id (x := (i : Int) + 1) (by omega) (by omega)]
        rfl
      · rw [hv]
        exact decide_eq_decide.2 ⟨fun x => (mem_drop_iff p a i h).2 (Or.inr x), fun x => ((mem_drop_iff p a i h).1 x).resolve_left (fun z => e z.symm)⟩
theorem contains_ev (p : List Int) (hp : p.length ≤ 1048576) (a : Int) : Ev (fun k => slices_Contains_int_int.f k p a) (decide (a ∈ p)) := by
  obtain ⟨r, h, hv⟩ := idx_l p hp a p.length 0 rfl (Nat.zero_le _)
  simp only [slices_Contains_int_int.f, slices_Index_int_int.f]
  exact ev_map h (by rw [hv, List.drop_zero])
theorem below_i (t : List S84) (hl : t.length ≤ 1048576) (a b : Int) : Ev (fun k => impl_IsBelow.f k t a b) (belowV t a b) := by
  simp only [impl_IsBelow.f]
  exact Ev.bind (path_i t hl a) (ev_map (contains_ev _ (by have := pathV_len t a; omega) b) rfl)
end
noncomputable def rmFrom (t : List S84) (a : Int) : Nat → Nat → List S84 → List Int → List S84 × List Int × Bool
  | 0, _, kept, ids => (kept, ids, true)
  | d + 1, i, kept, ids => if belowV t (i : Int) a = true then rmFrom t a d (i + 1) kept (ids ++ [-1]) else if (i : Int) > 0 then rmFrom t a d (i + 1) (kept ++ [⟨ids.getD (nd t i).f0.toNat 0, (nd t i).f1, (nd t i).f2⟩]) (ids ++ [(kept.length : Int)]) else rmFrom t a d (i + 1) (kept ++ [⟨(nd t i).f0, (nd t i).f1, (nd t i).f2⟩]) (ids ++ [(kept.length : Int)])
theorem rmFrom_len (t : List S84) (a : Int) (d : Nat) : ∀ (i : Nat) (kept : List S84) (ids : List Int), (rmFrom t a d i kept ids).1.length ≤ kept.length + d ∧ (rmFrom t a d i kept ids).2.1.length ≤ ids.length + d := by
  induction d with
  | zero => intro i kept ids; exact ⟨Nat.le_refl _, Nat.le_refl _⟩
  | succ d ih =>
    intro i kept ids
    simp only [rmFrom]
    split
    · have := ih (i + 1) kept (ids ++ [-1]); simp at this; omega
    · split
      · have := ih (i + 1) (kept ++ [⟨ids.getD (nd t i).f0.toNat 0, (nd t i).f1, (nd t i).f2⟩]) (ids ++ [(kept.length : Int)]); simp at this; simp; omega
      · have := ih (i + 1) (kept ++ [⟨(nd t i).f0, (nd t i).f1, (nd t i).f2⟩]) (ids ++ [(kept.length : Int)]); simp at this; omega
section
open Classical
noncomputable def rmR (t : List S84) (a : Int) : List S84 × List Int × Bool := if treeP t ∧ (1 ≤ a ∧ a ≤ (t.length : Int) - 1) then rmFrom t a t.length 0 [] [] else (t, [], false)
theorem rmR_len (t : List S84) (a : Int) : (rmR t a).1.length ≤ t.length ∧ (rmR t a).2.1.length ≤ t.length := by
  unfold rmR
  split
  · have := rmFrom_len t a t.length 0 [] []; simpa using this
  · exact ⟨Nat.le_refl _, Nat.zero_le _⟩
end
section
open Classical
theorem remove_il (t : List S84) (ht : treeP t) (a : Int) (d : Nat) : ∀ (i : Nat) (kept : List S84) (ids : List Int), t.length - i = d → i ≤ t.length → ids.length = i → kept.length ≤ i → Ev (fun k => impl_RemoveNode.l0 k t a kept ids t (t.length : Int) i) (rmFrom t a d i kept ids) := by
  have hl := ht.1
  induction d with
  | zero =>
    intro i kept ids hd hi h1 h2
    refine Ev.step (f := fun _ => some (kept, ids, true)) (fun k => ?_) (Ev.now _)
    simp only [impl_RemoveNode.l0]
    rw [if_neg (by omega)]
  | succ d ih =>
    intro i kept ids hd hi h1 h2
    have hlt : i < t.length := by omega
    have hp := parU ht i hlt
    refine Ev.step (f := fun k => (impl_IsBelow.f k t (i : Int) a).bind fun b => if b = true then impl_RemoveNode.l0 k t a kept (ids ++ [-1]) t (t.length : Int) ((i + 1 : Nat) : Int) else if (i : Int) > 0 then impl_RemoveNode.l0 k t a (kept ++ [⟨ids.getD (nd t i).f0.toNat 0, (nd t i).f1, (nd t i).f2⟩]) (ids ++ [(kept.length : Int)]) t (t.length : Int) ((i + 1 : Nat) : Int) else impl_RemoveNode.l0 k t a (kept ++ [⟨(nd t i).f0, (nd t i).f1, (nd t i).f2⟩]) (ids ++ [(kept.length : Int)]) t (t.length : Int) ((i + 1 : Nat) : Int)) (fun k => ?_) (Ev.bind (below_i t (by omega) (i : Int) a) ?_)
    · simp only [impl_RemoveNode.l0]
      rw [if_pos (by omega), if_pos (by omega), if_pos (by omega), wrap_id (x := (i : Int) + 1) (by omega) (by omega)]
      refine congrArg _ (funext fun b => ?_)
      cases b
      · rw [if_neg (show ¬ (false = true) from by decide), if_neg (show ¬ (false = true) from by decide), if_pos (by omega)]
        simp only [Option.bind_some]
        by_cases h : (i : Int) > 0
        · have h0 : 0 ≤ (nd t i).f0 := by have := (ht.2.2 i (by omega) hlt).1; omega
          have hg : rd (ids ++ [(kept.length : Int)]) (nd t i).f0 = ids.getD (nd t i).f0.toNat 0 := by
            show (ids ++ [(kept.length : Int)]).getD (nd t i).f0.toNat 0 = _
            rw [List.getD_eq_getElem?_getD, List.getD_eq_getElem?_getD, List.getElem?_append_left (by omega)]
          rw [if_pos h, if_pos h, rd_nd, if_pos h0, if_pos (by simp; omega), if_pos (by omega), hg]
          rfl
        · rw [if_neg h, if_neg h, if_pos (by omega), rd_nd]
          rfl
      · rw [if_pos (show true = true from rfl), if_pos (show true = true from rfl), if_pos (by omega)]
        rfl
    · simp only [rmFrom]
      refine ev_ite (fun _ => ih (i + 1) kept (ids ++ [-1]) (by omega) (by omega) (by simp [h1]) (by omega)) (fun _ => ev_ite (fun _ => ih (i + 1) _ _ (by omega) (by omega) (by simp [h1]) (by simp; omega)) (fun _ => ih (i + 1) _ _ (by omega) (by omega) (by simp [h1]) (by simp; omega)))
theorem clone_n (t : List S84) (hl : t.length ≤ 1048576) : slices_Clone_impl_Node.f t = some t := by
  simp only [slices_Clone_impl_Node.f]
  rw [if_pos (by omega)]
theorem remove_i (t : List S84) (hl : t.length ≤ 1048576) (a : Int) : Ev (fun n => impl_RemoveNode.f n t a) (rmR t a) := by
  have hj : ∀ b : Bool, (b = false → treeP t) → Ev (fun n => impl_RemoveNode.j0 n t a b) (if b = true then (t, [], false) else rmFrom t a t.length 0 [] []) := by
    intro b hb
    refine Ev.step (f := fun n => if b = true then some (t, [], false) else impl_RemoveNode.l0 n t a [] [] t (t.length : Int) ((0 : Nat) : Int)) (fun n => ?_) (ev_ite (fun _ => Ev.now _) (fun h => remove_il t (hb (by simpa using h)) a t.length 0 [] [] rfl (Nat.zero_le _) rfl (Nat.le_refl _)))
    simp only [impl_RemoveNode.j0, clone_n t hl, Option.bind_some]
    rfl
  simp only [impl_RemoveNode.f, in_i, Option.bind_some]
  refine Ev.bind (tree_i t) ?_
  rw [wrap_id (x := (t.length : Int) - 1) (by omega) (by omega)]
  unfold rmR
  by_cases h : treeP t
  · refine ev_pos (by simpa using h) ?_
    by_cases h2 : 1 ≤ a ∧ a ≤ (t.length : Int) - 1
    · rw [if_pos ⟨h, h2⟩, decide_eq_true h2]; exact hj false (fun _ => h)
    · rw [if_neg (fun x => h2 x.2), decide_eq_false h2]; exact hj true (fun x => by cases x)
  · rw [if_neg (fun x => h x.1)]
    exact ev_neg (by simpa using h) (hj true (fun x => by cases x))
end
section
open Classical
def addR (t : List S84) (p d f : Int) : List S84 := t ++ [⟨p, d, f⟩]
noncomputable def addOut (t : List S84) (p d f : Int) : List S84 × Bool := if treeP t ∧ treeP (addR t p d f) then (addR t p d f, true) else (t, false)
end
section
open Classical
theorem add_i (t : List S84) (hl : t.length ≤ 1048576) (p d f : Int) : Ev (fun n => impl_AddNode.f n t p d f) (addOut t p d f) := by
  simp only [impl_AddNode.f, clone_n t hl, Option.bind_some]
  refine ev_pos (by omega) (Ev.bind (tree_i t) ?_)
  by_cases h1 : treeP t
  · refine ev_pos (by simpa using h1) (Ev.bind (tree_i _) ?_)
    by_cases h2 : treeP (addR t p d f)
    · refine ev_pos (by simpa [addR] using h2) (ev_to (Ev.now _) ?_)
      rw [addOut, if_pos ⟨h1, h2⟩]; rfl
    · refine ev_neg (by simpa [addR] using h2) (ev_to (Ev.now _) ?_)
      rw [addOut, if_neg (fun h => h2 h.2)]
  · refine ev_neg (by simpa using h1) (ev_to (Ev.now _) ?_)
    rw [addOut, if_neg (fun h => h1 h.1)]
end
section
open Classical
theorem up_more (t : List S84) (ht : treeP t) (d : Nat) : ∀ i : Int, i < (d : Int) → i < (t.length : Int) → up t (d + 1) i = up t d i := by
  induction d with
  | zero => intro i h _; simp only [up]; rw [if_pos (by omega)]
  | succ d ih =>
    intro i h h2
    have e1 : up t (d + 1 + 1) i = if i < 0 then [] else i :: up t (d + 1) ((nd t i.toNat).f0) := rfl
    have e2 : up t (d + 1) i = if i < 0 then [] else i :: up t d ((nd t i.toNat).f0) := rfl
    rw [e1, e2]
    by_cases hi : i < 0
    · rw [if_pos hi, if_pos hi]
    · have := parU ht i.toNat (by omega)
      rw [if_neg hi, if_neg hi, ih _ (by omega) (by omega)]
theorem up_neg (t : List S84) (d : Nat) (i : Int) (h : i < 0) : up t d i = [] := by
  cases d with
  | zero => rfl
  | succ d => simp only [up]; rw [if_pos h]
theorem up_le (t : List S84) (ht : treeP t) (d : Nat) : ∀ i : Int, i < (t.length : Int) → ∀ x ∈ up t d i, x ≤ i := by
  induction d with
  | zero => intro i _ x hx; cases hx
  | succ d ih =>
    intro i hi x hx
    simp only [up] at hx
    by_cases h : i < 0
    · rw [if_pos h] at hx; cases hx
    · rw [if_neg h] at hx
      have := parU ht i.toNat (by omega)
      rcases List.mem_cons.1 hx with e | e
      · omega
      · have := ih _ (by omega) x e; omega
theorem below_iff (t : List S84) (ht : treeP t) (i : Nat) (hi : i < t.length) (a : Int) : belowV t (i : Int) a = true ↔ a ∈ up t t.length (i : Int) := by
  unfold belowV pathV
  rw [decide_eq_true_iff, if_pos ⟨ht, by omega, by omega⟩, List.mem_reverse]
theorem below_step (t : List S84) (ht : treeP t) (i : Nat) (h1 : 1 ≤ i) (hi : i < t.length) (a : Int) : belowV t (i : Int) a = true ↔ (a = (i : Int) ∨ belowV t (((nd t i).f0.toNat : Nat) : Int) a = true) := by
  have hp := (ht.2.2 i h1 hi).1
  rw [below_iff t ht i hi, below_iff t ht _ (by omega)]
  obtain ⟨m, hm⟩ : ∃ m, t.length = m + 1 := ⟨t.length - 1, by omega⟩
  have e : ((((nd t i).f0.toNat : Nat)) : Int) = (nd t i).f0 := Int.toNat_of_nonneg hp.1
  rw [e]
  have e2 : up t t.length (i : Int) = (i : Int) :: up t m ((nd t i).f0) := by
    rw [hm]
    show (if (i : Int) < 0 then [] else (i : Int) :: up t m ((nd t ((i : Int)).toNat).f0)) = _
    rw [if_neg (by omega)]; rfl
  have e3 : up t t.length (nd t i).f0 = up t m (nd t i).f0 := by
    rw [hm]; exact up_more t ht m _ (by omega) (by omega)
  rw [e2, e3, List.mem_cons]
theorem below_zero (t : List S84) (ht : treeP t) (a : Int) (ha : 1 ≤ a) : belowV t ((0 : Nat) : Int) a = false := by
  rw [Bool.eq_false_iff]
  intro h
  have := up_le t ht _ _ (by have := ht.1; omega) _ ((below_iff t ht 0 (by have := ht.1; omega) a).1 h)
  omega
theorem below_gt (t : List S84) (ht : treeP t) (i : Nat) (hi : i < t.length) (a : Int) (h : (i : Int) < a) : belowV t (i : Int) a = false := by
  rw [Bool.eq_false_iff]
  intro hb
  have := up_le t ht _ _ (by omega) _ ((below_iff t ht i hi a).1 hb)
  omega
theorem below_self (t : List S84) (ht : treeP t) (i : Nat) (hi : i < t.length) : belowV t (i : Int) (i : Int) = true := by
  rw [below_iff t ht i hi]
  obtain ⟨m, hm⟩ : ∃ m, t.length = m + 1 := ⟨t.length - 1, by omega⟩
  rw [hm]
  simp only [up]
  rw [if_neg (by omega)]
  exact List.mem_cons_self
noncomputable def cnt (t : List S84) (a : Int) : Nat → Nat
  | 0 => 0
  | i + 1 => if belowV t (i : Int) a = true then cnt t a i else cnt t a i + 1
theorem cnt_mono (t : List S84) (a : Int) (i d : Nat) : cnt t a i ≤ cnt t a (i + d) := by
  induction d with
  | zero => exact Nat.le_refl _
  | succ d ih =>
    show _ ≤ (if belowV t ((i + d : Nat) : Int) a = true then cnt t a (i + d) else cnt t a (i + d) + 1)
    split <;> omega
theorem cnt_le (t : List S84) (a : Int) (i : Nat) : cnt t a i ≤ i := by
  induction i with
  | zero => exact Nat.le_refl _
  | succ i ih => simp only [cnt]; split <;> omega
theorem cnt_lt (t : List S84) (a : Int) {i j : Nat} (h : i < j) (hb : belowV t (i : Int) a = false) : cnt t a i < cnt t a j := by
  have h1 : cnt t a (i + 1) = cnt t a i + 1 := by simp only [cnt]; rw [if_neg (by rw [hb]; decide)]
  have h2 := cnt_mono t a (i + 1) (j - (i + 1))
  rw [show i + 1 + (j - (i + 1)) = j from by omega] at h2
  omega
theorem cnt_surj (t : List S84) (a : Int) (n : Nat) : ∀ m : Nat, m < cnt t a n → ∃ j : Nat, j < n ∧ belowV t (j : Int) a = false ∧ cnt t a j = m := by
  induction n with
  | zero => intro m h; simp [cnt] at h
  | succ n ih =>
    intro m h
    simp only [cnt] at h
    by_cases hb : belowV t (n : Int) a = true
    · rw [if_pos hb] at h
      obtain ⟨j, h1, h2⟩ := ih m h
      exact ⟨j, by omega, h2⟩
    · rw [if_neg hb] at h
      rcases Nat.lt_or_ge m (cnt t a n) with h1 | h1
      · obtain ⟨j, h1, h2⟩ := ih m h1
        exact ⟨j, by omega, h2⟩
      · exact ⟨n, by omega, by simpa using hb, by omega⟩
noncomputable def idV (t : List S84) (a : Int) (j : Nat) : Int := if belowV t (j : Int) a = true then -1 else (cnt t a j : Int)
noncomputable def mkV (t : List S84) (a : Int) (j : Nat) : S84 := if (j : Int) > 0 then ⟨idV t a (nd t j).f0.toNat, (nd t j).f1, (nd t j).f2⟩ else ⟨(nd t j).f0, (nd t j).f1, (nd t j).f2⟩
theorem nd_app (l : List S84) (x : S84) (m : Nat) : nd (l ++ [x]) m = if m < l.length then nd l m else if m = l.length then x else z84 := by
  unfold nd
  rw [List.getD_eq_getElem?_getD, List.getD_eq_getElem?_getD]
  by_cases h : m < l.length
  · rw [if_pos h, List.getElem?_append_left h]
  · rw [if_neg h, List.getElem?_append_right (by omega)]
    by_cases h2 : m = l.length
    · rw [if_pos h2, h2]; simp
    · rw [if_neg h2, List.getElem?_eq_none (by simp; omega)]; rfl
theorem ids_getD (t : List S84) (a : Int) (n p : Nat) (h : p < n) : ((List.range n).map (idV t a)).getD p 0 = idV t a p := by
  rw [List.getD_eq_getElem?_getD]
  simp [List.getElem?_range h]
theorem rm_inv (t : List S84) (ht : treeP t) (a : Int) (d : Nat) : ∀ (i : Nat) (kept : List S84), i + d = t.length → kept.length = cnt t a i → (∀ j : Nat, j < i → belowV t (j : Int) a = false → nd kept (cnt t a j) = mkV t a j) →
    ∃ u, rmFrom t a d i kept ((List.range i).map (idV t a)) = (u, (List.range t.length).map (idV t a), true) ∧ u.length = cnt t a t.length ∧ ∀ j : Nat, j < t.length → belowV t (j : Int) a = false → nd u (cnt t a j) = mkV t a j := by
  induction d with
  | zero =>
    intro i kept hi h1 h2
    obtain rfl : i = t.length := by omega
    exact ⟨kept, rfl, h1, h2⟩
  | succ d ih =>
    intro i kept hi h1 h2
    simp only [rmFrom]
    have hr : ∀ x : Int, x = idV t a i → (List.range i).map (idV t a) ++ [x] = (List.range (i + 1)).map (idV t a) := fun x hx => by rw [hx, List.range_succ]; simp
    by_cases hb : belowV t (i : Int) a = true
    · rw [if_pos hb, hr (-1) (by rw [idV, if_pos hb])]
      refine ih (i + 1) kept (by omega) (by simp only [cnt]; rw [if_pos hb, h1]) (fun j hj hk => ?_)
      rcases Nat.lt_or_ge j i with h | h
      · exact h2 j h hk
      · obtain rfl : j = i := by omega
        rw [hb] at hk; cases hk
    · rw [if_neg hb, hr ((kept.length : Nat) : Int) (by rw [idV, if_neg hb, h1])]
      have hmk : (if (i : Int) > 0 then rmFrom t a d (i + 1) (kept ++ [⟨((List.range i).map (idV t a)).getD (nd t i).f0.toNat 0, (nd t i).f1, (nd t i).f2⟩]) ((List.range (i + 1)).map (idV t a)) else rmFrom t a d (i + 1) (kept ++ [⟨(nd t i).f0, (nd t i).f1, (nd t i).f2⟩]) ((List.range (i + 1)).map (idV t a))) = rmFrom t a d (i + 1) (kept ++ [mkV t a i]) ((List.range (i + 1)).map (idV t a)) := by
        by_cases h0 : (i : Int) > 0
        · have hp := (ht.2.2 i (by omega) (by omega)).1
          rw [if_pos h0, ids_getD t a i _ (by omega), mkV, if_pos h0]
        · rw [if_neg h0, mkV, if_neg h0]
      rw [hmk]
      have hb' : belowV t (i : Int) a = false := by simpa using hb
      refine ih (i + 1) _ (by omega) (by simp only [cnt]; rw [if_neg hb]; simp [h1]) (fun j hj hk => ?_)
      rw [nd_app]
      rcases Nat.lt_or_ge j i with h | h
      · have := cnt_lt t a h hk
        rw [if_pos (by omega)]
        exact h2 j h hk
      · obtain rfl : j = i := by omega
        rw [if_neg (by omega), if_pos h1.symm]
theorem rm_tree (t : List S84) (ht : treeP t) (a : Int) (ha : 1 ≤ a) (u : List S84) (hu : u.length = cnt t a t.length) (hn : ∀ j : Nat, j < t.length → belowV t (j : Int) a = false → nd u (cnt t a j) = mkV t a j) : treeP u := by
  have hl := ht.1
  have h0 := below_zero t ht a ha
  have hpk : ∀ j : Nat, 1 ≤ j → j < t.length → belowV t (j : Int) a = false → belowV t (((nd t j).f0.toNat : Nat) : Int) a = false := by
    intro j h1 h2 hb
    rw [Bool.eq_false_iff] at hb ⊢
    exact fun h => hb ((below_step t ht j h1 h2 a).2 (.inr h))
  have hc1 : 1 ≤ cnt t a t.length := by have := cnt_lt t a (show 0 < t.length by omega) h0; omega
  have hcl := cnt_le t a t.length
  refine ⟨⟨by omega, by omega⟩, ?_, fun m h1 h2 => ?_⟩
  · have := hn 0 (by omega) h0
    have e : nd u 0 = mkV t a 0 := this
    unfold rootP
    rw [e, mkV, if_neg (by omega)]
    exact ht.2.1
  · obtain ⟨j, hj, hb, hm⟩ := cnt_surj t a t.length m (by omega)
    have hj1 : 1 ≤ j := by
      rcases Nat.eq_zero_or_pos j with e | e
      · subst e; simp [cnt] at hm; omega
      · exact e
    obtain ⟨q1, q2, q3, q4, q5⟩ := ht.2.2 j hj1 hj
    have hpb := hpk j hj1 hj hb
    have hpl : (nd t j).f0.toNat < j := by omega
    have hpc := cnt_lt t a hpl hpb
    have e : nd u m = ⟨(cnt t a (nd t j).f0.toNat : Int), (nd t j).f1, (nd t j).f2⟩ := by
      rw [← hm, hn j hj hb, mkV, if_pos (by omega), idV, if_neg (by rw [hpb]; decide)]
    have e2 : nd u (cnt t a (nd t j).f0.toNat) = mkV t a (nd t j).f0.toNat := hn _ (by omega) hpb
    unfold nodeP
    rw [e]
    simp only [Int.toNat_natCast]
    rw [e2]
    refine ⟨⟨by omega, by omega⟩, ?_, q3, q4, ?_⟩
    · unfold mkV; split <;> exact q2
    · rintro ⟨m', hm', e3, e4⟩
      obtain ⟨j', hj', hb', hmm⟩ := cnt_surj t a t.length m' (by omega)
      have hjj : j' < j := by
        rcases Nat.lt_or_ge j' j with h | h
        · exact h
        · have := cnt_mono t a j (j' - j)
          rw [show j + (j' - j) = j' from by omega] at this
          omega
      rw [← hmm, hn j' hj' hb'] at e3 e4
      unfold mkV at e3 e4
      rcases Nat.eq_zero_or_pos j' with e5 | e5
      · subst e5
        rw [if_neg (by omega)] at e3
        have := ht.2.1.1
        simp only at e3
        omega
      · rw [if_pos (by omega)] at e3 e4
        have hpb' := hpk j' e5 hj' hb'
        rw [idV, if_neg (by rw [hpb']; decide)] at e3
        simp only at e3 e4
        have hpp := (ht.2.2 j' e5 hj').1
        have hpe : (nd t j').f0.toNat = (nd t j).f0.toNat := by
          rcases Nat.lt_trichotomy (nd t j').f0.toNat (nd t j).f0.toNat with h | h | h
          · have := cnt_lt t a h hpb'; omega
          · exact h
          · have := cnt_lt t a h hpb; omega
        exact q5 ⟨j', hjj, by omega, e4⟩
end
theorem drawtree_ok (xs : List Int) (hl : xs.length ≤ 1048576) : ∃ t, Ev (fun k => spec_DrawTree.f k xs) t ∧ treeP t := by
  obtain ⟨s0, h0⟩ := new_ok xs hl
  obtain ⟨t, p1, s1, h1, ht, hp1⟩ := tree_ok xs hl 0 s0 (st0 xs)
  refine ⟨t, ?_, ht⟩
  simp only [spec_DrawTree.f]
  exact Ev.bind h0 (Ev.bind h1 (Ev.now _))
theorem same_self (t : List S84) (hl : t.length ≤ 1048576) (d : Nat) : ∀ i : Nat, i + d = t.length → Ev (fun n => slices_Equal_impl_Node.l0 n t t (t.length : Int) i) true := by
  induction d with
  | zero =>
    intro i hd
    refine Ev.step (f := fun _ => some true) (fun n => ?_) (Ev.now _)
    simp only [slices_Equal_impl_Node.l0]
    rw [if_neg (by omega)]
  | succ d ih =>
    intro i hd
    refine Ev.step (f := fun n => slices_Equal_impl_Node.l0 n t t (t.length : Int) ((i + 1 : Nat) : Int)) (fun n => ?_) (ih (i + 1) (by omega))
    simp only [slices_Equal_impl_Node.l0]
    rw [if_pos (by omega), if_pos (by omega), if_pos (by omega), if_pos (by omega), if_neg (by simp), wrap_id (x := (i : Int) + 1) (by omega) (by omega)]
    rfl
theorem same_ev (t : List S84) (hl : t.length ≤ 1048576) : Ev (fun n => impl_SameTree.f n t t) true := by
  simp only [impl_SameTree.f, slices_Equal_impl_Node.f]
  exact ev_map (ev_pos trivial (same_self t hl t.length 0 (by omega))) rfl
section
open Classical
theorem plug_l (t : List S84) (ht : treeP t) (a : Int) (u : List S84) (hu : u.length = cnt t a t.length) (hn : ∀ j : Nat, j < t.length → belowV t (j : Int) a = false → nd u (cnt t a j) = mkV t a j) (d : Nat) : ∀ i : Nat, i + d = t.length →
    Ev (fun k => laws_FnPlugs.l0 k t a u ((List.range t.length).map (idV t a)) (cnt t a i : Int) (i : Int)) true := by
  have hl := ht.1
  induction d with
  | zero =>
    intro i hi
    obtain rfl : i = t.length := by omega
    refine Ev.step (f := fun _ => some true) (fun k => ?_) (Ev.now _)
    simp only [laws_FnPlugs.l0]
    rw [if_neg (by omega), hu]
    simp
  | succ d ih =>
    intro i hi
    have hi2 : i < t.length := by omega
    have hlen : ((List.range t.length).map (idV t a)).length = t.length := by simp
    have hg : rd ((List.range t.length).map (idV t a)) (i : Int) = idV t a i := ids_getD t a t.length i hi2
    have hnext := ih (i + 1) (by omega)
    have hw : wrap64 ((i : Int) + 1) = ((i + 1 : Nat) : Int) := by rw [wrap_id (by omega) (by omega)]; rfl
    refine Ev.step (fun k => by simp only [laws_FnPlugs.l0]; rw [if_pos (show (i : Int) < (t.length : Int) by omega), if_pos (show (0 : Int) ≤ (i : Int) by omega), if_pos (by rw [hlen]; omega), hg, hw]) ?_
    refine Ev.bind (below_i t (by omega) (i : Int) a) ?_
    by_cases hb : belowV t (i : Int) a = true
    · have e : idV t a i = -1 := by rw [idV, if_pos hb]
      have ec : cnt t a (i + 1) = cnt t a i := by simp only [cnt]; rw [if_pos hb]
      rw [ec] at hnext
      rw [e, hb]
      exact ev_neg (by decide) (ev_neg (by decide) hnext)
    · have hb' : belowV t (i : Int) a = false := by simpa using hb
      have e : idV t a i = (cnt t a i : Int) := by rw [idV, if_neg hb]
      have ec : cnt t a (i + 1) = cnt t a i + 1 := by simp only [cnt]; rw [if_neg hb]
      rw [ec] at hnext
      have hlt := cnt_lt t a hi2 hb'
      have hcl := cnt_le t a t.length
      have hN : rd_T84 u (cnt t a i : Int) = mkV t a i := hn i hi2 hb'
      have hf1 : (mkV t a i).f1 = (rd_T84 t (i : Int)).f1 := by unfold mkV; split <;> rfl
      have hf2 : (mkV t a i).f2 = (rd_T84 t (i : Int)).f2 := by unfold mkV; split <;> rfl
      have hj : Ev (fun k => laws_FnPlugs.j4 k t a u ((List.range t.length).map (idV t a)) (cnt t a i : Int) (i : Int) false) true := by
        refine Ev.step (f := fun k => laws_FnPlugs.l0 k t a u ((List.range t.length).map (idV t a)) ((cnt t a i + 1 : Nat) : Int) ((i + 1 : Nat) : Int)) (fun k => ?_) hnext
        simp only [laws_FnPlugs.j4]
        rw [if_neg (by decide), hw, wrap_id (x := (cnt t a i : Int) + 1) (by omega) (by omega)]
        rfl
      rw [e, hb']
      refine ev_neg (by simp) (ev_pos (by omega) (ev_pos rfl (ev_neg (by omega) (ev_pos (by omega) (ev_pos (by omega) (ev_pos (by rw [hN]; exact hf1) ?_))))))
      rw [hN, hf2, show ((rd_T84 t (i : Int)).f2 != (rd_T84 t (i : Int)).f2) = false from by simp]
      exact hj
theorem tree_yes (u : List S84) (h : treeP u) : Ev (fun n => impl_TreeOk.f n u) true := by
  have := tree_i u
  rwa [decide_eq_true h] at this
theorem rm_ev (t : List S84) (ht : treeP t) (a : Int) (h1 : 1 ≤ a) (h2 : a ≤ (t.length : Int) - 1) : ∃ u, Ev (fun n => impl_RemoveNode.f n t a) (u, (List.range t.length).map (idV t a), true) ∧ u.length = cnt t a t.length ∧ ∀ j : Nat, j < t.length → belowV t (j : Int) a = false → nd u (cnt t a j) = mkV t a j := by
  have hl := ht.1
  obtain ⟨u, e, r⟩ := rm_inv t ht a t.length 0 [] (by omega) rfl (fun j hj => by omega)
  refine ⟨u, ?_, r⟩
  have := remove_i t (by omega) a
  rw [rmR, if_pos ⟨ht, h1, h2⟩] at this
  exact ev_to this e
theorem rm_last (t : List S84) (p d f : Int) (hu : treeP (addR t p d f)) (h0 : 1 ≤ t.length) (v : List S84) (hv : v.length = cnt (addR t p d f) (t.length : Int) (addR t p d f).length) (hn : ∀ j : Nat, j < (addR t p d f).length → belowV (addR t p d f) (j : Int) (t.length : Int) = false → nd v (cnt (addR t p d f) (t.length : Int) j) = mkV (addR t p d f) (t.length : Int) j) : v = t := by
  have hul : (addR t p d f).length = t.length + 1 := by simp [addR]
  have hnd : ∀ j : Nat, j < t.length → nd (addR t p d f) j = nd t j := by
    intro j hj
    rw [addR, nd_app, if_pos hj]
  generalize hU : addR t p d f = U at *
  have hb : ∀ j : Nat, j < t.length → belowV U (j : Int) (t.length : Int) = false := fun j hj => below_gt U hu j (by omega) _ (by omega)
  have hc : ∀ j : Nat, j ≤ t.length → cnt U (t.length : Int) j = j := by
    intro j
    induction j with
    | zero => intro _; rfl
    | succ j ih =>
      intro hj
      simp only [cnt]
      rw [if_neg (by rw [hb j (by omega)]; decide), ih (by omega)]
  have hvl : v.length = t.length := by
    rw [hv, hul]
    simp only [cnt]
    rw [if_pos (below_self U hu t.length (by omega)), hc _ (Nat.le_refl _)]
  apply List.ext_getElem hvl
  intro j hj1 hj2
  have e := hn j (by omega) (hb j hj2)
  rw [hc j (by omega)] at e
  have e1 : v[j] = nd v j := by simp [nd, List.getD_eq_getElem?_getD, List.getElem?_eq_getElem hj1]
  have e2 : t[j] = nd t j := by simp [nd, List.getD_eq_getElem?_getD, List.getElem?_eq_getElem hj2]
  rw [e1, e2, e, ← hnd j hj2]
  unfold mkV
  by_cases h : (j : Int) > 0
  · have hp := (hu.2.2 j (by omega) (by omega)).1
    rw [if_pos h, idV, if_neg (by rw [hb _ (by omega)]; decide), hc _ (by omega), Int.toNat_of_nonneg hp.1]
  · rw [if_neg h]
end
theorem FnPlugs : ∀ (x0 : List (Int)), (x0.length * 1 ≤ 140737488351232 ∧ x0.length ≤ maxLen ∧ ∀ y ∈ x0, (Lit.int .u8 y).wf = true) → ∃ k, laws_FnPlugs.f k x0 = some true := by
  intro l _
  refine Ev.rounds (g := fun n => laws_FnPlugs.f n l) ?_
  simp only [laws_FnPlugs.f, laws_big.f, Option.bind_some]
  by_cases hbig : (l.length : Int) > 1048576
  · exact ev_pos (decide_eq_true hbig) (Ev.now _)
  refine ev_neg (by simpa using hbig) ?_
  obtain ⟨t, hD, ht⟩ := drawtree_ok l (by omega)
  obtain ⟨pl, hP, hpl, hpv⟩ := places_ok l (by omega)
  have htl := ht.1
  have hp2 : 0 ≤ rd pl 2 := by
    have h1 : rd pl 2 ∈ pl := by
      show pl.getD 2 0 ∈ pl
      rw [List.getD_eq_getElem?_getD, List.getElem?_eq_getElem (show 2 < pl.length by omega)]
      exact List.getElem_mem _
    exact (hpv _ h1).1
  have hJ1 : Ev (fun k => laws_FnPlugs.j1 k t pl) true := by
    by_cases h2 : (t.length : Int) < 2
    · refine Ev.step (f := fun _ => some true) (fun k => ?_) (Ev.now _)
      simp only [laws_FnPlugs.j1]
      rw [if_pos h2]
    · refine Ev.step (fun k => by simp only [laws_FnPlugs.j1]; rw [if_neg h2, if_pos (show (2 : Int) < (pl.length : Int) by omega), wrap_id (x := (t.length : Int) - 1) (by omega) (by omega), if_neg (show ¬ (t.length : Int) - 1 = 0 by omega)]) ?_
      have a1 := Int.tmod_nonneg ((t.length : Int) - 1) hp2
      have a2 := Int.tmod_lt_of_pos (rd pl 2) (show (0 : Int) < (t.length : Int) - 1 by omega)
      generalize Int.tmod (rd pl 2) ((t.length : Int) - 1) = q at a1 a2 ⊢
      rw [wrap_id (x := 1 + q) (by omega) (by omega)]
      obtain ⟨u, hr, hu, hn⟩ := rm_ev t ht (1 + q) (by omega) (by omega)
      have htu := rm_tree t ht (1 + q) (by omega) u hu hn
      refine Ev.bind hr (ev_pos rfl (Ev.bind (tree_yes u htu) (ev_pos rfl ?_)))
      have hL := plug_l t ht (1 + q) u hu hn t.length 0 (by omega)
      refine Ev.step (f := fun k => laws_FnPlugs.l0 k t (1 + q) u ((List.range t.length).map (idV t (1 + q))) ((cnt t (1 + q) 0 : Nat) : Int) ((0 : Nat) : Int)) (fun k => ?_) hL
      simp only [laws_FnPlugs.j2]
      rw [if_neg (by simp)]
      rfl
  refine Ev.bind hD (Ev.bind hP (ev_pos (by omega) (ev_neg (by omega) (ev_pos (by omega) ?_))))
  generalize Int.tmod (rd pl 0) (t.length : Int) = p0
  generalize Int.tmod (rd pl 1) 4 = p1
  refine Ev.bind (add_i t (by omega) p0 p1 1) ?_
  unfold addOut
  by_cases hu : treeP t ∧ treeP (addR t p0 p1 1)
  · rw [if_pos hu]
    have hul : (addR t p0 p1 1).length = t.length + 1 := by simp [addR]
    obtain ⟨v, hr, hv, hn⟩ := rm_ev (addR t p0 p1 1) hu.2 (t.length : Int) (by omega) (by omega)
    obtain rfl := rm_last t p0 p1 1 hu.2 (by omega) v hv hn
    refine ev_pos rfl (Ev.bind hr (ev_pos rfl (Ev.bind (same_ev v (by omega)) (ev_pos rfl ?_))))
    refine Ev.step (f := fun k => laws_FnPlugs.j1 k v pl) (fun k => ?_) hJ1
    simp only [laws_FnPlugs.j0]
    rw [if_neg (by simp)]
  · rw [if_neg hu]
    exact ev_neg (by simp) hJ1

end Go.Proofs.Yteeklekfafedcaa.Pure

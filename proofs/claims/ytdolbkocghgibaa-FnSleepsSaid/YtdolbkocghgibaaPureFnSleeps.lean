/- The law FnSleeps over numbers and lists. No condition beyond the bounds of what a Go value may be. -/
import Derived.Test.YtdolbkocghgibaaEvl
import Derived.Test.YtdolbkocghgibaaHof
import Derived.Test.YtdolbkocghgibaaPFnSleepsx8
namespace Go.Proofs.Ytdolbkocghgibaa.Pure
open Go.RowKit Go.Proofs.Ytdolbkocghgibaa.PFnSleeps Go.Proofs.YtdolbkocghgibaaW.PrintWords Go.Proofs.YtdolbkocghgibaaW.PrintLast Go.Proofs.YtdolbkocghgibaaW.PrintMore Go.Proofs.Ytdolbkocghgibaa.Evl
set_option linter.unusedVariables false
set_option linter.unusedSimpArgs false


theorem in_s (a b c : Int) : spec_l01In.f a b c = some (decide (b ≤ a ∧ a ≤ c)) := by
  unfold spec_l01In.f
  by_cases h : a ≥ b
  · rw [if_pos h]; simp [h]
  · rw [if_neg h]; simp [h]
theorem in_i (a b c : Int) : impl_within.f a b c = some (decide (b ≤ a ∧ a ≤ c)) := by
  unfold impl_within.f
  by_cases h : a ≥ b
  · rw [if_pos h]; simp [h]
  · rw [if_neg h]; simp [h]
theorem some_beq (b : Bool) : ((some b : Option Bool) == some true) = b := by cases b <;> rfl
theorem anyO_tot {α : Type} (p : α → Bool) (l : List α) : anyO (fun x => some (p x)) l = some (l.any p) := by
  unfold anyO
  rw [if_pos (by simp)]
  simp only [some_beq]
theorem idxO_tot {α : Type} (p : α → Bool) (l : List α) : idxO (fun x => some (p x)) l = some (optAt (l.findIdx? p)) := by
  unfold idxO
  rw [if_pos (by simp)]
  simp only [some_beq]
/-- What it is to be a valid node number k, and a valid tree. -/
def nd (t : List S77) (k : Nat) : S77 := t.getD k z77
def nodeP (t : List S77) (k : Nat) : Prop := (0 ≤ (nd t k).f0 ∧ (nd t k).f0 ≤ (k : Int) - 1) ∧ (nd t (nd t k).f0.toNat).f2 = 0 ∧ (0 ≤ (nd t k).f1 ∧ (nd t k).f1 ≤ 3) ∧ (0 ≤ (nd t k).f2 ∧ (nd t k).f2 ≤ 4) ∧ ¬ ∃ j : Nat, j < k ∧ (nd t j).f0 = (nd t k).f0 ∧ (nd t j).f1 = (nd t k).f1
def rootP (t : List S77) : Prop := (nd t 0).f0 = -1 ∧ (nd t 0).f1 = 0 ∧ (nd t 0).f2 = 0
def treeP (t : List S77) : Prop := (1 ≤ t.length ∧ t.length ≤ 12) ∧ rootP t ∧ ∀ k : Nat, 1 ≤ k → k < t.length → nodeP t k
theorem rd_nd (t : List S77) (k : Nat) : rd_T77 t (k : Int) = nd t k := rfl
theorem rd_nd' (t : List S77) (i : Int) : rd_T77 t i = nd t i.toNat := rfl
open Classical in
theorem from_k (t : List S77) (k : Nat) (hk : k < t.length) : (∀ j : Nat, k ≤ j → j < t.length → nodeP t j) ↔ nodeP t k ∧ ∀ j : Nat, k + 1 ≤ j → j < t.length → nodeP t j :=
  ⟨fun h => ⟨h k (Nat.le_refl _) hk, fun j h1 h2 => h j (by omega) h2⟩, fun ⟨h0, h⟩ j h1 h2 => by
    rcases Nat.eq_or_lt_of_le h1 with e | e
    · exact e ▸ h0
    · exact h j e h2⟩
theorem root_b (t : List S77) : (!(((rd_T77 t 0).f0) == (-1)) || (!(((rd_T77 t 0).f1) == 0) || (!(((rd_T77 t 0).f2) == 0)))) = true ↔ ¬ rootP t := by
  unfold rootP
  show (!((nd t 0).f0 == (-1)) || (!((nd t 0).f1 == 0) || (!((nd t 0).f2 == 0)))) = true ↔ _
  by_cases h1 : (nd t 0).f0 = -1 <;> by_cases h2 : (nd t 0).f1 = 0 <;> by_cases h3 : (nd t 0).f2 = 0 <;> simp [h1, h2, h3]
section
open Classical
theorem tree_s1 (t : List S77) (hl : t.length ≤ 12) (k : Nat) (hk : k < t.length) (p d f : Int) (r : Bool) (hr : Ev (fun n => spec_TreeOk.l0 n t ((k + 1 : Nat) : Int)) r) (m : Nat) : ∀ i : Nat, k - i = m → i ≤ k → Ev (fun n => spec_TreeOk.l1 n t k i p d f) (if ∃ j : Nat, i ≤ j ∧ j < k ∧ (nd t j).f0 = p ∧ (nd t j).f1 = d then false else r) := by
  induction m with
  | zero =>
    intro i hm hi
    have e : i = k := by omega
    subst e
    rw [if_neg (by rintro ⟨j, h1, h2, _⟩; omega)]
    refine Ev.step (f := fun n => spec_TreeOk.l0 n t ((i + 1 : Nat) : Int)) (fun n => ?_) hr
    simp only [spec_TreeOk.l1]
    rw [if_neg (by omega), wrap_id (x := (i : Int) + 1) (by omega) (by omega)]
    rfl
  | succ m ih =>
    intro i hm hi
    have hn := ih (i + 1) (by omega) (by omega)
    refine Ev.step (f := fun n => if (nd t i).f0 = p then (if (nd t i).f1 = d then some false else spec_TreeOk.l1 n t k ((i + 1 : Nat) : Int) p d f) else spec_TreeOk.l1 n t k ((i + 1 : Nat) : Int) p d f) (fun n => ?_) ?_
    · simp only [spec_TreeOk.l1]
      rw [if_pos (by omega), if_pos (by omega), if_pos (by omega), rd_nd, wrap_id (x := (i : Int) + 1) (by omega) (by omega)]
      rfl
    · by_cases h1 : (nd t i).f0 = p
      · refine ev_pos h1 ?_
        by_cases h2 : (nd t i).f1 = d
        · refine ev_pos h2 ?_
          rw [if_pos ⟨i, Nat.le_refl _, by omega, h1, h2⟩]
          exact Ev.now _
        · refine ev_neg h2 (ev_to hn (ite_iff ⟨fun ⟨j, a, b⟩ => ⟨j, by omega, b⟩, fun ⟨j, a, b⟩ => ⟨j, ?_, b⟩⟩ _ _))
          rcases Nat.eq_or_lt_of_le a with e | e
          · subst e; exact absurd b.2.2 h2
          · exact e
      · refine ev_neg h1 (ev_to hn (ite_iff ⟨fun ⟨j, a, b⟩ => ⟨j, by omega, b⟩, fun ⟨j, a, b⟩ => ⟨j, ?_, b⟩⟩ _ _))
        rcases Nat.eq_or_lt_of_le a with e | e
        · subst e; exact absurd b.2.1 h1
        · exact e
theorem tree_s0 (t : List S77) (hl : t.length ≤ 12) (hroot : rootP t) (m : Nat) : ∀ k : Nat, t.length - k = m → 1 ≤ k → k ≤ t.length → Ev (fun n => spec_TreeOk.l0 n t (k : Int)) (decide (∀ j : Nat, k ≤ j → j < t.length → nodeP t j)) := by
  induction m with
  | zero =>
    intro k hm h1 hk
    rw [decide_eq_true (by intro j h2 h3; omega)]
    refine Ev.step (f := fun _ => some true) (fun n => ?_) (Ev.now _)
    simp only [spec_TreeOk.l0]
    rw [if_neg (by omega)]
  | succ m ih =>
    intro k hm h1 hk
    have hlt : k < t.length := by omega
    have hn := ih (k + 1) (by omega) (by omega) (by omega)
    have hi := tree_s1 t hl k hlt (nd t k).f0 (nd t k).f1 (nd t k).f2 _ hn (k - 1) 1 rfl (by omega)
    have hj : ∀ b : Bool, Ev (fun n => spec_TreeOk.j2 n t k b (nd t k).f0 (nd t k).f1 (nd t k).f2) (if b = true then false else (if ∃ j : Nat, 1 ≤ j ∧ j < k ∧ (nd t j).f0 = (nd t k).f0 ∧ (nd t j).f1 = (nd t k).f1 then false else decide (∀ j : Nat, k + 1 ≤ j → j < t.length → nodeP t j))) := by
      intro b
      refine Ev.step (f := fun n => if b = true then some false else spec_TreeOk.l1 n t k 1 (nd t k).f0 (nd t k).f1 (nd t k).f2) (fun n => ?_) (ev_ite (fun _ => Ev.now _) (fun _ => hi))
      simp only [spec_TreeOk.j2]
    have hb := hj true
    rw [if_pos rfl] at hb
    refine Ev.step (f := fun n => if (0 ≤ (nd t k).f0 ∧ (nd t k).f0 ≤ (k : Int) - 1) then (if (nd t (nd t k).f0.toNat).f2 = 0 then (if (0 ≤ (nd t k).f1 ∧ (nd t k).f1 ≤ 3) then spec_TreeOk.j2 n t k (!decide (0 ≤ (nd t k).f2 ∧ (nd t k).f2 ≤ 4)) (nd t k).f0 (nd t k).f1 (nd t k).f2 else spec_TreeOk.j2 n t k true (nd t k).f0 (nd t k).f1 (nd t k).f2) else spec_TreeOk.j2 n t k true (nd t k).f0 (nd t k).f1 (nd t k).f2) else spec_TreeOk.j2 n t k true (nd t k).f0 (nd t k).f1 (nd t k).f2) (fun n => ?_) ?_
    · simp only [spec_TreeOk.l0]
      rw [if_pos (by omega), if_pos (by omega), rd_nd, wrap_id (x := (k : Int) - 1) (by omega) (by omega)]
      simp only [in_s, Option.bind_some, decide_eq_true_eq]
      by_cases h3 : 0 ≤ (nd t k).f0 ∧ (nd t k).f0 ≤ (k : Int) - 1
      · rw [if_pos h3, if_pos h3, if_pos h3.1, if_pos (by omega), rd_nd']
      · rw [if_neg h3, if_neg h3]
    · rw [show decide (∀ j : Nat, k ≤ j → j < t.length → nodeP t j) = (decide (nodeP t k) && decide (∀ j : Nat, k + 1 ≤ j → j < t.length → nodeP t j)) from by rw [decide_eq_decide.2 (from_k t k hlt)]; exact Bool.decide_and _ _]
      by_cases h3 : 0 ≤ (nd t k).f0 ∧ (nd t k).f0 ≤ (k : Int) - 1
      · refine ev_pos h3 ?_
        by_cases h4 : (nd t (nd t k).f0.toNat).f2 = 0
        · refine ev_pos h4 ?_
          by_cases h5 : 0 ≤ (nd t k).f1 ∧ (nd t k).f1 ≤ 3
          · refine ev_pos h5 (ev_to (hj _) ?_)
            by_cases h6 : 0 ≤ (nd t k).f2 ∧ (nd t k).f2 ≤ 4
            · rw [if_neg (by simp [h6])]
              by_cases h7 : ∃ j : Nat, 1 ≤ j ∧ j < k ∧ (nd t j).f0 = (nd t k).f0 ∧ (nd t j).f1 = (nd t k).f1
              · rw [if_pos h7, decide_eq_false (fun h => h.2.2.2.2 (by obtain ⟨j, _, a⟩ := h7; exact ⟨j, a⟩))]; rfl
              · rw [if_neg h7, decide_eq_true (p := nodeP t k) ⟨h3, h4, h5, h6, ?_⟩]
                · rfl
                · rintro ⟨j, h8, h9, h10⟩
                  rcases Nat.eq_zero_or_pos j with e | e
                  · subst e; have := hroot.1; omega
                  · exact h7 ⟨j, e, h8, h9, h10⟩
            · rw [if_pos (by simp only [h6, decide_false, Bool.not_false]), decide_eq_false (fun h => h6 h.2.2.2.1)]; rfl
          · refine ev_neg h5 (ev_to hb ?_)
            rw [decide_eq_false (p := nodeP t k) (fun h => h5 h.2.2.1)]; rfl
        · refine ev_neg h4 (ev_to hb ?_)
          rw [decide_eq_false (p := nodeP t k) (fun h => h4 h.2.1)]; rfl
      · refine ev_neg h3 (ev_to hb ?_)
        rw [decide_eq_false (p := nodeP t k) (fun h => h3 h.1)]; rfl
theorem tree_s (t : List S77) : Ev (fun n => spec_TreeOk.f n t) (decide (treeP t)) := by
  have hb : Ev (fun n => spec_TreeOk.j0 n t true) false := by
    refine Ev.step (f := fun _ => some false) (fun n => ?_) (Ev.now _)
    simp [spec_TreeOk.j0]
  simp only [spec_TreeOk.f, in_s, Option.bind_some, decide_eq_true_eq]
  by_cases h1 : (1 : Int) ≤ t.length ∧ (t.length : Int) ≤ 12
  · refine ev_pos h1 (ev_pos (by omega) ?_)
    by_cases h2 : rootP t
    · have e : (!(((rd_T77 t 0).f0) == (-1)) || (!(((rd_T77 t 0).f1) == 0) || (!(((rd_T77 t 0).f2) == 0)))) = false := Bool.eq_false_iff.2 (fun h => (root_b t).1 h h2)
      rw [e]
      refine Ev.step (f := fun n => spec_TreeOk.l0 n t ((1 : Nat) : Int)) (fun n => by simp [spec_TreeOk.j0]) (ev_to (tree_s0 t (by omega) h2 (t.length - 1) 1 rfl (by omega) (by omega)) ?_)
      exact decide_eq_decide.2 ⟨fun h => ⟨by omega, h2, h⟩, fun h => h.2.2⟩
    · rw [(root_b t).2 h2]
      refine ev_to hb ?_
      rw [decide_eq_false (fun h => h2 h.2.1)]
  · refine ev_neg h1 (ev_to hb ?_)
    rw [decide_eq_false (fun h => h1 (by have := h.1; omega))]
end
section
open Classical
theorem any_dup (t : List S77) (k : Nat) (hk : k ≤ t.length) (p d f : Int) : slices_ContainsFunc__impl_TreeOk_1.f (t.take k) p d f = some (decide (∃ j : Nat, j < k ∧ (nd t j).f0 = p ∧ (nd t j).f1 = d)) := by
  simp only [slices_ContainsFunc__impl_TreeOk_1.f, impl_TreeOk_1.f]
  rw [anyO_tot]
  congr 1
  rw [Bool.eq_iff_iff, List.any_eq_true, decide_eq_true_iff]
  constructor
  · rintro ⟨x, hx, hp⟩
    obtain ⟨j, hj, rfl⟩ := List.getElem_of_mem hx
    rw [List.length_take] at hj
    refine ⟨j, by omega, ?_⟩
    simp only [nd, List.getD_eq_getElem?_getD, List.getElem?_eq_getElem (show j < t.length by omega), Option.getD_some]
    simpa using hp
  · rintro ⟨j, hj, hp⟩
    refine ⟨(t.take k)[j]'(by rw [List.length_take]; omega), List.getElem_mem _, ?_⟩
    simp only [nd, List.getD_eq_getElem?_getD, List.getElem?_eq_getElem (show j < t.length by omega), Option.getD_some] at hp
    simpa using hp
theorem nd_drop (t : List S77) (i : Nat) : nd (t.drop 1) i = nd t (i + 1) := by
  simp only [nd, List.getD_eq_getElem?_getD, List.getElem?_drop]
  rw [Nat.add_comm]
theorem nd_take (t : List S77) (i j : Nat) (h : j < i) : nd (t.take i) j = nd t j := by
  simp only [nd, List.getD_eq_getElem?_getD]
  rw [List.getElem?_take_of_lt h]
theorem tree_i0 (t : List S77) (hl : t.length ≤ 12) (m : Nat) : ∀ i : Nat, t.length - 1 - i = m → i + 1 ≤ t.length → Ev (fun n => impl_TreeOk.l0 n t (t.drop 1) ((t.drop 1).length : Int) (i : Int)) (decide (∀ j : Nat, i + 1 ≤ j → j < t.length → nodeP t j)) := by
  have hlen : (t.drop 1).length = t.length - 1 := by simp
  induction m with
  | zero =>
    intro i hm hk
    rw [decide_eq_true (by intro j h2 h3; omega)]
    refine Ev.step (f := fun _ => some true) (fun n => ?_) (Ev.now _)
    simp only [impl_TreeOk.l0]
    rw [if_neg (by omega)]
  | succ m ih =>
    intro i hm hk
    have hlt : i + 1 < t.length := by omega
    have hn := ih (i + 1) (by omega) (by omega)
    have hi : ∀ b : Bool, Ev (fun n => impl_TreeOk.j2 n t (t.take (i + 1)) (t.drop 1) ((t.drop 1).length : Int) i b (nd t (i + 1)).f0 (nd t (i + 1)).f1 (nd t (i + 1)).f2) (if b = true then false else (if ∃ j : Nat, j < i + 1 ∧ (nd t j).f0 = (nd t (i + 1)).f0 ∧ (nd t j).f1 = (nd t (i + 1)).f1 then false else decide (∀ j : Nat, i + 1 + 1 ≤ j → j < t.length → nodeP t j))) := by
      intro b
      refine Ev.step (f := fun n => if b = true then some false else (if ∃ j : Nat, j < i + 1 ∧ (nd t j).f0 = (nd t (i + 1)).f0 ∧ (nd t j).f1 = (nd t (i + 1)).f1 then some false else impl_TreeOk.l0 n t (t.drop 1) ((t.drop 1).length : Int) ((i + 1 : Nat) : Int))) (fun n => ?_) (ev_ite (fun _ => Ev.now _) (fun _ => ev_ite (fun _ => Ev.now _) (fun _ => hn)))
      simp only [impl_TreeOk.j2]
      rw [any_dup t (i + 1) (by omega), wrap_id (x := (i : Int) + 1) (by omega) (by omega)]
      simp only [Option.bind_some, decide_eq_true_eq]
      rfl
    have hb := hi true
    rw [if_pos rfl] at hb
    refine Ev.step (f := fun n => if (0 ≤ (nd t (i + 1)).f0 ∧ (nd t (i + 1)).f0 ≤ (i : Int)) then (if (nd t (nd t (i + 1)).f0.toNat).f2 = 0 then (if (0 ≤ (nd t (i + 1)).f1 ∧ (nd t (i + 1)).f1 ≤ 3) then impl_TreeOk.j2 n t (t.take (i + 1)) (t.drop 1) ((t.drop 1).length : Int) i (!decide (0 ≤ (nd t (i + 1)).f2 ∧ (nd t (i + 1)).f2 ≤ 4)) (nd t (i + 1)).f0 (nd t (i + 1)).f1 (nd t (i + 1)).f2 else impl_TreeOk.j2 n t (t.take (i + 1)) (t.drop 1) ((t.drop 1).length : Int) i true (nd t (i + 1)).f0 (nd t (i + 1)).f1 (nd t (i + 1)).f2) else impl_TreeOk.j2 n t (t.take (i + 1)) (t.drop 1) ((t.drop 1).length : Int) i true (nd t (i + 1)).f0 (nd t (i + 1)).f1 (nd t (i + 1)).f2) else impl_TreeOk.j2 n t (t.take (i + 1)) (t.drop 1) ((t.drop 1).length : Int) i true (nd t (i + 1)).f0 (nd t (i + 1)).f1 (nd t (i + 1)).f2) (fun n => ?_) ?_
    · simp only [impl_TreeOk.l0]
      rw [if_pos (by omega), if_pos (by omega), if_pos (by omega), wrap_id (x := (i : Int) + 1) (by omega) (by omega), if_pos (by omega), if_pos (by omega), rd_nd, nd_drop, show ((i : Int) + 1).toNat = i + 1 from by omega]
      simp only [in_i, Option.bind_some, decide_eq_true_eq]
      by_cases h3 : 0 ≤ (nd t (i + 1)).f0 ∧ (nd t (i + 1)).f0 ≤ (i : Int)
      · rw [if_pos h3, if_pos h3, if_pos h3.1, if_pos (by rw [List.length_take]; omega), rd_nd', nd_take t (i + 1) _ (by omega)]
      · rw [if_neg h3, if_neg h3]
    · rw [show decide (∀ j : Nat, i + 1 ≤ j → j < t.length → nodeP t j) = (decide (nodeP t (i + 1)) && decide (∀ j : Nat, i + 1 + 1 ≤ j → j < t.length → nodeP t j)) from by rw [decide_eq_decide.2 (from_k t (i + 1) hlt)]; exact Bool.decide_and _ _]
      by_cases h3 : 0 ≤ (nd t (i + 1)).f0 ∧ (nd t (i + 1)).f0 ≤ (i : Int)
      · refine ev_pos h3 ?_
        by_cases h4 : (nd t (nd t (i + 1)).f0.toNat).f2 = 0
        · refine ev_pos h4 ?_
          by_cases h5 : 0 ≤ (nd t (i + 1)).f1 ∧ (nd t (i + 1)).f1 ≤ 3
          · refine ev_pos h5 (ev_to (hi _) ?_)
            by_cases h6 : 0 ≤ (nd t (i + 1)).f2 ∧ (nd t (i + 1)).f2 ≤ 4
            · rw [if_neg (by simp [h6])]
              by_cases h7 : ∃ j : Nat, j < i + 1 ∧ (nd t j).f0 = (nd t (i + 1)).f0 ∧ (nd t j).f1 = (nd t (i + 1)).f1
              · rw [if_pos h7, decide_eq_false (fun h => h.2.2.2.2 h7)]; rfl
              · rw [if_neg h7, decide_eq_true (p := nodeP t (i + 1)) ⟨⟨h3.1, by omega⟩, h4, h5, h6, h7⟩]; rfl
            · rw [if_pos (by simp only [h6, decide_false, Bool.not_false]), decide_eq_false (fun h => h6 h.2.2.2.1)]; rfl
          · refine ev_neg h5 (ev_to hb ?_)
            rw [decide_eq_false (p := nodeP t (i + 1)) (fun h => h5 h.2.2.1)]; rfl
        · refine ev_neg h4 (ev_to hb ?_)
          rw [decide_eq_false (p := nodeP t (i + 1)) (fun h => h4 h.2.1)]; rfl
      · refine ev_neg h3 (ev_to hb ?_)
        rw [decide_eq_false (p := nodeP t (i + 1)) (fun h => h3 ⟨h.1.1, by have := h.1.2; omega⟩)]; rfl
theorem tree_i (t : List S77) : Ev (fun n => impl_TreeOk.f n t) (decide (treeP t)) := by
  have hb : Ev (fun n => impl_TreeOk.j0 n t true) false := by
    refine Ev.step (f := fun _ => some false) (fun n => ?_) (Ev.now _)
    simp [impl_TreeOk.j0]
  simp only [impl_TreeOk.f, in_i, Option.bind_some, decide_eq_true_eq]
  by_cases h1 : (1 : Int) ≤ t.length ∧ (t.length : Int) ≤ 12
  · refine ev_pos h1 (ev_pos (by omega) ?_)
    by_cases h2 : rootP t
    · have e : (!(((rd_T77 t 0).f0) == (-1)) || (!(((rd_T77 t 0).f1) == 0) || (!(((rd_T77 t 0).f2) == 0)))) = false := Bool.eq_false_iff.2 (fun h => (root_b t).1 h h2)
      rw [e]
      refine Ev.step (f := fun n => impl_TreeOk.l0 n t (t.drop 1) ((t.drop 1).length : Int) ((0 : Nat) : Int)) (fun n => ?_) (ev_to (tree_i0 t (by omega) (t.length - 1) 0 rfl (by omega)) ?_)
      · simp only [impl_TreeOk.j0]
        rw [if_neg (by decide), if_pos (by omega)]
        rfl
      exact decide_eq_decide.2 ⟨fun h => ⟨by omega, h2, h⟩, fun h => h.2.2⟩
    · rw [(root_b t).2 h2]
      refine ev_to hb ?_
      rw [decide_eq_false (fun h => h2 h.2.1)]
  · refine ev_neg h1 (ev_to hb ?_)
    rw [decide_eq_false (fun h => h1 (by have := h.1; omega))]
end
theorem and255 (n : Int) : Go.bits .and .i64 n 255 = n % 256 := by
  have h255 : (BitVec.ofInt 64 255).toNat = 2 ^ 8 - 1 := by decide
  have key : (BitVec.ofInt 64 n &&& BitVec.ofInt 64 255).toNat = (n % ((2 ^ 64 : Nat) : Int)).toNat % 2 ^ 8 := by
    rw [BitVec.toNat_and, BitVec.toNat_ofInt, h255, Nat.and_two_pow_sub_one_eq_mod]
  show IntKind.i64.wrap ((BitVec.ofInt 64 n &&& BitVec.ofInt 64 255).toNat : Nat) = n % 256
  rw [key]
  simp only [IntKind.wrap, IntKind.bits, IntKind.signed]
  simp
  omega
/-- Where a draw stands: behind no byte that isn't there. -/
def stOk (xs : List Int) (p : Int) : Prop := 0 ≤ p ∧ p ≤ (xs.length : Int)
theorem byte_ok (xs : List Int) (hl : xs.length ≤ 1048576) (p s : Int) (hp : stOk xs p) : ∃ b p' s', spec_l01Byte.f xs p s = some (b, p', s') ∧ (0 ≤ b ∧ b ≤ 255) ∧ stOk xs p' := by
  unfold stOk at hp
  simp only [spec_l01Byte.f, and255]
  by_cases h : p < (xs.length : Int)
  · rw [if_pos h, if_pos hp.1]
    refine ⟨_, _, _, rfl, ⟨by omega, by omega⟩, ?_⟩
    rw [wrap_id (by omega) (by omega)]
    exact ⟨by omega, by omega⟩
  · rw [if_neg h]
    exact ⟨_, _, _, rfl, ⟨by omega, by omega⟩, hp⟩
theorem below_ok (xs : List Int) (hl : xs.length ≤ 1048576) (p s n : Int) (hp : stOk xs p) (h1 : 1 ≤ n) (h2 : n ≤ 256) : ∃ v p' s', spec_l01Below.f xs p s n = some (v, p', s') ∧ (0 ≤ v ∧ v < n) ∧ stOk xs p' := by
  obtain ⟨b, p', s', hb, hb2, hp'⟩ := byte_ok xs hl p s hp
  refine ⟨Int.tmod b n, p', s', ?_, ⟨Int.tmod_nonneg _ hb2.1, Int.tmod_lt_of_pos _ (by omega)⟩, hp'⟩
  simp only [spec_l01Below.f]
  rw [if_neg (by omega), if_pos h2, hb]
  simp only [Option.bind_some]
  rw [if_neg (by omega)]
theorem new_ok (xs : List Int) (hl : xs.length ≤ 1048576) : ∃ s, Ev (fun k => spec_l01New.f k xs) (xs, 0, s) := by
  have aux : ∀ (d i : Nat) (s : Int), 4000 - i = d → ∃ s', Ev (fun k => spec_l01New.l0 k xs s (i : Int)) (xs, 0, s') := by
    intro d
    induction d with
    | zero =>
      intro i s hd
      refine ⟨s, Ev.step (f := fun _ => some (xs, 0, s)) (fun k => ?_) (Ev.now _)⟩
      simp only [spec_l01New.l0]
      by_cases h : (i : Int) < (xs.length : Int)
      · rw [if_pos h, if_neg (by omega)]
      · rw [if_neg h]
    | succ d ih =>
      intro i s hd
      by_cases h : (i : Int) < (xs.length : Int)
      · obtain ⟨s', hs⟩ := ih (i + 1) (Go.bits .and .i64 (wrap64 ((wrap64 ((wrap64 (s * 131)) + (wrap64 (rd xs i)))) + 7)) 1073741823) (by omega)
        refine ⟨s', Ev.step (f := fun k => spec_l01New.l0 k xs (Go.bits .and .i64 (wrap64 ((wrap64 ((wrap64 (s * 131)) + (wrap64 (rd xs i)))) + 7)) 1073741823) ((i + 1 : Nat) : Int)) (fun k => ?_) hs⟩
        simp only [spec_l01New.l0]
        rw [if_pos h, if_pos (by omega), if_pos (by omega), wrap_id (x := (i : Int) + 1) (by omega) (by omega)]
        rfl
      · refine ⟨s, Ev.step (f := fun _ => some (xs, 0, s)) (fun k => ?_) (Ev.now _)⟩
        simp only [spec_l01New.l0]
        rw [if_neg h]
  exact aux 4000 0 _ rfl
theorem st0 (xs : List Int) : stOk xs 0 := ⟨by omega, by omega⟩
theorem pick_ok (xs : List Int) (hl : xs.length ≤ 1048576) (p s : Int) (l : List Int) (hp : stOk xs p) (h1 : 1 ≤ l.length) (h2 : l.length ≤ 256) : ∃ v p' s', spec_l01PickInt.f xs p s l = some (v, p', s') ∧ v ∈ l ∧ stOk xs p' := by
  obtain ⟨v, p', s', hb, hv, hp'⟩ := below_ok xs hl p s (l.length : Int) hp (by omega) (by omega)
  have h : v.toNat < l.length := by omega
  refine ⟨rd l v, p', s', ?_, ?_, hp'⟩
  · simp only [spec_l01PickInt.f, hb, Option.bind_some]
    rw [if_pos hv.1, if_pos hv.2]
  · show l.getD v.toNat 0 ∈ l
    rw [List.getD_eq_getElem?_getD, List.getElem?_eq_getElem h]
    exact List.getElem_mem h
section
open Classical
theorem tree_l (xs : List Int) (hl : xs.length ≤ 1048576) (d : Nat) : ∀ (i : Nat) (t : List S77) (p s : Int), 10 - i = d → i ≤ 10 → treeP t → stOk xs p → ∃ t' p' s', Ev (fun k => spec_l19Tree.l0 k t (i : Int) xs p s) (t', p', s') ∧ treeP t' ∧ stOk xs p' := by
  induction d with
  | zero =>
    intro i t p s hd hi ht hp
    obtain ⟨v, p1, s1, e1, hv, hp1⟩ := below_ok xs hl p s 8 hp (by omega) (by omega)
    refine ⟨t, p1, s1, Ev.step (f := fun _ => some (t, p1, s1)) (fun k => ?_) (Ev.now _), ht, hp1⟩
    simp only [spec_l19Tree.l0, e1, Option.bind_some]
    rw [wrap_id (x := 3 + v) (by omega) (by omega), if_neg (by omega)]
  | succ d ih =>
    intro i t p s hd hi ht hp
    have htl := ht.1
    obtain ⟨v, p1, s1, e1, hv, hp1⟩ := below_ok xs hl p s 8 hp (by omega) (by omega)
    by_cases h : (i : Int) < 3 + v
    · obtain ⟨a, p2, s2, e2, ha, hp2⟩ := below_ok xs hl p1 s1 (t.length : Int) hp1 (by omega) (by omega)
      obtain ⟨b, p3, s3, e3, hb, hp3⟩ := below_ok xs hl p2 s2 4 hp2 (by omega) (by omega)
      obtain ⟨c, p4, s4, e4, hc, hp4⟩ := pick_ok xs hl p3 s3 [0, 0, 1, 1, 2, 4] hp3 (by simp) (by simp)
      obtain ⟨t1, q1, r1, x1, y1, z1⟩ := ih (i + 1) t p4 s4 (by omega) (by omega) ht hp4
      by_cases hn : treeP (t ++ [(⟨a, b, c⟩ : S77)])
      · obtain ⟨t2, q2, r2, x2, y2, z2⟩ := ih (i + 1) (t ++ [(⟨a, b, c⟩ : S77)]) p4 s4 (by omega) (by omega) hn hp4
        refine ⟨t2, q2, r2, Ev.step (f := fun k => (spec_TreeOk.f k (t ++ [(⟨a, b, c⟩ : S77)])).bind fun w => if w = true then spec_l19Tree.l0 k (t ++ [(⟨a, b, c⟩ : S77)]) ((i + 1 : Nat) : Int) xs p4 s4 else spec_l19Tree.l0 k t ((i + 1 : Nat) : Int) xs p4 s4) (fun k => ?_) (Ev.bind (tree_s _) (ev_pos (decide_eq_true hn) x2)), y2, z2⟩
        simp only [spec_l19Tree.l0, e1, e2, e3, e4, Option.bind_some, List.nil_append, List.length_nil, List.length_singleton]
        rw [wrap_id (x := 3 + v) (by omega) (by omega), if_pos h, if_pos (by omega), if_pos (by omega), wrap_id (x := (i : Int) + 1) (by omega) (by omega)]
        rfl
      · refine ⟨t1, q1, r1, Ev.step (f := fun k => (spec_TreeOk.f k (t ++ [(⟨a, b, c⟩ : S77)])).bind fun w => if w = true then spec_l19Tree.l0 k (t ++ [(⟨a, b, c⟩ : S77)]) ((i + 1 : Nat) : Int) xs p4 s4 else spec_l19Tree.l0 k t ((i + 1 : Nat) : Int) xs p4 s4) (fun k => ?_) (Ev.bind (tree_s _) (ev_neg (by simpa using hn) x1)), y1, z1⟩
        simp only [spec_l19Tree.l0, e1, e2, e3, e4, Option.bind_some, List.nil_append, List.length_nil, List.length_singleton]
        rw [wrap_id (x := 3 + v) (by omega) (by omega), if_pos h, if_pos (by omega), if_pos (by omega), wrap_id (x := (i : Int) + 1) (by omega) (by omega)]
        rfl
    · refine ⟨t, p1, s1, Ev.step (f := fun _ => some (t, p1, s1)) (fun k => ?_) (Ev.now _), ht, hp1⟩
      simp only [spec_l19Tree.l0, e1, Option.bind_some]
      rw [wrap_id (x := 3 + v) (by omega) (by omega), if_neg h]
theorem root_tree : treeP [(⟨-1, 0, 0⟩ : S77)] := ⟨by simp, ⟨rfl, rfl, rfl⟩, fun k h1 h2 => by simp at h2; omega⟩
theorem tree_ok (xs : List Int) (hl : xs.length ≤ 1048576) (p s : Int) (hp : stOk xs p) : ∃ t' p' s', Ev (fun k => spec_l19Tree.f k xs p s) (t', p', s') ∧ treeP t' ∧ stOk xs p' := tree_l xs hl 10 0 _ p s rfl (by omega) root_tree hp
end
theorem depths_l (xs : List Int) (hl : xs.length ≤ 1048576) (t : List S77) (ht : t.length ≤ 1048576) (d : Nat) : ∀ (i : Nat) (ds : List Int) (p s : Int), t.length - i = d → i ≤ t.length → ds.length = i → (∀ x ∈ ds, 0 ≤ x ∧ x ≤ 3) → stOk xs p → ∃ ds' p' s', Ev (fun k => spec_l35Depths.l0 k t ds (i : Int) xs p s) (ds', p', s') ∧ ds'.length = t.length ∧ (∀ x ∈ ds', 0 ≤ x ∧ x ≤ 3) ∧ stOk xs p' := by
  induction d with
  | zero =>
    intro i ds p s hd hi h1 h2 hp
    refine ⟨ds, p, s, Ev.step (f := fun _ => some (ds, p, s)) (fun k => ?_) (Ev.now _), by omega, h2, hp⟩
    simp only [spec_l35Depths.l0]
    rw [if_neg (by omega)]
  | succ d ih =>
    intro i ds p s hd hi h1 h2 hp
    obtain ⟨v, p1, s1, e1, hv, hp1⟩ := below_ok xs hl p s 4 hp (by omega) (by omega)
    obtain ⟨ds', p', s', x1, x2, x3, x4⟩ := ih (i + 1) (ds ++ [v]) p1 s1 (by omega) (by omega) (by simp [h1]) (fun x hx => by
      rcases List.mem_append.1 hx with e | e
      · exact h2 x e
      · rw [List.mem_singleton] at e; omega) hp1
    refine ⟨ds', p', s', Ev.step (f := fun k => spec_l35Depths.l0 k t (ds ++ [v]) ((i + 1 : Nat) : Int) xs p1 s1) (fun k => ?_) x1, x2, x3, x4⟩
    simp only [spec_l35Depths.l0, e1, Option.bind_some]
    rw [if_pos (by omega), if_pos (by omega), wrap_id (x := (i : Int) + 1) (by omega) (by omega)]
    rfl
theorem drawdepths_ok (xs : List Int) (hl : xs.length ≤ 1048576) : ∃ t ds, Ev (fun k => spec_DrawDepths.f k xs) (t, ds) ∧ treeP t ∧ ds.length = t.length ∧ ∀ x ∈ ds, 0 ≤ x ∧ x ≤ 3 := by
  obtain ⟨s0, h0⟩ := new_ok xs hl
  obtain ⟨t, p1, s1, h1, ht, hp1⟩ := tree_ok xs hl 0 s0 (st0 xs)
  have htl := ht.1
  obtain ⟨ds, p2, s2, h2, h3, h4, _⟩ := depths_l xs hl t (by omega) t.length 0 [] p1 s1 rfl (Nat.zero_le _) rfl (fun x hx => by cases hx) hp1
  refine ⟨t, ds, ?_, ht, h3, h4⟩
  simp only [spec_DrawDepths.f, spec_l35Depths.f]
  exact Ev.bind h0 (Ev.bind h1 (Ev.bind h2 (Ev.now _)))
def wishP (t : List S77) (s : List Int) : Prop := treeP t ∧ s.length = t.length ∧ ∀ x ∈ s, 0 ≤ x ∧ x ≤ 3
def orderP (t : List S77) (s : List Int) (k : Nat) : Prop := s.getD (nd t k).f0.toNat 0 ≤ s.getD k 0
def sleepP (t : List S77) (s : List Int) : Prop := wishP t s ∧ ∀ k : Nat, 1 ≤ k → k < t.length → orderP t s k
theorem rdJ (l : List Int) (i : Nat) : rd l (i : Int) = l.getD i 0 := rfl
theorem rdJ' (l : List Int) (i : Int) : rd l i = l.getD i.toNat 0 := rfl
theorem order_from (t : List S77) (s : List Int) (k : Nat) (hk : k < t.length) : (∀ j : Nat, k ≤ j → j < t.length → orderP t s j) ↔ orderP t s k ∧ ∀ j : Nat, k + 1 ≤ j → j < t.length → orderP t s j :=
  ⟨fun h => ⟨h k (Nat.le_refl _) hk, fun j h1 h2 => h j (by omega) h2⟩, fun ⟨h0, h⟩ j h1 h2 => by
    rcases Nat.eq_or_lt_of_le h1 with e | e
    · exact e ▸ h0
    · exact h j e h2⟩
theorem par_lt {t : List S77} (ht : treeP t) {k : Nat} (h1 : 1 ≤ k) (hk : k < t.length) : 0 ≤ (nd t k).f0 ∧ (nd t k).f0 < (k : Int) := by
  have := (ht.2.2 k h1 hk).1
  omega
section
open Classical
theorem wish_i (t : List S77) (s : List Int) : Ev (fun n => impl_areDepths.f n t s) (decide (wishP t s)) := by
  simp only [impl_areDepths.f]
  refine Ev.bind (tree_i t) ?_
  by_cases h1 : treeP t
  · refine ev_pos (by simpa using h1) ?_
    by_cases h2 : (s.length : Int) = t.length
    · refine ev_pos h2 ?_
      have e : slices_ContainsFunc__impl_areDepths_1.f s = some (s.any fun x => !decide (0 ≤ x ∧ x ≤ 3)) := by
        simp only [slices_ContainsFunc__impl_areDepths_1.f, impl_areDepths_1.f, in_i, Option.bind_some]
        exact anyO_tot _ _
      rw [e]
      refine ev_to (Ev.now _) ?_
      rw [Bool.eq_iff_iff, decide_eq_true_iff, Bool.not_eq_true', ← Bool.not_eq_true, List.any_eq_true]
      constructor
      · intro h
        refine ⟨h1, by omega, fun x hx => ?_⟩
        rcases Classical.em (0 ≤ x ∧ x ≤ 3) with h3 | h3
        · exact h3
        · exact absurd ⟨x, hx, by simp only [h3, decide_false, Bool.not_false]⟩ h
      · rintro ⟨_, _, h⟩ ⟨x, hx, h3⟩
        simp only [h x hx, decide_true, Bool.not_true, and_self] at h3
        cases h3
    · refine ev_neg h2 (ev_to (Ev.now _) ?_)
      rw [decide_eq_false (fun h => h2 (by rw [h.2.1]))]
  · refine ev_neg (by simpa using h1) (ev_to (Ev.now _) ?_)
    rw [decide_eq_false (fun h => h1 h.1)]
end
section
open Classical
theorem sleep_i0 (t : List S77) (s : List Int) (hw : wishP t s) (m : Nat) : ∀ k : Nat, t.length - k = m → 1 ≤ k → k ≤ t.length → Ev (fun n => impl_SleepOk.l0 n t s (k : Int)) (decide (∀ j : Nat, k ≤ j → j < t.length → orderP t s j)) := by
  have hl := hw.1.1
  induction m with
  | zero =>
    intro k hm h1 hk
    rw [decide_eq_true (by intro j h2 h3; omega)]
    refine Ev.step (f := fun _ => some true) (fun n => ?_) (Ev.now _)
    simp only [impl_SleepOk.l0]
    rw [if_neg (by omega)]
  | succ m ih =>
    intro k hm h1 hk
    have hp := par_lt hw.1 h1 (show k < t.length by omega)
    have hs := hw.2.1
    refine Ev.step (f := fun n => if orderP t s k then impl_SleepOk.l0 n t s ((k + 1 : Nat) : Int) else some false) (fun n => ?_) ?_
    · simp only [impl_SleepOk.l0]
      rw [if_pos (by omega), if_pos (by omega), rd_nd, if_pos hp.1, if_pos (by omega), if_pos (by omega), rdJ, rdJ', wrap_id (x := (k : Int) + 1) (by omega) (by omega)]
      unfold orderP
      by_cases h : s.getD (nd t k).f0.toNat 0 ≤ s.getD k 0
      · rw [if_pos h, if_neg (by omega)]; rfl
      · rw [if_neg h, if_pos (by omega)]
    · rw [decide_eq_decide.2 (order_from t s k (by omega))]
      by_cases h : orderP t s k
      · have hn := ih (k + 1) (by omega) (by omega) (by omega)
        refine ev_pos h ?_
        rw [show (decide (orderP t s k ∧ ∀ j : Nat, k + 1 ≤ j → j < t.length → orderP t s j)) = decide (∀ j : Nat, k + 1 ≤ j → j < t.length → orderP t s j) from decide_eq_decide.2 ⟨fun h' => h'.2, fun h' => ⟨h, h'⟩⟩]
        exact hn
      · refine ev_neg h (ev_to (Ev.now _) ?_)
        rw [decide_eq_false (fun h' => h h'.1)]
theorem sleep_i (t : List S77) (s : List Int) : Ev (fun n => impl_SleepOk.f n t s) (decide (sleepP t s)) := by
  simp only [impl_SleepOk.f]
  refine Ev.bind (wish_i t s) ?_
  by_cases h : wishP t s
  · refine ev_pos (by simpa using h) (ev_to (sleep_i0 t s h (t.length - 1) 1 rfl (by omega) (by have := h.1.1; omega)) (decide_eq_decide.2 ⟨fun h' => ⟨h, h'⟩, fun h' => h'.2⟩))
  · refine ev_neg (by simpa using h) (ev_to (Ev.now _) ?_)
    rw [decide_eq_false (fun h' => h h'.1)]
end
/-- the walk from node k down: each parent takes the lesser depth -/
def settle (t : List S77) : Nat → List Int → List Int
  | 0, s => s
  | k + 1, s => settle t k (s.set (nd t (k + 1)).f0.toNat (mn (s.getD (nd t (k + 1)).f0.toNat 0) (s.getD (k + 1) 0)))
theorem settle_len (t : List S77) (k : Nat) : ∀ s : List Int, (settle t k s).length = s.length := by
  induction k with
  | zero => intro s; rfl
  | succ k ih => intro s; simp only [settle]; rw [ih]; simp
section
open Classical
noncomputable def settleR (t : List S77) (s : List Int) : List Int := if wishP t s then settle t (t.length - 1) s else []
end
section
open Classical
theorem settle_i0 (t : List S77) (ht : treeP t) (k : Nat) : ∀ s : List Int, s.length = t.length → k < t.length → Ev (fun n => impl_SettleSleep.l0 n t s (k : Int)) (settle t k s) := by
  have hl := ht.1
  induction k with
  | zero =>
    intro s _ _
    refine Ev.step (f := fun _ => some s) (fun n => ?_) (Ev.now _)
    simp only [impl_SettleSleep.l0]
    rw [if_neg (by omega)]
  | succ k ih =>
    intro s hs hk
    have hp := par_lt ht (show 1 ≤ k + 1 by omega) hk
    refine Ev.step (f := fun n => impl_SettleSleep.l0 n t (s.set (nd t (k + 1)).f0.toNat (mn (s.getD (nd t (k + 1)).f0.toNat 0) (s.getD (k + 1) 0))) (k : Int)) (fun n => ?_) (ih _ (by simpa using hs) (by omega))
    simp only [impl_SettleSleep.l0]
    rw [if_pos (by omega), if_pos (by omega), if_pos (by omega), rd_nd, if_pos hp.1, if_pos (by omega), if_pos (by omega), rdJ, rdJ', wrap_id (x := ((k + 1 : Nat) : Int) - 1) (by omega) (by omega), show ((k + 1 : Nat) : Int) - 1 = (k : Int) from by omega]
theorem settle_i (t : List S77) (s : List Int) (hl : s.length ≤ 1048576) : Ev (fun n => impl_SettleSleep.f n t s) (settleR t s) := by
  simp only [impl_SettleSleep.f]
  refine Ev.bind (wish_i t s) ?_
  by_cases h : wishP t s
  · have := h.1.1
    refine ev_pos (by simpa using h) ?_
    rw [show slices_Clone_int_int.f s = some s from by simp only [slices_Clone_int_int.f]; rw [if_pos (by omega)]]
    simp only [Option.bind_some]
    rw [wrap_id (x := (t.length : Int) - 1) (by omega) (by omega), show (t.length : Int) - 1 = ((t.length - 1 : Nat) : Int) from by omega]
    refine ev_to (settle_i0 t h.1 (t.length - 1) s h.2.1 (by omega)) ?_
    rw [settleR, if_pos h]
  · refine ev_neg (by simpa using h) (ev_to (Ev.now _) ?_)
    rw [settleR, if_neg h]
end
theorem gset_self {α : Type} (l : List α) (i : Nat) (a z : α) (h : i < l.length) : (l.set i a).getD i z = a := by
  simp [List.getD_eq_getElem?_getD, List.getElem?_set, h]
theorem gset_ne {α : Type} (l : List α) (i j : Nat) (a z : α) (h : i ≠ j) : (l.set i a).getD j z = l.getD j z := by
  simp [List.getD_eq_getElem?_getD, List.getElem?_set, h]
/-- The path from node i up to the root, and the list from the root down to i; the reversal as slices.Reverse makes it. -/
def up (t : List S77) : Nat → Int → List Int
  | 0, _ => []
  | d + 1, i => if i < 0 then [] else i :: up t d ((nd t i.toNat).f0)
theorem up_len (t : List S77) (d : Nat) : ∀ i : Int, (up t d i).length ≤ d := by
  induction d with
  | zero => intro i; exact Nat.le_refl _
  | succ d ih =>
    intro i
    simp only [up]
    split
    · simp
    · simp only [List.length_cons]; have := ih (nd t i.toNat).f0; omega
/-- In a valid tree: a node's parent is a node of a smaller number, and the root's is -1. -/
theorem parU {t : List S77} (ht : treeP t) (i : Nat) (hi : i < t.length) : -1 ≤ (nd t i).f0 ∧ (nd t i).f0 < (i : Int) := by
  rcases Nat.eq_zero_or_pos i with e | e
  · subst e; have := ht.2.1.1; omega
  · have := (ht.2.2 i e hi).1; omega
section
open Classical
noncomputable def pathV (t : List S77) (a : Int) : List Int := if treeP t ∧ (0 ≤ a ∧ a ≤ (t.length : Int) - 1) then (up t t.length a).reverse else []
theorem pathV_len (t : List S77) (a : Int) : (pathV t a).length ≤ t.length := by
  unfold pathV
  split
  · simpa using up_len t t.length a
  · simp
theorem up_mem (t : List S77) (ht : treeP t) (d : Nat) : ∀ i : Int, i < (t.length : Int) → ∀ x ∈ up t d i, 0 ≤ x ∧ x < (t.length : Int) := by
  induction d with
  | zero => intro i h x hx; cases hx
  | succ d ih =>
    intro i h x hx
    simp only [up] at hx
    by_cases hi : i < 0
    · rw [if_pos hi] at hx; cases hx
    · rw [if_neg hi] at hx
      have hp := parU ht i.toNat (by omega)
      rcases List.mem_cons.1 hx with e | e
      · subst e; omega
      · exact ih _ (by omega) x e
theorem pathV_mem (t : List S77) (a : Int) : ∀ x ∈ pathV t a, 0 ≤ x ∧ x < (t.length : Int) := by
  intro x hx
  unfold pathV at hx
  by_cases h : treeP t ∧ (0 ≤ a ∧ a ≤ (t.length : Int) - 1)
  · rw [if_pos h] at hx
    exact up_mem t h.1 t.length a (by omega) x (by simpa using hx)
  · rw [if_neg h] at hx; cases hx
theorem pathV_pos (t : List S77) (a : Int) (ht : treeP t) : (pathV t a).length = 0 ↔ ¬ (0 ≤ a ∧ a ≤ (t.length : Int) - 1) := by
  unfold pathV
  have hl := ht.1
  by_cases h : 0 ≤ a ∧ a ≤ (t.length : Int) - 1
  · rw [if_pos ⟨ht, h⟩]
    obtain ⟨m, hm⟩ : ∃ m, t.length = m + 1 := ⟨t.length - 1, by omega⟩
    rw [hm]
    simp only [up]
    rw [if_neg (by omega)]
    simp; omega
  · rw [if_neg (fun x => h x.2)]
    simpa using h
end
theorem rdI' (l : List Int) (i : Nat) : rd l (i : Int) = l.getD i 0 := rfl
theorem rev_l (xs : List Int) (hl : xs.length ≤ 1048576) (d : Nat) : ∀ (ys : List Int) (i : Nat), ys.length = xs.length → xs.length - 2 * i = d → i ≤ xs.length →
    (∀ p : Nat, p < i → ys.getD p 0 = xs.getD (xs.length - 1 - p) 0) → (∀ p : Nat, i ≤ p → p + i < xs.length → ys.getD p 0 = xs.getD p 0) → (∀ p : Nat, p < xs.length → xs.length ≤ p + i → ys.getD p 0 = xs.getD (xs.length - 1 - p) 0) →
    Ev (fun k => slices_Reverse_int_int.l0 k ys (i : Int) ((xs.length : Int) - 1 - (i : Int))) xs.reverse := by
  induction d using Nat.strongRecOn with
  | ind d ih =>
    intro ys i hy hd hi h1 h2 h3
    by_cases hlt : 2 * i + 1 < xs.length
    · have hn := ih (xs.length - 2 * (i + 1)) (by omega) ((ys.set i (ys.getD (xs.length - 1 - i) 0)).set (xs.length - 1 - i) (ys.getD i 0)) (i + 1) (by simpa using hy) rfl (by omega)
        (fun p hp => by
          by_cases e : p = i
          · subst e
            rw [gset_ne _ _ _ _ _ (by omega), gset_self _ _ _ _ (by omega), h2 _ (by omega) (by omega)]
          · rw [gset_ne _ _ _ _ _ (by omega), gset_ne _ _ _ _ _ (by omega), h1 p (by omega)])
        (fun p hp hq => by rw [gset_ne _ _ _ _ _ (by omega), gset_ne _ _ _ _ _ (by omega), h2 p (by omega) (by omega)])
        (fun p hp hq => by
          by_cases e : p = xs.length - 1 - i
          · subst e
            rw [gset_self _ _ _ _ (by simp; omega), h2 i (by omega) (by omega)]
            congr 1; omega
          · rw [gset_ne _ _ _ _ _ (by omega), gset_ne _ _ _ _ _ (by omega), h3 p hp (by omega)])
      refine Ev.step (f := fun k => slices_Reverse_int_int.l0 k ((ys.set i (ys.getD (xs.length - 1 - i) 0)).set (xs.length - 1 - i) (ys.getD i 0)) ((i + 1 : Nat) : Int) ((xs.length : Int) - 1 - ((i + 1 : Nat) : Int))) (fun k => ?_) hn
      simp only [slices_Reverse_int_int.l0]
      rw [show ((xs.length : Int) - 1 - (i : Int)) = ((xs.length - 1 - i : Nat) : Int) from by omega]
      rw [if_pos (by omega), if_pos (by omega), if_pos (by omega), if_pos (by omega), if_pos (by omega), rdI', rdI', wrap_id (x := (i : Int) + 1) (by omega) (by omega), wrap_id (x := ((xs.length - 1 - i : Nat) : Int) - 1) (by omega) (by omega)]
      rw [show ((xs.length : Int) - 1 - ((i + 1 : Nat) : Int)) = ((xs.length - 1 - i : Nat) : Int) - 1 from by omega]
      rfl
    · refine Ev.step (f := fun _ => some xs.reverse) (fun k => ?_) (Ev.now _)
      simp only [slices_Reverse_int_int.l0]
      rw [if_neg (by omega)]
      congr 1
      refine List.ext_getElem (by simpa using hy) (fun p hp hq => ?_)
      have hp' : p < xs.length := by omega
      have a : ys.getD p 0 = xs.getD (xs.length - 1 - p) 0 := by
        by_cases e1 : p < i
        · exact h1 p e1
        · by_cases e2 : xs.length ≤ p + i
          · exact h3 p hp' e2
          · rw [h2 p (by omega) (by omega)]
            congr 1; omega
      rw [List.getElem_reverse]
      simpa [List.getD_eq_getElem?_getD, List.getElem?_eq_getElem hp, List.getElem?_eq_getElem (show xs.length - 1 - p < xs.length by omega)] using a
theorem rev_ev (xs : List Int) (hl : xs.length ≤ 1048576) : Ev (fun k => slices_Reverse_int_int.f k xs) xs.reverse := by
  have := rev_l xs hl xs.length xs 0 rfl (by omega) (Nat.zero_le _) (fun p hp => by omega) (fun p _ _ => rfl) (fun p hp hq => by omega)
  simp only [slices_Reverse_int_int.f]
  rw [wrap_id (by omega) (by omega)]
  rw [show ((xs.length : Int) - 1 - ((0 : Nat) : Int)) = (xs.length : Int) - 1 from by omega] at this
  exact this
section
open Classical
theorem isn_i (t : List S77) (hl : t.length ≤ 1048576) (a : Int) : Ev (fun k => impl_isNode.f k t a) (decide (treeP t ∧ (0 ≤ a ∧ a ≤ (t.length : Int) - 1))) := by
  simp only [impl_isNode.f, in_i, Option.bind_some]
  refine Ev.bind (tree_i t) ?_
  rw [wrap_id (x := (t.length : Int) - 1) (by omega) (by omega)]
  by_cases h : treeP t
  · refine ev_pos (by simpa using h) (ev_to (Ev.now _) ?_)
    exact decide_eq_decide.2 ⟨fun x => ⟨h, x⟩, fun x => x.2⟩
  · refine ev_neg (by simpa using h) (ev_to (Ev.now _) ?_)
    exact (decide_eq_false (fun x => h x.1)).symm
theorem path_il (t : List S77) (ht : treeP t) (d : Nat) : ∀ (i : Int) (acc : List Int), -1 ≤ i → i < (d : Int) → i < (t.length : Int) → acc.length + d ≤ 1048576 → Ev (fun k => impl_PathTo.l0 k t i acc) ((acc ++ up t d i).reverse) := by
  induction d with
  | zero =>
    intro i acc h0 h1 h2 h3
    refine Ev.step (f := fun k => (slices_Reverse_int_int.f k acc).bind fun x => some x) (fun k => ?_) (ev_map (rev_ev acc (by omega)) (by simp [up]))
    simp only [impl_PathTo.l0]
    rw [if_neg (by omega)]
  | succ d ih =>
    intro i acc h0 h1 h2 h3
    by_cases hi : i < 0
    · refine Ev.step (f := fun k => (slices_Reverse_int_int.f k acc).bind fun x => some x) (fun k => ?_) (ev_map (rev_ev acc (by omega)) (by simp only [up]; rw [if_pos hi]; simp))
      simp only [impl_PathTo.l0]
      rw [if_neg (by omega)]
    · have hp := parU ht i.toNat (by omega)
      have hn := ih (nd t i.toNat).f0 (acc ++ [i]) (by omega) (by omega) (by omega) (by simp; omega)
      refine Ev.step (f := fun k => impl_PathTo.l0 k t (nd t i.toNat).f0 (acc ++ [i])) (fun k => ?_) (ev_to hn ?_)
      · simp only [impl_PathTo.l0]
        rw [if_pos (by omega), if_pos (by omega), if_pos (by omega), if_pos (by omega)]
        rfl
      · simp only [up]
        rw [if_neg hi]
        simp
theorem path_i (t : List S77) (hl : t.length ≤ 1048576) (a : Int) : Ev (fun k => impl_PathTo.f k t a) (pathV t a) := by
  simp only [impl_PathTo.f, Option.bind_some]
  refine Ev.bind (isn_i t hl a) ?_
  unfold pathV
  by_cases h : treeP t ∧ (0 ≤ a ∧ a ≤ (t.length : Int) - 1)
  · refine ev_pos (by simpa using h) ?_
    rw [if_pos h]
    have := path_il t h.1 t.length a [] (by omega) (by omega) (by omega) (by simp; omega)
    rw [List.nil_append] at this
    exact this
  · refine ev_neg (by simpa using h) ?_
    rw [if_neg h]
    exact Ev.now _
end
section
open Classical
theorem mem_drop_iff (p : List Int) (a : Int) (i : Nat) (h : i < p.length) : (a ∈ p.drop i) ↔ (p[i] = a ∨ a ∈ p.drop (i + 1)) := by
  rw [List.drop_eq_getElem_cons h, List.mem_cons]
  exact ⟨fun x => x.imp Eq.symm id, fun x => x.imp Eq.symm id⟩
noncomputable def belowV (t : List S77) (a b : Int) : Bool := decide (b ∈ pathV t a)
end
section
open Classical
theorem idx_l (p : List Int) (hp : p.length ≤ 1048576) (a : Int) (d : Nat) : ∀ i : Nat, p.length - i = d → i ≤ p.length → ∃ r : Int, Ev (fun k => slices_Index_int_int.l0 k p a (p.length : Int) i) r ∧ decide (r ≥ 0) = decide (a ∈ p.drop i) := by
  induction d with
  | zero =>
    intro i hd hi
    rw [List.drop_eq_nil_of_le (by omega)]
    refine ⟨-1, Ev.step (f := fun _ => some (-1)) (fun k => ?_) (Ev.now _), by simp⟩
    simp only [slices_Index_int_int.l0]
    rw [if_neg (by omega)]
  | succ d ih =>
    intro i hd hi
    have h : i < p.length := by omega
    have hr : rd p (i : Int) = p[i] := by show p.getD i 0 = _; simp [List.getD_eq_getElem?_getD, List.getElem?_eq_getElem h]
    obtain ⟨r, hn, hv⟩ := ih (i + 1) (by omega) (by omega)
    by_cases e : a = p[i]
    · refine ⟨(i : Int), Ev.step (f := fun _ => some (i : Int)) (fun k => ?_) (Ev.now _), ?_⟩
      · simp only [slices_Index_int_int.l0]
        rw [if_pos (by omega), if_pos (by omega), if_pos (by omega), hr, if_pos e]
      · rw [decide_eq_true (show (i : Int) ≥ 0 by omega), decide_eq_true ((mem_drop_iff p a i h).2 (Or.inl e.symm))]
    · refine ⟨r, Ev.step (f := fun k => slices_Index_int_int.l0 k p a (p.length : Int) ((i + 1 : Nat) : Int)) (fun k => ?_) hn, ?_⟩
      · simp only [slices_Index_int_int.l0]
        rw [if_pos (by omega), if_pos (by omega), if_pos (by omega), hr, if_neg e, wrap_id (x := (i : Int) + 1) (by omega) (by omega)]
        rfl
      · rw [hv]
        exact decide_eq_decide.2 ⟨fun x => (mem_drop_iff p a i h).2 (Or.inr x), fun x => ((mem_drop_iff p a i h).1 x).resolve_left (fun z => e z.symm)⟩
theorem contains_ev (p : List Int) (hp : p.length ≤ 1048576) (a : Int) : Ev (fun k => slices_Contains_int_int.f k p a) (decide (a ∈ p)) := by
  obtain ⟨r, h, hv⟩ := idx_l p hp a p.length 0 rfl (Nat.zero_le _)
  simp only [slices_Contains_int_int.f, slices_Index_int_int.f]
  exact ev_map h (by rw [hv, List.drop_zero])
theorem below_i (t : List S77) (hl : t.length ≤ 1048576) (a b : Int) : Ev (fun k => impl_IsBelow.f k t a b) (belowV t a b) := by
  simp only [impl_IsBelow.f]
  exact Ev.bind (path_i t hl a) (ev_map (contains_ev _ (by have := pathV_len t a; omega) b) rfl)
end
def parN (t : List S77) (k : Nat) : Nat := (nd t k).f0.toNat
def ordered (t : List S77) (r : List Int) : Prop := ∀ k : Nat, 1 ≤ k → k < t.length → r.getD (parN t k) 0 ≤ r.getD k 0
theorem mn_le (a b : Int) : mn a b ≤ a ∧ mn a b ≤ b ∧ (mn a b = a ∨ mn a b = b) := by unfold mn; split <;> omega
theorem parN_lt {t : List S77} (ht : treeP t) {k : Nat} (h1 : 1 ≤ k) (hk : k < t.length) : parN t k < k := by
  have := (ht.2.2 k h1 hk).1
  unfold parN; omega
theorem settle_far (t : List S77) (ht : treeP t) (m : Nat) : ∀ s : List Int, m < t.length → ∀ j : Nat, m ≤ j → (settle t m s).getD j 0 = s.getD j 0 := by
  induction m with
  | zero => intro s hm j hj; rfl
  | succ m ih =>
    intro s hm j hj
    have hp := parN_lt ht (show 1 ≤ m + 1 by omega) hm
    simp only [settle]
    rw [ih _ (by omega) j (by omega)]
    exact gset_ne _ _ _ _ _ (by unfold parN at hp; omega)
theorem settle_le (t : List S77) (ht : treeP t) (m : Nat) : ∀ s : List Int, s.length = t.length → m < t.length → ∀ j : Nat, (settle t m s).getD j 0 ≤ s.getD j 0 := by
  induction m with
  | zero => intro s hl hm j; exact Int.le_refl _
  | succ m ih =>
    intro s hl hm j
    have hp := parN_lt ht (show 1 ≤ m + 1 by omega) hm
    simp only [settle]
    refine Int.le_trans (ih _ (by simpa using hl) (by omega) j) ?_
    by_cases e : (nd t (m + 1)).f0.toNat = j
    · rw [← e, gset_self _ _ _ _ (by unfold parN at hp; omega)]
      exact (mn_le _ _).1
    · rw [gset_ne _ _ _ _ _ e]; exact Int.le_refl _
theorem settle_ord (t : List S77) (ht : treeP t) (m : Nat) : ∀ s : List Int, s.length = t.length → m < t.length → ∀ k : Nat, 1 ≤ k → k ≤ m → (settle t m s).getD (parN t k) 0 ≤ (settle t m s).getD k 0 := by
  induction m with
  | zero => intro s hl hm k h1 h2; omega
  | succ m ih =>
    intro s hl hm k h1 h2
    have hp := parN_lt ht (show 1 ≤ m + 1 by omega) hm
    simp only [settle]
    by_cases e : k = m + 1
    · subst e
      rw [settle_far t ht m _ (by omega) (m + 1) (by omega)]
      refine Int.le_trans (settle_le t ht m _ (by simpa using hl) (by omega) _) ?_
      unfold parN at hp ⊢
      rw [gset_self _ _ _ _ (by omega), gset_ne _ _ _ _ _ (by omega)]
      exact (mn_le _ _).2.1
    · exact ih _ (by simpa using hl) (by omega) k h1 (by omega)
theorem settle_fix (t : List S77) (m : Nat) (s : List Int) (hl : s.length = t.length) (hm : m < t.length) (ho : ordered t s) : settle t m s = s := by
  induction m with
  | zero => rfl
  | succ m ih =>
    simp only [settle]
    have h := ho (m + 1) (by omega) hm
    have e : mn (s.getD (nd t (m + 1)).f0.toNat 0) (s.getD (m + 1) 0) = s.getD (nd t (m + 1)).f0.toNat 0 := by
      have := mn_le (s.getD (nd t (m + 1)).f0.toNat 0) (s.getD (m + 1) 0)
      unfold parN at h
      unfold mn
      split <;> omega
    have e2 : s.set (nd t (m + 1)).f0.toNat (s.getD (nd t (m + 1)).f0.toNat 0) = s := by
      refine List.ext_getElem (by simp) (fun p h1 h2 => ?_)
      rw [List.getElem_set]
      split
      · rename_i e; subst e
        simp [List.getD_eq_getElem?_getD, List.getElem?_eq_getElem h2]
      · rfl
    rw [e, e2]
    exact ih (by omega)
section
open Classical
/-- k is on the path of j -/
def onPath (t : List S77) (j k : Nat) : Prop := (k : Int) ∈ up t t.length (j : Int)
theorem up_self (t : List S77) (d : Nat) (i : Int) (h : 0 ≤ i) (hd : 1 ≤ d) : i ∈ up t d i := by
  cases d with
  | zero => omega
  | succ d => simp only [up]; rw [if_neg (by omega)]; exact List.mem_cons_self
theorem up_par (t : List S77) (ht : treeP t) (d : Nat) : ∀ i : Int, i < (d : Int) → i < (t.length : Int) → ∀ x : Nat, 1 ≤ x → (x : Int) ∈ up t d i → ((parN t x : Nat) : Int) ∈ up t d i := by
  induction d with
  | zero => intro i _ _ x _ hx; cases hx
  | succ d ih =>
    intro i hi hl x h1 hx
    simp only [up] at hx ⊢
    by_cases hn : i < 0
    · rw [if_pos hn] at hx; cases hx
    · rw [if_neg hn] at hx ⊢
      have hp := parU ht i.toNat (by omega)
      rcases List.mem_cons.1 hx with e | e
      · refine List.mem_cons_of_mem _ ?_
        have h2 := (ht.2.2 x h1 (by omega)).1
        have e3 : ((parN t x : Nat) : Int) = (nd t i.toNat).f0 := by
          rw [← e]; unfold parN; simp; omega
        rw [e3]
        have e4 : i.toNat = x := by omega
        exact up_self t d _ (by rw [e4]; omega) (by rw [e4] at hp; omega)
      · exact List.mem_cons_of_mem _ (ih _ (by omega) (by omega) x h1 e)
theorem up_ord (t : List S77) (ht : treeP t) (r : List Int) (ho : ordered t r) (d : Nat) : ∀ i : Nat, i < t.length → ∀ x : Nat, (x : Int) ∈ up t d (i : Int) → r.getD x 0 ≤ r.getD i 0 := by
  induction d with
  | zero => intro i _ x hx; cases hx
  | succ d ih =>
    intro i hl x hx
    simp only [up] at hx
    rw [if_neg (by omega)] at hx
    rcases List.mem_cons.1 hx with e | e
    · have : x = i := by omega
      subst this; exact Int.le_refl _
    · rcases Nat.eq_zero_or_pos i with z | z
      · subst z
        have h0 := ht.2.1.1
        have : up t d (nd t ((0 : Nat) : Int).toNat).f0 = [] := by
          show up t d (nd t 0).f0 = []
          rw [h0]
          cases d with
          | zero => rfl
          | succ d => simp only [up]; rw [if_pos (by omega)]
        rw [this] at e; cases e
      · have h2 := (ht.2.2 i z hl).1
        have hlt := parN_lt ht z hl
        have e5 : (nd t ((i : Int)).toNat).f0 = ((parN t i : Nat) : Int) := by
          show (nd t i).f0 = _
          unfold parN; omega
        rw [e5] at e
        exact Int.le_trans (ih (parN t i) (by omega) x e) (ho i z hl)
theorem settle_att (t : List S77) (ht : treeP t) (s0 : List Int) (m : Nat) : ∀ s : List Int, s.length = t.length → m < t.length → (∀ k : Nat, k < t.length → ∃ j : Nat, j < t.length ∧ onPath t j k ∧ s.getD k 0 = s0.getD j 0) → ∀ k : Nat, k < t.length → ∃ j : Nat, j < t.length ∧ onPath t j k ∧ (settle t m s).getD k 0 = s0.getD j 0 := by
  induction m with
  | zero => intro s hl hm h; exact h
  | succ m ih =>
    intro s hl hm h
    have hp := parN_lt ht (show 1 ≤ m + 1 by omega) hm
    simp only [settle]
    refine ih _ (by simpa using hl) (by omega) (fun k hk => ?_)
    by_cases e : (nd t (m + 1)).f0.toNat = k
    · subst e
      rw [gset_self _ _ _ _ (by omega)]
      rcases (mn_le (s.getD (nd t (m + 1)).f0.toNat 0) (s.getD (m + 1) 0)).2.2 with q | q
      · rw [q]; exact h _ hk
      · rw [q]
        obtain ⟨j, h1, h2, h3⟩ := h (m + 1) hm
        exact ⟨j, h1, up_par t ht t.length (j : Int) (by omega) (by omega) (m + 1) (by omega) h2, h3⟩
    · rw [gset_ne _ _ _ _ _ e]; exact h k hk
end
theorem sameInts_l (l : List Int) (hl : l.length ≤ 11728124029610) (d : Nat) : ∀ i : Nat, l.length - i = d → Ev (fun k => laws_sameInts.l0 k l l i) true := by
  induction d with
  | zero =>
    intro i hd
    refine Ev.step (f := fun _ => some true) (fun k => ?_) (Ev.now _)
    simp only [laws_sameInts.l0]
    rw [if_neg (by omega)]
  | succ d ih =>
    intro i hd
    refine Ev.step (f := fun k => laws_sameInts.l0 k l l (i + 1 : Nat)) (fun k => ?_) (ih _ (by omega))
    simp only [laws_sameInts.l0]
    rw [if_pos (by omega), if_pos (by omega), if_pos (by omega), if_pos trivial, wrap_id (x := (i : Int) + 1) (by omega) (by omega)]
    rfl
theorem sameInts_ev (l : List Int) (hl : l.length ≤ 11728124029610) : Ev (fun k => laws_sameInts.f k l l) true := by
  simp only [laws_sameInts.f]
  exact ev_pos trivial (sameInts_l l hl l.length 0 (by omega))
section
open Classical
theorem below_on (t : List S77) (ht : treeP t) (j k : Nat) (hj : j < t.length) : belowV t (j : Int) (k : Int) = true ↔ onPath t j k := by
  unfold belowV onPath pathV
  rw [decide_eq_true_iff, if_pos ⟨ht, by omega, by omega⟩, List.mem_reverse]
theorem sleep_true (t : List S77) (r : List Int) (h : sleepP t r) : Ev (fun n => impl_SleepOk.f n t r) true := by
  have := sleep_i t r
  rwa [decide_eq_true h] at this
theorem least_l (t : List S77) (ht : treeP t) (ds r : List Int) (hd : ds.length = t.length) (hr : r.length = t.length) (hle : ∀ j : Nat, r.getD j 0 ≤ ds.getD j 0) (ho : ordered t r) (n : Nat) (hn : n < t.length) (b : Bool) (hnext : Ev (fun k => laws_FnSleeps.l0 k t ds r ((n + 1 : Nat) : Int)) b) (d : Nat) : ∀ (k : Nat) (acc : Int), t.length - k = d → k ≤ t.length → r.getD n 0 ≤ acc → (acc = r.getD n 0 ∨ ∃ j : Nat, k ≤ j ∧ j < t.length ∧ onPath t j n ∧ ds.getD j 0 = r.getD n 0) → Ev (fun z => laws_FnSleeps.l1 z t ds r n acc k) b := by
  have hl := ht.1
  induction d with
  | zero =>
    intro k acc hk hk2 h1 h2
    have e : acc = r.getD n 0 := by
      rcases h2 with h | ⟨j, h3, h4, _⟩
      · exact h
      · omega
    refine Ev.step (f := fun z => laws_FnSleeps.l0 z t ds r ((n + 1 : Nat) : Int)) (fun z => ?_) hnext
    simp only [laws_FnSleeps.l1]
    rw [if_neg (by omega), if_pos (by omega), if_pos (by omega), if_pos (show rd r (n : Int) = acc from by rw [e]; rfl), wrap_id (x := (n : Int) + 1) (by omega) (by omega)]
    rfl
  | succ d ih =>
    intro k acc hk hk2 h1 h2
    have hlt : k < t.length := by clear h2; omega
    have hk3 : t.length - (k + 1) = d := by clear h2; omega
    refine Ev.step (f := fun z => (impl_IsBelow.f z t (k : Int) (n : Int)).bind fun q => if q = true then laws_FnSleeps.l1 z t ds r n (mn acc (ds.getD k 0)) ((k + 1 : Nat) : Int) else laws_FnSleeps.l1 z t ds r n acc ((k + 1 : Nat) : Int)) (fun z => ?_) (Ev.bind (below_i t (by omega) (k : Int) (n : Int)) ?_)
    · simp only [laws_FnSleeps.l1]
      rw [if_pos (show (k : Int) < (t.length : Int) by omega), if_pos (show (0 : Int) ≤ (k : Int) by omega), if_pos (show (k : Int) < (ds.length : Int) by omega), wrap_id (x := (k : Int) + 1) (by omega) (by omega)]
      rfl
    · by_cases hb : belowV t (k : Int) (n : Int) = true
      · have hp := (below_on t ht k n hlt).1 hb
        have hrk : r.getD n 0 ≤ ds.getD k 0 := Int.le_trans (up_ord t ht r ho t.length k hlt n hp) (hle k)
        have hm := mn_le acc (ds.getD k 0)
        have h9 : r.getD n 0 ≤ mn acc (ds.getD k 0) := by clear h2; omega
        refine ev_pos hb (ih (k + 1) _ hk3 hlt h9 ?_)
        rcases h2 with h | ⟨j, h3, h4, h5, h6⟩
        · exact Or.inl (by omega)
        · rcases Nat.eq_or_lt_of_le h3 with e | e
          · subst e; exact Or.inl (by omega)
          · exact Or.inr ⟨j, e, h4, h5, h6⟩
      · refine ev_neg hb (ih (k + 1) acc hk3 hlt h1 ?_)
        rcases h2 with h | ⟨j, h3, h4, h5, h6⟩
        · exact Or.inl h
        · rcases Nat.eq_or_lt_of_le h3 with e | e
          · subst e; exact absurd ((below_on t ht k n hlt).2 h5) hb
          · exact Or.inr ⟨j, e, h4, h5, h6⟩
end
theorem FnSleeps : ∀ (x0 : List (Int)), (x0.length * 1 ≤ 140737488351232 ∧ x0.length ≤ maxLen ∧ ∀ y ∈ x0, (Lit.int .u8 y).wf = true) → ∃ k, laws_FnSleeps.f k x0 = some true := by
  intro l _
  refine Ev.rounds (g := fun n => laws_FnSleeps.f n l) ?_
  simp only [laws_FnSleeps.f, laws_big.f, Option.bind_some]
  by_cases hbig : (l.length : Int) > 1048576
  · exact ev_pos (decide_eq_true hbig) (Ev.now _)
  refine ev_neg (by simpa using hbig) ?_
  obtain ⟨t, ds, hD, ht, hlen, hds⟩ := drawdepths_ok l (by omega)
  have htl := ht.1
  have hw : wishP t ds := ⟨ht, hlen, hds⟩
  have hI := settle_i t ds (by omega)
  obtain ⟨r, hr⟩ : ∃ r, r = settle t (t.length - 1) ds := ⟨_, rfl⟩
  have hR : settleR t ds = r := by unfold settleR; rw [if_pos hw, hr]
  rw [hR] at hI
  have hrl : r.length = t.length := by rw [hr, settle_len, hlen]
  have hle : ∀ j : Nat, r.getD j 0 ≤ ds.getD j 0 := by rw [hr]; exact settle_le t ht _ ds hlen (by omega)
  have ho : ordered t r := by
    intro k h1 h2
    rw [hr]
    exact settle_ord t ht _ ds hlen (by omega) k h1 (by omega)
  have hatt : ∀ k : Nat, k < t.length → ∃ j : Nat, j < t.length ∧ onPath t j k ∧ r.getD k 0 = ds.getD j 0 := by
    rw [hr]
    exact settle_att t ht ds _ ds hlen (by omega) (fun k hk => ⟨k, hk, up_self t t.length (k : Int) (by omega) (by omega), rfl⟩)
  have hdv : ∀ j : Nat, j < t.length → 0 ≤ ds.getD j 0 ∧ ds.getD j 0 ≤ 3 := by
    intro j hj
    refine hds _ ?_
    rw [List.getD_eq_getElem?_getD, List.getElem?_eq_getElem (show j < ds.length by omega)]
    exact List.getElem_mem _
  have hw2 : wishP t r := by
    refine ⟨ht, hrl, fun x hx => ?_⟩
    obtain ⟨k, hk, e⟩ := List.getElem_of_mem hx
    obtain ⟨j, h1, _, h3⟩ := hatt k (by omega)
    have : r.getD k 0 = x := by rw [List.getD_eq_getElem?_getD, List.getElem?_eq_getElem hk, ← e]; rfl
    rw [← this, h3]
    exact hdv j h1
  have hS := sleep_true t r ⟨hw2, fun k h1 h2 => ho k h1 h2⟩
  have hI2 := settle_i t r (by omega)
  rw [show settleR t r = r from by unfold settleR; rw [if_pos hw2]; exact settle_fix t _ r hrl (by omega) ho] at hI2
  have hq := sameInts_ev r (by omega)
  have hL : ∀ (d n : Nat), t.length - n = d → n ≤ t.length → Ev (fun z => laws_FnSleeps.l0 z t ds r (n : Int)) true := by
    intro d
    induction d with
    | zero =>
      intro n hd hn
      refine Ev.step (f := fun z => (impl_SettleSleep.f z t r).bind fun x => (laws_sameInts.f z x r).bind fun y => some y) (fun z => ?_) (Ev.bind hI2 (ev_map hq rfl))
      simp only [laws_FnSleeps.l0]
      rw [if_neg (by omega)]
    | succ d ih =>
      intro n hd hn
      have h := hatt n (by omega)
      have hl := least_l t ht ds r hlen hrl hle ho n (by omega) true (ih (n + 1) (by omega) (by omega)) t.length 0 3 rfl (Nat.zero_le _) (by obtain ⟨j, h1, _, h3⟩ := h; have := hdv j h1; omega) (Or.inr (by obtain ⟨j, h1, h2, h3⟩ := h; exact ⟨j, Nat.zero_le _, h1, h2, h3.symm⟩))
      refine Ev.step (f := fun z => laws_FnSleeps.l1 z t ds r n 3 ((0 : Nat) : Int)) (fun z => ?_) hl
      simp only [laws_FnSleeps.l0]
      rw [if_pos (by omega)]
      rfl
  refine Ev.bind hD (Ev.bind hI (Ev.bind hS (ev_pos rfl ?_)))
  refine Ev.step (f := fun z => laws_FnSleeps.l0 z t ds r ((0 : Nat) : Int)) (fun z => ?_) (hL t.length 0 rfl (Nat.zero_le _))
  simp only [laws_FnSleeps.j0]
  rw [if_neg (by simp [hrl])]
  rfl

end Go.Proofs.Ytdolbkocghgibaa.Pure

/- The law FnExactSlotsOf over numbers and lists. No condition beyond the bounds of what a Go value may be. -/
import Derived.Test.YteeklekfafedcaaEvl
import Derived.Test.YteeklekfafedcaaHof
import Derived.Test.YteeklekfafedcaaPFnExactSlotsOfx6
namespace Go.Proofs.Yteeklekfafedcaa.Pure
open Go.RowKit Go.Proofs.Yteeklekfafedcaa.PFnExactSlotsOf Go.Proofs.YteeklekfafedcaaW.PrintWords Go.Proofs.YteeklekfafedcaaW.PrintLast Go.Proofs.YteeklekfafedcaaW.PrintMore Go.Proofs.Yteeklekfafedcaa.Evl
set_option linter.unusedVariables false
set_option linter.unusedSimpArgs false

def wf105 (x : S105) : Prop := ((Lit.int .i64 x.f0).wf = true) ∧ ((Lit.int .i64 x.f1).wf = true) ∧ ((Lit.int .i64 x.f2).wf = true)

theorem in_s (a b c : Int) : spec_l01In.f a b c = some (decide (b ≤ a ∧ a ≤ c)) := by
  unfold spec_l01In.f
  by_cases h : a ≥ b
  · rw [if_pos h]; simp [h]
  · rw [if_neg h]; simp [h]
theorem in_i (a b c : Int) : impl_within.f a b c = some (decide (b ≤ a ∧ a ≤ c)) := by
  unfold impl_within.f
  by_cases h : a ≥ b
  · rw [if_pos h]; simp [h]
  · rw [if_neg h]; simp [h]
theorem some_beq (b : Bool) : ((some b : Option Bool) == some true) = b := by cases b <;> rfl
theorem anyO_tot {α : Type} (p : α → Bool) (l : List α) : anyO (fun x => some (p x)) l = some (l.any p) := by
  unfold anyO
  rw [if_pos (by simp)]
  simp only [some_beq]
theorem idxO_tot {α : Type} (p : α → Bool) (l : List α) : idxO (fun x => some (p x)) l = some (optAt (l.findIdx? p)) := by
  unfold idxO
  rw [if_pos (by simp)]
  simp only [some_beq]
/-- What it is to be a valid node number k, and a valid tree. -/
def nd (t : List S84) (k : Nat) : S84 := t.getD k z84
def nodeP (t : List S84) (k : Nat) : Prop := (0 ≤ (nd t k).f0 ∧ (nd t k).f0 ≤ (k : Int) - 1) ∧ (nd t (nd t k).f0.toNat).f2 = 0 ∧ (0 ≤ (nd t k).f1 ∧ (nd t k).f1 ≤ 3) ∧ (0 ≤ (nd t k).f2 ∧ (nd t k).f2 ≤ 4) ∧ ¬ ∃ j : Nat, j < k ∧ (nd t j).f0 = (nd t k).f0 ∧ (nd t j).f1 = (nd t k).f1
def rootP (t : List S84) : Prop := (nd t 0).f0 = -1 ∧ (nd t 0).f1 = 0 ∧ (nd t 0).f2 = 0
def treeP (t : List S84) : Prop := (1 ≤ t.length ∧ t.length ≤ 12) ∧ rootP t ∧ ∀ k : Nat, 1 ≤ k → k < t.length → nodeP t k
theorem rd_nd (t : List S84) (k : Nat) : rd_T84 t (k : Int) = nd t k := rfl
theorem rd_nd' (t : List S84) (i : Int) : rd_T84 t i = nd t i.toNat := rfl
open Classical in
theorem from_k (t : List S84) (k : Nat) (hk : k < t.length) : (∀ j : Nat, k ≤ j → j < t.length → nodeP t j) ↔ nodeP t k ∧ ∀ j : Nat, k + 1 ≤ j → j < t.length → nodeP t j :=
  ⟨fun h => ⟨h k (Nat.le_refl _) hk, fun j h1 h2 => h j (by omega) h2⟩, fun ⟨h0, h⟩ j h1 h2 => by
    rcases Nat.eq_or_lt_of_le h1 with e | e
    · exact e ▸ h0
    · exact h j e h2⟩
theorem root_b (t : List S84) : (!(((rd_T84 t 0).f0) == (-1)) || (!(((rd_T84 t 0).f1) == 0) || (!(((rd_T84 t 0).f2) == 0)))) = true ↔ ¬ rootP t := by
  unfold rootP
  show (!((nd t 0).f0 == (-1)) || (!((nd t 0).f1 == 0) || (!((nd t 0).f2 == 0)))) = true ↔ _
  by_cases h1 : (nd t 0).f0 = -1 <;> by_cases h2 : (nd t 0).f1 = 0 <;> by_cases h3 : (nd t 0).f2 = 0 <;> simp [h1, h2, h3]
section
open Classical
theorem tree_s1 (t : List S84) (hl : t.length ≤ 12) (k : Nat) (hk : k < t.length) (p d f : Int) (r : Bool) (hr : Ev (fun n => spec_TreeOk.l0 n t ((k + 1 : Nat) : Int)) r) (m : Nat) : ∀ i : Nat, k - i = m → i ≤ k → Ev (fun n => spec_TreeOk.l1 n t k i p d f) (if ∃ j : Nat, i ≤ j ∧ j < k ∧ (nd t j).f0 = p ∧ (nd t j).f1 = d then false else r) := by
  induction m with
  | zero =>
    intro i hm hi
    have e : i = k := by omega
    subst e
    rw [if_neg (by rintro ⟨j, h1, h2, _⟩; omega)]
    refine Ev.step (f := fun n => spec_TreeOk.l0 n t ((i + 1 : Nat) : Int)) (fun n => ?_) hr
    simp only [spec_TreeOk.l1]
    rw [if_neg (by omega), wrap_id (x := (i : Int) + 1) (by omega) (by omega)]
    rfl
  | succ m ih =>
    intro i hm hi
    have hn := ih (i + 1) (by omega) (by omega)
    refine Ev.step (f := fun n => if (nd t i).f0 = p then (if (nd t i).f1 = d then some false else spec_TreeOk.l1 n t k ((i + 1 : Nat) : Int) p d f) else spec_TreeOk.l1 n t k ((i + 1 : Nat) : Int) p d f) (fun n => ?_) ?_
    · simp only [spec_TreeOk.l1]
      rw [if_pos (by omega), if_pos (by omega), if_pos (by omega), rd_nd, wrap_id (x := (i : Int) + 1) (by omega) (by omega)]
      rfl
    · by_cases h1 : (nd t i).f0 = p
      · refine ev_pos h1 ?_
        by_cases h2 : (nd t i).f1 = d
        · refine ev_pos h2 ?_
          rw [if_pos ⟨i, Nat.le_refl _, by omega, h1, h2⟩]
          exact Ev.now _
        · refine ev_neg h2 (ev_to hn (ite_iff ⟨fun ⟨j, a, b⟩ => ⟨j, by omega, b⟩, fun ⟨j, a, b⟩ => ⟨j, ?_, b⟩⟩ _ _))
          rcases Nat.eq_or_lt_of_le a with e | e
          · subst e; exact absurd b.2.2 h2
          · exact e
      · refine ev_neg h1 (ev_to hn (ite_iff ⟨fun ⟨j, a, b⟩ => ⟨j, by omega, b⟩, fun ⟨j, a, b⟩ => ⟨j, ?_, b⟩⟩ _ _))
        rcases Nat.eq_or_lt_of_le a with e | e
        · subst e; exact absurd b.2.1 h1
        · exact e
theorem tree_s0 (t : List S84) (hl : t.length ≤ 12) (hroot : rootP t) (m : Nat) : ∀ k : Nat, t.length - k = m → 1 ≤ k → k ≤ t.length → Ev (fun n => spec_TreeOk.l0 n t (k : Int)) (decide (∀ j : Nat, k ≤ j → j < t.length → nodeP t j)) := by
  induction m with
  | zero =>
    intro k hm h1 hk
    rw [decide_eq_true (by intro j h2 h3; omega)]
    refine Ev.step (f := fun _ => some true) (fun n => ?_) (Ev.now _)
    simp only [spec_TreeOk.l0]
    rw [if_neg (by omega)]
  | succ m ih =>
    intro k hm h1 hk
    have hlt : k < t.length := by omega
    have hn := ih (k + 1) (by omega) (by omega) (by omega)
    have hi := tree_s1 t hl k hlt (nd t k).f0 (nd t k).f1 (nd t k).f2 _ hn (k - 1) 1 rfl (by omega)
    have hj : ∀ b : Bool, Ev (fun n => spec_TreeOk.j2 n t k b (nd t k).f0 (nd t k).f1 (nd t k).f2) (if b = true then false else (if ∃ j : Nat, 1 ≤ j ∧ j < k ∧ (nd t j).f0 = (nd t k).f0 ∧ (nd t j).f1 = (nd t k).f1 then false else decide (∀ j : Nat, k + 1 ≤ j → j < t.length → nodeP t j))) := by
      intro b
      refine Ev.step (f := fun n => if b = true then some false else spec_TreeOk.l1 n t k 1 (nd t k).f0 (nd t k).f1 (nd t k).f2) (fun n => ?_) (ev_ite (fun _ => Ev.now _) (fun _ => hi))
      simp only [spec_TreeOk.j2]
    have hb := hj true
    rw [if_pos rfl] at hb
    refine Ev.step (f := fun n => if (0 ≤ (nd t k).f0 ∧ (nd t k).f0 ≤ (k : Int) - 1) then (if (nd t (nd t k).f0.toNat).f2 = 0 then (if (0 ≤ (nd t k).f1 ∧ (nd t k).f1 ≤ 3) then spec_TreeOk.j2 n t k (!decide (0 ≤ (nd t k).f2 ∧ (nd t k).f2 ≤ 4)) (nd t k).f0 (nd t k).f1 (nd t k).f2 else spec_TreeOk.j2 n t k true (nd t k).f0 (nd t k).f1 (nd t k).f2) else spec_TreeOk.j2 n t k true (nd t k).f0 (nd t k).f1 (nd t k).f2) else spec_TreeOk.j2 n t k true (nd t k).f0 (nd t k).f1 (nd t k).f2) (fun n => ?_) ?_
    · simp only [spec_TreeOk.l0]
      rw [if_pos (by omega), if_pos (by omega), rd_nd, wrap_id (x := (k : Int) - 1) (by omega) (by omega)]
      simp only [in_s, Option.bind_some, decide_eq_true_eq]
      by_cases h3 : 0 ≤ (nd t k).f0 ∧ (nd t k).f0 ≤ (k : Int) - 1
      · rw [if_pos h3, if_pos h3, if_pos h3.1, if_pos (by omega), rd_nd']
      · rw [if_neg h3, if_neg h3]
    · rw [show decide (∀ j : Nat, k ≤ j → j < t.length → nodeP t j) = (decide (nodeP t k) && decide (∀ j : Nat, k + 1 ≤ j → j < t.length → nodeP t j)) from by rw [decide_eq_decide.2 (from_k t k hlt)]; exact Bool.decide_and _ _]
      by_cases h3 : 0 ≤ (nd t k).f0 ∧ (nd t k).f0 ≤ (k : Int) - 1
      · refine ev_pos h3 ?_
        by_cases h4 : (nd t (nd t k).f0.toNat).f2 = 0
        · refine ev_pos h4 ?_
          by_cases h5 : 0 ≤ (nd t k).f1 ∧ (nd t k).f1 ≤ 3
          · refine ev_pos h5 (ev_to (hj _) ?_)
            by_cases h6 : 0 ≤ (nd t k).f2 ∧ (nd t k).f2 ≤ 4
            · rw [if_neg (by simp [h6])]
              by_cases h7 : ∃ j : Nat, 1 ≤ j ∧ j < k ∧ (nd t j).f0 = (nd t k).f0 ∧ (nd t j).f1 = (nd t k).f1
              · rw [if_pos h7, decide_eq_false (fun h => h.2.2.2.2 (by obtain ⟨j, _, a⟩ := h7; exact ⟨j, a⟩))]; rfl
              · rw [if_neg h7, decide_eq_true (p := nodeP t k) ⟨h3, h4, h5, h6, ?_⟩]
                · rfl
                · rintro ⟨j, h8, h9, h10⟩
                  rcases Nat.eq_zero_or_pos j with e | e
                  · subst e; have := hroot.1; omega
                  · exact h7 ⟨j, e, h8, h9, h10⟩
            · rw [if_pos (by simp only [h6, decide_false, Bool.not_false]), decide_eq_false (fun h => h6 h.2.2.2.1)]; rfl
          · refine ev_neg h5 (ev_to hb ?_)
            rw [decide_eq_false (p := nodeP t k) (fun h => h5 h.2.2.1)]; rfl
        · refine ev_neg h4 (ev_to hb ?_)
          rw [decide_eq_false (p := nodeP t k) (fun h => h4 h.2.1)]; rfl
      · refine ev_neg h3 (ev_to hb ?_)
        rw [decide_eq_false (p := nodeP t k) (fun h => h3 h.1)]; rfl
theorem tree_s (t : List S84) : Ev (fun n => spec_TreeOk.f n t) (decide (treeP t)) := by
  have hb : Ev (fun n => spec_TreeOk.j0 n t true) false := by
    refine Ev.step (f := fun _ => some false) (fun n => ?_) (Ev.now _)
    simp [spec_TreeOk.j0]
  simp only [spec_TreeOk.f, in_s, Option.bind_some, decide_eq_true_eq]
  by_cases h1 : (1 : Int) ≤ t.length ∧ (t.length : Int) ≤ 12
  · refine ev_pos h1 (ev_pos (by omega) ?_)
    by_cases h2 : rootP t
    · have e : (!(((rd_T84 t 0).f0) == (-1)) || (!(((rd_T84 t 0).f1) == 0) || (!(((rd_T84 t 0).f2) == 0)))) = false := Bool.eq_false_iff.2 (fun h => (root_b t).1 h h2)
      rw [e]
      refine Ev.step (f := fun n => spec_TreeOk.l0 n t ((1 : Nat) : Int)) (fun n => by simp [spec_TreeOk.j0]) (ev_to (tree_s0 t (by omega) h2 (t.length - 1) 1 rfl (by omega) (by omega)) ?_)
      exact decide_eq_decide.2 ⟨fun h => ⟨by omega, h2, h⟩, fun h => h.2.2⟩
    · rw [(root_b t).2 h2]
      refine ev_to hb ?_
      rw [decide_eq_false (fun h => h2 h.2.1)]
  · refine ev_neg h1 (ev_to hb ?_)
    rw [decide_eq_false (fun h => h1 (by have := h.1; omega))]
end
section
open Classical
theorem any_dup (t : List S84) (k : Nat) (hk : k ≤ t.length) (p d f : Int) : slices_ContainsFunc__impl_TreeOk_1.f (t.take k) p d f = some (decide (∃ j : Nat, j < k ∧ (nd t j).f0 = p ∧ (nd t j).f1 = d)) := by
  simp only [slices_ContainsFunc__impl_TreeOk_1.f, impl_TreeOk_1.f]
  rw [anyO_tot]
  congr 1
  rw [Bool.eq_iff_iff, List.any_eq_true, decide_eq_true_iff]
  constructor
  · rintro ⟨x, hx, hp⟩
    obtain ⟨j, hj, rfl⟩ := List.getElem_of_mem hx
    rw [List.length_take] at hj
    refine ⟨j, by omega, ?_⟩
    simp only [nd, List.getD_eq_getElem?_getD, List.getElem?_eq_getElem (show j < t.length by omega), Option.getD_some]
    simpa using hp
  · rintro ⟨j, hj, hp⟩
    refine ⟨(t.take k)[j]'(by rw [List.length_take]; omega), List.getElem_mem _, ?_⟩
    simp only [nd, List.getD_eq_getElem?_getD, List.getElem?_eq_getElem (show j < t.length by omega), Option.getD_some] at hp
    simpa using hp
theorem nd_drop (t : List S84) (i : Nat) : nd (t.drop 1) i = nd t (i + 1) := by
  simp only [nd, List.getD_eq_getElem?_getD, List.getElem?_drop]
  rw [Nat.add_comm]
theorem nd_take (t : List S84) (i j : Nat) (h : j < i) : nd (t.take i) j = nd t j := by
  simp only [nd, List.getD_eq_getElem?_getD]
  rw [List.getElem?_take_of_lt h]
theorem tree_i0 (t : List S84) (hl : t.length ≤ 12) (m : Nat) : ∀ i : Nat, t.length - 1 - i = m → i + 1 ≤ t.length → Ev (fun n => impl_TreeOk.l0 n t (t.drop 1) ((t.drop 1).length : Int) (i : Int)) (decide (∀ j : Nat, i + 1 ≤ j → j < t.length → nodeP t j)) := by
  have hlen : (t.drop 1).length = t.length - 1 := by simp
  induction m with
  | zero =>
    intro i hm hk
    rw [decide_eq_true (by intro j h2 h3; omega)]
    refine Ev.step (f := fun _ => some true) (fun n => ?_) (Ev.now _)
    simp only [impl_TreeOk.l0]
    rw [if_neg (by omega)]
  | succ m ih =>
    intro i hm hk
    have hlt : i + 1 < t.length := by omega
    have hn := ih (i + 1) (by omega) (by omega)
    have hi : ∀ b : Bool, Ev (fun n => impl_TreeOk.j2 n t (t.take (i + 1)) (t.drop 1) ((t.drop 1).length : Int) i b (nd t (i + 1)).f0 (nd t (i + 1)).f1 (nd t (i + 1)).f2) (if b = true then false else (if ∃ j : Nat, j < i + 1 ∧ (nd t j).f0 = (nd t (i + 1)).f0 ∧ (nd t j).f1 = (nd t (i + 1)).f1 then false else decide (∀ j : Nat, i + 1 + 1 ≤ j → j < t.length → nodeP t j))) := by
      intro b
      refine Ev.step (f := fun n => if b = true then some false else (if ∃ j : Nat, j < i + 1 ∧ (nd t j).f0 = (nd t (i + 1)).f0 ∧ (nd t j).f1 = (nd t (i + 1)).f1 then some false else impl_TreeOk.l0 n t (t.drop 1) ((t.drop 1).length : Int) ((i + 1 : Nat) : Int))) (fun n => ?_) (ev_ite (fun _ => Ev.now _) (fun _ => ev_ite (fun _ => Ev.now _) (fun _ => hn)))
      simp only [impl_TreeOk.j2]
      rw [any_dup t (i + 1) (by omega), wrap_id (x := (i : Int) + 1) (by omega) (by omega)]
      simp only [Option.bind_some, decide_eq_true_eq]
      rfl
    have hb := hi true
    rw [if_pos rfl] at hb
    refine Ev.step (f := fun n => if (0 ≤ (nd t (i + 1)).f0 ∧ (nd t (i + 1)).f0 ≤ (i : Int)) then (if (nd t (nd t (i + 1)).f0.toNat).f2 = 0 then (if (0 ≤ (nd t (i + 1)).f1 ∧ (nd t (i + 1)).f1 ≤ 3) then impl_TreeOk.j2 n t (t.take (i + 1)) (t.drop 1) ((t.drop 1).length : Int) i (!decide (0 ≤ (nd t (i + 1)).f2 ∧ (nd t (i + 1)).f2 ≤ 4)) (nd t (i + 1)).f0 (nd t (i + 1)).f1 (nd t (i + 1)).f2 else impl_TreeOk.j2 n t (t.take (i + 1)) (t.drop 1) ((t.drop 1).length : Int) i true (nd t (i + 1)).f0 (nd t (i + 1)).f1 (nd t (i + 1)).f2) else impl_TreeOk.j2 n t (t.take (i + 1)) (t.drop 1) ((t.drop 1).length : Int) i true (nd t (i + 1)).f0 (nd t (i + 1)).f1 (nd t (i + 1)).f2) else impl_TreeOk.j2 n t (t.take (i + 1)) (t.drop 1) ((t.drop 1).length : Int) i true (nd t (i + 1)).f0 (nd t (i + 1)).f1 (nd t (i + 1)).f2) (fun n => ?_) ?_
    · simp only [impl_TreeOk.l0]
      rw [if_pos (by omega), if_pos (by omega), if_pos (by omega), wrap_id (x := (i : Int) + 1) (by omega) (by omega), if_pos (by omega), if_pos (by omega), rd_nd, nd_drop, show ((i : Int) + 1).toNat = i + 1 from by omega]
      simp only [in_i, Option.bind_some, decide_eq_true_eq]
      by_cases h3 : 0 ≤ (nd t (i + 1)).f0 ∧ (nd t (i + 1)).f0 ≤ (i : Int)
      · rw [if_pos h3, if_pos h3, if_pos h3.1, if_pos (by rw [List.length_take]; omega), rd_nd', nd_take t (i + 1) _ (by omega)]
      · rw [if_neg h3, if_neg h3]
    · rw [show decide (∀ j : Nat, i + 1 ≤ j → j < t.length → nodeP t j) = (decide (nodeP t (i + 1)) && decide (∀ j : Nat, i + 1 + 1 ≤ j → j < t.length → nodeP t j)) from by rw [decide_eq_decide.2 (from_k t (i + 1) hlt)]; exact Bool.decide_and _ _]
      by_cases h3 : 0 ≤ (nd t (i + 1)).f0 ∧ (nd t (i + 1)).f0 ≤ (i : Int)
      · refine ev_pos h3 ?_
        by_cases h4 : (nd t (nd t (i + 1)).f0.toNat).f2 = 0
        · refine ev_pos h4 ?_
          by_cases h5 : 0 ≤ (nd t (i + 1)).f1 ∧ (nd t (i + 1)).f1 ≤ 3
          · refine ev_pos h5 (ev_to (hi _) ?_)
            by_cases h6 : 0 ≤ (nd t (i + 1)).f2 ∧ (nd t (i + 1)).f2 ≤ 4
            · rw [if_neg (by simp [h6])]
              by_cases h7 : ∃ j : Nat, j < i + 1 ∧ (nd t j).f0 = (nd t (i + 1)).f0 ∧ (nd t j).f1 = (nd t (i + 1)).f1
              · rw [if_pos h7, decide_eq_false (fun h => h.2.2.2.2 h7)]; rfl
              · rw [if_neg h7, decide_eq_true (p := nodeP t (i + 1)) ⟨⟨h3.1, by omega⟩, h4, h5, h6, h7⟩]; rfl
            · rw [if_pos (by simp only [h6, decide_false, Bool.not_false]), decide_eq_false (fun h => h6 h.2.2.2.1)]; rfl
          · refine ev_neg h5 (ev_to hb ?_)
            rw [decide_eq_false (p := nodeP t (i + 1)) (fun h => h5 h.2.2.1)]; rfl
        · refine ev_neg h4 (ev_to hb ?_)
          rw [decide_eq_false (p := nodeP t (i + 1)) (fun h => h4 h.2.1)]; rfl
      · refine ev_neg h3 (ev_to hb ?_)
        rw [decide_eq_false (p := nodeP t (i + 1)) (fun h => h3 ⟨h.1.1, by have := h.1.2; omega⟩)]; rfl
theorem tree_i (t : List S84) : Ev (fun n => impl_TreeOk.f n t) (decide (treeP t)) := by
  have hb : Ev (fun n => impl_TreeOk.j0 n t true) false := by
    refine Ev.step (f := fun _ => some false) (fun n => ?_) (Ev.now _)
    simp [impl_TreeOk.j0]
  simp only [impl_TreeOk.f, in_i, Option.bind_some, decide_eq_true_eq]
  by_cases h1 : (1 : Int) ≤ t.length ∧ (t.length : Int) ≤ 12
  · refine ev_pos h1 (ev_pos (by omega) ?_)
    by_cases h2 : rootP t
    · have e : (!(((rd_T84 t 0).f0) == (-1)) || (!(((rd_T84 t 0).f1) == 0) || (!(((rd_T84 t 0).f2) == 0)))) = false := Bool.eq_false_iff.2 (fun h => (root_b t).1 h h2)
      rw [e]
      refine Ev.step (f := fun n => impl_TreeOk.l0 n t (t.drop 1) ((t.drop 1).length : Int) ((0 : Nat) : Int)) (fun n => ?_) (ev_to (tree_i0 t (by omega) (t.length - 1) 0 rfl (by omega)) ?_)
      · simp only [impl_TreeOk.j0]
        rw [if_neg (by decide), if_pos (by omega)]
        rfl
      exact decide_eq_decide.2 ⟨fun h => ⟨by omega, h2, h⟩, fun h => h.2.2⟩
    · rw [(root_b t).2 h2]
      refine ev_to hb ?_
      rw [decide_eq_false (fun h => h2 h.2.1)]
  · refine ev_neg h1 (ev_to hb ?_)
    rw [decide_eq_false (fun h => h1 (by have := h.1; omega))]
end
def toN (x : S105) : S84 := ⟨x.f0, x.f1, x.f2⟩
theorem toNodeS_l (l : List S105) (hl : l.length ≤ 11728124029610) (d : Nat) : ∀ (xs : List S84) (i : Nat), xs.length = l.length → l.length - i = d → i ≤ l.length → xs.take i = (l.take i).map toN →
    Ev (fun k => laws_toNodeS.l0 k l xs i) (l.map toN) := by
  induction d with
  | zero =>
    intro xs i hx hd hi ht
    refine Ev.step (f := fun _ => some (l.map toN)) (fun k => ?_) (Ev.now _)
    simp only [laws_toNodeS.l0]
    rw [if_neg (by omega)]
    rw [List.take_of_length_le (by omega), List.take_of_length_le (by omega)] at ht
    rw [ht]
  | succ d ih =>
    intro xs i hx hd hi ht
    refine Ev.step (f := fun k => laws_toNodeS.l0 k l (xs.set i (toN (l.getD i z105))) (i + 1 : Nat)) (fun k => ?_) (ih _ _ (by simpa using hx) (by omega) (by omega) (take_set_map toN l xs i z105 hx (by omega) ht))
    simp only [laws_toNodeS.l0, laws_toNode.f, Option.bind_some]
    rw [if_pos (by omega), if_pos (by omega), if_pos (by omega), wrap_id (x := (i : Int) + 1) (by omega) (by omega)]
    rfl
theorem toNodeS_ev (l : List S105) (hl : l.length ≤ 11728124029610) : Ev (fun k => laws_toNodeS.f k l) (l.map toN) := by
  refine Ev.congr (f := fun k => laws_toNodeS.l0 k l (List.replicate l.length z84) (0 : Nat)) (fun k => ?_) (toNodeS_l l hl l.length _ 0 (by simp) (by omega) (by omega) (by simp))
  simp only [laws_toNodeS.f]
  rw [if_pos (by omega), if_pos (by omega)]
  rfl
theorem eqNode_self (x : S84) : laws_eqNode.f x.f0 x.f1 x.f2 x.f0 x.f1 x.f2 = some true := by simp [laws_eqNode.f]
theorem eqNodeS_l (l : List S84) (hl : l.length ≤ 11728124029610) (d : Nat) : ∀ i : Nat, l.length - i = d → Ev (fun k => laws_eqNodeS.l0 k l l i) true := by
  induction d with
  | zero =>
    intro i hd
    refine Ev.step (f := fun _ => some true) (fun k => ?_) (Ev.now _)
    simp only [laws_eqNodeS.l0]
    rw [if_neg (by omega)]
  | succ d ih =>
    intro i hd
    refine Ev.step (f := fun k => laws_eqNodeS.l0 k l l (i + 1 : Nat)) (fun k => ?_) (ih _ (by omega))
    simp only [laws_eqNodeS.l0, eqNode_self, Option.bind_some]
    rw [if_pos (by omega), if_pos (by omega), if_pos (by omega), if_pos trivial, wrap_id (x := (i : Int) + 1) (by omega) (by omega)]
    rfl
theorem eqNodeS_ev (l : List S84) (hl : l.length ≤ 11728124029610) : Ev (fun k => laws_eqNodeS.f k l l) true := by
  simp only [laws_eqNodeS.f]
  exact ev_pos trivial (eqNodeS_l l hl l.length 0 (by omega))
theorem sz_node (l : List S105) (hl : l.length ≤ 11728124029610) (m : Int) (h0 : 0 ≤ m) (h1 : m ≤ 1048576) : laws_szNodeS.f l m = some (if (l.length : Int) ≤ m then m - (l.length : Int) else -1) := by
  simp only [laws_szNodeS.f]
  rw [wrap_id (by omega) (by omega)]
  by_cases h : (l.length : Int) ≤ m
  · rw [if_neg (by omega), if_pos h]
  · rw [if_pos (by omega), if_neg h]
theorem gset_self {α : Type} (l : List α) (i : Nat) (a z : α) (h : i < l.length) : (l.set i a).getD i z = a := by
  simp [List.getD_eq_getElem?_getD, List.getElem?_set, h]
theorem gset_ne {α : Type} (l : List α) (i j : Nat) (a z : α) (h : i ≠ j) : (l.set i a).getD j z = l.getD j z := by
  simp [List.getD_eq_getElem?_getD, List.getElem?_set, h]
theorem rdN (l : List S84) (i : Nat) : rd_T84 l (i : Int) = l.getD i z84 := rfl
def nmk (k : Int) (j : Nat) : S84 := ⟨k + 3 * (j : Int), k + 3 * (j : Int) + 1, k + 3 * (j : Int) + 2⟩
theorem markNodeS_l (k : Int) (h0 : 0 ≤ k) (len : Nat) (hl : k + 3 * (len : Int) ≤ 1152921504606846976) (d : Nat) : ∀ (xs : List S84) (i : Nat), xs.length = len → len - i = d → i ≤ len → (∀ j : Nat, j < i → xs.getD j z84 = nmk k j) →
    ∃ ys : List S84, Ev (fun n => laws_markNodeS.l0 n xs (k + 3 * (i : Int)) i) (k + 3 * (len : Int), ys) ∧ ys.length = len ∧ ∀ j : Nat, j < len → ys.getD j z84 = nmk k j := by
  induction d with
  | zero =>
    intro xs i hx hd hi hm
    have e : i = len := by omega
    subst e
    refine ⟨xs, Ev.step (f := fun _ => some (k + 3 * (i : Int), xs)) (fun n => ?_) (Ev.now _), hx, hm⟩
    simp only [laws_markNodeS.l0]
    rw [if_neg (by omega)]
  | succ d ih =>
    intro xs i hx hd hi hm
    have hlt : i < xs.length := by omega
    obtain ⟨ys, h1, h2, h3⟩ := ih (xs.set i (nmk k i)) (i + 1) (by simpa using hx) (by omega) (by omega) (by
      intro j hj
      rcases Nat.eq_or_lt_of_le (Nat.le_of_lt_succ hj) with e | e
      · subst e; exact gset_self _ _ _ _ hlt
      · rw [gset_ne _ _ _ _ _ (by omega)]; exact hm j e)
    refine ⟨ys, Ev.step (f := fun n => laws_markNodeS.l0 n (xs.set i (nmk k i)) (k + 3 * ((i + 1 : Nat) : Int)) ((i + 1 : Nat) : Int)) (fun n => ?_) h1, h2, h3⟩
    simp only [laws_markNodeS.l0]
    rw [if_pos (by omega), if_pos (by omega)]
    simp only [Option.bind_some, Int.toNat_natCast]
    rw [rdN, rdN, rdN]
    rw [gset_self _ _ _ _ hlt, gset_self _ _ _ _ (by simpa using hlt), List.set_set, List.set_set]
    rw [wrap_id (x := k + 3 * (i : Int) + 1) (by omega) (by omega), wrap_id (x := k + 3 * (i : Int) + 1 + 1) (by omega) (by omega), wrap_id (x := k + 3 * (i : Int) + 1 + 1 + 1) (by omega) (by omega), wrap_id (x := (i : Int) + 1) (by omega) (by omega)]
    rw [show k + 3 * (i : Int) + 1 + 1 + 1 = k + 3 * ((i + 1 : Nat) : Int) from by omega, show (i : Int) + 1 = ((i + 1 : Nat) : Int) from rfl, show k + 3 * (i : Int) + 1 + 1 = k + 3 * (i : Int) + 2 from by omega]
    rfl
theorem nodeS_mark (xs : List S84) (hl : xs.length ≤ 2097152) (k : Int) (h0 : 0 ≤ k) (h1 : k ≤ 1000000000000) : ∃ ys : List S84, Ev (fun n => laws_markNodeS.f n xs k) (k + 3 * (xs.length : Int), ys) ∧ ys.length = xs.length := by
  obtain ⟨ys, a, b, c⟩ := markNodeS_l k h0 xs.length (by omega) xs.length xs 0 rfl rfl (Nat.zero_le _) (fun j hj => by omega)
  refine ⟨ys, ?_, b⟩
  have : Ev (fun n => laws_markNodeS.l0 n xs (k + 3 * ((0 : Nat) : Int)) ((0 : Nat) : Int)) (k + 3 * (xs.length : Int), ys) := a
  rw [show k + 3 * ((0 : Nat) : Int) = k from by omega] at this
  exact this
theorem eqIntS_l (l : List Int) (hl : l.length ≤ 11728124029610) (d : Nat) : ∀ i : Nat, l.length - i = d → Ev (fun k => laws_eqIntS.l0 k l l i) true := by
  induction d with
  | zero =>
    intro i hd
    refine Ev.step (f := fun _ => some true) (fun k => ?_) (Ev.now _)
    simp only [laws_eqIntS.l0]
    rw [if_neg (by omega)]
  | succ d ih =>
    intro i hd
    refine Ev.step (f := fun k => laws_eqIntS.l0 k l l (i + 1 : Nat)) (fun k => ?_) (ih _ (by omega))
    simp only [laws_eqIntS.l0]
    rw [if_pos (by omega), if_pos (by omega), if_pos (by omega), if_pos trivial, wrap_id (x := (i : Int) + 1) (by omega) (by omega)]
    rfl
theorem eqIntS_ev (l : List Int) (hl : l.length ≤ 11728124029610) : Ev (fun k => laws_eqIntS.f k l l) true := by
  simp only [laws_eqIntS.f]
  exact ev_pos trivial (eqIntS_l l hl l.length 0 (by omega))
theorem rdI (l : List Int) (i : Nat) : rd l (i : Int) = l.getD i 0 := rfl
theorem markIntS_l (k : Int) (h0 : 0 ≤ k) (len : Nat) (hl : k + (len : Int) ≤ 1152921504606846976) (d : Nat) : ∀ (xs : List Int) (i : Nat), xs.length = len → len - i = d → i ≤ len → (∀ j : Nat, j < i → xs.getD j 0 = k + (j : Int)) →
    ∃ ys : List Int, Ev (fun n => laws_markIntS.l0 n xs (k + (i : Int)) i) (k + (len : Int), ys) ∧ ys.length = len ∧ ∀ j : Nat, j < len → ys.getD j 0 = k + (j : Int) := by
  induction d with
  | zero =>
    intro xs i hx hd hi hm
    have e : i = len := by omega
    subst e
    refine ⟨xs, Ev.step (f := fun _ => some (k + (i : Int), xs)) (fun n => ?_) (Ev.now _), hx, hm⟩
    simp only [laws_markIntS.l0]
    rw [if_neg (by omega)]
  | succ d ih =>
    intro xs i hx hd hi hm
    have hlt : i < xs.length := by omega
    obtain ⟨ys, h1, h2, h3⟩ := ih (xs.set i (k + (i : Int))) (i + 1) (by simpa using hx) (by omega) (by omega) (by
      intro j hj
      rcases Nat.eq_or_lt_of_le (Nat.le_of_lt_succ hj) with e | e
      · subst e; exact gset_self _ _ _ _ hlt
      · rw [gset_ne _ _ _ _ _ (by omega)]; exact hm j e)
    refine ⟨ys, Ev.step (f := fun n => laws_markIntS.l0 n (xs.set i (k + (i : Int))) (k + ((i + 1 : Nat) : Int)) ((i + 1 : Nat) : Int)) (fun n => ?_) h1, h2, h3⟩
    simp only [laws_markIntS.l0]
    rw [if_pos (by omega), if_pos (by omega), wrap_id (x := k + (i : Int) + 1) (by omega) (by omega), wrap_id (x := (i : Int) + 1) (by omega) (by omega), show k + (i : Int) + 1 = k + ((i + 1 : Nat) : Int) from by omega]
    rfl
theorem heldIntS_l (k : Int) (h0 : 0 ≤ k) (ys : List Int) (hl : k + (ys.length : Int) ≤ 1152921504606846976) (hm : ∀ j : Nat, j < ys.length → ys.getD j 0 = k + (j : Int)) (d : Nat) : ∀ i : Nat, ys.length - i = d → i ≤ ys.length →
    Ev (fun n => laws_heldIntS.l0 n ys (k + (i : Int)) i) (k + (ys.length : Int)) := by
  induction d with
  | zero =>
    intro i hd hi
    have e : i = ys.length := by omega
    subst e
    refine Ev.step (f := fun _ => some (k + (ys.length : Int))) (fun n => ?_) (Ev.now _)
    simp only [laws_heldIntS.l0]
    rw [if_neg (by omega)]
  | succ d ih =>
    intro i hd hi
    refine Ev.step (f := fun n => laws_heldIntS.l0 n ys (k + ((i + 1 : Nat) : Int)) ((i + 1 : Nat) : Int)) (fun n => ?_) (ih (i + 1) (by omega) (by omega))
    simp only [laws_heldIntS.l0]
    rw [if_pos (by omega), if_pos (by omega), rdI, hm i (by omega), if_pos rfl, wrap_id (x := k + (i : Int) + 1) (by omega) (by omega), wrap_id (x := (i : Int) + 1) (by omega) (by omega), show k + (i : Int) + 1 = k + ((i + 1 : Nat) : Int) from by omega]
    rfl
theorem intS_marks (xs : List Int) (hl : xs.length ≤ 2097152) (k : Int) (h0 : 0 ≤ k) (h1 : k ≤ 1000000000000) : ∃ ys : List Int, Ev (fun n => laws_markIntS.f n xs k) (k + (xs.length : Int), ys) ∧ ys.length = xs.length ∧ Ev (fun n => laws_heldIntS.f n ys k) (k + (xs.length : Int)) := by
  obtain ⟨ys, a, b, c⟩ := markIntS_l k h0 xs.length (by omega) xs.length xs 0 rfl rfl (Nat.zero_le _) (fun j hj => by omega)
  refine ⟨ys, ?_, b, ?_⟩
  · have : Ev (fun n => laws_markIntS.l0 n xs (k + ((0 : Nat) : Int)) ((0 : Nat) : Int)) (k + (xs.length : Int), ys) := a
    rw [show k + ((0 : Nat) : Int) = k from by omega] at this
    exact this
  · have := heldIntS_l k h0 ys (by omega) (by rw [b]; exact c) ys.length 0 rfl (Nat.zero_le _)
    rw [show k + ((0 : Nat) : Int) = k from by omega, b] at this
    exact this
section
open Classical
/-- is there a node with this parent and this device -/
noncomputable def occ (t : List S84) (k d : Int) : Bool := decide (∃ j : Nat, j < t.length ∧ (nd t j).f0 = k ∧ (nd t j).f1 = d)
noncomputable def outs (t : List S84) (k : Int) : Nat → Int → List Int
  | 0, _ => []
  | m + 1, d => (if occ t k d = true then [] else [d]) ++ outs t k m (d + 1)
theorem outs_len (t : List S84) (k : Int) (m : Nat) : ∀ d : Int, (outs t k m d).length ≤ m := by
  induction m with
  | zero => intro d; exact Nat.le_refl _
  | succ m ih =>
    intro d
    have := ih (d + 1)
    simp only [outs, List.length_append]
    split <;> simp <;> omega
noncomputable def slotsR (t : List S84) (k : Int) : List Int := if treeP t ∧ (0 ≤ k ∧ k ≤ (t.length : Int) - 1) ∧ (nd t k.toNat).f2 = 0 then outs t k 4 0 else []
theorem slotsR_len (t : List S84) (k : Int) : (slotsR t k).length ≤ 4 := by
  unfold slotsR
  split
  · exact outs_len t k 4 0
  · simp
end
section
open Classical
theorem occ_any (t : List S84) (k d : Int) : slices_ContainsFunc__impl_SlotsOf_1.f t k d = some (occ t k d) := by
  unfold slices_ContainsFunc__impl_SlotsOf_1.f
  simp only [impl_SlotsOf_1.f]
  rw [anyO, if_pos (by simp)]
  congr 1
  unfold occ
  rw [Bool.eq_iff_iff, List.any_eq_true, decide_eq_true_iff]
  constructor
  · rintro ⟨x, hx, e⟩
    obtain ⟨j, hj, rfl⟩ := List.getElem_of_mem hx
    refine ⟨j, hj, ?_⟩
    have h1 : nd t j = t[j] := by simp [nd, List.getD_eq_getElem?_getD, List.getElem?_eq_getElem hj]
    rw [h1]
    simpa using e
  · rintro ⟨j, hj, h1, h2⟩
    have h3 : nd t j = t[j] := by simp [nd, List.getD_eq_getElem?_getD, List.getElem?_eq_getElem hj]
    rw [h3] at h1 h2
    exact ⟨t[j], List.getElem_mem hj, by simp [h1, h2]⟩
theorem slots_il (t : List S84) (k : Int) (m : Nat) : ∀ (d : Int) (acc : List Int), 0 ≤ d → d + m = 4 → acc.length ≤ 1000 + d.toNat → Ev (fun n => impl_SlotsOf.l0 n t acc d k) (acc ++ outs t k m d) := by
  induction m with
  | zero =>
    intro d acc h0 h1 h2
    refine Ev.step (f := fun _ => some acc) (fun n => ?_) (ev_to (Ev.now _) (by simp [outs]))
    simp only [impl_SlotsOf.l0]
    rw [if_neg (by omega)]
  | succ m ih =>
    intro d acc h0 h1 h2
    have h3 := ih (d + 1) acc (by omega) (by omega) (by omega)
    have h4 := ih (d + 1) (acc ++ [d]) (by omega) (by omega) (by simp; omega)
    refine Ev.step (fun n => by simp only [impl_SlotsOf.l0, occ_any, Option.bind_some]; rw [if_pos (show d < 4 by omega), wrap_id (x := d + 1) (by omega) (by omega)]) ?_
    by_cases h : occ t k d = true
    · refine ev_pos h (ev_to h3 ?_)
      simp only [outs]
      rw [if_pos h, List.nil_append]
    · refine ev_neg h (ev_pos (by omega) (ev_to h4 ?_))
      simp only [outs]
      rw [if_neg h, List.append_assoc]
theorem slots_i (t : List S84) (hl : t.length ≤ 1048576) (k : Int) : Ev (fun n => impl_SlotsOf.f n t k) (slotsR t k) := by
  simp only [impl_SlotsOf.f, Option.bind_some]
  have hb : Ev (fun n => impl_SlotsOf.j0 n t [] true k) [] := by
    refine Ev.step (f := fun _ => some []) (fun n => ?_) (Ev.now _)
    simp only [impl_SlotsOf.j0]
    rw [if_pos trivial]
  have hN : Ev (fun n => impl_isNode.f n t k) (decide (treeP t ∧ (0 ≤ k ∧ k ≤ (t.length : Int) - 1))) := by
    simp only [impl_isNode.f, in_i, Option.bind_some]
    refine Ev.bind (tree_i t) ?_
    rw [wrap_id (x := (t.length : Int) - 1) (by omega) (by omega)]
    by_cases h : treeP t
    · exact ev_pos (by simpa using h) (ev_to (Ev.now _) (by simp [h]))
    · exact ev_neg (by simpa using h) (ev_to (Ev.now _) (by simp [h]))
  refine Ev.bind hN ?_
  unfold slotsR
  by_cases h : treeP t ∧ (0 ≤ k ∧ k ≤ (t.length : Int) - 1)
  · refine ev_pos (by simpa using h) ?_
    simp only [impl_isBridge.f]
    rw [if_pos h.2.1, if_pos (by omega)]
    simp only [Option.bind_some]
    have hr : rd_T84 t k = nd t k.toNat := rfl
    rw [hr]
    by_cases h2 : (nd t k.toNat).f2 = 0
    · rw [if_pos ⟨h.1, h.2, h2⟩]
      refine Ev.step (f := fun n => impl_SlotsOf.l0 n t [] 0 k) (fun n => ?_) (ev_to (slots_il t k 4 0 [] (by omega) (by omega) (by simp)) (by simp))
      simp only [impl_SlotsOf.j0]
      rw [if_neg (by simp [h2])]
    · rw [if_neg (fun x => h2 x.2.2)]
      rw [show (!((nd t k.toNat).f2 == 0)) = true from by simp [h2]]
      exact hb
  · rw [if_neg (fun x => h ⟨x.1, x.2.1⟩)]
    exact ev_neg (by simpa using h) hb
end
section
open Classical
def ch1 (t : List S84) (k d : Int) : Nat → Nat → List Int
  | 0, _ => []
  | m + 1, i => (if (nd t i).f0 = k ∧ (nd t i).f1 = d then [(i : Int)] else []) ++ ch1 t k d m (i + 1)
def chs (t : List S84) (k : Int) : Nat → Int → List Int
  | 0, _ => []
  | m + 1, d => ch1 t k d (t.length - 1) 1 ++ chs t k m (d + 1)
theorem ch1_len (t : List S84) (k d : Int) (m : Nat) : ∀ i : Nat, (ch1 t k d m i).length ≤ m := by
  induction m with
  | zero => intro i; exact Nat.le_refl _
  | succ m ih =>
    intro i
    have := ih (i + 1)
    simp only [ch1, List.length_append]
    split <;> simp <;> omega
theorem chs_len (t : List S84) (k : Int) (m : Nat) : ∀ d : Int, (chs t k m d).length ≤ m * t.length := by
  induction m with
  | zero => intro d; simp [chs]
  | succ m ih =>
    intro d
    have h1 := ih (d + 1)
    have h2 := ch1_len t k d (t.length - 1) 1
    simp only [chs, List.length_append]
    rw [Nat.add_mul]
    omega
theorem ch1_mem (t : List S84) (k d : Int) (m : Nat) : ∀ (i : Nat) (x : Int), x ∈ ch1 t k d m i ↔ ∃ j : Nat, x = (j : Int) ∧ i ≤ j ∧ j < i + m ∧ (nd t j).f0 = k ∧ (nd t j).f1 = d := by
  induction m with
  | zero => intro i x; simp [ch1]; intro j _ h1 h2; omega
  | succ m ih =>
    intro i x
    simp only [ch1, List.mem_append, ih]
    constructor
    · rintro (h | ⟨j, h1, h2, h3, h4⟩)
      · by_cases hc : (nd t i).f0 = k ∧ (nd t i).f1 = d
        · rw [if_pos hc, List.mem_singleton] at h
          exact ⟨i, h, by omega, by omega, hc⟩
        · rw [if_neg hc] at h; cases h
      · exact ⟨j, h1, by omega, by omega, h4⟩
    · rintro ⟨j, h1, h2, h3, h4⟩
      rcases Nat.eq_or_lt_of_le h2 with e | e
      · subst e; left; rw [if_pos h4, List.mem_singleton]; exact h1
      · right; exact ⟨j, h1, e, by omega, h4⟩
theorem chs_mem (t : List S84) (k : Int) (m : Nat) : ∀ (d x : Int), x ∈ chs t k m d ↔ ∃ j : Nat, x = (j : Int) ∧ 1 ≤ j ∧ j < t.length ∧ (nd t j).f0 = k ∧ d ≤ (nd t j).f1 ∧ (nd t j).f1 < d + m := by
  induction m with
  | zero =>
    intro d x
    constructor
    · intro h; cases h
    · rintro ⟨j, _, _, _, _, h1, h2⟩; omega
  | succ m ih =>
    intro d x
    simp only [chs, List.mem_append, ih, ch1_mem]
    constructor
    · rintro (⟨j, h1, h2, h3, h4, h5⟩ | ⟨j, h1, h2, h3, h4, h5, h6⟩)
      · exact ⟨j, h1, h2, by omega, h4, by omega, by omega⟩
      · exact ⟨j, h1, h2, h3, h4, by omega, by omega⟩
    · rintro ⟨j, h1, h2, h3, h4, h5, h6⟩
      rcases Int.lt_or_eq_of_le h5 with e | e
      · right; exact ⟨j, h1, h2, h3, h4, by omega, by omega⟩
      · left; exact ⟨j, h1, h2, by omega, h4, e.symm⟩
theorem children_sl (t : List S84) (hl : t.length ≤ 12) (k : Int) (r : List Int) (d : Int) (h0 : 0 ≤ d) (h4 : d < 4) (m : Nat) : ∀ (i : Nat) (acc : List Int), i + m = t.length ∨ (m = 0 ∧ t.length ≤ i) → acc.length ≤ 12 * d.toNat + i → Ev (fun n => spec_ChildrenOf.l0 n t k (acc ++ ch1 t k d m i) (d + 1)) r → Ev (fun n => spec_ChildrenOf.l1 n t k acc d (i : Int)) r := by
  induction m with
  | zero =>
    intro i acc hi ha hr
    refine Ev.step (fun n => by simp only [spec_ChildrenOf.l1]; rw [if_neg (show ¬ (i : Int) < (t.length : Int) by omega), wrap_id (x := d + 1) (by omega) (by omega)]) ?_
    simpa [ch1] using hr
  | succ m ih =>
    intro i acc hi ha hr
    have hi2 : i < t.length := by omega
    refine Ev.step (fun n => by simp only [spec_ChildrenOf.l1]; rw [if_pos (show (i : Int) < (t.length : Int) by omega), if_pos (show (0 : Int) ≤ (i : Int) by omega), rd_nd, wrap_id (x := (i : Int) + 1) (by omega) (by omega)]) ?_
    simp only [ch1] at hr
    by_cases h1 : (nd t i).f0 = k
    · refine ev_pos h1 ?_
      by_cases h2 : (nd t i).f1 = d
      · rw [if_pos ⟨h1, h2⟩, ← List.append_assoc] at hr
        exact ev_pos h2 (ev_pos (by omega) (ih (i + 1) (acc ++ [(i : Int)]) (by omega) (by simp; omega) hr))
      · rw [if_neg (fun x => h2 x.2), List.nil_append] at hr
        exact ev_neg h2 (ih (i + 1) acc (by omega) (by omega) hr)
    · rw [if_neg (fun x => h1 x.1), List.nil_append] at hr
      exact ev_neg h1 (ih (i + 1) acc (by omega) (by omega) hr)
theorem children_s0 (t : List S84) (h1 : 1 ≤ t.length) (hl : t.length ≤ 12) (k : Int) (m : Nat) : ∀ (d : Int) (acc : List Int), 0 ≤ d → d + m = 4 → acc.length ≤ 12 * d.toNat → Ev (fun n => spec_ChildrenOf.l0 n t k acc d) (acc ++ chs t k m d) := by
  induction m with
  | zero =>
    intro d acc h0 hd ha
    refine Ev.step (f := fun _ => some acc) (fun n => ?_) (ev_to (Ev.now _) (by simp [chs]))
    simp only [spec_ChildrenOf.l0]
    rw [if_neg (by omega)]
  | succ m ih =>
    intro d acc h0 hd ha
    have hc := ch1_len t k d (t.length - 1) 1
    have hn := ih (d + 1) (acc ++ ch1 t k d (t.length - 1) 1) (by omega) (by omega) (by simp; omega)
    refine Ev.step (f := fun n => spec_ChildrenOf.l1 n t k acc d ((1 : Nat) : Int)) (fun n => ?_) (children_sl t hl k _ d h0 (by omega) (t.length - 1) 1 acc (by omega) (by omega) (ev_to hn ?_))
    · simp only [spec_ChildrenOf.l0]
      rw [if_pos (by omega)]
      rfl
    · simp only [chs, List.append_assoc]
theorem ok_s (t : List S84) (hl : t.length ≤ 1048576) (k : Int) : Ev (fun n => spec_l19Ok.f n t k) (decide (treeP t ∧ (0 ≤ k ∧ k ≤ (t.length : Int) - 1))) := by
  simp only [spec_l19Ok.f, in_s, Option.bind_some]
  refine Ev.bind (tree_s t) ?_
  rw [wrap_id (x := (t.length : Int) - 1) (by omega) (by omega)]
  by_cases h : treeP t
  · exact ev_pos (by simpa using h) (ev_to (Ev.now _) (by simp [h]))
  · exact ev_neg (by simpa using h) (ev_to (Ev.now _) (by simp [h]))
theorem children_s (t : List S84) (k : Int) (h : treeP t ∧ (0 ≤ k ∧ k ≤ (t.length : Int) - 1)) : Ev (fun n => spec_ChildrenOf.f n t k) (chs t k 4 0) := by
  have hl := h.1.1
  simp only [spec_ChildrenOf.f, Option.bind_some]
  refine Ev.bind (ok_s t (by omega) k) (ev_pos (by simpa using h) (ev_to (children_s0 t hl.1 hl.2 k 4 0 [] (by omega) (by omega) (by simp)) (by simp)))
theorem slots_s1 (t : List S84) (cl acc : List Int) (hcl : cl.length ≤ 1000) (hm : ∀ x ∈ cl, 0 ≤ x ∧ x < (t.length : Int)) (ha : acc.length ≤ 1000) (d : Int) (h0 : 0 ≤ d ∧ d < 4) (r : List Int) (m : Nat) : ∀ (i : Nat) (b : Bool), i + m = cl.length →
    Ev (fun n => spec_SlotsOf.l0 n t (if b = true ∧ ∀ x ∈ cl.drop i, (nd t x.toNat).f1 ≠ d then acc ++ [d] else acc) cl (d + 1)) r → Ev (fun n => spec_SlotsOf.l1 n t acc cl d b (i : Int)) r := by
  induction m with
  | zero =>
    intro i b hi hr
    rw [List.drop_eq_nil_of_le (by omega)] at hr
    refine Ev.step (fun n => by simp only [spec_SlotsOf.l1]; rw [if_neg (show ¬ (i : Int) < (cl.length : Int) by omega), wrap_id (x := d + 1) (by omega) (by omega)]) ?_
    cases b with
    | false => refine ev_neg (by decide) ?_; simpa using hr
    | true => refine ev_pos rfl (ev_pos (by omega) ?_); simpa using hr
  | succ m ih =>
    intro i b hi hr
    have hi2 : i < cl.length := by omega
    have hx := hm cl[i] (List.getElem_mem hi2)
    have hrd : rd cl (i : Int) = cl[i] := by show cl.getD i 0 = _; simp [List.getD_eq_getElem?_getD, List.getElem?_eq_getElem hi2]
    rw [List.drop_eq_getElem_cons hi2] at hr
    refine Ev.step (fun n => by simp only [spec_SlotsOf.l1]; rw [if_pos (show (i : Int) < (cl.length : Int) by omega), hrd, wrap_id (x := (i : Int) + 1) (by omega) (by omega)]) ?_
    cases b with
    | false =>
      refine ev_neg (by decide) (ih (i + 1) false (by omega) ?_)
      simpa using hr
    | true =>
      refine ev_pos rfl (ev_pos (by omega) (ev_pos hx.1 (ev_pos hx.2 (ih (i + 1) _ (by omega) ?_))))
      have hn : rd_T84 t cl[i] = nd t cl[i].toNat := rfl
      rw [hn]
      have e : (((nd t cl[i].toNat).f1 != d) = true ∧ ∀ x ∈ cl.drop (i + 1), (nd t x.toNat).f1 ≠ d) ↔ (true = true ∧ ∀ x ∈ cl[i] :: cl.drop (i + 1), (nd t x.toNat).f1 ≠ d) := by
        simp only [bne_iff_ne, List.mem_cons, forall_eq_or_imp, true_and]
      rw [ite_iff e]
      exact hr
theorem slots_s0 (t : List S84) (ht : treeP t) (k : Int) (hk : 0 ≤ k) (m : Nat) : ∀ (d : Int) (acc : List Int), 0 ≤ d → d + m = 4 → acc.length ≤ d.toNat → Ev (fun n => spec_SlotsOf.l0 n t acc (chs t k 4 0) d) (acc ++ outs t k m d) := by
  have hl := ht.1
  have hcl := chs_len t k 4 0
  induction m with
  | zero =>
    intro d acc h0 hd ha
    refine Ev.step (f := fun _ => some acc) (fun n => ?_) (ev_to (Ev.now _) (by simp [outs]))
    simp only [spec_SlotsOf.l0]
    rw [if_neg (by omega)]
  | succ m ih =>
    intro d acc h0 hd ha
    have hmem : ∀ x ∈ chs t k 4 0, 0 ≤ x ∧ x < (t.length : Int) := by
      intro x hx
      obtain ⟨j, h1, h2, h3, _⟩ := (chs_mem t k 4 0 x).1 hx
      omega
    refine Ev.step (f := fun n => spec_SlotsOf.l1 n t acc (chs t k 4 0) d true ((0 : Nat) : Int)) (fun n => ?_) (slots_s1 t _ acc (by omega) hmem (by omega) d (by omega) _ _ 0 true (Nat.zero_add _) ?_)
    · simp only [spec_SlotsOf.l0]
      rw [if_pos (by omega)]
      rfl
    · have e : (true = true ∧ ∀ x ∈ (chs t k 4 0).drop 0, (nd t x.toNat).f1 ≠ d) ↔ ¬ occ t k d = true := by
        rw [List.drop_zero]
        unfold occ
        rw [decide_eq_true_iff]
        constructor
        · rintro ⟨_, h⟩ ⟨j, h1, h2, h3⟩
          have hj : 1 ≤ j := by
            rcases Nat.eq_zero_or_pos j with e | e
            · subst e; have := ht.2.1.1; omega
            · exact e
          refine h (j : Int) ((chs_mem t k 4 0 _).2 ⟨j, rfl, hj, h1, h2, ?_⟩) h3
          have := (ht.2.2 j hj h1).2.2.1
          omega
        · intro h
          refine ⟨rfl, fun x hx hd => h ?_⟩
          obtain ⟨j, h1, h2, h3, h4, _⟩ := (chs_mem t k 4 0 x).1 hx
          subst h1
          exact ⟨j, h3, h4, hd⟩
      rw [ite_iff e]
      by_cases h : occ t k d = true
      · rw [if_neg (by simpa using h)]
        refine ev_to (ih (d + 1) acc (by omega) (by omega) (by omega)) ?_
        simp only [outs]
        rw [if_pos h, List.nil_append]
      · rw [if_pos h]
        refine ev_to (ih (d + 1) (acc ++ [d]) (by omega) (by omega) (by simp; omega)) ?_
        simp only [outs]
        rw [if_neg h, List.append_assoc]
theorem slots_s (t : List S84) (hl : t.length ≤ 1048576) (k : Int) : Ev (fun n => spec_SlotsOf.f n t k) (slotsR t k) := by
  simp only [spec_SlotsOf.f, Option.bind_some]
  have hb : Ev (fun n => spec_SlotsOf.j0 n t k [] true) [] := by
    refine Ev.step (f := fun _ => some []) (fun n => ?_) (Ev.now _)
    simp only [spec_SlotsOf.j0]
    rw [if_pos trivial]
  refine Ev.bind (ok_s t hl k) ?_
  unfold slotsR
  by_cases h : treeP t ∧ (0 ≤ k ∧ k ≤ (t.length : Int) - 1)
  · refine ev_pos (by simpa using h) (ev_pos h.2.1 (ev_pos (by omega) ?_))
    have hr : rd_T84 t k = nd t k.toNat := rfl
    rw [hr]
    have hnn : 0 ≤ (nd t k.toNat).f2 := by
      rcases Nat.eq_zero_or_pos k.toNat with e | e
      · rw [e]; have := h.1.2.1.2.2; omega
      · exact (h.1.2.2 k.toNat e (by omega)).2.2.2.1.1
    by_cases h2 : (nd t k.toNat).f2 = 0
    · rw [if_pos ⟨h.1, h.2, h2⟩, decide_eq_false (by omega)]
      refine Ev.step (f := fun n => (spec_ChildrenOf.f n t k).bind fun c => spec_SlotsOf.l0 n t [] c 0) (fun n => ?_) (Ev.bind (children_s t k h) (ev_to (slots_s0 t h.1 k h.2.1 4 0 [] (by omega) (by omega) (by simp)) (by simp)))
      simp only [spec_SlotsOf.j0]
      rw [if_neg (by decide)]
    · rw [if_neg (fun x => h2 x.2.2), decide_eq_true (by omega)]
      exact hb
  · rw [if_neg (fun x => h ⟨x.1, x.2.1⟩)]
    exact ev_neg (by simpa using h) hb
end
theorem FnExactSlotsOf : ∀ (x0 : List (S105)) (x1 : Int), (x0.length * 24 ≤ 140737488351232 ∧ x0.length ≤ maxLen ∧ ∀ y ∈ x0, wf105 y) → ((Lit.int .i64 x1).wf = true) → ∃ k, laws_FnExactSlotsOf.f k x0 x1 = some true := by
  rintro l a ⟨h1, h2, _⟩ _
  have hl : l.length ≤ 11728124029610 := by omega
  refine Ev.rounds (g := fun n => laws_FnExactSlotsOf.f n l a) ?_
  simp only [laws_FnExactSlotsOf.f, sz_node l hl 1048576 (by omega) (by omega), Option.bind_some]
  by_cases h : (l.length : Int) ≤ 1048576
  case neg => rw [if_neg h]; exact ev_pos (by omega) (Ev.now _)
  rw [if_pos h]
  have hm : (l.map toN).length ≤ 1048576 := by simp; omega
  have hT := toNodeS_ev l hl
  have hE := eqNodeS_ev (l.map toN) (by omega)
  have hS := slots_s (l.map toN) hm a
  have hI := slots_i (l.map toN) hm a
  have hR := slotsR_len (l.map toN) a
  generalize slotsR (l.map toN) a = R at hS hI hR
  obtain ⟨ys, m1, m2⟩ := nodeS_mark (l.map toN) (by omega) 1 (by omega) (by omega)
  obtain ⟨zs, m4, m5, m6⟩ := intS_marks R (by omega) 1 (by omega) (by omega)
  have hq := eqIntS_ev R (by omega)
  refine ev_neg (by omega) (Ev.bind hT (Ev.bind hS (Ev.bind hT (Ev.bind hI (Ev.bind hq (ev_pos rfl (Ev.bind hT (Ev.bind hE (ev_pos rfl (Ev.bind m1 (ev_neg (by simp; omega) (Ev.bind hq ?_))))))))))))
  simp only [Bool.not_true]
  refine Ev.step (fun n => by simp only [laws_FnExactSlotsOf.j0]; rw [if_neg (by decide)]) ?_
  refine Ev.bind m4 (Ev.bind m6 (ev_neg (by omega) (ev_pos rfl (Ev.bind hT (Ev.bind hI (Ev.bind hq (ev_pos rfl ?_)))))))
  exact Ev.bind m6 (ev_neg (by omega) (ev_pos rfl (Ev.now _)))

end Go.Proofs.Yteeklekfafedcaa.Pure

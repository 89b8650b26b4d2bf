/- The law FnExactRemoveNode over numbers and lists. No condition beyond the bounds of what a Go value may be. -/
import Derived.Test.YtdolbkocghgibaaEvl
import Derived.Test.YtdolbkocghgibaaHof
import Derived.Test.YtdolbkocghgibaaPFnExactRemoveNodex9
namespace Go.Proofs.Ytdolbkocghgibaa.Pure
open Go.RowKit Go.Proofs.Ytdolbkocghgibaa.PFnExactRemoveNode Go.Proofs.YtdolbkocghgibaaW.PrintWords Go.Proofs.YtdolbkocghgibaaW.PrintLast Go.Proofs.YtdolbkocghgibaaW.PrintMore Go.Proofs.Ytdolbkocghgibaa.Evl
set_option linter.unusedVariables false
set_option linter.unusedSimpArgs false

def wf92 (x : S92) : Prop := ((Lit.int .i64 x.f0).wf = true) ∧ ((Lit.int .i64 x.f1).wf = true) ∧ ((Lit.int .i64 x.f2).wf = true)

theorem in_s (a b c : Int) : spec_l01In.f a b c = some (decide (b ≤ a ∧ a ≤ c)) := by
  unfold spec_l01In.f
  by_cases h : a ≥ b
  · rw [if_pos h]; simp [h]
  · rw [if_neg h]; simp [h]
theorem in_i (a b c : Int) : impl_within.f a b c = some (decide (b ≤ a ∧ a ≤ c)) := by
  unfold impl_within.f
  by_cases h : a ≥ b
  · rw [if_pos h]; simp [h]
  · rw [if_neg h]; simp [h]
theorem some_beq (b : Bool) : ((some b : Option Bool) == some true) = b := by cases b <;> rfl
theorem anyO_tot {α : Type} (p : α → Bool) (l : List α) : anyO (fun x => some (p x)) l = some (l.any p) := by
  unfold anyO
  rw [if_pos (by simp)]
  simp only [some_beq]
theorem idxO_tot {α : Type} (p : α → Bool) (l : List α) : idxO (fun x => some (p x)) l = some (optAt (l.findIdx? p)) := by
  unfold idxO
  rw [if_pos (by simp)]
  simp only [some_beq]
/-- What it is to be a valid node number k, and a valid tree. -/
def nd (t : List S77) (k : Nat) : S77 := t.getD k z77
def nodeP (t : List S77) (k : Nat) : Prop := (0 ≤ (nd t k).f0 ∧ (nd t k).f0 ≤ (k : Int) - 1) ∧ (nd t (nd t k).f0.toNat).f2 = 0 ∧ (0 ≤ (nd t k).f1 ∧ (nd t k).f1 ≤ 3) ∧ (0 ≤ (nd t k).f2 ∧ (nd t k).f2 ≤ 4) ∧ ¬ ∃ j : Nat, j < k ∧ (nd t j).f0 = (nd t k).f0 ∧ (nd t j).f1 = (nd t k).f1
def rootP (t : List S77) : Prop := (nd t 0).f0 = -1 ∧ (nd t 0).f1 = 0 ∧ (nd t 0).f2 = 0
def treeP (t : List S77) : Prop := (1 ≤ t.length ∧ t.length ≤ 12) ∧ rootP t ∧ ∀ k : Nat, 1 ≤ k → k < t.length → nodeP t k
theorem rd_nd (t : List S77) (k : Nat) : rd_T77 t (k : Int) = nd t k := rfl
theorem rd_nd' (t : List S77) (i : Int) : rd_T77 t i = nd t i.toNat := rfl
open Classical in
theorem from_k (t : List S77) (k : Nat) (hk : k < t.length) : (∀ j : Nat, k ≤ j → j < t.length → nodeP t j) ↔ nodeP t k ∧ ∀ j : Nat, k + 1 ≤ j → j < t.length → nodeP t j :=
  ⟨fun h => ⟨h k (Nat.le_refl _) hk, fun j h1 h2 => h j (by omega) h2⟩, fun ⟨h0, h⟩ j h1 h2 => by
    rcases Nat.eq_or_lt_of_le h1 with e | e
    · exact e ▸ h0
    · exact h j e h2⟩
theorem root_b (t : List S77) : (!(((rd_T77 t 0).f0) == (-1)) || (!(((rd_T77 t 0).f1) == 0) || (!(((rd_T77 t 0).f2) == 0)))) = true ↔ ¬ rootP t := by
  unfold rootP
  show (!((nd t 0).f0 == (-1)) || (!((nd t 0).f1 == 0) || (!((nd t 0).f2 == 0)))) = true ↔ _
  by_cases h1 : (nd t 0).f0 = -1 <;> by_cases h2 : (nd t 0).f1 = 0 <;> by_cases h3 : (nd t 0).f2 = 0 <;> simp [h1, h2, h3]
section
open Classical
theorem tree_s1 (t : List S77) (hl : t.length ≤ 12) (k : Nat) (hk : k < t.length) (p d f : Int) (r : Bool) (hr : Ev (fun n => spec_TreeOk.l0 n t ((k + 1 : Nat) : Int)) r) (m : Nat) : ∀ i : Nat, k - i = m → i ≤ k → Ev (fun n => spec_TreeOk.l1 n t k i p d f) (if ∃ j : Nat, i ≤ j ∧ j < k ∧ (nd t j).f0 = p ∧ (nd t j).f1 = d then false else r) := by
  induction m with
  | zero =>
    intro i hm hi
    have e : i = k := by omega
    subst e
    rw [if_neg (by rintro ⟨j, h1, h2, _⟩; omega)]
    refine Ev.step (f := fun n => spec_TreeOk.l0 n t ((i + 1 : Nat) : Int)) (fun n => ?_) hr
    simp only [spec_TreeOk.l1]
    rw [if_neg (by omega), wrap_id (x := (i : Int) + 1) (by omega) (by omega)]
    rfl
  | succ m ih =>
    intro i hm hi
    have hn := ih (i + 1) (by omega) (by omega)
    refine Ev.step (f := fun n => if (nd t i).f0 = p then (if (nd t i).f1 = d then some false else spec_TreeOk.l1 n t k ((i + 1 : Nat) : Int) p d f) else spec_TreeOk.l1 n t k ((i + 1 : Nat) : Int) p d f) (fun n => ?_) ?_
    · simp only [spec_TreeOk.l1]
      rw [if_pos (by omega), if_pos (by omega), if_pos (by omega), rd_nd, wrap_id (x := (i : Int) + 1) (by omega) (by omega)]
      rfl
    · by_cases h1 : (nd t i).f0 = p
      · refine ev_pos h1 ?_
        by_cases h2 : (nd t i).f1 = d
        · refine ev_pos h2 ?_
          rw [if_pos ⟨i, Nat.le_refl _, by omega, h1, h2⟩]
          exact Ev.now _
        · refine ev_neg h2 (ev_to hn (ite_iff ⟨fun ⟨j, a, b⟩ => ⟨j, by omega, b⟩, fun ⟨j, a, b⟩ => ⟨j, ?_, b⟩⟩ _ _))
          rcases Nat.eq_or_lt_of_le a with e | e
          · subst e; exact absurd b.2.2 h2
          · exact e
      · refine ev_neg h1 (ev_to hn (ite_iff ⟨fun ⟨j, a, b⟩ => ⟨j, by omega, b⟩, fun ⟨j, a, b⟩ => ⟨j, ?_, b⟩⟩ _ _))
        rcases Nat.eq_or_lt_of_le a with e | e
        · subst e; exact absurd b.2.1 h1
        · exact e
theorem tree_s0 (t : List S77) (hl : t.length ≤ 12) (hroot : rootP t) (m : Nat) : ∀ k : Nat, t.length - k = m → 1 ≤ k → k ≤ t.length → Ev (fun n => spec_TreeOk.l0 n t (k : Int)) (decide (∀ j : Nat, k ≤ j → j < t.length → nodeP t j)) := by
  induction m with
  | zero =>
    intro k hm h1 hk
    rw [decide_eq_true (by intro j h2 h3; omega)]
    refine Ev.step (f := fun _ => some true) (fun n => ?_) (Ev.now _)
    simp only [spec_TreeOk.l0]
    rw [if_neg (by omega)]
  | succ m ih =>
    intro k hm h1 hk
    have hlt : k < t.length := by omega
    have hn := ih (k + 1) (by omega) (by omega) (by omega)
    have hi := tree_s1 t hl k hlt (nd t k).f0 (nd t k).f1 (nd t k).f2 _ hn (k - 1) 1 rfl (by omega)
    have hj : ∀ b : Bool, Ev (fun n => spec_TreeOk.j2 n t k b (nd t k).f0 (nd t k).f1 (nd t k).f2) (if b = true then false else (if ∃ j : Nat, 1 ≤ j ∧ j < k ∧ (nd t j).f0 = (nd t k).f0 ∧ (nd t j).f1 = (nd t k).f1 then false else decide (∀ j : Nat, k + 1 ≤ j → j < t.length → nodeP t j))) := by
      intro b
      refine Ev.step (f := fun n => if b = true then some false else spec_TreeOk.l1 n t k 1 (nd t k).f0 (nd t k).f1 (nd t k).f2) (fun n => ?_) (ev_ite (fun _ => Ev.now _) (fun _ => hi))
      simp only [spec_TreeOk.j2]
    have hb := hj true
    rw [if_pos rfl] at hb
    refine Ev.step (f := fun n => if (0 ≤ (nd t k).f0 ∧ (nd t k).f0 ≤ (k : Int) - 1) then (if (nd t (nd t k).f0.toNat).f2 = 0 then (if (0 ≤ (nd t k).f1 ∧ (nd t k).f1 ≤ 3) then spec_TreeOk.j2 n t k (!decide (0 ≤ (nd t k).f2 ∧ (nd t k).f2 ≤ 4)) (nd t k).f0 (nd t k).f1 (nd t k).f2 else spec_TreeOk.j2 n t k true (nd t k).f0 (nd t k).f1 (nd t k).f2) else spec_TreeOk.j2 n t k true (nd t k).f0 (nd t k).f1 (nd t k).f2) else spec_TreeOk.j2 n t k true (nd t k).f0 (nd t k).f1 (nd t k).f2) (fun n => ?_) ?_
    · simp only [spec_TreeOk.l0]
      rw [if_pos (by omega), if_pos (by omega), rd_nd, wrap_id (x := (k : Int) - 1) (by omega) (by omega)]
      simp only [in_s, Option.bind_some, decide_eq_true_eq]
      by_cases h3 : 0 ≤ (nd t k).f0 ∧ (nd t k).f0 ≤ (k : Int) - 1
      · rw [if_pos h3, if_pos h3, if_pos h3.1, if_pos (by omega), rd_nd']
      · rw [if_neg h3, if_neg h3]
    · rw [show decide (∀ j : Nat, k ≤ j → j < t.length → nodeP t j) = (decide (nodeP t k) && decide (∀ j : Nat, k + 1 ≤ j → j < t.length → nodeP t j)) from by rw [decide_eq_decide.2 (from_k t k hlt)]; exact Bool.decide_and _ _]
      by_cases h3 : 0 ≤ (nd t k).f0 ∧ (nd t k).f0 ≤ (k : Int) - 1
      · refine ev_pos h3 ?_
        by_cases h4 : (nd t (nd t k).f0.toNat).f2 = 0
        · refine ev_pos h4 ?_
          by_cases h5 : 0 ≤ (nd t k).f1 ∧ (nd t k).f1 ≤ 3
          · refine ev_pos h5 (ev_to (hj _) ?_)
            by_cases h6 : 0 ≤ (nd t k).f2 ∧ (nd t k).f2 ≤ 4
            · rw [if_neg (by simp [h6])]
              by_cases h7 : ∃ j : Nat, 1 ≤ j ∧ j < k ∧ (nd t j).f0 = (nd t k).f0 ∧ (nd t j).f1 = (nd t k).f1
              · rw [if_pos h7, decide_eq_false (fun h => h.2.2.2.2 (by obtain ⟨j, _, a⟩ := h7; exact ⟨j, a⟩))]; rfl
              · rw [if_neg h7, decide_eq_true (p := nodeP t k) ⟨h3, h4, h5, h6, ?_⟩]
                · rfl
                · rintro ⟨j, h8, h9, h10⟩
                  rcases Nat.eq_zero_or_pos j with e | e
                  · subst e; have := hroot.1; omega
                  · exact h7 ⟨j, e, h8, h9, h10⟩
            · rw [if_pos (by simp only [h6, decide_false, Bool.not_false]), decide_eq_false (fun h => h6 h.2.2.2.1)]; rfl
          · refine ev_neg h5 (ev_to hb ?_)
            rw [decide_eq_false (p := nodeP t k) (fun h => h5 h.2.2.1)]; rfl
        · refine ev_neg h4 (ev_to hb ?_)
          rw [decide_eq_false (p := nodeP t k) (fun h => h4 h.2.1)]; rfl
      · refine ev_neg h3 (ev_to hb ?_)
        rw [decide_eq_false (p := nodeP t k) (fun h => h3 h.1)]; rfl
theorem tree_s (t : List S77) : Ev (fun n => spec_TreeOk.f n t) (decide (treeP t)) := by
  have hb : Ev (fun n => spec_TreeOk.j0 n t true) false := by
    refine Ev.step (f := fun _ => some false) (fun n => ?_) (Ev.now _)
    simp [spec_TreeOk.j0]
  simp only [spec_TreeOk.f, in_s, Option.bind_some, decide_eq_true_eq]
  by_cases h1 : (1 : Int) ≤ t.length ∧ (t.length : Int) ≤ 12
  · refine ev_pos h1 (ev_pos (by omega) ?_)
    by_cases h2 : rootP t
    · have e : (!(((rd_T77 t 0).f0) == (-1)) || (!(((rd_T77 t 0).f1) == 0) || (!(((rd_T77 t 0).f2) == 0)))) = false := Bool.eq_false_iff.2 (fun h => (root_b t).1 h h2)
      rw [e]
      refine Ev.step (f := fun n => spec_TreeOk.l0 n t ((1 : Nat) : Int)) (fun n => by simp [spec_TreeOk.j0]) (ev_to (tree_s0 t (by omega) h2 (t.length - 1) 1 rfl (by omega) (by omega)) ?_)
      exact decide_eq_decide.2 ⟨fun h => ⟨by omega, h2, h⟩, fun h => h.2.2⟩
    · rw [(root_b t).2 h2]
      refine ev_to hb ?_
      rw [decide_eq_false (fun h => h2 h.2.1)]
  · refine ev_neg h1 (ev_to hb ?_)
    rw [decide_eq_false (fun h => h1 (by have := h.1; omega))]
end
section
open Classical
theorem any_dup (t : List S77) (k : Nat) (hk : k ≤ t.length) (p d f : Int) : slices_ContainsFunc__impl_TreeOk_1.f (t.take k) p d f = some (decide (∃ j : Nat, j < k ∧ (nd t j).f0 = p ∧ (nd t j).f1 = d)) := by
  simp only [slices_ContainsFunc__impl_TreeOk_1.f, impl_TreeOk_1.f]
  rw [anyO_tot]
  congr 1
  rw [Bool.eq_iff_iff, List.any_eq_true, decide_eq_true_iff]
  constructor
  · rintro ⟨x, hx, hp⟩
    obtain ⟨j, hj, rfl⟩ := List.getElem_of_mem hx
    rw [List.length_take] at hj
    refine ⟨j, by omega, ?_⟩
    simp only [nd, List.getD_eq_getElem?_getD, List.getElem?_eq_getElem (show j < t.length by omega), Option.getD_some]
    simpa using hp
  · rintro ⟨j, hj, hp⟩
    refine ⟨(t.take k)[j]'(by rw [List.length_take]; omega), List.getElem_mem _, ?_⟩
    simp only [nd, List.getD_eq_getElem?_getD, List.getElem?_eq_getElem (show j < t.length by omega), Option.getD_some] at hp
    simpa using hp
theorem nd_drop (t : List S77) (i : Nat) : nd (t.drop 1) i = nd t (i + 1) := by
  simp only [nd, List.getD_eq_getElem?_getD, List.getElem?_drop]
  rw [Nat.add_comm]
theorem nd_take (t : List S77) (i j : Nat) (h : j < i) : nd (t.take i) j = nd t j := by
  simp only [nd, List.getD_eq_getElem?_getD]
  rw [List.getElem?_take_of_lt h]
theorem tree_i0 (t : List S77) (hl : t.length ≤ 12) (m : Nat) : ∀ i : Nat, t.length - 1 - i = m → i + 1 ≤ t.length → Ev (fun n => impl_TreeOk.l0 n t (t.drop 1) ((t.drop 1).length : Int) (i : Int)) (decide (∀ j : Nat, i + 1 ≤ j → j < t.length → nodeP t j)) := by
  have hlen : (t.drop 1).length = t.length - 1 := by simp
  induction m with
  | zero =>
    intro i hm hk
    rw [decide_eq_true (by intro j h2 h3; omega)]
    refine Ev.step (f := fun _ => some true) (fun n => ?_) (Ev.now _)
    simp only [impl_TreeOk.l0]
    rw [if_neg (by omega)]
  | succ m ih =>
    intro i hm hk
    have hlt : i + 1 < t.length := by omega
    have hn := ih (i + 1) (by omega) (by omega)
    have hi : ∀ b : Bool, Ev (fun n => impl_TreeOk.j2 n t (t.take (i + 1)) (t.drop 1) ((t.drop 1).length : Int) i b (nd t (i + 1)).f0 (nd t (i + 1)).f1 (nd t (i + 1)).f2) (if b = true then false else (if ∃ j : Nat, j < i + 1 ∧ (nd t j).f0 = (nd t (i + 1)).f0 ∧ (nd t j).f1 = (nd t (i + 1)).f1 then false else decide (∀ j : Nat, i + 1 + 1 ≤ j → j < t.length → nodeP t j))) := by
      intro b
      refine Ev.step (f := fun n => if b = true then some false else (if ∃ j : Nat, j < i + 1 ∧ (nd t j).f0 = (nd t (i + 1)).f0 ∧ (nd t j).f1 = (nd t (i + 1)).f1 then some false else impl_TreeOk.l0 n t (t.drop 1) ((t.drop 1).length : Int) ((i + 1 : Nat) : Int))) (fun n => ?_) (ev_ite (fun _ => Ev.now _) (fun _ => ev_ite (fun _ => Ev.now _) (fun _ => hn)))
      simp only [impl_TreeOk.j2]
      rw [any_dup t (i + 1) (by omega), wrap_id (x := (i : Int) + 1) (by omega) (by omega)]
      simp only [Option.bind_some, decide_eq_true_eq]
      rfl
    have hb := hi true
    rw [if_pos rfl] at hb
    refine Ev.step (f := fun n => if (0 ≤ (nd t (i + 1)).f0 ∧ (nd t (i + 1)).f0 ≤ (i : Int)) then (if (nd t (nd t (i + 1)).f0.toNat).f2 = 0 then (if (0 ≤ (nd t (i + 1)).f1 ∧ (nd t (i + 1)).f1 ≤ 3) then impl_TreeOk.j2 n t (t.take (i + 1)) (t.drop 1) ((t.drop 1).length : Int) i (!decide (0 ≤ (nd t (i + 1)).f2 ∧ (nd t (i + 1)).f2 ≤ 4)) (nd t (i + 1)).f0 (nd t (i + 1)).f1 (nd t (i + 1)).f2 else impl_TreeOk.j2 n t (t.take (i + 1)) (t.drop 1) ((t.drop 1).length : Int) i true (nd t (i + 1)).f0 (nd t (i + 1)).f1 (nd t (i + 1)).f2) else impl_TreeOk.j2 n t (t.take (i + 1)) (t.drop 1) ((t.drop 1).length : Int) i true (nd t (i + 1)).f0 (nd t (i + 1)).f1 (nd t (i + 1)).f2) else impl_TreeOk.j2 n t (t.take (i + 1)) (t.drop 1) ((t.drop 1).length : Int) i true (nd t (i + 1)).f0 (nd t (i + 1)).f1 (nd t (i + 1)).f2) (fun n => ?_) ?_
    · simp only [impl_TreeOk.l0]
      rw [if_pos (by omega), if_pos (by omega), if_pos (by omega), wrap_id (x := (i : Int) + 1) (by omega) (by omega), if_pos (by omega), if_pos (by omega), rd_nd, nd_drop, show ((i : Int) + 1).toNat = i + 1 from by omega]
      simp only [in_i, Option.bind_some, decide_eq_true_eq]
      by_cases h3 : 0 ≤ (nd t (i + 1)).f0 ∧ (nd t (i + 1)).f0 ≤ (i : Int)
      · rw [if_pos h3, if_pos h3, if_pos h3.1, if_pos (by rw [List.length_take]; omega), rd_nd', nd_take t (i + 1) _ (by omega)]
      · rw [if_neg h3, if_neg h3]
    · rw [show decide (∀ j : Nat, i + 1 ≤ j → j < t.length → nodeP t j) = (decide (nodeP t (i + 1)) && decide (∀ j : Nat, i + 1 + 1 ≤ j → j < t.length → nodeP t j)) from by rw [decide_eq_decide.2 (from_k t (i + 1) hlt)]; exact Bool.decide_and _ _]
      by_cases h3 : 0 ≤ (nd t (i + 1)).f0 ∧ (nd t (i + 1)).f0 ≤ (i : Int)
      · refine ev_pos h3 ?_
        by_cases h4 : (nd t (nd t (i + 1)).f0.toNat).f2 = 0
        · refine ev_pos h4 ?_
          by_cases h5 : 0 ≤ (nd t (i + 1)).f1 ∧ (nd t (i + 1)).f1 ≤ 3
          · refine ev_pos h5 (ev_to (hi _) ?_)
            by_cases h6 : 0 ≤ (nd t (i + 1)).f2 ∧ (nd t (i + 1)).f2 ≤ 4
            · rw [if_neg (by simp [h6])]
              by_cases h7 : ∃ j : Nat, j < i + 1 ∧ (nd t j).f0 = (nd t (i + 1)).f0 ∧ (nd t j).f1 = (nd t (i + 1)).f1
              · rw [if_pos h7, decide_eq_false (fun h => h.2.2.2.2 h7)]; rfl
              · rw [if_neg h7, decide_eq_true (p := nodeP t (i + 1)) ⟨⟨h3.1, by omega⟩, h4, h5, h6, h7⟩]; rfl
            · rw [if_pos (by simp only [h6, decide_false, Bool.not_false]), decide_eq_false (fun h => h6 h.2.2.2.1)]; rfl
          · refine ev_neg h5 (ev_to hb ?_)
            rw [decide_eq_false (p := nodeP t (i + 1)) (fun h => h5 h.2.2.1)]; rfl
        · refine ev_neg h4 (ev_to hb ?_)
          rw [decide_eq_false (p := nodeP t (i + 1)) (fun h => h4 h.2.1)]; rfl
      · refine ev_neg h3 (ev_to hb ?_)
        rw [decide_eq_false (p := nodeP t (i + 1)) (fun h => h3 ⟨h.1.1, by have := h.1.2; omega⟩)]; rfl
theorem tree_i (t : List S77) : Ev (fun n => impl_TreeOk.f n t) (decide (treeP t)) := by
  have hb : Ev (fun n => impl_TreeOk.j0 n t true) false := by
    refine Ev.step (f := fun _ => some false) (fun n => ?_) (Ev.now _)
    simp [impl_TreeOk.j0]
  simp only [impl_TreeOk.f, in_i, Option.bind_some, decide_eq_true_eq]
  by_cases h1 : (1 : Int) ≤ t.length ∧ (t.length : Int) ≤ 12
  · refine ev_pos h1 (ev_pos (by omega) ?_)
    by_cases h2 : rootP t
    · have e : (!(((rd_T77 t 0).f0) == (-1)) || (!(((rd_T77 t 0).f1) == 0) || (!(((rd_T77 t 0).f2) == 0)))) = false := Bool.eq_false_iff.2 (fun h => (root_b t).1 h h2)
      rw [e]
      refine Ev.step (f := fun n => impl_TreeOk.l0 n t (t.drop 1) ((t.drop 1).length : Int) ((0 : Nat) : Int)) (fun n => ?_) (ev_to (tree_i0 t (by omega) (t.length - 1) 0 rfl (by omega)) ?_)
      · simp only [impl_TreeOk.j0]
        rw [if_neg (by decide), if_pos (by omega)]
        rfl
      exact decide_eq_decide.2 ⟨fun h => ⟨by omega, h2, h⟩, fun h => h.2.2⟩
    · rw [(root_b t).2 h2]
      refine ev_to hb ?_
      rw [decide_eq_false (fun h => h2 h.2.1)]
  · refine ev_neg h1 (ev_to hb ?_)
    rw [decide_eq_false (fun h => h1 (by have := h.1; omega))]
end
def toN (x : S92) : S77 := ⟨x.f0, x.f1, x.f2⟩
theorem toNodeS_l (l : List S92) (hl : l.length ≤ 11728124029610) (d : Nat) : ∀ (xs : List S77) (i : Nat), xs.length = l.length → l.length - i = d → i ≤ l.length → xs.take i = (l.take i).map toN →
    Ev (fun k => laws_toNodeS.l0 k l xs i) (l.map toN) := by
  induction d with
  | zero =>
    intro xs i hx hd hi ht
    refine Ev.step (f := fun _ => some (l.map toN)) (fun k => ?_) (Ev.now _)
    simp only [laws_toNodeS.l0]
    rw [if_neg (by omega)]
    rw [List.take_of_length_le (by omega), List.take_of_length_le (by omega)] at ht
    rw [ht]
  | succ d ih =>
    intro xs i hx hd hi ht
    refine Ev.step (f := fun k => laws_toNodeS.l0 k l (xs.set i (toN (l.getD i z92))) (i + 1 : Nat)) (fun k => ?_) (ih _ _ (by simpa using hx) (by omega) (by omega) (take_set_map toN l xs i z92 hx (by omega) ht))
    simp only [laws_toNodeS.l0, laws_toNode.f, Option.bind_some]
    rw [if_pos (by omega), if_pos (by omega), if_pos (by omega), wrap_id (x := (i : Int) + 1) (by omega) (by omega)]
    rfl
theorem toNodeS_ev (l : List S92) (hl : l.length ≤ 11728124029610) : Ev (fun k => laws_toNodeS.f k l) (l.map toN) := by
  refine Ev.congr (f := fun k => laws_toNodeS.l0 k l (List.replicate l.length z77) (0 : Nat)) (fun k => ?_) (toNodeS_l l hl l.length _ 0 (by simp) (by omega) (by omega) (by simp))
  simp only [laws_toNodeS.f]
  rw [if_pos (by omega), if_pos (by omega)]
  rfl
theorem eqNode_self (x : S77) : laws_eqNode.f x.f0 x.f1 x.f2 x.f0 x.f1 x.f2 = some true := by simp [laws_eqNode.f]
theorem eqNodeS_l (l : List S77) (hl : l.length ≤ 11728124029610) (d : Nat) : ∀ i : Nat, l.length - i = d → Ev (fun k => laws_eqNodeS.l0 k l l i) true := by
  induction d with
  | zero =>
    intro i hd
    refine Ev.step (f := fun _ => some true) (fun k => ?_) (Ev.now _)
    simp only [laws_eqNodeS.l0]
    rw [if_neg (by omega)]
  | succ d ih =>
    intro i hd
    refine Ev.step (f := fun k => laws_eqNodeS.l0 k l l (i + 1 : Nat)) (fun k => ?_) (ih _ (by omega))
    simp only [laws_eqNodeS.l0, eqNode_self, Option.bind_some]
    rw [if_pos (by omega), if_pos (by omega), if_pos (by omega), if_pos trivial, wrap_id (x := (i : Int) + 1) (by omega) (by omega)]
    rfl
theorem eqNodeS_ev (l : List S77) (hl : l.length ≤ 11728124029610) : Ev (fun k => laws_eqNodeS.f k l l) true := by
  simp only [laws_eqNodeS.f]
  exact ev_pos trivial (eqNodeS_l l hl l.length 0 (by omega))
theorem sz_node (l : List S92) (hl : l.length ≤ 11728124029610) (m : Int) (h0 : 0 ≤ m) (h1 : m ≤ 1048576) : laws_szNodeS.f l m = some (if (l.length : Int) ≤ m then m - (l.length : Int) else -1) := by
  simp only [laws_szNodeS.f]
  rw [wrap_id (by omega) (by omega)]
  by_cases h : (l.length : Int) ≤ m
  · rw [if_neg (by omega), if_pos h]
  · rw [if_pos (by omega), if_neg h]
theorem gset_self {α : Type} (l : List α) (i : Nat) (a z : α) (h : i < l.length) : (l.set i a).getD i z = a := by
  simp [List.getD_eq_getElem?_getD, List.getElem?_set, h]
theorem gset_ne {α : Type} (l : List α) (i j : Nat) (a z : α) (h : i ≠ j) : (l.set i a).getD j z = l.getD j z := by
  simp [List.getD_eq_getElem?_getD, List.getElem?_set, h]
theorem rdN (l : List S77) (i : Nat) : rd_T77 l (i : Int) = l.getD i z77 := rfl
def nmk (k : Int) (j : Nat) : S77 := ⟨k + 3 * (j : Int), k + 3 * (j : Int) + 1, k + 3 * (j : Int) + 2⟩
theorem markNodeS_l (k : Int) (h0 : 0 ≤ k) (len : Nat) (hl : k + 3 * (len : Int) ≤ 1152921504606846976) (d : Nat) : ∀ (xs : List S77) (i : Nat), xs.length = len → len - i = d → i ≤ len → (∀ j : Nat, j < i → xs.getD j z77 = nmk k j) →
    ∃ ys : List S77, Ev (fun n => laws_markNodeS.l0 n xs (k + 3 * (i : Int)) i) (k + 3 * (len : Int), ys) ∧ ys.length = len ∧ ∀ j : Nat, j < len → ys.getD j z77 = nmk k j := by
  induction d with
  | zero =>
    intro xs i hx hd hi hm
    have e : i = len := by omega
    subst e
    refine ⟨xs, Ev.step (f := fun _ => some (k + 3 * (i : Int), xs)) (fun n => ?_) (Ev.now _), hx, hm⟩
    simp only [laws_markNodeS.l0]
    rw [if_neg (by omega)]
  | succ d ih =>
    intro xs i hx hd hi hm
    have hlt : i < xs.length := by omega
    obtain ⟨ys, h1, h2, h3⟩ := ih (xs.set i (nmk k i)) (i + 1) (by simpa using hx) (by omega) (by omega) (by
      intro j hj
      rcases Nat.eq_or_lt_of_le (Nat.le_of_lt_succ hj) with e | e
      · subst e; exact gset_self _ _ _ _ hlt
      · rw [gset_ne _ _ _ _ _ (by omega)]; exact hm j e)
    refine ⟨ys, Ev.step (f := fun n => laws_markNodeS.l0 n (xs.set i (nmk k i)) (k + 3 * ((i + 1 : Nat) : Int)) ((i + 1 : Nat) : Int)) (fun n => ?_) h1, h2, h3⟩
    simp only [laws_markNodeS.l0]
    rw [if_pos (by omega), if_pos (by omega)]
    simp only [Option.bind_some, Int.toNat_natCast]
    rw [rdN, rdN, rdN]
    rw [gset_self _ _ _ _ hlt, gset_self _ _ _ _ (by simpa using hlt), List.set_set, List.set_set]
    rw [wrap_id (x := k + 3 * (i : Int) + 1) (by omega) (by omega), wrap_id (x := k + 3 * (i : Int) + 1 + 1) (by omega) (by omega), wrap_id (x := k + 3 * (i : Int) + 1 + 1 + 1) (by omega) (by omega), wrap_id (x := (i : Int) + 1) (by omega) (by omega)]
    rw [show k + 3 * (i : Int) + 1 + 1 + 1 = k + 3 * ((i + 1 : Nat) : Int) from by omega, show (i : Int) + 1 = ((i + 1 : Nat) : Int) from rfl, show k + 3 * (i : Int) + 1 + 1 = k + 3 * (i : Int) + 2 from by omega]
    rfl
theorem nodeS_mark (xs : List S77) (hl : xs.length ≤ 2097152) (k : Int) (h0 : 0 ≤ k) (h1 : k ≤ 1000000000000) : ∃ ys : List S77, Ev (fun n => laws_markNodeS.f n xs k) (k + 3 * (xs.length : Int), ys) ∧ ys.length = xs.length := by
  obtain ⟨ys, a, b, c⟩ := markNodeS_l k h0 xs.length (by omega) xs.length xs 0 rfl rfl (Nat.zero_le _) (fun j hj => by omega)
  refine ⟨ys, ?_, b⟩
  have : Ev (fun n => laws_markNodeS.l0 n xs (k + 3 * ((0 : Nat) : Int)) ((0 : Nat) : Int)) (k + 3 * (xs.length : Int), ys) := a
  rw [show k + 3 * ((0 : Nat) : Int) = k from by omega] at this
  exact this
theorem heldNodeS_l (k : Int) (h0 : 0 ≤ k) (ys : List S77) (hl : k + 3 * (ys.length : Int) ≤ 1152921504606846976) (hm : ∀ j : Nat, j < ys.length → ys.getD j z77 = nmk k j) (d : Nat) : ∀ i : Nat, ys.length - i = d → i ≤ ys.length →
    Ev (fun n => laws_heldNodeS.l0 n ys (k + 3 * (i : Int)) i) (k + 3 * (ys.length : Int)) := by
  induction d with
  | zero =>
    intro i hd hi
    have e : i = ys.length := by omega
    subst e
    refine Ev.step (f := fun _ => some (k + 3 * (ys.length : Int))) (fun n => ?_) (Ev.now _)
    simp only [laws_heldNodeS.l0]
    rw [if_neg (by omega)]
  | succ d ih =>
    intro i hd hi
    refine Ev.step (f := fun n => laws_heldNodeS.l0 n ys (k + 3 * ((i + 1 : Nat) : Int)) ((i + 1 : Nat) : Int)) (fun n => ?_) (ih (i + 1) (by omega) (by omega))
    simp only [laws_heldNodeS.l0]
    rw [if_pos (by omega), if_pos (by omega), rdN, hm i (by omega)]
    rw [wrap_id (x := k + 3 * (i : Int) + 1) (by omega) (by omega), wrap_id (x := k + 3 * (i : Int) + 1 + 1) (by omega) (by omega), wrap_id (x := k + 3 * (i : Int) + 1 + 1 + 1) (by omega) (by omega), wrap_id (x := (i : Int) + 1) (by omega) (by omega)]
    rw [if_pos (show (nmk k i).f0 = k + 3 * (i : Int) from rfl), if_pos (show (nmk k i).f1 = k + 3 * (i : Int) + 1 from rfl), if_pos (show (nmk k i).f2 = k + 3 * (i : Int) + 1 + 1 from by show k + 3 * (i : Int) + 2 = _; omega), show k + 3 * (i : Int) + 1 + 1 + 1 = k + 3 * ((i + 1 : Nat) : Int) from by omega]
    rfl
theorem nodeS_marks (xs : List S77) (hl : xs.length ≤ 2097152) (k : Int) (h0 : 0 ≤ k) (h1 : k ≤ 1000000000000) : ∃ ys : List S77, Ev (fun n => laws_markNodeS.f n xs k) (k + 3 * (xs.length : Int), ys) ∧ ys.length = xs.length ∧ Ev (fun n => laws_heldNodeS.f n ys k) (k + 3 * (xs.length : Int)) := by
  obtain ⟨ys, a, b, c⟩ := markNodeS_l k h0 xs.length (by omega) xs.length xs 0 rfl rfl (Nat.zero_le _) (fun j hj => by omega)
  refine ⟨ys, ?_, b, ?_⟩
  · have : Ev (fun n => laws_markNodeS.l0 n xs (k + 3 * ((0 : Nat) : Int)) ((0 : Nat) : Int)) (k + 3 * (xs.length : Int), ys) := a
    rw [show k + 3 * ((0 : Nat) : Int) = k from by omega] at this
    exact this
  · have := heldNodeS_l k h0 ys (by omega) (by rw [b]; exact c) ys.length 0 rfl (Nat.zero_le _)
    rw [show k + 3 * ((0 : Nat) : Int) = k from by omega, b] at this
    exact this
theorem eqIntS_l (l : List Int) (hl : l.length ≤ 11728124029610) (d : Nat) : ∀ i : Nat, l.length - i = d → Ev (fun k => laws_eqIntS.l0 k l l i) true := by
  induction d with
  | zero =>
    intro i hd
    refine Ev.step (f := fun _ => some true) (fun k => ?_) (Ev.now _)
    simp only [laws_eqIntS.l0]
    rw [if_neg (by omega)]
  | succ d ih =>
    intro i hd
    refine Ev.step (f := fun k => laws_eqIntS.l0 k l l (i + 1 : Nat)) (fun k => ?_) (ih _ (by omega))
    simp only [laws_eqIntS.l0]
    rw [if_pos (by omega), if_pos (by omega), if_pos (by omega), if_pos trivial, wrap_id (x := (i : Int) + 1) (by omega) (by omega)]
    rfl
theorem eqIntS_ev (l : List Int) (hl : l.length ≤ 11728124029610) : Ev (fun k => laws_eqIntS.f k l l) true := by
  simp only [laws_eqIntS.f]
  exact ev_pos trivial (eqIntS_l l hl l.length 0 (by omega))
theorem rdI (l : List Int) (i : Nat) : rd l (i : Int) = l.getD i 0 := rfl
theorem markIntS_l (k : Int) (h0 : 0 ≤ k) (len : Nat) (hl : k + (len : Int) ≤ 1152921504606846976) (d : Nat) : ∀ (xs : List Int) (i : Nat), xs.length = len → len - i = d → i ≤ len → (∀ j : Nat, j < i → xs.getD j 0 = k + (j : Int)) →
    ∃ ys : List Int, Ev (fun n => laws_markIntS.l0 n xs (k + (i : Int)) i) (k + (len : Int), ys) ∧ ys.length = len ∧ ∀ j : Nat, j < len → ys.getD j 0 = k + (j : Int) := by
  induction d with
  | zero =>
    intro xs i hx hd hi hm
    have e : i = len := by omega
    subst e
    refine ⟨xs, Ev.step (f := fun _ => some (k + (i : Int), xs)) (fun n => ?_) (Ev.now _), hx, hm⟩
    simp only [laws_markIntS.l0]
    rw [if_neg (by omega)]
  | succ d ih =>
    intro xs i hx hd hi hm
    have hlt : i < xs.length := by omega
    obtain ⟨ys, h1, h2, h3⟩ := ih (xs.set i (k + (i : Int))) (i + 1) (by simpa using hx) (by omega) (by omega) (by
      intro j hj
      rcases Nat.eq_or_lt_of_le (Nat.le_of_lt_succ hj) with e | e
      · subst e; exact gset_self _ _ _ _ hlt
      · rw [gset_ne _ _ _ _ _ (by omega)]; exact hm j e)
    refine ⟨ys, Ev.step (f := fun n => laws_markIntS.l0 n (xs.set i (k + (i : Int))) (k + ((i + 1 : Nat) : Int)) ((i + 1 : Nat) : Int)) (fun n => ?_) h1, h2, h3⟩
    simp only [laws_markIntS.l0]
    rw [if_pos (by omega), if_pos (by omega), wrap_id (x := k + (i : Int) + 1) (by omega) (by omega), wrap_id (x := (i : Int) + 1) (by omega) (by omega), show k + (i : Int) + 1 = k + ((i + 1 : Nat) : Int) from by omega]
    rfl
theorem heldIntS_l (k : Int) (h0 : 0 ≤ k) (ys : List Int) (hl : k + (ys.length : Int) ≤ 1152921504606846976) (hm : ∀ j : Nat, j < ys.length → ys.getD j 0 = k + (j : Int)) (d : Nat) : ∀ i : Nat, ys.length - i = d → i ≤ ys.length →
    Ev (fun n => laws_heldIntS.l0 n ys (k + (i : Int)) i) (k + (ys.length : Int)) := by
  induction d with
  | zero =>
    intro i hd hi
    have e : i = ys.length := by omega
    subst e
    refine Ev.step (f := fun _ => some (k + (ys.length : Int))) (fun n => ?_) (Ev.now _)
    simp only [laws_heldIntS.l0]
    rw [if_neg (by omega)]
  | succ d ih =>
    intro i hd hi
    refine Ev.step (f := fun n => laws_heldIntS.l0 n ys (k + ((i + 1 : Nat) : Int)) ((i + 1 : Nat) : Int)) (fun n => ?_) (ih (i + 1) (by omega) (by omega))
    simp only [laws_heldIntS.l0]
    rw [if_pos (by omega), if_pos (by omega), rdI, hm i (by omega), if_pos rfl, wrap_id (x := k + (i : Int) + 1) (by omega) (by omega), wrap_id (x := (i : Int) + 1) (by omega) (by omega), show k + (i : Int) + 1 = k + ((i + 1 : Nat) : Int) from by omega]
    rfl
theorem intS_marks (xs : List Int) (hl : xs.length ≤ 2097152) (k : Int) (h0 : 0 ≤ k) (h1 : k ≤ 1000000000000) : ∃ ys : List Int, Ev (fun n => laws_markIntS.f n xs k) (k + (xs.length : Int), ys) ∧ ys.length = xs.length ∧ Ev (fun n => laws_heldIntS.f n ys k) (k + (xs.length : Int)) := by
  obtain ⟨ys, a, b, c⟩ := markIntS_l k h0 xs.length (by omega) xs.length xs 0 rfl rfl (Nat.zero_le _) (fun j hj => by omega)
  refine ⟨ys, ?_, b, ?_⟩
  · have : Ev (fun n => laws_markIntS.l0 n xs (k + ((0 : Nat) : Int)) ((0 : Nat) : Int)) (k + (xs.length : Int), ys) := a
    rw [show k + ((0 : Nat) : Int) = k from by omega] at this
    exact this
  · have := heldIntS_l k h0 ys (by omega) (by rw [b]; exact c) ys.length 0 rfl (Nat.zero_le _)
    rw [show k + ((0 : Nat) : Int) = k from by omega, b] at this
    exact this
/-- The path from node i up to the root, and the list from the root down to i; the reversal as slices.Reverse makes it. -/
def up (t : List S77) : Nat → Int → List Int
  | 0, _ => []
  | d + 1, i => if i < 0 then [] else i :: up t d ((nd t i.toNat).f0)
theorem up_len (t : List S77) (d : Nat) : ∀ i : Int, (up t d i).length ≤ d := by
  induction d with
  | zero => intro i; exact Nat.le_refl _
  | succ d ih =>
    intro i
    simp only [up]
    split
    · simp
    · simp only [List.length_cons]; have := ih (nd t i.toNat).f0; omega
/-- In a valid tree: a node's parent is a node of a smaller number, and the root's is -1. -/
theorem parU {t : List S77} (ht : treeP t) (i : Nat) (hi : i < t.length) : -1 ≤ (nd t i).f0 ∧ (nd t i).f0 < (i : Int) := by
  rcases Nat.eq_zero_or_pos i with e | e
  · subst e; have := ht.2.1.1; omega
  · have := (ht.2.2 i e hi).1; omega
section
open Classical
noncomputable def pathV (t : List S77) (a : Int) : List Int := if treeP t ∧ (0 ≤ a ∧ a ≤ (t.length : Int) - 1) then (up t t.length a).reverse else []
theorem pathV_len (t : List S77) (a : Int) : (pathV t a).length ≤ t.length := by
  unfold pathV
  split
  · simpa using up_len t t.length a
  · simp
theorem up_mem (t : List S77) (ht : treeP t) (d : Nat) : ∀ i : Int, i < (t.length : Int) → ∀ x ∈ up t d i, 0 ≤ x ∧ x < (t.length : Int) := by
  induction d with
  | zero => intro i h x hx; cases hx
  | succ d ih =>
    intro i h x hx
    simp only [up] at hx
    by_cases hi : i < 0
    · rw [if_pos hi] at hx; cases hx
    · rw [if_neg hi] at hx
      have hp := parU ht i.toNat (by omega)
      rcases List.mem_cons.1 hx with e | e
      · subst e; omega
      · exact ih _ (by omega) x e
theorem pathV_mem (t : List S77) (a : Int) : ∀ x ∈ pathV t a, 0 ≤ x ∧ x < (t.length : Int) := by
  intro x hx
  unfold pathV at hx
  by_cases h : treeP t ∧ (0 ≤ a ∧ a ≤ (t.length : Int) - 1)
  · rw [if_pos h] at hx
    exact up_mem t h.1 t.length a (by omega) x (by simpa using hx)
  · rw [if_neg h] at hx; cases hx
theorem pathV_pos (t : List S77) (a : Int) (ht : treeP t) : (pathV t a).length = 0 ↔ ¬ (0 ≤ a ∧ a ≤ (t.length : Int) - 1) := by
  unfold pathV
  have hl := ht.1
  by_cases h : 0 ≤ a ∧ a ≤ (t.length : Int) - 1
  · rw [if_pos ⟨ht, h⟩]
    obtain ⟨m, hm⟩ : ∃ m, t.length = m + 1 := ⟨t.length - 1, by omega⟩
    rw [hm]
    simp only [up]
    rw [if_neg (by omega)]
    simp; omega
  · rw [if_neg (fun x => h x.2)]
    simpa using h
end
section
open Classical
theorem isn_s (t : List S77) (hl : t.length ≤ 1048576) (a : Int) : Ev (fun k => spec_l19Ok.f k t a) (decide (treeP t ∧ (0 ≤ a ∧ a ≤ (t.length : Int) - 1))) := by
  simp only [spec_l19Ok.f, in_s, Option.bind_some]
  refine Ev.bind (tree_s t) ?_
  rw [wrap_id (x := (t.length : Int) - 1) (by omega) (by omega)]
  by_cases h : treeP t
  · refine ev_pos (by simpa using h) (ev_to (Ev.now _) ?_)
    exact decide_eq_decide.2 ⟨fun x => ⟨h, x⟩, fun x => x.2⟩
  · refine ev_neg (by simpa using h) (ev_to (Ev.now _) ?_)
    exact (decide_eq_false (fun x => h x.1)).symm
theorem path_sl (t : List S77) (ht : treeP t) (d : Nat) : ∀ (i : Int) (acc : List Int), -1 ≤ i → i < (d : Int) → i < (t.length : Int) → acc.length + d ≤ 1048576 → Ev (fun k => spec_PathTo.l0 k t i acc) ((up t d i).reverse ++ acc) := by
  induction d with
  | zero =>
    intro i acc h0 h1 h2 h3
    refine Ev.step (f := fun _ => some acc) (fun k => ?_) (Ev.now _)
    simp only [spec_PathTo.l0]
    rw [if_neg (by omega)]
  | succ d ih =>
    intro i acc h0 h1 h2 h3
    by_cases hi : i < 0
    · refine Ev.step (f := fun _ => some acc) (fun k => ?_) (ev_to (Ev.now _) (by simp only [up]; rw [if_pos hi]; rfl))
      simp only [spec_PathTo.l0]
      rw [if_neg (by omega)]
    · have hp := parU ht i.toNat (by omega)
      have hn := ih (nd t i.toNat).f0 (i :: acc) (by omega) (by omega) (by omega) (by simp; omega)
      refine Ev.step (f := fun k => spec_PathTo.l0 k t (nd t i.toNat).f0 (i :: acc)) (fun k => ?_) (ev_to hn ?_)
      · simp only [spec_PathTo.l0, Option.bind_some]
        rw [if_pos (by omega), if_pos (by simp; omega), if_pos (by omega), if_pos (by omega)]
        rfl
      · simp only [up]
        rw [if_neg hi]
        simp
theorem path_s (t : List S77) (hl : t.length ≤ 1048576) (a : Int) : Ev (fun k => spec_PathTo.f k t a) (pathV t a) := by
  simp only [spec_PathTo.f, Option.bind_some]
  refine Ev.bind (isn_s t hl a) ?_
  unfold pathV
  by_cases h : treeP t ∧ (0 ≤ a ∧ a ≤ (t.length : Int) - 1)
  · refine ev_pos (by simpa using h) ?_
    rw [if_pos h]
    have := path_sl t h.1 t.length a [] (by omega) (by omega) (by omega) (by simp; omega)
    rw [List.append_nil] at this
    exact this
  · refine ev_neg (by simpa using h) ?_
    rw [if_neg h]
    exact Ev.now _
end
theorem rdI' (l : List Int) (i : Nat) : rd l (i : Int) = l.getD i 0 := rfl
theorem rev_l (xs : List Int) (hl : xs.length ≤ 1048576) (d : Nat) : ∀ (ys : List Int) (i : Nat), ys.length = xs.length → xs.length - 2 * i = d → i ≤ xs.length →
    (∀ p : Nat, p < i → ys.getD p 0 = xs.getD (xs.length - 1 - p) 0) → (∀ p : Nat, i ≤ p → p + i < xs.length → ys.getD p 0 = xs.getD p 0) → (∀ p : Nat, p < xs.length → xs.length ≤ p + i → ys.getD p 0 = xs.getD (xs.length - 1 - p) 0) →
    Ev (fun k => slices_Reverse_int_int.l0 k ys (i : Int) ((xs.length : Int) - 1 - (i : Int))) xs.reverse := by
  induction d using Nat.strongRecOn with
  | ind d ih =>
    intro ys i hy hd hi h1 h2 h3
    by_cases hlt : 2 * i + 1 < xs.length
    · have hn := ih (xs.length - 2 * (i + 1)) (by omega) ((ys.set i (ys.getD (xs.length - 1 - i) 0)).set (xs.length - 1 - i) (ys.getD i 0)) (i + 1) (by simpa using hy) rfl (by omega)
        (fun p hp => by
          by_cases e : p = i
          · subst e
            rw [gset_ne _ _ _ _ _ (by omega), gset_self _ _ _ _ (by omega), h2 _ (by omega) (by omega)]
          · rw [gset_ne _ _ _ _ _ (by omega), gset_ne _ _ _ _ _ (by omega), h1 p (by omega)])
        (fun p hp hq => by rw [gset_ne _ _ _ _ _ (by omega), gset_ne _ _ _ _ _ (by omega), h2 p (by omega) (by omega)])
        (fun p hp hq => by
          by_cases e : p = xs.length - 1 - i
          · subst e
            rw [gset_self _ _ _ _ (by simp; omega), h2 i (by omega) (by omega)]
            congr 1; omega
          · rw [gset_ne _ _ _ _ _ (by omega), gset_ne _ _ _ _ _ (by omega), h3 p hp (by omega)])
      refine Ev.step (f := fun k => slices_Reverse_int_int.l0 k ((ys.set i (ys.getD (xs.length - 1 - i) 0)).set (xs.length - 1 - i) (ys.getD i 0)) ((i + 1 : Nat) : Int) ((xs.length : Int) - 1 - ((i + 1 : Nat) : Int))) (fun k => ?_) hn
      simp only [slices_Reverse_int_int.l0]
      rw [show ((xs.length : Int) - 1 - (i : Int)) = ((xs.length - 1 - i : Nat) : Int) from by omega]
      rw [if_pos (by omega), if_pos (by omega), if_pos (by omega), if_pos (by omega), if_pos (by omega), rdI', rdI', wrap_id (x := (i : Int) + 1) (by omega) (by omega), wrap_id (x := ((xs.length - 1 - i : Nat) : Int) - 1) (by omega) (by omega)]
      rw [show ((xs.length : Int) - 1 - ((i + 1 : Nat) : Int)) = ((xs.length - 1 - i : Nat) : Int) - 1 from by omega]
      rfl
    · refine Ev.step (f := fun _ => some xs.reverse) (fun k => ?_) (Ev.now _)
      simp only [slices_Reverse_int_int.l0]
      rw [if_neg (by omega)]
      congr 1
      refine List.ext_getElem (by simpa using hy) (fun p hp hq => ?_)
      have hp' : p < xs.length := by omega
      have a : ys.getD p 0 = xs.getD (xs.length - 1 - p) 0 := by
        by_cases e1 : p < i
        · exact h1 p e1
        · by_cases e2 : xs.length ≤ p + i
          · exact h3 p hp' e2
          · rw [h2 p (by omega) (by omega)]
            congr 1; omega
      rw [List.getElem_reverse]
      simpa [List.getD_eq_getElem?_getD, List.getElem?_eq_getElem hp, List.getElem?_eq_getElem (show xs.length - 1 - p < xs.length by omega)] using a
theorem rev_ev (xs : List Int) (hl : xs.length ≤ 1048576) : Ev (fun k => slices_Reverse_int_int.f k xs) xs.reverse := by
  have := rev_l xs hl xs.length xs 0 rfl (by omega) (Nat.zero_le _) (fun p hp => by omega) (fun p _ _ => rfl) (fun p hp hq => by omega)
  simp only [slices_Reverse_int_int.f]
  rw [wrap_id (by omega) (by omega)]
  rw [show ((xs.length : Int) - 1 - ((0 : Nat) : Int)) = (xs.length : Int) - 1 from by omega] at this
  exact this
section
open Classical
theorem isn_i (t : List S77) (hl : t.length ≤ 1048576) (a : Int) : Ev (fun k => impl_isNode.f k t a) (decide (treeP t ∧ (0 ≤ a ∧ a ≤ (t.length : Int) - 1))) := by
  simp only [impl_isNode.f, in_i, Option.bind_some]
  refine Ev.bind (tree_i t) ?_
  rw [wrap_id (x := (t.length : Int) - 1) (by omega) (by omega)]
  by_cases h : treeP t
  · refine ev_pos (by simpa using h) (ev_to (Ev.now _) ?_)
    exact decide_eq_decide.2 ⟨fun x => ⟨h, x⟩, fun x => x.2⟩
  · refine ev_neg (by simpa using h) (ev_to (Ev.now _) ?_)
    exact (decide_eq_false (fun x => h x.1)).symm
theorem path_il (t : List S77) (ht : treeP t) (d : Nat) : ∀ (i : Int) (acc : List Int), -1 ≤ i → i < (d : Int) → i < (t.length : Int) → acc.length + d ≤ 1048576 → Ev (fun k => impl_PathTo.l0 k t i acc) ((acc ++ up t d i).reverse) := by
  induction d with
  | zero =>
    intro i acc h0 h1 h2 h3
    refine Ev.step (f := fun k => (slices_Reverse_int_int.f k acc).bind fun x => some x) (fun k => ?_) (ev_map (rev_ev acc (by omega)) (by simp [up]))
    simp only [impl_PathTo.l0]
    rw [if_neg (by omega)]
  | succ d ih =>
    intro i acc h0 h1 h2 h3
    by_cases hi : i < 0
    · refine Ev.step (f := fun k => (slices_Reverse_int_int.f k acc).bind fun x => some x) (fun k => ?_) (ev_map (rev_ev acc (by omega)) (by simp only [up]; rw [if_pos hi]; simp))
      simp only [impl_PathTo.l0]
      rw [if_neg (by omega)]
    · have hp := parU ht i.toNat (by omega)
      have hn := ih (nd t i.toNat).f0 (acc ++ [i]) (by omega) (by omega) (by omega) (by simp; omega)
      refine Ev.step (f := fun k => impl_PathTo.l0 k t (nd t i.toNat).f0 (acc ++ [i])) (fun k => ?_) (ev_to hn ?_)
      · simp only [impl_PathTo.l0]
        rw [if_pos (by omega), if_pos (by omega), if_pos (by omega), if_pos (by omega)]
        rfl
      · simp only [up]
        rw [if_neg hi]
        simp
theorem path_i (t : List S77) (hl : t.length ≤ 1048576) (a : Int) : Ev (fun k => impl_PathTo.f k t a) (pathV t a) := by
  simp only [impl_PathTo.f, Option.bind_some]
  refine Ev.bind (isn_i t hl a) ?_
  unfold pathV
  by_cases h : treeP t ∧ (0 ≤ a ∧ a ≤ (t.length : Int) - 1)
  · refine ev_pos (by simpa using h) ?_
    rw [if_pos h]
    have := path_il t h.1 t.length a [] (by omega) (by omega) (by omega) (by simp; omega)
    rw [List.nil_append] at this
    exact this
  · refine ev_neg (by simpa using h) ?_
    rw [if_neg h]
    exact Ev.now _
end
section
open Classical
theorem mem_drop_iff (p : List Int) (a : Int) (i : Nat) (h : i < p.length) : (a ∈ p.drop i) ↔ (p[i] = a ∨ a ∈ p.drop (i + 1)) := by
  rw [List.drop_eq_getElem_cons h, List.mem_cons]
  exact ⟨fun x => x.imp Eq.symm id, fun x => x.imp Eq.symm id⟩
theorem has_l (p : List Int) (hp : p.length ≤ 1048576) (a : Int) (d : Nat) : ∀ i : Nat, p.length - i = d → i ≤ p.length → Ev (fun k => spec_l19Has.l0 k p a i) (decide (a ∈ p.drop i)) := by
  induction d with
  | zero =>
    intro i hd hi
    rw [List.drop_eq_nil_of_le (by omega)]
    refine Ev.step (f := fun _ => some false) (fun k => ?_) (ev_to (Ev.now _) (by simp))
    simp only [spec_l19Has.l0]
    rw [if_neg (by omega)]
  | succ d ih =>
    intro i hd hi
    have h : i < p.length := by omega
    have hr : rd p (i : Int) = p[i] := by show p.getD i 0 = _; simp [List.getD_eq_getElem?_getD, List.getElem?_eq_getElem h]
    have hn := ih (i + 1) (by omega) (by omega)
    refine Ev.step (f := fun k => if p[i] = a then some true else spec_l19Has.l0 k p a ((i + 1 : Nat) : Int)) (fun k => ?_) ?_
    · simp only [spec_l19Has.l0]
      rw [if_pos (by omega), if_pos (by omega), hr, wrap_id (x := (i : Int) + 1) (by omega) (by omega)]
      rfl
    · by_cases e : p[i] = a
      · exact ev_pos e (ev_to (Ev.now _) (decide_eq_true ((mem_drop_iff p a i h).2 (Or.inl e))).symm)
      · exact ev_neg e (ev_to hn (decide_eq_decide.2 ⟨fun x => (mem_drop_iff p a i h).2 (Or.inr x), fun x => ((mem_drop_iff p a i h).1 x).resolve_left e⟩))
theorem idx_l (p : List Int) (hp : p.length ≤ 1048576) (a : Int) (d : Nat) : ∀ i : Nat, p.length - i = d → i ≤ p.length → ∃ r : Int, Ev (fun k => slices_Index_int_int.l0 k p a (p.length : Int) i) r ∧ decide (r ≥ 0) = decide (a ∈ p.drop i) := by
  induction d with
  | zero =>
    intro i hd hi
    rw [List.drop_eq_nil_of_le (by omega)]
    refine ⟨-1, Ev.step (f := fun _ => some (-1)) (fun k => ?_) (Ev.now _), by simp⟩
    simp only [slices_Index_int_int.l0]
    rw [if_neg (by omega)]
  | succ d ih =>
    intro i hd hi
    have h : i < p.length := by omega
    have hr : rd p (i : Int) = p[i] := by show p.getD i 0 = _; simp [List.getD_eq_getElem?_getD, List.getElem?_eq_getElem h]
    obtain ⟨r, hn, hv⟩ := ih (i + 1) (by omega) (by omega)
    by_cases e : a = p[i]
    · refine ⟨(i : Int), Ev.step (f := fun _ => some (i : Int)) (fun k => ?_) (Ev.now _), ?_⟩
      · simp only [slices_Index_int_int.l0]
        rw [if_pos (by omega), if_pos (by omega), if_pos (by omega), hr, if_pos e]
      · rw [decide_eq_true (show (i : Int) ≥ 0 by omega), decide_eq_true ((mem_drop_iff p a i h).2 (Or.inl e.symm))]
    · refine ⟨r, Ev.step (f := fun k => slices_Index_int_int.l0 k p a (p.length : Int) ((i + 1 : Nat) : Int)) (fun k => ?_) hn, ?_⟩
      · simp only [slices_Index_int_int.l0]
        rw [if_pos (by omega), if_pos (by omega), if_pos (by omega), hr, if_neg e, wrap_id (x := (i : Int) + 1) (by omega) (by omega)]
        rfl
      · rw [hv]
        exact decide_eq_decide.2 ⟨fun x => (mem_drop_iff p a i h).2 (Or.inr x), fun x => ((mem_drop_iff p a i h).1 x).resolve_left (fun z => e z.symm)⟩
theorem contains_ev (p : List Int) (hp : p.length ≤ 1048576) (a : Int) : Ev (fun k => slices_Contains_int_int.f k p a) (decide (a ∈ p)) := by
  obtain ⟨r, h, hv⟩ := idx_l p hp a p.length 0 rfl (Nat.zero_le _)
  simp only [slices_Contains_int_int.f, slices_Index_int_int.f]
  exact ev_map h (by rw [hv, List.drop_zero])
noncomputable def belowV (t : List S77) (a b : Int) : Bool := decide (b ∈ pathV t a)
theorem below_s (t : List S77) (hl : t.length ≤ 1048576) (a b : Int) : Ev (fun k => spec_IsBelow.f k t a b) (belowV t a b) := by
  simp only [spec_IsBelow.f, spec_l19Has.f]
  refine Ev.bind (path_s t hl a) (ev_map ?_ rfl)
  exact has_l (pathV t a) (by have := pathV_len t a; omega) b (pathV t a).length 0 rfl (Nat.zero_le _)
theorem below_i (t : List S77) (hl : t.length ≤ 1048576) (a b : Int) : Ev (fun k => impl_IsBelow.f k t a b) (belowV t a b) := by
  simp only [impl_IsBelow.f]
  exact Ev.bind (path_i t hl a) (ev_map (contains_ev _ (by have := pathV_len t a; omega) b) rfl)
end
noncomputable def rmFrom (t : List S77) (a : Int) : Nat → Nat → List S77 → List Int → List S77 × List Int × Bool
  | 0, _, kept, ids => (kept, ids, true)
  | d + 1, i, kept, ids => if belowV t (i : Int) a = true then rmFrom t a d (i + 1) kept (ids ++ [-1]) else if (i : Int) > 0 then rmFrom t a d (i + 1) (kept ++ [⟨ids.getD (nd t i).f0.toNat 0, (nd t i).f1, (nd t i).f2⟩]) (ids ++ [(kept.length : Int)]) else rmFrom t a d (i + 1) (kept ++ [⟨(nd t i).f0, (nd t i).f1, (nd t i).f2⟩]) (ids ++ [(kept.length : Int)])
theorem rmFrom_len (t : List S77) (a : Int) (d : Nat) : ∀ (i : Nat) (kept : List S77) (ids : List Int), (rmFrom t a d i kept ids).1.length ≤ kept.length + d ∧ (rmFrom t a d i kept ids).2.1.length ≤ ids.length + d := by
  induction d with
  | zero => intro i kept ids; exact ⟨Nat.le_refl _, Nat.le_refl _⟩
  | succ d ih =>
    intro i kept ids
    simp only [rmFrom]
    split
    · have := ih (i + 1) kept (ids ++ [-1]); simp at this; omega
    · split
      · have := ih (i + 1) (kept ++ [⟨ids.getD (nd t i).f0.toNat 0, (nd t i).f1, (nd t i).f2⟩]) (ids ++ [(kept.length : Int)]); simp at this; simp; omega
      · have := ih (i + 1) (kept ++ [⟨(nd t i).f0, (nd t i).f1, (nd t i).f2⟩]) (ids ++ [(kept.length : Int)]); simp at this; omega
theorem remove_sl (t : List S77) (ht : treeP t) (a : Int) (d : Nat) : ∀ (i : Nat) (kept : List S77) (ids : List Int), t.length - i = d → i ≤ t.length → ids.length = i → kept.length ≤ i → Ev (fun k => spec_RemoveNode.l0 k t a kept ids i) (rmFrom t a d i kept ids) := by
  have hl := ht.1
  induction d with
  | zero =>
    intro i kept ids hd hi h1 h2
    refine Ev.step (f := fun _ => some (kept, ids, true)) (fun k => ?_) (Ev.now _)
    simp only [spec_RemoveNode.l0]
    rw [if_neg (by omega)]
  | succ d ih =>
    intro i kept ids hd hi h1 h2
    have hlt : i < t.length := by omega
    have hp := parU ht i hlt
    refine Ev.step (f := fun k => (spec_IsBelow.f k t (i : Int) a).bind fun b => if b = true then spec_RemoveNode.l0 k t a kept (ids ++ [-1]) ((i + 1 : Nat) : Int) else if (i : Int) > 0 then spec_RemoveNode.l0 k t a (kept ++ [⟨ids.getD (nd t i).f0.toNat 0, (nd t i).f1, (nd t i).f2⟩]) (ids ++ [(kept.length : Int)]) ((i + 1 : Nat) : Int) else spec_RemoveNode.l0 k t a (kept ++ [⟨(nd t i).f0, (nd t i).f1, (nd t i).f2⟩]) (ids ++ [(kept.length : Int)]) ((i + 1 : Nat) : Int)) (fun k => ?_) (Ev.bind (below_s t (by omega) (i : Int) a) ?_)
    · simp only [spec_RemoveNode.l0]
      rw [if_pos (by omega), wrap_id (x := (i : Int) + 1) (by omega) (by omega)]
      refine congrArg _ (funext fun b => ?_)
      cases b
      · rw [if_neg (show ¬ (false = true) from by decide), if_neg (show ¬ (false = true) from by decide), if_pos (by omega)]
        by_cases h : (i : Int) > 0
        · have h0 : 0 ≤ (nd t i).f0 := by have := (ht.2.2 i (by omega) hlt).1; omega
          rw [if_pos h, if_pos h, rd_nd, if_pos h0, if_pos (by omega), if_pos (by omega), if_pos (by omega)]
          rfl
        · rw [if_neg h, if_neg h, if_pos (by omega), if_pos (by omega), rd_nd]
          rfl
      · rw [if_pos (show true = true from rfl), if_pos (show true = true from rfl), if_pos (by omega)]
        rfl
    · simp only [rmFrom]
      refine ev_ite (fun _ => ih (i + 1) kept (ids ++ [-1]) (by omega) (by omega) (by simp [h1]) (by omega)) (fun _ => ev_ite (fun _ => ih (i + 1) _ _ (by omega) (by omega) (by simp [h1]) (by simp; omega)) (fun _ => ih (i + 1) _ _ (by omega) (by omega) (by simp [h1]) (by simp; omega)))
theorem remove_il (t : List S77) (ht : treeP t) (a : Int) (d : Nat) : ∀ (i : Nat) (kept : List S77) (ids : List Int), t.length - i = d → i ≤ t.length → ids.length = i → kept.length ≤ i → Ev (fun k => impl_RemoveNode.l0 k t a kept ids t (t.length : Int) i) (rmFrom t a d i kept ids) := by
  have hl := ht.1
  induction d with
  | zero =>
    intro i kept ids hd hi h1 h2
    refine Ev.step (f := fun _ => some (kept, ids, true)) (fun k => ?_) (Ev.now _)
    simp only [impl_RemoveNode.l0]
    rw [if_neg (by omega)]
  | succ d ih =>
    intro i kept ids hd hi h1 h2
    have hlt : i < t.length := by omega
    have hp := parU ht i hlt
    refine Ev.step (f := fun k => (impl_IsBelow.f k t (i : Int) a).bind fun b => if b = true then impl_RemoveNode.l0 k t a kept (ids ++ [-1]) t (t.length : Int) ((i + 1 : Nat) : Int) else if (i : Int) > 0 then impl_RemoveNode.l0 k t a (kept ++ [⟨ids.getD (nd t i).f0.toNat 0, (nd t i).f1, (nd t i).f2⟩]) (ids ++ [(kept.length : Int)]) t (t.length : Int) ((i + 1 : Nat) : Int) else impl_RemoveNode.l0 k t a (kept ++ [⟨(nd t i).f0, (nd t i).f1, (nd t i).f2⟩]) (ids ++ [(kept.length : Int)]) t (t.length : Int) ((i + 1 : Nat) : Int)) (fun k => ?_) (Ev.bind (below_i t (by omega) (i : Int) a) ?_)
    · simp only [impl_RemoveNode.l0]
      rw [if_pos (by omega), if_pos (by omega), if_pos (by omega), wrap_id (x := (i : Int) + 1) (by omega) (by omega)]
      refine congrArg _ (funext fun b => ?_)
      cases b
      · rw [if_neg (show ¬ (false = true) from by decide), if_neg (show ¬ (false = true) from by decide), if_pos (by omega)]
        simp only [Option.bind_some]
        by_cases h : (i : Int) > 0
        · have h0 : 0 ≤ (nd t i).f0 := by have := (ht.2.2 i (by omega) hlt).1; omega
          have hg : rd (ids ++ [(kept.length : Int)]) (nd t i).f0 = ids.getD (nd t i).f0.toNat 0 := by
            show (ids ++ [(kept.length : Int)]).getD (nd t i).f0.toNat 0 = _
            rw [List.getD_eq_getElem?_getD, List.getD_eq_getElem?_getD, List.getElem?_append_left (by omega)]
          rw [if_pos h, if_pos h, rd_nd, if_pos h0, if_pos (by simp; omega), if_pos (by omega), hg]
          rfl
        · rw [if_neg h, if_neg h, if_pos (by omega), rd_nd]
          rfl
      · rw [if_pos (show true = true from rfl), if_pos (show true = true from rfl), if_pos (by omega)]
        rfl
    · simp only [rmFrom]
      refine ev_ite (fun _ => ih (i + 1) kept (ids ++ [-1]) (by omega) (by omega) (by simp [h1]) (by omega)) (fun _ => ev_ite (fun _ => ih (i + 1) _ _ (by omega) (by omega) (by simp [h1]) (by simp; omega)) (fun _ => ih (i + 1) _ _ (by omega) (by omega) (by simp [h1]) (by simp; omega)))
section
open Classical
noncomputable def rmR (t : List S77) (a : Int) : List S77 × List Int × Bool := if treeP t ∧ (1 ≤ a ∧ a ≤ (t.length : Int) - 1) then rmFrom t a t.length 0 [] [] else (t, [], false)
theorem rmR_len (t : List S77) (a : Int) : (rmR t a).1.length ≤ t.length ∧ (rmR t a).2.1.length ≤ t.length := by
  unfold rmR
  split
  · have := rmFrom_len t a t.length 0 [] []; simpa using this
  · exact ⟨Nat.le_refl _, Nat.zero_le _⟩
theorem remove_s (t : List S77) (hl : t.length ≤ 1048576) (a : Int) : Ev (fun n => spec_RemoveNode.f n t a) (rmR t a) := by
  have hj : ∀ b : Bool, (b = false → treeP t) → Ev (fun n => spec_RemoveNode.j0 n t a b) (if b = true then (t, [], false) else rmFrom t a t.length 0 [] []) := by
    intro b hb
    refine Ev.step (f := fun n => if b = true then some (t, [], false) else spec_RemoveNode.l0 n t a [] [] ((0 : Nat) : Int)) (fun n => ?_) (ev_ite (fun _ => Ev.now _) (fun h => remove_sl t (hb (by simpa using h)) a t.length 0 [] [] rfl (Nat.zero_le _) rfl (Nat.le_refl _)))
    simp only [spec_RemoveNode.j0, Option.bind_some, List.nil_append, List.length_nil]
    rw [if_pos (show 0 + t.length < 5864062014805 by omega)]
    rfl
  simp only [spec_RemoveNode.f, in_s, Option.bind_some]
  refine Ev.bind (tree_s t) ?_
  rw [wrap_id (x := (t.length : Int) - 1) (by omega) (by omega)]
  unfold rmR
  by_cases h : treeP t
  · refine ev_pos (by simpa using h) ?_
    by_cases h2 : 1 ≤ a ∧ a ≤ (t.length : Int) - 1
    · rw [if_pos ⟨h, h2⟩, decide_eq_true h2]; exact hj false (fun _ => h)
    · rw [if_neg (fun x => h2 x.2), decide_eq_false h2]; exact hj true (fun x => by cases x)
  · rw [if_neg (fun x => h x.1)]
    exact ev_neg (by simpa using h) (hj true (fun x => by cases x))
theorem clone_n (t : List S77) (hl : t.length ≤ 1048576) : slices_Clone_impl_Node.f t = some t := by
  simp only [slices_Clone_impl_Node.f]
  rw [if_pos (by omega)]
theorem remove_i (t : List S77) (hl : t.length ≤ 1048576) (a : Int) : Ev (fun n => impl_RemoveNode.f n t a) (rmR t a) := by
  have hj : ∀ b : Bool, (b = false → treeP t) → Ev (fun n => impl_RemoveNode.j0 n t a b) (if b = true then (t, [], false) else rmFrom t a t.length 0 [] []) := by
    intro b hb
    refine Ev.step (f := fun n => if b = true then some (t, [], false) else impl_RemoveNode.l0 n t a [] [] t (t.length : Int) ((0 : Nat) : Int)) (fun n => ?_) (ev_ite (fun _ => Ev.now _) (fun h => remove_il t (hb (by simpa using h)) a t.length 0 [] [] rfl (Nat.zero_le _) rfl (Nat.le_refl _)))
    simp only [impl_RemoveNode.j0, clone_n t hl, Option.bind_some]
    rfl
  simp only [impl_RemoveNode.f, in_i, Option.bind_some]
  refine Ev.bind (tree_i t) ?_
  rw [wrap_id (x := (t.length : Int) - 1) (by omega) (by omega)]
  unfold rmR
  by_cases h : treeP t
  · refine ev_pos (by simpa using h) ?_
    by_cases h2 : 1 ≤ a ∧ a ≤ (t.length : Int) - 1
    · rw [if_pos ⟨h, h2⟩, decide_eq_true h2]; exact hj false (fun _ => h)
    · rw [if_neg (fun x => h2 x.2), decide_eq_false h2]; exact hj true (fun x => by cases x)
  · rw [if_neg (fun x => h x.1)]
    exact ev_neg (by simpa using h) (hj true (fun x => by cases x))
end
theorem FnExactRemoveNode : ∀ (x0 : List (S92)) (x1 : Int), (x0.length * 24 ≤ 140737488351232 ∧ x0.length ≤ maxLen ∧ ∀ y ∈ x0, wf92 y) → ((Lit.int .i64 x1).wf = true) → ∃ k, laws_FnExactRemoveNode.f k x0 x1 = some true := by
  rintro l a ⟨h1, h2, _⟩ _
  have hl : l.length ≤ 11728124029610 := by omega
  refine Ev.rounds (g := fun n => laws_FnExactRemoveNode.f n l a) ?_
  simp only [laws_FnExactRemoveNode.f, sz_node l hl 1048576 (by omega) (by omega), Option.bind_some]
  by_cases h : (l.length : Int) ≤ 1048576
  case neg => rw [if_neg h]; exact ev_pos (by omega) (Ev.now _)
  rw [if_pos h]
  have hm : (l.map toN).length ≤ 1048576 := by simp; omega
  have hT := toNodeS_ev l hl
  have hE := eqNodeS_ev (l.map toN) (by omega)
  have hS := remove_s (l.map toN) hm a
  have hI := remove_i (l.map toN) hm a
  have hR := rmR_len (l.map toN) a
  generalize rmR (l.map toN) a = R at hS hI hR
  obtain ⟨R1, R2, R3⟩ := R
  simp only at hR
  obtain ⟨ys, m1, m2, m3⟩ := nodeS_marks (l.map toN) (by omega) 1 (by omega) (by omega)
  obtain ⟨zs, m4, m5, m6⟩ := nodeS_marks R1 (by omega) 1 (by omega) (by omega)
  obtain ⟨us, n4, n5, n6⟩ := intS_marks R2 (by omega) (1 + 3 * (R1.length : Int)) (by omega) (by omega)
  have hq := eqNodeS_ev R1 (by omega)
  have hp := eqIntS_ev R2 (by omega)
  have b1 : (R3 != R3) = false := by simp
  refine ev_neg (by omega) (Ev.bind hT (Ev.bind hS (Ev.bind hT (Ev.bind hI (Ev.bind hq (ev_pos rfl (Ev.bind hp (ev_pos rfl ?_))))))))
  simp only [b1]
  refine Ev.step (fun n => by simp only [laws_FnExactRemoveNode.j0]; rw [if_neg (by decide)]) ?_
  refine Ev.bind hT (Ev.bind hE (ev_pos rfl (Ev.bind m1 (ev_neg (by simp; omega) (Ev.bind hq (ev_pos rfl (Ev.bind hp (ev_pos rfl ?_))))))))
  simp only [b1]
  refine Ev.step (fun n => by simp only [laws_FnExactRemoveNode.j1]; rw [if_neg (by decide)]) ?_
  refine Ev.bind m4 (Ev.bind n4 (Ev.bind m6 (ev_neg (by omega) (Ev.bind n6 (ev_neg (by omega) (ev_pos rfl (Ev.bind hT (Ev.bind hI (Ev.bind hq (ev_pos rfl (Ev.bind hp (ev_pos rfl ?_))))))))))))
  simp only [b1]
  refine Ev.step (fun n => by simp only [laws_FnExactRemoveNode.j2]; rw [if_neg (by decide)]) ?_
  exact Ev.bind m6 (ev_neg (by omega) (Ev.bind n6 (ev_neg (by omega) (ev_pos rfl (Ev.now _)))))

end Go.Proofs.Ytdolbkocghgibaa.Pure

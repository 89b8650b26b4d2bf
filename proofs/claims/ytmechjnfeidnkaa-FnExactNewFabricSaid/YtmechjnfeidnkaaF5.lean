/- Places of windows: plain words. No condition. -/
import Derived.Test.YtmechjnfeidnkaaF3
set_option linter.unusedVariables false
set_option linter.unnecessarySimpa false
set_option linter.unusedSimpArgs false
namespace Go.Proofs.Ytmechjnfeidnkaa.V.W
open Go Go.RowKit
/-- a lies before b: the greater window first, then the lower number -/
def lt (w : Nat → Nat) (a b : Int) : Prop := w b.toNat < w a.toNat ∨ (w a.toNat = w b.toNat ∧ a < b)
instance (w : Nat → Nat) (a b : Int) : Decidable (lt w a b) := by unfold lt; infer_instance
def byWin (w : Nat → Nat) (a b : Int) : Int := if cmpI (w b.toNat) (w a.toNat) = 0 then cmpI a b else cmpI (w b.toNat) (w a.toNat)
theorem byWin_lt {w : Nat → Nat} {a b : Int} : byWin w a b < 0 ↔ lt w a b := by
  unfold byWin cmpI lt
  constructor
  · intro h
    repeat' split at h
    all_goals omega
  · intro h
    repeat' split
    all_goals omega
theorem ins_mem' {c : Int → Int → Int} {x y : Int} {P : List Int} : y ∈ ins c x P ↔ y = x ∨ y ∈ P := by
  rw [(ins_perm c x P).mem_iff, List.mem_cons]
theorem ins_sorted (w : Nat → Nat) (x : Int) : ∀ P : List Int, P.Pairwise (fun a b => ¬ lt w a b) → (ins (byWin w) x P).Pairwise (fun a b => ¬ lt w a b)
  | [], _ => List.pairwise_singleton _ _
  | y :: r, h => by
    have h' := List.pairwise_cons.1 h
    unfold ins
    split
    · rename_i hc
      have hc := byWin_lt.1 hc
      refine List.pairwise_cons.2 ⟨fun v hv => ?_, ins_sorted w x r h'.2⟩
      rcases ins_mem'.1 hv with rfl | hv
      · unfold lt at hc ⊢; omega
      · exact h'.1 v hv
    · rename_i hc
      have hc : ¬ lt w x y := fun h => hc (byWin_lt.2 h)
      refine List.pairwise_cons.2 ⟨fun v hv => ?_, h⟩
      rcases List.mem_cons.1 hv with rfl | hv
      · exact hc
      · have := h'.1 v hv
        unfold lt at hc this ⊢
        omega
theorem pre_sorted (w : Nat → Nat) (xs : List Int) : ∀ ys P : List Int, P.Pairwise (fun a b => ¬ lt w a b) → (ys.foldl (fun P x => ins (byWin w) x P) P).Pairwise (fun a b => ¬ lt w a b)
  | [], P, h => h
  | y :: ys, P, h => pre_sorted w xs ys _ (ins_sorted w y P h)
theorem isort_sorted (w : Nat → Nat) {xs : List Int} (hn : xs.Nodup) : (isort (byWin w) xs).Pairwise (lt w) := by
  have h1 : (pre (byWin w) xs xs.length).Pairwise (fun a b => ¬ lt w a b) := pre_sorted w xs _ [] List.Pairwise.nil
  have h2 : (isort (byWin w) xs).Pairwise (fun a b => ¬ lt w b a) := by
    unfold isort
    exact List.pairwise_reverse.2 h1
  have h3 : (isort (byWin w) xs).Nodup := (isort_perm (byWin w) xs).nodup_iff.2 hn
  refine (h2.and h3).imp fun {a b} h => ?_
  obtain ⟨h4, h5⟩ := h
  unfold lt at h4 ⊢
  omega
theorem take_filter (w : Nat → Nat) : ∀ (l : List Int), l.Pairwise (lt w) → ∀ i, i < l.length → l.filter (fun a => decide (lt w a (l.getD i 0))) = l.take i
  | a :: r, h, 0, _ => by
    have h' := List.pairwise_cons.1 h
    rw [List.take_zero, List.filter_eq_nil_iff]
    intro b hb
    have : ¬ lt w b a := by
      rcases List.mem_cons.1 hb with rfl | hb
      · unfold lt; omega
      · have := h'.1 b hb
        unfold lt at this ⊢
        omega
    simpa using this
  | a :: r, h, i + 1, hi => by
    have h' := List.pairwise_cons.1 h
    have hi : i < r.length := by simpa using hi
    have : lt w a (r.getD i 0) := by
      refine h'.1 _ ?_
      rw [List.getD_eq_getElem?_getD, List.getElem?_eq_getElem hi]
      exact List.getElem_mem hi
    rw [List.getD_cons_succ, List.filter_cons_of_pos (by simpa using this), List.take_succ_cons, take_filter w r h'.2 i hi]
theorem wsum_filter (f : Nat → Nat) (p : Int → Bool) : ∀ {xs : List Int} {a : Int}, a ∈ xs → p a = false → wsum f (xs.filter p) + f a.toNat ≤ wsum f xs
  | b :: xs, a, h, hp => by
    have hle : ∀ ys : List Int, wsum f (ys.filter p) ≤ wsum f ys := by
      intro ys
      induction ys with
      | nil => exact Nat.le_refl _
      | cons y ys ih =>
        rw [List.filter_cons]
        split
        · rw [wsum_cons, wsum_cons]; omega
        · rw [wsum_cons]; omega
    rcases List.mem_cons.1 h with rfl | h
    · rw [List.filter_cons, if_neg (by simp [hp]), wsum_cons]
      have := hle xs
      omega
    · have := wsum_filter f p h hp
      rw [List.filter_cons]
      split
      · rw [wsum_cons, wsum_cons]; omega
      · rw [wsum_cons]; omega
/-- what is laid down before j -/
def befs (t : List Nd) (s : List Int) (k : Int) (j : Nat) : Nat := wsum (win t s) ((kids t k t.length).filter fun a => decide (lt (win t s) a j))
/-- where the window of a node begins -/
def posF (t : List Nd) (s : List Int) : Nat → Nat → Nat
  | 0, _ => 0
  | f + 1, j => if j = 0 ∨ win t s j = 0 then 0 else posF t s f (t.getD j z).1.toNat + befs t s (t.getD j z).1 j
def pos (t : List Nd) (s : List Int) (j : Nat) : Nat := posF t s j j
theorem posF_same {t : List Nd} (hok : treeOk t = true) (s : List Int) : ∀ (f g j : Nat), j < t.length → j ≤ f → j ≤ g → posF t s f j = posF t s g j
  | 0, 0, j, hj, h1, h2 => rfl
  | 0, g + 1, j, hj, h1, h2 => by
    obtain rfl : j = 0 := by omega
    rw [posF, posF, if_pos (.inl rfl)]
  | f + 1, 0, j, hj, h1, h2 => by
    obtain rfl : j = 0 := by omega
    rw [posF, posF, if_pos (.inl rfl)]
  | f + 1, g + 1, j, hj, h1, h2 => by
    rw [posF, posF]
    split
    · rfl
    · rename_i hn
      have := tree_node hok (j := j) (by omega) hj
      rw [posF_same hok s f g _ (by omega) (by omega) (by omega)]
theorem pos_root (t : List Nd) (s : List Int) : pos t s 0 = 0 := rfl
theorem pos_zero {t : List Nd} {s : List Int} {j : Nat} (h : win t s j = 0) : pos t s j = 0 := by
  unfold pos
  cases j with
  | zero => rfl
  | succ j => rw [posF, if_pos (.inr h)]
theorem pos_eq {t : List Nd} (hok : treeOk t = true) {s : List Int} {j k : Nat} (h1 : 1 ≤ j) (h2 : j < t.length) (hw : win t s j ≠ 0) (hp : (t.getD j z).1 = (k : Int)) : pos t s j = pos t s k + befs t s k j := by
  have hn := tree_node hok h1 h2
  unfold pos
  obtain ⟨f, rfl⟩ : ∃ f, j = f + 1 := ⟨j - 1, by omega⟩
  rw [posF, if_neg (by omega), hp]
  congr 1
  exact posF_same hok s f k _ (by show k < _; omega) (by show k ≤ _; omega) (Nat.le_refl k)
theorem befs_le {t : List Nd} {s : List Int} {j k : Nat} (h2 : j < t.length) (hp : (t.getD j z).1 = (k : Int)) : befs t s k j + win t s j ≤ ksum t s k := by
  unfold befs ksum
  have hm : (j : Int) ∈ kids t k t.length := kids_iff.2 ⟨by omega, by omega, hp⟩
  have h := wsum_filter (win t s) (fun a => decide (lt (win t s) a j)) hm (by
    have : ¬ lt (win t s) (j : Int) j := by unfold lt; omega
    simpa using this)
  exact h
theorem bridge_win {t : List Nd} (hok : treeOk t = true) (s : List Int) {k j : Nat} (h1 : 1 ≤ j) (h2 : j < t.length) (hp : (t.getD j z).1 = (k : Int)) : win t s k = up (ksum t s k) := by
  have hn := tree_node hok h1 h2
  rw [hp] at hn
  rw [Int.toNat_natCast] at hn
  rw [win_eq hok s (by omega), if_pos hn.2.2.1]
theorem ksum_le {t : List Nd} (hok : treeOk t = true) (s : List Int) {k j : Nat} (h1 : 1 ≤ j) (h2 : j < t.length) (hp : (t.getD j z).1 = (k : Int)) : ksum t s k ≤ win t s k := by
  rw [bridge_win hok s h1 h2 hp]
  exact (up_le _).1
theorem pos_bd {t : List Nd} (hok : treeOk t = true) (s : List Int) : ∀ (f j : Nat), j ≤ f → j < t.length → pos t s j + win t s j ≤ win t s 0
  | f, j, hf, hj => by
    rcases Nat.eq_zero_or_pos j with rfl | h1
    · rw [pos_root]; omega
    rcases Nat.eq_zero_or_pos (win t s j) with h0 | h0
    · rw [pos_zero h0]; omega
    obtain ⟨k, hp, hk⟩ := par hok h1 hj
    cases f with
    | zero => omega
    | succ f =>
      have := pos_bd hok s f k (by omega) (by omega)
      have := befs_le (s := s) hj hp
      have := ksum_le hok s h1 hj hp
      rw [pos_eq hok h1 hj (by omega) hp]
      omega
theorem par_win {t : List Nd} (hok : treeOk t = true) (s : List Int) {k j : Nat} (h1 : 1 ≤ j) (h2 : j < t.length) (hp : (t.getD j z).1 = (k : Int)) : win t s j ≤ win t s k := by
  have := befs_le (s := s) h2 hp
  have := ksum_le hok s h1 h2 hp
  omega
/-- j lies below k -/
inductive Bel (t : List Nd) (k : Nat) : Nat → Prop
  | kid {j : Nat} : 1 ≤ j → j < t.length → (t.getD j z).1 = (k : Int) → Bel t k j
  | low {i j : Nat} : Bel t k i → 1 ≤ j → j < t.length → (t.getD j z).1 = (i : Int) → Bel t k j
theorem bel_cases {t : List Nd} {k j : Nat} (h : Bel t k j) : ∃ c : Nat, 1 ≤ c ∧ c < t.length ∧ (t.getD c z).1 = (k : Int) ∧ (j = c ∨ Bel t c j) := by
  induction h with
  | kid h1 h2 h3 => exact ⟨_, h1, h2, h3, .inl rfl⟩
  | low h h1 h2 h3 ih =>
    obtain ⟨c, q1, q2, q3, q4⟩ := ih
    refine ⟨c, q1, q2, q3, .inr ?_⟩
    rcases q4 with rfl | q4
    · exact .kid h1 h2 h3
    · exact .low q4 h1 h2 h3
theorem bel_root {t : List Nd} (hok : treeOk t = true) : ∀ (f j : Nat), j ≤ f → 1 ≤ j → j < t.length → Bel t 0 j
  | f, j, hf, h1, h2 => by
    obtain ⟨p, hp, hl⟩ := par hok h1 h2
    cases p with
    | zero => exact .kid h1 h2 hp
    | succ p =>
      cases f with
      | zero => omega
      | succ f => exact .low (bel_root hok f (p + 1) (by omega) (by omega) (by omega)) h1 h2 hp
theorem bel_win {t : List Nd} (hok : treeOk t = true) (s : List Int) {k j : Nat} (h : Bel t k j) : win t s j ≤ win t s k := by
  induction h with
  | kid h1 h2 h3 => exact par_win hok s h1 h2 h3
  | low h h1 h2 h3 ih => exact Nat.le_trans (par_win hok s h1 h2 h3) ih
theorem bel_bridge {t : List Nd} (hok : treeOk t = true) {k j : Nat} (h : Bel t k j) : (t.getD k z).2.2 = 0 := by
  induction h with
  | kid h1 h2 h3 =>
    have hn := tree_node hok h1 h2
    rw [h3] at hn
    exact hn.2.2.1
  | low h h1 h2 h3 ih => exact ih
/-- the windows, those of D laid down -/
def bars (t : List Nd) (s : List Int) (D : Nat → Bool) : List (Int × Int) := (List.range t.length).map fun i => ((win t s i : Int), if D i = true then (pos t s i : Int) else 0)
theorem bars_len (t : List Nd) (s : List Int) (D : Nat → Bool) : (bars t s D).length = t.length := by simp [bars]
theorem bars_get (t : List Nd) (s : List Int) (D : Nat → Bool) {i : Nat} (h : i < t.length) (d : Int × Int) : (bars t s D).getD i d = ((win t s i : Int), if D i = true then (pos t s i : Int) else 0) := by
  rw [List.getD_eq_getElem?_getD, List.getElem?_eq_getElem (by rw [bars_len]; exact h)]
  simp [bars]
theorem bars_set (t : List Nd) (s : List Int) (D : Nat → Bool) {j : Nat} (h : j < t.length) : (bars t s D).set j ((win t s j : Int), (pos t s j : Int)) = bars t s (fun i => D i || i == j) := by
  refine List.ext_getElem (by simp [bars]) fun i h1 h2 => ?_
  rw [List.getElem_set]
  simp only [bars, List.getElem_map, List.getElem_range]
  split
  · rename_i e
    subst e
    simp
  · rename_i e
    have : (i == j) = false := by simpa using fun h => e h.symm
    simp only [this, Bool.or_false]
theorem bars_same (t : List Nd) (s : List Int) {D E : Nat → Bool} (h : ∀ i, i < t.length → win t s i ≠ 0 → i ≠ 0 → D i = E i) : bars t s D = bars t s E := by
  refine List.ext_getElem (by simp [bars]) fun i h1 h2 => ?_
  have hi : i < t.length := by simpa [bars] using h1
  simp only [bars, List.getElem_map, List.getElem_range]
  rcases Nat.eq_zero_or_pos i with rfl | h0
  · simp [pos_root]
  rcases Nat.eq_zero_or_pos (win t s i) with h1 | h1
  · simp [pos_zero h1]
  · rw [h i hi (by omega) (by omega)]
/-- all laid down -/
def allBars (t : List Nd) (s : List Int) : List (Int × Int) := bars t s fun _ => true
theorem bars_all {t : List Nd} (hok : treeOk t = true) {s : List Int} {D : Nat → Bool} (h : ∀ j, Bel t 0 j → win t s j ≠ 0 → D j = true) : bars t s D = allBars t s :=
  bars_same t s fun i h1 h2 h3 => h i (bel_root hok i i (Nat.le_refl _) (by omega) h1) h2
/-- the sorted row's sums are the places -/
theorem sort_pos {t : List Nd} (hok : treeOk t = true) {s : List Int} {k : Nat} {xs : List Int} (hp : xs.Perm (kids t k t.length)) {i : Nat} (hi : i < xs.length) : wsum (win t s) ((isort (byWin (win t s)) xs).take i) = befs t s k ((isort (byWin (win t s)) xs).getD i 0).toNat := by
  have hn : xs.Nodup := hp.nodup_iff.2 (kids_nodup _ _ _)
  have hq : (isort (byWin (win t s)) xs).Perm (kids t k t.length) := (isort_perm _ _).trans hp
  have hl : i < (isort (byWin (win t s)) xs).length := by rw [(isort_perm _ _).length_eq]; exact hi
  have hm : (isort (byWin (win t s)) xs).getD i 0 ∈ kids t k t.length := by
    rw [← hq.mem_iff, List.getD_eq_getElem?_getD, List.getElem?_eq_getElem hl]
    exact List.getElem_mem hl
  have h0 := (kids_iff.1 hm).1
  rw [← take_filter (win t s) _ (isort_sorted (win t s) hn) i hl]
  unfold befs
  rw [Int.toNat_of_nonneg h0]
  exact wsum_perm (hq.filter _)
end Go.Proofs.Ytmechjnfeidnkaa.V.W

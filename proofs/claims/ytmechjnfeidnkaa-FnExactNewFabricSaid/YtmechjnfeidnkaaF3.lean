/- Windows of nodes: plain words. No condition. -/
import Derived.Test.YtmechjnfeidnkaaF2
import Derived.Test.YtmechjnfeidnkaaW6
set_option linter.unusedVariables false
set_option linter.unnecessarySimpa false
set_option linter.unusedSimpArgs false
namespace Go.Proofs.Ytmechjnfeidnkaa.V.W
open Go Go.RowKit
theorem ins_perm (c : Int → Int → Int) (x : Int) : ∀ P : List Int, (ins c x P).Perm (x :: P)
  | [] => .refl _
  | y :: r => by
    unfold ins
    split
    · exact ((ins_perm c x r).cons y).trans (.swap x y r)
    · exact .refl _
theorem pre_perm (c : Int → Int → Int) (xs : List Int) : ∀ i : Nat, (pre c xs i).Perm (xs.take i)
  | 0 => by simp [pre]
  | i + 1 => by
    have h := pre_perm c xs i
    unfold pre at h ⊢
    rw [List.take_add_one]
    cases hx : xs[i]? with
    | none => simpa using h
    | some x =>
      rw [Option.toList, List.foldl_append]
      refine (ins_perm c x _).trans ?_
      refine (h.cons x).trans ?_
      exact (List.perm_append_singleton x _).symm
theorem isort_perm (c : Int → Int → Int) (xs : List Int) : (isort c xs).Perm xs := by
  unfold isort
  refine (List.reverse_perm _).trans ?_
  have := pre_perm c xs xs.length
  rwa [List.take_length] at this
theorem nodup_ints {xs : List Nat} (h : xs.Nodup) : (xs.map fun j : Nat => (j : Int)).Nodup :=
  List.Pairwise.map _ (fun a b (hn : a ≠ b) => show (a : Int) ≠ (b : Int) by omega) h
theorem kids_nodup (t : List Nd) (k : Int) (i : Nat) : (kids t k i).Nodup := by
  unfold kids
  exact nodup_ints (List.nodup_range.sublist List.filter_sublist)
theorem kids_iff {t : List Nd} {k : Int} {i : Nat} {a : Int} : a ∈ kids t k i ↔ 0 ≤ a ∧ a < i ∧ (t.getD a.toNat z).1 = k := by
  unfold kids
  rw [List.mem_map]
  constructor
  · rintro ⟨j, h1, rfl⟩
    have h2 := List.mem_filter.1 h1
    have := List.mem_range.1 h2.1
    exact ⟨by omega, by omega, by simpa using h2.2⟩
  · rintro ⟨h1, h2, h3⟩
    exact ⟨a.toNat, List.mem_filter.2 ⟨List.mem_range.2 (by omega), by simpa using h3⟩, by omega⟩
theorem kidsD_iff {t : List Nd} {k : Int} {d i : Nat} {a : Int} : a ∈ kidsD t k d i ↔ 1 ≤ a ∧ a < i ∧ (t.getD a.toNat z).1 = k ∧ (t.getD a.toNat z).2.1 = d := by
  unfold kidsD
  rw [List.mem_map]
  constructor
  · rintro ⟨j, h1, rfl⟩
    have h2 := List.mem_filter.1 h1
    have := List.mem_range.1 h2.1
    simp only [Bool.and_eq_true, decide_eq_true_eq, beq_iff_eq] at h2
    exact ⟨by omega, by omega, by simpa using h2.2.2.1, by simpa using h2.2.2.2⟩
  · rintro ⟨h1, h2, h3, h4⟩
    refine ⟨a.toNat, List.mem_filter.2 ⟨List.mem_range.2 (by omega), ?_⟩, by omega⟩
    simp only [Bool.and_eq_true, decide_eq_true_eq, beq_iff_eq]
    exact ⟨by omega, h3, h4⟩
theorem kidsD_nodup (t : List Nd) (k : Int) (d i : Nat) : (kidsD t k d i).Nodup := by
  unfold kidsD
  exact nodup_ints (List.nodup_range.sublist List.filter_sublist)
theorem kidsTo_iff {t : List Nd} {k : Int} {a : Int} : ∀ {d : Nat}, a ∈ kidsTo t k d ↔ ∃ e, e < d ∧ a ∈ kidsD t k e t.length := by
  intro d
  unfold kidsTo
  simp only [List.mem_flatMap, List.mem_range]
theorem kidsTo_nodup (t : List Nd) (k : Int) : ∀ d, (kidsTo t k d).Nodup
  | 0 => by simp [kidsTo]
  | d + 1 => by
    rw [kidsTo_succ]
    refine List.nodup_append.2 ⟨kidsTo_nodup t k d, kidsD_nodup t k d _, fun a ha b hb => ?_⟩
    rintro rfl
    obtain ⟨e, he, h1⟩ := kidsTo_iff.1 ha
    have h1 := (kidsD_iff.1 h1).2.2.2
    have h2 := (kidsD_iff.1 hb).2.2.2
    rw [h1] at h2
    omega
theorem node_ok {t : List Nd} (hok : treeOk t = true) {k : Nat} (hk : k < t.length) : (treeOk t && inB (k : Int) 0 (t.length - 1)) = true := by
  rw [hok, Bool.true_and]
  exact inB_iff.2 ⟨by omega, by omega⟩
theorem children_perm {t : List Nd} (hok : treeOk t = true) {k : Nat} (hk : k < t.length) : (children t k).Perm (kids t k t.length) := by
  rw [children, if_pos (node_ok hok hk)]
  exact isort_perm _ _
theorem kids_pos {t : List Nd} (hok : treeOk t = true) {k : Nat} {a : Int} (h : a ∈ kids t k t.length) : ∃ j : Nat, a = j ∧ 1 ≤ j ∧ j < t.length ∧ (t.getD j z).1 = k ∧ k < j := by
  have h := kids_iff.1 h
  have h0 : a ≠ 0 := by
    rintro rfl
    have h1 := (tree_parts hok).2.1
    rw [show (t.getD (0 : Int).toNat z) = (-1, 0, 0) from h1] at h
    have := h.2.2
    simp at this
  have h1 := tree_node hok (j := a.toNat) (by omega) (by omega)
  exact ⟨a.toNat, by omega, by omega, by omega, h.2.2, by omega⟩
theorem skids_perm {t : List Nd} (hok : treeOk t = true) {k : Nat} (hk : k < t.length) : (skids t k).Perm (kids t k t.length) := by
  rw [skids, if_pos (node_ok hok hk)]
  refine (List.perm_ext_iff_of_nodup (kidsTo_nodup _ _ _) (kids_nodup _ _ _)).2 fun a => ⟨fun h => ?_, fun h => ?_⟩
  · obtain ⟨e, he, h1⟩ := kidsTo_iff.1 h
    have := kidsD_iff.1 h1
    exact kids_iff.2 ⟨by omega, by omega, this.2.2.1⟩
  · obtain ⟨j, rfl, h1, h2, h3, h4⟩ := kids_pos hok h
    have hn := tree_node hok h1 h2
    refine kidsTo_iff.2 ⟨(t.getD j z).2.1.toNat, by omega, kidsD_iff.2 ⟨by omega, by omega, h3, ?_⟩⟩
    show (t.getD j z).2.1 = _
    omega
/-- a sum over nodes -/
def wsum (f : Nat → Nat) (xs : List Int) : Nat := (xs.map fun a : Int => f a.toNat).sum
theorem wsum_perm {f : Nat → Nat} {xs ys : List Int} (h : xs.Perm ys) : wsum f xs = wsum f ys := (h.map _).sum_nat
theorem wsum_nil (f : Nat → Nat) : wsum f [] = 0 := rfl
theorem wsum_cons (f : Nat → Nat) (a : Int) (xs : List Int) : wsum f (a :: xs) = f a.toNat + wsum f xs := rfl
theorem wsum_app (f : Nat → Nat) (xs ys : List Int) : wsum f (xs ++ ys) = wsum f xs + wsum f ys := by
  unfold wsum
  rw [List.map_append, List.sum_append_nat]
theorem wsum_take (f : Nat → Nat) {xs : List Int} {i : Nat} (h : i < xs.length) : wsum f (xs.take (i + 1)) = wsum f (xs.take i) + f (xs.getD i 0).toNat := by
  rw [List.take_add_one, List.getElem?_eq_getElem h, wsum_app, List.getD_eq_getElem?_getD, List.getElem?_eq_getElem h]
  rfl
theorem wsum_le (f : Nat → Nat) : ∀ (xs : List Int) (i : Nat), wsum f (xs.take i) ≤ wsum f xs
  | xs, i => by
    have := wsum_app f (xs.take i) (xs.drop i)
    rw [List.take_append_drop] at this
    omega
theorem wsum_ext {f g : Nat → Nat} : ∀ {xs : List Int}, (∀ a, a ∈ xs → f a.toNat = g a.toNat) → wsum f xs = wsum g xs
  | [], _ => rfl
  | a :: xs, h => by
    rw [wsum_cons, wsum_cons, h a (List.mem_cons_self ..), wsum_ext fun b hb => h b (List.mem_cons_of_mem _ hb)]
theorem wsum_bd {f g : Nat → Nat} : ∀ {xs : List Int}, (∀ a, a ∈ xs → f a.toNat ≤ g a.toNat) → wsum f xs ≤ wsum g xs
  | [], _ => Nat.le_refl _
  | a :: xs, h => by
    rw [wsum_cons, wsum_cons]
    exact Nat.add_le_add (h a (List.mem_cons_self ..)) (wsum_bd fun b hb => h b (List.mem_cons_of_mem _ hb))
theorem wsum_mem {f : Nat → Nat} : ∀ {xs : List Int} {a : Int}, a ∈ xs → f a.toNat ≤ wsum f xs
  | b :: xs, a, h => by
    rw [wsum_cons]
    rcases List.mem_cons.1 h with rfl | h
    · omega
    · have := wsum_mem (f := f) h
      omega
/-- the least power of two from n on; nothing for nothing -/
def up (n : Nat) : Nat := if n = 0 then 0 else 2 ^ (2 * n - 1).log2
theorem up_eq {n i : Nat} (h1 : 1 ≤ n) (h2 : n ≤ 2 ^ i) (h3 : i = 0 ∨ 2 ^ (i - 1) < n) : up n = 2 ^ i := by
  rw [up, if_neg (by omega), (Nat.log2_eq_iff (by omega)).2]
  rcases h3 with rfl | h3
  · simp at h2 ⊢
    omega
  · cases i with
    | zero => simp at h2 ⊢; omega
    | succ i =>
      simp only [Nat.add_sub_cancel] at h3
      rw [Nat.pow_succ] at h2 ⊢
      rw [Nat.pow_succ, Nat.pow_succ]
      omega
theorem up_zero : up 0 = 0 := rfl
theorem up_pow {n : Nat} (h : 1 ≤ n) : ∃ i, up n = 2 ^ i := ⟨_, by rw [up, if_neg (by omega)]⟩
theorem up_le (n : Nat) : n ≤ up n ∧ up n ≤ 2 * n := by
  rcases Nat.eq_zero_or_pos n with rfl | h
  · simp [up]
  · rw [up, if_neg (by omega)]
    have h1 := Nat.log2_self_le (n := 2 * n - 1) (by omega)
    have h2 := Nat.lt_log2_self (n := 2 * n - 1)
    rw [Nat.pow_succ] at h2
    omega
/-- the size of a node's window -/
def winF (t : List Nd) (s : List Int) : Nat → Nat → Nat
  | 0, _ => 0
  | f + 1, k => if (t.getD k z).2.2 = 0 then up (wsum (winF t s f) (kids t k t.length)) else (s.getD k 0).toNat
theorem winF_same {t : List Nd} (hok : treeOk t = true) (s : List Int) : ∀ (f g k : Nat), k < t.length → t.length - k ≤ f → t.length - k ≤ g → winF t s f k = winF t s g k
  | 0, g, k, hk, h1, h2 => by omega
  | f + 1, 0, k, hk, h1, h2 => by omega
  | f + 1, g + 1, k, hk, h1, h2 => by
    rw [winF, winF]
    split
    · congr 1
      refine wsum_ext fun a ha => ?_
      obtain ⟨j, rfl, h3, h4, h5, h6⟩ := kids_pos hok ha
      exact winF_same hok s f g j h4 (by omega) (by omega)
    · rfl
def win (t : List Nd) (s : List Int) (k : Nat) : Nat := winF t s t.length k
/-- the sum of the windows below a node -/
def ksum (t : List Nd) (s : List Int) (k : Nat) : Nat := wsum (win t s) (kids t k t.length)
theorem win_eq {t : List Nd} (hok : treeOk t = true) (s : List Int) {k : Nat} (hk : k < t.length) : win t s k = if (t.getD k z).2.2 = 0 then up (ksum t s k) else (s.getD k 0).toNat := by
  unfold win ksum
  obtain ⟨n, hn⟩ : ∃ n, t.length = n + 1 := ⟨t.length - 1, by omega⟩
  rw [winF_same hok s t.length (n + 1) k hk (by omega) (by omega), winF]
  split
  · congr 1
    refine wsum_ext fun a ha => ?_
    obtain ⟨j, rfl, h3, h4, h5, h6⟩ := kids_pos hok ha
    exact winF_same hok s n t.length j h4 (by omega) (by omega)
  · rfl
theorem sizes_node {t : List Nd} {s : List Int} (h : sizesOk t s = true) {k : Nat} (hk : k < t.length) : s.getD k 0 = 0 ∨ (pw (s.getD k 0) = true ∧ (t.getD k z).2.2 ≠ 0) := by
  have := (sizesOk_iff.1 h).2.2 k hk
  simp only [sizeBad, Bool.and_eq_false_iff, Bool.not_eq_false', beq_iff_eq, Bool.or_eq_false_iff, beq_eq_false_iff_ne] at this
  rcases this with h | ⟨h1, h2⟩
  · exact .inl h
  · exact .inr ⟨by simpa using h2, h1⟩
def bd (n : Nat) : Nat := 4096 * 3 ^ n
theorem kids_sum (g : Nat → Nat) (t : List Nd) (k : Int) : ∀ n, wsum g (kids t k n) ≤ ((List.range n).map g).sum
  | 0 => by simp [kids, wsum]
  | n + 1 => by
    rw [kids_succ, wsum_app, List.range_succ, List.map_append, List.sum_append_nat]
    have := kids_sum g t k n
    have e1 : ((List.map g [n]).sum) = g n := by simp
    have e2 : wsum g [(n : Int)] = g n := by simp [wsum]
    split
    · omega
    · rw [wsum_nil]; omega
theorem kids_above (g : Nat → Nat) (t : List Nd) (k : Nat) (hk : ∀ a, a ∈ kids t k t.length → k < a.toNat) : wsum g (kids t k t.length) ≤ ((List.range t.length).map fun j => if k < j then g j else 0).sum := by
  refine Nat.le_trans (Nat.le_of_eq ?_) (kids_sum _ t k t.length)
  exact wsum_ext fun a ha => by rw [if_pos (hk a ha)]
theorem bd_sum (n : Nat) : ∀ m, m ≤ n → ∀ k, (2 * ((List.range m).map fun j => if k < j then bd (n - j) else 0).sum) + bd (n + 1 - m) ≤ bd (n - k) ∨ m ≤ k + 1 ∧ ((List.range m).map fun j => if k < j then bd (n - j) else 0).sum = 0
  | 0, _, k => .inr ⟨by omega, rfl⟩
  | m + 1, h, k => by
    rw [List.range_succ, List.map_append, List.sum_append_nat]
    simp only [List.map_cons, List.map_nil, List.sum_cons, List.sum_nil, Nat.add_zero]
    have h3 : bd (n + 1 - m) = 3 * bd (n - m) := by
      rw [show n + 1 - m = (n - m) + 1 by omega, bd, bd, Nat.pow_succ]
      omega
    rw [show n + 1 - (m + 1) = n - m by omega]
    rcases bd_sum n m (by omega) k with h1 | ⟨h1, h2⟩
    · refine .inl ?_
      split <;> omega
    · rw [h2]
      split
      · obtain rfl : m = k + 1 := by omega
        refine .inl ?_
        have : bd (n - k) = 3 * bd (n - (k + 1)) := by
          rw [show n - k = (n - (k + 1)) + 1 by omega, bd, bd, Nat.pow_succ]
          omega
        omega
      · exact .inr ⟨by omega, rfl⟩
theorem ksum_bd {t : List Nd} (hok : treeOk t = true) {s : List Int} {k : Nat} (hk : k < t.length) (h : ∀ j, k < j → j < t.length → win t s j ≤ bd (t.length - j)) : 2 * ksum t s k ≤ bd (t.length - k) := by
  have h1 : ksum t s k ≤ wsum (fun j => bd (t.length - j)) (kids t k t.length) := by
    refine wsum_bd fun a ha => ?_
    obtain ⟨j, rfl, h3, h4, h5, h6⟩ := kids_pos hok ha
    exact h j h6 h4
  have h2 := kids_above (fun j => bd (t.length - j)) t k fun a ha => by
    obtain ⟨j, rfl, h3, h4, h5, h6⟩ := kids_pos hok ha
    omega
  rcases bd_sum t.length t.length (Nat.le_refl _) k with h3 | ⟨h3, h4⟩ <;> omega
theorem win_bd {t : List Nd} {s : List Int} (hs : sizesOk t s = true) : ∀ (f k : Nat), t.length - k ≤ f → k < t.length → win t s k ≤ bd (t.length - k)
  | 0, k, h, hk => by omega
  | f + 1, k, h, hk => by
    have hok := (sizesOk_iff.1 hs).1
    rw [win_eq hok s hk]
    split
    · have h1 := ksum_bd hok (s := s) hk fun j h1 h2 => win_bd hs f j (by omega) h2
      have h2 := up_le (ksum t s k)
      omega
    · have h0 : bd 0 ≤ bd (t.length - k) := Nat.mul_le_mul_left _ (Nat.pow_le_pow_right (by omega) (by omega))
      have h0 : 4096 ≤ bd (t.length - k) := h0
      rcases sizes_node hs hk with h1 | ⟨h1, _⟩
      · rw [h1]; simp
      · have := pw_in h1
        omega
/-- no sum of windows runs over -/
theorem ksum_lim {t : List Nd} {s : List Int} (hs : sizesOk t s = true) {k : Nat} (hk : k < t.length) : ksum t s k ≤ 1088391168 := by
  have hok := (sizesOk_iff.1 hs).1
  have h1 := ksum_bd hok (s := s) hk fun j h1 h2 => win_bd hs _ j (Nat.le_refl _) h2
  have h2 := treeOk_len hok
  have h3 : bd (t.length - k) ≤ bd 12 := Nat.mul_le_mul_left _ (Nat.pow_le_pow_right (by omega) (by omega))
  have : bd 12 = 2176782336 := by decide
  omega
theorem win_lim {t : List Nd} {s : List Int} (hs : sizesOk t s = true) {k : Nat} (hk : k < t.length) : win t s k ≤ 2176782336 := by
  have hok := (sizesOk_iff.1 hs).1
  rw [win_eq hok s hk]
  split
  · have := up_le (ksum t s k)
    have := ksum_lim hs hk
    omega
  · rcases sizes_node hs hk with h1 | ⟨h1, _⟩
    · rw [h1]; simp
    · have := pw_in h1
      omega
/-- a window is a power of two, or nothing -/
theorem win_pow {t : List Nd} {s : List Int} (hs : sizesOk t s = true) {k : Nat} (hk : k < t.length) : win t s k = 0 ∨ ∃ i, win t s k = 2 ^ i := by
  have hok := (sizesOk_iff.1 hs).1
  rw [win_eq hok s hk]
  split
  · rcases Nat.eq_zero_or_pos (ksum t s k) with h | h
    · rw [h]; exact .inl rfl
    · exact .inr (up_pow h)
  · rcases sizes_node hs hk with h1 | ⟨h1, _⟩
    · rw [h1]; exact .inl rfl
    · obtain ⟨i, -, h2⟩ := pw_pow h1
      rw [h2]
      exact .inr ⟨i, Int.toNat_natCast _⟩
/-- a node's number of functions -/
theorem tree_fun {t : List Nd} (h : treeOk t = true) {k : Nat} (hk : k < t.length) : 0 ≤ (t.getD k z).2.2 ∧ (t.getD k z).2.2 ≤ 4 := by
  rcases Nat.eq_zero_or_pos k with rfl | h1
  · rw [(tree_parts h).2.1]; decide
  · obtain ⟨i, rfl⟩ : ∃ i, k = i + 1 := ⟨k - 1, by omega⟩
    have hb := (tree_parts h).2.2 i hk
    simp only [bad, bad1, Bool.or_eq_false_iff, Bool.not_eq_false'] at hb
    exact inB_iff.1 hb.1.2.2.2
end Go.Proofs.Ytmechjnfeidnkaa.V.W

/- The plain law of slots, and the law. No condition. -/
import Derived.Test.YteeklekfafedcaaW12
set_option linter.unusedVariables false
set_option linter.unnecessarySimpa false
set_option linter.unusedSimpArgs false
namespace Go.Proofs.Yteeklekfafedcaa.V.W
open Go Go.RowKit
theorem tree_parts {t : List Nd} (h : treeOk t = true) : inB t.length 1 12 = true ∧ t.getD 0 z = (-1, 0, 0) ∧ ∀ i, i + 1 < t.length → bad t i = false := by
  simp only [treeOk, Bool.and_eq_true] at h
  refine ⟨h.1, by simpa using h.2.1, fun i hi => ?_⟩
  have := List.all_eq_true.1 h.2.2 i (List.mem_range.2 (by omega))
  simpa using this
theorem any_same {t : List Nd} {j : Nat} {n : Nd} (hj : j ≤ t.length) (h : (t.take j).any (same n) = false) {m : Nat} (hm : m < j) : ¬ ((t.getD m z).1 = n.1 ∧ (t.getD m z).2.1 = n.2.1) := by
  intro ⟨h1, h2⟩
  rw [List.any_eq_false] at h
  have hml : m < t.length := by omega
  have : t.getD m z ∈ t.take j := by
    rw [List.getD_eq_getElem?_getD, List.getElem?_eq_getElem hml]
    have : (t.take j)[m]? = some t[m] := by rw [List.getElem?_take_of_lt hm, List.getElem?_eq_getElem hml]
    exact List.mem_of_getElem? this
  refine h _ this ?_
  simp only [same, h1, h2, beq_self_eq_true, Bool.and_self]
theorem tree_node {t : List Nd} (h : treeOk t = true) {j : Nat} (h1 : 1 ≤ j) (h2 : j < t.length) : 0 ≤ (t.getD j z).1 ∧ (t.getD j z).1 < j ∧ (t.getD (t.getD j z).1.toNat z).2.2 = 0 ∧ 0 ≤ (t.getD j z).2.1 ∧ (t.getD j z).2.1 ≤ 3 ∧ ∀ m, m < j → ¬ ((t.getD m z).1 = (t.getD j z).1 ∧ (t.getD m z).2.1 = (t.getD j z).2.1) := by
  obtain ⟨i, rfl⟩ : ∃ i, j = i + 1 := ⟨j - 1, by omega⟩
  have hb := (tree_parts h).2.2 i h2
  simp only [bad, bad1, Bool.or_eq_false_iff, Bool.not_eq_false'] at hb
  obtain ⟨⟨q1, q2, q3, q4⟩, q5⟩ := hb
  have q1 := inB_iff.1 q1
  have q3 := inB_iff.1 q3
  exact ⟨q1.1, by omega, by simpa using q2, q3.1, q3.2, fun m hm => any_same (by omega) q5 hm⟩
theorem kid_pos {t : List Nd} (h : treeOk t = true) {j k : Nat} (hk : (t.getD j z).1 = (k : Int)) : 1 ≤ j := by
  rcases Nat.eq_zero_or_pos j with rfl | h0
  · rw [(tree_parts h).2.1] at hk
    exact absurd hk (by show ¬ (-1 : Int) = (k : Int); omega)
  · exact h0
theorem getD_app {t : List Nd} {n : Nd} {i : Nat} (h : i < t.length) : (t ++ [n]).getD i z = t.getD i z := by
  rw [List.getD_eq_getElem?_getD, List.getElem?_append_left h, ← List.getD_eq_getElem?_getD]
theorem bad_app {t : List Nd} {n : Nd} {i : Nat} (h : i + 1 < t.length) : bad (t ++ [n]) i = bad t i := by
  unfold bad
  rw [getD_app h, List.take_append_of_le_length (by omega)]
  congr 1
  generalize t.getD (i + 1) z = m
  unfold bad1
  cases hb : inB m.1 0 i with
  | false => rfl
  | true =>
    have := inB_iff.1 hb
    rw [getD_app (by omega)]
theorem treeOk_app {t : List Nd} (h : treeOk t = true) {k d : Nat} (hk : k < t.length) (hd : d ≤ 3) : treeOk (t ++ [((k : Int), (d : Int), 1)]) = (decide ((t.length : Int) < 12) && (((t.getD k z).2.2 == 0) && !t.any (taken k d))) := by
  obtain ⟨h1, h2, h3⟩ := tree_parts h
  have hl := treeOk_len h
  have hlast : bad (t ++ [((k : Int), (d : Int), 1)]) (t.length - 1) = (!((t.getD k z).2.2 == 0) || t.any (taken k d)) := by
    have e1 : (t ++ [((k : Int), (d : Int), (1 : Int))]).getD (t.length - 1 + 1) z = ((k : Int), (d : Int), 1) := by
      rw [show t.length - 1 + 1 = t.length by omega, List.getD_eq_getElem?_getD, List.getElem?_append_right (Nat.le_refl _), Nat.sub_self]; rfl
    unfold bad
    rw [e1, show t.length - 1 + 1 = t.length by omega, List.take_append_of_le_length (Nat.le_refl _), List.take_length]
    have e2 : bad1 (t ++ [((k : Int), (d : Int), (1 : Int))]) (t.length - 1) ((k : Int), (d : Int), 1) = !((t.getD k z).2.2 == 0) := by
      unfold bad1
      simp only
      rw [show Int.toNat (k : Int) = k by omega, getD_app hk, inB_iff.2 (show (0 : Int) ≤ (k : Int) ∧ (k : Int) ≤ ((t.length - 1 : Nat) : Int) by omega), inB_iff.2 (show (0 : Int) ≤ (d : Int) ∧ (d : Int) ≤ 3 by omega), inB_iff.2 (show (0 : Int) ≤ 1 ∧ (1 : Int) ≤ 4 by omega)]
      simp
    rw [e2]
    rfl
  have hrange : List.range ((t ++ [((k : Int), (d : Int), (1 : Int))]).length - 1) = List.range (t.length - 1) ++ [t.length - 1] := by
    rw [List.length_append, List.length_singleton, show t.length + 1 - 1 = (t.length - 1) + 1 by omega, List.range_succ]
  have hfront : ((List.range (t.length - 1)).all fun i => !bad (t ++ [((k : Int), (d : Int), (1 : Int))]) i) = true := by
    rw [List.all_eq_true]
    intro i hi
    have := List.mem_range.1 hi
    rw [bad_app (by omega), h3 i (by omega)]; rfl
  have hin : inB ((t ++ [((k : Int), (d : Int), (1 : Int))]).length : Int) 1 12 = decide ((t.length : Int) < 12) := by
    rw [List.length_append, List.length_singleton]
    rw [Bool.eq_iff_iff, inB_iff, decide_eq_true_iff]
    omega
  unfold treeOk
  rw [hin, getD_app (by omega), h2, hrange, List.all_append, hfront]
  simp only [List.all_cons, List.all_nil, hlast]
  simp
theorem isNode_ok {t : List Nd} (h : treeOk t = true) {k : Nat} (hk : k < t.length) : (treeOk t && inB (k : Int) 0 ((t.length : Int) - 1)) = true := by
  rw [h, inB_iff.2 (by omega)]; rfl
theorem slotsOf_eq {t : List Nd} (h : treeOk t = true) {k : Nat} (hk : k < t.length) : slotsOf t k = if ((t.getD k z).2.2 == 0) = true then slotsTo t k 4 else [] := by
  unfold slotsOf
  rw [show Int.toNat (k : Int) = k by omega]
  simp only [isNode_ok h hk, true_and]
theorem mem_slots {t : List Nd} {k : Int} {d : Nat} (hd : d ≤ 3) : (slotsTo t k 4).contains (d : Int) = !t.any (taken k d) := by
  rw [Bool.eq_iff_iff, List.contains_iff_mem]
  unfold slotsTo
  rw [List.mem_map]
  constructor
  · rintro ⟨a, h1, h2⟩
    obtain rfl : a = d := by omega
    exact (List.mem_filter.1 h1).2
  · intro h
    exact ⟨d, List.mem_filter.2 ⟨List.mem_range.2 (by omega), h⟩, rfl⟩
theorem filter_split {α : Type} (p : α → Bool) : ∀ l : List α, (l.filter p).length + (l.filter fun x => !p x).length = l.length
  | [] => rfl
  | x :: r => by
    have := filter_split p r
    cases hp : p x <;> simp [List.filter_cons, hp] <;> omega
theorem count_free {n : Nat} {L : List Nat} (hn : L.Nodup) (hb : ∀ x ∈ L, x < n) : ((List.range n).filter fun d => !L.contains d).length + L.length = n := by
  have hp : ((List.range n).filter fun d => L.contains d).Perm L := by
    rw [List.perm_ext_iff_of_nodup (List.Pairwise.filter _ List.nodup_range) hn]
    intro a
    rw [List.mem_filter, List.mem_range, List.contains_iff_mem]
    exact ⟨fun h => h.2, fun h => ⟨hb a h, h⟩⟩
  have h1 := filter_split (fun d => L.contains d) (List.range n)
  rw [hp.length_eq, List.length_range] at h1
  omega
/-- the places taken below k -/
def devs (t : List Nd) (k : Nat) : List Nat := ((List.range t.length).filter fun j : Nat => (t.getD j z).1 == (k : Int)).map fun j => (t.getD j z).2.1.toNat
theorem devs_len (t : List Nd) (k : Nat) : (devs t k).length = (kids t k t.length).length := by simp [devs, kids]
theorem devs_lt {t : List Nd} (h : treeOk t = true) {k : Nat} : ∀ x ∈ devs t k, x < 4 := by
  intro x hx
  obtain ⟨j, h1, rfl⟩ := List.mem_map.1 hx
  obtain ⟨h2, h3⟩ := List.mem_filter.1 h1
  have hk : (t.getD j z).1 = (k : Int) := by simpa using h3
  have := tree_node h (kid_pos h hk) (List.mem_range.1 h2)
  omega
theorem devs_nodup {t : List Nd} (h : treeOk t = true) {k : Nat} : (devs t k).Nodup := by
  unfold devs List.Nodup
  rw [List.pairwise_map]
  refine List.Pairwise.imp_of_mem (R := fun a b => a < b) ?_ (List.Pairwise.filter _ List.pairwise_lt_range)
  intro a b ha hb hab
  obtain ⟨a1, a2⟩ := List.mem_filter.1 ha
  obtain ⟨b1, b2⟩ := List.mem_filter.1 hb
  have a2 : (t.getD a z).1 = (k : Int) := by simpa using a2
  have b2 : (t.getD b z).1 = (k : Int) := by simpa using b2
  have na := tree_node h (kid_pos h a2) (List.mem_range.1 a1)
  have nb := tree_node h (kid_pos h b2) (List.mem_range.1 b1)
  intro e
  refine nb.2.2.2.2.2 a hab ⟨by rw [a2, b2], ?_⟩
  omega
theorem taken_iff {t : List Nd} (h : treeOk t = true) {k d : Nat} : t.any (taken k d) = (devs t k).contains d := by
  rw [Bool.eq_iff_iff, List.any_eq_true, List.contains_iff_mem]
  unfold devs
  rw [List.mem_map]
  constructor
  · rintro ⟨x, hx, h2⟩
    obtain ⟨j, hj, rfl⟩ := List.mem_iff_getElem.1 hx
    have e : t.getD j z = t[j] := by rw [List.getD_eq_getElem?_getD, List.getElem?_eq_getElem hj]; rfl
    simp only [taken, Bool.and_eq_true, beq_iff_eq] at h2
    refine ⟨j, List.mem_filter.2 ⟨List.mem_range.2 hj, ?_⟩, ?_⟩
    · rw [e, h2.1]; simp
    · rw [e, h2.2]; omega
  · rintro ⟨j, h1, h2⟩
    obtain ⟨j1, j2⟩ := List.mem_filter.1 h1
    have j2 : (t.getD j z).1 = (k : Int) := by simpa using j2
    have hj := List.mem_range.1 j1
    have n := tree_node h (kid_pos h j2) hj
    have e : t.getD j z = t[j] := by rw [List.getD_eq_getElem?_getD, List.getElem?_eq_getElem hj]; rfl
    refine ⟨t[j], List.getElem_mem hj, ?_⟩
    rw [← e]
    simp only [taken, Bool.and_eq_true, beq_iff_eq]
    exact ⟨j2, by omega⟩
theorem slotsLaw : SlotsLaw := by
  intro t k h hk
  have hnode := isNode_ok h hk
  have hch : (children t k).length = (kids t k t.length).length := by
    unfold children
    rw [if_pos hnode, isort_len]
  refine ⟨fun d hd => ?_, ?_, ?_⟩
  · rw [addOk, h, Bool.true_and, treeOk_app h hk hd, slotsOf_eq h hk]
    cases hb : ((t.getD k z).2.2 == 0) with
    | false => simp
    | true =>
      simp only [if_true]
      rw [mem_slots hd, Bool.true_and, Bool.and_comm]
  · rw [slotsOf_eq h hk, hch]
    cases hb : ((t.getD k z).2.2 == 0) with
    | false =>
      have hk0 : kids t k t.length = [] := by
        unfold kids
        rw [List.map_eq_nil_iff, List.filter_eq_nil_iff]
        intro j hj hjk
        have hjk : (t.getD j z).1 = (k : Int) := by simpa using hjk
        have n := tree_node h (kid_pos h hjk) (List.mem_range.1 hj)
        have := n.2.2.1
        rw [hjk, show Int.toNat (k : Int) = k by omega] at this
        rw [this] at hb
        cases hb
      rw [hk0]
      simp
    | true =>
      simp only [if_true]
      have h1 := count_free (devs_nodup h (k := k)) (devs_lt h)
      rw [devs_len] at h1
      have h2 : (slotsTo t k 4).length = ((List.range 4).filter fun d => !(devs t k).contains d).length := by
        unfold slotsTo
        rw [List.length_map]
        congr 2
        funext d
        rw [taken_iff h]
      rw [show decide ((((slotsTo t k 4).length : Nat) : Int) + ((kids t k t.length).length : Int) = 4) = true from decide_eq_true (by omega)]
      rfl
  · have h0 := (tree_parts h).2.1
    have hl := treeOk_len h
    have := bridges_succ (t := t) (i := 0) (by omega)
    have hb : ((t.getD 0 z).2.2 == 0) = true := by rw [h0]; rfl
    rw [if_pos hb] at this
    have hmono : ∀ n, 1 ≤ n → n ≤ t.length → 1 ≤ bridges t n := by
      intro n
      induction n with
      | zero => intro h; omega
      | succ n ih =>
        intro _ hn
        rcases Nat.eq_zero_or_pos n with rfl | h0
        · rw [this]
          have := (bridges_le t 0).1
          omega
        · rw [bridges_succ (by omega)]
          have := ih h0 (by omega)
          split <;> omega
    exact hmono _ hl.1 (Nat.le_refl _)
end Go.Proofs.Yteeklekfafedcaa.V.W
namespace Go.Proofs.Yteeklekfafedcaa.V
open Go Go.RowKit
theorem fnSlots_vc (b : List Int) (h0 : wfS Try.prog (.sl 5 (.int .u8)) b) : VC Try.prog 12 [.v false (.sl 5 (.int .u8)) b] (· = .v false .bool true) := W.fnSlots_vc0 W.slotsLaw b
end Go.Proofs.Yteeklekfafedcaa.V

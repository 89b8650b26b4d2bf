/- Texts N7 N8 N9 N10 in one. No condition. -/
import Derived.Test.YtmechjnfeidnkaaGreatZTargetOf5

section
/- spec.PathBetween walked. No condition. -/
set_option linter.unusedVariables false
set_option linter.unnecessarySimpa false
set_option linter.unusedSimpArgs false
namespace Go.Proofs.YtmechjnfeidnkaaGreat.V.W
open Go Go.RowKit
theorem path_none {t : List Nd} {k : Int} (h : isNd t k = false) : pathTo t k = [] := by
  rw [pathTo, if_neg (by rw [show (treeOk t && inB k 0 (t.length - 1)) = isNd t k from rfl, h]; decide)]
theorem path_some {t : List Nd} {k : Int} (h : (pathTo t k).length ≠ 0) : isNd t k = true := by
  cases e : isNd t k with
  | true => rfl
  | false => rw [path_none e] at h; exact absurd rfl h
/-- the end of a row from behind: what is done after j steps -/
theorem back_snoc {x : List Int} {m j : Nat} (h1 : m ≤ j) (h2 : j < x.length) : (x.drop (j + 1)).reverse ++ [x.getD j 0] = (x.drop j).reverse := by
  rw [List.drop_eq_getElem_cons h2, List.reverse_cons, List.getD_eq_getElem?_getD, List.getElem?_eq_getElem h2]
  rfl
set_option maxRecDepth 20000 in
set_option maxHeartbeats 1000000 in
theorem specBetween_vc (t : List Nd) (a b : Int) (hl : t.length ≤ 2000000) : VC Tryz.prog 133 [.v false sNS t, .v false (.int .i64) (a), .v false (.int .i64) (b)] (· = .root (.val false) sI .own (between t a b)) := by
  refine VC.of_body hT Tryz.func133 rfl (by kernel_rfl) [(.tmp 6, false, sI)] (by kernel_rfl) ?_
  show VW _ _ ([.v false sNS t, .v false (.int .i64) (a), .v false (.int .i64) (b), D, D, D, D, D, D, D, D, D, D, D, D, D, D, D, D, D, D, D, D, D, D, D, D, D, D, D, D, D, D, D, D, D, D, D, D, D, D, D, D, D, D, D, D, D, D, D, D, D, D, D, D, D, D, D, D, D, D, D, D, D, D, D, D, D, D, D, D, D]) _
  repeat refine VW.seq ?_
  refine VW.regl hT fun K hK => ?_
  simp only [wq, simprocAttr]
  refine hK _ ?_
  clear hK K
  try refine vthen_n ?_
  repeat refine VW.seq ?_
  refine VW.regl hT fun K hK => ?_
  simp only [wq, simprocAttr]
  refine vcall_of (specPathTo_vc t a hl) ?_
  simp only [wq, simprocAttr]
  refine hK _ ?_
  clear hK K
  try refine vthen_n ?_
  repeat refine VW.seq ?_
  refine VW.regl hT fun K hK => ?_
  simp only [wq, simprocAttr]
  refine vcall_of (specPathTo_vc t b hl) ?_
  simp only [wq, simprocAttr]
  refine hK _ ?_
  clear hK K
  try refine vthen_n ?_
  repeat refine VW.seq ?_
  refine VW.regl hT fun K hK => ?_
  simp only [wq, simprocAttr]
  refine hK _ ?_
  clear hK K
  try refine vthen_n ?_
  have hpa := fun h => path_head (t := t) (k := a) h
  have hpb := fun h => path_head (t := t) (k := b) h
  have hia := fun h => path_some (t := t) (k := a) h
  have hib := fun h => path_some (t := t) (k := b) h
  have hbt : between t a b = if (isNd t a && isNd t b) = true then ((pathTo t a).drop (cpl (pathTo t a) (pathTo t b) - 1)).reverse ++ (pathTo t b).drop (cpl (pathTo t a) (pathTo t b)) else [] := rfl
  have hna := fun h => path_none (t := t) (k := a) h
  have hnb := fun h => path_none (t := t) (k := b) h
  rw [hbt]
  clear hbt
  have hx12 : isNd t a = true → (pathTo t a).length ≤ 12 := fun h => (hpa h).2.2
  generalize pathTo t a = x at *
  generalize pathTo t b = y at *
  refine VW.weak (weak_norm [(7, none), (8, none), (9, none)] _) ?_
  simp only [wn, wq, simprocAttr]
  refine VW.giveup 7 rfl rfl ?_
  refine VW.giveup 8 rfl rfl ?_
  simp only [V.drop, usesG, wq, simprocAttr]
  repeat refine VW.seq ?_
  refine VW.regl hT fun K hK => ?_
  simp only [wq, simprocAttr]
  have hlx0 : x.length = 0 → isNd t a = false := fun h => by
    cases e : isNd t a with
    | false => rfl
    | true => have := (hpa e).1; omega
  have hly0 : y.length = 0 → isNd t b = false := fun h => by
    cases e : isNd t b with
    | false => rfl
    | true => have := (hpb e).1; omega
  refine vbr (fun h => ?_) (fun h => ?_) <;> simp only [wq, simprocAttr]
  case refine_2 =>
    have h : ((x.length : Int) == 0) = true := h
    have h0 : x.length = 0 := by
      have : (x.length : Int) = 0 := by simpa using h
      omega
    refine hK _ ?_
    clear hK K
    try refine vthen_n ?_
    repeat refine VW.seq ?_
    refine VW.cond rfl (fun hc => ?_) (fun hc => ?_)
    · repeat refine VW.seq ?_
      refine VW.regl hT fun K hK => ?_
      simp only [wq, simprocAttr]
      refine hK _ ?_
      clear hK K
      try refine vthen_n ?_
      refine VW.ret ⟨.inl rfl, _, rfl, ?_⟩
      rw [hlx0 h0, Bool.false_and, if_neg (by decide)]
      rfl
    · cases hc
  have h : ((x.length : Int) == 0) = false := h
  have px1 : 0 < x.length := by
    have : ¬ (x.length : Int) = 0 := by simpa using h
    omega
  have ha : isNd t a = true := hia (by omega)
  refine hK _ ?_
  clear hK K
  try refine vthen_n ?_
  repeat refine VW.seq ?_
  refine VW.cond rfl (fun hc => ?_) (fun hc => ?_)
  · have hc : ((y.length : Int) == 0) = true := hc
    have h0 : y.length = 0 := by
      have : (y.length : Int) = 0 := by simpa using hc
      omega
    repeat refine VW.seq ?_
    refine VW.regl hT fun K hK => ?_
    simp only [wq, simprocAttr]
    refine hK _ ?_
    clear hK K
    try refine vthen_n ?_
    refine VW.ret ⟨.inl rfl, _, rfl, ?_⟩
    rw [hly0 h0, Bool.and_false, if_neg (by decide)]
    rfl
  have py1 : 0 < y.length := by
    have hc : ((y.length : Int) == 0) = false := hc
    have : ¬ (y.length : Int) = 0 := by simpa using hc
    omega
  have hb : isNd t b = true := hib (by omega)
  rw [ha, hb, Bool.true_and, if_pos rfl]
  obtain ⟨-, px2, px3⟩ := hpa ha
  obtain ⟨-, py2, py3⟩ := hpb hb
  have hcp := cpl_pos px1 py1 (by rw [px2, py2])
  clear hpa hpb hia hib hna hnb hlx0 hly0 hx12
  refine VW.skip (vthen_n ?_)
  repeat refine VW.seq ?_
  refine VW.regl hT fun K hK => ?_
  simp only [wq, simprocAttr]
  refine hK _ ?_
  clear hK K
  try refine vthen_n ?_
  repeat refine VW.seq ?_
  refine VW.block ?_
  refine VW.loop (α := Nat) [(7, none), (8, none), (9, none), (10, none)] (fun i => [D, D, D, D, D, D, D, .v false sI x, .v false sI y, .emp, .v false (.int .i64) ((i : Nat)), D, D, D, D, D, D, D, D, D, D, D, D, D, D, D, D, D, D, D, D, D, D, D, D, D, D, D, D, D, D, D, D, D, D, D, D, D, D, D, D, D, D, D, D, D, D, D, D, D, D, D, D, D, D, D, D, D, D, D, D, D]) (fun i => i ≤ x.length ∧ i ≤ y.length ∧ ∀ j, j < i → x.getD j 0 = y.getD j 0) (fun i => x.length - i) ⟨0, ⟨by omega, by omega, fun j h => by omega⟩, ?_⟩ fun i ⟨hx, hy, hj⟩ => ?_
  · simp only [wn, wq, simprocAttr]
    try rfl
  apply cutl
  · intro tail
    repeat refine VW.seq ?_
    refine VW.drawl hT hm (by kernel_rfl) fun K hK => ?_
    simp only [wq, simprocAttr]
    refine vbr (fun h => ?_) (fun h => ?_) <;> simp only [wq, simprocAttr]
    case refine_2 =>
      have h : decide ((i : Int) < (x.length : Int)) = false := h
      have h := of_decide_eq_false h
      have hend : i = x.length ∨ i = y.length ∨ x.getD i 0 ≠ y.getD i 0 := .inl (by omega)
      refine hK _ ?_
      try refine vthen_n ?_
      refine VW.cond rfl (fun hc => by cases hc) (fun hc => ?_)
      refine VW.exit ?_
      show vthen _ _ _ .normal _
      refine vthen_n ?_
      refine VW.weak (weak_norm [(7, none), (8, none), (9, none), (10, none)] _) ?_
      simp only [wn, wq, simprocAttr]
      revert hend
      exact tail.h
    have h : decide ((i : Int) < (x.length : Int)) = true := h
    have h := of_decide_eq_true h
    have hlx : i < x.length := by omega
    refine vbr (fun h2 => ?_) (fun h2 => ?_) <;> simp only [wq, simprocAttr]
    case refine_2 =>
      have h2 : decide ((i : Int) < (y.length : Int)) = false := h2
      have h2 := of_decide_eq_false h2
      have hend : i = x.length ∨ i = y.length ∨ x.getD i 0 ≠ y.getD i 0 := .inr (.inl (by omega))
      refine hK _ ?_
      try refine vthen_n ?_
      refine VW.cond rfl (fun hc => by cases hc) (fun hc => ?_)
      refine VW.exit ?_
      show vthen _ _ _ .normal _
      refine vthen_n ?_
      refine VW.weak (weak_norm [(7, none), (8, none), (9, none), (10, none)] _) ?_
      simp only [wn, wq, simprocAttr]
      revert hend
      exact tail.h
    have h2 : decide ((i : Int) < (y.length : Int)) = true := h2
    have h2 := of_decide_eq_true h2
    have hly : i < y.length := by omega
    refine ⟨decide_eq_true ⟨Int.natCast_nonneg _, by show (i : Int) < (x.length : Int); omega⟩, decide_eq_true ⟨Int.natCast_nonneg _, by show (i : Int) < (y.length : Int); omega⟩, ?_⟩
    refine hK _ ?_
    try refine vthen_n ?_
    refine VW.cond rfl (fun hc => ?_) (fun hc => ?_)
    · have hc : (x.getD i 0 == y.getD i 0) = true := hc
      refine VW.skip (vthen_n ?_)
      repeat refine VW.seq ?_
      refine VW.block ?_
      repeat refine VW.seq ?_
      refine VW.regl hT fun K hK => ?_
      simp only [wq, simprocAttr]
      refine hK _ ?_
      clear hK K
      try refine vthen_n ?_
      refine ⟨i + 1, ⟨hlx, hly, fun j hj2 => ?_⟩, ?_, by show x.length - (i + 1) < x.length - i; omega⟩
      · rcases Nat.lt_or_ge j i with h1 | h1
        · exact hj j h1
        · obtain rfl : j = i := by omega
          simpa using hc
      simp only [wn, wq, simprocAttr]
      rw [wrap64 (by omega) (by omega)]
      rfl
    · have hc : (x.getD i 0 == y.getD i 0) = false := hc
      have hend : i = x.length ∨ i = y.length ∨ x.getD i 0 ≠ y.getD i 0 := .inr (.inr (by simpa using hc))
      refine VW.exit ?_
      show vthen _ _ _ .normal _
      refine vthen_n ?_
      refine VW.weak (weak_norm [(7, none), (8, none), (9, none), (10, none)] _) ?_
      simp only [wn, wq, simprocAttr]
      revert hend
      exact tail.h
  · intro hend
    have hi := cpl_eq x y i hx hy hj hend
    rw [hi] at hcp
    rw [hi]
    obtain ⟨m, rfl⟩ : ∃ m, i = m + 1 := ⟨i - 1, by omega⟩
    rw [show m + 1 - 1 = m by omega]
    repeat refine VW.seq ?_
    refine VW.regl hT fun K hK => ?_
    simp only [wq, simprocAttr]
    refine hK _ ?_
    clear hK K
    try refine vthen_n ?_
    repeat refine VW.seq ?_
    refine VW.block ?_
    refine VW.loop (α := Nat) [(8, none), (7, none), (9, some (3, .int .i64)), (10, none), (11, none)] (fun j => [D, D, D, D, D, D, D, .v false sI x, .v false sI y, .root (.val false) sI .own (x.drop j).reverse, .v false (.int .i64) (((m + 1 : Nat) : Int)), .v false (.int .i64) ((j : Int) - 1), D, D, D, D, D, D, D, D, D, D, D, D, D, D, D, D, D, D, D, D, D, D, D, D, D, D, D, D, D, D, D, D, D, D, D, D, D, D, D, D, D, D, D, D, D, D, D, D, D, D, D, D, D, D, D, D, D, D, D, D]) (fun j => m ≤ j ∧ j ≤ x.length) (fun j => j) ⟨x.length, ⟨by omega, by omega⟩, ?_⟩ fun j ⟨hj1, hj2⟩ => ?_
    · simp only [wn, wq, simprocAttr]
      rw [wrap64 (by omega) (by omega), List.drop_length]
      rfl
    have hdl : (x.drop j).length = x.length - j := List.length_drop ..
    repeat refine VW.seq ?_
    refine VW.regl hT fun K hK => ?_
    simp only [wq, simprocAttr]
    refine hK _ ?_
    clear hK K
    try refine vthen_n ?_
    rw [wrap64 (by omega) (by omega)]
    repeat refine VW.seq ?_
    refine VW.cond rfl (fun hc => ?_) (fun hc => ?_)
    · have hc : (j : Int) - 1 ≥ ((m + 1 : Nat) : Int) - 1 := of_decide_eq_true hc
      obtain ⟨q, rfl⟩ : ∃ q, j = q + 1 := ⟨j - 1, by omega⟩
      rw [show ((q + 1 : Nat) : Int) - 1 = (q : Int) by omega]
      refine VW.skip (vthen_n ?_)
      repeat refine VW.seq ?_
      refine VW.block ?_
      repeat refine VW.seq ?_
      refine VW.regl hT fun K hK => ?_
      simp only [wq, simprocAttr]
      refine ⟨decide_eq_true ⟨Int.natCast_nonneg _, by show (q : Int) < (x.length : Int); omega⟩, ?_, ?_⟩
      · have : ((x.drop (q + 1)).reverse).length ≤ 12 := by rw [List.length_reverse]; omega
        generalize (x.drop (q + 1)).reverse = w at *
        simp [limOk]
        omega
      refine hK _ ?_
      clear hK K
      try refine vthen_n ?_
      repeat refine VW.seq ?_
      refine VW.regl hT fun K hK => ?_
      simp only [wq, simprocAttr]
      refine hK _ ?_
      clear hK K
      try refine vthen_n ?_
      refine ⟨q, ⟨by omega, by omega⟩, ?_, by show q < q + 1; omega⟩
      simp only [wn, wq, simprocAttr]
      rw [wrap64 (by omega) (by omega), back_snoc (m := m) (by omega) (by omega)]
    · have hc : ¬ (j : Int) - 1 ≥ ((m + 1 : Nat) : Int) - 1 := of_decide_eq_false hc
      obtain rfl : j = m := by omega
      refine VW.exit ?_
      show vthen _ _ _ .normal _
      refine vthen_n ?_
      repeat refine VW.seq ?_
      refine VW.regl hT fun K hK => ?_
      simp only [wq, simprocAttr]
      rw [List.take_length]
      refine ⟨decide_eq_true ⟨by omega, by omega, by omega⟩, ?_, ?_⟩
      · have e1 : (x.drop j).reverse.length + (y.drop (j + 1)).length ≤ 24 := by
          rw [List.length_reverse, List.length_drop, List.length_drop]
          omega
        generalize (x.drop j).reverse.length + (y.drop (j + 1)).length = q at *
        simp [limOk]
        omega
      refine hK _ ?_
      clear hK K
      try refine vthen_n ?_
      refine VW.weak (weak_norm [(6, none)] _) ?_
      simp only [wn, wq, simprocAttr]
      exact VW.ret ⟨.inl rfl, _, rfl, rfl⟩
end Go.Proofs.YtmechjnfeidnkaaGreat.V.W
end
section
/- spec.CanReach walked. No condition. -/
set_option linter.unusedVariables false
set_option linter.unnecessarySimpa false
set_option linter.unusedSimpArgs false
namespace Go.Proofs.YtmechjnfeidnkaaGreat.V.W
open Go Go.RowKit
/-- two rows agree as far as cpl says -/
theorem cpl_spec : ∀ x y : List Int, cpl x y ≤ x.length ∧ cpl x y ≤ y.length ∧ ∀ j, j < cpl x y → x.getD j 0 = y.getD j 0
  | [], y => by simp [cpl]
  | a :: x, [] => by simp [cpl]
  | a :: x, b :: y => by
    obtain ⟨h1, h2, h3⟩ := cpl_spec x y
    by_cases e : a = b
    · simp only [cpl, e, if_true, List.length_cons]
      refine ⟨by omega, by omega, fun j hj => ?_⟩
      match j, hj with
      | 0, _ => rfl
      | j + 1, hj => exact h3 j (by omega)
    · simp [cpl, e]
theorem rev_getD {x : List Int} {j : Nat} (h : j < x.length) : x.reverse.getD j 0 = x.getD (x.length - 1 - j) 0 := by
  rw [List.getD_eq_getElem?_getD, List.getElem?_reverse h, ← List.getD_eq_getElem?_getD]
theorem drop_getD (x : List Int) (n j : Nat) : (x.drop n).getD j 0 = x.getD (n + j) 0 := by
  rw [List.getD_eq_getElem?_getD, List.getElem?_drop, ← List.getD_eq_getElem?_getD]
theorem app_getDI (x y : List Int) (j : Nat) : (x ++ y).getD j 0 = if j < x.length then x.getD j 0 else y.getD (j - x.length) 0 := by
  rw [List.getD_eq_getElem?_getD]
  split
  · rename_i h
    rw [List.getElem?_append_left h, ← List.getD_eq_getElem?_getD]
  · rename_i h
    rw [List.getElem?_append_right (by omega), ← List.getD_eq_getElem?_getD]
def upN (t : List Nd) (k : Int) : Int := (t.getD k.toNat z).1
/-- each node of a path to a node stands below the one ahead of it -/
theorem path_chain {t : List Nd} {k : Int} (h : isNd t k = true) (j : Nat) (hj : j + 1 < (pathTo t k).length) : upN t ((pathTo t k).getD (j + 1) 0) = (pathTo t k).getD j 0 := by
  have hok : treeOk t = true := by
    rw [isNd, Bool.and_eq_true] at h
    exact h.1
  have hk := inB_iff.1 (by rw [isNd, Bool.and_eq_true] at h; exact h.2 : inB k 0 (t.length - 1) = true)
  have hex : ∃ i, pathTo t k = (accTo t k i).reverse := by
    have hend : anc t k t.length < 0 := by
      have := anc_lt hok (k := k) (by omega) t.length (by omega)
      have htl := treeOk_len hok
      omega
    have : ∀ n, anc t k n < 0 → ∃ i, i ≤ n ∧ anc t k i < 0 ∧ ∀ j, j < i → 0 ≤ anc t k j := by
      intro n
      induction n using Nat.strongRecOn with
      | _ n ih =>
        intro hn
        by_cases hex : ∃ j, j < n ∧ anc t k j < 0
        · obtain ⟨j, h1, h2⟩ := hex
          obtain ⟨i, q1, q2, q3⟩ := ih j h1 h2
          exact ⟨i, by omega, q2, q3⟩
        · refine ⟨n, Nat.le_refl _, hn, fun j hj => ?_⟩
          have : ¬ anc t k j < 0 := fun q => hex ⟨j, hj, q⟩
          omega
    obtain ⟨i, hi, h1, h2⟩ := this _ hend
    exact ⟨i, by rw [pathTo, if_pos (show (treeOk t && inB k 0 (t.length - 1)) = true from h), accTo_all hok h1 h2 _ hi]⟩
  obtain ⟨i, hp⟩ := hex
  rw [hp] at hj ⊢
  have hl : (accTo t k i).length = i := by simp [accTo]
  rw [List.length_reverse, hl] at hj
  have hg : ∀ m, m < i → (accTo t k i).getD m 0 = anc t k m := fun m hm => by
    rw [accTo, List.getD_eq_getElem?_getD, List.getElem?_map, List.getElem?_range hm]
    rfl
  rw [rev_getD (by omega), rev_getD (by omega), hl, hg _ (by omega), hg _ (by omega), show i - 1 - j = (i - 1 - (j + 1)) + 1 by omega]
  rfl
/-- neighbours on a path -/
theorem between_adj {t : List Nd} {a b : Int} (j : Nat) (hj : j + 1 < (between t a b).length) : upN t ((between t a b).getD j 0) = (between t a b).getD (j + 1) 0 ∨ upN t ((between t a b).getD (j + 1) 0) = (between t a b).getD j 0 := by
  rw [between] at hj ⊢
  split at hj
  case isFalse => simp at hj
  rename_i h
  rw [if_pos h]
  rw [Bool.and_eq_true] at h
  have hx := path_chain h.1
  have hy := path_chain h.2
  have px := path_head h.1
  have py := path_head h.2
  have hc := cpl_spec (pathTo t a) (pathTo t b)
  have hc1 := cpl_pos px.1 py.1 (by rw [px.2.1, py.2.1])
  generalize pathTo t a = x at *
  generalize pathTo t b = y at *
  generalize cpl x y = c at *
  obtain ⟨m, rfl⟩ : ∃ m, c = m + 1 := ⟨c - 1, by omega⟩
  rw [show m + 1 - 1 = m by omega] at hj ⊢
  obtain ⟨c1, c2, c3⟩ := hc
  have hU : ((x.drop m).reverse).length = x.length - m := by rw [List.length_reverse, List.length_drop]
  have hgU : ∀ q, q < x.length - m → ((x.drop m).reverse).getD q 0 = x.getD (x.length - 1 - q) 0 := fun q hq => by
    rw [rev_getD (by rw [List.length_drop]; exact hq), drop_getD, List.length_drop]
    congr 1
    omega
  rw [List.length_append, hU, List.length_drop] at hj
  rw [app_getDI, app_getDI, hU, drop_getD, drop_getD]
  by_cases h1 : j + 1 < x.length - m
  · rw [if_pos (by omega), if_pos h1, hgU _ (by omega), hgU _ h1]
    left
    have := hx (x.length - 1 - (j + 1)) (by omega)
    rw [show x.length - 1 - (j + 1) + 1 = x.length - 1 - j by omega] at this
    exact this
  · right
    rw [if_neg h1]
    by_cases h2 : j < x.length - m
    · rw [if_pos h2, hgU _ h2, show x.length - 1 - j = m by omega, show m + 1 + (j + 1 - (x.length - m)) = m + 1 by omega, c3 m (by omega)]
      exact hy m (by omega)
    · rw [if_neg h2]
      have := hy (m + 1 + (j - (x.length - m))) (by omega)
      rw [show m + 1 + (j + 1 - (x.length - m)) = m + 1 + (j - (x.length - m)) + 1 by omega]
      exact this
/-- which of two neighbours is the lower one may be asked from either side -/
theorem low_eq {t : List Nd} (hok : treeOk t = true) {x y : Int} (hx : 0 ≤ x ∧ x < t.length) (hy : 0 ≤ y ∧ y < t.length) (h : upN t x = y ∨ upN t y = x) : (if (upN t x == y) = true then x else y) = if (upN t y == x) = true then y else x := by
  have hlt : ∀ k : Int, 0 ≤ k ∧ k < t.length → upN t k < k := fun k hk => by
    unfold upN
    rcases Nat.eq_zero_or_pos k.toNat with e | e
    · rw [e, (tree_parts hok).2.1]
      omega
    · obtain ⟨p, hp, hpl⟩ := par hok (j := k.toNat) e (by omega)
      rw [hp]
      omega
  have q1 := hlt x hx
  have q2 := hlt y hy
  rcases h with h | h
  · have : (upN t y == x) = false := beq_eq_false_iff_ne.2 (by omega)
    rw [this, h]
    simp
  · have : (upN t x == y) = false := beq_eq_false_iff_ne.2 (by omega)
    rw [this, h]
    simp
set_option maxRecDepth 20000 in
set_option maxHeartbeats 1000000 in
theorem specCanReach_vc (t : List Nd) (g : List Bool) (a b : Int) (hl : t.length ≤ 2000000) : VC Tryz.prog 78 [.v false sNS t, .v true sG g, .v false (.int .i64) (a), .v false (.int .i64) (b)] (· = .v false .bool (canReach t g a b)) := by
  refine VC.of_body hT Tryz.func78 rfl (by kernel_rfl) [(.tmp 8, false, .bool)] (by kernel_rfl) ?_
  show VW _ _ ([.v false sNS t, .v true sG g, .v false (.int .i64) (a), .v false (.int .i64) (b), D, D, D, D, D, D, D, D, D, D, D, D, D, D, D, D, D, D, D, D, D, D, D, D, D, D, D, D, D, D, D, D, D, D, D, D, D, D, D, D, D, D, D, D, D, D, D, D, D, D, D, D, D, D, D, D, D]) _
  have hmem := fun x (hx : x ∈ between t a b) => between_mem hx
  have hpl := between_len t a b
  have hadj := fun j h => between_adj (t := t) (a := a) (b := b) j h
  rw [canReach]
  repeat refine VW.seq ?_
  refine VW.regl hT fun K hK => ?_
  simp only [wq, simprocAttr]
  refine hK _ ?_
  clear hK K
  try refine vthen_n ?_
  repeat refine VW.seq ?_
  refine VW.regl hT fun K hK => ?_
  simp only [wq, simprocAttr]
  refine vcall_of (specBetween_vc t a b hl) ?_
  simp only [wq, simprocAttr]
  refine hK _ ?_
  clear hK K
  try refine vthen_n ?_
  generalize between t a b = p at *
  repeat refine VW.seq ?_
  refine VW.regl hT fun K hK => ?_
  simp only [wq, simprocAttr]
  refine vcall_of (specGuard_vc t g hl) ?_
  simp only [wq, simprocAttr]
  refine vbr (fun h => ?_) (fun h => ?_) <;> simp only [wq, simprocAttr]
  case refine_2 =>
    have h : guardOk t g = false := (Bool.not_eq_true' _).mp h
    refine hK _ ?_
    clear hK K
    try refine vthen_n ?_
    repeat refine VW.seq ?_
    refine VW.cond rfl (fun hc => ?_) (fun hc => ?_)
    · repeat refine VW.seq ?_
      refine VW.regl hT fun K hK => ?_
      simp only [wq, simprocAttr]
      refine hK _ ?_
      clear hK K
      try refine vthen_n ?_
      refine VW.ret ⟨.inl rfl, _, rfl, ?_⟩
      rw [h]
      rfl
    · cases hc
  have hg : guardOk t g = true := by
    have := h
    rwa [Bool.not_eq_false'] at this
  have hg2 := hg
  rw [guardOk, Bool.and_eq_true, Bool.and_eq_true, beq_iff_eq] at hg2
  obtain ⟨hok, hgl, _⟩ := hg2
  refine hK _ ?_
  clear hK K
  try refine vthen_n ?_
  repeat refine VW.seq ?_
  refine VW.cond rfl (fun hc => ?_) (fun hc => ?_)
  · have hc : ((p.length : Int) == 0) = true := hc
    have h0 : p.length = 0 := by
      have : (p.length : Int) = 0 := by simpa using hc
      omega
    repeat refine VW.seq ?_
    refine VW.regl hT fun K hK => ?_
    simp only [wq, simprocAttr]
    refine hK _ ?_
    clear hK K
    try refine vthen_n ?_
    refine VW.ret ⟨.inl rfl, _, rfl, ?_⟩
    rw [h0, hg]
    rfl
  have h0 : (!(p.length == 0)) = true := by
    have hc : ((p.length : Int) == 0) = false := hc
    have : ¬ (p.length : Int) = 0 := by simpa using hc
    have : p.length ≠ 0 := by omega
    simpa using this
  have hp1 : 1 ≤ p.length := by
    have : p.length ≠ 0 := by simpa using h0
    omega
  rw [hg, h0, Bool.true_and, Bool.true_and]
  refine VW.skip (vthen_n ?_)
  repeat refine VW.seq ?_
  refine VW.regl hT fun K hK => ?_
  simp only [wq, simprocAttr]
  refine hK _ ?_
  clear hK K
  try refine vthen_n ?_
  repeat refine VW.seq ?_
  refine VW.block ?_
  refine VW.loop (α := Nat) [(0, none), (5, none), (9, none), (10, none)] (fun i => [.v false sNS t, D, D, D, D, .root (.box 30) sG .fz g, D, D, D, .root (.val false) sI .own p, .v false (.int .i64) ((i : Nat)), D, D, D, D, D, D, D, D, D, D, D, D, D, D, D, D, D, D, D, D, D, D, D, D, D, D, D, D, D, D, D, D, D, D, D, D, D, D, D, D, D, D, D, D, D, D, D, D, D, D]) (fun i => i + 1 ≤ p.length ∧ ∀ j, j < i + 1 → (j == 0 || g.getD (lowAt t p j).toNat false) = true) (fun i => p.length - i) ⟨0, ⟨by omega, fun j h => ?_⟩, ?_⟩ fun i ⟨hi, hj⟩ => ?_
  · obtain rfl : j = 0 := by omega
    rfl
  · simp only [wn, wq, simprocAttr]
    try rfl
  repeat refine VW.seq ?_
  refine VW.regl hT fun K hK => ?_
  simp only [wq, simprocAttr]
  refine hK _ ?_
  clear hK K
  try refine vthen_n ?_
  rw [wrap64 (by omega) (by omega)]
  repeat refine VW.seq ?_
  refine VW.cond rfl (fun hc => ?_) (fun hc => ?_)
  · have hlt : i + 1 < p.length := by
      have := of_decide_eq_true hc
      omega
    have m1 := hmem _ (getD_mem hlt)
    have m2 := hmem _ (getD_mem (i := i) (by omega))
    have hlow : lowAt t p (i + 1) = if (t.getD (p.getD (i + 1) 0).toNat z).1 == p.getD i 0 then p.getD (i + 1) 0 else p.getD i 0 := by
      have : lowAt t p (i + 1) = if (upN t (p.getD i 0) == p.getD (i + 1) 0) = true then p.getD i 0 else p.getD (i + 1) 0 := rfl
      rw [this, low_eq hok m2 m1 (hadj i hlt)]
      rfl
    refine VW.skip (vthen_n ?_)
    repeat refine VW.seq ?_
    refine VW.block ?_
    repeat refine VW.seq ?_
    refine VW.regl hT fun K hK => ?_
    simp only [wq, simprocAttr]
    refine ⟨decide_eq_true ⟨Int.natCast_nonneg _, by show (i : Int) < (p.length : Int); omega⟩, ?_⟩
    refine hK _ ?_
    clear hK K
    try refine vthen_n ?_
    repeat refine VW.seq ?_
    refine VW.drawl hT hm (by kernel_rfl) fun K hK => ?_
    simp only [wq, simprocAttr]
    rw [wrap64 (by omega) (by omega), show (i : Int) + 1 = ((i + 1 : Nat) : Int) by omega, Int.toNat_natCast]
    refine ⟨by kernel_rfl, by kernel_rfl, decide_eq_true ⟨Int.natCast_nonneg _, by show ((i + 1 : Nat) : Int) < (p.length : Int); omega⟩, by kernel_rfl, decide_eq_true m1, by kernel_rfl, by kernel_rfl, decide_eq_true ⟨Int.natCast_nonneg _, by show (i : Int) < (p.length : Int); omega⟩, by kernel_rfl, ?_⟩
    refine hK _ ?_
    clear hK K
    try refine vthen_n ?_
    apply cutl
    · intro tail
      repeat refine VW.seq ?_
      refine VW.cond rfl (fun hc => ?_) (fun hc => ?_)
      · have hc : ((t.getD (p.getD (i + 1) 0).toNat z).1 == p.getD i 0) = true := hc
        rw [if_pos hc] at hlow
        repeat refine VW.seq ?_
        refine VW.regl hT fun K hK => ?_
        simp only [wq, simprocAttr]
        rw [wrap64 (by omega) (by omega), show (i : Int) + 1 = ((i + 1 : Nat) : Int) by omega, Int.toNat_natCast]
        refine ⟨decide_eq_true ⟨Int.natCast_nonneg _, by show ((i + 1 : Nat) : Int) < (p.length : Int); omega⟩, ?_⟩
        refine hK _ ?_
        try refine vthen_n ?_
        refine VW.weak (weak_norm [(0, none), (5, none), (9, none), (10, none), (11, none)] _) ?_
        simp only [wn, wq, simprocAttr]
        rw [← hlow]
        exact tail.h
      · have hc : ((t.getD (p.getD (i + 1) 0).toNat z).1 == p.getD i 0) = false := hc
        rw [if_neg (by rw [hc]; decide)] at hlow
        refine VW.skip ?_
        show vthen _ _ _ .normal _
        refine vthen_n ?_
        refine VW.weak (weak_norm [(0, none), (5, none), (9, none), (10, none), (11, none)] _) ?_
        simp only [wn, wq, simprocAttr]
        rw [← hlow]
        exact tail.h
    have m3 : 0 ≤ lowAt t p (i + 1) ∧ lowAt t p (i + 1) < t.length := by
      rw [hlow]
      split
      · exact m1
      · exact m2
    clear hlow
    repeat refine VW.seq ?_
    refine VW.regl hT fun K hK => ?_
    simp only [wq, simprocAttr]
    refine ⟨decide_eq_true ⟨m3.1, by show lowAt t p (i + 1) < (g.length : Int); omega⟩, ?_⟩
    refine hK _ ?_
    clear hK K
    try refine vthen_n ?_
    repeat refine VW.seq ?_
    refine VW.cond rfl (fun hc => ?_) (fun hc => ?_)
    · have hc : g.getD (lowAt t p (i + 1)).toNat false = false := (Bool.not_eq_true' _).mp hc
      have hno : passes t g p = false := by
        rw [passes, List.all_eq_false]
        refine ⟨i + 1, List.mem_range.2 hlt, ?_⟩
        rw [hc, Bool.or_false]
        simp
      repeat refine VW.seq ?_
      refine VW.regl hT fun K hK => ?_
      simp only [wq, simprocAttr]
      refine hK _ ?_
      clear hK K
      try refine vthen_n ?_
      refine VW.ret ⟨.inl rfl, _, rfl, ?_⟩
      rw [hno]
    · have hc : g.getD (lowAt t p (i + 1)).toNat false = true := by
        have := hc
        rwa [Bool.not_eq_false'] at this
      refine VW.skip ?_
      show vthen _ _ _ .normal _
      refine vthen_n ?_
      repeat refine VW.seq ?_
      refine VW.regl hT fun K hK => ?_
      simp only [wq, simprocAttr]
      refine hK _ ?_
      clear hK K
      try refine vthen_n ?_
      refine ⟨i + 1, ⟨by omega, fun j h => ?_⟩, ?_, by show p.length - (i + 1) < p.length - i; omega⟩
      · rcases Nat.lt_or_ge j (i + 1) with h1 | h1
        · exact hj j h1
        · obtain rfl : j = i + 1 := by omega
          rw [hc, Bool.or_true]
      simp only [wn, wq, simprocAttr]
      rw [wrap64 (by omega) (by omega)]
      rfl
  · have hge : i + 1 = p.length := by
      have : ¬ (i : Int) + 1 < (p.length : Int) := of_decide_eq_false hc
      omega
    refine VW.exit ?_
    show vthen _ _ _ .normal _
    refine vthen_n ?_
    repeat refine VW.seq ?_
    refine VW.regl hT fun K hK => ?_
    simp only [wq, simprocAttr]
    refine hK _ ?_
    clear hK K
    try refine vthen_n ?_
    refine VW.ret ⟨.inl rfl, _, rfl, ?_⟩
    have hyes : passes t g p = true := by
      rw [passes, List.all_eq_true]
      intro j h
      exact hj j (by have := List.mem_range.1 h; omega)
    rw [hyes]
end Go.Proofs.YtmechjnfeidnkaaGreat.V.W
end
section
/- spec.TargetOf walked. No condition. -/
set_option linter.unusedVariables false
set_option linter.unnecessarySimpa false
set_option linter.unusedSimpArgs false
namespace Go.Proofs.YtmechjnfeidnkaaGreat.V.W
open Go Go.RowKit
theorem wrapU {x : Int} (h : 0 ≤ x) (k : x ≤ 9223372036854775807) : IntKind.u64.wrap x = x := by simp [IntKind.wrap, IntKind.bits, IntKind.signed]; omega
/-- the end of an access lies in the window if there is room for it -/
theorem cov_room {w b a l : Int} (hw0 : 0 ≤ w) (hw : w ≤ 65536) (hb0 : 0 ≤ b) (hb : b ≤ 65536) (ha : a ≤ 9223372036854775807) (hl1 : 1 ≤ l) (hl2 : l ≤ 64) (h : covB (w, b) a = true) : covB (w, b) (IntKind.i64.wrap (IntKind.i64.wrap (a + l) - 1)) = !decide (l > room (w, b) a) := by
  rw [covB, Bool.and_eq_true, Bool.and_eq_true] at h
  obtain ⟨h1, h2, h3⟩ := h
  have h2 : a ≥ b := of_decide_eq_true h2
  have h1 : w > 0 := of_decide_eq_true h1
  have h3 : IntKind.u64.wrap (IntKind.u64.wrap a - IntKind.u64.wrap b) < IntKind.u64.wrap w := of_decide_eq_true h3
  rw [wrapU (x := a) (by omega) (by omega), wrapU (x := b) (by omega) (by omega), wrapU (x := w) (by omega) (by omega), wrapU (by omega) (by omega)] at h3
  have h4 : a - b < w := by omega
  have e1 : IntKind.i64.wrap (IntKind.i64.wrap (a + l) - 1) = a + l - 1 := by
    rw [wrap64 (x := a + l) (by omega) (by omega), wrap64 (by omega) (by omega)]
  have e2 : room (w, b) a = w - (a - b) := by
    show IntKind.i64.wrap (w - IntKind.i64.wrap (a - b)) = _
    rw [wrap64 (x := a - b) (by omega) (by omega), wrap64 (by omega) (by omega)]
  rw [e1, e2, covB]
  show (decide (w > 0) && (decide (a + l - 1 ≥ b) && decide (IntKind.u64.wrap (IntKind.u64.wrap (a + l - 1) - IntKind.u64.wrap b) < IntKind.u64.wrap w))) = _
  rw [wrapU (x := a + l - 1) (by omega) (by omega), wrapU (x := b) (by omega) (by omega), wrapU (x := w) (by omega) (by omega), wrapU (x := a + l - 1 - b) (by omega) (by omega)]
  rw [decide_eq_true (show w > 0 by omega), decide_eq_true (show a + l - 1 ≥ b by omega), Bool.true_and, Bool.true_and]
  by_cases hq : l > w - (a - b)
  · rw [decide_eq_true hq]
    exact decide_eq_false (by omega)
  · rw [decide_eq_false hq]
    exact decide_eq_true (by omega)
theorem fab_win {x : Fab} (h : fabOk x = true) {a : Int} {j : Nat} (hj : j < x.1.length) : 0 ≤ (x.2.2.1.getD j zb).1 ∧ (x.2.2.1.getD j zb).1 ≤ 65536 ∧ 0 ≤ (x.2.2.1.getD j zb).2 ∧ (x.2.2.1.getD j zb).2 ≤ 65536 := by
  obtain ⟨t, s, b, m, g⟩ := x
  rw [fabOk, Bool.and_eq_true, Bool.and_eq_true] at h
  obtain ⟨h1, h2, -⟩ := h
  have h1 : newOk t s = true := h1
  have h2 : allBars t s = b := of_decide_eq_true h2
  have hj : j < t.length := hj
  rw [newOk, fits, Bool.and_eq_true, Bool.and_eq_true] at h1
  have hs := h1.1.1
  have h65 : win t s 0 ≤ 65536 := of_decide_eq_true h1.1.2
  have hok : treeOk t = true := (sizesOk_iff.1 hs).1
  have := pos_bd hok s j j (Nat.le_refl _) hj
  show 0 ≤ (b.getD j zb).1 ∧ (b.getD j zb).1 ≤ 65536 ∧ 0 ≤ (b.getD j zb).2 ∧ (b.getD j zb).2 ≤ 65536
  rw [← h2, allBars, bars_get _ _ _ hj]
  refine ⟨Int.natCast_nonneg _, ?_, ?_, ?_⟩
  · show (win t s j : Int) ≤ 65536
    omega
  · show 0 ≤ (if true = true then (pos t s j : Int) else 0)
    rw [if_pos rfl]
    omega
  · show (if true = true then (pos t s j : Int) else 0) ≤ 65536
    rw [if_pos rfl]
    omega
set_option maxRecDepth 20000 in
set_option maxHeartbeats 1000000 in
theorem specTargetOf_vc (x : Fab) (fr a l : Int) (hx : FabL x) (ha : a ≤ 9223372036854775807) : VC Tryz.prog 29 [.v true sFi x, .v false (.int .i64) (fr), .v false (.int .i64) (a), .v false (.int .i64) (l)] (· = r2 (targetOf x fr a l)) := by
  refine VC.of_body hT Tryz.func29 rfl (by kernel_rfl) [(.tmp 8, false, .int .i64), (.tmp 9, false, .int .i64)] (by kernel_rfl) ?_
  generalize hr : targetOf x fr a l = r
  show VW _ _ ([.v true sFi x, .v false (.int .i64) (fr), .v false (.int .i64) (a), .v false (.int .i64) (l), D, D, D, D, D, D, D, D, D, D, D, D, D, D, D, D, D, D, D, D, D, D, D, D, D, D, D, D, D, D, D, D, D, D, D, D, D, D, D, D, D, D, D, D, D, D, D, D, D, D, D, D, D, D, D, D, D]) _
  repeat refine VW.seq ?_
  refine VW.regl hT fun K hK => ?_
  simp only [wq, simprocAttr]
  refine hK _ ?_
  clear hK K
  try refine vthen_n ?_
  repeat refine VW.seq ?_
  refine VW.regl hT fun K hK => ?_
  simp only [wq, simprocAttr]
  refine vcall_of (specFabricOk_vc x hx) ?_
  simp only [wq, simprocAttr]
  refine vbr (fun h => ?_) (fun h => ?_) <;> simp only [wq, simprocAttr]
  case refine_2 =>
    have h : fabOk x = false := (Bool.not_eq_true' _).mp h
    refine hK _ ?_
    clear hK K
    try refine vthen_n ?_
    repeat refine VW.seq ?_
    refine VW.cond rfl (fun hc => ?_) (fun hc => ?_)
    · repeat refine VW.seq ?_
      refine VW.regl hT fun K hK => ?_
      simp only [wq, simprocAttr]
      refine hK _ ?_
      clear hK K
      try refine vthen_n ?_
      refine VW.ret ⟨.inl rfl, _, rfl, ?_⟩
      rw [← hr, targetOf, if_neg (by rw [h]; decide)]
    · cases hc
  have hf : fabOk x = true := by
    have := h
    rwa [Bool.not_eq_false'] at this
  rw [targetOf, if_pos hf] at hr
  have hwin := fun j (hj : j < x.1.length) => fab_win hf (a := a) hj
  obtain ⟨t, s, b, m, g⟩ := x
  have hla : t.length ≤ 2000000 := hx.a
  have htg : target (t, s, b, m, g) fr a l = if (inB fr 0 (t.length - 1) && inB l 1 64) = true then if ownerOf t b a < 0 then (0, 1) else if l > room (b.getD (ownerOf t b a).toNat zb) a then (ownerOf t b a, 3) else if canReach t g fr (ownerOf t b a) = true then (ownerOf t b a, 0) else (ownerOf t b a, 2) else (0, 1) := rfl
  rw [htg] at hr
  rw [wrap64 (by show -9223372036854775808 ≤ (t.length : Int) - 1; omega) (by show (t.length : Int) - 1 ≤ 9223372036854775807; omega)]
  refine vcall_of (in_vc fr 0 (t.length - 1)) ?_
  simp only [wq, simprocAttr]
  refine vbr (fun h => ?_) (fun h => ?_) <;> simp only [wq, simprocAttr]
  case refine_2 =>
    have h : inB fr 0 (t.length - 1) = false := (Bool.not_eq_true' _).mp h
    refine hK _ ?_
    clear hK K
    try refine vthen_n ?_
    repeat refine VW.seq ?_
    refine VW.cond rfl (fun hc => ?_) (fun hc => ?_)
    · repeat refine VW.seq ?_
      refine VW.regl hT fun K hK => ?_
      simp only [wq, simprocAttr]
      refine hK _ ?_
      clear hK K
      try refine vthen_n ?_
      refine VW.ret ⟨.inl rfl, _, rfl, ?_⟩
      rw [← hr, h, if_neg (by simp)]
    · cases hc
  have h1 : inB fr 0 (t.length - 1) = true := by
    have := h
    rwa [Bool.not_eq_false'] at this
  refine vcall_of (in_vc l 1 64) ?_
  simp only [wq, simprocAttr]
  refine hK _ ?_
  clear hK K
  try refine vthen_n ?_
  repeat refine VW.seq ?_
  refine VW.cond rfl (fun hc => ?_) (fun hc => ?_)
  · have hc : inB l 1 64 = false := (Bool.not_eq_true' _).mp hc
    repeat refine VW.seq ?_
    refine VW.regl hT fun K hK => ?_
    simp only [wq, simprocAttr]
    refine hK _ ?_
    clear hK K
    try refine vthen_n ?_
    refine VW.ret ⟨.inl rfl, _, rfl, ?_⟩
    rw [← hr, hc, if_neg (by simp)]
  have h2 : inB l 1 64 = true := by
    have := hc
    rwa [Bool.not_eq_false'] at this
  have h64 := inB_iff.1 h2
  rw [if_pos (by rw [h1, h2]; rfl)] at hr
  have how := owner_lt t b a
  refine VW.skip (vthen_n ?_)
  repeat refine VW.seq ?_
  refine VW.regl hT fun K hK => ?_
  simp only [wq, simprocAttr]
  refine vcall_of (specOwner_vc t b a hla) ?_
  simp only [wq, simprocAttr]
  refine hK _ ?_
  clear hK K
  try refine vthen_n ?_
  generalize ownerOf t b a = k at *
  repeat refine VW.seq ?_
  refine VW.block ?_
  repeat refine VW.seq ?_
  refine VW.regl hT fun K hK => ?_
  simp only [wq, simprocAttr]
  refine hK _ ?_
  clear hK K
  try refine vthen_n ?_
  repeat refine VW.seq ?_
  refine VW.cond rfl (fun hc => ?_) (fun hc => ?_)
  · have hc : k < 0 := of_decide_eq_true hc
    repeat refine VW.seq ?_
    refine VW.regl hT fun K hK => ?_
    simp only [wq, simprocAttr]
    refine hK _ ?_
    clear hK K
    try refine vthen_n ?_
    refine VW.ret ⟨.inl rfl, _, rfl, ?_⟩
    rw [← hr, if_pos hc]
  have hk : ¬ k < 0 := of_decide_eq_false hc
  obtain ⟨j, rfl, hjl, hbl, hown⟩ := how.resolve_left (by omega)
  rw [if_neg hk, Int.toNat_natCast] at hr
  have hcov : covB (b.getD j zb) (IntKind.i64.wrap (IntKind.i64.wrap (a + l) - 1)) = !decide (l > room (b.getD j zb) a) := by
    obtain ⟨w1, w2, w3, w4⟩ := hwin j hjl
    rw [owns, Bool.and_eq_true] at hown
    exact cov_room w1 w2 w3 w4 ha h64.1 h64.2 hown.2
  repeat refine VW.seq ?_
  refine VW.regl hT fun K hK => ?_
  simp only [wq, simprocAttr]
  refine ⟨decide_eq_true ⟨Int.natCast_nonneg _, by show (j : Int) < (b.length : Int); omega⟩, ?_⟩
  refine vcall_of (specCovers_vc _ _) ?_
  simp only [wq, simprocAttr]
  refine hK _ ?_
  clear hK K
  try refine vthen_n ?_
  repeat refine VW.seq ?_
  refine VW.cond rfl (fun hc => ?_) (fun hc => ?_)
  · have hc : covB (b.getD j zb) (IntKind.i64.wrap (IntKind.i64.wrap (a + l) - 1)) = false := (Bool.not_eq_true' _).mp hc
    rw [hcov, Bool.not_eq_false'] at hc
    repeat refine VW.seq ?_
    refine VW.regl hT fun K hK => ?_
    simp only [wq, simprocAttr]
    refine hK _ ?_
    clear hK K
    try refine vthen_n ?_
    refine VW.ret ⟨.inl rfl, _, rfl, ?_⟩
    rw [← hr, if_pos (of_decide_eq_true hc)]
  have hc : covB (b.getD j zb) (IntKind.i64.wrap (IntKind.i64.wrap (a + l) - 1)) = true := by
    have := hc
    rwa [Bool.not_eq_false'] at this
  rw [hcov, Bool.not_eq_true'] at hc
  rw [if_neg (of_decide_eq_false hc)] at hr
  repeat refine VW.seq ?_
  refine VW.regl hT fun K hK => ?_
  simp only [wq, simprocAttr]
  refine vcall_of (specCanReach_vc t g fr j hla) ?_
  simp only [wq, simprocAttr]
  refine hK _ ?_
  clear hK K
  try refine vthen_n ?_
  repeat refine VW.seq ?_
  refine VW.cond rfl (fun hc => ?_) (fun hc => ?_)
  · have hc : canReach t g fr j = false := (Bool.not_eq_true' _).mp hc
    repeat refine VW.seq ?_
    refine VW.regl hT fun K hK => ?_
    simp only [wq, simprocAttr]
    refine hK _ ?_
    clear hK K
    try refine vthen_n ?_
    refine VW.ret ⟨.inl rfl, _, rfl, ?_⟩
    rw [← hr, if_neg (by rw [hc]; decide)]
  have hcr : canReach t g fr j = true := by
    have := hc
    rwa [Bool.not_eq_false'] at this
  rw [if_pos hcr] at hr
  refine VW.skip ?_
  show vthen _ _ _ .normal _
  refine vthen_n ?_
  repeat refine VW.seq ?_
  refine VW.regl hT fun K hK => ?_
  simp only [wq, simprocAttr]
  refine hK _ ?_
  clear hK K
  try refine vthen_n ?_
  exact VW.ret ⟨.inl rfl, _, rfl, by rw [← hr]⟩
end Go.Proofs.YtmechjnfeidnkaaGreat.V.W
end
section
/- The law FnExactTargetOf walked. No condition. -/
set_option linter.unusedVariables false
set_option linter.unnecessarySimpa false
set_option linter.unusedSimpArgs false
namespace Go.Proofs.YtmechjnfeidnkaaGreat.V.W
open Go Go.RowKit
set_option maxRecDepth 40000 in
set_option maxHeartbeats 1000000 in
theorem law_targetOf (x : Fab) (fr a l : Int) (w0 : wfS Tryz.prog sFs x) (w2 : wfS Tryz.prog (.int .i64) a) : VC Tryz.prog 7 [.v true sFs x, .v false (.int .i64) (fr), .v false (.int .i64) (a), .v false (.int .i64) (l)] (· = .v false .bool true) := by
  have hx := fab_wf w0
  have ha : a ≤ 9223372036854775807 := by
    have := w2
    simp [wfS, Lit.wf] at this
    exact this.2
  refine VC.of_body hT Tryz.func7 rfl (by kernel_rfl) [(.tmp 8, false, .bool)] (by kernel_rfl) ?_
  show VW _ _ ([.v true sFs x, .v false (.int .i64) (fr), .v false (.int .i64) (a), .v false (.int .i64) (l), D, D, D, D, D, D, D, D, D, D, D, D, D, D, D, D, D, D, D, D, D, D, D, D, D, D, D, D, D, D, D, D, D, D, D, D, D, D, D, D, D, D, D, D, D, D, D, D]) _
  repeat refine VW.seq ?_
  refine VW.regl hT fun K hK => ?_
  simp only [wq, simprocAttr]
  refine hK _ ?_
  clear hK K
  try refine vthen_n ?_
  repeat refine VW.seq ?_
  refine VW.regl hT fun K hK => ?_
  simp only [wq, simprocAttr]
  refine hK _ ?_
  clear hK K
  try refine vthen_n ?_
  repeat refine VW.seq ?_
  refine VW.regl hT fun K hK => ?_
  simp only [wq, simprocAttr]
  refine vcall_ex (szFabric_vc x _ hx (by decide) (by decide)) ?_
  rintro pv ⟨n, rfl, hn1, hn2⟩
  simp only [wq, simprocAttr]
  refine hK _ ?_
  clear hK K
  try refine vthen_n ?_
  repeat refine VW.seq ?_
  refine VW.regl hT fun K hK => ?_
  simp only [wq, simprocAttr]
  refine hK _ ?_
  clear hK K
  try refine vthen_n ?_
  repeat refine VW.seq ?_
  refine VW.cond rfl (fun hc => ?_) (fun hc => ?_)
  · repeat refine VW.seq ?_
    refine VW.regl hT fun K hK => ?_
    simp only [wq, simprocAttr]
    refine hK _ ?_
    clear hK K
    try refine vthen_n ?_
    exact VW.ret ⟨.inl rfl, _, rfl, rfl⟩
  have hl := fab_small (x := x) (by have : ¬ (n < 0) := of_decide_eq_false hc; have := hn2 (by omega); omega)
  refine VW.skip (vthen_n ?_)
  repeat refine VW.seq ?_
  refine VW.regl hT fun K hK => ?_
  simp only [wq, simprocAttr]
  refine vcall_of (toFabric_vc x hx) ?_
  simp only [wq, simprocAttr]
  refine vcall_of (specTargetOf_vc x fr a l hl ha) ?_
  simp only [wq, simprocAttr]
  refine hK _ ?_
  clear hK K
  try refine vthen_n ?_
  repeat refine VW.seq ?_
  refine VW.regl hT fun K hK => ?_
  simp only [wq, simprocAttr]
  refine vcall_of (toFabric_vc x hx) ?_
  simp only [wq, simprocAttr]
  refine hK _ ?_
  clear hK K
  try refine vthen_n ?_
  repeat refine VW.seq ?_
  refine VW.regl hT fun K hK => ?_
  simp only [wq, simprocAttr]
  refine vcall_of (targetOf_vc x fr a l hl) ?_
  simp only [wq, simprocAttr]
  refine hK _ ?_
  clear hK K
  try refine vthen_n ?_
  generalize targetOf x fr a l = p at *
  repeat refine VW.seq ?_
  refine VW.regl hT fun K hK => ?_
  simp only [wq, simprocAttr]
  refine hK _ ?_
  clear hK K
  try refine vthen_n ?_
  repeat refine VW.seq ?_
  refine VW.cond rfl (fun hc => ?_) (fun hc => ?_)
  · cases hc
  refine VW.skip (vthen_n ?_)
  repeat refine VW.seq ?_
  refine VW.drawl hT hm (by kernel_rfl) fun K hK => ?_
  simp only [wq, simprocAttr]
  refine ⟨by kernel_rfl, by kernel_rfl, vcallD_of (toFabric_vc x hx) ?_⟩
  simp only [wq, simprocAttr]
  refine ⟨by kernel_rfl, vcallD_of (eqFabric_vc x x hx) ?_⟩
  simp only [wq, simprocAttr]
  refine hK _ ?_
  clear hK K
  try refine vthen_n ?_
  repeat refine VW.seq ?_
  refine VW.cond rfl (fun hc => ?_) (fun hc => ?_)
  · simp at hc
  refine VW.skip (vthen_n ?_)
  repeat refine VW.seq ?_
  refine VW.regl hT fun K hK => ?_
  simp only [wq, simprocAttr]
  refine hK _ ?_
  clear hK K
  try refine vthen_n ?_
  exact VW.ret ⟨.inl rfl, _, rfl, rfl⟩
end Go.Proofs.YtmechjnfeidnkaaGreat.V.W
namespace Go.Proofs.YtmechjnfeidnkaaGreat.V
open Go Go.RowKit
theorem fnExactTargetOf_vc (x : W.Fab) (fr a l : Int) (w0 : wfS Tryz.prog W.sFs x) (w1 : wfS Tryz.prog (.int .i64) fr) (w2 : wfS Tryz.prog (.int .i64) a) (w3 : wfS Tryz.prog (.int .i64) l) : VC Tryz.prog 7 [.v true W.sFs x, .v false (.int .i64) (fr), .v false (.int .i64) (a), .v false (.int .i64) (l)] (· = .v false .bool true) := W.law_targetOf x fr a l w0 w2
end Go.Proofs.YtmechjnfeidnkaaGreat.V
end

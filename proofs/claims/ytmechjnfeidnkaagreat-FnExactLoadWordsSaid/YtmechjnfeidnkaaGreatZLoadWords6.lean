/- Texts N7 N8 N9 M1 M2 M3 M4 M6 N11 N12 N13 in one. No condition. -/
import Derived.Test.YtmechjnfeidnkaaGreatZLoadWords5

section
/- spec.PathBetween walked. No condition. -/
set_option linter.unusedVariables false
set_option linter.unnecessarySimpa false
set_option linter.unusedSimpArgs false
namespace Go.Proofs.YtmechjnfeidnkaaGreat.V.W
open Go Go.RowKit
theorem path_none {t : List Nd} {k : Int} (h : isNd t k = false) : pathTo t k = [] := by
  rw [pathTo, if_neg (by rw [show (treeOk t && inB k 0 (t.length - 1)) = isNd t k from rfl, h]; decide)]
theorem path_some {t : List Nd} {k : Int} (h : (pathTo t k).length ≠ 0) : isNd t k = true := by
  cases e : isNd t k with
  | true => rfl
  | false => rw [path_none e] at h; exact absurd rfl h
/-- the end of a row from behind: what is done after j steps -/
theorem back_snoc {x : List Int} {m j : Nat} (h1 : m ≤ j) (h2 : j < x.length) : (x.drop (j + 1)).reverse ++ [x.getD j 0] = (x.drop j).reverse := by
  rw [List.drop_eq_getElem_cons h2, List.reverse_cons, List.getD_eq_getElem?_getD, List.getElem?_eq_getElem h2]
  rfl
set_option maxRecDepth 20000 in
set_option maxHeartbeats 1000000 in
theorem specBetween_vc (t : List Nd) (a b : Int) (hl : t.length ≤ 2000000) : VC Tryz.prog 133 [.v false sNS t, .v false (.int .i64) (a), .v false (.int .i64) (b)] (· = .root (.val false) sI .own (between t a b)) := by
  refine VC.of_body hT Tryz.func133 rfl (by kernel_rfl) [(.tmp 6, false, sI)] (by kernel_rfl) ?_
  show VW _ _ ([.v false sNS t, .v false (.int .i64) (a), .v false (.int .i64) (b), D, D, D, D, D, D, D, D, D, D, D, D, D, D, D, D, D, D, D, D, D, D, D, D, D, D, D, D, D, D, D, D, D, D, D, D, D, D, D, D, D, D, D, D, D, D, D, D, D, D, D, D, D, D, D, D, D, D, D, D, D, D, D, D, D, D, D, D, D]) _
  repeat refine VW.seq ?_
  refine VW.regl hT fun K hK => ?_
  simp only [wq, simprocAttr]
  refine hK _ ?_
  clear hK K
  try refine vthen_n ?_
  repeat refine VW.seq ?_
  refine VW.regl hT fun K hK => ?_
  simp only [wq, simprocAttr]
  refine vcall_of (specPathTo_vc t a hl) ?_
  simp only [wq, simprocAttr]
  refine hK _ ?_
  clear hK K
  try refine vthen_n ?_
  repeat refine VW.seq ?_
  refine VW.regl hT fun K hK => ?_
  simp only [wq, simprocAttr]
  refine vcall_of (specPathTo_vc t b hl) ?_
  simp only [wq, simprocAttr]
  refine hK _ ?_
  clear hK K
  try refine vthen_n ?_
  repeat refine VW.seq ?_
  refine VW.regl hT fun K hK => ?_
  simp only [wq, simprocAttr]
  refine hK _ ?_
  clear hK K
  try refine vthen_n ?_
  have hpa := fun h => path_head (t := t) (k := a) h
  have hpb := fun h => path_head (t := t) (k := b) h
  have hia := fun h => path_some (t := t) (k := a) h
  have hib := fun h => path_some (t := t) (k := b) h
  have hbt : between t a b = if (isNd t a && isNd t b) = true then ((pathTo t a).drop (cpl (pathTo t a) (pathTo t b) - 1)).reverse ++ (pathTo t b).drop (cpl (pathTo t a) (pathTo t b)) else [] := rfl
  have hna := fun h => path_none (t := t) (k := a) h
  have hnb := fun h => path_none (t := t) (k := b) h
  rw [hbt]
  clear hbt
  have hx12 : isNd t a = true → (pathTo t a).length ≤ 12 := fun h => (hpa h).2.2
  generalize pathTo t a = x at *
  generalize pathTo t b = y at *
  refine VW.weak (weak_norm [(7, none), (8, none), (9, none)] _) ?_
  simp only [wn, wq, simprocAttr]
  refine VW.giveup 7 rfl rfl ?_
  refine VW.giveup 8 rfl rfl ?_
  simp only [V.drop, usesG, wq, simprocAttr]
  repeat refine VW.seq ?_
  refine VW.regl hT fun K hK => ?_
  simp only [wq, simprocAttr]
  have hlx0 : x.length = 0 → isNd t a = false := fun h => by
    cases e : isNd t a with
    | false => rfl
    | true => have := (hpa e).1; omega
  have hly0 : y.length = 0 → isNd t b = false := fun h => by
    cases e : isNd t b with
    | false => rfl
    | true => have := (hpb e).1; omega
  refine vbr (fun h => ?_) (fun h => ?_) <;> simp only [wq, simprocAttr]
  case refine_2 =>
    have h : ((x.length : Int) == 0) = true := h
    have h0 : x.length = 0 := by
      have : (x.length : Int) = 0 := by simpa using h
      omega
    refine hK _ ?_
    clear hK K
    try refine vthen_n ?_
    repeat refine VW.seq ?_
    refine VW.cond rfl (fun hc => ?_) (fun hc => ?_)
    · repeat refine VW.seq ?_
      refine VW.regl hT fun K hK => ?_
      simp only [wq, simprocAttr]
      refine hK _ ?_
      clear hK K
      try refine vthen_n ?_
      refine VW.ret ⟨.inl rfl, _, rfl, ?_⟩
      rw [hlx0 h0, Bool.false_and, if_neg (by decide)]
      rfl
    · cases hc
  have h : ((x.length : Int) == 0) = false := h
  have px1 : 0 < x.length := by
    have : ¬ (x.length : Int) = 0 := by simpa using h
    omega
  have ha : isNd t a = true := hia (by omega)
  refine hK _ ?_
  clear hK K
  try refine vthen_n ?_
  repeat refine VW.seq ?_
  refine VW.cond rfl (fun hc => ?_) (fun hc => ?_)
  · have hc : ((y.length : Int) == 0) = true := hc
    have h0 : y.length = 0 := by
      have : (y.length : Int) = 0 := by simpa using hc
      omega
    repeat refine VW.seq ?_
    refine VW.regl hT fun K hK => ?_
    simp only [wq, simprocAttr]
    refine hK _ ?_
    clear hK K
    try refine vthen_n ?_
    refine VW.ret ⟨.inl rfl, _, rfl, ?_⟩
    rw [hly0 h0, Bool.and_false, if_neg (by decide)]
    rfl
  have py1 : 0 < y.length := by
    have hc : ((y.length : Int) == 0) = false := hc
    have : ¬ (y.length : Int) = 0 := by simpa using hc
    omega
  have hb : isNd t b = true := hib (by omega)
  rw [ha, hb, Bool.true_and, if_pos rfl]
  obtain ⟨-, px2, px3⟩ := hpa ha
  obtain ⟨-, py2, py3⟩ := hpb hb
  have hcp := cpl_pos px1 py1 (by rw [px2, py2])
  clear hpa hpb hia hib hna hnb hlx0 hly0 hx12
  refine VW.skip (vthen_n ?_)
  repeat refine VW.seq ?_
  refine VW.regl hT fun K hK => ?_
  simp only [wq, simprocAttr]
  refine hK _ ?_
  clear hK K
  try refine vthen_n ?_
  repeat refine VW.seq ?_
  refine VW.block ?_
  refine VW.loop (α := Nat) [(7, none), (8, none), (9, none), (10, none)] (fun i => [D, D, D, D, D, D, D, .v false sI x, .v false sI y, .emp, .v false (.int .i64) ((i : Nat)), D, D, D, D, D, D, D, D, D, D, D, D, D, D, D, D, D, D, D, D, D, D, D, D, D, D, D, D, D, D, D, D, D, D, D, D, D, D, D, D, D, D, D, D, D, D, D, D, D, D, D, D, D, D, D, D, D, D, D, D, D]) (fun i => i ≤ x.length ∧ i ≤ y.length ∧ ∀ j, j < i → x.getD j 0 = y.getD j 0) (fun i => x.length - i) ⟨0, ⟨by omega, by omega, fun j h => by omega⟩, ?_⟩ fun i ⟨hx, hy, hj⟩ => ?_
  · simp only [wn, wq, simprocAttr]
    try rfl
  apply cutl
  · intro tail
    repeat refine VW.seq ?_
    refine VW.drawl hT hm (by kernel_rfl) fun K hK => ?_
    simp only [wq, simprocAttr]
    refine vbr (fun h => ?_) (fun h => ?_) <;> simp only [wq, simprocAttr]
    case refine_2 =>
      have h : decide ((i : Int) < (x.length : Int)) = false := h
      have h := of_decide_eq_false h
      have hend : i = x.length ∨ i = y.length ∨ x.getD i 0 ≠ y.getD i 0 := .inl (by omega)
      refine hK _ ?_
      try refine vthen_n ?_
      refine VW.cond rfl (fun hc => by cases hc) (fun hc => ?_)
      refine VW.exit ?_
      show vthen _ _ _ .normal _
      refine vthen_n ?_
      refine VW.weak (weak_norm [(7, none), (8, none), (9, none), (10, none)] _) ?_
      simp only [wn, wq, simprocAttr]
      revert hend
      exact tail.h
    have h : decide ((i : Int) < (x.length : Int)) = true := h
    have h := of_decide_eq_true h
    have hlx : i < x.length := by omega
    refine vbr (fun h2 => ?_) (fun h2 => ?_) <;> simp only [wq, simprocAttr]
    case refine_2 =>
      have h2 : decide ((i : Int) < (y.length : Int)) = false := h2
      have h2 := of_decide_eq_false h2
      have hend : i = x.length ∨ i = y.length ∨ x.getD i 0 ≠ y.getD i 0 := .inr (.inl (by omega))
      refine hK _ ?_
      try refine vthen_n ?_
      refine VW.cond rfl (fun hc => by cases hc) (fun hc => ?_)
      refine VW.exit ?_
      show vthen _ _ _ .normal _
      refine vthen_n ?_
      refine VW.weak (weak_norm [(7, none), (8, none), (9, none), (10, none)] _) ?_
      simp only [wn, wq, simprocAttr]
      revert hend
      exact tail.h
    have h2 : decide ((i : Int) < (y.length : Int)) = true := h2
    have h2 := of_decide_eq_true h2
    have hly : i < y.length := by omega
    refine ⟨decide_eq_true ⟨Int.natCast_nonneg _, by show (i : Int) < (x.length : Int); omega⟩, decide_eq_true ⟨Int.natCast_nonneg _, by show (i : Int) < (y.length : Int); omega⟩, ?_⟩
    refine hK _ ?_
    try refine vthen_n ?_
    refine VW.cond rfl (fun hc => ?_) (fun hc => ?_)
    · have hc : (x.getD i 0 == y.getD i 0) = true := hc
      refine VW.skip (vthen_n ?_)
      repeat refine VW.seq ?_
      refine VW.block ?_
      repeat refine VW.seq ?_
      refine VW.regl hT fun K hK => ?_
      simp only [wq, simprocAttr]
      refine hK _ ?_
      clear hK K
      try refine vthen_n ?_
      refine ⟨i + 1, ⟨hlx, hly, fun j hj2 => ?_⟩, ?_, by show x.length - (i + 1) < x.length - i; omega⟩
      · rcases Nat.lt_or_ge j i with h1 | h1
        · exact hj j h1
        · obtain rfl : j = i := by omega
          simpa using hc
      simp only [wn, wq, simprocAttr]
      rw [wrap64 (by omega) (by omega)]
      rfl
    · have hc : (x.getD i 0 == y.getD i 0) = false := hc
      have hend : i = x.length ∨ i = y.length ∨ x.getD i 0 ≠ y.getD i 0 := .inr (.inr (by simpa using hc))
      refine VW.exit ?_
      show vthen _ _ _ .normal _
      refine vthen_n ?_
      refine VW.weak (weak_norm [(7, none), (8, none), (9, none), (10, none)] _) ?_
      simp only [wn, wq, simprocAttr]
      revert hend
      exact tail.h
  · intro hend
    have hi := cpl_eq x y i hx hy hj hend
    rw [hi] at hcp
    rw [hi]
    obtain ⟨m, rfl⟩ : ∃ m, i = m + 1 := ⟨i - 1, by omega⟩
    rw [show m + 1 - 1 = m by omega]
    repeat refine VW.seq ?_
    refine VW.regl hT fun K hK => ?_
    simp only [wq, simprocAttr]
    refine hK _ ?_
    clear hK K
    try refine vthen_n ?_
    repeat refine VW.seq ?_
    refine VW.block ?_
    refine VW.loop (α := Nat) [(8, none), (7, none), (9, some (3, .int .i64)), (10, none), (11, none)] (fun j => [D, D, D, D, D, D, D, .v false sI x, .v false sI y, .root (.val false) sI .own (x.drop j).reverse, .v false (.int .i64) (((m + 1 : Nat) : Int)), .v false (.int .i64) ((j : Int) - 1), D, D, D, D, D, D, D, D, D, D, D, D, D, D, D, D, D, D, D, D, D, D, D, D, D, D, D, D, D, D, D, D, D, D, D, D, D, D, D, D, D, D, D, D, D, D, D, D, D, D, D, D, D, D, D, D, D, D, D, D]) (fun j => m ≤ j ∧ j ≤ x.length) (fun j => j) ⟨x.length, ⟨by omega, by omega⟩, ?_⟩ fun j ⟨hj1, hj2⟩ => ?_
    · simp only [wn, wq, simprocAttr]
      rw [wrap64 (by omega) (by omega), List.drop_length]
      rfl
    have hdl : (x.drop j).length = x.length - j := List.length_drop ..
    repeat refine VW.seq ?_
    refine VW.regl hT fun K hK => ?_
    simp only [wq, simprocAttr]
    refine hK _ ?_
    clear hK K
    try refine vthen_n ?_
    rw [wrap64 (by omega) (by omega)]
    repeat refine VW.seq ?_
    refine VW.cond rfl (fun hc => ?_) (fun hc => ?_)
    · have hc : (j : Int) - 1 ≥ ((m + 1 : Nat) : Int) - 1 := of_decide_eq_true hc
      obtain ⟨q, rfl⟩ : ∃ q, j = q + 1 := ⟨j - 1, by omega⟩
      rw [show ((q + 1 : Nat) : Int) - 1 = (q : Int) by omega]
      refine VW.skip (vthen_n ?_)
      repeat refine VW.seq ?_
      refine VW.block ?_
      repeat refine VW.seq ?_
      refine VW.regl hT fun K hK => ?_
      simp only [wq, simprocAttr]
      refine ⟨decide_eq_true ⟨Int.natCast_nonneg _, by show (q : Int) < (x.length : Int); omega⟩, ?_, ?_⟩
      · have : ((x.drop (q + 1)).reverse).length ≤ 12 := by rw [List.length_reverse]; omega
        generalize (x.drop (q + 1)).reverse = w at *
        simp [limOk]
        omega
      refine hK _ ?_
      clear hK K
      try refine vthen_n ?_
      repeat refine VW.seq ?_
      refine VW.regl hT fun K hK => ?_
      simp only [wq, simprocAttr]
      refine hK _ ?_
      clear hK K
      try refine vthen_n ?_
      refine ⟨q, ⟨by omega, by omega⟩, ?_, by show q < q + 1; omega⟩
      simp only [wn, wq, simprocAttr]
      rw [wrap64 (by omega) (by omega), back_snoc (m := m) (by omega) (by omega)]
    · have hc : ¬ (j : Int) - 1 ≥ ((m + 1 : Nat) : Int) - 1 := of_decide_eq_false hc
      obtain rfl : j = m := by omega
      refine VW.exit ?_
      show vthen _ _ _ .normal _
      refine vthen_n ?_
      repeat refine VW.seq ?_
      refine VW.regl hT fun K hK => ?_
      simp only [wq, simprocAttr]
      rw [List.take_length]
      refine ⟨decide_eq_true ⟨by omega, by omega, by omega⟩, ?_, ?_⟩
      · have e1 : (x.drop j).reverse.length + (y.drop (j + 1)).length ≤ 24 := by
          rw [List.length_reverse, List.length_drop, List.length_drop]
          omega
        generalize (x.drop j).reverse.length + (y.drop (j + 1)).length = q at *
        simp [limOk]
        omega
      refine hK _ ?_
      clear hK K
      try refine vthen_n ?_
      refine VW.weak (weak_norm [(6, none)] _) ?_
      simp only [wn, wq, simprocAttr]
      exact VW.ret ⟨.inl rfl, _, rfl, rfl⟩
end Go.Proofs.YtmechjnfeidnkaaGreat.V.W
end
section
/- spec.CanReach walked. No condition. -/
set_option linter.unusedVariables false
set_option linter.unnecessarySimpa false
set_option linter.unusedSimpArgs false
namespace Go.Proofs.YtmechjnfeidnkaaGreat.V.W
open Go Go.RowKit
/-- two rows agree as far as cpl says -/
theorem cpl_spec : ∀ x y : List Int, cpl x y ≤ x.length ∧ cpl x y ≤ y.length ∧ ∀ j, j < cpl x y → x.getD j 0 = y.getD j 0
  | [], y => by simp [cpl]
  | a :: x, [] => by simp [cpl]
  | a :: x, b :: y => by
    obtain ⟨h1, h2, h3⟩ := cpl_spec x y
    by_cases e : a = b
    · simp only [cpl, e, if_true, List.length_cons]
      refine ⟨by omega, by omega, fun j hj => ?_⟩
      match j, hj with
      | 0, _ => rfl
      | j + 1, hj => exact h3 j (by omega)
    · simp [cpl, e]
theorem rev_getD {x : List Int} {j : Nat} (h : j < x.length) : x.reverse.getD j 0 = x.getD (x.length - 1 - j) 0 := by
  rw [List.getD_eq_getElem?_getD, List.getElem?_reverse h, ← List.getD_eq_getElem?_getD]
theorem drop_getD (x : List Int) (n j : Nat) : (x.drop n).getD j 0 = x.getD (n + j) 0 := by
  rw [List.getD_eq_getElem?_getD, List.getElem?_drop, ← List.getD_eq_getElem?_getD]
theorem app_getDI (x y : List Int) (j : Nat) : (x ++ y).getD j 0 = if j < x.length then x.getD j 0 else y.getD (j - x.length) 0 := by
  rw [List.getD_eq_getElem?_getD]
  split
  · rename_i h
    rw [List.getElem?_append_left h, ← List.getD_eq_getElem?_getD]
  · rename_i h
    rw [List.getElem?_append_right (by omega), ← List.getD_eq_getElem?_getD]
def upN (t : List Nd) (k : Int) : Int := (t.getD k.toNat z).1
/-- each node of a path to a node stands below the one ahead of it -/
theorem path_chain {t : List Nd} {k : Int} (h : isNd t k = true) (j : Nat) (hj : j + 1 < (pathTo t k).length) : upN t ((pathTo t k).getD (j + 1) 0) = (pathTo t k).getD j 0 := by
  have hok : treeOk t = true := by
    rw [isNd, Bool.and_eq_true] at h
    exact h.1
  have hk := inB_iff.1 (by rw [isNd, Bool.and_eq_true] at h; exact h.2 : inB k 0 (t.length - 1) = true)
  have hex : ∃ i, pathTo t k = (accTo t k i).reverse := by
    have hend : anc t k t.length < 0 := by
      have := anc_lt hok (k := k) (by omega) t.length (by omega)
      have htl := treeOk_len hok
      omega
    have : ∀ n, anc t k n < 0 → ∃ i, i ≤ n ∧ anc t k i < 0 ∧ ∀ j, j < i → 0 ≤ anc t k j := by
      intro n
      induction n using Nat.strongRecOn with
      | _ n ih =>
        intro hn
        by_cases hex : ∃ j, j < n ∧ anc t k j < 0
        · obtain ⟨j, h1, h2⟩ := hex
          obtain ⟨i, q1, q2, q3⟩ := ih j h1 h2
          exact ⟨i, by omega, q2, q3⟩
        · refine ⟨n, Nat.le_refl _, hn, fun j hj => ?_⟩
          have : ¬ anc t k j < 0 := fun q => hex ⟨j, hj, q⟩
          omega
    obtain ⟨i, hi, h1, h2⟩ := this _ hend
    exact ⟨i, by rw [pathTo, if_pos (show (treeOk t && inB k 0 (t.length - 1)) = true from h), accTo_all hok h1 h2 _ hi]⟩
  obtain ⟨i, hp⟩ := hex
  rw [hp] at hj ⊢
  have hl : (accTo t k i).length = i := by simp [accTo]
  rw [List.length_reverse, hl] at hj
  have hg : ∀ m, m < i → (accTo t k i).getD m 0 = anc t k m := fun m hm => by
    rw [accTo, List.getD_eq_getElem?_getD, List.getElem?_map, List.getElem?_range hm]
    rfl
  rw [rev_getD (by omega), rev_getD (by omega), hl, hg _ (by omega), hg _ (by omega), show i - 1 - j = (i - 1 - (j + 1)) + 1 by omega]
  rfl
/-- neighbours on a path -/
theorem between_adj {t : List Nd} {a b : Int} (j : Nat) (hj : j + 1 < (between t a b).length) : upN t ((between t a b).getD j 0) = (between t a b).getD (j + 1) 0 ∨ upN t ((between t a b).getD (j + 1) 0) = (between t a b).getD j 0 := by
  rw [between] at hj ⊢
  split at hj
  case isFalse => simp at hj
  rename_i h
  rw [if_pos h]
  rw [Bool.and_eq_true] at h
  have hx := path_chain h.1
  have hy := path_chain h.2
  have px := path_head h.1
  have py := path_head h.2
  have hc := cpl_spec (pathTo t a) (pathTo t b)
  have hc1 := cpl_pos px.1 py.1 (by rw [px.2.1, py.2.1])
  generalize pathTo t a = x at *
  generalize pathTo t b = y at *
  generalize cpl x y = c at *
  obtain ⟨m, rfl⟩ : ∃ m, c = m + 1 := ⟨c - 1, by omega⟩
  rw [show m + 1 - 1 = m by omega] at hj ⊢
  obtain ⟨c1, c2, c3⟩ := hc
  have hU : ((x.drop m).reverse).length = x.length - m := by rw [List.length_reverse, List.length_drop]
  have hgU : ∀ q, q < x.length - m → ((x.drop m).reverse).getD q 0 = x.getD (x.length - 1 - q) 0 := fun q hq => by
    rw [rev_getD (by rw [List.length_drop]; exact hq), drop_getD, List.length_drop]
    congr 1
    omega
  rw [List.length_append, hU, List.length_drop] at hj
  rw [app_getDI, app_getDI, hU, drop_getD, drop_getD]
  by_cases h1 : j + 1 < x.length - m
  · rw [if_pos (by omega), if_pos h1, hgU _ (by omega), hgU _ h1]
    left
    have := hx (x.length - 1 - (j + 1)) (by omega)
    rw [show x.length - 1 - (j + 1) + 1 = x.length - 1 - j by omega] at this
    exact this
  · right
    rw [if_neg h1]
    by_cases h2 : j < x.length - m
    · rw [if_pos h2, hgU _ h2, show x.length - 1 - j = m by omega, show m + 1 + (j + 1 - (x.length - m)) = m + 1 by omega, c3 m (by omega)]
      exact hy m (by omega)
    · rw [if_neg h2]
      have := hy (m + 1 + (j - (x.length - m))) (by omega)
      rw [show m + 1 + (j + 1 - (x.length - m)) = m + 1 + (j - (x.length - m)) + 1 by omega]
      exact this
/-- which of two neighbours is the lower one may be asked from either side -/
theorem low_eq {t : List Nd} (hok : treeOk t = true) {x y : Int} (hx : 0 ≤ x ∧ x < t.length) (hy : 0 ≤ y ∧ y < t.length) (h : upN t x = y ∨ upN t y = x) : (if (upN t x == y) = true then x else y) = if (upN t y == x) = true then y else x := by
  have hlt : ∀ k : Int, 0 ≤ k ∧ k < t.length → upN t k < k := fun k hk => by
    unfold upN
    rcases Nat.eq_zero_or_pos k.toNat with e | e
    · rw [e, (tree_parts hok).2.1]
      omega
    · obtain ⟨p, hp, hpl⟩ := par hok (j := k.toNat) e (by omega)
      rw [hp]
      omega
  have q1 := hlt x hx
  have q2 := hlt y hy
  rcases h with h | h
  · have : (upN t y == x) = false := beq_eq_false_iff_ne.2 (by omega)
    rw [this, h]
    simp
  · have : (upN t x == y) = false := beq_eq_false_iff_ne.2 (by omega)
    rw [this, h]
    simp
set_option maxRecDepth 20000 in
set_option maxHeartbeats 1000000 in
theorem specCanReach_vc (t : List Nd) (g : List Bool) (a b : Int) (hl : t.length ≤ 2000000) : VC Tryz.prog 78 [.v false sNS t, .v true sG g, .v false (.int .i64) (a), .v false (.int .i64) (b)] (· = .v false .bool (canReach t g a b)) := by
  refine VC.of_body hT Tryz.func78 rfl (by kernel_rfl) [(.tmp 8, false, .bool)] (by kernel_rfl) ?_
  show VW _ _ ([.v false sNS t, .v true sG g, .v false (.int .i64) (a), .v false (.int .i64) (b), D, D, D, D, D, D, D, D, D, D, D, D, D, D, D, D, D, D, D, D, D, D, D, D, D, D, D, D, D, D, D, D, D, D, D, D, D, D, D, D, D, D, D, D, D, D, D, D, D, D, D, D, D, D, D, D, D]) _
  have hmem := fun x (hx : x ∈ between t a b) => between_mem hx
  have hpl := between_len t a b
  have hadj := fun j h => between_adj (t := t) (a := a) (b := b) j h
  rw [canReach]
  repeat refine VW.seq ?_
  refine VW.regl hT fun K hK => ?_
  simp only [wq, simprocAttr]
  refine hK _ ?_
  clear hK K
  try refine vthen_n ?_
  repeat refine VW.seq ?_
  refine VW.regl hT fun K hK => ?_
  simp only [wq, simprocAttr]
  refine vcall_of (specBetween_vc t a b hl) ?_
  simp only [wq, simprocAttr]
  refine hK _ ?_
  clear hK K
  try refine vthen_n ?_
  generalize between t a b = p at *
  repeat refine VW.seq ?_
  refine VW.regl hT fun K hK => ?_
  simp only [wq, simprocAttr]
  refine vcall_of (specGuard_vc t g hl) ?_
  simp only [wq, simprocAttr]
  refine vbr (fun h => ?_) (fun h => ?_) <;> simp only [wq, simprocAttr]
  case refine_2 =>
    have h : guardOk t g = false := (Bool.not_eq_true' _).mp h
    refine hK _ ?_
    clear hK K
    try refine vthen_n ?_
    repeat refine VW.seq ?_
    refine VW.cond rfl (fun hc => ?_) (fun hc => ?_)
    · repeat refine VW.seq ?_
      refine VW.regl hT fun K hK => ?_
      simp only [wq, simprocAttr]
      refine hK _ ?_
      clear hK K
      try refine vthen_n ?_
      refine VW.ret ⟨.inl rfl, _, rfl, ?_⟩
      rw [h]
      rfl
    · cases hc
  have hg : guardOk t g = true := by
    have := h
    rwa [Bool.not_eq_false'] at this
  have hg2 := hg
  rw [guardOk, Bool.and_eq_true, Bool.and_eq_true, beq_iff_eq] at hg2
  obtain ⟨hok, hgl, _⟩ := hg2
  refine hK _ ?_
  clear hK K
  try refine vthen_n ?_
  repeat refine VW.seq ?_
  refine VW.cond rfl (fun hc => ?_) (fun hc => ?_)
  · have hc : ((p.length : Int) == 0) = true := hc
    have h0 : p.length = 0 := by
      have : (p.length : Int) = 0 := by simpa using hc
      omega
    repeat refine VW.seq ?_
    refine VW.regl hT fun K hK => ?_
    simp only [wq, simprocAttr]
    refine hK _ ?_
    clear hK K
    try refine vthen_n ?_
    refine VW.ret ⟨.inl rfl, _, rfl, ?_⟩
    rw [h0, hg]
    rfl
  have h0 : (!(p.length == 0)) = true := by
    have hc : ((p.length : Int) == 0) = false := hc
    have : ¬ (p.length : Int) = 0 := by simpa using hc
    have : p.length ≠ 0 := by omega
    simpa using this
  have hp1 : 1 ≤ p.length := by
    have : p.length ≠ 0 := by simpa using h0
    omega
  rw [hg, h0, Bool.true_and, Bool.true_and]
  refine VW.skip (vthen_n ?_)
  repeat refine VW.seq ?_
  refine VW.regl hT fun K hK => ?_
  simp only [wq, simprocAttr]
  refine hK _ ?_
  clear hK K
  try refine vthen_n ?_
  repeat refine VW.seq ?_
  refine VW.block ?_
  refine VW.loop (α := Nat) [(0, none), (5, none), (9, none), (10, none)] (fun i => [.v false sNS t, D, D, D, D, .root (.box 30) sG .fz g, D, D, D, .root (.val false) sI .own p, .v false (.int .i64) ((i : Nat)), D, D, D, D, D, D, D, D, D, D, D, D, D, D, D, D, D, D, D, D, D, D, D, D, D, D, D, D, D, D, D, D, D, D, D, D, D, D, D, D, D, D, D, D, D, D, D, D, D, D]) (fun i => i + 1 ≤ p.length ∧ ∀ j, j < i + 1 → (j == 0 || g.getD (lowAt t p j).toNat false) = true) (fun i => p.length - i) ⟨0, ⟨by omega, fun j h => ?_⟩, ?_⟩ fun i ⟨hi, hj⟩ => ?_
  · obtain rfl : j = 0 := by omega
    rfl
  · simp only [wn, wq, simprocAttr]
    try rfl
  repeat refine VW.seq ?_
  refine VW.regl hT fun K hK => ?_
  simp only [wq, simprocAttr]
  refine hK _ ?_
  clear hK K
  try refine vthen_n ?_
  rw [wrap64 (by omega) (by omega)]
  repeat refine VW.seq ?_
  refine VW.cond rfl (fun hc => ?_) (fun hc => ?_)
  · have hlt : i + 1 < p.length := by
      have := of_decide_eq_true hc
      omega
    have m1 := hmem _ (getD_mem hlt)
    have m2 := hmem _ (getD_mem (i := i) (by omega))
    have hlow : lowAt t p (i + 1) = if (t.getD (p.getD (i + 1) 0).toNat z).1 == p.getD i 0 then p.getD (i + 1) 0 else p.getD i 0 := by
      have : lowAt t p (i + 1) = if (upN t (p.getD i 0) == p.getD (i + 1) 0) = true then p.getD i 0 else p.getD (i + 1) 0 := rfl
      rw [this, low_eq hok m2 m1 (hadj i hlt)]
      rfl
    refine VW.skip (vthen_n ?_)
    repeat refine VW.seq ?_
    refine VW.block ?_
    repeat refine VW.seq ?_
    refine VW.regl hT fun K hK => ?_
    simp only [wq, simprocAttr]
    refine ⟨decide_eq_true ⟨Int.natCast_nonneg _, by show (i : Int) < (p.length : Int); omega⟩, ?_⟩
    refine hK _ ?_
    clear hK K
    try refine vthen_n ?_
    repeat refine VW.seq ?_
    refine VW.drawl hT hm (by kernel_rfl) fun K hK => ?_
    simp only [wq, simprocAttr]
    rw [wrap64 (by omega) (by omega), show (i : Int) + 1 = ((i + 1 : Nat) : Int) by omega, Int.toNat_natCast]
    refine ⟨by kernel_rfl, by kernel_rfl, decide_eq_true ⟨Int.natCast_nonneg _, by show ((i + 1 : Nat) : Int) < (p.length : Int); omega⟩, by kernel_rfl, decide_eq_true m1, by kernel_rfl, by kernel_rfl, decide_eq_true ⟨Int.natCast_nonneg _, by show (i : Int) < (p.length : Int); omega⟩, by kernel_rfl, ?_⟩
    refine hK _ ?_
    clear hK K
    try refine vthen_n ?_
    apply cutl
    · intro tail
      repeat refine VW.seq ?_
      refine VW.cond rfl (fun hc => ?_) (fun hc => ?_)
      · have hc : ((t.getD (p.getD (i + 1) 0).toNat z).1 == p.getD i 0) = true := hc
        rw [if_pos hc] at hlow
        repeat refine VW.seq ?_
        refine VW.regl hT fun K hK => ?_
        simp only [wq, simprocAttr]
        rw [wrap64 (by omega) (by omega), show (i : Int) + 1 = ((i + 1 : Nat) : Int) by omega, Int.toNat_natCast]
        refine ⟨decide_eq_true ⟨Int.natCast_nonneg _, by show ((i + 1 : Nat) : Int) < (p.length : Int); omega⟩, ?_⟩
        refine hK _ ?_
        try refine vthen_n ?_
        refine VW.weak (weak_norm [(0, none), (5, none), (9, none), (10, none), (11, none)] _) ?_
        simp only [wn, wq, simprocAttr]
        rw [← hlow]
        exact tail.h
      · have hc : ((t.getD (p.getD (i + 1) 0).toNat z).1 == p.getD i 0) = false := hc
        rw [if_neg (by rw [hc]; decide)] at hlow
        refine VW.skip ?_
        show vthen _ _ _ .normal _
        refine vthen_n ?_
        refine VW.weak (weak_norm [(0, none), (5, none), (9, none), (10, none), (11, none)] _) ?_
        simp only [wn, wq, simprocAttr]
        rw [← hlow]
        exact tail.h
    have m3 : 0 ≤ lowAt t p (i + 1) ∧ lowAt t p (i + 1) < t.length := by
      rw [hlow]
      split
      · exact m1
      · exact m2
    clear hlow
    repeat refine VW.seq ?_
    refine VW.regl hT fun K hK => ?_
    simp only [wq, simprocAttr]
    refine ⟨decide_eq_true ⟨m3.1, by show lowAt t p (i + 1) < (g.length : Int); omega⟩, ?_⟩
    refine hK _ ?_
    clear hK K
    try refine vthen_n ?_
    repeat refine VW.seq ?_
    refine VW.cond rfl (fun hc => ?_) (fun hc => ?_)
    · have hc : g.getD (lowAt t p (i + 1)).toNat false = false := (Bool.not_eq_true' _).mp hc
      have hno : passes t g p = false := by
        rw [passes, List.all_eq_false]
        refine ⟨i + 1, List.mem_range.2 hlt, ?_⟩
        rw [hc, Bool.or_false]
        simp
      repeat refine VW.seq ?_
      refine VW.regl hT fun K hK => ?_
      simp only [wq, simprocAttr]
      refine hK _ ?_
      clear hK K
      try refine vthen_n ?_
      refine VW.ret ⟨.inl rfl, _, rfl, ?_⟩
      rw [hno]
    · have hc : g.getD (lowAt t p (i + 1)).toNat false = true := by
        have := hc
        rwa [Bool.not_eq_false'] at this
      refine VW.skip ?_
      show vthen _ _ _ .normal _
      refine vthen_n ?_
      repeat refine VW.seq ?_
      refine VW.regl hT fun K hK => ?_
      simp only [wq, simprocAttr]
      refine hK _ ?_
      clear hK K
      try refine vthen_n ?_
      refine ⟨i + 1, ⟨by omega, fun j h => ?_⟩, ?_, by show p.length - (i + 1) < p.length - i; omega⟩
      · rcases Nat.lt_or_ge j (i + 1) with h1 | h1
        · exact hj j h1
        · obtain rfl : j = i + 1 := by omega
          rw [hc, Bool.or_true]
      simp only [wn, wq, simprocAttr]
      rw [wrap64 (by omega) (by omega)]
      rfl
  · have hge : i + 1 = p.length := by
      have : ¬ (i : Int) + 1 < (p.length : Int) := of_decide_eq_false hc
      omega
    refine VW.exit ?_
    show vthen _ _ _ .normal _
    refine vthen_n ?_
    repeat refine VW.seq ?_
    refine VW.regl hT fun K hK => ?_
    simp only [wq, simprocAttr]
    refine hK _ ?_
    clear hK K
    try refine vthen_n ?_
    refine VW.ret ⟨.inl rfl, _, rfl, ?_⟩
    have hyes : passes t g p = true := by
      rw [passes, List.all_eq_true]
      intro j h
      exact hj j (by have := List.mem_range.1 h; omega)
    rw [hyes]
end Go.Proofs.YtmechjnfeidnkaaGreat.V.W
end
section
/- spec.TargetOf walked. No condition. -/
set_option linter.unusedVariables false
set_option linter.unnecessarySimpa false
set_option linter.unusedSimpArgs false
namespace Go.Proofs.YtmechjnfeidnkaaGreat.V.W
open Go Go.RowKit
theorem wrapU {x : Int} (h : 0 ≤ x) (k : x ≤ 9223372036854775807) : IntKind.u64.wrap x = x := by simp [IntKind.wrap, IntKind.bits, IntKind.signed]; omega
/-- the end of an access lies in the window if there is room for it -/
theorem cov_room {w b a l : Int} (hw0 : 0 ≤ w) (hw : w ≤ 65536) (hb0 : 0 ≤ b) (hb : b ≤ 65536) (ha : a ≤ 9223372036854775807) (hl1 : 1 ≤ l) (hl2 : l ≤ 64) (h : covB (w, b) a = true) : covB (w, b) (IntKind.i64.wrap (IntKind.i64.wrap (a + l) - 1)) = !decide (l > room (w, b) a) := by
  rw [covB, Bool.and_eq_true, Bool.and_eq_true] at h
  obtain ⟨h1, h2, h3⟩ := h
  have h2 : a ≥ b := of_decide_eq_true h2
  have h1 : w > 0 := of_decide_eq_true h1
  have h3 : IntKind.u64.wrap (IntKind.u64.wrap a - IntKind.u64.wrap b) < IntKind.u64.wrap w := of_decide_eq_true h3
  rw [wrapU (x := a) (by omega) (by omega), wrapU (x := b) (by omega) (by omega), wrapU (x := w) (by omega) (by omega), wrapU (by omega) (by omega)] at h3
  have h4 : a - b < w := by omega
  have e1 : IntKind.i64.wrap (IntKind.i64.wrap (a + l) - 1) = a + l - 1 := by
    rw [wrap64 (x := a + l) (by omega) (by omega), wrap64 (by omega) (by omega)]
  have e2 : room (w, b) a = w - (a - b) := by
    show IntKind.i64.wrap (w - IntKind.i64.wrap (a - b)) = _
    rw [wrap64 (x := a - b) (by omega) (by omega), wrap64 (by omega) (by omega)]
  rw [e1, e2, covB]
  show (decide (w > 0) && (decide (a + l - 1 ≥ b) && decide (IntKind.u64.wrap (IntKind.u64.wrap (a + l - 1) - IntKind.u64.wrap b) < IntKind.u64.wrap w))) = _
  rw [wrapU (x := a + l - 1) (by omega) (by omega), wrapU (x := b) (by omega) (by omega), wrapU (x := w) (by omega) (by omega), wrapU (x := a + l - 1 - b) (by omega) (by omega)]
  rw [decide_eq_true (show w > 0 by omega), decide_eq_true (show a + l - 1 ≥ b by omega), Bool.true_and, Bool.true_and]
  by_cases hq : l > w - (a - b)
  · rw [decide_eq_true hq]
    exact decide_eq_false (by omega)
  · rw [decide_eq_false hq]
    exact decide_eq_true (by omega)
theorem fab_win {x : Fab} (h : fabOk x = true) {a : Int} {j : Nat} (hj : j < x.1.length) : 0 ≤ (x.2.2.1.getD j zb).1 ∧ (x.2.2.1.getD j zb).1 ≤ 65536 ∧ 0 ≤ (x.2.2.1.getD j zb).2 ∧ (x.2.2.1.getD j zb).2 ≤ 65536 := by
  obtain ⟨t, s, b, m, g⟩ := x
  rw [fabOk, Bool.and_eq_true, Bool.and_eq_true] at h
  obtain ⟨h1, h2, -⟩ := h
  have h1 : newOk t s = true := h1
  have h2 : allBars t s = b := of_decide_eq_true h2
  have hj : j < t.length := hj
  rw [newOk, fits, Bool.and_eq_true, Bool.and_eq_true] at h1
  have hs := h1.1.1
  have h65 : win t s 0 ≤ 65536 := of_decide_eq_true h1.1.2
  have hok : treeOk t = true := (sizesOk_iff.1 hs).1
  have := pos_bd hok s j j (Nat.le_refl _) hj
  show 0 ≤ (b.getD j zb).1 ∧ (b.getD j zb).1 ≤ 65536 ∧ 0 ≤ (b.getD j zb).2 ∧ (b.getD j zb).2 ≤ 65536
  rw [← h2, allBars, bars_get _ _ _ hj]
  refine ⟨Int.natCast_nonneg _, ?_, ?_, ?_⟩
  · show (win t s j : Int) ≤ 65536
    omega
  · show 0 ≤ (if true = true then (pos t s j : Int) else 0)
    rw [if_pos rfl]
    omega
  · show (if true = true then (pos t s j : Int) else 0) ≤ 65536
    rw [if_pos rfl]
    omega
set_option maxRecDepth 20000 in
set_option maxHeartbeats 1000000 in
theorem specTargetOf_vc (x : Fab) (fr a l : Int) (hx : FabL x) (ha : a ≤ 9223372036854775807) : VC Tryz.prog 29 [.v true sFi x, .v false (.int .i64) (fr), .v false (.int .i64) (a), .v false (.int .i64) (l)] (· = r2 (targetOf x fr a l)) := by
  refine VC.of_body hT Tryz.func29 rfl (by kernel_rfl) [(.tmp 8, false, .int .i64), (.tmp 9, false, .int .i64)] (by kernel_rfl) ?_
  generalize hr : targetOf x fr a l = r
  show VW _ _ ([.v true sFi x, .v false (.int .i64) (fr), .v false (.int .i64) (a), .v false (.int .i64) (l), D, D, D, D, D, D, D, D, D, D, D, D, D, D, D, D, D, D, D, D, D, D, D, D, D, D, D, D, D, D, D, D, D, D, D, D, D, D, D, D, D, D, D, D, D, D, D, D, D, D, D, D, D, D, D, D, D]) _
  repeat refine VW.seq ?_
  refine VW.regl hT fun K hK => ?_
  simp only [wq, simprocAttr]
  refine hK _ ?_
  clear hK K
  try refine vthen_n ?_
  repeat refine VW.seq ?_
  refine VW.regl hT fun K hK => ?_
  simp only [wq, simprocAttr]
  refine vcall_of (specFabricOk_vc x hx) ?_
  simp only [wq, simprocAttr]
  refine vbr (fun h => ?_) (fun h => ?_) <;> simp only [wq, simprocAttr]
  case refine_2 =>
    have h : fabOk x = false := (Bool.not_eq_true' _).mp h
    refine hK _ ?_
    clear hK K
    try refine vthen_n ?_
    repeat refine VW.seq ?_
    refine VW.cond rfl (fun hc => ?_) (fun hc => ?_)
    · repeat refine VW.seq ?_
      refine VW.regl hT fun K hK => ?_
      simp only [wq, simprocAttr]
      refine hK _ ?_
      clear hK K
      try refine vthen_n ?_
      refine VW.ret ⟨.inl rfl, _, rfl, ?_⟩
      rw [← hr, targetOf, if_neg (by rw [h]; decide)]
    · cases hc
  have hf : fabOk x = true := by
    have := h
    rwa [Bool.not_eq_false'] at this
  rw [targetOf, if_pos hf] at hr
  have hwin := fun j (hj : j < x.1.length) => fab_win hf (a := a) hj
  obtain ⟨t, s, b, m, g⟩ := x
  have hla : t.length ≤ 2000000 := hx.a
  have htg : target (t, s, b, m, g) fr a l = if (inB fr 0 (t.length - 1) && inB l 1 64) = true then if ownerOf t b a < 0 then (0, 1) else if l > room (b.getD (ownerOf t b a).toNat zb) a then (ownerOf t b a, 3) else if canReach t g fr (ownerOf t b a) = true then (ownerOf t b a, 0) else (ownerOf t b a, 2) else (0, 1) := rfl
  rw [htg] at hr
  rw [wrap64 (by show -9223372036854775808 ≤ (t.length : Int) - 1; omega) (by show (t.length : Int) - 1 ≤ 9223372036854775807; omega)]
  refine vcall_of (in_vc fr 0 (t.length - 1)) ?_
  simp only [wq, simprocAttr]
  refine vbr (fun h => ?_) (fun h => ?_) <;> simp only [wq, simprocAttr]
  case refine_2 =>
    have h : inB fr 0 (t.length - 1) = false := (Bool.not_eq_true' _).mp h
    refine hK _ ?_
    clear hK K
    try refine vthen_n ?_
    repeat refine VW.seq ?_
    refine VW.cond rfl (fun hc => ?_) (fun hc => ?_)
    · repeat refine VW.seq ?_
      refine VW.regl hT fun K hK => ?_
      simp only [wq, simprocAttr]
      refine hK _ ?_
      clear hK K
      try refine vthen_n ?_
      refine VW.ret ⟨.inl rfl, _, rfl, ?_⟩
      rw [← hr, h, if_neg (by simp)]
    · cases hc
  have h1 : inB fr 0 (t.length - 1) = true := by
    have := h
    rwa [Bool.not_eq_false'] at this
  refine vcall_of (in_vc l 1 64) ?_
  simp only [wq, simprocAttr]
  refine hK _ ?_
  clear hK K
  try refine vthen_n ?_
  repeat refine VW.seq ?_
  refine VW.cond rfl (fun hc => ?_) (fun hc => ?_)
  · have hc : inB l 1 64 = false := (Bool.not_eq_true' _).mp hc
    repeat refine VW.seq ?_
    refine VW.regl hT fun K hK => ?_
    simp only [wq, simprocAttr]
    refine hK _ ?_
    clear hK K
    try refine vthen_n ?_
    refine VW.ret ⟨.inl rfl, _, rfl, ?_⟩
    rw [← hr, hc, if_neg (by simp)]
  have h2 : inB l 1 64 = true := by
    have := hc
    rwa [Bool.not_eq_false'] at this
  have h64 := inB_iff.1 h2
  rw [if_pos (by rw [h1, h2]; rfl)] at hr
  have how := owner_lt t b a
  refine VW.skip (vthen_n ?_)
  repeat refine VW.seq ?_
  refine VW.regl hT fun K hK => ?_
  simp only [wq, simprocAttr]
  refine vcall_of (specOwner_vc t b a hla) ?_
  simp only [wq, simprocAttr]
  refine hK _ ?_
  clear hK K
  try refine vthen_n ?_
  generalize ownerOf t b a = k at *
  repeat refine VW.seq ?_
  refine VW.block ?_
  repeat refine VW.seq ?_
  refine VW.regl hT fun K hK => ?_
  simp only [wq, simprocAttr]
  refine hK _ ?_
  clear hK K
  try refine vthen_n ?_
  repeat refine VW.seq ?_
  refine VW.cond rfl (fun hc => ?_) (fun hc => ?_)
  · have hc : k < 0 := of_decide_eq_true hc
    repeat refine VW.seq ?_
    refine VW.regl hT fun K hK => ?_
    simp only [wq, simprocAttr]
    refine hK _ ?_
    clear hK K
    try refine vthen_n ?_
    refine VW.ret ⟨.inl rfl, _, rfl, ?_⟩
    rw [← hr, if_pos hc]
  have hk : ¬ k < 0 := of_decide_eq_false hc
  obtain ⟨j, rfl, hjl, hbl, hown⟩ := how.resolve_left (by omega)
  rw [if_neg hk, Int.toNat_natCast] at hr
  have hcov : covB (b.getD j zb) (IntKind.i64.wrap (IntKind.i64.wrap (a + l) - 1)) = !decide (l > room (b.getD j zb) a) := by
    obtain ⟨w1, w2, w3, w4⟩ := hwin j hjl
    rw [owns, Bool.and_eq_true] at hown
    exact cov_room w1 w2 w3 w4 ha h64.1 h64.2 hown.2
  repeat refine VW.seq ?_
  refine VW.regl hT fun K hK => ?_
  simp only [wq, simprocAttr]
  refine ⟨decide_eq_true ⟨Int.natCast_nonneg _, by show (j : Int) < (b.length : Int); omega⟩, ?_⟩
  refine vcall_of (specCovers_vc _ _) ?_
  simp only [wq, simprocAttr]
  refine hK _ ?_
  clear hK K
  try refine vthen_n ?_
  repeat refine VW.seq ?_
  refine VW.cond rfl (fun hc => ?_) (fun hc => ?_)
  · have hc : covB (b.getD j zb) (IntKind.i64.wrap (IntKind.i64.wrap (a + l) - 1)) = false := (Bool.not_eq_true' _).mp hc
    rw [hcov, Bool.not_eq_false'] at hc
    repeat refine VW.seq ?_
    refine VW.regl hT fun K hK => ?_
    simp only [wq, simprocAttr]
    refine hK _ ?_
    clear hK K
    try refine vthen_n ?_
    refine VW.ret ⟨.inl rfl, _, rfl, ?_⟩
    rw [← hr, if_pos (of_decide_eq_true hc)]
  have hc : covB (b.getD j zb) (IntKind.i64.wrap (IntKind.i64.wrap (a + l) - 1)) = true := by
    have := hc
    rwa [Bool.not_eq_false'] at this
  rw [hcov, Bool.not_eq_true'] at hc
  rw [if_neg (of_decide_eq_false hc)] at hr
  repeat refine VW.seq ?_
  refine VW.regl hT fun K hK => ?_
  simp only [wq, simprocAttr]
  refine vcall_of (specCanReach_vc t g fr j hla) ?_
  simp only [wq, simprocAttr]
  refine hK _ ?_
  clear hK K
  try refine vthen_n ?_
  repeat refine VW.seq ?_
  refine VW.cond rfl (fun hc => ?_) (fun hc => ?_)
  · have hc : canReach t g fr j = false := (Bool.not_eq_true' _).mp hc
    repeat refine VW.seq ?_
    refine VW.regl hT fun K hK => ?_
    simp only [wq, simprocAttr]
    refine hK _ ?_
    clear hK K
    try refine vthen_n ?_
    refine VW.ret ⟨.inl rfl, _, rfl, ?_⟩
    rw [← hr, if_neg (by rw [hc]; decide)]
  have hcr : canReach t g fr j = true := by
    have := hc
    rwa [Bool.not_eq_false'] at this
  rw [if_pos hcr] at hr
  refine VW.skip ?_
  show vthen _ _ _ .normal _
  refine vthen_n ?_
  repeat refine VW.seq ?_
  refine VW.regl hT fun K hK => ?_
  simp only [wq, simprocAttr]
  refine hK _ ?_
  clear hK K
  try refine vthen_n ?_
  exact VW.ret ⟨.inl rfl, _, rfl, by rw [← hr]⟩
end Go.Proofs.YtmechjnfeidnkaaGreat.V.W
end
section
/- Marks set and held on rows. No condition. Printed by vtg3.py (a program of this session's). -/
set_option linter.unusedVariables false
set_option linter.unnecessarySimpa false
set_option linter.unusedSimpArgs false
namespace Go.Proofs.YtmechjnfeidnkaaGreat.V.W
open Go Go.RowKit
/-- marks from k on -/
def mkR {α : Type} (g : Int → α) (c : Nat) (k : Int) (n : Nat) : List α := (List.range n).map fun i : Nat => g (k + (c * i : Nat))
theorem mkR_len {α : Type} (g : Int → α) (c : Nat) (k : Int) (n : Nat) : (mkR g c k n).length = n := by simp [mkR]
theorem mkR_get {α : Type} (g : Int → α) (c : Nat) (k : Int) {n i : Nat} (h : i < n) (d : α) : (mkR g c k n).getD i d = g (k + (c * i : Nat)) := by
  simp [mkR, List.getD_eq_getElem?_getD, h]
/-- the first i marked -/
def mkTo {α : Type} (g : Int → α) (c : Nat) (k : Int) (xs : List α) (i : Nat) : List α := mkR g c k i ++ xs.drop i
theorem mkTo_len {α : Type} (g : Int → α) (c : Nat) (k : Int) {xs : List α} {i : Nat} (h : i ≤ xs.length) : (mkTo g c k xs i).length = xs.length := by
  simp only [mkTo, List.length_append, mkR_len, List.length_drop]; omega
theorem mkTo_set {α : Type} (g : Int → α) (c : Nat) (k : Int) {xs : List α} {i : Nat} (h : i < xs.length) : (mkTo g c k xs i).set i (g (k + (c * i : Nat))) = mkTo g c k xs (i + 1) := by
  unfold mkTo
  rw [List.set_append_right _ _ (by rw [mkR_len]; omega), mkR_len, Nat.sub_self, List.drop_eq_getElem_cons h, List.set_cons_zero]
  simp [mkR, List.range_succ]
theorem mkTo_all {α : Type} (g : Int → α) (c : Nat) (k : Int) {xs : List α} : mkTo g c k xs xs.length = mkR g c k xs.length := by simp [mkTo]
theorem mkTo_zero {α : Type} (g : Int → α) (c : Nat) (k : Int) {xs : List α} : mkTo g c k xs 0 = xs := by simp [mkTo, mkR]
def gNodeS (k : Int) : Int × Int × Int := (k, k + 1, k + 2)
set_option maxRecDepth 40000 in
theorem markNodeS1 (xs : List (Int × Int × Int)) (k : Int) (h0 : 0 < xs.length) (hl : xs.length ≤ 2000000) (hk0 : 0 ≤ k) (hk1 : k ≤ 100000000) : VX Tryz.prog 87 [.root (.val false) (.sl 102 sN) .own xs, .v false (.int .i64) (k)] 0 (fun pv ot => pv = .v false (.int .i64) (k + ((3 * xs.length : Nat) : Int)) ∧ ot = .root (.val false) (.sl 102 sN) .own (mkR gNodeS 3 k xs.length)) := by
  refine VX.of_rows hT Tryz.func87 rfl (by kernel_rfl) [(.tmp 4, false, .int .i64)] (by kernel_rfl) rfl rfl h0 fun l fi li e1 e2 => ?_
  obtain ⟨n, cp, rfl, rfl⟩ := io1 e1 e2
  show VW _ _ ([.root (.val false) (.sl 102 sN) (.io n cp) xs, .v false (.int .i64) (k : Int), D, D, D, D, D, D, D, D, D, D, D, D, D, D, D, D, D, D, D, D, D, D, D, D, D, D, D, D, D, D, D, D]) _
  repeat refine VW.seq ?_
  refine VW.regl hT fun K hK => ?_
  simp only [wq, Nat.reduceMul, reduceCtorEq, Nat.reduceBEq, Nat.reduceAdd, Nat.reduceLT, Nat.reduceLeDiff, Nat.reduceSub, Nat.reduceEqDiff]
  refine hK _ ?_
  clear hK K
  try refine vthen_n ?_
  repeat refine VW.seq ?_
  refine VW.regl hT fun K hK => ?_
  simp only [wq, Nat.reduceMul, reduceCtorEq, Nat.reduceBEq, Nat.reduceAdd, Nat.reduceLT, Nat.reduceLeDiff, Nat.reduceSub, Nat.reduceEqDiff]
  refine hK _ ?_
  clear hK K
  try refine vthen_n ?_
  repeat refine VW.seq ?_
  refine VW.block ?_
  refine VW.loop (α := Nat) [(0, none), (1, none), (5, none)] (fun i => [.root (.val false) (.sl 102 sN) (.io n cp) (mkTo gNodeS 3 k xs i), .v false (.int .i64) (k + ((3 * i : Nat) : Int) : Int), D, D, D, .v false (.int .i64) (i : Int), D, D, D, D, D, D, D, D, D, D, D, D, D, D, D, D, D, D, D, D, D, D, D, D, D, D, D, D]) (fun i => i ≤ xs.length) (fun i => xs.length - i) ⟨0, by omega, ?_⟩ fun i hi => ?_
  · simp only [wn, wq, Nat.reduceMul, reduceCtorEq, Nat.reduceBEq, Nat.reduceAdd, Nat.reduceLT, Nat.reduceLeDiff, Nat.reduceSub, Nat.reduceEqDiff]
    rw [mkTo_zero, show k + ((0 : Nat) : Int) = k from Int.add_zero k]
    rfl
  have hml := mkTo_len gNodeS 3 k hi
  repeat refine VW.seq ?_
  refine VW.regl hT fun K hK => ?_
  simp only [wq, Nat.reduceMul, reduceCtorEq, Nat.reduceBEq, Nat.reduceAdd, Nat.reduceLT, Nat.reduceLeDiff, Nat.reduceSub, Nat.reduceEqDiff]
  refine hK _ ?_
  clear hK K
  try refine vthen_n ?_
  repeat refine VW.seq ?_
  refine VW.cond rfl (fun hc => ?_) (fun hc => ?_)
  · have hlt : i < xs.length := by
      have : (i : Int) < ((mkTo gNodeS 3 k xs i).length : Int) := by simpa using hc
      omega
    have hset := mkTo_set gNodeS 3 k hlt
    have hsc : 3 * (i + 1) = 3 * i + 3 := by omega
    have hcb : 3 * i ≤ 6000000 := by omega
    refine VW.skip (vthen_n ?_)
    repeat refine VW.seq ?_
    refine VW.block ?_
    have hgs : ∀ q : Int × Int × Int, ((mkTo gNodeS 3 k xs i).set i q).getD i (0, 0, 0) = q := fun q => by
      rw [List.getD_eq_getElem?_getD, List.getElem?_set_self (by omega)]; rfl
    generalize hX : mkTo gNodeS 3 k xs i = X at *
    generalize hN : 3 * i = N at *
    repeat refine VW.seq ?_
    refine VW.regl hT fun K hK => ?_
    simp only [wq, Nat.reduceMul, reduceCtorEq, Nat.reduceBEq, Nat.reduceAdd, Nat.reduceLT, Nat.reduceLeDiff, Nat.reduceSub, Nat.reduceEqDiff]
    refine ⟨decide_eq_true ⟨Int.natCast_nonneg _, by show (i : Int) < (X.length : Int); omega⟩, ?_⟩
    refine hK _ ?_
    clear hK K
    try refine vthen_n ?_
    repeat refine VW.seq ?_
    refine VW.regl hT fun K hK => ?_
    simp only [wq, Nat.reduceMul, reduceCtorEq, Nat.reduceBEq, Nat.reduceAdd, Nat.reduceLT, Nat.reduceLeDiff, Nat.reduceSub, Nat.reduceEqDiff]
    refine hK _ ?_
    clear hK K
    try refine vthen_n ?_
    rw [wrap64 (by omega) (by omega)]
    repeat refine VW.seq ?_
    refine VW.regl hT fun K hK => ?_
    simp only [wq, Nat.reduceMul, reduceCtorEq, Nat.reduceBEq, Nat.reduceAdd, Nat.reduceLT, Nat.reduceLeDiff, Nat.reduceSub, Nat.reduceEqDiff]
    refine ⟨decide_eq_true ⟨Int.natCast_nonneg _, by show (i : Int) < ((List.set _ _ _).length : Int); rw [List.length_set]; omega⟩, ?_⟩
    refine hK _ ?_
    clear hK K
    try refine vthen_n ?_
    simp only [List.set_set, hgs]
    repeat refine VW.seq ?_
    refine VW.regl hT fun K hK => ?_
    simp only [wq, Nat.reduceMul, reduceCtorEq, Nat.reduceBEq, Nat.reduceAdd, Nat.reduceLT, Nat.reduceLeDiff, Nat.reduceSub, Nat.reduceEqDiff]
    refine hK _ ?_
    clear hK K
    try refine vthen_n ?_
    rw [wrap64 (by omega) (by omega)]
    repeat refine VW.seq ?_
    refine VW.regl hT fun K hK => ?_
    simp only [wq, Nat.reduceMul, reduceCtorEq, Nat.reduceBEq, Nat.reduceAdd, Nat.reduceLT, Nat.reduceLeDiff, Nat.reduceSub, Nat.reduceEqDiff]
    refine ⟨decide_eq_true ⟨Int.natCast_nonneg _, by show (i : Int) < ((List.set _ _ _).length : Int); rw [List.length_set]; omega⟩, ?_⟩
    refine hK _ ?_
    clear hK K
    try refine vthen_n ?_
    simp only [List.set_set, hgs]
    repeat refine VW.seq ?_
    refine VW.regl hT fun K hK => ?_
    simp only [wq, Nat.reduceMul, reduceCtorEq, Nat.reduceBEq, Nat.reduceAdd, Nat.reduceLT, Nat.reduceLeDiff, Nat.reduceSub, Nat.reduceEqDiff]
    refine hK _ ?_
    clear hK K
    try refine vthen_n ?_
    rw [wrap64 (by omega) (by omega)]
    show vthen _ _ _ .normal _
    refine vthen_n ?_
    repeat refine VW.seq ?_
    refine VW.regl hT fun K hK => ?_
    simp only [wq, Nat.reduceMul, reduceCtorEq, Nat.reduceBEq, Nat.reduceAdd, Nat.reduceLT, Nat.reduceLeDiff, Nat.reduceSub, Nat.reduceEqDiff]
    refine hK _ ?_
    clear hK K
    try refine vthen_n ?_
    have hel : ((k + (N : Int), k + (N : Int) + 1, k + (N : Int) + 1 + 1) : Int × Int × Int) = gNodeS (k + (N : Int)) := by
      simp only [gNodeS, show k + (N : Int) + 1 + 1 = k + (N : Int) + 2 by omega]
    refine ⟨i + 1, hlt, ?_, by show xs.length - (i + 1) < xs.length - i; omega⟩
    simp only [wn, wq, Nat.reduceMul, reduceCtorEq, Nat.reduceBEq, Nat.reduceAdd, Nat.reduceLT, Nat.reduceLeDiff, Nat.reduceSub, Nat.reduceEqDiff]
    rw [wrap64 (by omega) (by omega), ← hset, ← hel, hsc, show k + (N : Int) + 1 + 1 + 1 = k + ((N + 3 : Nat) : Int) by omega]
    rfl
  · have hge : i = xs.length := by
      have : ((mkTo gNodeS 3 k xs i).length : Int) ≤ (i : Int) := by simpa using hc
      omega
    subst hge
    refine VW.exit ?_
    show vthen _ _ _ .normal _
    refine vthen_n ?_
    repeat refine VW.seq ?_
    refine VW.regl hT fun K hK => ?_
    simp only [wq, Nat.reduceMul, reduceCtorEq, Nat.reduceBEq, Nat.reduceAdd, Nat.reduceLT, Nat.reduceLeDiff, Nat.reduceSub, Nat.reduceEqDiff]
    refine hK _ ?_
    clear hK K
    try refine vthen_n ?_
    refine VW.ret ⟨.inl rfl, _, _, _, _, rfl, ⟨0, _, rfl⟩, ?_, rfl, ?_⟩
    · show some [Value.slice (some ⟨n, 0, none⟩) (mkTo gNodeS 3 k xs xs.length).length cp] = some [Value.slice (some ⟨n, 0, none⟩) xs.length cp]
      rw [hml]
    · show PV.root (.val false) (.sl 102 sN) .own (mkTo gNodeS 3 k xs xs.length) = _
      rw [mkTo_all]
theorem markNodeS0 (k : Int) : VC Tryz.prog 87 [.v false (.sl 102 sN) [], .v false (.int .i64) (k)] (· = .v false (.int .i64) (k)) := by
  refine VC.of_body hT Tryz.func87 rfl (by kernel_rfl) [(.tmp 4, false, .int .i64)] (by kernel_rfl) ?_
  show VW _ _ ([.v false (.sl 102 sN) [], .v false (.int .i64) (k : Int), D, D, D, D, D, D, D, D, D, D, D, D, D, D, D, D, D, D, D, D, D, D, D, D, D, D, D, D, D, D, D, D]) _
  repeat refine VW.seq ?_
  refine VW.regl hT fun K hK => ?_
  simp only [wq, simprocAttr]
  refine hK _ ?_
  clear hK K
  try refine vthen_n ?_
  repeat refine VW.seq ?_
  refine VW.regl hT fun K hK => ?_
  simp only [wq, simprocAttr]
  refine hK _ ?_
  clear hK K
  try refine vthen_n ?_
  repeat refine VW.seq ?_
  refine VW.block ?_
  refine VW.loop (α := Unit) [(0, none), (1, none), (5, none)] (fun _ => [.v false (.sl 102 sN) [], .v false (.int .i64) (k : Int), D, D, D, .v false (.int .i64) (0 : Int), D, D, D, D, D, D, D, D, D, D, D, D, D, D, D, D, D, D, D, D, D, D, D, D, D, D, D, D]) (fun _ => True) (fun _ => 0) ⟨(), trivial, ?_⟩ fun _ _ => ?_
  · simp only [wn, wq, simprocAttr]
  repeat refine VW.seq ?_
  refine VW.regl hT fun K hK => ?_
  simp only [wq, simprocAttr]
  refine hK _ ?_
  clear hK K
  try refine vthen_n ?_
  repeat refine VW.seq ?_
  refine VW.cond rfl (fun hc => ?_) (fun hc => ?_)
  · cases hc
  · refine VW.exit ?_
    show vthen _ _ _ .normal _
    refine vthen_n ?_
    repeat refine VW.seq ?_
    refine VW.regl hT fun K hK => ?_
    simp only [wq, simprocAttr]
    refine hK _ ?_
    clear hK K
    try refine vthen_n ?_
    exact VW.ret ⟨.inl rfl, _, rfl, rfl⟩
theorem markNodeS_vx (xs : List (Int × Int × Int)) (k : Int) (hl : xs.length ≤ 2000000) (hk0 : 0 ≤ k) (hk1 : k ≤ 100000000) : VX Tryz.prog 87 [.root (.val false) (.sl 102 sN) .own xs, .v false (.int .i64) (k)] 0 (fun pv ot => pv = .v false (.int .i64) (k + ((3 * xs.length : Nat) : Int)) ∧ ot = .root (.val false) (.sl 102 sN) .own (mkR gNodeS 3 k xs.length)) := by
  rcases Nat.eq_zero_or_pos xs.length with h | h
  · have h := List.eq_nil_of_length_eq_zero h
    subst h
    refine (VX.of_nil (args := [.root (.val false) (.sl 102 sN) .own [], .v false (.int .i64) (k)]) (i := 0) (markNodeS0 k) rfl).mono fun pv ot h => ⟨?_, h.2⟩
    rw [h.1]
    simp
  · exact markNodeS1 xs k h hl hk0 hk1
set_option maxRecDepth 40000 in
theorem heldNodeS_vc (n : Nat) (k : Int) (hl : n ≤ 2000000) (hk0 : 0 ≤ k) (hk1 : k ≤ 100000000) : VC Tryz.prog 93 [.v false (.sl 102 sN) (mkR gNodeS 3 k n), .v false (.int .i64) (k)] (· = .v false (.int .i64) (k + ((3 * n : Nat) : Int))) := by
  refine VC.of_body hT Tryz.func93 rfl (by kernel_rfl) [(.tmp 4, false, .int .i64)] (by kernel_rfl) ?_
  show VW _ _ ([.v false (.sl 102 sN) (mkR gNodeS 3 k n), .v false (.int .i64) (k : Int), D, D, D, D, D, D, D, D, D, D, D, D, D, D, D, D, D, D, D, D, D, D, D, D, D, D, D, D, D, D, D, D, D, D, D, D, D, D]) _
  repeat refine VW.seq ?_
  refine VW.regl hT fun K hK => ?_
  simp only [wq, Nat.reduceMul, reduceCtorEq, Nat.reduceBEq, Nat.reduceAdd, Nat.reduceLT, Nat.reduceLeDiff, Nat.reduceSub, Nat.reduceEqDiff]
  refine hK _ ?_
  clear hK K
  try refine vthen_n ?_
  repeat refine VW.seq ?_
  refine VW.regl hT fun K hK => ?_
  simp only [wq, Nat.reduceMul, reduceCtorEq, Nat.reduceBEq, Nat.reduceAdd, Nat.reduceLT, Nat.reduceLeDiff, Nat.reduceSub, Nat.reduceEqDiff]
  refine hK _ ?_
  clear hK K
  try refine vthen_n ?_
  repeat refine VW.seq ?_
  refine VW.block ?_
  refine VW.loop (α := Nat) [(0, none), (1, none), (5, none)] (fun i => [.v false (.sl 102 sN) (mkR gNodeS 3 k n), .v false (.int .i64) (k + ((3 * i : Nat) : Int) : Int), D, D, D, .v false (.int .i64) (i : Int), D, D, D, D, D, D, D, D, D, D, D, D, D, D, D, D, D, D, D, D, D, D, D, D, D, D, D, D, D, D, D, D, D, D]) (fun i => i ≤ n) (fun i => n - i) ⟨0, by omega, ?_⟩ fun i hi => ?_
  · simp only [wn, wq, Nat.reduceMul, reduceCtorEq, Nat.reduceBEq, Nat.reduceAdd, Nat.reduceLT, Nat.reduceLeDiff, Nat.reduceSub, Nat.reduceEqDiff]
    rw [show k + ((0 : Nat) : Int) = k from Int.add_zero k]
    rfl
  have hml := mkR_len gNodeS 3 k n
  repeat refine VW.seq ?_
  refine VW.regl hT fun K hK => ?_
  simp only [wq, Nat.reduceMul, reduceCtorEq, Nat.reduceBEq, Nat.reduceAdd, Nat.reduceLT, Nat.reduceLeDiff, Nat.reduceSub, Nat.reduceEqDiff]
  refine hK _ ?_
  clear hK K
  try refine vthen_n ?_
  repeat refine VW.seq ?_
  refine VW.cond rfl (fun hc => ?_) (fun hc => ?_)
  · have hlt : i < n := by
      have : (i : Int) < ((mkR gNodeS 3 k n).length : Int) := by simpa using hc
      omega
    have hg : (mkR gNodeS 3 k n).getD i (0, 0, 0) = gNodeS (k + ((3 * i : Nat) : Int)) := mkR_get _ _ _ hlt _
    have hidx : decide (0 ≤ (i : Int) ∧ (i : Int) < ((mkR gNodeS 3 k n).length : Int)) = true := decide_eq_true ⟨by omega, by omega⟩
    have hsc : 3 * (i + 1) = 3 * i + 3 := by omega
    have hcb : 3 * i ≤ 6000000 := by omega
    refine VW.skip (vthen_n ?_)
    repeat refine VW.seq ?_
    refine VW.block ?_
    generalize hN : 3 * i = N at *
    repeat refine VW.seq ?_
    refine VW.regl hT fun K hK => ?_
    simp only [wq, Nat.reduceMul, reduceCtorEq, Nat.reduceBEq, Nat.reduceAdd, Nat.reduceLT, Nat.reduceLeDiff, Nat.reduceSub, Nat.reduceEqDiff]
    refine ⟨hidx, ?_⟩
    rw [hg]
    refine hK _ ?_
    clear hK K
    try refine vthen_n ?_
    repeat refine VW.seq ?_
    refine VW.cond rfl (fun hc => ?_) (fun hc => ?_)
    · have : (gNodeS (k + (N : Int))).1 ≠ k + (N : Int) := by simpa using hc
      exact absurd (by simp only [gNodeS]) this
    refine VW.skip ?_
    show vthen _ _ _ .normal _
    refine vthen_n ?_
    repeat refine VW.seq ?_
    refine VW.regl hT fun K hK => ?_
    simp only [wq, Nat.reduceMul, reduceCtorEq, Nat.reduceBEq, Nat.reduceAdd, Nat.reduceLT, Nat.reduceLeDiff, Nat.reduceSub, Nat.reduceEqDiff]
    refine hK _ ?_
    clear hK K
    try refine vthen_n ?_
    rw [wrap64 (by omega) (by omega)]
    repeat refine VW.seq ?_
    refine VW.regl hT fun K hK => ?_
    simp only [wq, Nat.reduceMul, reduceCtorEq, Nat.reduceBEq, Nat.reduceAdd, Nat.reduceLT, Nat.reduceLeDiff, Nat.reduceSub, Nat.reduceEqDiff]
    refine ⟨hidx, ?_⟩
    rw [hg]
    refine hK _ ?_
    clear hK K
    try refine vthen_n ?_
    repeat refine VW.seq ?_
    refine VW.cond rfl (fun hc => ?_) (fun hc => ?_)
    · have : (gNodeS (k + (N : Int))).2.1 ≠ k + (N : Int) + 1 := by simpa using hc
      exact absurd (by simp only [gNodeS]) this
    refine VW.skip ?_
    show vthen _ _ _ .normal _
    refine vthen_n ?_
    repeat refine VW.seq ?_
    refine VW.regl hT fun K hK => ?_
    simp only [wq, Nat.reduceMul, reduceCtorEq, Nat.reduceBEq, Nat.reduceAdd, Nat.reduceLT, Nat.reduceLeDiff, Nat.reduceSub, Nat.reduceEqDiff]
    refine hK _ ?_
    clear hK K
    try refine vthen_n ?_
    rw [wrap64 (by omega) (by omega)]
    repeat refine VW.seq ?_
    refine VW.regl hT fun K hK => ?_
    simp only [wq, Nat.reduceMul, reduceCtorEq, Nat.reduceBEq, Nat.reduceAdd, Nat.reduceLT, Nat.reduceLeDiff, Nat.reduceSub, Nat.reduceEqDiff]
    refine ⟨hidx, ?_⟩
    rw [hg]
    refine hK _ ?_
    clear hK K
    try refine vthen_n ?_
    repeat refine VW.seq ?_
    refine VW.cond rfl (fun hc => ?_) (fun hc => ?_)
    · have : (gNodeS (k + (N : Int))).2.2 ≠ k + (N : Int) + 1 + 1 := by simpa using hc
      exact absurd (by simp only [gNodeS]; omega) this
    refine VW.skip ?_
    show vthen _ _ _ .normal _
    refine vthen_n ?_
    repeat refine VW.seq ?_
    refine VW.regl hT fun K hK => ?_
    simp only [wq, Nat.reduceMul, reduceCtorEq, Nat.reduceBEq, Nat.reduceAdd, Nat.reduceLT, Nat.reduceLeDiff, Nat.reduceSub, Nat.reduceEqDiff]
    refine hK _ ?_
    clear hK K
    try refine vthen_n ?_
    rw [wrap64 (by omega) (by omega)]
    show vthen _ _ _ .normal _
    refine vthen_n ?_
    repeat refine VW.seq ?_
    refine VW.regl hT fun K hK => ?_
    simp only [wq, Nat.reduceMul, reduceCtorEq, Nat.reduceBEq, Nat.reduceAdd, Nat.reduceLT, Nat.reduceLeDiff, Nat.reduceSub, Nat.reduceEqDiff]
    refine hK _ ?_
    clear hK K
    try refine vthen_n ?_
    refine ⟨i + 1, hlt, ?_, by show n - (i + 1) < n - i; omega⟩
    simp only [wn, wq, Nat.reduceMul, reduceCtorEq, Nat.reduceBEq, Nat.reduceAdd, Nat.reduceLT, Nat.reduceLeDiff, Nat.reduceSub, Nat.reduceEqDiff]
    rw [wrap64 (by omega) (by omega), hsc, show k + (N : Int) + 1 + 1 + 1 = k + ((N + 3 : Nat) : Int) by omega]
    rfl
  · have hge : i = n := by
      have : ((mkR gNodeS 3 k n).length : Int) ≤ (i : Int) := by simpa using hc
      omega
    subst hge
    refine VW.exit ?_
    show vthen _ _ _ .normal _
    refine vthen_n ?_
    repeat refine VW.seq ?_
    refine VW.regl hT fun K hK => ?_
    simp only [wq, Nat.reduceMul, reduceCtorEq, Nat.reduceBEq, Nat.reduceAdd, Nat.reduceLT, Nat.reduceLeDiff, Nat.reduceSub, Nat.reduceEqDiff]
    refine hK _ ?_
    clear hK K
    try refine vthen_n ?_
    exact VW.ret ⟨.inl rfl, _, rfl, rfl⟩
def gIntS (k : Int) : Int := k
set_option maxRecDepth 40000 in
theorem markIntS1 (xs : List (Int)) (k : Int) (h0 : 0 < xs.length) (hl : xs.length ≤ 2000000) (hk0 : 0 ≤ k) (hk1 : k ≤ 100000000) : VX Tryz.prog 35 [.root (.val false) (.sl 3 (.int .i64)) .own xs, .v false (.int .i64) (k)] 0 (fun pv ot => pv = .v false (.int .i64) (k + ((1 * xs.length : Nat) : Int)) ∧ ot = .root (.val false) (.sl 3 (.int .i64)) .own (mkR gIntS 1 k xs.length)) := by
  refine VX.of_rows hT Tryz.func35 rfl (by kernel_rfl) [(.tmp 4, false, .int .i64)] (by kernel_rfl) rfl rfl h0 fun l fi li e1 e2 => ?_
  obtain ⟨n, cp, rfl, rfl⟩ := io1 e1 e2
  show VW _ _ ([.root (.val false) (.sl 3 (.int .i64)) (.io n cp) xs, .v false (.int .i64) (k : Int), D, D, D, D, D, D, D, D, D, D, D, D, D, D, D, D, D]) _
  repeat refine VW.seq ?_
  refine VW.regl hT fun K hK => ?_
  simp only [wq, Nat.reduceMul, reduceCtorEq, Nat.reduceBEq, Nat.reduceAdd, Nat.reduceLT, Nat.reduceLeDiff, Nat.reduceSub, Nat.reduceEqDiff]
  refine hK _ ?_
  clear hK K
  try refine vthen_n ?_
  repeat refine VW.seq ?_
  refine VW.regl hT fun K hK => ?_
  simp only [wq, Nat.reduceMul, reduceCtorEq, Nat.reduceBEq, Nat.reduceAdd, Nat.reduceLT, Nat.reduceLeDiff, Nat.reduceSub, Nat.reduceEqDiff]
  refine hK _ ?_
  clear hK K
  try refine vthen_n ?_
  repeat refine VW.seq ?_
  refine VW.block ?_
  refine VW.loop (α := Nat) [(0, none), (1, none), (5, none)] (fun i => [.root (.val false) (.sl 3 (.int .i64)) (.io n cp) (mkTo gIntS 1 k xs i), .v false (.int .i64) (k + ((1 * i : Nat) : Int) : Int), D, D, D, .v false (.int .i64) (i : Int), D, D, D, D, D, D, D, D, D, D, D, D, D]) (fun i => i ≤ xs.length) (fun i => xs.length - i) ⟨0, by omega, ?_⟩ fun i hi => ?_
  · simp only [wn, wq, Nat.reduceMul, reduceCtorEq, Nat.reduceBEq, Nat.reduceAdd, Nat.reduceLT, Nat.reduceLeDiff, Nat.reduceSub, Nat.reduceEqDiff]
    rw [mkTo_zero, show k + ((0 : Nat) : Int) = k from Int.add_zero k]
    rfl
  have hml := mkTo_len gIntS 1 k hi
  repeat refine VW.seq ?_
  refine VW.regl hT fun K hK => ?_
  simp only [wq, Nat.reduceMul, reduceCtorEq, Nat.reduceBEq, Nat.reduceAdd, Nat.reduceLT, Nat.reduceLeDiff, Nat.reduceSub, Nat.reduceEqDiff]
  refine hK _ ?_
  clear hK K
  try refine vthen_n ?_
  repeat refine VW.seq ?_
  refine VW.cond rfl (fun hc => ?_) (fun hc => ?_)
  · have hlt : i < xs.length := by
      have : (i : Int) < ((mkTo gIntS 1 k xs i).length : Int) := by simpa using hc
      omega
    have hset := mkTo_set gIntS 1 k hlt
    have hsc : 1 * (i + 1) = 1 * i + 1 := by omega
    have hcb : 1 * i ≤ 6000000 := by omega
    refine VW.skip (vthen_n ?_)
    repeat refine VW.seq ?_
    refine VW.block ?_
    have hgs : ∀ q : Int, ((mkTo gIntS 1 k xs i).set i q).getD i 0 = q := fun q => by
      rw [List.getD_eq_getElem?_getD, List.getElem?_set_self (by omega)]; rfl
    generalize hX : mkTo gIntS 1 k xs i = X at *
    generalize hN : 1 * i = N at *
    repeat refine VW.seq ?_
    refine VW.regl hT fun K hK => ?_
    simp only [wq, Nat.reduceMul, reduceCtorEq, Nat.reduceBEq, Nat.reduceAdd, Nat.reduceLT, Nat.reduceLeDiff, Nat.reduceSub, Nat.reduceEqDiff]
    refine ⟨decide_eq_true ⟨Int.natCast_nonneg _, by show (i : Int) < (X.length : Int); omega⟩, ?_⟩
    refine hK _ ?_
    clear hK K
    try refine vthen_n ?_
    repeat refine VW.seq ?_
    refine VW.regl hT fun K hK => ?_
    simp only [wq, Nat.reduceMul, reduceCtorEq, Nat.reduceBEq, Nat.reduceAdd, Nat.reduceLT, Nat.reduceLeDiff, Nat.reduceSub, Nat.reduceEqDiff]
    refine hK _ ?_
    clear hK K
    try refine vthen_n ?_
    rw [wrap64 (by omega) (by omega)]
    show vthen _ _ _ .normal _
    refine vthen_n ?_
    repeat refine VW.seq ?_
    refine VW.regl hT fun K hK => ?_
    simp only [wq, Nat.reduceMul, reduceCtorEq, Nat.reduceBEq, Nat.reduceAdd, Nat.reduceLT, Nat.reduceLeDiff, Nat.reduceSub, Nat.reduceEqDiff]
    refine hK _ ?_
    clear hK K
    try refine vthen_n ?_
    have hel : k + (N : Int) = gIntS (k + (N : Int)) := by
      simp only [gIntS]
    refine ⟨i + 1, hlt, ?_, by show xs.length - (i + 1) < xs.length - i; omega⟩
    simp only [wn, wq, Nat.reduceMul, reduceCtorEq, Nat.reduceBEq, Nat.reduceAdd, Nat.reduceLT, Nat.reduceLeDiff, Nat.reduceSub, Nat.reduceEqDiff]
    rw [wrap64 (by omega) (by omega), ← hset, ← hel, hsc, show k + (N : Int) + 1 = k + ((N + 1 : Nat) : Int) by omega]
    rfl
  · have hge : i = xs.length := by
      have : ((mkTo gIntS 1 k xs i).length : Int) ≤ (i : Int) := by simpa using hc
      omega
    subst hge
    refine VW.exit ?_
    show vthen _ _ _ .normal _
    refine vthen_n ?_
    repeat refine VW.seq ?_
    refine VW.regl hT fun K hK => ?_
    simp only [wq, Nat.reduceMul, reduceCtorEq, Nat.reduceBEq, Nat.reduceAdd, Nat.reduceLT, Nat.reduceLeDiff, Nat.reduceSub, Nat.reduceEqDiff]
    refine hK _ ?_
    clear hK K
    try refine vthen_n ?_
    refine VW.ret ⟨.inl rfl, _, _, _, _, rfl, ⟨0, _, rfl⟩, ?_, rfl, ?_⟩
    · show some [Value.slice (some ⟨n, 0, none⟩) (mkTo gIntS 1 k xs xs.length).length cp] = some [Value.slice (some ⟨n, 0, none⟩) xs.length cp]
      rw [hml]
    · show PV.root (.val false) (.sl 3 (.int .i64)) .own (mkTo gIntS 1 k xs xs.length) = _
      rw [mkTo_all]
theorem markIntS0 (k : Int) : VC Tryz.prog 35 [.v false (.sl 3 (.int .i64)) [], .v false (.int .i64) (k)] (· = .v false (.int .i64) (k)) := by
  refine VC.of_body hT Tryz.func35 rfl (by kernel_rfl) [(.tmp 4, false, .int .i64)] (by kernel_rfl) ?_
  show VW _ _ ([.v false (.sl 3 (.int .i64)) [], .v false (.int .i64) (k : Int), D, D, D, D, D, D, D, D, D, D, D, D, D, D, D, D, D]) _
  repeat refine VW.seq ?_
  refine VW.regl hT fun K hK => ?_
  simp only [wq, simprocAttr]
  refine hK _ ?_
  clear hK K
  try refine vthen_n ?_
  repeat refine VW.seq ?_
  refine VW.regl hT fun K hK => ?_
  simp only [wq, simprocAttr]
  refine hK _ ?_
  clear hK K
  try refine vthen_n ?_
  repeat refine VW.seq ?_
  refine VW.block ?_
  refine VW.loop (α := Unit) [(0, none), (1, none), (5, none)] (fun _ => [.v false (.sl 3 (.int .i64)) [], .v false (.int .i64) (k : Int), D, D, D, .v false (.int .i64) (0 : Int), D, D, D, D, D, D, D, D, D, D, D, D, D]) (fun _ => True) (fun _ => 0) ⟨(), trivial, ?_⟩ fun _ _ => ?_
  · simp only [wn, wq, simprocAttr]
  repeat refine VW.seq ?_
  refine VW.regl hT fun K hK => ?_
  simp only [wq, simprocAttr]
  refine hK _ ?_
  clear hK K
  try refine vthen_n ?_
  repeat refine VW.seq ?_
  refine VW.cond rfl (fun hc => ?_) (fun hc => ?_)
  · cases hc
  · refine VW.exit ?_
    show vthen _ _ _ .normal _
    refine vthen_n ?_
    repeat refine VW.seq ?_
    refine VW.regl hT fun K hK => ?_
    simp only [wq, simprocAttr]
    refine hK _ ?_
    clear hK K
    try refine vthen_n ?_
    exact VW.ret ⟨.inl rfl, _, rfl, rfl⟩
theorem markIntS_vx (xs : List (Int)) (k : Int) (hl : xs.length ≤ 2000000) (hk0 : 0 ≤ k) (hk1 : k ≤ 100000000) : VX Tryz.prog 35 [.root (.val false) (.sl 3 (.int .i64)) .own xs, .v false (.int .i64) (k)] 0 (fun pv ot => pv = .v false (.int .i64) (k + ((1 * xs.length : Nat) : Int)) ∧ ot = .root (.val false) (.sl 3 (.int .i64)) .own (mkR gIntS 1 k xs.length)) := by
  rcases Nat.eq_zero_or_pos xs.length with h | h
  · have h := List.eq_nil_of_length_eq_zero h
    subst h
    refine (VX.of_nil (args := [.root (.val false) (.sl 3 (.int .i64)) .own [], .v false (.int .i64) (k)]) (i := 0) (markIntS0 k) rfl).mono fun pv ot h => ⟨?_, h.2⟩
    rw [h.1]
    simp
  · exact markIntS1 xs k h hl hk0 hk1
set_option maxRecDepth 40000 in
theorem heldIntS_vc (n : Nat) (k : Int) (hl : n ≤ 2000000) (hk0 : 0 ≤ k) (hk1 : k ≤ 100000000) : VC Tryz.prog 36 [.v false (.sl 3 (.int .i64)) (mkR gIntS 1 k n), .v false (.int .i64) (k)] (· = .v false (.int .i64) (k + ((1 * n : Nat) : Int))) := by
  refine VC.of_body hT Tryz.func36 rfl (by kernel_rfl) [(.tmp 4, false, .int .i64)] (by kernel_rfl) ?_
  show VW _ _ ([.v false (.sl 3 (.int .i64)) (mkR gIntS 1 k n), .v false (.int .i64) (k : Int), D, D, D, D, D, D, D, D, D, D, D, D, D, D, D, D, D, D, D]) _
  repeat refine VW.seq ?_
  refine VW.regl hT fun K hK => ?_
  simp only [wq, Nat.reduceMul, reduceCtorEq, Nat.reduceBEq, Nat.reduceAdd, Nat.reduceLT, Nat.reduceLeDiff, Nat.reduceSub, Nat.reduceEqDiff]
  refine hK _ ?_
  clear hK K
  try refine vthen_n ?_
  repeat refine VW.seq ?_
  refine VW.regl hT fun K hK => ?_
  simp only [wq, Nat.reduceMul, reduceCtorEq, Nat.reduceBEq, Nat.reduceAdd, Nat.reduceLT, Nat.reduceLeDiff, Nat.reduceSub, Nat.reduceEqDiff]
  refine hK _ ?_
  clear hK K
  try refine vthen_n ?_
  repeat refine VW.seq ?_
  refine VW.block ?_
  refine VW.loop (α := Nat) [(0, none), (1, none), (5, none)] (fun i => [.v false (.sl 3 (.int .i64)) (mkR gIntS 1 k n), .v false (.int .i64) (k + ((1 * i : Nat) : Int) : Int), D, D, D, .v false (.int .i64) (i : Int), D, D, D, D, D, D, D, D, D, D, D, D, D, D, D]) (fun i => i ≤ n) (fun i => n - i) ⟨0, by omega, ?_⟩ fun i hi => ?_
  · simp only [wn, wq, Nat.reduceMul, reduceCtorEq, Nat.reduceBEq, Nat.reduceAdd, Nat.reduceLT, Nat.reduceLeDiff, Nat.reduceSub, Nat.reduceEqDiff]
    rw [show k + ((0 : Nat) : Int) = k from Int.add_zero k]
    rfl
  have hml := mkR_len gIntS 1 k n
  repeat refine VW.seq ?_
  refine VW.regl hT fun K hK => ?_
  simp only [wq, Nat.reduceMul, reduceCtorEq, Nat.reduceBEq, Nat.reduceAdd, Nat.reduceLT, Nat.reduceLeDiff, Nat.reduceSub, Nat.reduceEqDiff]
  refine hK _ ?_
  clear hK K
  try refine vthen_n ?_
  repeat refine VW.seq ?_
  refine VW.cond rfl (fun hc => ?_) (fun hc => ?_)
  · have hlt : i < n := by
      have : (i : Int) < ((mkR gIntS 1 k n).length : Int) := by simpa using hc
      omega
    have hg : (mkR gIntS 1 k n).getD i 0 = gIntS (k + ((1 * i : Nat) : Int)) := mkR_get _ _ _ hlt _
    have hidx : decide (0 ≤ (i : Int) ∧ (i : Int) < ((mkR gIntS 1 k n).length : Int)) = true := decide_eq_true ⟨by omega, by omega⟩
    have hsc : 1 * (i + 1) = 1 * i + 1 := by omega
    have hcb : 1 * i ≤ 6000000 := by omega
    refine VW.skip (vthen_n ?_)
    repeat refine VW.seq ?_
    refine VW.block ?_
    generalize hN : 1 * i = N at *
    repeat refine VW.seq ?_
    refine VW.regl hT fun K hK => ?_
    simp only [wq, Nat.reduceMul, reduceCtorEq, Nat.reduceBEq, Nat.reduceAdd, Nat.reduceLT, Nat.reduceLeDiff, Nat.reduceSub, Nat.reduceEqDiff]
    refine ⟨hidx, ?_⟩
    rw [hg]
    refine hK _ ?_
    clear hK K
    try refine vthen_n ?_
    repeat refine VW.seq ?_
    refine VW.cond rfl (fun hc => ?_) (fun hc => ?_)
    · have : (gIntS (k + (N : Int))) ≠ k + (N : Int) := by simpa using hc
      exact absurd (by simp only [gIntS]) this
    refine VW.skip ?_
    show vthen _ _ _ .normal _
    refine vthen_n ?_
    repeat refine VW.seq ?_
    refine VW.regl hT fun K hK => ?_
    simp only [wq, Nat.reduceMul, reduceCtorEq, Nat.reduceBEq, Nat.reduceAdd, Nat.reduceLT, Nat.reduceLeDiff, Nat.reduceSub, Nat.reduceEqDiff]
    refine hK _ ?_
    clear hK K
    try refine vthen_n ?_
    rw [wrap64 (by omega) (by omega)]
    show vthen _ _ _ .normal _
    refine vthen_n ?_
    repeat refine VW.seq ?_
    refine VW.regl hT fun K hK => ?_
    simp only [wq, Nat.reduceMul, reduceCtorEq, Nat.reduceBEq, Nat.reduceAdd, Nat.reduceLT, Nat.reduceLeDiff, Nat.reduceSub, Nat.reduceEqDiff]
    refine hK _ ?_
    clear hK K
    try refine vthen_n ?_
    refine ⟨i + 1, hlt, ?_, by show n - (i + 1) < n - i; omega⟩
    simp only [wn, wq, Nat.reduceMul, reduceCtorEq, Nat.reduceBEq, Nat.reduceAdd, Nat.reduceLT, Nat.reduceLeDiff, Nat.reduceSub, Nat.reduceEqDiff]
    rw [wrap64 (by omega) (by omega), hsc, show k + (N : Int) + 1 = k + ((N + 1 : Nat) : Int) by omega]
    rfl
  · have hge : i = n := by
      have : ((mkR gIntS 1 k n).length : Int) ≤ (i : Int) := by simpa using hc
      omega
    subst hge
    refine VW.exit ?_
    show vthen _ _ _ .normal _
    refine vthen_n ?_
    repeat refine VW.seq ?_
    refine VW.regl hT fun K hK => ?_
    simp only [wq, Nat.reduceMul, reduceCtorEq, Nat.reduceBEq, Nat.reduceAdd, Nat.reduceLT, Nat.reduceLeDiff, Nat.reduceSub, Nat.reduceEqDiff]
    refine hK _ ?_
    clear hK K
    try refine vthen_n ?_
    exact VW.ret ⟨.inl rfl, _, rfl, rfl⟩
def gBarS (k : Int) : Int × Int := (k, k + 1)
set_option maxRecDepth 40000 in
theorem markBarS1 (xs : List (Int × Int)) (k : Int) (h0 : 0 < xs.length) (hl : xs.length ≤ 2000000) (hk0 : 0 ≤ k) (hk1 : k ≤ 100000000) : VX Tryz.prog 88 [.root (.val false) (.sl 51 sBr) .own xs, .v false (.int .i64) (k)] 0 (fun pv ot => pv = .v false (.int .i64) (k + ((2 * xs.length : Nat) : Int)) ∧ ot = .root (.val false) (.sl 51 sBr) .own (mkR gBarS 2 k xs.length)) := by
  refine VX.of_rows hT Tryz.func88 rfl (by kernel_rfl) [(.tmp 4, false, .int .i64)] (by kernel_rfl) rfl rfl h0 fun l fi li e1 e2 => ?_
  obtain ⟨n, cp, rfl, rfl⟩ := io1 e1 e2
  show VW _ _ ([.root (.val false) (.sl 51 sBr) (.io n cp) xs, .v false (.int .i64) (k : Int), D, D, D, D, D, D, D, D, D, D, D, D, D, D, D, D, D, D, D, D, D, D, D, D, D]) _
  repeat refine VW.seq ?_
  refine VW.regl hT fun K hK => ?_
  simp only [wq, Nat.reduceMul, reduceCtorEq, Nat.reduceBEq, Nat.reduceAdd, Nat.reduceLT, Nat.reduceLeDiff, Nat.reduceSub, Nat.reduceEqDiff]
  refine hK _ ?_
  clear hK K
  try refine vthen_n ?_
  repeat refine VW.seq ?_
  refine VW.regl hT fun K hK => ?_
  simp only [wq, Nat.reduceMul, reduceCtorEq, Nat.reduceBEq, Nat.reduceAdd, Nat.reduceLT, Nat.reduceLeDiff, Nat.reduceSub, Nat.reduceEqDiff]
  refine hK _ ?_
  clear hK K
  try refine vthen_n ?_
  repeat refine VW.seq ?_
  refine VW.block ?_
  refine VW.loop (α := Nat) [(0, none), (1, none), (5, none)] (fun i => [.root (.val false) (.sl 51 sBr) (.io n cp) (mkTo gBarS 2 k xs i), .v false (.int .i64) (k + ((2 * i : Nat) : Int) : Int), D, D, D, .v false (.int .i64) (i : Int), D, D, D, D, D, D, D, D, D, D, D, D, D, D, D, D, D, D, D, D, D]) (fun i => i ≤ xs.length) (fun i => xs.length - i) ⟨0, by omega, ?_⟩ fun i hi => ?_
  · simp only [wn, wq, Nat.reduceMul, reduceCtorEq, Nat.reduceBEq, Nat.reduceAdd, Nat.reduceLT, Nat.reduceLeDiff, Nat.reduceSub, Nat.reduceEqDiff]
    rw [mkTo_zero, show k + ((0 : Nat) : Int) = k from Int.add_zero k]
    rfl
  have hml := mkTo_len gBarS 2 k hi
  repeat refine VW.seq ?_
  refine VW.regl hT fun K hK => ?_
  simp only [wq, Nat.reduceMul, reduceCtorEq, Nat.reduceBEq, Nat.reduceAdd, Nat.reduceLT, Nat.reduceLeDiff, Nat.reduceSub, Nat.reduceEqDiff]
  refine hK _ ?_
  clear hK K
  try refine vthen_n ?_
  repeat refine VW.seq ?_
  refine VW.cond rfl (fun hc => ?_) (fun hc => ?_)
  · have hlt : i < xs.length := by
      have : (i : Int) < ((mkTo gBarS 2 k xs i).length : Int) := by simpa using hc
      omega
    have hset := mkTo_set gBarS 2 k hlt
    have hsc : 2 * (i + 1) = 2 * i + 2 := by omega
    have hcb : 2 * i ≤ 6000000 := by omega
    refine VW.skip (vthen_n ?_)
    repeat refine VW.seq ?_
    refine VW.block ?_
    have hgs : ∀ q : Int × Int, ((mkTo gBarS 2 k xs i).set i q).getD i (0, 0) = q := fun q => by
      rw [List.getD_eq_getElem?_getD, List.getElem?_set_self (by omega)]; rfl
    generalize hX : mkTo gBarS 2 k xs i = X at *
    generalize hN : 2 * i = N at *
    repeat refine VW.seq ?_
    refine VW.regl hT fun K hK => ?_
    simp only [wq, Nat.reduceMul, reduceCtorEq, Nat.reduceBEq, Nat.reduceAdd, Nat.reduceLT, Nat.reduceLeDiff, Nat.reduceSub, Nat.reduceEqDiff]
    refine ⟨decide_eq_true ⟨Int.natCast_nonneg _, by show (i : Int) < (X.length : Int); omega⟩, ?_⟩
    refine hK _ ?_
    clear hK K
    try refine vthen_n ?_
    repeat refine VW.seq ?_
    refine VW.regl hT fun K hK => ?_
    simp only [wq, Nat.reduceMul, reduceCtorEq, Nat.reduceBEq, Nat.reduceAdd, Nat.reduceLT, Nat.reduceLeDiff, Nat.reduceSub, Nat.reduceEqDiff]
    refine hK _ ?_
    clear hK K
    try refine vthen_n ?_
    rw [wrap64 (by omega) (by omega)]
    repeat refine VW.seq ?_
    refine VW.regl hT fun K hK => ?_
    simp only [wq, Nat.reduceMul, reduceCtorEq, Nat.reduceBEq, Nat.reduceAdd, Nat.reduceLT, Nat.reduceLeDiff, Nat.reduceSub, Nat.reduceEqDiff]
    refine ⟨decide_eq_true ⟨Int.natCast_nonneg _, by show (i : Int) < ((List.set _ _ _).length : Int); rw [List.length_set]; omega⟩, ?_⟩
    refine hK _ ?_
    clear hK K
    try refine vthen_n ?_
    simp only [List.set_set, hgs]
    repeat refine VW.seq ?_
    refine VW.regl hT fun K hK => ?_
    simp only [wq, Nat.reduceMul, reduceCtorEq, Nat.reduceBEq, Nat.reduceAdd, Nat.reduceLT, Nat.reduceLeDiff, Nat.reduceSub, Nat.reduceEqDiff]
    refine hK _ ?_
    clear hK K
    try refine vthen_n ?_
    rw [wrap64 (by omega) (by omega)]
    show vthen _ _ _ .normal _
    refine vthen_n ?_
    repeat refine VW.seq ?_
    refine VW.regl hT fun K hK => ?_
    simp only [wq, Nat.reduceMul, reduceCtorEq, Nat.reduceBEq, Nat.reduceAdd, Nat.reduceLT, Nat.reduceLeDiff, Nat.reduceSub, Nat.reduceEqDiff]
    refine hK _ ?_
    clear hK K
    try refine vthen_n ?_
    have hel : ((k + (N : Int), k + (N : Int) + 1) : Int × Int) = gBarS (k + (N : Int)) := by
      simp only [gBarS]
    refine ⟨i + 1, hlt, ?_, by show xs.length - (i + 1) < xs.length - i; omega⟩
    simp only [wn, wq, Nat.reduceMul, reduceCtorEq, Nat.reduceBEq, Nat.reduceAdd, Nat.reduceLT, Nat.reduceLeDiff, Nat.reduceSub, Nat.reduceEqDiff]
    rw [wrap64 (by omega) (by omega), ← hset, ← hel, hsc, show k + (N : Int) + 1 + 1 = k + ((N + 2 : Nat) : Int) by omega]
    rfl
  · have hge : i = xs.length := by
      have : ((mkTo gBarS 2 k xs i).length : Int) ≤ (i : Int) := by simpa using hc
      omega
    subst hge
    refine VW.exit ?_
    show vthen _ _ _ .normal _
    refine vthen_n ?_
    repeat refine VW.seq ?_
    refine VW.regl hT fun K hK => ?_
    simp only [wq, Nat.reduceMul, reduceCtorEq, Nat.reduceBEq, Nat.reduceAdd, Nat.reduceLT, Nat.reduceLeDiff, Nat.reduceSub, Nat.reduceEqDiff]
    refine hK _ ?_
    clear hK K
    try refine vthen_n ?_
    refine VW.ret ⟨.inl rfl, _, _, _, _, rfl, ⟨0, _, rfl⟩, ?_, rfl, ?_⟩
    · show some [Value.slice (some ⟨n, 0, none⟩) (mkTo gBarS 2 k xs xs.length).length cp] = some [Value.slice (some ⟨n, 0, none⟩) xs.length cp]
      rw [hml]
    · show PV.root (.val false) (.sl 51 sBr) .own (mkTo gBarS 2 k xs xs.length) = _
      rw [mkTo_all]
theorem markBarS0 (k : Int) : VC Tryz.prog 88 [.v false (.sl 51 sBr) [], .v false (.int .i64) (k)] (· = .v false (.int .i64) (k)) := by
  refine VC.of_body hT Tryz.func88 rfl (by kernel_rfl) [(.tmp 4, false, .int .i64)] (by kernel_rfl) ?_
  show VW _ _ ([.v false (.sl 51 sBr) [], .v false (.int .i64) (k : Int), D, D, D, D, D, D, D, D, D, D, D, D, D, D, D, D, D, D, D, D, D, D, D, D, D]) _
  repeat refine VW.seq ?_
  refine VW.regl hT fun K hK => ?_
  simp only [wq, simprocAttr]
  refine hK _ ?_
  clear hK K
  try refine vthen_n ?_
  repeat refine VW.seq ?_
  refine VW.regl hT fun K hK => ?_
  simp only [wq, simprocAttr]
  refine hK _ ?_
  clear hK K
  try refine vthen_n ?_
  repeat refine VW.seq ?_
  refine VW.block ?_
  refine VW.loop (α := Unit) [(0, none), (1, none), (5, none)] (fun _ => [.v false (.sl 51 sBr) [], .v false (.int .i64) (k : Int), D, D, D, .v false (.int .i64) (0 : Int), D, D, D, D, D, D, D, D, D, D, D, D, D, D, D, D, D, D, D, D, D]) (fun _ => True) (fun _ => 0) ⟨(), trivial, ?_⟩ fun _ _ => ?_
  · simp only [wn, wq, simprocAttr]
  repeat refine VW.seq ?_
  refine VW.regl hT fun K hK => ?_
  simp only [wq, simprocAttr]
  refine hK _ ?_
  clear hK K
  try refine vthen_n ?_
  repeat refine VW.seq ?_
  refine VW.cond rfl (fun hc => ?_) (fun hc => ?_)
  · cases hc
  · refine VW.exit ?_
    show vthen _ _ _ .normal _
    refine vthen_n ?_
    repeat refine VW.seq ?_
    refine VW.regl hT fun K hK => ?_
    simp only [wq, simprocAttr]
    refine hK _ ?_
    clear hK K
    try refine vthen_n ?_
    exact VW.ret ⟨.inl rfl, _, rfl, rfl⟩
theorem markBarS_vx (xs : List (Int × Int)) (k : Int) (hl : xs.length ≤ 2000000) (hk0 : 0 ≤ k) (hk1 : k ≤ 100000000) : VX Tryz.prog 88 [.root (.val false) (.sl 51 sBr) .own xs, .v false (.int .i64) (k)] 0 (fun pv ot => pv = .v false (.int .i64) (k + ((2 * xs.length : Nat) : Int)) ∧ ot = .root (.val false) (.sl 51 sBr) .own (mkR gBarS 2 k xs.length)) := by
  rcases Nat.eq_zero_or_pos xs.length with h | h
  · have h := List.eq_nil_of_length_eq_zero h
    subst h
    refine (VX.of_nil (args := [.root (.val false) (.sl 51 sBr) .own [], .v false (.int .i64) (k)]) (i := 0) (markBarS0 k) rfl).mono fun pv ot h => ⟨?_, h.2⟩
    rw [h.1]
    simp
  · exact markBarS1 xs k h hl hk0 hk1
set_option maxRecDepth 40000 in
theorem heldBarS_vc (n : Nat) (k : Int) (hl : n ≤ 2000000) (hk0 : 0 ≤ k) (hk1 : k ≤ 100000000) : VC Tryz.prog 94 [.v false (.sl 51 sBr) (mkR gBarS 2 k n), .v false (.int .i64) (k)] (· = .v false (.int .i64) (k + ((2 * n : Nat) : Int))) := by
  refine VC.of_body hT Tryz.func94 rfl (by kernel_rfl) [(.tmp 4, false, .int .i64)] (by kernel_rfl) ?_
  show VW _ _ ([.v false (.sl 51 sBr) (mkR gBarS 2 k n), .v false (.int .i64) (k : Int), D, D, D, D, D, D, D, D, D, D, D, D, D, D, D, D, D, D, D, D, D, D, D, D, D, D, D, D, D]) _
  repeat refine VW.seq ?_
  refine VW.regl hT fun K hK => ?_
  simp only [wq, Nat.reduceMul, reduceCtorEq, Nat.reduceBEq, Nat.reduceAdd, Nat.reduceLT, Nat.reduceLeDiff, Nat.reduceSub, Nat.reduceEqDiff]
  refine hK _ ?_
  clear hK K
  try refine vthen_n ?_
  repeat refine VW.seq ?_
  refine VW.regl hT fun K hK => ?_
  simp only [wq, Nat.reduceMul, reduceCtorEq, Nat.reduceBEq, Nat.reduceAdd, Nat.reduceLT, Nat.reduceLeDiff, Nat.reduceSub, Nat.reduceEqDiff]
  refine hK _ ?_
  clear hK K
  try refine vthen_n ?_
  repeat refine VW.seq ?_
  refine VW.block ?_
  refine VW.loop (α := Nat) [(0, none), (1, none), (5, none)] (fun i => [.v false (.sl 51 sBr) (mkR gBarS 2 k n), .v false (.int .i64) (k + ((2 * i : Nat) : Int) : Int), D, D, D, .v false (.int .i64) (i : Int), D, D, D, D, D, D, D, D, D, D, D, D, D, D, D, D, D, D, D, D, D, D, D, D, D]) (fun i => i ≤ n) (fun i => n - i) ⟨0, by omega, ?_⟩ fun i hi => ?_
  · simp only [wn, wq, Nat.reduceMul, reduceCtorEq, Nat.reduceBEq, Nat.reduceAdd, Nat.reduceLT, Nat.reduceLeDiff, Nat.reduceSub, Nat.reduceEqDiff]
    rw [show k + ((0 : Nat) : Int) = k from Int.add_zero k]
    rfl
  have hml := mkR_len gBarS 2 k n
  repeat refine VW.seq ?_
  refine VW.regl hT fun K hK => ?_
  simp only [wq, Nat.reduceMul, reduceCtorEq, Nat.reduceBEq, Nat.reduceAdd, Nat.reduceLT, Nat.reduceLeDiff, Nat.reduceSub, Nat.reduceEqDiff]
  refine hK _ ?_
  clear hK K
  try refine vthen_n ?_
  repeat refine VW.seq ?_
  refine VW.cond rfl (fun hc => ?_) (fun hc => ?_)
  · have hlt : i < n := by
      have : (i : Int) < ((mkR gBarS 2 k n).length : Int) := by simpa using hc
      omega
    have hg : (mkR gBarS 2 k n).getD i (0, 0) = gBarS (k + ((2 * i : Nat) : Int)) := mkR_get _ _ _ hlt _
    have hidx : decide (0 ≤ (i : Int) ∧ (i : Int) < ((mkR gBarS 2 k n).length : Int)) = true := decide_eq_true ⟨by omega, by omega⟩
    have hsc : 2 * (i + 1) = 2 * i + 2 := by omega
    have hcb : 2 * i ≤ 6000000 := by omega
    refine VW.skip (vthen_n ?_)
    repeat refine VW.seq ?_
    refine VW.block ?_
    generalize hN : 2 * i = N at *
    repeat refine VW.seq ?_
    refine VW.regl hT fun K hK => ?_
    simp only [wq, Nat.reduceMul, reduceCtorEq, Nat.reduceBEq, Nat.reduceAdd, Nat.reduceLT, Nat.reduceLeDiff, Nat.reduceSub, Nat.reduceEqDiff]
    refine ⟨hidx, ?_⟩
    rw [hg]
    refine hK _ ?_
    clear hK K
    try refine vthen_n ?_
    repeat refine VW.seq ?_
    refine VW.cond rfl (fun hc => ?_) (fun hc => ?_)
    · have : (gBarS (k + (N : Int))).1 ≠ k + (N : Int) := by simpa using hc
      exact absurd (by simp only [gBarS]) this
    refine VW.skip ?_
    show vthen _ _ _ .normal _
    refine vthen_n ?_
    repeat refine VW.seq ?_
    refine VW.regl hT fun K hK => ?_
    simp only [wq, Nat.reduceMul, reduceCtorEq, Nat.reduceBEq, Nat.reduceAdd, Nat.reduceLT, Nat.reduceLeDiff, Nat.reduceSub, Nat.reduceEqDiff]
    refine hK _ ?_
    clear hK K
    try refine vthen_n ?_
    rw [wrap64 (by omega) (by omega)]
    repeat refine VW.seq ?_
    refine VW.regl hT fun K hK => ?_
    simp only [wq, Nat.reduceMul, reduceCtorEq, Nat.reduceBEq, Nat.reduceAdd, Nat.reduceLT, Nat.reduceLeDiff, Nat.reduceSub, Nat.reduceEqDiff]
    refine ⟨hidx, ?_⟩
    rw [hg]
    refine hK _ ?_
    clear hK K
    try refine vthen_n ?_
    repeat refine VW.seq ?_
    refine VW.cond rfl (fun hc => ?_) (fun hc => ?_)
    · have : (gBarS (k + (N : Int))).2 ≠ k + (N : Int) + 1 := by simpa using hc
      exact absurd (by simp only [gBarS]) this
    refine VW.skip ?_
    show vthen _ _ _ .normal _
    refine vthen_n ?_
    repeat refine VW.seq ?_
    refine VW.regl hT fun K hK => ?_
    simp only [wq, Nat.reduceMul, reduceCtorEq, Nat.reduceBEq, Nat.reduceAdd, Nat.reduceLT, Nat.reduceLeDiff, Nat.reduceSub, Nat.reduceEqDiff]
    refine hK _ ?_
    clear hK K
    try refine vthen_n ?_
    rw [wrap64 (by omega) (by omega)]
    show vthen _ _ _ .normal _
    refine vthen_n ?_
    repeat refine VW.seq ?_
    refine VW.regl hT fun K hK => ?_
    simp only [wq, Nat.reduceMul, reduceCtorEq, Nat.reduceBEq, Nat.reduceAdd, Nat.reduceLT, Nat.reduceLeDiff, Nat.reduceSub, Nat.reduceEqDiff]
    refine hK _ ?_
    clear hK K
    try refine vthen_n ?_
    refine ⟨i + 1, hlt, ?_, by show n - (i + 1) < n - i; omega⟩
    simp only [wn, wq, Nat.reduceMul, reduceCtorEq, Nat.reduceBEq, Nat.reduceAdd, Nat.reduceLT, Nat.reduceLeDiff, Nat.reduceSub, Nat.reduceEqDiff]
    rw [wrap64 (by omega) (by omega), hsc, show k + (N : Int) + 1 + 1 = k + ((N + 2 : Nat) : Int) by omega]
    rfl
  · have hge : i = n := by
      have : ((mkR gBarS 2 k n).length : Int) ≤ (i : Int) := by simpa using hc
      omega
    subst hge
    refine VW.exit ?_
    show vthen _ _ _ .normal _
    refine vthen_n ?_
    repeat refine VW.seq ?_
    refine VW.regl hT fun K hK => ?_
    simp only [wq, Nat.reduceMul, reduceCtorEq, Nat.reduceBEq, Nat.reduceAdd, Nat.reduceLT, Nat.reduceLeDiff, Nat.reduceSub, Nat.reduceEqDiff]
    refine hK _ ?_
    clear hK K
    try refine vthen_n ?_
    exact VW.ret ⟨.inl rfl, _, rfl, rfl⟩
def gBoolS (k : Int) : Bool := (Int.tmod k 3 == 0)
set_option maxRecDepth 40000 in
theorem markBoolS1 (xs : List (Bool)) (k : Int) (h0 : 0 < xs.length) (hl : xs.length ≤ 2000000) (hk0 : 0 ≤ k) (hk1 : k ≤ 100000000) : VX Tryz.prog 140 [.root (.val false) (.sl 4 .bool) .own xs, .v false (.int .i64) (k)] 0 (fun pv ot => pv = .v false (.int .i64) (k + ((1 * xs.length : Nat) : Int)) ∧ ot = .root (.val false) (.sl 4 .bool) .own (mkR gBoolS 1 k xs.length)) := by
  refine VX.of_rows hT Tryz.func140 rfl (by kernel_rfl) [(.tmp 4, false, .int .i64)] (by kernel_rfl) rfl rfl h0 fun l fi li e1 e2 => ?_
  obtain ⟨n, cp, rfl, rfl⟩ := io1 e1 e2
  show VW _ _ ([.root (.val false) (.sl 4 .bool) (.io n cp) xs, .v false (.int .i64) (k : Int), D, D, D, D, D, D, D, D, D, D, D, D, D, D, D, D, D, D, D]) _
  repeat refine VW.seq ?_
  refine VW.regl hT fun K hK => ?_
  simp only [wq, Nat.reduceMul, reduceCtorEq, Nat.reduceBEq, Nat.reduceAdd, Nat.reduceLT, Nat.reduceLeDiff, Nat.reduceSub, Nat.reduceEqDiff]
  refine hK _ ?_
  clear hK K
  try refine vthen_n ?_
  repeat refine VW.seq ?_
  refine VW.regl hT fun K hK => ?_
  simp only [wq, Nat.reduceMul, reduceCtorEq, Nat.reduceBEq, Nat.reduceAdd, Nat.reduceLT, Nat.reduceLeDiff, Nat.reduceSub, Nat.reduceEqDiff]
  refine hK _ ?_
  clear hK K
  try refine vthen_n ?_
  repeat refine VW.seq ?_
  refine VW.block ?_
  refine VW.loop (α := Nat) [(0, none), (1, none), (5, none)] (fun i => [.root (.val false) (.sl 4 .bool) (.io n cp) (mkTo gBoolS 1 k xs i), .v false (.int .i64) (k + ((1 * i : Nat) : Int) : Int), D, D, D, .v false (.int .i64) (i : Int), D, D, D, D, D, D, D, D, D, D, D, D, D, D, D]) (fun i => i ≤ xs.length) (fun i => xs.length - i) ⟨0, by omega, ?_⟩ fun i hi => ?_
  · simp only [wn, wq, Nat.reduceMul, reduceCtorEq, Nat.reduceBEq, Nat.reduceAdd, Nat.reduceLT, Nat.reduceLeDiff, Nat.reduceSub, Nat.reduceEqDiff]
    rw [mkTo_zero, show k + ((0 : Nat) : Int) = k from Int.add_zero k]
    rfl
  have hml := mkTo_len gBoolS 1 k hi
  repeat refine VW.seq ?_
  refine VW.regl hT fun K hK => ?_
  simp only [wq, Nat.reduceMul, reduceCtorEq, Nat.reduceBEq, Nat.reduceAdd, Nat.reduceLT, Nat.reduceLeDiff, Nat.reduceSub, Nat.reduceEqDiff]
  refine hK _ ?_
  clear hK K
  try refine vthen_n ?_
  repeat refine VW.seq ?_
  refine VW.cond rfl (fun hc => ?_) (fun hc => ?_)
  · have hlt : i < xs.length := by
      have : (i : Int) < ((mkTo gBoolS 1 k xs i).length : Int) := by simpa using hc
      omega
    have hset := mkTo_set gBoolS 1 k hlt
    have hsc : 1 * (i + 1) = 1 * i + 1 := by omega
    have hcb : 1 * i ≤ 6000000 := by omega
    refine VW.skip (vthen_n ?_)
    repeat refine VW.seq ?_
    refine VW.block ?_
    have hgs : ∀ q : Bool, ((mkTo gBoolS 1 k xs i).set i q).getD i false = q := fun q => by
      rw [List.getD_eq_getElem?_getD, List.getElem?_set_self (by omega)]; rfl
    generalize hX : mkTo gBoolS 1 k xs i = X at *
    generalize hN : 1 * i = N at *
    repeat refine VW.seq ?_
    refine VW.regl hT fun K hK => ?_
    simp only [wq, Nat.reduceMul, reduceCtorEq, Nat.reduceBEq, Nat.reduceAdd, Nat.reduceLT, Nat.reduceLeDiff, Nat.reduceSub, Nat.reduceEqDiff]
    refine ⟨by decide, decide_eq_true ⟨Int.natCast_nonneg _, by show (i : Int) < (X.length : Int); omega⟩, ?_⟩
    refine hK _ ?_
    clear hK K
    try refine vthen_n ?_
    repeat refine VW.seq ?_
    refine VW.regl hT fun K hK => ?_
    simp only [wq, Nat.reduceMul, reduceCtorEq, Nat.reduceBEq, Nat.reduceAdd, Nat.reduceLT, Nat.reduceLeDiff, Nat.reduceSub, Nat.reduceEqDiff]
    refine hK _ ?_
    clear hK K
    try refine vthen_n ?_
    rw [wrap64 (by omega) (by omega)]
    show vthen _ _ _ .normal _
    refine vthen_n ?_
    repeat refine VW.seq ?_
    refine VW.regl hT fun K hK => ?_
    simp only [wq, Nat.reduceMul, reduceCtorEq, Nat.reduceBEq, Nat.reduceAdd, Nat.reduceLT, Nat.reduceLeDiff, Nat.reduceSub, Nat.reduceEqDiff]
    refine hK _ ?_
    clear hK K
    try refine vthen_n ?_
    have hel : (Int.tmod (k + (N : Int)) 3 == 0) = gBoolS (k + (N : Int)) := by
      simp only [gBoolS]
    refine ⟨i + 1, hlt, ?_, by show xs.length - (i + 1) < xs.length - i; omega⟩
    simp only [wn, wq, Nat.reduceMul, reduceCtorEq, Nat.reduceBEq, Nat.reduceAdd, Nat.reduceLT, Nat.reduceLeDiff, Nat.reduceSub, Nat.reduceEqDiff]
    rw [wrap64 (by omega) (by omega), ← hset, ← hel, hsc, show k + (N : Int) + 1 = k + ((N + 1 : Nat) : Int) by omega]
    rfl
  · have hge : i = xs.length := by
      have : ((mkTo gBoolS 1 k xs i).length : Int) ≤ (i : Int) := by simpa using hc
      omega
    subst hge
    refine VW.exit ?_
    show vthen _ _ _ .normal _
    refine vthen_n ?_
    repeat refine VW.seq ?_
    refine VW.regl hT fun K hK => ?_
    simp only [wq, Nat.reduceMul, reduceCtorEq, Nat.reduceBEq, Nat.reduceAdd, Nat.reduceLT, Nat.reduceLeDiff, Nat.reduceSub, Nat.reduceEqDiff]
    refine hK _ ?_
    clear hK K
    try refine vthen_n ?_
    refine VW.ret ⟨.inl rfl, _, _, _, _, rfl, ⟨0, _, rfl⟩, ?_, rfl, ?_⟩
    · show some [Value.slice (some ⟨n, 0, none⟩) (mkTo gBoolS 1 k xs xs.length).length cp] = some [Value.slice (some ⟨n, 0, none⟩) xs.length cp]
      rw [hml]
    · show PV.root (.val false) (.sl 4 .bool) .own (mkTo gBoolS 1 k xs xs.length) = _
      rw [mkTo_all]
theorem markBoolS0 (k : Int) : VC Tryz.prog 140 [.v false (.sl 4 .bool) [], .v false (.int .i64) (k)] (· = .v false (.int .i64) (k)) := by
  refine VC.of_body hT Tryz.func140 rfl (by kernel_rfl) [(.tmp 4, false, .int .i64)] (by kernel_rfl) ?_
  show VW _ _ ([.v false (.sl 4 .bool) [], .v false (.int .i64) (k : Int), D, D, D, D, D, D, D, D, D, D, D, D, D, D, D, D, D, D, D]) _
  repeat refine VW.seq ?_
  refine VW.regl hT fun K hK => ?_
  simp only [wq, simprocAttr]
  refine hK _ ?_
  clear hK K
  try refine vthen_n ?_
  repeat refine VW.seq ?_
  refine VW.regl hT fun K hK => ?_
  simp only [wq, simprocAttr]
  refine hK _ ?_
  clear hK K
  try refine vthen_n ?_
  repeat refine VW.seq ?_
  refine VW.block ?_
  refine VW.loop (α := Unit) [(0, none), (1, none), (5, none)] (fun _ => [.v false (.sl 4 .bool) [], .v false (.int .i64) (k : Int), D, D, D, .v false (.int .i64) (0 : Int), D, D, D, D, D, D, D, D, D, D, D, D, D, D, D]) (fun _ => True) (fun _ => 0) ⟨(), trivial, ?_⟩ fun _ _ => ?_
  · simp only [wn, wq, simprocAttr]
  repeat refine VW.seq ?_
  refine VW.regl hT fun K hK => ?_
  simp only [wq, simprocAttr]
  refine hK _ ?_
  clear hK K
  try refine vthen_n ?_
  repeat refine VW.seq ?_
  refine VW.cond rfl (fun hc => ?_) (fun hc => ?_)
  · cases hc
  · refine VW.exit ?_
    show vthen _ _ _ .normal _
    refine vthen_n ?_
    repeat refine VW.seq ?_
    refine VW.regl hT fun K hK => ?_
    simp only [wq, simprocAttr]
    refine hK _ ?_
    clear hK K
    try refine vthen_n ?_
    exact VW.ret ⟨.inl rfl, _, rfl, rfl⟩
theorem markBoolS_vx (xs : List (Bool)) (k : Int) (hl : xs.length ≤ 2000000) (hk0 : 0 ≤ k) (hk1 : k ≤ 100000000) : VX Tryz.prog 140 [.root (.val false) (.sl 4 .bool) .own xs, .v false (.int .i64) (k)] 0 (fun pv ot => pv = .v false (.int .i64) (k + ((1 * xs.length : Nat) : Int)) ∧ ot = .root (.val false) (.sl 4 .bool) .own (mkR gBoolS 1 k xs.length)) := by
  rcases Nat.eq_zero_or_pos xs.length with h | h
  · have h := List.eq_nil_of_length_eq_zero h
    subst h
    refine (VX.of_nil (args := [.root (.val false) (.sl 4 .bool) .own [], .v false (.int .i64) (k)]) (i := 0) (markBoolS0 k) rfl).mono fun pv ot h => ⟨?_, h.2⟩
    rw [h.1]
    simp
  · exact markBoolS1 xs k h hl hk0 hk1
set_option maxRecDepth 40000 in
theorem heldBoolS_vc (n : Nat) (k : Int) (hl : n ≤ 2000000) (hk0 : 0 ≤ k) (hk1 : k ≤ 100000000) : VC Tryz.prog 141 [.v false (.sl 4 .bool) (mkR gBoolS 1 k n), .v false (.int .i64) (k)] (· = .v false (.int .i64) (k + ((1 * n : Nat) : Int))) := by
  refine VC.of_body hT Tryz.func141 rfl (by kernel_rfl) [(.tmp 4, false, .int .i64)] (by kernel_rfl) ?_
  show VW _ _ ([.v false (.sl 4 .bool) (mkR gBoolS 1 k n), .v false (.int .i64) (k : Int), D, D, D, D, D, D, D, D, D, D, D, D, D, D, D, D, D, D, D, D, D]) _
  repeat refine VW.seq ?_
  refine VW.regl hT fun K hK => ?_
  simp only [wq, Nat.reduceMul, reduceCtorEq, Nat.reduceBEq, Nat.reduceAdd, Nat.reduceLT, Nat.reduceLeDiff, Nat.reduceSub, Nat.reduceEqDiff]
  refine hK _ ?_
  clear hK K
  try refine vthen_n ?_
  repeat refine VW.seq ?_
  refine VW.regl hT fun K hK => ?_
  simp only [wq, Nat.reduceMul, reduceCtorEq, Nat.reduceBEq, Nat.reduceAdd, Nat.reduceLT, Nat.reduceLeDiff, Nat.reduceSub, Nat.reduceEqDiff]
  refine hK _ ?_
  clear hK K
  try refine vthen_n ?_
  repeat refine VW.seq ?_
  refine VW.block ?_
  refine VW.loop (α := Nat) [(0, none), (1, none), (5, none)] (fun i => [.v false (.sl 4 .bool) (mkR gBoolS 1 k n), .v false (.int .i64) (k + ((1 * i : Nat) : Int) : Int), D, D, D, .v false (.int .i64) (i : Int), D, D, D, D, D, D, D, D, D, D, D, D, D, D, D, D, D]) (fun i => i ≤ n) (fun i => n - i) ⟨0, by omega, ?_⟩ fun i hi => ?_
  · simp only [wn, wq, Nat.reduceMul, reduceCtorEq, Nat.reduceBEq, Nat.reduceAdd, Nat.reduceLT, Nat.reduceLeDiff, Nat.reduceSub, Nat.reduceEqDiff]
    rw [show k + ((0 : Nat) : Int) = k from Int.add_zero k]
    rfl
  have hml := mkR_len gBoolS 1 k n
  repeat refine VW.seq ?_
  refine VW.regl hT fun K hK => ?_
  simp only [wq, Nat.reduceMul, reduceCtorEq, Nat.reduceBEq, Nat.reduceAdd, Nat.reduceLT, Nat.reduceLeDiff, Nat.reduceSub, Nat.reduceEqDiff]
  refine hK _ ?_
  clear hK K
  try refine vthen_n ?_
  repeat refine VW.seq ?_
  refine VW.cond rfl (fun hc => ?_) (fun hc => ?_)
  · have hlt : i < n := by
      have : (i : Int) < ((mkR gBoolS 1 k n).length : Int) := by simpa using hc
      omega
    have hg : (mkR gBoolS 1 k n).getD i false = gBoolS (k + ((1 * i : Nat) : Int)) := mkR_get _ _ _ hlt _
    have hidx : decide (0 ≤ (i : Int) ∧ (i : Int) < ((mkR gBoolS 1 k n).length : Int)) = true := decide_eq_true ⟨by omega, by omega⟩
    have hsc : 1 * (i + 1) = 1 * i + 1 := by omega
    have hcb : 1 * i ≤ 6000000 := by omega
    refine VW.skip (vthen_n ?_)
    repeat refine VW.seq ?_
    refine VW.block ?_
    generalize hN : 1 * i = N at *
    repeat refine VW.seq ?_
    refine VW.regl hT fun K hK => ?_
    simp only [wq, Nat.reduceMul, reduceCtorEq, Nat.reduceBEq, Nat.reduceAdd, Nat.reduceLT, Nat.reduceLeDiff, Nat.reduceSub, Nat.reduceEqDiff]
    refine ⟨hidx, by decide, ?_⟩
    rw [hg]
    refine hK _ ?_
    clear hK K
    try refine vthen_n ?_
    repeat refine VW.seq ?_
    refine VW.cond rfl (fun hc => ?_) (fun hc => ?_)
    · have h2 : (!(gBoolS (k + (N : Int)) == (Int.tmod (k + (N : Int)) 3 == 0))) = true := hc
      simp [gBoolS] at h2
    refine VW.skip ?_
    show vthen _ _ _ .normal _
    refine vthen_n ?_
    repeat refine VW.seq ?_
    refine VW.regl hT fun K hK => ?_
    simp only [wq, Nat.reduceMul, reduceCtorEq, Nat.reduceBEq, Nat.reduceAdd, Nat.reduceLT, Nat.reduceLeDiff, Nat.reduceSub, Nat.reduceEqDiff]
    refine hK _ ?_
    clear hK K
    try refine vthen_n ?_
    rw [wrap64 (by omega) (by omega)]
    show vthen _ _ _ .normal _
    refine vthen_n ?_
    repeat refine VW.seq ?_
    refine VW.regl hT fun K hK => ?_
    simp only [wq, Nat.reduceMul, reduceCtorEq, Nat.reduceBEq, Nat.reduceAdd, Nat.reduceLT, Nat.reduceLeDiff, Nat.reduceSub, Nat.reduceEqDiff]
    refine hK _ ?_
    clear hK K
    try refine vthen_n ?_
    refine ⟨i + 1, hlt, ?_, by show n - (i + 1) < n - i; omega⟩
    simp only [wn, wq, Nat.reduceMul, reduceCtorEq, Nat.reduceBEq, Nat.reduceAdd, Nat.reduceLT, Nat.reduceLeDiff, Nat.reduceSub, Nat.reduceEqDiff]
    rw [wrap64 (by omega) (by omega), hsc, show k + (N : Int) + 1 = k + ((N + 1 : Nat) : Int) by omega]
    rfl
  · have hge : i = n := by
      have : ((mkR gBoolS 1 k n).length : Int) ≤ (i : Int) := by simpa using hc
      omega
    subst hge
    refine VW.exit ?_
    show vthen _ _ _ .normal _
    refine vthen_n ?_
    repeat refine VW.seq ?_
    refine VW.regl hT fun K hK => ?_
    simp only [wq, Nat.reduceMul, reduceCtorEq, Nat.reduceBEq, Nat.reduceAdd, Nat.reduceLT, Nat.reduceLeDiff, Nat.reduceSub, Nat.reduceEqDiff]
    refine hK _ ?_
    clear hK K
    try refine vthen_n ?_
    exact VW.ret ⟨.inl rfl, _, rfl, rfl⟩
end Go.Proofs.YtmechjnfeidnkaaGreat.V.W
end
section
/- Marks on rows of rows, guards and fabrics. No condition. -/
set_option linter.unusedVariables false
set_option linter.unnecessarySimpa false
set_option linter.unusedSimpArgs false
namespace Go.Proofs.YtmechjnfeidnkaaGreat.V.W
open Go Go.RowKit
/-- the i-th row of marks -/
def rII (k : Int) (m : List (List Int)) (i : Nat) : List Int := mkR gIntS 1 (k + (tot m i : Nat)) (m.getD i []).length
def mkII (k : Int) (m : List (List Int)) (n : Nat) : List (List Int) := (List.range n).map (rII k m)
theorem mkII_len (k : Int) (m : List (List Int)) (n : Nat) : (mkII k m n).length = n := by simp [mkII]
theorem mkII_get (k : Int) (m : List (List Int)) {n i : Nat} (h : i < n) : (mkII k m n).getD i [] = rII k m i := by
  simp [mkII, List.getD_eq_getElem?_getD, h]
def toII (k : Int) (m : List (List Int)) (i : Nat) : List (List Int) := mkII k m i ++ m.drop i
theorem toII_len (k : Int) {m : List (List Int)} {i : Nat} (h : i ≤ m.length) : (toII k m i).length = m.length := by
  simp only [toII, List.length_append, mkII_len, List.length_drop]; omega
theorem toII_set (k : Int) {m : List (List Int)} {i : Nat} (h : i < m.length) : (toII k m i).set i (rII k m i) = toII k m (i + 1) := by
  unfold toII
  rw [List.set_append_right _ _ (by rw [mkII_len]; omega), mkII_len, Nat.sub_self, List.drop_eq_getElem_cons h, List.set_cons_zero]
  simp [mkII, List.range_succ]
theorem toII_get (k : Int) {m : List (List Int)} {i : Nat} (h : i < m.length) : (toII k m i).getD i [] = m.getD i [] := by
  unfold toII
  rw [List.getD_eq_getElem?_getD, List.getElem?_append_right (by rw [mkII_len]; omega), mkII_len, Nat.sub_self, List.getElem?_drop, Nat.add_zero, ← List.getD_eq_getElem?_getD]
theorem toII_all (k : Int) {m : List (List Int)} : toII k m m.length = mkII k m m.length := by simp [toII]
theorem toII_zero (k : Int) {m : List (List Int)} : toII k m 0 = m := by simp [toII, mkII]
theorem tot_zero (m : List (List Int)) : tot m 0 = 0 := by simp [tot]
set_option maxRecDepth 40000 in
theorem markIntSS1 (m : List (List Int)) (k : Int) (h0 : 0 < m.length) (hl : m.length ≤ 2000000) (hlt : tot m m.length ≤ 2000000) (hk0 : 0 ≤ k) (hk1 : k ≤ 50000000) : VX Tryz.prog 89 [.root (.val false) sII .own m, .v false (.int .i64) (k)] 0 (fun pv ot => pv = .v false (.int .i64) (k + (tot m m.length : Nat)) ∧ ot = .root (.val false) sII .own (mkII k m m.length)) := by
  refine VX.of_rows hT Tryz.func89 rfl (by kernel_rfl) [(.tmp 4, false, .int .i64)] (by kernel_rfl) rfl rfl h0 fun l fi li e1 e2 => ?_
  obtain ⟨n, cp, rfl, rfl⟩ := io1 e1 e2
  show VW _ _ ([.root (.val false) sII (.io n cp) m, .v false (.int .i64) (k), D, D, D, D, D, D, D, D, D, D, D, D, D, D, D, D, D]) _
  repeat refine VW.seq ?_
  refine VW.regl hT fun K hK => ?_
  simp only [wq, Nat.reduceMul, reduceCtorEq, Nat.reduceBEq, Nat.reduceAdd, Nat.reduceLT, Nat.reduceLeDiff, Nat.reduceSub, Nat.reduceEqDiff]
  refine hK _ ?_
  clear hK K
  try refine vthen_n ?_
  repeat refine VW.seq ?_
  refine VW.regl hT fun K hK => ?_
  simp only [wq, Nat.reduceMul, reduceCtorEq, Nat.reduceBEq, Nat.reduceAdd, Nat.reduceLT, Nat.reduceLeDiff, Nat.reduceSub, Nat.reduceEqDiff]
  refine hK _ ?_
  clear hK K
  try refine vthen_n ?_
  repeat refine VW.seq ?_
  refine VW.block ?_
  refine VW.loop (α := Nat) [(0, none), (1, none), (5, none)] (fun i => [.root (.val false) sII (.io n cp) (toII k m i), .v false (.int .i64) (k + (tot m i : Nat)), D, D, D, .v false (.int .i64) ((i : Nat)), D, D, D, D, D, D, D, D, D, D, D, D, D]) (fun i => i ≤ m.length) (fun i => m.length - i) ⟨0, by omega, ?_⟩ fun i hi => ?_
  · simp only [wn, wq, Nat.reduceMul, reduceCtorEq, Nat.reduceBEq, Nat.reduceAdd, Nat.reduceLT, Nat.reduceLeDiff, Nat.reduceSub, Nat.reduceEqDiff]
    rw [toII_zero, tot_zero, show k + ((0 : Nat) : Int) = k from Int.add_zero k]
    rfl
  have hml := toII_len k hi
  repeat refine VW.seq ?_
  refine VW.regl hT fun K hK => ?_
  simp only [wq, Nat.reduceMul, reduceCtorEq, Nat.reduceBEq, Nat.reduceAdd, Nat.reduceLT, Nat.reduceLeDiff, Nat.reduceSub, Nat.reduceEqDiff]
  refine hK _ ?_
  clear hK K
  try refine vthen_n ?_
  repeat refine VW.seq ?_
  refine VW.cond rfl (fun hc => ?_) (fun hc => ?_)
  · have hlt : i < m.length := by
      have : (i : Int) < ((toII k m i).length : Int) := by simpa using hc
      omega
    have hget := toII_get k hlt
    have hset := toII_set k hlt
    have hts := tot_succ hlt
    have htm := tot_mono m (i + 1) hlt
    refine VW.skip (vthen_n ?_)
    repeat refine VW.seq ?_
    refine VW.block ?_
    have hmark := markIntS_vx (m.getD i []) (k + (tot m i : Nat)) (by omega) (by omega) (by omega)
    repeat refine VW.seq ?_
    refine VW.regE hT 5 (fun K hK => ?_) (by decide)
    simp only [List.take_succ_cons, List.take_zero, wq, Nat.reduceMul, reduceCtorEq, Nat.reduceBEq, Nat.reduceAdd, Nat.reduceLT, Nat.reduceLeDiff, Nat.reduceSub, Nat.reduceEqDiff]
    refine ⟨decide_eq_true ⟨Int.natCast_nonneg _, by show (i : Int) < ((toII k m i).length : Int); omega⟩, ?_⟩
    refine hK _ _ _ rfl rfl (does_el (s2 := .int .i64) (fl := .io n cp) (y := rII k m i) (r := .v false (.int .i64) (k + (tot m i : Nat) + ((1 * (m.getD i []).length : Nat) : Int))) rfl rfl rfl rfl (.inr ⟨n, cp, rfl⟩) (by omega) rfl rfl rfl rfl ?_ rfl) ?_
    · have hmark := hmark
      rw [← hget] at hmark
      rw [← hget]
      refine hmark.mono fun pv ot h => ⟨h.1, ?_⟩
      rw [h.2, rII, hget]
    simp only [List.drop_succ_cons, List.drop_zero, List.getElem_toArray, List.getElem_cons_succ, List.getElem_cons_zero, hitS, wq, Nat.reduceMul, reduceCtorEq, Nat.reduceBEq, Nat.reduceAdd, Nat.reduceLT, Nat.reduceLeDiff, Nat.reduceSub, Nat.reduceEqDiff]
    show vthen _ _ _ .normal _
    refine vthen_n ?_
    repeat refine VW.seq ?_
    refine VW.regl hT fun K hK => ?_
    simp only [wq, Nat.reduceMul, reduceCtorEq, Nat.reduceBEq, Nat.reduceAdd, Nat.reduceLT, Nat.reduceLeDiff, Nat.reduceSub, Nat.reduceEqDiff]
    refine hK _ ?_
    clear hK K
    try refine vthen_n ?_
    refine ⟨i + 1, hlt, ?_, by show m.length - (i + 1) < m.length - i; omega⟩
    simp only [wn, wq, Nat.reduceMul, reduceCtorEq, Nat.reduceBEq, Nat.reduceAdd, Nat.reduceLT, Nat.reduceLeDiff, Nat.reduceSub, Nat.reduceEqDiff]
    rw [wrap64 (by omega) (by omega), hset, show k + (tot m i : Nat) + ((1 * (m.getD i []).length : Nat) : Int) = k + (tot m (i + 1) : Nat) by omega]
    rfl
  · have hge : i = m.length := by
      have : ((toII k m i).length : Int) ≤ (i : Int) := by simpa using hc
      omega
    subst hge
    refine VW.exit ?_
    show vthen _ _ _ .normal _
    refine vthen_n ?_
    repeat refine VW.seq ?_
    refine VW.regl hT fun K hK => ?_
    simp only [wq, Nat.reduceMul, reduceCtorEq, Nat.reduceBEq, Nat.reduceAdd, Nat.reduceLT, Nat.reduceLeDiff, Nat.reduceSub, Nat.reduceEqDiff]
    refine hK _ ?_
    clear hK K
    try refine vthen_n ?_
    refine VW.ret ⟨.inl rfl, _, _, _, _, rfl, ⟨0, _, rfl⟩, ?_, rfl, ?_⟩
    · show some [Value.slice (some ⟨n, 0, none⟩) (toII k m m.length).length cp] = some [Value.slice (some ⟨n, 0, none⟩) m.length cp]
      rw [hml]
    · show PV.root (.val false) sII .own (toII k m m.length) = _
      rw [toII_all]
theorem markIntSS0 (k : Int) : VC Tryz.prog 89 [.v false sII [], .v false (.int .i64) (k)] (· = .v false (.int .i64) (k)) := by
  refine VC.of_body hT Tryz.func89 rfl (by kernel_rfl) [(.tmp 4, false, .int .i64)] (by kernel_rfl) ?_
  show VW _ _ ([.v false sII [], .v false (.int .i64) (k), D, D, D, D, D, D, D, D, D, D, D, D, D, D, D, D, D]) _
  repeat refine VW.seq ?_
  refine VW.regl hT fun K hK => ?_
  simp only [wq, simprocAttr]
  refine hK _ ?_
  clear hK K
  try refine vthen_n ?_
  repeat refine VW.seq ?_
  refine VW.regl hT fun K hK => ?_
  simp only [wq, simprocAttr]
  refine hK _ ?_
  clear hK K
  try refine vthen_n ?_
  repeat refine VW.seq ?_
  refine VW.block ?_
  refine VW.loop (α := Unit) [(0, none), (1, none), (5, none)] (fun _ => [.v false sII [], .v false (.int .i64) (k), D, D, D, .v false (.int .i64) (0), D, D, D, D, D, D, D, D, D, D, D, D, D]) (fun _ => True) (fun _ => 0) ⟨(), trivial, ?_⟩ fun _ _ => ?_
  · simp only [wn, wq, simprocAttr]
  repeat refine VW.seq ?_
  refine VW.regl hT fun K hK => ?_
  simp only [wq, simprocAttr]
  refine hK _ ?_
  clear hK K
  try refine vthen_n ?_
  repeat refine VW.seq ?_
  refine VW.cond rfl (fun hc => ?_) (fun hc => ?_)
  · cases hc
  · refine VW.exit ?_
    show vthen _ _ _ .normal _
    refine vthen_n ?_
    repeat refine VW.seq ?_
    refine VW.regl hT fun K hK => ?_
    simp only [wq, simprocAttr]
    refine hK _ ?_
    clear hK K
    try refine vthen_n ?_
    exact VW.ret ⟨.inl rfl, _, rfl, rfl⟩
theorem markIntSS_vx (m : List (List Int)) (k : Int) (hl : m.length ≤ 2000000) (hlt : tot m m.length ≤ 2000000) (hk0 : 0 ≤ k) (hk1 : k ≤ 50000000) : VX Tryz.prog 89 [.root (.val false) sII .own m, .v false (.int .i64) (k)] 0 (fun pv ot => pv = .v false (.int .i64) (k + (tot m m.length : Nat)) ∧ ot = .root (.val false) sII .own (mkII k m m.length)) := by
  rcases Nat.eq_zero_or_pos m.length with h | h
  · have h := List.eq_nil_of_length_eq_zero h
    subst h
    refine (VX.of_nil (args := [.root (.val false) sII .own [], .v false (.int .i64) (k)]) (i := 0) (markIntSS0 k) rfl).mono fun pv ot h => ⟨?_, h.2⟩
    rw [h.1]
    simp [tot]
  · exact markIntSS1 m k h hl hlt hk0 hk1
set_option maxRecDepth 40000 in
theorem heldIntSS_vc (m : List (List Int)) (k : Int) (hl : m.length ≤ 2000000) (hlt : tot m m.length ≤ 2000000) (hk0 : 0 ≤ k) (hk1 : k ≤ 50000000) : VC Tryz.prog 95 [.v false sII (mkII k m m.length), .v false (.int .i64) (k)] (· = .v false (.int .i64) (k + (tot m m.length : Nat))) := by
  refine VC.of_body hT Tryz.func95 rfl (by kernel_rfl) [(.tmp 4, false, .int .i64)] (by kernel_rfl) ?_
  show VW _ _ ([.v false sII (mkII k m m.length), .v false (.int .i64) (k), D, D, D, D, D, D, D, D, D, D, D, D, D, D, D, D, D, D, D]) _
  repeat refine VW.seq ?_
  refine VW.regl hT fun K hK => ?_
  simp only [wq, Nat.reduceMul, reduceCtorEq, Nat.reduceBEq, Nat.reduceAdd, Nat.reduceLT, Nat.reduceLeDiff, Nat.reduceSub, Nat.reduceEqDiff]
  refine hK _ ?_
  clear hK K
  try refine vthen_n ?_
  repeat refine VW.seq ?_
  refine VW.regl hT fun K hK => ?_
  simp only [wq, Nat.reduceMul, reduceCtorEq, Nat.reduceBEq, Nat.reduceAdd, Nat.reduceLT, Nat.reduceLeDiff, Nat.reduceSub, Nat.reduceEqDiff]
  refine hK _ ?_
  clear hK K
  try refine vthen_n ?_
  repeat refine VW.seq ?_
  refine VW.block ?_
  refine VW.loop (α := Nat) [(0, none), (1, none), (5, none)] (fun i => [.v false sII (mkII k m m.length), .v false (.int .i64) (k + (tot m i : Nat)), D, D, D, .v false (.int .i64) ((i : Nat)), D, D, D, D, D, D, D, D, D, D, D, D, D, D, D]) (fun i => i ≤ m.length) (fun i => m.length - i) ⟨0, by omega, ?_⟩ fun i hi => ?_
  · simp only [wn, wq, Nat.reduceMul, reduceCtorEq, Nat.reduceBEq, Nat.reduceAdd, Nat.reduceLT, Nat.reduceLeDiff, Nat.reduceSub, Nat.reduceEqDiff]
    rw [tot_zero, show k + ((0 : Nat) : Int) = k from Int.add_zero k]
    rfl
  have hml := mkII_len k m m.length
  repeat refine VW.seq ?_
  refine VW.regl hT fun K hK => ?_
  simp only [wq, Nat.reduceMul, reduceCtorEq, Nat.reduceBEq, Nat.reduceAdd, Nat.reduceLT, Nat.reduceLeDiff, Nat.reduceSub, Nat.reduceEqDiff]
  refine hK _ ?_
  clear hK K
  try refine vthen_n ?_
  repeat refine VW.seq ?_
  refine VW.cond rfl (fun hc => ?_) (fun hc => ?_)
  · have hlt : i < m.length := by
      have : (i : Int) < ((mkII k m m.length).length : Int) := by simpa using hc
      omega
    have hget := mkII_get k m hlt
    have hts := tot_succ hlt
    have htm := tot_mono m (i + 1) hlt
    have hheld := heldIntS_vc (m.getD i []).length (k + (tot m i : Nat)) (by omega) (by omega) (by omega)
    refine VW.skip (vthen_n ?_)
    repeat refine VW.seq ?_
    refine VW.block ?_
    repeat refine VW.seq ?_
    refine VW.regl hT fun K hK => ?_
    simp only [wq, Nat.reduceMul, reduceCtorEq, Nat.reduceBEq, Nat.reduceAdd, Nat.reduceLT, Nat.reduceLeDiff, Nat.reduceSub, Nat.reduceEqDiff]
    refine ⟨decide_eq_true ⟨Int.natCast_nonneg _, by show (i : Int) < ((mkII k m m.length).length : Int); omega⟩, ?_⟩
    rw [show (mkII k m m.length).getD i [] = mkR gIntS 1 (k + (tot m i : Nat)) (m.getD i []).length from hget]
    refine vcall_of hheld ?_
    simp only [wq, Nat.reduceMul, reduceCtorEq, Nat.reduceBEq, Nat.reduceAdd, Nat.reduceLT, Nat.reduceLeDiff, Nat.reduceSub, Nat.reduceEqDiff]
    refine hK _ ?_
    clear hK K
    try refine vthen_n ?_
    repeat refine VW.seq ?_
    refine VW.regl hT fun K hK => ?_
    simp only [wq, Nat.reduceMul, reduceCtorEq, Nat.reduceBEq, Nat.reduceAdd, Nat.reduceLT, Nat.reduceLeDiff, Nat.reduceSub, Nat.reduceEqDiff]
    refine hK _ ?_
    clear hK K
    try refine vthen_n ?_
    repeat refine VW.seq ?_
    refine VW.cond rfl (fun hc => ?_) (fun hc => ?_)
    · have hc : k + (tot m i : Nat) + ((1 * (m.getD i []).length : Nat) : Int) < 0 := of_decide_eq_true hc
      omega
    refine VW.skip ?_
    show vthen _ _ _ .normal _
    refine vthen_n ?_
    repeat refine VW.seq ?_
    refine VW.regl hT fun K hK => ?_
    simp only [wq, Nat.reduceMul, reduceCtorEq, Nat.reduceBEq, Nat.reduceAdd, Nat.reduceLT, Nat.reduceLeDiff, Nat.reduceSub, Nat.reduceEqDiff]
    refine hK _ ?_
    clear hK K
    try refine vthen_n ?_
    refine ⟨i + 1, hlt, ?_, by show m.length - (i + 1) < m.length - i; omega⟩
    simp only [wn, wq, Nat.reduceMul, reduceCtorEq, Nat.reduceBEq, Nat.reduceAdd, Nat.reduceLT, Nat.reduceLeDiff, Nat.reduceSub, Nat.reduceEqDiff]
    rw [wrap64 (by omega) (by omega), show k + (tot m i : Nat) + ((1 * (m.getD i []).length : Nat) : Int) = k + (tot m (i + 1) : Nat) by omega]
    rfl
  · have hge : i = m.length := by
      have : ((mkII k m m.length).length : Int) ≤ (i : Int) := by simpa using hc
      omega
    subst hge
    refine VW.exit ?_
    show vthen _ _ _ .normal _
    refine vthen_n ?_
    repeat refine VW.seq ?_
    refine VW.regl hT fun K hK => ?_
    simp only [wq, Nat.reduceMul, reduceCtorEq, Nat.reduceBEq, Nat.reduceAdd, Nat.reduceLT, Nat.reduceLeDiff, Nat.reduceSub, Nat.reduceEqDiff]
    refine hK _ ?_
    clear hK K
    try refine vthen_n ?_
    exact VW.ret ⟨.inl rfl, _, rfl, rfl⟩
end Go.Proofs.YtmechjnfeidnkaaGreat.V.W
end
section
/- Marks on guards and fabrics. No condition. -/
set_option linter.unusedVariables false
set_option linter.unnecessarySimpa false
set_option linter.unusedSimpArgs false
namespace Go.Proofs.YtmechjnfeidnkaaGreat.V.W
open Go Go.RowKit
set_option maxRecDepth 20000 in
theorem markGuard_vx (g : List Bool) (k : Int) (h0 : 0 < g.length) (hl : g.length ≤ 2000000) (hk0 : 0 ≤ k) (hk1 : k ≤ 100000000) : VX Tryz.prog 90 [.root (.val true) sG .own g, .v false (.int .i64) (k)] 0 (fun pv ot => pv = .v false (.int .i64) (k + ((1 * g.length : Nat) : Int)) ∧ ot = .root (.val true) sG .own (mkR gBoolS 1 k g.length)) := by
  refine VX.of_rows hT Tryz.func90 rfl (by kernel_rfl) [(.tmp 4, false, .int .i64)] (by kernel_rfl) rfl rfl h0 fun l fi li e1 e2 => ?_
  obtain ⟨n, cp, rfl, rfl⟩ := io1 e1 e2
  show VW _ _ ([.root (.val true) sG (.io n cp) g, .v false (.int .i64) (k), D, D, D, D, D, D, D, D]) _
  repeat refine VW.seq ?_
  refine VW.regl hT fun K hK => ?_
  simp only [wq, simprocAttr]
  refine hK _ ?_
  clear hK K
  try refine vthen_n ?_
  repeat refine VW.seq ?_
  refine VW.regl hT fun K hK => ?_
  simp only [wq, simprocAttr]
  refine vcall_io 0 ?_
  simp only [wq, simprocAttr]
  refine vxcall_of (VX.tag1 (markBoolS_vx g k hl hk0 hk1) rfl rfl rfl (by show some [Value.slice (some ⟨n, 0, none⟩) (mkR gBoolS 1 k g.length).length cp] = _; rw [mkR_len])) ?_
  simp only [wq, simprocAttr]
  refine hK _ ?_
  clear hK K
  try refine vthen_n ?_
  repeat refine VW.seq ?_
  refine VW.regl hT fun K hK => ?_
  simp only [wq, simprocAttr]
  refine hK _ ?_
  clear hK K
  try refine vthen_n ?_
  refine VW.ret ⟨.inl rfl, _, _, _, _, rfl, ⟨2, _, rfl⟩, ?_, rfl, rfl⟩
  show some [Value.slice (some ⟨n, 0, none⟩) (mkR gBoolS 1 k g.length).length cp] = some [Value.slice (some ⟨n, 0, none⟩) g.length cp]
  rw [mkR_len]
set_option maxRecDepth 20000 in
theorem heldGuard_vc (n : Nat) (k : Int) (hl : n ≤ 2000000) (hk0 : 0 ≤ k) (hk1 : k ≤ 100000000) : VC Tryz.prog 96 [.v true sG (mkR gBoolS 1 k n), .v false (.int .i64) (k)] (· = .v false (.int .i64) (k + ((1 * n : Nat) : Int))) := by
  refine VC.of_body hT Tryz.func96 rfl (by kernel_rfl) [(.tmp 4, false, .int .i64)] (by kernel_rfl) ?_
  show VW _ _ ([.v true sG (mkR gBoolS 1 k n), .v false (.int .i64) (k), D, D, D, D, D, D, D, D, D, D]) _
  repeat refine VW.seq ?_
  refine VW.regl hT fun K hK => ?_
  simp only [wq, simprocAttr]
  refine hK _ ?_
  clear hK K
  try refine vthen_n ?_
  repeat refine VW.seq ?_
  refine VW.regl hT fun K hK => ?_
  simp only [wq, simprocAttr]
  refine vcall_of (heldBoolS_vc n k hl hk0 hk1) ?_
  simp only [wq, simprocAttr]
  refine hK _ ?_
  clear hK K
  try refine vthen_n ?_
  repeat refine VW.seq ?_
  refine VW.regl hT fun K hK => ?_
  simp only [wq, simprocAttr]
  refine hK _ ?_
  clear hK K
  try refine vthen_n ?_
  repeat refine VW.seq ?_
  refine VW.cond rfl (fun hc => ?_) (fun hc => ?_)
  · have hc : k + ((1 * n : Nat) : Int) < 0 := of_decide_eq_true hc
    omega
  refine VW.skip (vthen_n ?_)
  repeat refine VW.seq ?_
  refine VW.regl hT fun K hK => ?_
  simp only [wq, simprocAttr]
  refine hK _ ?_
  clear hK K
  try refine vthen_n ?_
  exact VW.ret ⟨.inl rfl, _, rfl, rfl⟩
def kA (k : Int) (x : Fab) : Int := k + ((3 * x.1.length : Nat) : Int)
def kB (k : Int) (x : Fab) : Int := kA k x + ((1 * x.2.1.length : Nat) : Int)
def kC (k : Int) (x : Fab) : Int := kB k x + ((2 * x.2.2.1.length : Nat) : Int)
def kD (k : Int) (x : Fab) : Int := kC k x + (tot x.2.2.2.1 x.2.2.2.1.length : Nat)
def kE (k : Int) (x : Fab) : Int := kD k x + ((1 * x.2.2.2.2.length : Nat) : Int)
def mkFab (k : Int) (x : Fab) : Fab := (mkR gNodeS 3 k x.1.length, mkR gIntS 1 (kA k x) x.2.1.length, mkR gBarS 2 (kB k x) x.2.2.1.length, mkII (kC k x) x.2.2.2.1 x.2.2.2.1.length, mkR gBoolS 1 (kD k x) x.2.2.2.2.length)
structure FabS (x : Fab) : Prop where
  a : x.1.length ≤ 2000000
  b : x.2.1.length ≤ 2000000
  c : x.2.2.1.length ≤ 2000000
  d : x.2.2.2.1.length ≤ 2000000
  e : tot x.2.2.2.1 x.2.2.2.1.length ≤ 2000000
  f : x.2.2.2.2.length ≤ 2000000
theorem io5 {x : Fab} {l : List (Nat × Nat)} {fi : Fl} {li : List Value} (h : (tagF sFi l).1 = fi) (k : encI sFi fi x = some li) : ∃ n1 c1 n2 c2 n3 c3 n4 c4 n5 c5, fi = .pr (.io n1 c1) (.pr (.io n2 c2) (.pr (.io n3 c3) (.pr (.io n4 c4) (.io n5 c5)))) ∧ li = [.slice (some ⟨n1, 0, none⟩) x.1.length c1, .slice (some ⟨n2, 0, none⟩) x.2.1.length c2, .slice (some ⟨n3, 0, none⟩) x.2.2.1.length c3, .slice (some ⟨n4, 0, none⟩) x.2.2.2.1.length c4, .slice (some ⟨n5, 0, none⟩) x.2.2.2.2.length c5] := by
  rcases l with _ | ⟨⟨n1, c1⟩, _ | ⟨⟨n2, c2⟩, _ | ⟨⟨n3, c3⟩, _ | ⟨⟨n4, c4⟩, _ | ⟨⟨n5, c5⟩, l⟩⟩⟩⟩⟩
  · subst h; cases k
  · subst h; cases k
  · subst h; cases k
  · subst h; cases k
  · subst h; cases k
  · subst h
    exact ⟨n1, c1, n2, c2, n3, c3, n4, c4, n5, c5, rfl, (Option.some.inj k).symm⟩
set_option maxRecDepth 20000 in
set_option maxHeartbeats 1000000 in
theorem markFabric_vx (x : Fab) (k : Int) (hx : FabS x) (h1 : 0 < x.1.length) (h2 : 0 < x.2.1.length) (h3 : 0 < x.2.2.1.length) (h4 : 0 < x.2.2.2.1.length) (h5 : 0 < x.2.2.2.2.length) (hk0 : 0 ≤ k) (hk1 : k ≤ 1000000) : VX Tryz.prog 34 [.root (.val true) sFi fFab x, .v false (.int .i64) (k)] 0 (fun pv ot => pv = .v false (.int .i64) (kE k x) ∧ ot = .root (.val true) sFi fFab (mkFab k x)) := by
  obtain ⟨t, s, b, m, g⟩ := x
  have ha : t.length ≤ 2000000 := hx.a
  have hb : s.length ≤ 2000000 := hx.b
  have hcc : b.length ≤ 2000000 := hx.c
  have hdd : m.length ≤ 2000000 := hx.d
  have he : tot m m.length ≤ 2000000 := hx.e
  have hf : g.length ≤ 2000000 := hx.f
  refine VX.of_rows hT Tryz.func34 rfl (by kernel_rfl) [(.tmp 4, false, .int .i64)] (by kernel_rfl) rfl rfl ⟨h1, h2, h3, h4, h5⟩ fun l fi li e1 e2 => ?_
  obtain ⟨n1, c1, n2, c2, n3, c3, n4, c4, n5, c5, rfl, rfl⟩ := io5 e1 e2
  show VW _ _ ([.root (.val true) sFi (.pr (.io n1 c1) (.pr (.io n2 c2) (.pr (.io n3 c3) (.pr (.io n4 c4) (.io n5 c5))))) (t, s, b, m, g), .v false (.int .i64) (k), D, D, D, D, D, D, D, D, D, D, D, D, D, D, D, D, D, D, D, D, D, D, D, D]) _
  have dA : kA k (t, s, b, m, g) = k + ((3 * t.length : Nat) : Int) := rfl
  have dB : kB k (t, s, b, m, g) = kA k (t, s, b, m, g) + ((1 * s.length : Nat) : Int) := rfl
  have dC : kC k (t, s, b, m, g) = kB k (t, s, b, m, g) + ((2 * b.length : Nat) : Int) := rfl
  have dD : kD k (t, s, b, m, g) = kC k (t, s, b, m, g) + (tot m m.length : Nat) := rfl
  have dE : kE k (t, s, b, m, g) = kD k (t, s, b, m, g) + ((1 * g.length : Nat) : Int) := rfl
  have hF : mkFab k (t, s, b, m, g) = (mkR gNodeS 3 k t.length, mkR gIntS 1 (kA k (t, s, b, m, g)) s.length, mkR gBarS 2 (kB k (t, s, b, m, g)) b.length, mkII (kC k (t, s, b, m, g)) m m.length, mkR gBoolS 1 (kD k (t, s, b, m, g)) g.length) := rfl
  rw [hF]
  generalize kE k (t, s, b, m, g) = qE at *
  generalize kD k (t, s, b, m, g) = qD at *
  generalize kC k (t, s, b, m, g) = qC at *
  generalize kB k (t, s, b, m, g) = qB at *
  generalize kA k (t, s, b, m, g) = qA at *
  repeat refine VW.seq ?_
  refine VW.regl hT fun K hK => ?_
  simp only [wq, simprocAttr]
  refine hK _ ?_
  clear hK K
  try refine vthen_n ?_
  repeat refine VW.seq ?_
  refine VW.regl hT fun K hK => ?_
  simp only [wq, simprocAttr]
  refine vcall_io 0 ?_
  simp only [wq, simprocAttr]
  refine vxcall_of (VX.tag1 (markNodeS_vx t k ha hk0 (by omega)) rfl rfl rfl (by show some [Value.slice (some ⟨n1, 0, none⟩) (mkR gNodeS 3 k t.length).length c1] = _; rw [mkR_len])) ?_
  rw [← dA]
  simp only [wq, simprocAttr]
  refine hK _ ?_
  clear hK K
  try refine vthen_n ?_
  repeat refine VW.seq ?_
  refine VW.regl hT fun K hK => ?_
  simp only [wq, simprocAttr]
  refine vcall_io 0 ?_
  simp only [wq, simprocAttr]
  refine vxcall_of (VX.tag1 (markIntS_vx s qA hb (by omega) (by omega)) rfl rfl rfl (by show some [Value.slice (some ⟨n2, 0, none⟩) (mkR gIntS 1 qA s.length).length c2] = _; rw [mkR_len])) ?_
  rw [← dB]
  simp only [wq, simprocAttr]
  refine hK _ ?_
  clear hK K
  try refine vthen_n ?_
  repeat refine VW.seq ?_
  refine VW.regl hT fun K hK => ?_
  simp only [wq, simprocAttr]
  refine vcall_io 0 ?_
  simp only [wq, simprocAttr]
  refine vxcall_of (VX.tag1 (markBarS_vx b qB hcc (by omega) (by omega)) rfl rfl rfl (by show some [Value.slice (some ⟨n3, 0, none⟩) (mkR gBarS 2 qB b.length).length c3] = _; rw [mkR_len])) ?_
  rw [← dC]
  simp only [wq, simprocAttr]
  refine hK _ ?_
  clear hK K
  try refine vthen_n ?_
  repeat refine VW.seq ?_
  refine VW.regl hT fun K hK => ?_
  simp only [wq, simprocAttr]
  refine vcall_io 0 ?_
  simp only [wq, simprocAttr]
  refine vxcall_of (VX.tag1 (markIntSS_vx m qC hdd he (by omega) (by omega)) rfl rfl rfl (by show some [Value.slice (some ⟨n4, 0, none⟩) (mkII qC m m.length).length c4] = _; rw [mkII_len])) ?_
  rw [← dD]
  simp only [wq, simprocAttr]
  refine hK _ ?_
  clear hK K
  try refine vthen_n ?_
  repeat refine VW.seq ?_
  refine VW.regl hT fun K hK => ?_
  simp only [wq, simprocAttr]
  refine vcall_io 0 ?_
  simp only [wq, simprocAttr]
  refine vxcall_of (VX.tag1 (markGuard_vx g qD h5 hf (by omega) (by omega)) rfl rfl rfl (by show some [Value.slice (some ⟨n5, 0, none⟩) (mkR gBoolS 1 qD g.length).length c5] = _; rw [mkR_len])) ?_
  rw [← dE]
  simp only [wq, simprocAttr]
  refine hK _ ?_
  clear hK K
  try refine vthen_n ?_
  repeat refine VW.seq ?_
  refine VW.regl hT fun K hK => ?_
  simp only [wq, simprocAttr]
  refine hK _ ?_
  clear hK K
  try refine vthen_n ?_
  refine VW.ret ⟨.inl rfl, _, _, _, _, rfl, ⟨2, _, rfl⟩, ?_, rfl, rfl⟩
  show some [Value.slice (some ⟨n1, 0, none⟩) (mkR gNodeS 3 k t.length).length c1, Value.slice (some ⟨n2, 0, none⟩) (mkR gIntS 1 qA s.length).length c2, Value.slice (some ⟨n3, 0, none⟩) (mkR gBarS 2 qB b.length).length c3, Value.slice (some ⟨n4, 0, none⟩) (mkII qC m m.length).length c4, Value.slice (some ⟨n5, 0, none⟩) (mkR gBoolS 1 qD g.length).length c5] = some [Value.slice (some ⟨n1, 0, none⟩) t.length c1, Value.slice (some ⟨n2, 0, none⟩) s.length c2, Value.slice (some ⟨n3, 0, none⟩) b.length c3, Value.slice (some ⟨n4, 0, none⟩) m.length c4, Value.slice (some ⟨n5, 0, none⟩) g.length c5]
  rw [mkR_len, mkR_len, mkR_len, mkII_len, mkR_len]
end Go.Proofs.YtmechjnfeidnkaaGreat.V.W
end
section
/- Marks held on fabrics. No condition. -/
set_option linter.unusedVariables false
set_option linter.unnecessarySimpa false
set_option linter.unusedSimpArgs false
namespace Go.Proofs.YtmechjnfeidnkaaGreat.V.W
open Go Go.RowKit
set_option maxRecDepth 20000 in
set_option maxHeartbeats 1000000 in
theorem heldFabric_vc (x : Fab) (k : Int) (hx : FabS x) (hk0 : 0 ≤ k) (hk1 : k ≤ 1000000) : VC Tryz.prog 39 [.v true sFi (mkFab k x), .v false (.int .i64) (k)] (· = .v false (.int .i64) (kE k x)) := by
  obtain ⟨t, s, b, m, g⟩ := x
  have ha : t.length ≤ 2000000 := hx.a
  have hb : s.length ≤ 2000000 := hx.b
  have hcc : b.length ≤ 2000000 := hx.c
  have hdd : m.length ≤ 2000000 := hx.d
  have he : tot m m.length ≤ 2000000 := hx.e
  have hf : g.length ≤ 2000000 := hx.f
  refine VC.of_body hT Tryz.func39 rfl (by kernel_rfl) [(.tmp 4, false, .int .i64)] (by kernel_rfl) ?_
  have dA : kA k (t, s, b, m, g) = k + ((3 * t.length : Nat) : Int) := rfl
  have dB : kB k (t, s, b, m, g) = kA k (t, s, b, m, g) + ((1 * s.length : Nat) : Int) := rfl
  have dC : kC k (t, s, b, m, g) = kB k (t, s, b, m, g) + ((2 * b.length : Nat) : Int) := rfl
  have dD : kD k (t, s, b, m, g) = kC k (t, s, b, m, g) + (tot m m.length : Nat) := rfl
  have dE : kE k (t, s, b, m, g) = kD k (t, s, b, m, g) + ((1 * g.length : Nat) : Int) := rfl
  have hF : mkFab k (t, s, b, m, g) = (mkR gNodeS 3 k t.length, mkR gIntS 1 (kA k (t, s, b, m, g)) s.length, mkR gBarS 2 (kB k (t, s, b, m, g)) b.length, mkII (kC k (t, s, b, m, g)) m m.length, mkR gBoolS 1 (kD k (t, s, b, m, g)) g.length) := rfl
  rw [hF]
  generalize kE k (t, s, b, m, g) = qE at *
  generalize kD k (t, s, b, m, g) = qD at *
  generalize kC k (t, s, b, m, g) = qC at *
  generalize kB k (t, s, b, m, g) = qB at *
  generalize kA k (t, s, b, m, g) = qA at *
  show VW _ _ ([.v true sFi (mkR gNodeS 3 k t.length, mkR gIntS 1 qA s.length, mkR gBarS 2 qB b.length, mkII qC m m.length, mkR gBoolS 1 qD g.length), .v false (.int .i64) (k), D, D, D, D, D, D, D, D, D, D, D, D, D, D, D, D, D, D, D, D, D, D, D, D, D, D, D, D, D, D, D, D, D, D]) _
  repeat refine VW.seq ?_
  refine VW.regl hT fun K hK => ?_
  simp only [wq, simprocAttr]
  refine hK _ ?_
  clear hK K
  try refine vthen_n ?_
  repeat refine VW.seq ?_
  refine VW.regl hT fun K hK => ?_
  simp only [wq, simprocAttr]
  refine vcall_of (heldNodeS_vc t.length k ha hk0 (by omega)) ?_
  rw [← dA]
  simp only [wq, simprocAttr]
  refine hK _ ?_
  clear hK K
  try refine vthen_n ?_
  repeat refine VW.seq ?_
  refine VW.regl hT fun K hK => ?_
  simp only [wq, simprocAttr]
  refine hK _ ?_
  clear hK K
  try refine vthen_n ?_
  repeat refine VW.seq ?_
  refine VW.cond rfl (fun hc => ?_) (fun hc => ?_)
  · have hc : qA < 0 := of_decide_eq_true hc
    omega
  refine VW.skip (vthen_n ?_)
  repeat refine VW.seq ?_
  refine VW.regl hT fun K hK => ?_
  simp only [wq, simprocAttr]
  refine vcall_of (heldIntS_vc s.length qA hb (by omega) (by omega)) ?_
  rw [← dB]
  simp only [wq, simprocAttr]
  refine hK _ ?_
  clear hK K
  try refine vthen_n ?_
  repeat refine VW.seq ?_
  refine VW.regl hT fun K hK => ?_
  simp only [wq, simprocAttr]
  refine hK _ ?_
  clear hK K
  try refine vthen_n ?_
  repeat refine VW.seq ?_
  refine VW.cond rfl (fun hc => ?_) (fun hc => ?_)
  · have hc : qB < 0 := of_decide_eq_true hc
    omega
  refine VW.skip (vthen_n ?_)
  repeat refine VW.seq ?_
  refine VW.regl hT fun K hK => ?_
  simp only [wq, simprocAttr]
  refine vcall_of (heldBarS_vc b.length qB hcc (by omega) (by omega)) ?_
  rw [← dC]
  simp only [wq, simprocAttr]
  refine hK _ ?_
  clear hK K
  try refine vthen_n ?_
  repeat refine VW.seq ?_
  refine VW.regl hT fun K hK => ?_
  simp only [wq, simprocAttr]
  refine hK _ ?_
  clear hK K
  try refine vthen_n ?_
  repeat refine VW.seq ?_
  refine VW.cond rfl (fun hc => ?_) (fun hc => ?_)
  · have hc : qC < 0 := of_decide_eq_true hc
    omega
  refine VW.skip (vthen_n ?_)
  repeat refine VW.seq ?_
  refine VW.regl hT fun K hK => ?_
  simp only [wq, simprocAttr]
  refine vcall_of (heldIntSS_vc m qC hdd he (by omega) (by omega)) ?_
  rw [← dD]
  simp only [wq, simprocAttr]
  refine hK _ ?_
  clear hK K
  try refine vthen_n ?_
  repeat refine VW.seq ?_
  refine VW.regl hT fun K hK => ?_
  simp only [wq, simprocAttr]
  refine hK _ ?_
  clear hK K
  try refine vthen_n ?_
  repeat refine VW.seq ?_
  refine VW.cond rfl (fun hc => ?_) (fun hc => ?_)
  · have hc : qD < 0 := of_decide_eq_true hc
    omega
  refine VW.skip (vthen_n ?_)
  repeat refine VW.seq ?_
  refine VW.regl hT fun K hK => ?_
  simp only [wq, simprocAttr]
  refine vcall_of (heldGuard_vc g.length qD hf (by omega) (by omega)) ?_
  rw [← dE]
  simp only [wq, simprocAttr]
  refine hK _ ?_
  clear hK K
  try refine vthen_n ?_
  repeat refine VW.seq ?_
  refine VW.regl hT fun K hK => ?_
  simp only [wq, simprocAttr]
  refine hK _ ?_
  clear hK K
  try refine vthen_n ?_
  repeat refine VW.seq ?_
  refine VW.cond rfl (fun hc => ?_) (fun hc => ?_)
  · have hc : qE < 0 := of_decide_eq_true hc
    omega
  refine VW.skip (vthen_n ?_)
  repeat refine VW.seq ?_
  refine VW.regl hT fun K hK => ?_
  simp only [wq, simprocAttr]
  refine hK _ ?_
  clear hK K
  try refine vthen_n ?_
  exact VW.ret ⟨.inl rfl, _, rfl, rfl⟩
abbrev fab0 : Fab := ([], [], [], [], [])
theorem markGuard0 (k : Int) : VC Tryz.prog 90 [.v true sG [], .v false (.int .i64) (k)] (· = .v false (.int .i64) (k)) := by
  refine VC.of_body hT Tryz.func90 rfl (by kernel_rfl) [(.tmp 4, false, .int .i64)] (by kernel_rfl) ?_
  show VW _ _ ([.v true sG [], .v false (.int .i64) (k), D, D, D, D, D, D, D, D]) _
  repeat refine VW.seq ?_
  refine VW.regl hT fun K hK => ?_
  simp only [wq, simprocAttr]
  refine hK _ ?_
  clear hK K
  try refine vthen_n ?_
  repeat refine VW.seq ?_
  refine VW.regl hT fun K hK => ?_
  simp only [wq, simprocAttr]
  refine vcall_of (markBoolS0 k) ?_
  simp only [wq, simprocAttr]
  refine hK _ ?_
  clear hK K
  try refine vthen_n ?_
  repeat refine VW.seq ?_
  refine VW.regl hT fun K hK => ?_
  simp only [wq, simprocAttr]
  refine hK _ ?_
  clear hK K
  try refine vthen_n ?_
  exact VW.ret ⟨.inl rfl, _, rfl, rfl⟩
set_option maxRecDepth 20000 in
theorem markFabric0 (k : Int) : VC Tryz.prog 34 [.v true sFi fab0, .v false (.int .i64) (k)] (· = .v false (.int .i64) (k)) := by
  refine VC.of_body hT Tryz.func34 rfl (by kernel_rfl) [(.tmp 4, false, .int .i64)] (by kernel_rfl) ?_
  show VW _ _ ([.v true sFi ([], [], [], [], []), .v false (.int .i64) (k), D, D, D, D, D, D, D, D, D, D, D, D, D, D, D, D, D, D, D, D, D, D, D, D]) _
  repeat refine VW.seq ?_
  refine VW.regl hT fun K hK => ?_
  simp only [wq, simprocAttr]
  refine hK _ ?_
  clear hK K
  try refine vthen_n ?_
  repeat refine VW.seq ?_
  refine VW.regl hT fun K hK => ?_
  simp only [wq, simprocAttr]
  refine vcall_of (markNodeS0 k) ?_
  simp only [wq, simprocAttr]
  refine hK _ ?_
  clear hK K
  try refine vthen_n ?_
  repeat refine VW.seq ?_
  refine VW.regl hT fun K hK => ?_
  simp only [wq, simprocAttr]
  refine vcall_of (markIntS0 k) ?_
  simp only [wq, simprocAttr]
  refine hK _ ?_
  clear hK K
  try refine vthen_n ?_
  repeat refine VW.seq ?_
  refine VW.regl hT fun K hK => ?_
  simp only [wq, simprocAttr]
  refine vcall_of (markBarS0 k) ?_
  simp only [wq, simprocAttr]
  refine hK _ ?_
  clear hK K
  try refine vthen_n ?_
  repeat refine VW.seq ?_
  refine VW.regl hT fun K hK => ?_
  simp only [wq, simprocAttr]
  refine vcall_of (markIntSS0 k) ?_
  simp only [wq, simprocAttr]
  refine hK _ ?_
  clear hK K
  try refine vthen_n ?_
  repeat refine VW.seq ?_
  refine VW.regl hT fun K hK => ?_
  simp only [wq, simprocAttr]
  refine vcall_of (markGuard0 k) ?_
  simp only [wq, simprocAttr]
  refine hK _ ?_
  clear hK K
  try refine vthen_n ?_
  repeat refine VW.seq ?_
  refine VW.regl hT fun K hK => ?_
  simp only [wq, simprocAttr]
  refine hK _ ?_
  clear hK K
  try refine vthen_n ?_
  exact VW.ret ⟨.inl rfl, _, rfl, rfl⟩
end Go.Proofs.YtmechjnfeidnkaaGreat.V.W
end
section
/- Marks on any fabric, given for good. No condition. -/
set_option linter.unusedVariables false
set_option linter.unnecessarySimpa false
set_option linter.unusedSimpArgs false
namespace Go.Proofs.YtmechjnfeidnkaaGreat.V
open Go Go.RowKit
theorem VX.of_nilA {P : Program} {f : FuncId} {args : List PV} {i : Nat} {agg : Bool} {e : TypeId} {s : Sh} {R : PV → Prop} (h : VC P f (args.set i (.v agg (.sl e s) [])) R) (ha : args[i]? = some (.root (.val agg) (.sl e s) .own [])) : VX P f args i (fun pv ot => R pv ∧ ot = .root (.val agg) (.sl e s) .own []) := by
  refine ⟨h.fn, fun Z F w vals h1 h2 h3 h4 h5 => ?_⟩
  have hi := (List.getElem?_eq_some_iff.1 ha).1
  have hil : i < vals.length := by omega
  obtain ⟨cs, ad, B, q1, q2, q3, q4⟩ := h5 _ _ ha (List.getElem?_eq_getElem hil)
  obtain ⟨m1, m2, m3⟩ := q1
  refine (h.run Z w vals h1 (by simpa using h3) (fun j pv v hp hv => ?_)).mono fun e0 w' ⟨v, pv, c1, c2, c3, c4⟩ => ?_
  · have hpp := hp
    have hvv := hv
    by_cases hj : j = i
    · subst hj
      rw [List.getElem?_set_self hi] at hpp
      obtain rfl := Option.some.inj hpp
      rw [List.getElem?_eq_getElem hil] at hvv
      obtain rfl := Option.some.inj hvv
      refine ⟨cs, m1, ?_⟩
      rcases id q4 with ⟨A, hA, _⟩ | ⟨g, cap, cur, rows, Bs, hA, _, k3, k4, _⟩
      · exact ⟨A, 0, hA, Nat.le_refl _, Nat.zero_le _, fun hp => by simp at hp⟩
      · exact ⟨_, cap, hA, k3, Nat.zero_le _, fun hp => by simp at hp⟩
    · rw [List.getElem?_set_ne (fun h => hj h.symm)] at hpp
      exact h4 j _ _ hj hpp hvv
  · have hO : ∀ u, vals[i]? = some u → (PV.root (.val agg) (.sl e s) .own [] : PV) = .dead ∨ GRep w' Z F (.root (.val agg) (.sl e s) .own []) u := fun u hu => by
      rw [List.getElem?_eq_getElem hil] at hu
      obtain rfl := Option.some.inj hu
      refine .inr ⟨cs, ad, B, ⟨m1, m2, m3⟩, q2, q3, ?_⟩
      exact q4.frame (fun _ h => h) (fun b hb => c2.block b (by
        rcases hb with hb | hb
        · exact h1 b hb
        · exact (h2 b (q2 b hb)).1))
    have hx : ExtF w w' F := ⟨c2.os, c2.tape, c2.output, c2.size, fun b hb _ => c2.block b hb⟩
    have hFw : ∀ b, F b → (F b ∨ w.heap.size ≤ b) ∧ b < w'.heap.size := fun b hb => ⟨.inl hb, Nat.lt_of_lt_of_le (h2 b hb).1 c2.size⟩
    rcases PV.root_or pv with ⟨k, s', fl, x, rfl⟩ | hpv
    · obtain ⟨cs', ad', B', Fd, g1, g2, g3, g4, g5⟩ := c4
      refine ⟨v, _, _, Fd, F, c1, hx, ⟨c3, rfl⟩, ⟨cs', ad', B', g1, g2, g3, g4⟩, hO, fun b hb => ?_, fun b hb hF => ?_⟩
      · rcases hb with hb | hb
        · exact ⟨.inr (g5 b hb).1, (g5 b hb).2⟩
        · exact hFw b hb
      · have := (h2 b hF).1
        have := (g5 b hb).1
        omega
    · refine ⟨v, pv, _, Free, F, c1, hx, ⟨c3, rfl⟩, ?_, hO, fun b hb => ?_, fun b hb => hb.elim⟩
      · cases pv with
        | root => cases hpv
        | _ => exact c4
      · rcases hb with hb | hb
        · exact hb.elim
        · exact hFw b hb
end Go.Proofs.YtmechjnfeidnkaaGreat.V
namespace Go.Proofs.YtmechjnfeidnkaaGreat.V.W
open Go Go.RowKit
theorem markGuardA_vx (g : List Bool) (k : Int) (hl : g.length ≤ 2000000) (hk0 : 0 ≤ k) (hk1 : k ≤ 100000000) : VX Tryz.prog 90 [.root (.val true) sG .own g, .v false (.int .i64) (k)] 0 (fun pv ot => pv = .v false (.int .i64) (k + ((1 * g.length : Nat) : Int)) ∧ ot = .root (.val true) sG .own (mkR gBoolS 1 k g.length)) := by
  rcases Nat.eq_zero_or_pos g.length with h | h
  · have h := List.eq_nil_of_length_eq_zero h
    subst h
    refine (VX.of_nilA (args := [.root (.val true) sG .own [], .v false (.int .i64) (k)]) (i := 0) (markGuard0 k) rfl).mono fun pv ot h => ⟨?_, h.2⟩
    rw [h.1]
    simp
  · exact markGuard_vx g k h hl hk0 hk1
set_option maxRecDepth 20000 in
set_option maxHeartbeats 1000000 in
theorem markFabricA_vx (x : Fab) (k : Int) (hx : FabS x) (hk0 : 0 ≤ k) (hk1 : k ≤ 1000000) : VX Tryz.prog 34 [.root (.val true) sFi fFab x, .v false (.int .i64) (k)] 0 (fun pv ot => pv = .v false (.int .i64) (kE k x)) := by
  obtain ⟨t, s, b, m, g⟩ := x
  have ha : t.length ≤ 2000000 := hx.a
  have hb : s.length ≤ 2000000 := hx.b
  have hcc : b.length ≤ 2000000 := hx.c
  have hdd : m.length ≤ 2000000 := hx.d
  have he : tot m m.length ≤ 2000000 := hx.e
  have hf : g.length ≤ 2000000 := hx.f
  refine VX.of_moved hT Tryz.func34 rfl (by kernel_rfl) [(.tmp 4, false, .int .i64)] (by kernel_rfl) (Nat.zero_lt_succ _) ?_
  show VW _ _ ([.root (.val true) sFi fFab (t, s, b, m, g), .v false (.int .i64) (k), D, D, D, D, D, D, D, D, D, D, D, D, D, D, D, D, D, D, D, D, D, D, D, D]) _
  have dA : kA k (t, s, b, m, g) = k + ((3 * t.length : Nat) : Int) := rfl
  have dB : kB k (t, s, b, m, g) = kA k (t, s, b, m, g) + ((1 * s.length : Nat) : Int) := rfl
  have dC : kC k (t, s, b, m, g) = kB k (t, s, b, m, g) + ((2 * b.length : Nat) : Int) := rfl
  have dD : kD k (t, s, b, m, g) = kC k (t, s, b, m, g) + (tot m m.length : Nat) := rfl
  have dE : kE k (t, s, b, m, g) = kD k (t, s, b, m, g) + ((1 * g.length : Nat) : Int) := rfl
  generalize kE k (t, s, b, m, g) = qE at *
  generalize kD k (t, s, b, m, g) = qD at *
  generalize kC k (t, s, b, m, g) = qC at *
  generalize kB k (t, s, b, m, g) = qB at *
  generalize kA k (t, s, b, m, g) = qA at *
  repeat refine VW.seq ?_
  refine VW.regl hT fun K hK => ?_
  simp only [wq, simprocAttr]
  refine hK _ ?_
  clear hK K
  try refine vthen_n ?_
  repeat refine VW.seq ?_
  refine VW.regl hT fun K hK => ?_
  simp only [wq, simprocAttr]
  refine vcall_io 0 ?_
  simp only [wq, simprocAttr]
  refine vxcall_of (markNodeS_vx t k ha hk0 (by omega)) ?_
  rw [← dA]
  simp only [wq, simprocAttr]
  refine hK _ ?_
  clear hK K
  try refine vthen_n ?_
  repeat refine VW.seq ?_
  refine VW.regl hT fun K hK => ?_
  simp only [wq, simprocAttr]
  refine vcall_io 0 ?_
  simp only [wq, simprocAttr]
  refine vxcall_of (markIntS_vx s qA hb (by omega) (by omega)) ?_
  rw [← dB]
  simp only [wq, simprocAttr]
  refine hK _ ?_
  clear hK K
  try refine vthen_n ?_
  repeat refine VW.seq ?_
  refine VW.regl hT fun K hK => ?_
  simp only [wq, simprocAttr]
  refine vcall_io 0 ?_
  simp only [wq, simprocAttr]
  refine vxcall_of (markBarS_vx b qB hcc (by omega) (by omega)) ?_
  rw [← dC]
  simp only [wq, simprocAttr]
  refine hK _ ?_
  clear hK K
  try refine vthen_n ?_
  repeat refine VW.seq ?_
  refine VW.regl hT fun K hK => ?_
  simp only [wq, simprocAttr]
  refine vcall_io 0 ?_
  simp only [wq, simprocAttr]
  refine vxcall_of (markIntSS_vx m qC hdd he (by omega) (by omega)) ?_
  rw [← dD]
  simp only [wq, simprocAttr]
  refine hK _ ?_
  clear hK K
  try refine vthen_n ?_
  repeat refine VW.seq ?_
  refine VW.regl hT fun K hK => ?_
  simp only [wq, simprocAttr]
  refine vcall_io 0 ?_
  simp only [wq, simprocAttr]
  refine vxcall_of (markGuardA_vx g qD hf (by omega) (by omega)) ?_
  rw [← dE]
  simp only [wq, simprocAttr]
  refine hK _ ?_
  clear hK K
  try refine vthen_n ?_
  repeat refine VW.seq ?_
  refine VW.regl hT fun K hK => ?_
  simp only [wq, simprocAttr]
  refine hK _ ?_
  clear hK K
  try refine vthen_n ?_
  exact VW.ret ⟨.inl rfl, _, _, rfl, rfl⟩
end Go.Proofs.YtmechjnfeidnkaaGreat.V.W
end
section
/- What a good target says, and words loaded: plain words and impl.LoadWords. No condition. -/
set_option linter.unusedVariables false
set_option linter.unnecessarySimpa false
set_option linter.unusedSimpArgs false
namespace Go.Proofs.YtmechjnfeidnkaaGreat.V.W
open Go Go.RowKit
/-- a fabric's parts, if it is valid -/
theorem fab_parts {t : List Nd} {s : List Int} {b : List (Int × Int)} {m : List (List Int)} {g : List Bool} (h : fabOk (t, s, b, m, g) = true) : newOk t s = true ∧ allBars t s = b ∧ m.length = s.length ∧ guardOk t g = true ∧ (∀ k, k < m.length → ((m.getD k []).length : Int) = s.getD k 0 ∧ words (m.getD k []) = true) := by
  rw [fabOk, Bool.and_eq_true, Bool.and_eq_true, Bool.and_eq_true, Bool.and_eq_true] at h
  obtain ⟨h1, h2, h3, h4, h5⟩ := h
  have h5 : ((List.range m.length).all fun k => !memBad m s k) = true := h5
  refine ⟨h1, of_decide_eq_true h2, ?_, h4, fun k hk => ?_⟩
  · have h3 : ((m.length : Int) == (s.length : Int)) = true := h3
    have := eq_of_beq h3
    omega
  · have := List.all_eq_true.1 h5 k (List.mem_range.2 hk)
    rw [Bool.not_eq_true', memBad, Bool.or_eq_false_iff, Bool.not_eq_false', Bool.not_eq_false'] at this
    exact ⟨eq_of_beq this.1, this.2⟩
/-- an access that goes well lies in one row of memory -/
theorem target_good {t : List Nd} {s : List Int} {b : List (Int × Int)} {m : List (List Int)} {g : List Bool} {fr a l k : Int} (ht : targetOf (t, s, b, m, g) fr a l = (k, 0)) (ha : a ≤ 9223372036854775807) : ∃ j lo n : Nat, k = (j : Int) ∧ l = (n : Int) ∧ j < m.length ∧ j < b.length ∧ IntKind.i64.wrap (a - (b.getD j zb).2) = (lo : Int) ∧ 1 ≤ n ∧ lo + n ≤ (m.getD j []).length ∧ (m.getD j []).length ≤ 64 ∧ fabOk (t, s, b, m, g) = true := by
  by_cases hf : fabOk (t, s, b, m, g) = true
  case neg =>
    rw [targetOf, if_neg hf] at ht
    cases ht
  rw [targetOf, if_pos hf] at ht
  have htg : target (t, s, b, m, g) fr a l = if (inB fr 0 (t.length - 1) && inB l 1 64) = true then if ownerOf t b a < 0 then (0, 1) else if l > room (b.getD (ownerOf t b a).toNat zb) a then (ownerOf t b a, 3) else if canReach t g fr (ownerOf t b a) = true then (ownerOf t b a, 0) else (ownerOf t b a, 2) else (0, 1) := rfl
  rw [htg] at ht
  split at ht
  case isFalse => cases ht
  rename_i hin
  split at ht
  · cases ht
  rename_i hk0
  split at ht
  · cases ht
  rename_i hroom
  split at ht
  case isFalse => cases ht
  obtain rfl := (Prod.mk.inj ht).1
  rw [Bool.and_eq_true] at hin
  have h64 := inB_iff.1 hin.2
  obtain ⟨h1, h2, h3, h4, h5⟩ := fab_parts hf
  obtain ⟨j, e1, e2, e3, e4⟩ := (owner_lt t b a).resolve_left (by omega)
  obtain ⟨w1, w2, w3, w4⟩ := fab_win hf (a := a) e2
  have w1 : 0 ≤ (b.getD j zb).1 := w1
  have w2 : (b.getD j zb).1 ≤ 65536 := w2
  have w3 : 0 ≤ (b.getD j zb).2 := w3
  have w4 : (b.getD j zb).2 ≤ 65536 := w4
  rw [e1, Int.toNat_natCast] at hroom
  rw [owns, Bool.and_eq_true, covB, Bool.and_eq_true, Bool.and_eq_true] at e4
  have hdev : ¬ (t.getD j z).2.2 = 0 := by simpa using e4.1
  have hge : a ≥ (b.getD j zb).2 := of_decide_eq_true e4.2.2.1
  have hn := h1
  rw [newOk, fits, Bool.and_eq_true, Bool.and_eq_true] at hn
  have hok : treeOk t = true := (sizesOk_iff.1 hn.1.1).1
  have hsl := (sizesOk_iff.1 hn.1.1).2.1
  have hs64 : s.getD j 0 ≤ 64 := by
    have h2 : (s.any fun x => decide (x > 64)) = false := by simpa using hn.2
    rw [List.any_eq_false] at h2
    have := h2 _ (getD_mem (show j < s.length by omega))
    simpa using this
  have hw : (b.getD j zb).1 = ((s.getD j 0).toNat : Int) := by
    rw [← h2, allBars, bars_get _ _ _ e2]
    show ((win t s j : Nat) : Int) = _
    rw [win_eq hok s e2, if_neg hdev]
  have hml := (h5 j (by omega)).1
  have e5 : IntKind.i64.wrap (a - (b.getD j zb).2) = a - (b.getD j zb).2 := wrap64 (by omega) (by omega)
  have e6 : room (b.getD j zb) a = (b.getD j zb).1 - (a - (b.getD j zb).2) := by
    show IntKind.i64.wrap ((b.getD j zb).1 - IntKind.i64.wrap (a - (b.getD j zb).2)) = _
    rw [e5]
    exact wrap64 (by omega) (by omega)
  rw [e6] at hroom
  exact ⟨j, (a - (b.getD j zb).2).toNat, l.toNat, e1, by omega, by omega, by omega, by omega, by omega, by omega, by omega, hf⟩
/-- what is loaded -/
def loadW (x : Fab) (fr a l : Int) : List Int × Int :=
  if (targetOf x fr a l).2 = 0 then (((x.2.2.2.1.getD (targetOf x fr a l).1.toNat []).drop (IntKind.i64.wrap (a - (x.2.2.1.getD (targetOf x fr a l).1.toNat zb).2)).toNat).take l.toNat, 0) else ([], (targetOf x fr a l).2)
end Go.Proofs.YtmechjnfeidnkaaGreat.V.W
end
section
/- Words loaded: impl.LoadWords and spec.LoadWords walked. No condition. -/
set_option linter.unusedVariables false
set_option linter.unnecessarySimpa false
set_option linter.unusedSimpArgs false
namespace Go.Proofs.YtmechjnfeidnkaaGreat.V.W
open Go Go.RowKit
abbrev rIW (p : List Int × Int) : PV := .root (.tup [false, false]) (.pr sI (.int .i64)) (.pr .own .fz) p
set_option maxRecDepth 20000 in
set_option maxHeartbeats 1000000 in
theorem loadWords_vc (x : Fab) (fr a l : Int) (hx : FabL x) (ha : a ≤ 9223372036854775807) : VC Tryz.prog 21 [.v true sFi x, .v false (.int .i64) (fr), .v false (.int .i64) (a), .v false (.int .i64) (l)] (· = rIW (loadW x fr a l)) := by
  refine VC.of_body hT Tryz.func21 rfl (by kernel_rfl) [(.tmp 8, false, sI), (.tmp 9, false, .int .i64)] (by kernel_rfl) ?_
  have htv := targetOf_vc x fr a l hx
  generalize hr : loadW x fr a l = r
  rw [loadW] at hr
  obtain ⟨t, s, b, m, g⟩ := x
  have hg : ∀ k : Int, targetOf (t, s, b, m, g) fr a l = (k, 0) → _ := fun k h => target_good h ha
  generalize targetOf (t, s, b, m, g) fr a l = p at *
  obtain ⟨k, c⟩ := p
  show VW _ _ ([.v true sFi (t, s, b, m, g), .v false (.int .i64) (fr), .v false (.int .i64) (a), .v false (.int .i64) (l), D, D, D, D, D, D, D, D, D, D, D, D, D, D, D, D, D, D, D, D, D, D, D, D, D, D, D, D, D, D, D, D, D, D, D, D, D, D, D]) _
  repeat refine VW.seq ?_
  refine VW.regl hT fun K hK => ?_
  simp only [wq, simprocAttr]
  refine hK _ ?_
  clear hK K
  try refine vthen_n ?_
  repeat refine VW.seq ?_
  refine VW.regl hT fun K hK => ?_
  simp only [wq, simprocAttr]
  refine vcall_of htv ?_
  simp only [wq, simprocAttr]
  refine hK _ ?_
  clear hK K
  try refine vthen_n ?_
  repeat refine VW.seq ?_
  refine VW.regl hT fun K hK => ?_
  simp only [wq, simprocAttr]
  refine hK _ ?_
  clear hK K
  try refine vthen_n ?_
  repeat refine VW.seq ?_
  refine VW.cond rfl (fun hc => ?_) (fun hc => ?_)
  · repeat refine VW.seq ?_
    refine VW.regl hT fun K hK => ?_
    simp only [wq, simprocAttr]
    refine hK _ ?_
    clear hK K
    try refine vthen_n ?_
    refine VW.ret ⟨.inl rfl, _, rfl, ?_⟩
    rw [← hr, if_neg (by simpa using hc)]
    rfl
  have hc : c = 0 := by simpa using hc
  subst hc
  obtain ⟨j, lo, n, rfl, rfl, h1, h2, h3, h4, h5, h6, hf⟩ := hg k rfl
  rw [if_pos rfl] at hr
  have hr : (((m.getD ((j : Int)).toNat []).drop (IntKind.i64.wrap (a - (b.getD ((j : Int)).toNat zb).2)).toNat).take ((n : Int)).toNat, (0 : Int)) = r := hr
  rw [Int.toNat_natCast, Int.toNat_natCast, h3, Int.toNat_natCast] at hr
  refine VW.skip (vthen_n ?_)
  repeat refine VW.seq ?_
  refine VW.regl hT fun K hK => ?_
  simp only [wq, simprocAttr]
  refine ⟨decide_eq_true ⟨Int.natCast_nonneg _, by show (j : Int) < (b.length : Int); omega⟩, ?_⟩
  refine hK _ ?_
  clear hK K
  try refine vthen_n ?_
  rw [show IntKind.i64.wrap (a - (b.getD j zb).2) = (lo : Int) from h3]
  repeat refine VW.seq ?_
  refine VW.regl hT fun K hK => ?_
  simp only [wq, simprocAttr]
  rw [show IntKind.i64.wrap ((lo : Int) + (n : Int)) = ((lo + n : Nat) : Int) from by rw [wrap64 (by omega) (by omega)]; omega]
  refine ⟨decide_eq_true ⟨Int.natCast_nonneg _, by show (j : Int) < (m.length : Int); omega⟩, decide_eq_true ⟨Int.natCast_nonneg _, by omega, by show ((lo + n : Nat) : Int) ≤ ((m.getD j []).length : Int); omega⟩, ?_⟩
  rw [show (List.drop lo (List.take (((lo + n : Nat) : Int)).toNat (m.getD j []))) = ((m.getD j []).drop lo).take n from by rw [Int.toNat_natCast, List.drop_take]; congr 1; omega]
  refine vcall_of (cloneI_vc _ (by rw [List.length_take]; omega)) ?_
  simp only [wq, simprocAttr]
  refine hK _ ?_
  clear hK K
  try refine vthen_n ?_
  refine VW.ret ⟨.inl rfl, _, rfl, ?_⟩
  rw [← hr]
set_option maxRecDepth 20000 in
set_option maxHeartbeats 1000000 in
theorem specLoadWords_vc (x : Fab) (fr a l : Int) (hx : FabL x) (ha : a ≤ 9223372036854775807) : VC Tryz.prog 32 [.v true sFi x, .v false (.int .i64) (fr), .v false (.int .i64) (a), .v false (.int .i64) (l)] (· = rIW (loadW x fr a l)) := by
  refine VC.of_body hT Tryz.func32 rfl (by kernel_rfl) [(.tmp 8, false, sI), (.tmp 9, false, .int .i64)] (by kernel_rfl) ?_
  have htv := specTargetOf_vc x fr a l hx ha
  generalize hr : loadW x fr a l = r
  rw [loadW] at hr
  obtain ⟨t, s, b, m, g⟩ := x
  have hg : ∀ k : Int, targetOf (t, s, b, m, g) fr a l = (k, 0) → _ := fun k h => target_good h ha
  generalize targetOf (t, s, b, m, g) fr a l = p at *
  obtain ⟨k, c⟩ := p
  show VW _ _ ([.v true sFi (t, s, b, m, g), .v false (.int .i64) (fr), .v false (.int .i64) (a), .v false (.int .i64) (l), D, D, D, D, D, D, D, D, D, D, D, D, D, D, D, D, D, D, D, D, D, D, D, D, D, D, D, D, D, D, D, D, D, D, D, D, D, D, D, D, D, D]) _
  repeat refine VW.seq ?_
  refine VW.regl hT fun K hK => ?_
  simp only [wq, simprocAttr]
  refine hK _ ?_
  clear hK K
  try refine vthen_n ?_
  repeat refine VW.seq ?_
  refine VW.regl hT fun K hK => ?_
  simp only [wq, simprocAttr]
  refine vcall_of htv ?_
  simp only [wq, simprocAttr]
  refine hK _ ?_
  clear hK K
  try refine vthen_n ?_
  repeat refine VW.seq ?_
  refine VW.regl hT fun K hK => ?_
  simp only [wq, simprocAttr]
  refine hK _ ?_
  clear hK K
  try refine vthen_n ?_
  repeat refine VW.seq ?_
  refine VW.cond rfl (fun hc => ?_) (fun hc => ?_)
  · repeat refine VW.seq ?_
    refine VW.regl hT fun K hK => ?_
    simp only [wq, simprocAttr]
    refine hK _ ?_
    clear hK K
    try refine vthen_n ?_
    refine VW.ret ⟨.inl rfl, _, rfl, ?_⟩
    rw [← hr, if_neg (by simpa using hc)]
    rfl
  have hc : c = 0 := by simpa using hc
  subst hc
  obtain ⟨j, lo, n, rfl, rfl, h1, h2, h3, h4, h5, h6, hf⟩ := hg k rfl
  rw [if_pos rfl] at hr
  have hr : (((m.getD ((j : Int)).toNat []).drop (IntKind.i64.wrap (a - (b.getD ((j : Int)).toNat zb).2)).toNat).take ((n : Int)).toNat, (0 : Int)) = r := hr
  rw [Int.toNat_natCast, Int.toNat_natCast, h3, Int.toNat_natCast] at hr
  refine VW.skip (vthen_n ?_)
  repeat refine VW.seq ?_
  refine VW.regl hT fun K hK => ?_
  simp only [wq, simprocAttr]
  refine ⟨decide_eq_true ⟨Int.natCast_nonneg _, by show (j : Int) < (b.length : Int); omega⟩, ?_⟩
  refine hK _ ?_
  clear hK K
  try refine vthen_n ?_
  rw [show IntKind.i64.wrap (a - (b.getD j zb).2) = (lo : Int) from h3]
  repeat refine VW.seq ?_
  refine VW.regl hT fun K hK => ?_
  simp only [wq, simprocAttr]
  rw [show IntKind.i64.wrap ((lo : Int) + (n : Int)) = ((lo + n : Nat) : Int) from by rw [wrap64 (by omega) (by omega)]; omega]
  refine ⟨decide_eq_true ⟨Int.natCast_nonneg _, by show (j : Int) < (m.length : Int); omega⟩, decide_eq_true ⟨Int.natCast_nonneg _, by omega, by show ((lo + n : Nat) : Int) ≤ ((m.getD j []).length : Int); omega⟩, ?_⟩
  rw [show (List.drop lo (List.take (((lo + n : Nat) : Int)).toNat (m.getD j []))) = ((m.getD j []).drop lo).take n from by rw [Int.toNat_natCast, List.drop_take]; congr 1; omega]
  refine ⟨by simp only [limOk, List.length_take, List.length_drop]; exact decide_eq_true (by omega), ?_⟩
  refine hK _ ?_
  clear hK K
  try refine vthen_n ?_
  refine VW.ret ⟨.inl rfl, _, rfl, ?_⟩
  rw [← hr]
theorem loadW_len (x : Fab) (fr a l : Int) (ha : a ≤ 9223372036854775807) : (loadW x fr a l).1.length ≤ 64 := by
  rw [loadW]
  split
  · rename_i h
    obtain ⟨t, s, b, m, g⟩ := x
    obtain ⟨j, lo, n, h0, h1, h2, h3, h4, h5, h6, h7, h8⟩ := target_good (t := t) (s := s) (b := b) (m := m) (g := g) (fr := fr) (a := a) (l := l) (k := (targetOf (t, s, b, m, g) fr a l).1) (Prod.ext rfl h) ha
    rw [h0, Int.toNat_natCast]
    show ((List.take l.toNat (List.drop _ (m.getD j [])))).length ≤ 64
    rw [List.length_take, List.length_drop]
    omega
  · exact Nat.zero_le _
end Go.Proofs.YtmechjnfeidnkaaGreat.V.W
end
section
/- The law FnExactLoadWords walked. No condition. -/
set_option linter.unusedVariables false
set_option linter.unnecessarySimpa false
set_option linter.unusedSimpArgs false
namespace Go.Proofs.YtmechjnfeidnkaaGreat.V.W
open Go Go.RowKit
theorem fab_s {x : Fab} (h : fabSize x ≤ 1048576) : FabS x := by
  obtain ⟨t, s, b, m, g⟩ := x
  unfold fabSize at h
  have h : t.length + s.length + b.length + (m.length + tot m m.length) + g.length ≤ 1048576 := h
  exact ⟨by show t.length ≤ _; omega, by show s.length ≤ _; omega, by show b.length ≤ _; omega, by show m.length ≤ _; omega, by show tot m m.length ≤ _; omega, by show g.length ≤ _; omega⟩
theorem kE_pos (x : Fab) : 1 ≤ kE 1 x := by unfold kE kD kC kB kA; omega
set_option maxRecDepth 40000 in
set_option maxHeartbeats 4000000 in
theorem law_loadWords (x : Fab) (fr a l : Int) (w0 : wfS Tryz.prog sFs x) (w2 : wfS Tryz.prog (.int .i64) a) : VC Tryz.prog 8 [.v true sFs x, .v false (.int .i64) (fr), .v false (.int .i64) (a), .v false (.int .i64) (l)] (· = .v false .bool true) := by
  have hx := fab_wf w0
  have ha : a ≤ 9223372036854775807 := by
    have := w2
    simp [wfS, Lit.wf] at this
    exact this.2
  refine VC.of_body hT Tryz.func8 rfl (by kernel_rfl) [(.tmp 8, false, .bool)] (by kernel_rfl) ?_
  show VW _ _ ([.v true sFs x, .v false (.int .i64) (fr), .v false (.int .i64) (a), .v false (.int .i64) (l), D, D, D, D, D, D, D, D, D, D, D, D, D, D, D, D, D, D, D, D, D, D, D, D, D, D, D, D, D, D, D, D, D, D, D, D, D, D, D, D, D, D, D, D, D, D, D, D, D, D, D, D, D, D, D, D, D, D, D, D, D, D, D, D, D, D, D, D, D, D, D, D, D, D, D, D, D, D, D, D, D, D, D, D, D, D, D, D, D, D, D, D, D, D, D, D, D, D, D, D, D, D, D, D, D, D, D]) _
  repeat refine VW.seq ?_
  refine VW.regl hT fun K hK => ?_
  simp only [wq, simprocAttr]
  refine hK _ ?_
  clear hK K
  try refine vthen_n ?_
  repeat refine VW.seq ?_
  refine VW.regl hT fun K hK => ?_
  simp only [wq, simprocAttr]
  refine hK _ ?_
  clear hK K
  try refine vthen_n ?_
  repeat refine VW.seq ?_
  refine VW.regl hT fun K hK => ?_
  simp only [wq, simprocAttr]
  refine vcall_ex (szFabric_vc x _ hx (by decide) (by decide)) ?_
  rintro pv ⟨n, rfl, hn1, hn2⟩
  simp only [wq, simprocAttr]
  refine hK _ ?_
  clear hK K
  try refine vthen_n ?_
  repeat refine VW.seq ?_
  refine VW.regl hT fun K hK => ?_
  simp only [wq, simprocAttr]
  refine hK _ ?_
  clear hK K
  try refine vthen_n ?_
  repeat refine VW.seq ?_
  refine VW.cond rfl (fun hc => ?_) (fun hc => ?_)
  · repeat refine VW.seq ?_
    refine VW.regl hT fun K hK => ?_
    simp only [wq, simprocAttr]
    refine hK _ ?_
    clear hK K
    try refine vthen_n ?_
    exact VW.ret ⟨.inl rfl, _, rfl, rfl⟩
  have hn := hn2 (by have : ¬ (n < 0) := of_decide_eq_false hc; omega)
  have hl := fab_small (x := x) (by have : ¬ (n < 0) := of_decide_eq_false hc; omega)
  refine VW.skip (vthen_n ?_)
  repeat refine VW.seq ?_
  refine VW.regl hT fun K hK => ?_
  simp only [wq, simprocAttr]
  refine vcall_of (toFabric_vc x hx) ?_
  simp only [wq, simprocAttr]
  refine vcall_of (specLoadWords_vc x fr a l hl ha) ?_
  simp only [wq, simprocAttr]
  refine hK _ ?_
  clear hK K
  try refine vthen_n ?_
  repeat refine VW.seq ?_
  refine VW.regl hT fun K hK => ?_
  simp only [wq, simprocAttr]
  refine vcall_of (toFabric_vc x hx) ?_
  simp only [wq, simprocAttr]
  refine hK _ ?_
  clear hK K
  try refine vthen_n ?_
  repeat refine VW.seq ?_
  refine VW.regl hT fun K hK => ?_
  simp only [wq, simprocAttr]
  refine vcall_of (loadWords_vc x fr a l hl ha) ?_
  simp only [wq, simprocAttr]
  refine hK _ ?_
  clear hK K
  try refine vthen_n ?_
  have hw := loadW_len x fr a l ha
  have hlw := loadWords_vc x fr a l hl ha
  generalize loadW x fr a l = p at *
  obtain ⟨ws, c⟩ := p
  have hw : ws.length ≤ 64 := hw
  have hq := eqIntS_vc ws ws (by omega)
  have hs := fab_s (x := x) (by have : ¬ (n < 0) := of_decide_eq_false hc; omega)
  have hke := kE_pos x
  repeat refine VW.seq ?_
  refine VW.regl hT fun K hK => ?_
  simp only [wq, simprocAttr]
  refine vcall_of hq ?_
  simp only [wq, simprocAttr]
  refine hK _ ?_
  clear hK K
  try refine vthen_n ?_
  repeat refine VW.seq ?_
  refine VW.cond rfl (fun hc => ?_) (fun hc => ?_)
  · simp at hc
  refine VW.skip (vthen_n ?_)
  repeat refine VW.seq ?_
  refine VW.drawl hT hm (by kernel_rfl) fun K hK => ?_
  simp only [wq, simprocAttr]
  refine ⟨by kernel_rfl, by kernel_rfl, vcallD_of (toFabric_vc x hx) ?_⟩
  simp only [wq, simprocAttr]
  refine ⟨by kernel_rfl, vcallD_of (eqFabric_vc x x hx) ?_⟩
  simp only [wq, simprocAttr]
  refine hK _ ?_
  clear hK K
  try refine vthen_n ?_
  repeat refine VW.seq ?_
  refine VW.cond rfl (fun hc => ?_) (fun hc => ?_)
  · simp at hc
  refine VW.skip (vthen_n ?_)
  repeat refine VW.seq ?_
  refine VW.regl hT fun K hK => ?_
  simp only [wq, simprocAttr]
  refine hK _ ?_
  clear hK K
  try refine vthen_n ?_
  repeat refine VW.seq ?_
  refine VW.regl hT fun K hK => ?_
  simp only [wq, simprocAttr]
  refine vcall_mv 0 ?_
  simp only [wq, simprocAttr]
  refine vxcall_ex (markFabricA_vx x 1 hs (by decide) (by decide)) ?_
  rintro pv ot rfl
  simp only [wq, simprocAttr]
  refine hK _ ?_
  clear hK K
  try refine vthen_n ?_
  repeat refine VW.seq ?_
  refine VW.regl hT fun K hK => ?_
  simp only [wq, simprocAttr]
  refine vbr (fun h => ?_) (fun h => ?_) <;> simp only [wq, simprocAttr]
  case refine_2 =>
    have h : kE 1 x < 0 := of_decide_eq_true h
    omega
  refine vcall_of hq ?_
  simp only [wq, simprocAttr]
  refine hK _ ?_
  clear hK K
  try refine vthen_n ?_
  repeat refine VW.seq ?_
  refine VW.cond rfl (fun hc => ?_) (fun hc => ?_)
  · simp at hc
  refine VW.skip (vthen_n ?_)
  repeat refine VW.seq ?_
  refine VW.regl hT fun K hK => ?_
  simp only [wq, simprocAttr]
  refine hK _ ?_
  clear hK K
  try refine vthen_n ?_
  repeat refine VW.seq ?_
  refine VW.regl hT fun K hK => ?_
  simp only [wq, simprocAttr]
  refine vcall_io 0 ?_
  simp only [wq, simprocAttr]
  refine vxcall_of (markIntS_vx ws 1 (by omega) (by decide) (by decide)) ?_
  simp only [wq, simprocAttr]
  refine hK _ ?_
  clear hK K
  try refine vthen_n ?_
  repeat refine VW.seq ?_
  refine VW.regl hT fun K hK => ?_
  simp only [wq, simprocAttr]
  refine hK _ ?_
  clear hK K
  try refine vthen_n ?_
  repeat refine VW.seq ?_
  refine VW.regl hT fun K hK => ?_
  simp only [wq, simprocAttr]
  refine vcall_of (heldIntS_vc ws.length 1 (by omega) (by decide) (by decide)) ?_
  simp only [wq, simprocAttr]
  refine hK _ ?_
  clear hK K
  try refine vthen_n ?_
  repeat refine VW.seq ?_
  refine VW.regl hT fun K hK => ?_
  simp only [wq, simprocAttr]
  refine hK _ ?_
  clear hK K
  try refine vthen_n ?_
  repeat refine VW.seq ?_
  refine VW.cond rfl (fun hc => ?_) (fun hc => ?_)
  · have hc : 1 + ((1 * ws.length : Nat) : Int) < 0 := of_decide_eq_true hc
    omega
  refine VW.skip (vthen_n ?_)
  repeat refine VW.seq ?_
  refine VW.regl hT fun K hK => ?_
  simp only [wq, simprocAttr]
  refine hK _ ?_
  clear hK K
  try refine vthen_n ?_
  repeat refine VW.seq ?_
  refine VW.cond rfl (fun hc => ?_) (fun hc => ?_)
  · simp at hc
  refine VW.skip (vthen_n ?_)
  repeat refine VW.seq ?_
  refine VW.regl hT fun K hK => ?_
  simp only [wq, simprocAttr]
  refine vcall_of (toFabric_vc x hx) ?_
  simp only [wq, simprocAttr]
  refine vcall_of hlw ?_
  simp only [wq, simprocAttr]
  refine hK _ ?_
  clear hK K
  try refine vthen_n ?_
  repeat refine VW.seq ?_
  refine VW.regl hT fun K hK => ?_
  simp only [wq, simprocAttr]
  refine vcall_of hq ?_
  simp only [wq, simprocAttr]
  refine hK _ ?_
  clear hK K
  try refine vthen_n ?_
  repeat refine VW.seq ?_
  refine VW.cond rfl (fun hc => ?_) (fun hc => ?_)
  · simp at hc
  refine VW.skip (vthen_n ?_)
  repeat refine VW.seq ?_
  refine VW.regl hT fun K hK => ?_
  simp only [wq, simprocAttr]
  refine hK _ ?_
  clear hK K
  try refine vthen_n ?_
  repeat refine VW.seq ?_
  refine VW.regl hT fun K hK => ?_
  simp only [wq, simprocAttr]
  refine vcall_of (heldIntS_vc ws.length 1 (by omega) (by decide) (by decide)) ?_
  simp only [wq, simprocAttr]
  refine hK _ ?_
  clear hK K
  try refine vthen_n ?_
  repeat refine VW.seq ?_
  refine VW.regl hT fun K hK => ?_
  simp only [wq, simprocAttr]
  refine hK _ ?_
  clear hK K
  try refine vthen_n ?_
  repeat refine VW.seq ?_
  refine VW.cond rfl (fun hc => ?_) (fun hc => ?_)
  · have hc : 1 + ((1 * ws.length : Nat) : Int) < 0 := of_decide_eq_true hc
    omega
  refine VW.skip (vthen_n ?_)
  repeat refine VW.seq ?_
  refine VW.regl hT fun K hK => ?_
  simp only [wq, simprocAttr]
  refine hK _ ?_
  clear hK K
  try refine vthen_n ?_
  repeat refine VW.seq ?_
  refine VW.cond rfl (fun hc => ?_) (fun hc => ?_)
  · simp at hc
  refine VW.skip (vthen_n ?_)
  repeat refine VW.seq ?_
  refine VW.regl hT fun K hK => ?_
  simp only [wq, simprocAttr]
  refine hK _ ?_
  clear hK K
  try refine vthen_n ?_
  exact VW.ret ⟨.inl rfl, _, rfl, rfl⟩
end Go.Proofs.YtmechjnfeidnkaaGreat.V.W
namespace Go.Proofs.YtmechjnfeidnkaaGreat.V
open Go Go.RowKit
theorem fnExactLoadWords_vc (x : W.Fab) (fr a l : Int) (w0 : wfS Tryz.prog W.sFs x) (w1 : wfS Tryz.prog (.int .i64) fr) (w2 : wfS Tryz.prog (.int .i64) a) (w3 : wfS Tryz.prog (.int .i64) l) : VC Tryz.prog 8 [.v true W.sFs x, .v false (.int .i64) (fr), .v false (.int .i64) (a), .v false (.int .i64) (l)] (· = .v false .bool true) := W.law_loadWords x fr a l w0 w2
end Go.Proofs.YtmechjnfeidnkaaGreat.V
end

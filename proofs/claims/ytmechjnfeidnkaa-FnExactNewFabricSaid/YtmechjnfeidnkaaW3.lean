/- Sorting whole numbers: the library's insertion sort walked. No condition. -/
import Derived.Test.YtmechjnfeidnkaaW2
set_option linter.unusedVariables false
set_option linter.unnecessarySimpa false
set_option linter.unusedSimpArgs false
namespace Go.Proofs.Ytmechjnfeidnkaa.V.W
open Go Go.RowKit
theorem isNaN_vc (x : Int) : VC Try.prog 115 [.v false (.int .i64) (x)] (· = .v false .bool (false)) := by
  refine VC.of_body hT Try.func115 rfl (by kernel_rfl) [(.tmp 2, false, .bool)] (by kernel_rfl) ?_
  show VW _ _ ([.v false (.int .i64) (x), D, D, D, D, D]) _
  repeat refine VW.seq ?_
  refine VW.regl hT fun K hK => ?_
  simp only [List.replicate, List.set, List.map, List.any, List.append, Op.operands, dif_pos, gA, Call.operands, gB, gC, gD, gE, gF, gG, Nat.reduceMul, reduceCtorEq, Nat.reduceBEq, Nat.reduceAdd, Nat.reduceLT, Nat.reduceLeDiff, Nat.reduceSub, Nat.reduceEqDiff, bq, tgs, vq]
  refine hK _ ?_
  clear hK K
  try refine vthen_n ?_
  repeat refine VW.seq ?_
  refine VW.regl hT fun K hK => ?_
  simp only [List.replicate, List.set, List.map, List.any, List.append, Op.operands, dif_pos, gA, Call.operands, gB, gC, gD, gE, gF, gG, Nat.reduceMul, reduceCtorEq, Nat.reduceBEq, Nat.reduceAdd, Nat.reduceLT, Nat.reduceLeDiff, Nat.reduceSub, Nat.reduceEqDiff, bq, tgs, vq]
  refine hK _ ?_
  clear hK K
  try refine vthen_n ?_
  refine VW.ret ⟨.inl rfl, _, rfl, ?_⟩
  simp
def cmpI (a b : Int) : Int := if a < b then -1 else if a > b then 1 else 0
theorem compare_vc (a b : Int) : VC Try.prog 99 [.v false (.int .i64) (a), .v false (.int .i64) (b)] (· = .v false (.int .i64) (cmpI a b)) := by
  refine VC.of_body hT Try.func99 rfl (by kernel_rfl) [(.tmp 4, false, .int .i64)] (by kernel_rfl) ?_
  show VW _ _ ([.v false (.int .i64) (a), .v false (.int .i64) (b), D, D, D, D, D, D, D, D, D, D, D, D, D, D, D, D, D, D]) _
  repeat refine VW.seq ?_
  refine VW.regl hT fun K hK => ?_
  simp only [List.replicate, List.set, List.map, List.any, List.append, Op.operands, dif_pos, gA, Call.operands, gB, gC, gD, gE, gF, gG, Nat.reduceMul, reduceCtorEq, Nat.reduceBEq, Nat.reduceAdd, Nat.reduceLT, Nat.reduceLeDiff, Nat.reduceSub, Nat.reduceEqDiff, bq, tgs, vq]
  refine hK _ ?_
  clear hK K
  try refine vthen_n ?_
  repeat refine VW.seq ?_
  refine VW.regl hT fun K hK => ?_
  simp only [List.replicate, List.set, List.map, List.any, List.append, Op.operands, dif_pos, gA, Call.operands, gB, gC, gD, gE, gF, gG, Nat.reduceMul, reduceCtorEq, Nat.reduceBEq, Nat.reduceAdd, Nat.reduceLT, Nat.reduceLeDiff, Nat.reduceSub, Nat.reduceEqDiff, bq, tgs, vq]
  refine vcall_of (isNaN_vc _) ?_
  simp only [List.replicate, List.set, List.map, List.any, List.append, Op.operands, dif_pos, gA, Call.operands, gB, gC, gD, gE, gF, gG, Nat.reduceMul, reduceCtorEq, Nat.reduceBEq, Nat.reduceAdd, Nat.reduceLT, Nat.reduceLeDiff, Nat.reduceSub, Nat.reduceEqDiff, bq, tgs, vq]
  refine hK _ ?_
  clear hK K
  try refine vthen_n ?_
  repeat refine VW.seq ?_
  refine VW.regl hT fun K hK => ?_
  simp only [List.replicate, List.set, List.map, List.any, List.append, Op.operands, dif_pos, gA, Call.operands, gB, gC, gD, gE, gF, gG, Nat.reduceMul, reduceCtorEq, Nat.reduceBEq, Nat.reduceAdd, Nat.reduceLT, Nat.reduceLeDiff, Nat.reduceSub, Nat.reduceEqDiff, bq, tgs, vq]
  refine vcall_of (isNaN_vc _) ?_
  simp only [List.replicate, List.set, List.map, List.any, List.append, Op.operands, dif_pos, gA, Call.operands, gB, gC, gD, gE, gF, gG, Nat.reduceMul, reduceCtorEq, Nat.reduceBEq, Nat.reduceAdd, Nat.reduceLT, Nat.reduceLeDiff, Nat.reduceSub, Nat.reduceEqDiff, bq, tgs, vq]
  refine hK _ ?_
  clear hK K
  try refine vthen_n ?_
  repeat refine VW.seq ?_
  refine VW.regl hT fun K hK => ?_
  simp only [List.replicate, List.set, List.map, List.any, List.append, Op.operands, dif_pos, gA, Call.operands, gB, gC, gD, gE, gF, gG, Nat.reduceMul, reduceCtorEq, Nat.reduceBEq, Nat.reduceAdd, Nat.reduceLT, Nat.reduceLeDiff, Nat.reduceSub, Nat.reduceEqDiff, bq, tgs, vq]
  refine hK _ ?_
  clear hK K
  try refine vthen_n ?_
  repeat refine VW.seq ?_
  refine VW.cond rfl (fun hc => ?_) (fun hc => ?_)
  · cases hc
  refine VW.skip (vthen_n ?_)
  repeat refine VW.seq ?_
  refine VW.regl hT fun K hK => ?_
  simp only [List.replicate, List.set, List.map, List.any, List.append, Op.operands, dif_pos, gA, Call.operands, gB, gC, gD, gE, gF, gG, Nat.reduceMul, reduceCtorEq, Nat.reduceBEq, Nat.reduceAdd, Nat.reduceLT, Nat.reduceLeDiff, Nat.reduceSub, Nat.reduceEqDiff, bq, tgs, vq]
  refine hK _ ?_
  clear hK K
  try refine vthen_n ?_
  repeat refine VW.seq ?_
  refine VW.cond rfl (fun hc => ?_) (fun hc => ?_)
  · cases hc
  refine VW.skip (vthen_n ?_)
  repeat refine VW.seq ?_
  refine VW.regl hT fun K hK => ?_
  simp only [List.replicate, List.set, List.map, List.any, List.append, Op.operands, dif_pos, gA, Call.operands, gB, gC, gD, gE, gF, gG, Nat.reduceMul, reduceCtorEq, Nat.reduceBEq, Nat.reduceAdd, Nat.reduceLT, Nat.reduceLeDiff, Nat.reduceSub, Nat.reduceEqDiff, bq, tgs, vq]
  refine hK _ ?_
  clear hK K
  try refine vthen_n ?_
  repeat refine VW.seq ?_
  refine VW.cond rfl (fun hc => ?_) (fun hc => ?_)
  · repeat refine VW.seq ?_
    refine VW.regl hT fun K hK => ?_
    simp only [List.replicate, List.set, List.map, List.any, List.append, Op.operands, dif_pos, gA, Call.operands, gB, gC, gD, gE, gF, gG, Nat.reduceMul, reduceCtorEq, Nat.reduceBEq, Nat.reduceAdd, Nat.reduceLT, Nat.reduceLeDiff, Nat.reduceSub, Nat.reduceEqDiff, bq, tgs, vq]
    refine hK _ ?_
    clear hK K
    try refine vthen_n ?_
    refine VW.ret ⟨.inl rfl, _, rfl, ?_⟩
    have hc : a < b := by simpa using hc
    simp only [cmpI, if_pos hc]
  have h1 : ¬ a < b := by simpa using hc
  refine VW.skip (vthen_n ?_)
  repeat refine VW.seq ?_
  refine VW.regl hT fun K hK => ?_
  simp only [List.replicate, List.set, List.map, List.any, List.append, Op.operands, dif_pos, gA, Call.operands, gB, gC, gD, gE, gF, gG, Nat.reduceMul, reduceCtorEq, Nat.reduceBEq, Nat.reduceAdd, Nat.reduceLT, Nat.reduceLeDiff, Nat.reduceSub, Nat.reduceEqDiff, bq, tgs, vq]
  refine hK _ ?_
  clear hK K
  try refine vthen_n ?_
  repeat refine VW.seq ?_
  refine VW.cond rfl (fun hc => ?_) (fun hc => ?_)
  · repeat refine VW.seq ?_
    refine VW.regl hT fun K hK => ?_
    simp only [List.replicate, List.set, List.map, List.any, List.append, Op.operands, dif_pos, gA, Call.operands, gB, gC, gD, gE, gF, gG, Nat.reduceMul, reduceCtorEq, Nat.reduceBEq, Nat.reduceAdd, Nat.reduceLT, Nat.reduceLeDiff, Nat.reduceSub, Nat.reduceEqDiff, bq, tgs, vq]
    refine hK _ ?_
    clear hK K
    try refine vthen_n ?_
    refine VW.ret ⟨.inl rfl, _, rfl, ?_⟩
    have hc : a > b := by simpa using hc
    simp only [cmpI, if_neg h1, if_pos hc]
  have h2 : ¬ a > b := by simpa using hc
  refine VW.skip (vthen_n ?_)
  repeat refine VW.seq ?_
  refine VW.regl hT fun K hK => ?_
  simp only [List.replicate, List.set, List.map, List.any, List.append, Op.operands, dif_pos, gA, Call.operands, gB, gC, gD, gE, gF, gG, Nat.reduceMul, reduceCtorEq, Nat.reduceBEq, Nat.reduceAdd, Nat.reduceLT, Nat.reduceLeDiff, Nat.reduceSub, Nat.reduceEqDiff, bq, tgs, vq]
  refine hK _ ?_
  clear hK K
  try refine vthen_n ?_
  refine VW.ret ⟨.inl rfl, _, rfl, ?_⟩
  simp only [cmpI, if_neg h1, if_neg h2]
/-- x put into the row P, that lies backwards -/
def ins (c : Int → Int → Int) (x : Int) : List Int → List Int
  | [] => [x]
  | y :: r => if c x y < 0 then y :: ins c x r else x :: y :: r
def pre (c : Int → Int → Int) (xs : List Int) (i : Nat) : List Int := (xs.take i).foldl (fun P x => ins c x P) []
def isort (c : Int → Int → Int) (xs : List Int) : List Int := (pre c xs xs.length).reverse
theorem ins_len (c : Int → Int → Int) (x : Int) : ∀ P : List Int, (ins c x P).length = P.length + 1
  | [] => rfl
  | y :: r => by
    unfold ins
    split
    · simp [ins_len c x r]
    · simp
theorem pre_succ {c : Int → Int → Int} {xs : List Int} {i : Nat} (h : i < xs.length) : pre c xs (i + 1) = ins c (xs.getD i 0) (pre c xs i) := by
  unfold pre
  rw [List.take_add_one, List.foldl_append, List.getElem?_eq_getElem h, List.getD_eq_getElem?_getD, List.getElem?_eq_getElem h]
  rfl
theorem pre_len (c : Int → Int → Int) (xs : List Int) : ∀ i : Nat, i ≤ xs.length → (pre c xs i).length = i
  | 0, _ => rfl
  | i + 1, h => by rw [pre_succ (by omega), ins_len, pre_len c xs i (by omega)]
theorem ins_mem {c : Int → Int → Int} {x y : Int} : ∀ {P : List Int}, y ∈ ins c x P ↔ y = x ∨ y ∈ P
  | [] => by simp [ins]
  | z :: r => by
    unfold ins
    split
    · rw [List.mem_cons, ins_mem, List.mem_cons]
      constructor
      · rintro (h | h | h) <;> simp [h]
      · rintro (h | h | h) <;> simp [h]
    · simp
theorem pre_mem {c : Int → Int → Int} {xs : List Int} {y : Int} : ∀ i : Nat, i ≤ xs.length → y ∈ pre c xs i → y ∈ xs
  | 0, _, h => by simp [pre] at h
  | i + 1, hi, h => by
    rw [pre_succ (by omega), ins_mem] at h
    rcases h with rfl | h
    · rw [List.getD_eq_getElem?_getD, List.getElem?_eq_getElem (by omega)]
      exact List.getElem_mem _
    · exact pre_mem i (by omega) h
/-- the row while the i-th is put in: m are passed -/
def mid (c : Int → Int → Int) (xs : List Int) (i m : Nat) : List Int := ((pre c xs i).drop m).reverse ++ xs.getD i 0 :: (((pre c xs i).take m).reverse ++ xs.drop (i + 1))
/-- the row before the i-th is put in -/
def rowAt (c : Int → Int → Int) (xs : List Int) (i : Nat) : List Int := (pre c xs i).reverse ++ xs.drop i
theorem mid_zero {c : Int → Int → Int} {xs : List Int} {i : Nat} (h : i < xs.length) : mid c xs i 0 = rowAt c xs i := by
  unfold mid rowAt
  rw [List.drop_zero, List.take_zero, List.reverse_nil, List.nil_append, List.drop_eq_getElem_cons h, List.getD_eq_getElem?_getD, List.getElem?_eq_getElem h]
  rfl
theorem mid_len {c : Int → Int → Int} {xs : List Int} {i m : Nat} (h : i < xs.length) (hm : m ≤ i) : (mid c xs i m).length = xs.length := by
  have := pre_len c xs i (by omega)
  simp only [mid, List.length_append, List.length_reverse, List.length_cons, List.length_drop, List.length_take]
  omega
theorem rowAt_len {c : Int → Int → Int} {xs : List Int} {i : Nat} (h : i ≤ xs.length) : (rowAt c xs i).length = xs.length := by
  have := pre_len c xs i h
  simp only [rowAt, List.length_append, List.length_reverse, List.length_drop]
  omega
/-- the next to be passed -/
theorem drop_split {P : List Int} {m : Nat} (h : m < P.length) : P.drop m = P.getD m 0 :: P.drop (m + 1) := by
  rw [List.drop_eq_getElem_cons h, List.getD_eq_getElem?_getD, List.getElem?_eq_getElem h]; rfl
theorem mid_shape {c : Int → Int → Int} {xs : List Int} {i m : Nat} (h : i < xs.length) (hm : m < i) :
    mid c xs i m = ((pre c xs i).drop (m + 1)).reverse ++ (pre c xs i).getD m 0 :: xs.getD i 0 :: (((pre c xs i).take m).reverse ++ xs.drop (i + 1)) ∧ mid c xs i (m + 1) = ((pre c xs i).drop (m + 1)).reverse ++ xs.getD i 0 :: (pre c xs i).getD m 0 :: (((pre c xs i).take m).reverse ++ xs.drop (i + 1)) := by
  have hl := pre_len c xs i (by omega)
  unfold mid
  constructor
  · rw [drop_split (by omega), List.reverse_cons, List.append_assoc]; rfl
  · have e : (pre c xs i).take (m + 1) = (pre c xs i).take m ++ [(pre c xs i).getD m 0] := by
      rw [List.take_add_one, List.getElem?_eq_getElem (by omega), List.getD_eq_getElem?_getD, List.getElem?_eq_getElem (by omega)]
      rfl
    rw [e, List.reverse_append]
    rfl
theorem ins_pass {c : Int → Int → Int} {x : Int} : ∀ (P : List Int) (m : Nat), m ≤ P.length → (∀ k, k < m → c x (P.getD k 0) < 0) → ins c x P = P.take m ++ ins c x (P.drop m)
  | P, 0, _, _ => by simp
  | [], m + 1, h, _ => by simp at h
  | y :: r, m + 1, h, hk => by
    have h0 := hk 0 (by omega)
    simp only [List.getD_cons_zero] at h0
    rw [show ins c x (y :: r) = y :: ins c x r by simp [ins, h0], ins_pass r m (by simpa using h) (fun k hkm => by simpa using hk (k + 1) (by omega))]
    rfl
/-- the i-th has come to its place -/
theorem mid_done {c : Int → Int → Int} {xs : List Int} {i m : Nat} (h : i < xs.length) (hm : m ≤ i) (hp : ∀ k, k < m → c (xs.getD i 0) ((pre c xs i).getD k 0) < 0) (he : m = i ∨ ¬ c (xs.getD i 0) ((pre c xs i).getD m 0) < 0) : mid c xs i m = rowAt c xs (i + 1) := by
  have hl := pre_len c xs i (by omega)
  unfold mid rowAt
  rw [pre_succ h, ins_pass (pre c xs i) m (by omega) hp]
  have : ins c (xs.getD i 0) ((pre c xs i).drop m) = xs.getD i 0 :: (pre c xs i).drop m := by
    rcases he with rfl | he
    · rw [List.drop_eq_nil_of_le (by omega)]; rfl
    · rcases Nat.lt_or_ge m i with hmi | hmi
      · rw [drop_split (by omega)]
        simp only [ins, if_neg he]
      · rw [List.drop_eq_nil_of_le (by omega)]; rfl
  rw [this]
  simp
theorem app_getD {A B : List Int} {x y : Int} {j : Nat} (h : A.length + 1 = j) : (A ++ y :: x :: B).getD j 0 = x ∧ (A ++ y :: x :: B).getD (j - 1) 0 = y := by
  subst h
  constructor
  · rw [List.getD_eq_getElem?_getD, List.getElem?_append_right (by omega)]
    simp
  · rw [List.getD_eq_getElem?_getD, List.getElem?_append_right (by omega)]
    simp
theorem app_swap {A B : List Int} {x y : Int} {j : Nat} (h : A.length + 1 = j) : ((A ++ y :: x :: B).set j y).set (j - 1) x = A ++ x :: y :: B := by
  subst h
  rw [List.set_append_right _ _ (by omega), List.set_append_right _ _ (by omega)]
  simp
end Go.Proofs.Ytmechjnfeidnkaa.V.W

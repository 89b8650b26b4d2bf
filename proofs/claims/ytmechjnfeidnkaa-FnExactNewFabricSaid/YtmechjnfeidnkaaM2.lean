/- Marks on rows of rows, guards and fabrics. No condition. -/
import Derived.Test.YtmechjnfeidnkaaM1
import Derived.Test.YtmechjnfeidnkaaF18
import Derived.Test.YtmechjnfeidnkaaE1
set_option linter.unusedVariables false
set_option linter.unnecessarySimpa false
set_option linter.unusedSimpArgs false
namespace Go.Proofs.Ytmechjnfeidnkaa.V.W
open Go Go.RowKit
/-- the i-th row of marks -/
def rII (k : Int) (m : List (List Int)) (i : Nat) : List Int := mkR gIntS 1 (k + (tot m i : Nat)) (m.getD i []).length
def mkII (k : Int) (m : List (List Int)) (n : Nat) : List (List Int) := (List.range n).map (rII k m)
theorem mkII_len (k : Int) (m : List (List Int)) (n : Nat) : (mkII k m n).length = n := by simp [mkII]
theorem mkII_get (k : Int) (m : List (List Int)) {n i : Nat} (h : i < n) : (mkII k m n).getD i [] = rII k m i := by
  simp [mkII, List.getD_eq_getElem?_getD, h]
def toII (k : Int) (m : List (List Int)) (i : Nat) : List (List Int) := mkII k m i ++ m.drop i
theorem toII_len (k : Int) {m : List (List Int)} {i : Nat} (h : i ≤ m.length) : (toII k m i).length = m.length := by
  simp only [toII, List.length_append, mkII_len, List.length_drop]; omega
theorem toII_set (k : Int) {m : List (List Int)} {i : Nat} (h : i < m.length) : (toII k m i).set i (rII k m i) = toII k m (i + 1) := by
  unfold toII
  rw [List.set_append_right _ _ (by rw [mkII_len]; omega), mkII_len, Nat.sub_self, List.drop_eq_getElem_cons h, List.set_cons_zero]
  simp [mkII, List.range_succ]
theorem toII_get (k : Int) {m : List (List Int)} {i : Nat} (h : i < m.length) : (toII k m i).getD i [] = m.getD i [] := by
  unfold toII
  rw [List.getD_eq_getElem?_getD, List.getElem?_append_right (by rw [mkII_len]; omega), mkII_len, Nat.sub_self, List.getElem?_drop, Nat.add_zero, ← List.getD_eq_getElem?_getD]
theorem toII_all (k : Int) {m : List (List Int)} : toII k m m.length = mkII k m m.length := by simp [toII]
theorem toII_zero (k : Int) {m : List (List Int)} : toII k m 0 = m := by simp [toII, mkII]
theorem tot_zero (m : List (List Int)) : tot m 0 = 0 := by simp [tot]
set_option maxRecDepth 40000 in
theorem markIntSS1 (m : List (List Int)) (k : Int) (h0 : 0 < m.length) (hl : m.length ≤ 2000000) (hlt : tot m m.length ≤ 2000000) (hk0 : 0 ≤ k) (hk1 : k ≤ 50000000) : VX Try.prog 46 [.root (.val false) sII .own m, .v false (.int .i64) (k)] 0 (fun pv ot => pv = .v false (.int .i64) (k + (tot m m.length : Nat)) ∧ ot = .root (.val false) sII .own (mkII k m m.length)) := by
  refine VX.of_rows hT Try.func46 rfl (by kernel_rfl) [(.tmp 4, false, .int .i64)] (by kernel_rfl) rfl rfl h0 fun l fi li e1 e2 => ?_
  obtain ⟨n, cp, rfl, rfl⟩ := io1 e1 e2
  show VW _ _ ([.root (.val false) sII (.io n cp) m, .v false (.int .i64) (k), D, D, D, D, D, D, D, D, D, D, D, D, D, D, D, D, D]) _
  repeat refine VW.seq ?_
  refine VW.regl hT fun K hK => ?_
  simp only [List.replicate, List.set, List.map, List.any, List.append, Op.operands, dif_pos, gA, Call.operands, gB, gC, gD, gE, gF, gG, Nat.reduceMul, reduceCtorEq, Nat.reduceBEq, Nat.reduceAdd, Nat.reduceLT, Nat.reduceLeDiff, Nat.reduceSub, Nat.reduceEqDiff, bq, tgs, vq]
  refine hK _ ?_
  clear hK K
  try refine vthen_n ?_
  repeat refine VW.seq ?_
  refine VW.regl hT fun K hK => ?_
  simp only [List.replicate, List.set, List.map, List.any, List.append, Op.operands, dif_pos, gA, Call.operands, gB, gC, gD, gE, gF, gG, Nat.reduceMul, reduceCtorEq, Nat.reduceBEq, Nat.reduceAdd, Nat.reduceLT, Nat.reduceLeDiff, Nat.reduceSub, Nat.reduceEqDiff, bq, tgs, vq]
  refine hK _ ?_
  clear hK K
  try refine vthen_n ?_
  repeat refine VW.seq ?_
  refine VW.block ?_
  refine VW.loop (α := Nat) [(0, none), (1, none), (5, none)] (fun i => [.root (.val false) sII (.io n cp) (toII k m i), .v false (.int .i64) (k + (tot m i : Nat)), D, D, D, .v false (.int .i64) ((i : Nat)), D, D, D, D, D, D, D, D, D, D, D, D, D]) (fun i => i ≤ m.length) (fun i => m.length - i) ⟨0, by omega, ?_⟩ fun i hi => ?_
  · simp only [norm, homeOne, moveTo, keepS, keepGo, usesOut, List.foldl, ren, renC, List.replicate, List.set, List.map, List.any, List.append, Op.operands, dif_pos, gA, Call.operands, gB, gC, gD, gE, gF, gG, Nat.reduceMul, reduceCtorEq, Nat.reduceBEq, Nat.reduceAdd, Nat.reduceLT, Nat.reduceLeDiff, Nat.reduceSub, Nat.reduceEqDiff, bq, tgs, vq]
    rw [toII_zero, tot_zero, show k + ((0 : Nat) : Int) = k from Int.add_zero k]
    rfl
  have hml := toII_len k hi
  repeat refine VW.seq ?_
  refine VW.regl hT fun K hK => ?_
  simp only [List.replicate, List.set, List.map, List.any, List.append, Op.operands, dif_pos, gA, Call.operands, gB, gC, gD, gE, gF, gG, Nat.reduceMul, reduceCtorEq, Nat.reduceBEq, Nat.reduceAdd, Nat.reduceLT, Nat.reduceLeDiff, Nat.reduceSub, Nat.reduceEqDiff, bq, tgs, vq]
  refine hK _ ?_
  clear hK K
  try refine vthen_n ?_
  repeat refine VW.seq ?_
  refine VW.cond rfl (fun hc => ?_) (fun hc => ?_)
  · have hlt : i < m.length := by
      have : (i : Int) < ((toII k m i).length : Int) := by simpa using hc
      omega
    have hget := toII_get k hlt
    have hset := toII_set k hlt
    have hts := tot_succ hlt
    have htm := tot_mono m (i + 1) hlt
    refine VW.skip (vthen_n ?_)
    repeat refine VW.seq ?_
    refine VW.block ?_
    have hmark := markIntS_vx (m.getD i []) (k + (tot m i : Nat)) (by omega) (by omega) (by omega)
    repeat refine VW.seq ?_
    refine VW.regE hT 5 (fun K hK => ?_) (by decide)
    simp only [List.take_succ_cons, List.take_zero, List.replicate, List.set, List.map, List.any, List.append, Op.operands, dif_pos, gA, Call.operands, gB, gC, gD, gE, gF, gG, Nat.reduceMul, reduceCtorEq, Nat.reduceBEq, Nat.reduceAdd, Nat.reduceLT, Nat.reduceLeDiff, Nat.reduceSub, Nat.reduceEqDiff, bq, tgs, vq]
    refine ⟨decide_eq_true ⟨Int.natCast_nonneg _, by show (i : Int) < ((toII k m i).length : Int); omega⟩, ?_⟩
    refine hK _ _ _ rfl rfl (does_el (s2 := .int .i64) (fl := .io n cp) (y := rII k m i) (r := .v false (.int .i64) (k + (tot m i : Nat) + ((1 * (m.getD i []).length : Nat) : Int))) rfl rfl rfl rfl (.inr ⟨n, cp, rfl⟩) (by omega) rfl rfl rfl rfl ?_ rfl) ?_
    · have hmark := hmark
      rw [← hget] at hmark
      rw [← hget]
      refine hmark.mono fun pv ot h => ⟨h.1, ?_⟩
      rw [h.2, rII, hget]
    simp only [List.drop_succ_cons, List.drop_zero, List.getElem_toArray, List.getElem_cons_succ, List.getElem_cons_zero, hitS, List.replicate, List.set, List.map, List.any, List.append, Op.operands, dif_pos, gA, Call.operands, gB, gC, gD, gE, gF, gG, Nat.reduceMul, reduceCtorEq, Nat.reduceBEq, Nat.reduceAdd, Nat.reduceLT, Nat.reduceLeDiff, Nat.reduceSub, Nat.reduceEqDiff, bq, tgs, vq]
    show vthen _ _ _ .normal _
    refine vthen_n ?_
    repeat refine VW.seq ?_
    refine VW.regl hT fun K hK => ?_
    simp only [List.replicate, List.set, List.map, List.any, List.append, Op.operands, dif_pos, gA, Call.operands, gB, gC, gD, gE, gF, gG, Nat.reduceMul, reduceCtorEq, Nat.reduceBEq, Nat.reduceAdd, Nat.reduceLT, Nat.reduceLeDiff, Nat.reduceSub, Nat.reduceEqDiff, bq, tgs, vq]
    refine hK _ ?_
    clear hK K
    try refine vthen_n ?_
    refine ⟨i + 1, hlt, ?_, by show m.length - (i + 1) < m.length - i; omega⟩
    simp only [norm, homeOne, moveTo, keepS, keepGo, usesOut, List.foldl, ren, renC, List.replicate, List.set, List.map, List.any, List.append, Op.operands, dif_pos, gA, Call.operands, gB, gC, gD, gE, gF, gG, Nat.reduceMul, reduceCtorEq, Nat.reduceBEq, Nat.reduceAdd, Nat.reduceLT, Nat.reduceLeDiff, Nat.reduceSub, Nat.reduceEqDiff, bq, tgs, vq]
    rw [wrap64 (by omega) (by omega), hset, show k + (tot m i : Nat) + ((1 * (m.getD i []).length : Nat) : Int) = k + (tot m (i + 1) : Nat) by omega]
    rfl
  · have hge : i = m.length := by
      have : ((toII k m i).length : Int) ≤ (i : Int) := by simpa using hc
      omega
    subst hge
    refine VW.exit ?_
    show vthen _ _ _ .normal _
    refine vthen_n ?_
    repeat refine VW.seq ?_
    refine VW.regl hT fun K hK => ?_
    simp only [List.replicate, List.set, List.map, List.any, List.append, Op.operands, dif_pos, gA, Call.operands, gB, gC, gD, gE, gF, gG, Nat.reduceMul, reduceCtorEq, Nat.reduceBEq, Nat.reduceAdd, Nat.reduceLT, Nat.reduceLeDiff, Nat.reduceSub, Nat.reduceEqDiff, bq, tgs, vq]
    refine hK _ ?_
    clear hK K
    try refine vthen_n ?_
    refine VW.ret ⟨.inl rfl, _, _, _, _, rfl, ⟨0, _, rfl⟩, ?_, rfl, ?_⟩
    · show some [Value.slice (some ⟨n, 0, none⟩) (toII k m m.length).length cp] = some [Value.slice (some ⟨n, 0, none⟩) m.length cp]
      rw [hml]
    · show PV.root (.val false) sII .own (toII k m m.length) = _
      rw [toII_all]
theorem markIntSS0 (k : Int) : VC Try.prog 46 [.v false sII [], .v false (.int .i64) (k)] (· = .v false (.int .i64) (k)) := by
  refine VC.of_body hT Try.func46 rfl (by kernel_rfl) [(.tmp 4, false, .int .i64)] (by kernel_rfl) ?_
  show VW _ _ ([.v false sII [], .v false (.int .i64) (k), D, D, D, D, D, D, D, D, D, D, D, D, D, D, D, D, D]) _
  repeat refine VW.seq ?_
  refine VW.regl hT fun K hK => ?_
  simp only [List.replicate, List.set, List.map, List.any, List.append, Op.operands, dif_pos, gA, Call.operands, gB, gC, gD, gE, gF, gG, Nat.reduceMul, reduceCtorEq, Nat.reduceBEq, Nat.reduceAdd, Nat.reduceLT, Nat.reduceLeDiff, Nat.reduceSub, Nat.reduceEqDiff, bq, tgs, vq]
  refine hK _ ?_
  clear hK K
  try refine vthen_n ?_
  repeat refine VW.seq ?_
  refine VW.regl hT fun K hK => ?_
  simp only [List.replicate, List.set, List.map, List.any, List.append, Op.operands, dif_pos, gA, Call.operands, gB, gC, gD, gE, gF, gG, Nat.reduceMul, reduceCtorEq, Nat.reduceBEq, Nat.reduceAdd, Nat.reduceLT, Nat.reduceLeDiff, Nat.reduceSub, Nat.reduceEqDiff, bq, tgs, vq]
  refine hK _ ?_
  clear hK K
  try refine vthen_n ?_
  repeat refine VW.seq ?_
  refine VW.block ?_
  refine VW.loop (α := Unit) [(0, none), (1, none), (5, none)] (fun _ => [.v false sII [], .v false (.int .i64) (k), D, D, D, .v false (.int .i64) (0), D, D, D, D, D, D, D, D, D, D, D, D, D]) (fun _ => True) (fun _ => 0) ⟨(), trivial, ?_⟩ fun _ _ => ?_
  · simp only [norm, homeOne, moveTo, keepS, keepGo, usesOut, List.foldl, ren, renC, List.replicate, List.set, List.map, List.any, List.append, Op.operands, dif_pos, gA, Call.operands, gB, gC, gD, gE, gF, gG, Nat.reduceMul, reduceCtorEq, Nat.reduceBEq, Nat.reduceAdd, Nat.reduceLT, Nat.reduceLeDiff, Nat.reduceSub, Nat.reduceEqDiff, bq, tgs, vq]
  repeat refine VW.seq ?_
  refine VW.regl hT fun K hK => ?_
  simp only [List.replicate, List.set, List.map, List.any, List.append, Op.operands, dif_pos, gA, Call.operands, gB, gC, gD, gE, gF, gG, Nat.reduceMul, reduceCtorEq, Nat.reduceBEq, Nat.reduceAdd, Nat.reduceLT, Nat.reduceLeDiff, Nat.reduceSub, Nat.reduceEqDiff, bq, tgs, vq]
  refine hK _ ?_
  clear hK K
  try refine vthen_n ?_
  repeat refine VW.seq ?_
  refine VW.cond rfl (fun hc => ?_) (fun hc => ?_)
  · cases hc
  · refine VW.exit ?_
    show vthen _ _ _ .normal _
    refine vthen_n ?_
    repeat refine VW.seq ?_
    refine VW.regl hT fun K hK => ?_
    simp only [List.replicate, List.set, List.map, List.any, List.append, Op.operands, dif_pos, gA, Call.operands, gB, gC, gD, gE, gF, gG, Nat.reduceMul, reduceCtorEq, Nat.reduceBEq, Nat.reduceAdd, Nat.reduceLT, Nat.reduceLeDiff, Nat.reduceSub, Nat.reduceEqDiff, bq, tgs, vq]
    refine hK _ ?_
    clear hK K
    try refine vthen_n ?_
    exact VW.ret ⟨.inl rfl, _, rfl, rfl⟩
theorem markIntSS_vx (m : List (List Int)) (k : Int) (hl : m.length ≤ 2000000) (hlt : tot m m.length ≤ 2000000) (hk0 : 0 ≤ k) (hk1 : k ≤ 50000000) : VX Try.prog 46 [.root (.val false) sII .own m, .v false (.int .i64) (k)] 0 (fun pv ot => pv = .v false (.int .i64) (k + (tot m m.length : Nat)) ∧ ot = .root (.val false) sII .own (mkII k m m.length)) := by
  rcases Nat.eq_zero_or_pos m.length with h | h
  · have h := List.eq_nil_of_length_eq_zero h
    subst h
    refine (VX.of_nil (args := [.root (.val false) sII .own [], .v false (.int .i64) (k)]) (i := 0) (markIntSS0 k) rfl).mono fun pv ot h => ⟨?_, h.2⟩
    rw [h.1]
    simp [tot]
  · exact markIntSS1 m k h hl hlt hk0 hk1
set_option maxRecDepth 40000 in
theorem heldIntSS_vc (m : List (List Int)) (k : Int) (hl : m.length ≤ 2000000) (hlt : tot m m.length ≤ 2000000) (hk0 : 0 ≤ k) (hk1 : k ≤ 50000000) : VC Try.prog 51 [.v false sII (mkII k m m.length), .v false (.int .i64) (k)] (· = .v false (.int .i64) (k + (tot m m.length : Nat))) := by
  refine VC.of_body hT Try.func51 rfl (by kernel_rfl) [(.tmp 4, false, .int .i64)] (by kernel_rfl) ?_
  show VW _ _ ([.v false sII (mkII k m m.length), .v false (.int .i64) (k), D, D, D, D, D, D, D, D, D, D, D, D, D, D, D, D, D, D, D]) _
  repeat refine VW.seq ?_
  refine VW.regl hT fun K hK => ?_
  simp only [List.replicate, List.set, List.map, List.any, List.append, Op.operands, dif_pos, gA, Call.operands, gB, gC, gD, gE, gF, gG, Nat.reduceMul, reduceCtorEq, Nat.reduceBEq, Nat.reduceAdd, Nat.reduceLT, Nat.reduceLeDiff, Nat.reduceSub, Nat.reduceEqDiff, bq, tgs, vq]
  refine hK _ ?_
  clear hK K
  try refine vthen_n ?_
  repeat refine VW.seq ?_
  refine VW.regl hT fun K hK => ?_
  simp only [List.replicate, List.set, List.map, List.any, List.append, Op.operands, dif_pos, gA, Call.operands, gB, gC, gD, gE, gF, gG, Nat.reduceMul, reduceCtorEq, Nat.reduceBEq, Nat.reduceAdd, Nat.reduceLT, Nat.reduceLeDiff, Nat.reduceSub, Nat.reduceEqDiff, bq, tgs, vq]
  refine hK _ ?_
  clear hK K
  try refine vthen_n ?_
  repeat refine VW.seq ?_
  refine VW.block ?_
  refine VW.loop (α := Nat) [(0, none), (1, none), (5, none)] (fun i => [.v false sII (mkII k m m.length), .v false (.int .i64) (k + (tot m i : Nat)), D, D, D, .v false (.int .i64) ((i : Nat)), D, D, D, D, D, D, D, D, D, D, D, D, D, D, D]) (fun i => i ≤ m.length) (fun i => m.length - i) ⟨0, by omega, ?_⟩ fun i hi => ?_
  · simp only [norm, homeOne, moveTo, keepS, keepGo, usesOut, List.foldl, ren, renC, List.replicate, List.set, List.map, List.any, List.append, Op.operands, dif_pos, gA, Call.operands, gB, gC, gD, gE, gF, gG, Nat.reduceMul, reduceCtorEq, Nat.reduceBEq, Nat.reduceAdd, Nat.reduceLT, Nat.reduceLeDiff, Nat.reduceSub, Nat.reduceEqDiff, bq, tgs, vq]
    rw [tot_zero, show k + ((0 : Nat) : Int) = k from Int.add_zero k]
    rfl
  have hml := mkII_len k m m.length
  repeat refine VW.seq ?_
  refine VW.regl hT fun K hK => ?_
  simp only [List.replicate, List.set, List.map, List.any, List.append, Op.operands, dif_pos, gA, Call.operands, gB, gC, gD, gE, gF, gG, Nat.reduceMul, reduceCtorEq, Nat.reduceBEq, Nat.reduceAdd, Nat.reduceLT, Nat.reduceLeDiff, Nat.reduceSub, Nat.reduceEqDiff, bq, tgs, vq]
  refine hK _ ?_
  clear hK K
  try refine vthen_n ?_
  repeat refine VW.seq ?_
  refine VW.cond rfl (fun hc => ?_) (fun hc => ?_)
  · have hlt : i < m.length := by
      have : (i : Int) < ((mkII k m m.length).length : Int) := by simpa using hc
      omega
    have hget := mkII_get k m hlt
    have hts := tot_succ hlt
    have htm := tot_mono m (i + 1) hlt
    have hheld := heldIntS_vc (m.getD i []).length (k + (tot m i : Nat)) (by omega) (by omega) (by omega)
    refine VW.skip (vthen_n ?_)
    repeat refine VW.seq ?_
    refine VW.block ?_
    repeat refine VW.seq ?_
    refine VW.regl hT fun K hK => ?_
    simp only [List.replicate, List.set, List.map, List.any, List.append, Op.operands, dif_pos, gA, Call.operands, gB, gC, gD, gE, gF, gG, Nat.reduceMul, reduceCtorEq, Nat.reduceBEq, Nat.reduceAdd, Nat.reduceLT, Nat.reduceLeDiff, Nat.reduceSub, Nat.reduceEqDiff, bq, tgs, vq]
    refine ⟨decide_eq_true ⟨Int.natCast_nonneg _, by show (i : Int) < ((mkII k m m.length).length : Int); omega⟩, ?_⟩
    rw [show (mkII k m m.length).getD i [] = mkR gIntS 1 (k + (tot m i : Nat)) (m.getD i []).length from hget]
    refine vcall_of hheld ?_
    simp only [List.replicate, List.set, List.map, List.any, List.append, Op.operands, dif_pos, gA, Call.operands, gB, gC, gD, gE, gF, gG, Nat.reduceMul, reduceCtorEq, Nat.reduceBEq, Nat.reduceAdd, Nat.reduceLT, Nat.reduceLeDiff, Nat.reduceSub, Nat.reduceEqDiff, bq, tgs, vq]
    refine hK _ ?_
    clear hK K
    try refine vthen_n ?_
    repeat refine VW.seq ?_
    refine VW.regl hT fun K hK => ?_
    simp only [List.replicate, List.set, List.map, List.any, List.append, Op.operands, dif_pos, gA, Call.operands, gB, gC, gD, gE, gF, gG, Nat.reduceMul, reduceCtorEq, Nat.reduceBEq, Nat.reduceAdd, Nat.reduceLT, Nat.reduceLeDiff, Nat.reduceSub, Nat.reduceEqDiff, bq, tgs, vq]
    refine hK _ ?_
    clear hK K
    try refine vthen_n ?_
    repeat refine VW.seq ?_
    refine VW.cond rfl (fun hc => ?_) (fun hc => ?_)
    · have hc : k + (tot m i : Nat) + ((1 * (m.getD i []).length : Nat) : Int) < 0 := of_decide_eq_true hc
      omega
    refine VW.skip ?_
    show vthen _ _ _ .normal _
    refine vthen_n ?_
    repeat refine VW.seq ?_
    refine VW.regl hT fun K hK => ?_
    simp only [List.replicate, List.set, List.map, List.any, List.append, Op.operands, dif_pos, gA, Call.operands, gB, gC, gD, gE, gF, gG, Nat.reduceMul, reduceCtorEq, Nat.reduceBEq, Nat.reduceAdd, Nat.reduceLT, Nat.reduceLeDiff, Nat.reduceSub, Nat.reduceEqDiff, bq, tgs, vq]
    refine hK _ ?_
    clear hK K
    try refine vthen_n ?_
    refine ⟨i + 1, hlt, ?_, by show m.length - (i + 1) < m.length - i; omega⟩
    simp only [norm, homeOne, moveTo, keepS, keepGo, usesOut, List.foldl, ren, renC, List.replicate, List.set, List.map, List.any, List.append, Op.operands, dif_pos, gA, Call.operands, gB, gC, gD, gE, gF, gG, Nat.reduceMul, reduceCtorEq, Nat.reduceBEq, Nat.reduceAdd, Nat.reduceLT, Nat.reduceLeDiff, Nat.reduceSub, Nat.reduceEqDiff, bq, tgs, vq]
    rw [wrap64 (by omega) (by omega), show k + (tot m i : Nat) + ((1 * (m.getD i []).length : Nat) : Int) = k + (tot m (i + 1) : Nat) by omega]
    rfl
  · have hge : i = m.length := by
      have : ((mkII k m m.length).length : Int) ≤ (i : Int) := by simpa using hc
      omega
    subst hge
    refine VW.exit ?_
    show vthen _ _ _ .normal _
    refine vthen_n ?_
    repeat refine VW.seq ?_
    refine VW.regl hT fun K hK => ?_
    simp only [List.replicate, List.set, List.map, List.any, List.append, Op.operands, dif_pos, gA, Call.operands, gB, gC, gD, gE, gF, gG, Nat.reduceMul, reduceCtorEq, Nat.reduceBEq, Nat.reduceAdd, Nat.reduceLT, Nat.reduceLeDiff, Nat.reduceSub, Nat.reduceEqDiff, bq, tgs, vq]
    refine hK _ ?_
    clear hK K
    try refine vthen_n ?_
    exact VW.ret ⟨.inl rfl, _, rfl, rfl⟩
end Go.Proofs.Ytmechjnfeidnkaa.V.W

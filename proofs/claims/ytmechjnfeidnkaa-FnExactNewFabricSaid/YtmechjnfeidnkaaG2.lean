/- The laws' helpers for fabrics, part 2: copies, sizes, equality. No condition. Printed by vtg2.py (a program of this session's). -/
import Derived.Test.YtmechjnfeidnkaaG1
set_option linter.unusedVariables false
set_option linter.unnecessarySimpa false
set_option linter.unusedSimpArgs false
namespace Go.Proofs.Ytmechjnfeidnkaa.V.W
open Go Go.RowKit

theorem szNodeS_vc (xs : List (Int × Int × Int)) (n : Int) (hl : xs.length * 1 ≤ 140737488351232) (h0 : 0 ≤ n) (h1 : n ≤ 1048576) : VC Try.prog 12 [.v false (.sl 80 sN) xs, .v false (.int .i64) n] (Left n · xs.length) := by
  refine VC.of_body hT Try.func12 rfl (by kernel_rfl) [(.tmp 4, false, .int .i64)] (by kernel_rfl) ?_
  show VW _ _ ([.v false (.sl 80 sN) xs, .v false (.int .i64) n, D, D, D, D, D, D, D, D, D, D]) _
  repeat refine VW.seq ?_
  refine VW.regl hT fun K hK => ?_
  simp only [List.replicate, List.set, List.map, List.any, List.append, Op.operands, dif_pos, gA, Call.operands, gB, gC, gD, gE, gF, gG, Nat.reduceMul, reduceCtorEq, Nat.reduceBEq, Nat.reduceAdd, Nat.reduceLT, Nat.reduceLeDiff, Nat.reduceSub, Nat.reduceEqDiff, bq, tgs, vq]
  refine hK _ ?_
  clear hK K
  try refine vthen_n ?_
  repeat refine VW.seq ?_
  refine VW.regl hT fun K hK => ?_
  simp only [List.replicate, List.set, List.map, List.any, List.append, Op.operands, dif_pos, gA, Call.operands, gB, gC, gD, gE, gF, gG, Nat.reduceMul, reduceCtorEq, Nat.reduceBEq, Nat.reduceAdd, Nat.reduceLT, Nat.reduceLeDiff, Nat.reduceSub, Nat.reduceEqDiff, bq, tgs, vq]
  refine hK _ ?_
  clear hK K
  try refine vthen_n ?_
  rw [wrap64 (by omega) (by omega)]
  repeat refine VW.seq ?_
  refine VW.regl hT fun K hK => ?_
  simp only [List.replicate, List.set, List.map, List.any, List.append, Op.operands, dif_pos, gA, Call.operands, gB, gC, gD, gE, gF, gG, Nat.reduceMul, reduceCtorEq, Nat.reduceBEq, Nat.reduceAdd, Nat.reduceLT, Nat.reduceLeDiff, Nat.reduceSub, Nat.reduceEqDiff, bq, tgs, vq]
  refine hK _ ?_
  clear hK K
  try refine vthen_n ?_
  repeat refine VW.seq ?_
  refine VW.cond rfl (fun hc => ?_) (fun hc => ?_)
  · repeat refine VW.seq ?_
    refine VW.regl hT fun K hK => ?_
    simp only [List.replicate, List.set, List.map, List.any, List.append, Op.operands, dif_pos, gA, Call.operands, gB, gC, gD, gE, gF, gG, Nat.reduceMul, reduceCtorEq, Nat.reduceBEq, Nat.reduceAdd, Nat.reduceLT, Nat.reduceLeDiff, Nat.reduceSub, Nat.reduceEqDiff, bq, tgs, vq]
    refine hK _ ?_
    clear hK K
    try refine vthen_n ?_
    exact VW.ret ⟨.inl rfl, _, rfl, (-1 : Int), rfl, by omega, fun h => by omega⟩
  · refine VW.skip (vthen_n ?_)
    repeat refine VW.seq ?_
    refine VW.regl hT fun K hK => ?_
    simp only [List.replicate, List.set, List.map, List.any, List.append, Op.operands, dif_pos, gA, Call.operands, gB, gC, gD, gE, gF, gG, Nat.reduceMul, reduceCtorEq, Nat.reduceBEq, Nat.reduceAdd, Nat.reduceLT, Nat.reduceLeDiff, Nat.reduceSub, Nat.reduceEqDiff, bq, tgs, vq]
    refine hK _ ?_
    clear hK K
    try refine vthen_n ?_
    have hc : ¬ ((n : Int) - xs.length < 0) := of_decide_eq_false hc
    exact VW.ret ⟨.inl rfl, _, rfl, (n - xs.length : Int), rfl, by omega, fun h => by omega⟩
set_option maxRecDepth 20000 in
theorem toNode_vc (x : Int × Int × Int) : VC Try.prog 40 [.v true sN x] (· = .v true sN x) := by
  refine VC.of_body hT Try.func40 rfl (by kernel_rfl) [(.cell 2 71, true, sN)] (by kernel_rfl) ?_
  show VW _ _ ([.v true sN x, D, D, D, D, D, D, D, D, D, D, D, D, D]) _
  repeat refine VW.seq ?_
  refine VW.regl hT fun K hK => ?_
  simp only [List.replicate, List.set, List.map, List.any, List.append, Op.operands, dif_pos, gA, Call.operands, gB, gC, gD, gE, gF, gG, Nat.reduceMul, reduceCtorEq, Nat.reduceBEq, Nat.reduceAdd, Nat.reduceLT, Nat.reduceLeDiff, Nat.reduceSub, Nat.reduceEqDiff, bq, tgs, vq]
  refine hK _ ?_
  clear hK K
  try refine vthen_n ?_
  repeat refine VW.seq ?_
  refine VW.regl hT fun K hK => ?_
  simp only [List.replicate, List.set, List.map, List.any, List.append, Op.operands, dif_pos, gA, Call.operands, gB, gC, gD, gE, gF, gG, Nat.reduceMul, reduceCtorEq, Nat.reduceBEq, Nat.reduceAdd, Nat.reduceLT, Nat.reduceLeDiff, Nat.reduceSub, Nat.reduceEqDiff, bq, tgs, vq]
  refine hK _ ?_
  clear hK K
  try refine vthen_n ?_
  repeat refine VW.seq ?_
  refine VW.regl hT fun K hK => ?_
  simp only [List.replicate, List.set, List.map, List.any, List.append, Op.operands, dif_pos, gA, Call.operands, gB, gC, gD, gE, gF, gG, Nat.reduceMul, reduceCtorEq, Nat.reduceBEq, Nat.reduceAdd, Nat.reduceLT, Nat.reduceLeDiff, Nat.reduceSub, Nat.reduceEqDiff, bq, tgs, vq]
  refine hK _ ?_
  clear hK K
  try refine vthen_n ?_
  repeat refine VW.seq ?_
  refine VW.regl hT fun K hK => ?_
  simp only [List.replicate, List.set, List.map, List.any, List.append, Op.operands, dif_pos, gA, Call.operands, gB, gC, gD, gE, gF, gG, Nat.reduceMul, reduceCtorEq, Nat.reduceBEq, Nat.reduceAdd, Nat.reduceLT, Nat.reduceLeDiff, Nat.reduceSub, Nat.reduceEqDiff, bq, tgs, vq]
  refine hK _ ?_
  clear hK K
  try refine vthen_n ?_
  repeat refine VW.seq ?_
  refine VW.regl hT fun K hK => ?_
  simp only [List.replicate, List.set, List.map, List.any, List.append, Op.operands, dif_pos, gA, Call.operands, gB, gC, gD, gE, gF, gG, Nat.reduceMul, reduceCtorEq, Nat.reduceBEq, Nat.reduceAdd, Nat.reduceLT, Nat.reduceLeDiff, Nat.reduceSub, Nat.reduceEqDiff, bq, tgs, vq]
  refine hK _ ?_
  clear hK K
  try refine vthen_n ?_
  repeat refine VW.seq ?_
  refine VW.regl hT fun K hK => ?_
  simp only [List.replicate, List.set, List.map, List.any, List.append, Op.operands, dif_pos, gA, Call.operands, gB, gC, gD, gE, gF, gG, Nat.reduceMul, reduceCtorEq, Nat.reduceBEq, Nat.reduceAdd, Nat.reduceLT, Nat.reduceLeDiff, Nat.reduceSub, Nat.reduceEqDiff, bq, tgs, vq]
  refine hK _ ?_
  clear hK K
  try refine vthen_n ?_
  exact VW.ret ⟨.inl rfl, _, rfl, rfl⟩
set_option maxRecDepth 20000 in
theorem eqNode_vc (x y : Int × Int × Int) : VC Try.prog 44 [.v true sN x, .v true sN y] (· = .v false .bool (decide (x = y))) := by
  refine VC.of_body hT Try.func44 rfl (by kernel_rfl) [(.tmp 4, false, .bool)] (by kernel_rfl) ?_
  show VW _ _ ([.v true sN x, .v true sN y, D, D, D, D, D, D, D, D, D, D, D, D, D, D, D, D, D, D]) _
  obtain ⟨x0, x1, x2⟩ := x
  obtain ⟨y0, y1, y2⟩ := y
  repeat refine VW.seq ?_
  refine VW.regl hT fun K hK => ?_
  simp only [List.replicate, List.set, List.map, List.any, List.append, Op.operands, dif_pos, gA, Call.operands, gB, gC, gD, gE, gF, gG, Nat.reduceMul, reduceCtorEq, Nat.reduceBEq, Nat.reduceAdd, Nat.reduceLT, Nat.reduceLeDiff, Nat.reduceSub, Nat.reduceEqDiff, bq, tgs, vq]
  refine hK _ ?_
  clear hK K
  try refine vthen_n ?_
  repeat refine VW.seq ?_
  refine VW.regl hT fun K hK => ?_
  simp only [List.replicate, List.set, List.map, List.any, List.append, Op.operands, dif_pos, gA, Call.operands, gB, gC, gD, gE, gF, gG, Nat.reduceMul, reduceCtorEq, Nat.reduceBEq, Nat.reduceAdd, Nat.reduceLT, Nat.reduceLeDiff, Nat.reduceSub, Nat.reduceEqDiff, bq, tgs, vq]
  refine hK _ ?_
  clear hK K
  try refine vthen_n ?_
  repeat refine VW.seq ?_
  refine VW.cond rfl (fun hc => ?_) (fun hc => ?_)
  · repeat refine VW.seq ?_
    refine VW.regl hT fun K hK => ?_
    simp only [List.replicate, List.set, List.map, List.any, List.append, Op.operands, dif_pos, gA, Call.operands, gB, gC, gD, gE, gF, gG, Nat.reduceMul, reduceCtorEq, Nat.reduceBEq, Nat.reduceAdd, Nat.reduceLT, Nat.reduceLeDiff, Nat.reduceSub, Nat.reduceEqDiff, bq, tgs, vq]
    refine hK _ ?_
    clear hK K
    try refine vthen_n ?_
    refine VW.ret ⟨.inl rfl, _, rfl, ?_⟩
    simp [eqv] at hc; simp [hc]
  refine VW.skip (vthen_n ?_)
  repeat refine VW.seq ?_
  refine VW.regl hT fun K hK => ?_
  simp only [List.replicate, List.set, List.map, List.any, List.append, Op.operands, dif_pos, gA, Call.operands, gB, gC, gD, gE, gF, gG, Nat.reduceMul, reduceCtorEq, Nat.reduceBEq, Nat.reduceAdd, Nat.reduceLT, Nat.reduceLeDiff, Nat.reduceSub, Nat.reduceEqDiff, bq, tgs, vq]
  refine hK _ ?_
  clear hK K
  try refine vthen_n ?_
  repeat refine VW.seq ?_
  refine VW.cond rfl (fun hc => ?_) (fun hc => ?_)
  · repeat refine VW.seq ?_
    refine VW.regl hT fun K hK => ?_
    simp only [List.replicate, List.set, List.map, List.any, List.append, Op.operands, dif_pos, gA, Call.operands, gB, gC, gD, gE, gF, gG, Nat.reduceMul, reduceCtorEq, Nat.reduceBEq, Nat.reduceAdd, Nat.reduceLT, Nat.reduceLeDiff, Nat.reduceSub, Nat.reduceEqDiff, bq, tgs, vq]
    refine hK _ ?_
    clear hK K
    try refine vthen_n ?_
    refine VW.ret ⟨.inl rfl, _, rfl, ?_⟩
    simp [eqv] at hc; simp [hc]
  refine VW.skip (vthen_n ?_)
  repeat refine VW.seq ?_
  refine VW.regl hT fun K hK => ?_
  simp only [List.replicate, List.set, List.map, List.any, List.append, Op.operands, dif_pos, gA, Call.operands, gB, gC, gD, gE, gF, gG, Nat.reduceMul, reduceCtorEq, Nat.reduceBEq, Nat.reduceAdd, Nat.reduceLT, Nat.reduceLeDiff, Nat.reduceSub, Nat.reduceEqDiff, bq, tgs, vq]
  refine hK _ ?_
  clear hK K
  try refine vthen_n ?_
  repeat refine VW.seq ?_
  refine VW.cond rfl (fun hc => ?_) (fun hc => ?_)
  · repeat refine VW.seq ?_
    refine VW.regl hT fun K hK => ?_
    simp only [List.replicate, List.set, List.map, List.any, List.append, Op.operands, dif_pos, gA, Call.operands, gB, gC, gD, gE, gF, gG, Nat.reduceMul, reduceCtorEq, Nat.reduceBEq, Nat.reduceAdd, Nat.reduceLT, Nat.reduceLeDiff, Nat.reduceSub, Nat.reduceEqDiff, bq, tgs, vq]
    refine hK _ ?_
    clear hK K
    try refine vthen_n ?_
    refine VW.ret ⟨.inl rfl, _, rfl, ?_⟩
    simp [eqv] at hc; simp [hc]
  refine VW.skip (vthen_n ?_)
  repeat refine VW.seq ?_
  refine VW.regl hT fun K hK => ?_
  simp only [List.replicate, List.set, List.map, List.any, List.append, Op.operands, dif_pos, gA, Call.operands, gB, gC, gD, gE, gF, gG, Nat.reduceMul, reduceCtorEq, Nat.reduceBEq, Nat.reduceAdd, Nat.reduceLT, Nat.reduceLeDiff, Nat.reduceSub, Nat.reduceEqDiff, bq, tgs, vq]
  refine hK _ ?_
  clear hK K
  try refine vthen_n ?_
  refine VW.ret ⟨.inl rfl, _, rfl, ?_⟩
  simp_all [eqv]
set_option maxRecDepth 20000 in
theorem eqBar_vc (x y : Int × Int) : VC Try.prog 81 [.v true sBr x, .v true sBr y] (· = .v false .bool (decide (x = y))) := by
  refine VC.of_body hT Try.func81 rfl (by kernel_rfl) [(.tmp 4, false, .bool)] (by kernel_rfl) ?_
  show VW _ _ ([.v true sBr x, .v true sBr y, D, D, D, D, D, D, D, D, D, D, D, D, D]) _
  obtain ⟨x0, x1⟩ := x
  obtain ⟨y0, y1⟩ := y
  repeat refine VW.seq ?_
  refine VW.regl hT fun K hK => ?_
  simp only [List.replicate, List.set, List.map, List.any, List.append, Op.operands, dif_pos, gA, Call.operands, gB, gC, gD, gE, gF, gG, Nat.reduceMul, reduceCtorEq, Nat.reduceBEq, Nat.reduceAdd, Nat.reduceLT, Nat.reduceLeDiff, Nat.reduceSub, Nat.reduceEqDiff, bq, tgs, vq]
  refine hK _ ?_
  clear hK K
  try refine vthen_n ?_
  repeat refine VW.seq ?_
  refine VW.regl hT fun K hK => ?_
  simp only [List.replicate, List.set, List.map, List.any, List.append, Op.operands, dif_pos, gA, Call.operands, gB, gC, gD, gE, gF, gG, Nat.reduceMul, reduceCtorEq, Nat.reduceBEq, Nat.reduceAdd, Nat.reduceLT, Nat.reduceLeDiff, Nat.reduceSub, Nat.reduceEqDiff, bq, tgs, vq]
  refine hK _ ?_
  clear hK K
  try refine vthen_n ?_
  repeat refine VW.seq ?_
  refine VW.cond rfl (fun hc => ?_) (fun hc => ?_)
  · repeat refine VW.seq ?_
    refine VW.regl hT fun K hK => ?_
    simp only [List.replicate, List.set, List.map, List.any, List.append, Op.operands, dif_pos, gA, Call.operands, gB, gC, gD, gE, gF, gG, Nat.reduceMul, reduceCtorEq, Nat.reduceBEq, Nat.reduceAdd, Nat.reduceLT, Nat.reduceLeDiff, Nat.reduceSub, Nat.reduceEqDiff, bq, tgs, vq]
    refine hK _ ?_
    clear hK K
    try refine vthen_n ?_
    refine VW.ret ⟨.inl rfl, _, rfl, ?_⟩
    simp [eqv] at hc; simp [hc]
  refine VW.skip (vthen_n ?_)
  repeat refine VW.seq ?_
  refine VW.regl hT fun K hK => ?_
  simp only [List.replicate, List.set, List.map, List.any, List.append, Op.operands, dif_pos, gA, Call.operands, gB, gC, gD, gE, gF, gG, Nat.reduceMul, reduceCtorEq, Nat.reduceBEq, Nat.reduceAdd, Nat.reduceLT, Nat.reduceLeDiff, Nat.reduceSub, Nat.reduceEqDiff, bq, tgs, vq]
  refine hK _ ?_
  clear hK K
  try refine vthen_n ?_
  repeat refine VW.seq ?_
  refine VW.cond rfl (fun hc => ?_) (fun hc => ?_)
  · repeat refine VW.seq ?_
    refine VW.regl hT fun K hK => ?_
    simp only [List.replicate, List.set, List.map, List.any, List.append, Op.operands, dif_pos, gA, Call.operands, gB, gC, gD, gE, gF, gG, Nat.reduceMul, reduceCtorEq, Nat.reduceBEq, Nat.reduceAdd, Nat.reduceLT, Nat.reduceLeDiff, Nat.reduceSub, Nat.reduceEqDiff, bq, tgs, vq]
    refine hK _ ?_
    clear hK K
    try refine vthen_n ?_
    refine VW.ret ⟨.inl rfl, _, rfl, ?_⟩
    simp [eqv] at hc; simp [hc]
  refine VW.skip (vthen_n ?_)
  repeat refine VW.seq ?_
  refine VW.regl hT fun K hK => ?_
  simp only [List.replicate, List.set, List.map, List.any, List.append, Op.operands, dif_pos, gA, Call.operands, gB, gC, gD, gE, gF, gG, Nat.reduceMul, reduceCtorEq, Nat.reduceBEq, Nat.reduceAdd, Nat.reduceLT, Nat.reduceLeDiff, Nat.reduceSub, Nat.reduceEqDiff, bq, tgs, vq]
  refine hK _ ?_
  clear hK K
  try refine vthen_n ?_
  refine VW.ret ⟨.inl rfl, _, rfl, ?_⟩
  simp_all [eqv]
set_option maxRecDepth 20000 in
theorem toNodeS_vc (xs : List (Int × Int × Int)) (hl : xs.length * 24 ≤ 140737488351232) : VC Try.prog 14 [.v false (.sl 80 sN) xs] (· = .root (.val false) (.sl 71 sN) .own xs) := by
  refine VC.of_body hT Try.func14 rfl (by kernel_rfl) [(.tmp 2, false, .sl 71 sN)] (by kernel_rfl) ?_
  show VW _ _ ([.v false (.sl 80 sN) xs, D, D, D, D, D, D, D, D, D, D, D, D, D, D, D, D, D, D, D, D, D, D]) _
  repeat refine VW.seq ?_
  refine VW.regl hT fun K hK => ?_
  simp only [List.replicate, List.set, List.map, List.any, List.append, Op.operands, dif_pos, gA, Call.operands, gB, gC, gD, gE, gF, gG, Nat.reduceMul, reduceCtorEq, Nat.reduceBEq, Nat.reduceAdd, Nat.reduceLT, Nat.reduceLeDiff, Nat.reduceSub, Nat.reduceEqDiff, bq, tgs, vq]
  refine hK _ ?_
  clear hK K
  try refine vthen_n ?_
  repeat refine VW.seq ?_
  refine VW.regl hT fun K hK => ?_
  simp only [List.replicate, List.set, List.map, List.any, List.append, Op.operands, dif_pos, gA, Call.operands, gB, gC, gD, gE, gF, gG, Nat.reduceMul, reduceCtorEq, Nat.reduceBEq, Nat.reduceAdd, Nat.reduceLT, Nat.reduceLeDiff, Nat.reduceSub, Nat.reduceEqDiff, bq, tgs, vq]
  refine ⟨by simp [limOk]; omega, ?_⟩
  refine hK _ ?_
  clear hK K
  try refine vthen_n ?_
  repeat refine VW.seq ?_
  refine VW.regl hT fun K hK => ?_
  simp only [List.replicate, List.set, List.map, List.any, List.append, Op.operands, dif_pos, gA, Call.operands, gB, gC, gD, gE, gF, gG, Nat.reduceMul, reduceCtorEq, Nat.reduceBEq, Nat.reduceAdd, Nat.reduceLT, Nat.reduceLeDiff, Nat.reduceSub, Nat.reduceEqDiff, bq, tgs, vq]
  refine hK _ ?_
  clear hK K
  try refine vthen_n ?_
  repeat refine VW.seq ?_
  refine VW.block ?_
  refine VW.loop (α := Nat) [(0, none), (3, none), (4, none)] (fun i => [.v false (.sl 80 sN) xs, D, D, .root (.val false) (.sl 71 sN) .own (fillTo xs (0, 0, 0) i), .v false (.int .i64) (i : Int), D, D, D, D, D, D, D, D, D, D, D, D, D, D, D, D, D, D]) (fun i => i ≤ xs.length) (fun i => xs.length - i) ⟨0, by omega, ?_⟩ fun i hi => ?_
  · simp only [norm, homeOne, moveTo, keepS, keepGo, usesOut, List.foldl, ren, renC, List.replicate, List.set, List.map, List.any, List.append, Op.operands, dif_pos, gA, Call.operands, gB, gC, gD, gE, gF, gG, Nat.reduceMul, reduceCtorEq, Nat.reduceBEq, Nat.reduceAdd, Nat.reduceLT, Nat.reduceLeDiff, Nat.reduceSub, Nat.reduceEqDiff, bq, tgs, vq]
    rw [fillTo_zero]; rfl
  repeat refine VW.seq ?_
  refine VW.regl hT fun K hK => ?_
  simp only [List.replicate, List.set, List.map, List.any, List.append, Op.operands, dif_pos, gA, Call.operands, gB, gC, gD, gE, gF, gG, Nat.reduceMul, reduceCtorEq, Nat.reduceBEq, Nat.reduceAdd, Nat.reduceLT, Nat.reduceLeDiff, Nat.reduceSub, Nat.reduceEqDiff, bq, tgs, vq]
  refine hK _ ?_
  clear hK K
  try refine vthen_n ?_
  repeat refine VW.seq ?_
  refine VW.cond rfl (fun hc => ?_) (fun hc => ?_)
  · have hlt : i < xs.length := by simpa using hc
    refine VW.skip (vthen_n ?_)
    repeat refine VW.seq ?_
    refine VW.block ?_
    repeat refine VW.seq ?_
    refine VW.regl hT fun K hK => ?_
    simp only [List.replicate, List.set, List.map, List.any, List.append, Op.operands, dif_pos, gA, Call.operands, gB, gC, gD, gE, gF, gG, Nat.reduceMul, reduceCtorEq, Nat.reduceBEq, Nat.reduceAdd, Nat.reduceLT, Nat.reduceLeDiff, Nat.reduceSub, Nat.reduceEqDiff, bq, tgs, vq]
    refine ⟨by simp; omega, vcall_of (toNode_vc _) ?_⟩
    simp only [List.replicate, List.set, List.map, List.any, List.append, Op.operands, dif_pos, gA, Call.operands, gB, gC, gD, gE, gF, gG, Nat.reduceMul, reduceCtorEq, Nat.reduceBEq, Nat.reduceAdd, Nat.reduceLT, Nat.reduceLeDiff, Nat.reduceSub, Nat.reduceEqDiff, bq, tgs, vq]
    refine ⟨by simp [fillTo_len hi]; omega, ?_⟩
    refine hK _ ?_
    clear hK K
    try refine vthen_n ?_
    repeat refine VW.seq ?_
    refine VW.regl hT fun K hK => ?_
    simp only [List.replicate, List.set, List.map, List.any, List.append, Op.operands, dif_pos, gA, Call.operands, gB, gC, gD, gE, gF, gG, Nat.reduceMul, reduceCtorEq, Nat.reduceBEq, Nat.reduceAdd, Nat.reduceLT, Nat.reduceLeDiff, Nat.reduceSub, Nat.reduceEqDiff, bq, tgs, vq]
    refine hK _ ?_
    clear hK K
    try refine vthen_n ?_
    refine ⟨i + 1, hlt, ?_, by show xs.length - (i + 1) < xs.length - i; omega⟩
    simp only [norm, homeOne, moveTo, keepS, keepGo, usesOut, List.foldl, ren, renC, List.replicate, List.set, List.map, List.any, List.append, Op.operands, dif_pos, gA, Call.operands, gB, gC, gD, gE, gF, gG, Nat.reduceMul, reduceCtorEq, Nat.reduceBEq, Nat.reduceAdd, Nat.reduceLT, Nat.reduceLeDiff, Nat.reduceSub, Nat.reduceEqDiff, bq, tgs, vq]
    rw [fillTo_set hlt, wrap64 (by omega) (by omega)]
    rfl
  · have hc : xs.length ≤ i := by simpa using hc
    refine VW.exit ?_
    show vthen _ _ _ .normal _
    refine vthen_n ?_
    repeat refine VW.seq ?_
    refine VW.regl hT fun K hK => ?_
    simp only [List.replicate, List.set, List.map, List.any, List.append, Op.operands, dif_pos, gA, Call.operands, gB, gC, gD, gE, gF, gG, Nat.reduceMul, reduceCtorEq, Nat.reduceBEq, Nat.reduceAdd, Nat.reduceLT, Nat.reduceLeDiff, Nat.reduceSub, Nat.reduceEqDiff, bq, tgs, vq]
    refine hK _ ?_
    clear hK K
    try refine vthen_n ?_
    refine VW.ret ⟨.inl rfl, _, rfl, ?_⟩
    rw [fillTo_all xs _ hc]
set_option maxRecDepth 20000 in
theorem eqNodeS_vc (xs ys : List (Int × Int × Int)) (hl : xs.length * 24 ≤ 140737488351232) : VC Try.prog 17 [.v false (.sl 71 sN) xs, .v false (.sl 71 sN) ys] (· = .v false .bool (decide (xs = ys))) := by
  refine VC.of_body hT Try.func17 rfl (by kernel_rfl) [(.tmp 4, false, .bool)] (by kernel_rfl) ?_
  show VW _ _ ([.v false (.sl 71 sN) xs, .v false (.sl 71 sN) ys, D, D, D, D, D, D, D, D, D, D, D, D, D, D, D, D, D, D, D, D, D, D, D, D, D]) _
  repeat refine VW.seq ?_
  refine VW.regl hT fun K hK => ?_
  simp only [List.replicate, List.set, List.map, List.any, List.append, Op.operands, dif_pos, gA, Call.operands, gB, gC, gD, gE, gF, gG, Nat.reduceMul, reduceCtorEq, Nat.reduceBEq, Nat.reduceAdd, Nat.reduceLT, Nat.reduceLeDiff, Nat.reduceSub, Nat.reduceEqDiff, bq, tgs, vq]
  refine hK _ ?_
  clear hK K
  try refine vthen_n ?_
  repeat refine VW.seq ?_
  refine VW.regl hT fun K hK => ?_
  simp only [List.replicate, List.set, List.map, List.any, List.append, Op.operands, dif_pos, gA, Call.operands, gB, gC, gD, gE, gF, gG, Nat.reduceMul, reduceCtorEq, Nat.reduceBEq, Nat.reduceAdd, Nat.reduceLT, Nat.reduceLeDiff, Nat.reduceSub, Nat.reduceEqDiff, bq, tgs, vq]
  refine hK _ ?_
  clear hK K
  try refine vthen_n ?_
  repeat refine VW.seq ?_
  refine VW.cond rfl (fun hc => ?_) (fun hc => ?_)
  · repeat refine VW.seq ?_
    refine VW.regl hT fun K hK => ?_
    simp only [List.replicate, List.set, List.map, List.any, List.append, Op.operands, dif_pos, gA, Call.operands, gB, gC, gD, gE, gF, gG, Nat.reduceMul, reduceCtorEq, Nat.reduceBEq, Nat.reduceAdd, Nat.reduceLT, Nat.reduceLeDiff, Nat.reduceSub, Nat.reduceEqDiff, bq, tgs, vq]
    refine hK _ ?_
    clear hK K
    try refine vthen_n ?_
    refine VW.ret ⟨.inl rfl, _, rfl, ?_⟩
    have : xs ≠ ys := fun e => by subst e; simp at hc
    simp [this]
  have hlen : xs.length = ys.length := by simp at hc; omega
  refine VW.skip (vthen_n ?_)
  repeat refine VW.seq ?_
  refine VW.regl hT fun K hK => ?_
  simp only [List.replicate, List.set, List.map, List.any, List.append, Op.operands, dif_pos, gA, Call.operands, gB, gC, gD, gE, gF, gG, Nat.reduceMul, reduceCtorEq, Nat.reduceBEq, Nat.reduceAdd, Nat.reduceLT, Nat.reduceLeDiff, Nat.reduceSub, Nat.reduceEqDiff, bq, tgs, vq]
  refine hK _ ?_
  clear hK K
  try refine vthen_n ?_
  repeat refine VW.seq ?_
  refine VW.block ?_
  refine VW.loop (α := Nat) [(0, none), (1, none), (5, none)] (fun i => [.v false (.sl 71 sN) xs, .v false (.sl 71 sN) ys, D, D, D, .v false (.int .i64) (i : Int), D, D, D, D, D, D, D, D, D, D, D, D, D, D, D, D, D, D, D, D, D]) (fun i => i ≤ xs.length ∧ ∀ k, k < i → xs.getD k (0, 0, 0) = ys.getD k (0, 0, 0)) (fun i => xs.length - i) ⟨0, ⟨by omega, fun k hk => by omega⟩, ?_⟩ fun i ⟨hi, hk⟩ => ?_
  · simp only [norm, homeOne, moveTo, keepS, keepGo, usesOut, List.foldl, ren, renC, List.replicate, List.set, List.map, List.any, List.append, Op.operands, dif_pos, gA, Call.operands, gB, gC, gD, gE, gF, gG, Nat.reduceMul, reduceCtorEq, Nat.reduceBEq, Nat.reduceAdd, Nat.reduceLT, Nat.reduceLeDiff, Nat.reduceSub, Nat.reduceEqDiff, bq, tgs, vq]
    rfl
  repeat refine VW.seq ?_
  refine VW.regl hT fun K hK => ?_
  simp only [List.replicate, List.set, List.map, List.any, List.append, Op.operands, dif_pos, gA, Call.operands, gB, gC, gD, gE, gF, gG, Nat.reduceMul, reduceCtorEq, Nat.reduceBEq, Nat.reduceAdd, Nat.reduceLT, Nat.reduceLeDiff, Nat.reduceSub, Nat.reduceEqDiff, bq, tgs, vq]
  refine hK _ ?_
  clear hK K
  try refine vthen_n ?_
  repeat refine VW.seq ?_
  refine VW.cond rfl (fun hc => ?_) (fun hc => ?_)
  · have hlt : i < xs.length := by simpa using hc
    refine VW.skip (vthen_n ?_)
    repeat refine VW.seq ?_
    refine VW.block ?_
    repeat refine VW.seq ?_
    refine VW.drawl hT hm (by kernel_rfl) fun K hK => ?_
    simp only [List.replicate, List.set, List.map, List.any, List.append, Op.operands, dif_pos, gA, Call.operands, gB, gC, gD, gE, gF, gG, Nat.reduceMul, reduceCtorEq, Nat.reduceBEq, Nat.reduceAdd, Nat.reduceLT, Nat.reduceLeDiff, Nat.reduceSub, Nat.reduceEqDiff, bq, tgs, vq]
    refine ⟨by simp; omega, by simp; omega, vcallD_of (eqNode_vc _ _) ?_⟩
    simp only [List.replicate, List.set, List.map, List.any, List.append, Op.operands, dif_pos, gA, Call.operands, gB, gC, gD, gE, gF, gG, Nat.reduceMul, reduceCtorEq, Nat.reduceBEq, Nat.reduceAdd, Nat.reduceLT, Nat.reduceLeDiff, Nat.reduceSub, Nat.reduceEqDiff, bq, tgs, vq]
    refine hK _ ?_
    clear hK K
    try refine vthen_n ?_
    repeat refine VW.seq ?_
    refine VW.cond rfl (fun hc => ?_) (fun hc => ?_)
    · repeat refine VW.seq ?_
      refine VW.regl hT fun K hK => ?_
      simp only [List.replicate, List.set, List.map, List.any, List.append, Op.operands, dif_pos, gA, Call.operands, gB, gC, gD, gE, gF, gG, Nat.reduceMul, reduceCtorEq, Nat.reduceBEq, Nat.reduceAdd, Nat.reduceLT, Nat.reduceLeDiff, Nat.reduceSub, Nat.reduceEqDiff, bq, tgs, vq]
      refine hK _ ?_
      clear hK K
      try refine vthen_n ?_
      refine VW.ret ⟨.inl rfl, _, rfl, ?_⟩
      have : xs ≠ ys := fun e => by subst e; simp [eqv] at hc
      simp [this]
    · have hxy : xs.getD i (0, 0, 0) = ys.getD i (0, 0, 0) := by
        have hc2 := hc
        rw [Bool.not_eq_false'] at hc2
        exact of_decide_eq_true hc2
      refine VW.skip ?_
      show vthen _ _ _ .normal _
      refine vthen_n ?_
      repeat refine VW.seq ?_
      refine VW.regl hT fun K hK => ?_
      simp only [List.replicate, List.set, List.map, List.any, List.append, Op.operands, dif_pos, gA, Call.operands, gB, gC, gD, gE, gF, gG, Nat.reduceMul, reduceCtorEq, Nat.reduceBEq, Nat.reduceAdd, Nat.reduceLT, Nat.reduceLeDiff, Nat.reduceSub, Nat.reduceEqDiff, bq, tgs, vq]
      refine hK _ ?_
      clear hK K
      try refine vthen_n ?_
      refine ⟨i + 1, ⟨hlt, fun k h => ?_⟩, ?_, by show xs.length - (i + 1) < xs.length - i; omega⟩
      · rcases Nat.lt_or_ge k i with h1 | h1
        · exact hk k h1
        · obtain rfl : k = i := by omega
          exact hxy
      · simp only [norm, homeOne, moveTo, keepS, keepGo, usesOut, List.foldl, ren, renC, List.replicate, List.set, List.map, List.any, List.append, Op.operands, dif_pos, gA, Call.operands, gB, gC, gD, gE, gF, gG, Nat.reduceMul, reduceCtorEq, Nat.reduceBEq, Nat.reduceAdd, Nat.reduceLT, Nat.reduceLeDiff, Nat.reduceSub, Nat.reduceEqDiff, bq, tgs, vq]
        rw [wrap64 (by omega) (by omega)]
        rfl
  · have hc : xs.length ≤ i := by simpa using hc
    refine VW.exit ?_
    show vthen _ _ _ .normal _
    refine vthen_n ?_
    repeat refine VW.seq ?_
    refine VW.regl hT fun K hK => ?_
    simp only [List.replicate, List.set, List.map, List.any, List.append, Op.operands, dif_pos, gA, Call.operands, gB, gC, gD, gE, gF, gG, Nat.reduceMul, reduceCtorEq, Nat.reduceBEq, Nat.reduceAdd, Nat.reduceLT, Nat.reduceLeDiff, Nat.reduceSub, Nat.reduceEqDiff, bq, tgs, vq]
    refine hK _ ?_
    clear hK K
    try refine vthen_n ?_
    refine VW.ret ⟨.inl rfl, _, rfl, ?_⟩
    rw [row_eq (0, 0, 0) hlen fun k h => hk k (by omega)]
    simp
set_option maxRecDepth 20000 in
theorem eqBarS_vc (xs ys : List (Int × Int)) (hl : xs.length * 16 ≤ 140737488351232) : VC Try.prog 41 [.v false (.sl 75 sBr) xs, .v false (.sl 75 sBr) ys] (· = .v false .bool (decide (xs = ys))) := by
  refine VC.of_body hT Try.func41 rfl (by kernel_rfl) [(.tmp 4, false, .bool)] (by kernel_rfl) ?_
  show VW _ _ ([.v false (.sl 75 sBr) xs, .v false (.sl 75 sBr) ys, D, D, D, D, D, D, D, D, D, D, D, D, D, D, D, D, D, D, D, D, D, D, D, D, D]) _
  repeat refine VW.seq ?_
  refine VW.regl hT fun K hK => ?_
  simp only [List.replicate, List.set, List.map, List.any, List.append, Op.operands, dif_pos, gA, Call.operands, gB, gC, gD, gE, gF, gG, Nat.reduceMul, reduceCtorEq, Nat.reduceBEq, Nat.reduceAdd, Nat.reduceLT, Nat.reduceLeDiff, Nat.reduceSub, Nat.reduceEqDiff, bq, tgs, vq]
  refine hK _ ?_
  clear hK K
  try refine vthen_n ?_
  repeat refine VW.seq ?_
  refine VW.regl hT fun K hK => ?_
  simp only [List.replicate, List.set, List.map, List.any, List.append, Op.operands, dif_pos, gA, Call.operands, gB, gC, gD, gE, gF, gG, Nat.reduceMul, reduceCtorEq, Nat.reduceBEq, Nat.reduceAdd, Nat.reduceLT, Nat.reduceLeDiff, Nat.reduceSub, Nat.reduceEqDiff, bq, tgs, vq]
  refine hK _ ?_
  clear hK K
  try refine vthen_n ?_
  repeat refine VW.seq ?_
  refine VW.cond rfl (fun hc => ?_) (fun hc => ?_)
  · repeat refine VW.seq ?_
    refine VW.regl hT fun K hK => ?_
    simp only [List.replicate, List.set, List.map, List.any, List.append, Op.operands, dif_pos, gA, Call.operands, gB, gC, gD, gE, gF, gG, Nat.reduceMul, reduceCtorEq, Nat.reduceBEq, Nat.reduceAdd, Nat.reduceLT, Nat.reduceLeDiff, Nat.reduceSub, Nat.reduceEqDiff, bq, tgs, vq]
    refine hK _ ?_
    clear hK K
    try refine vthen_n ?_
    refine VW.ret ⟨.inl rfl, _, rfl, ?_⟩
    have : xs ≠ ys := fun e => by subst e; simp at hc
    simp [this]
  have hlen : xs.length = ys.length := by simp at hc; omega
  refine VW.skip (vthen_n ?_)
  repeat refine VW.seq ?_
  refine VW.regl hT fun K hK => ?_
  simp only [List.replicate, List.set, List.map, List.any, List.append, Op.operands, dif_pos, gA, Call.operands, gB, gC, gD, gE, gF, gG, Nat.reduceMul, reduceCtorEq, Nat.reduceBEq, Nat.reduceAdd, Nat.reduceLT, Nat.reduceLeDiff, Nat.reduceSub, Nat.reduceEqDiff, bq, tgs, vq]
  refine hK _ ?_
  clear hK K
  try refine vthen_n ?_
  repeat refine VW.seq ?_
  refine VW.block ?_
  refine VW.loop (α := Nat) [(0, none), (1, none), (5, none)] (fun i => [.v false (.sl 75 sBr) xs, .v false (.sl 75 sBr) ys, D, D, D, .v false (.int .i64) (i : Int), D, D, D, D, D, D, D, D, D, D, D, D, D, D, D, D, D, D, D, D, D]) (fun i => i ≤ xs.length ∧ ∀ k, k < i → xs.getD k (0, 0) = ys.getD k (0, 0)) (fun i => xs.length - i) ⟨0, ⟨by omega, fun k hk => by omega⟩, ?_⟩ fun i ⟨hi, hk⟩ => ?_
  · simp only [norm, homeOne, moveTo, keepS, keepGo, usesOut, List.foldl, ren, renC, List.replicate, List.set, List.map, List.any, List.append, Op.operands, dif_pos, gA, Call.operands, gB, gC, gD, gE, gF, gG, Nat.reduceMul, reduceCtorEq, Nat.reduceBEq, Nat.reduceAdd, Nat.reduceLT, Nat.reduceLeDiff, Nat.reduceSub, Nat.reduceEqDiff, bq, tgs, vq]
    rfl
  repeat refine VW.seq ?_
  refine VW.regl hT fun K hK => ?_
  simp only [List.replicate, List.set, List.map, List.any, List.append, Op.operands, dif_pos, gA, Call.operands, gB, gC, gD, gE, gF, gG, Nat.reduceMul, reduceCtorEq, Nat.reduceBEq, Nat.reduceAdd, Nat.reduceLT, Nat.reduceLeDiff, Nat.reduceSub, Nat.reduceEqDiff, bq, tgs, vq]
  refine hK _ ?_
  clear hK K
  try refine vthen_n ?_
  repeat refine VW.seq ?_
  refine VW.cond rfl (fun hc => ?_) (fun hc => ?_)
  · have hlt : i < xs.length := by simpa using hc
    refine VW.skip (vthen_n ?_)
    repeat refine VW.seq ?_
    refine VW.block ?_
    repeat refine VW.seq ?_
    refine VW.drawl hT hm (by kernel_rfl) fun K hK => ?_
    simp only [List.replicate, List.set, List.map, List.any, List.append, Op.operands, dif_pos, gA, Call.operands, gB, gC, gD, gE, gF, gG, Nat.reduceMul, reduceCtorEq, Nat.reduceBEq, Nat.reduceAdd, Nat.reduceLT, Nat.reduceLeDiff, Nat.reduceSub, Nat.reduceEqDiff, bq, tgs, vq]
    refine ⟨by simp; omega, by simp; omega, vcallD_of (eqBar_vc _ _) ?_⟩
    simp only [List.replicate, List.set, List.map, List.any, List.append, Op.operands, dif_pos, gA, Call.operands, gB, gC, gD, gE, gF, gG, Nat.reduceMul, reduceCtorEq, Nat.reduceBEq, Nat.reduceAdd, Nat.reduceLT, Nat.reduceLeDiff, Nat.reduceSub, Nat.reduceEqDiff, bq, tgs, vq]
    refine hK _ ?_
    clear hK K
    try refine vthen_n ?_
    repeat refine VW.seq ?_
    refine VW.cond rfl (fun hc => ?_) (fun hc => ?_)
    · repeat refine VW.seq ?_
      refine VW.regl hT fun K hK => ?_
      simp only [List.replicate, List.set, List.map, List.any, List.append, Op.operands, dif_pos, gA, Call.operands, gB, gC, gD, gE, gF, gG, Nat.reduceMul, reduceCtorEq, Nat.reduceBEq, Nat.reduceAdd, Nat.reduceLT, Nat.reduceLeDiff, Nat.reduceSub, Nat.reduceEqDiff, bq, tgs, vq]
      refine hK _ ?_
      clear hK K
      try refine vthen_n ?_
      refine VW.ret ⟨.inl rfl, _, rfl, ?_⟩
      have : xs ≠ ys := fun e => by subst e; simp [eqv] at hc
      simp [this]
    · have hxy : xs.getD i (0, 0) = ys.getD i (0, 0) := by
        have hc2 := hc
        rw [Bool.not_eq_false'] at hc2
        exact of_decide_eq_true hc2
      refine VW.skip ?_
      show vthen _ _ _ .normal _
      refine vthen_n ?_
      repeat refine VW.seq ?_
      refine VW.regl hT fun K hK => ?_
      simp only [List.replicate, List.set, List.map, List.any, List.append, Op.operands, dif_pos, gA, Call.operands, gB, gC, gD, gE, gF, gG, Nat.reduceMul, reduceCtorEq, Nat.reduceBEq, Nat.reduceAdd, Nat.reduceLT, Nat.reduceLeDiff, Nat.reduceSub, Nat.reduceEqDiff, bq, tgs, vq]
      refine hK _ ?_
      clear hK K
      try refine vthen_n ?_
      refine ⟨i + 1, ⟨hlt, fun k h => ?_⟩, ?_, by show xs.length - (i + 1) < xs.length - i; omega⟩
      · rcases Nat.lt_or_ge k i with h1 | h1
        · exact hk k h1
        · obtain rfl : k = i := by omega
          exact hxy
      · simp only [norm, homeOne, moveTo, keepS, keepGo, usesOut, List.foldl, ren, renC, List.replicate, List.set, List.map, List.any, List.append, Op.operands, dif_pos, gA, Call.operands, gB, gC, gD, gE, gF, gG, Nat.reduceMul, reduceCtorEq, Nat.reduceBEq, Nat.reduceAdd, Nat.reduceLT, Nat.reduceLeDiff, Nat.reduceSub, Nat.reduceEqDiff, bq, tgs, vq]
        rw [wrap64 (by omega) (by omega)]
        rfl
  · have hc : xs.length ≤ i := by simpa using hc
    refine VW.exit ?_
    show vthen _ _ _ .normal _
    refine vthen_n ?_
    repeat refine VW.seq ?_
    refine VW.regl hT fun K hK => ?_
    simp only [List.replicate, List.set, List.map, List.any, List.append, Op.operands, dif_pos, gA, Call.operands, gB, gC, gD, gE, gF, gG, Nat.reduceMul, reduceCtorEq, Nat.reduceBEq, Nat.reduceAdd, Nat.reduceLT, Nat.reduceLeDiff, Nat.reduceSub, Nat.reduceEqDiff, bq, tgs, vq]
    refine hK _ ?_
    clear hK K
    try refine vthen_n ?_
    refine VW.ret ⟨.inl rfl, _, rfl, ?_⟩
    rw [row_eq (0, 0) hlen fun k h => hk k (by omega)]
    simp
set_option maxRecDepth 20000 in
theorem eqIntSS_vc (xs ys : List (List Int)) (hl : xs.length * 24 ≤ 140737488351232) (hin : ∀ k, (xs.getD k []).length * 8 ≤ 140737488351232) : VC Try.prog 42 [.v false (.sl 25 sI) xs, .v false (.sl 25 sI) ys] (· = .v false .bool (decide (xs = ys))) := by
  refine VC.of_body hT Try.func42 rfl (by kernel_rfl) [(.tmp 4, false, .bool)] (by kernel_rfl) ?_
  show VW _ _ ([.v false (.sl 25 sI) xs, .v false (.sl 25 sI) ys, D, D, D, D, D, D, D, D, D, D, D, D, D, D, D, D, D, D, D, D, D, D, D, D, D]) _
  repeat refine VW.seq ?_
  refine VW.regl hT fun K hK => ?_
  simp only [List.replicate, List.set, List.map, List.any, List.append, Op.operands, dif_pos, gA, Call.operands, gB, gC, gD, gE, gF, gG, Nat.reduceMul, reduceCtorEq, Nat.reduceBEq, Nat.reduceAdd, Nat.reduceLT, Nat.reduceLeDiff, Nat.reduceSub, Nat.reduceEqDiff, bq, tgs, vq]
  refine hK _ ?_
  clear hK K
  try refine vthen_n ?_
  repeat refine VW.seq ?_
  refine VW.regl hT fun K hK => ?_
  simp only [List.replicate, List.set, List.map, List.any, List.append, Op.operands, dif_pos, gA, Call.operands, gB, gC, gD, gE, gF, gG, Nat.reduceMul, reduceCtorEq, Nat.reduceBEq, Nat.reduceAdd, Nat.reduceLT, Nat.reduceLeDiff, Nat.reduceSub, Nat.reduceEqDiff, bq, tgs, vq]
  refine hK _ ?_
  clear hK K
  try refine vthen_n ?_
  repeat refine VW.seq ?_
  refine VW.cond rfl (fun hc => ?_) (fun hc => ?_)
  · repeat refine VW.seq ?_
    refine VW.regl hT fun K hK => ?_
    simp only [List.replicate, List.set, List.map, List.any, List.append, Op.operands, dif_pos, gA, Call.operands, gB, gC, gD, gE, gF, gG, Nat.reduceMul, reduceCtorEq, Nat.reduceBEq, Nat.reduceAdd, Nat.reduceLT, Nat.reduceLeDiff, Nat.reduceSub, Nat.reduceEqDiff, bq, tgs, vq]
    refine hK _ ?_
    clear hK K
    try refine vthen_n ?_
    refine VW.ret ⟨.inl rfl, _, rfl, ?_⟩
    have : xs ≠ ys := fun e => by subst e; simp at hc
    simp [this]
  have hlen : xs.length = ys.length := by simp at hc; omega
  refine VW.skip (vthen_n ?_)
  repeat refine VW.seq ?_
  refine VW.regl hT fun K hK => ?_
  simp only [List.replicate, List.set, List.map, List.any, List.append, Op.operands, dif_pos, gA, Call.operands, gB, gC, gD, gE, gF, gG, Nat.reduceMul, reduceCtorEq, Nat.reduceBEq, Nat.reduceAdd, Nat.reduceLT, Nat.reduceLeDiff, Nat.reduceSub, Nat.reduceEqDiff, bq, tgs, vq]
  refine hK _ ?_
  clear hK K
  try refine vthen_n ?_
  repeat refine VW.seq ?_
  refine VW.block ?_
  refine VW.loop (α := Nat) [(0, none), (1, none), (5, none)] (fun i => [.v false (.sl 25 sI) xs, .v false (.sl 25 sI) ys, D, D, D, .v false (.int .i64) (i : Int), D, D, D, D, D, D, D, D, D, D, D, D, D, D, D, D, D, D, D, D, D]) (fun i => i ≤ xs.length ∧ ∀ k, k < i → xs.getD k [] = ys.getD k []) (fun i => xs.length - i) ⟨0, ⟨by omega, fun k hk => by omega⟩, ?_⟩ fun i ⟨hi, hk⟩ => ?_
  · simp only [norm, homeOne, moveTo, keepS, keepGo, usesOut, List.foldl, ren, renC, List.replicate, List.set, List.map, List.any, List.append, Op.operands, dif_pos, gA, Call.operands, gB, gC, gD, gE, gF, gG, Nat.reduceMul, reduceCtorEq, Nat.reduceBEq, Nat.reduceAdd, Nat.reduceLT, Nat.reduceLeDiff, Nat.reduceSub, Nat.reduceEqDiff, bq, tgs, vq]
    rfl
  repeat refine VW.seq ?_
  refine VW.regl hT fun K hK => ?_
  simp only [List.replicate, List.set, List.map, List.any, List.append, Op.operands, dif_pos, gA, Call.operands, gB, gC, gD, gE, gF, gG, Nat.reduceMul, reduceCtorEq, Nat.reduceBEq, Nat.reduceAdd, Nat.reduceLT, Nat.reduceLeDiff, Nat.reduceSub, Nat.reduceEqDiff, bq, tgs, vq]
  refine hK _ ?_
  clear hK K
  try refine vthen_n ?_
  repeat refine VW.seq ?_
  refine VW.cond rfl (fun hc => ?_) (fun hc => ?_)
  · have hlt : i < xs.length := by simpa using hc
    refine VW.skip (vthen_n ?_)
    repeat refine VW.seq ?_
    refine VW.block ?_
    repeat refine VW.seq ?_
    refine VW.drawl hT hm (by kernel_rfl) fun K hK => ?_
    simp only [List.replicate, List.set, List.map, List.any, List.append, Op.operands, dif_pos, gA, Call.operands, gB, gC, gD, gE, gF, gG, Nat.reduceMul, reduceCtorEq, Nat.reduceBEq, Nat.reduceAdd, Nat.reduceLT, Nat.reduceLeDiff, Nat.reduceSub, Nat.reduceEqDiff, bq, tgs, vq]
    refine ⟨by simp; omega, by simp; omega, vcallD_of (eqIntS_vc _ _ (hin i)) ?_⟩
    simp only [List.replicate, List.set, List.map, List.any, List.append, Op.operands, dif_pos, gA, Call.operands, gB, gC, gD, gE, gF, gG, Nat.reduceMul, reduceCtorEq, Nat.reduceBEq, Nat.reduceAdd, Nat.reduceLT, Nat.reduceLeDiff, Nat.reduceSub, Nat.reduceEqDiff, bq, tgs, vq]
    refine hK _ ?_
    clear hK K
    try refine vthen_n ?_
    repeat refine VW.seq ?_
    refine VW.cond rfl (fun hc => ?_) (fun hc => ?_)
    · repeat refine VW.seq ?_
      refine VW.regl hT fun K hK => ?_
      simp only [List.replicate, List.set, List.map, List.any, List.append, Op.operands, dif_pos, gA, Call.operands, gB, gC, gD, gE, gF, gG, Nat.reduceMul, reduceCtorEq, Nat.reduceBEq, Nat.reduceAdd, Nat.reduceLT, Nat.reduceLeDiff, Nat.reduceSub, Nat.reduceEqDiff, bq, tgs, vq]
      refine hK _ ?_
      clear hK K
      try refine vthen_n ?_
      refine VW.ret ⟨.inl rfl, _, rfl, ?_⟩
      have : xs ≠ ys := fun e => by subst e; simp [eqv] at hc
      simp [this]
    · have hxy : xs.getD i [] = ys.getD i [] := by
        have hc2 := hc
        rw [Bool.not_eq_false'] at hc2
        exact of_decide_eq_true hc2
      refine VW.skip ?_
      show vthen _ _ _ .normal _
      refine vthen_n ?_
      repeat refine VW.seq ?_
      refine VW.regl hT fun K hK => ?_
      simp only [List.replicate, List.set, List.map, List.any, List.append, Op.operands, dif_pos, gA, Call.operands, gB, gC, gD, gE, gF, gG, Nat.reduceMul, reduceCtorEq, Nat.reduceBEq, Nat.reduceAdd, Nat.reduceLT, Nat.reduceLeDiff, Nat.reduceSub, Nat.reduceEqDiff, bq, tgs, vq]
      refine hK _ ?_
      clear hK K
      try refine vthen_n ?_
      refine ⟨i + 1, ⟨hlt, fun k h => ?_⟩, ?_, by show xs.length - (i + 1) < xs.length - i; omega⟩
      · rcases Nat.lt_or_ge k i with h1 | h1
        · exact hk k h1
        · obtain rfl : k = i := by omega
          exact hxy
      · simp only [norm, homeOne, moveTo, keepS, keepGo, usesOut, List.foldl, ren, renC, List.replicate, List.set, List.map, List.any, List.append, Op.operands, dif_pos, gA, Call.operands, gB, gC, gD, gE, gF, gG, Nat.reduceMul, reduceCtorEq, Nat.reduceBEq, Nat.reduceAdd, Nat.reduceLT, Nat.reduceLeDiff, Nat.reduceSub, Nat.reduceEqDiff, bq, tgs, vq]
        rw [wrap64 (by omega) (by omega)]
        rfl
  · have hc : xs.length ≤ i := by simpa using hc
    refine VW.exit ?_
    show vthen _ _ _ .normal _
    refine vthen_n ?_
    repeat refine VW.seq ?_
    refine VW.regl hT fun K hK => ?_
    simp only [List.replicate, List.set, List.map, List.any, List.append, Op.operands, dif_pos, gA, Call.operands, gB, gC, gD, gE, gF, gG, Nat.reduceMul, reduceCtorEq, Nat.reduceBEq, Nat.reduceAdd, Nat.reduceLT, Nat.reduceLeDiff, Nat.reduceSub, Nat.reduceEqDiff, bq, tgs, vq]
    refine hK _ ?_
    clear hK K
    try refine vthen_n ?_
    refine VW.ret ⟨.inl rfl, _, rfl, ?_⟩
    rw [row_eq [] hlen fun k h => hk k (by omega)]
    simp
end Go.Proofs.Ytmechjnfeidnkaa.V.W

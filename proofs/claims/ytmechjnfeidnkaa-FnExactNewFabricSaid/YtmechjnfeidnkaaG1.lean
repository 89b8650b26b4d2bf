/- The laws' helpers for fabrics, part 1: copies, sizes, equality. No condition. Printed by vtg2.py (a program of this session's). -/
import Derived.Test.YtmechjnfeidnkaaF8
set_option linter.unusedVariables false
set_option linter.unnecessarySimpa false
set_option linter.unusedSimpArgs false
namespace Go.Proofs.Ytmechjnfeidnkaa.V.W
open Go Go.RowKit
/-- what is left of n when k was taken -/
def Left (n : Int) (r : PV) (k : Nat) : Prop := ∃ m : Int, r = .v false (.int .i64) m ∧ m ≤ n ∧ (0 ≤ m → m + k ≤ n)
theorem row_eq {α : Type} {xs ys : List α} (z : α) (hlen : xs.length = ys.length) (h : ∀ k, k < xs.length → xs.getD k z = ys.getD k z) : xs = ys := by
  apply List.ext_getElem hlen
  intro k h1 h2
  have := h k h1
  simpa [List.getD_eq_getElem?_getD, h1, h2] using this
abbrev sII : Sh := .sl 25 sI
def _root_.Go.Proofs.Ytmechjnfeidnkaa.V.Sh.scal : Sh → Bool
  | .int _ => true
  | .bool => true
  | .unit => true
  | .pr a b => a.scal && b.scal
  | _ => false
theorem eqv_eq : ∀ {s : Sh} {x y : s.ty}, s.scal = true → (eqv s x y = true ↔ x = y)
  | .unit, _, _, _ => ⟨fun _ => rfl, fun _ => rfl⟩
  | .int _, x, y, _ => by simp [eqv]
  | .bool, x, y, _ => by simp [eqv]
  | .pr a b, x, y, h => by
    simp only [Sh.scal, Bool.and_eq_true] at h
    simp only [eqv, Bool.and_eq_true, eqv_eq h.1, eqv_eq h.2]
    exact ⟨fun ⟨p, q⟩ => Prod.ext p q, fun e => by rw [e]; exact ⟨rfl, rfl⟩⟩

set_option maxRecDepth 20000 in
theorem toIntS_vc (xs : List (Int)) (hl : xs.length * 8 ≤ 140737488351232) : VC Try.prog 15 [.v false (.sl 3 (.int .i64)) xs] (· = .root (.val false) (.sl 3 (.int .i64)) .own xs) := by
  refine VC.of_body hT Try.func15 rfl (by kernel_rfl) [(.tmp 2, false, .sl 3 (.int .i64))] (by kernel_rfl) ?_
  show VW _ _ ([.v false (.sl 3 (.int .i64)) xs, D, D, D, D, D, D, D, D, D, D, D, D, D, D, D, D, D, D, D, D, D]) _
  repeat refine VW.seq ?_
  refine VW.regl hT fun K hK => ?_
  simp only [List.replicate, List.set, List.map, List.any, List.append, Op.operands, dif_pos, gA, Call.operands, gB, gC, gD, gE, gF, gG, Nat.reduceMul, reduceCtorEq, Nat.reduceBEq, Nat.reduceAdd, Nat.reduceLT, Nat.reduceLeDiff, Nat.reduceSub, Nat.reduceEqDiff, bq, tgs, vq]
  refine hK _ ?_
  clear hK K
  try refine vthen_n ?_
  repeat refine VW.seq ?_
  refine VW.regl hT fun K hK => ?_
  simp only [List.replicate, List.set, List.map, List.any, List.append, Op.operands, dif_pos, gA, Call.operands, gB, gC, gD, gE, gF, gG, Nat.reduceMul, reduceCtorEq, Nat.reduceBEq, Nat.reduceAdd, Nat.reduceLT, Nat.reduceLeDiff, Nat.reduceSub, Nat.reduceEqDiff, bq, tgs, vq]
  refine ⟨by simp [limOk]; omega, ?_⟩
  refine hK _ ?_
  clear hK K
  try refine vthen_n ?_
  repeat refine VW.seq ?_
  refine VW.regl hT fun K hK => ?_
  simp only [List.replicate, List.set, List.map, List.any, List.append, Op.operands, dif_pos, gA, Call.operands, gB, gC, gD, gE, gF, gG, Nat.reduceMul, reduceCtorEq, Nat.reduceBEq, Nat.reduceAdd, Nat.reduceLT, Nat.reduceLeDiff, Nat.reduceSub, Nat.reduceEqDiff, bq, tgs, vq]
  refine hK _ ?_
  clear hK K
  try refine vthen_n ?_
  repeat refine VW.seq ?_
  refine VW.block ?_
  refine VW.loop (α := Nat) [(0, none), (3, none), (4, none)] (fun i => [.v false (.sl 3 (.int .i64)) xs, D, D, .root (.val false) (.sl 3 (.int .i64)) .own (fillTo xs 0 i), .v false (.int .i64) (i : Int), D, D, D, D, D, D, D, D, D, D, D, D, D, D, D, D, D]) (fun i => i ≤ xs.length) (fun i => xs.length - i) ⟨0, by omega, ?_⟩ fun i hi => ?_
  · simp only [norm, homeOne, moveTo, keepS, keepGo, usesOut, List.foldl, ren, renC, List.replicate, List.set, List.map, List.any, List.append, Op.operands, dif_pos, gA, Call.operands, gB, gC, gD, gE, gF, gG, Nat.reduceMul, reduceCtorEq, Nat.reduceBEq, Nat.reduceAdd, Nat.reduceLT, Nat.reduceLeDiff, Nat.reduceSub, Nat.reduceEqDiff, bq, tgs, vq]
    rw [fillTo_zero]; rfl
  repeat refine VW.seq ?_
  refine VW.regl hT fun K hK => ?_
  simp only [List.replicate, List.set, List.map, List.any, List.append, Op.operands, dif_pos, gA, Call.operands, gB, gC, gD, gE, gF, gG, Nat.reduceMul, reduceCtorEq, Nat.reduceBEq, Nat.reduceAdd, Nat.reduceLT, Nat.reduceLeDiff, Nat.reduceSub, Nat.reduceEqDiff, bq, tgs, vq]
  refine hK _ ?_
  clear hK K
  try refine vthen_n ?_
  repeat refine VW.seq ?_
  refine VW.cond rfl (fun hc => ?_) (fun hc => ?_)
  · have hlt : i < xs.length := by simpa using hc
    refine VW.skip (vthen_n ?_)
    repeat refine VW.seq ?_
    refine VW.block ?_
    repeat refine VW.seq ?_
    refine VW.regl hT fun K hK => ?_
    simp only [List.replicate, List.set, List.map, List.any, List.append, Op.operands, dif_pos, gA, Call.operands, gB, gC, gD, gE, gF, gG, Nat.reduceMul, reduceCtorEq, Nat.reduceBEq, Nat.reduceAdd, Nat.reduceLT, Nat.reduceLeDiff, Nat.reduceSub, Nat.reduceEqDiff, bq, tgs, vq]
    refine ⟨by simp; omega, by simp [fillTo_len hi]; omega, ?_⟩
    refine hK _ ?_
    clear hK K
    try refine vthen_n ?_
    repeat refine VW.seq ?_
    refine VW.regl hT fun K hK => ?_
    simp only [List.replicate, List.set, List.map, List.any, List.append, Op.operands, dif_pos, gA, Call.operands, gB, gC, gD, gE, gF, gG, Nat.reduceMul, reduceCtorEq, Nat.reduceBEq, Nat.reduceAdd, Nat.reduceLT, Nat.reduceLeDiff, Nat.reduceSub, Nat.reduceEqDiff, bq, tgs, vq]
    refine hK _ ?_
    clear hK K
    try refine vthen_n ?_
    refine ⟨i + 1, hlt, ?_, by show xs.length - (i + 1) < xs.length - i; omega⟩
    simp only [norm, homeOne, moveTo, keepS, keepGo, usesOut, List.foldl, ren, renC, List.replicate, List.set, List.map, List.any, List.append, Op.operands, dif_pos, gA, Call.operands, gB, gC, gD, gE, gF, gG, Nat.reduceMul, reduceCtorEq, Nat.reduceBEq, Nat.reduceAdd, Nat.reduceLT, Nat.reduceLeDiff, Nat.reduceSub, Nat.reduceEqDiff, bq, tgs, vq]
    rw [fillTo_set hlt, wrap64 (by omega) (by omega)]
    rfl
  · have hc : xs.length ≤ i := by simpa using hc
    refine VW.exit ?_
    show vthen _ _ _ .normal _
    refine vthen_n ?_
    repeat refine VW.seq ?_
    refine VW.regl hT fun K hK => ?_
    simp only [List.replicate, List.set, List.map, List.any, List.append, Op.operands, dif_pos, gA, Call.operands, gB, gC, gD, gE, gF, gG, Nat.reduceMul, reduceCtorEq, Nat.reduceBEq, Nat.reduceAdd, Nat.reduceLT, Nat.reduceLeDiff, Nat.reduceSub, Nat.reduceEqDiff, bq, tgs, vq]
    refine hK _ ?_
    clear hK K
    try refine vthen_n ?_
    refine VW.ret ⟨.inl rfl, _, rfl, ?_⟩
    rw [fillTo_all xs _ hc]
set_option maxRecDepth 20000 in
theorem eqIntS_vc (xs ys : List (Int)) (hl : xs.length * 8 ≤ 140737488351232) : VC Try.prog 18 [.v false (.sl 3 (.int .i64)) xs, .v false (.sl 3 (.int .i64)) ys] (· = .v false .bool (decide (xs = ys))) := by
  refine VC.of_body hT Try.func18 rfl (by kernel_rfl) [(.tmp 4, false, .bool)] (by kernel_rfl) ?_
  show VW _ _ ([.v false (.sl 3 (.int .i64)) xs, .v false (.sl 3 (.int .i64)) ys, D, D, D, D, D, D, D, D, D, D, D, D, D, D, D, D, D, D, D, D, D, D, D, D]) _
  repeat refine VW.seq ?_
  refine VW.regl hT fun K hK => ?_
  simp only [List.replicate, List.set, List.map, List.any, List.append, Op.operands, dif_pos, gA, Call.operands, gB, gC, gD, gE, gF, gG, Nat.reduceMul, reduceCtorEq, Nat.reduceBEq, Nat.reduceAdd, Nat.reduceLT, Nat.reduceLeDiff, Nat.reduceSub, Nat.reduceEqDiff, bq, tgs, vq]
  refine hK _ ?_
  clear hK K
  try refine vthen_n ?_
  repeat refine VW.seq ?_
  refine VW.regl hT fun K hK => ?_
  simp only [List.replicate, List.set, List.map, List.any, List.append, Op.operands, dif_pos, gA, Call.operands, gB, gC, gD, gE, gF, gG, Nat.reduceMul, reduceCtorEq, Nat.reduceBEq, Nat.reduceAdd, Nat.reduceLT, Nat.reduceLeDiff, Nat.reduceSub, Nat.reduceEqDiff, bq, tgs, vq]
  refine hK _ ?_
  clear hK K
  try refine vthen_n ?_
  repeat refine VW.seq ?_
  refine VW.cond rfl (fun hc => ?_) (fun hc => ?_)
  · repeat refine VW.seq ?_
    refine VW.regl hT fun K hK => ?_
    simp only [List.replicate, List.set, List.map, List.any, List.append, Op.operands, dif_pos, gA, Call.operands, gB, gC, gD, gE, gF, gG, Nat.reduceMul, reduceCtorEq, Nat.reduceBEq, Nat.reduceAdd, Nat.reduceLT, Nat.reduceLeDiff, Nat.reduceSub, Nat.reduceEqDiff, bq, tgs, vq]
    refine hK _ ?_
    clear hK K
    try refine vthen_n ?_
    refine VW.ret ⟨.inl rfl, _, rfl, ?_⟩
    have : xs ≠ ys := fun e => by subst e; simp at hc
    simp [this]
  have hlen : xs.length = ys.length := by simp at hc; omega
  refine VW.skip (vthen_n ?_)
  repeat refine VW.seq ?_
  refine VW.regl hT fun K hK => ?_
  simp only [List.replicate, List.set, List.map, List.any, List.append, Op.operands, dif_pos, gA, Call.operands, gB, gC, gD, gE, gF, gG, Nat.reduceMul, reduceCtorEq, Nat.reduceBEq, Nat.reduceAdd, Nat.reduceLT, Nat.reduceLeDiff, Nat.reduceSub, Nat.reduceEqDiff, bq, tgs, vq]
  refine hK _ ?_
  clear hK K
  try refine vthen_n ?_
  repeat refine VW.seq ?_
  refine VW.block ?_
  refine VW.loop (α := Nat) [(0, none), (1, none), (5, none)] (fun i => [.v false (.sl 3 (.int .i64)) xs, .v false (.sl 3 (.int .i64)) ys, D, D, D, .v false (.int .i64) (i : Int), D, D, D, D, D, D, D, D, D, D, D, D, D, D, D, D, D, D, D, D]) (fun i => i ≤ xs.length ∧ ∀ k, k < i → xs.getD k 0 = ys.getD k 0) (fun i => xs.length - i) ⟨0, ⟨by omega, fun k hk => by omega⟩, ?_⟩ fun i ⟨hi, hk⟩ => ?_
  · simp only [norm, homeOne, moveTo, keepS, keepGo, usesOut, List.foldl, ren, renC, List.replicate, List.set, List.map, List.any, List.append, Op.operands, dif_pos, gA, Call.operands, gB, gC, gD, gE, gF, gG, Nat.reduceMul, reduceCtorEq, Nat.reduceBEq, Nat.reduceAdd, Nat.reduceLT, Nat.reduceLeDiff, Nat.reduceSub, Nat.reduceEqDiff, bq, tgs, vq]
    rfl
  repeat refine VW.seq ?_
  refine VW.regl hT fun K hK => ?_
  simp only [List.replicate, List.set, List.map, List.any, List.append, Op.operands, dif_pos, gA, Call.operands, gB, gC, gD, gE, gF, gG, Nat.reduceMul, reduceCtorEq, Nat.reduceBEq, Nat.reduceAdd, Nat.reduceLT, Nat.reduceLeDiff, Nat.reduceSub, Nat.reduceEqDiff, bq, tgs, vq]
  refine hK _ ?_
  clear hK K
  try refine vthen_n ?_
  repeat refine VW.seq ?_
  refine VW.cond rfl (fun hc => ?_) (fun hc => ?_)
  · have hlt : i < xs.length := by simpa using hc
    refine VW.skip (vthen_n ?_)
    repeat refine VW.seq ?_
    refine VW.block ?_
    repeat refine VW.seq ?_
    refine VW.drawl hT hm (by kernel_rfl) fun K hK => ?_
    simp only [List.replicate, List.set, List.map, List.any, List.append, Op.operands, dif_pos, gA, Call.operands, gB, gC, gD, gE, gF, gG, Nat.reduceMul, reduceCtorEq, Nat.reduceBEq, Nat.reduceAdd, Nat.reduceLT, Nat.reduceLeDiff, Nat.reduceSub, Nat.reduceEqDiff, bq, tgs, vq]
    refine ⟨by simp; omega, by simp; omega, ?_⟩
    refine hK _ ?_
    clear hK K
    try refine vthen_n ?_
    repeat refine VW.seq ?_
    refine VW.cond rfl (fun hc => ?_) (fun hc => ?_)
    · repeat refine VW.seq ?_
      refine VW.regl hT fun K hK => ?_
      simp only [List.replicate, List.set, List.map, List.any, List.append, Op.operands, dif_pos, gA, Call.operands, gB, gC, gD, gE, gF, gG, Nat.reduceMul, reduceCtorEq, Nat.reduceBEq, Nat.reduceAdd, Nat.reduceLT, Nat.reduceLeDiff, Nat.reduceSub, Nat.reduceEqDiff, bq, tgs, vq]
      refine hK _ ?_
      clear hK K
      try refine vthen_n ?_
      refine VW.ret ⟨.inl rfl, _, rfl, ?_⟩
      have : xs ≠ ys := fun e => by subst e; simp [eqv] at hc
      simp [this]
    · have hxy : xs.getD i 0 = ys.getD i 0 := by
        have hc2 := hc
        rw [Bool.not_eq_false'] at hc2
        exact eq_of_beq hc2
      refine VW.skip ?_
      show vthen _ _ _ .normal _
      refine vthen_n ?_
      repeat refine VW.seq ?_
      refine VW.regl hT fun K hK => ?_
      simp only [List.replicate, List.set, List.map, List.any, List.append, Op.operands, dif_pos, gA, Call.operands, gB, gC, gD, gE, gF, gG, Nat.reduceMul, reduceCtorEq, Nat.reduceBEq, Nat.reduceAdd, Nat.reduceLT, Nat.reduceLeDiff, Nat.reduceSub, Nat.reduceEqDiff, bq, tgs, vq]
      refine hK _ ?_
      clear hK K
      try refine vthen_n ?_
      refine ⟨i + 1, ⟨hlt, fun k h => ?_⟩, ?_, by show xs.length - (i + 1) < xs.length - i; omega⟩
      · rcases Nat.lt_or_ge k i with h1 | h1
        · exact hk k h1
        · obtain rfl : k = i := by omega
          exact hxy
      · simp only [norm, homeOne, moveTo, keepS, keepGo, usesOut, List.foldl, ren, renC, List.replicate, List.set, List.map, List.any, List.append, Op.operands, dif_pos, gA, Call.operands, gB, gC, gD, gE, gF, gG, Nat.reduceMul, reduceCtorEq, Nat.reduceBEq, Nat.reduceAdd, Nat.reduceLT, Nat.reduceLeDiff, Nat.reduceSub, Nat.reduceEqDiff, bq, tgs, vq]
        rw [wrap64 (by omega) (by omega)]
        rfl
  · have hc : xs.length ≤ i := by simpa using hc
    refine VW.exit ?_
    show vthen _ _ _ .normal _
    refine vthen_n ?_
    repeat refine VW.seq ?_
    refine VW.regl hT fun K hK => ?_
    simp only [List.replicate, List.set, List.map, List.any, List.append, Op.operands, dif_pos, gA, Call.operands, gB, gC, gD, gE, gF, gG, Nat.reduceMul, reduceCtorEq, Nat.reduceBEq, Nat.reduceAdd, Nat.reduceLT, Nat.reduceLeDiff, Nat.reduceSub, Nat.reduceEqDiff, bq, tgs, vq]
    refine hK _ ?_
    clear hK K
    try refine vthen_n ?_
    refine VW.ret ⟨.inl rfl, _, rfl, ?_⟩
    rw [row_eq 0 hlen fun k h => hk k (by omega)]
    simp
set_option maxRecDepth 20000 in
theorem eqBoolS_vc (xs ys : List (Bool)) (hl : xs.length * 1 ≤ 140737488351232) : VC Try.prog 82 [.v false (.sl 4 .bool) xs, .v false (.sl 4 .bool) ys] (· = .v false .bool (decide (xs = ys))) := by
  refine VC.of_body hT Try.func82 rfl (by kernel_rfl) [(.tmp 4, false, .bool)] (by kernel_rfl) ?_
  show VW _ _ ([.v false (.sl 4 .bool) xs, .v false (.sl 4 .bool) ys, D, D, D, D, D, D, D, D, D, D, D, D, D, D, D, D, D, D, D, D, D, D, D, D]) _
  repeat refine VW.seq ?_
  refine VW.regl hT fun K hK => ?_
  simp only [List.replicate, List.set, List.map, List.any, List.append, Op.operands, dif_pos, gA, Call.operands, gB, gC, gD, gE, gF, gG, Nat.reduceMul, reduceCtorEq, Nat.reduceBEq, Nat.reduceAdd, Nat.reduceLT, Nat.reduceLeDiff, Nat.reduceSub, Nat.reduceEqDiff, bq, tgs, vq]
  refine hK _ ?_
  clear hK K
  try refine vthen_n ?_
  repeat refine VW.seq ?_
  refine VW.regl hT fun K hK => ?_
  simp only [List.replicate, List.set, List.map, List.any, List.append, Op.operands, dif_pos, gA, Call.operands, gB, gC, gD, gE, gF, gG, Nat.reduceMul, reduceCtorEq, Nat.reduceBEq, Nat.reduceAdd, Nat.reduceLT, Nat.reduceLeDiff, Nat.reduceSub, Nat.reduceEqDiff, bq, tgs, vq]
  refine hK _ ?_
  clear hK K
  try refine vthen_n ?_
  repeat refine VW.seq ?_
  refine VW.cond rfl (fun hc => ?_) (fun hc => ?_)
  · repeat refine VW.seq ?_
    refine VW.regl hT fun K hK => ?_
    simp only [List.replicate, List.set, List.map, List.any, List.append, Op.operands, dif_pos, gA, Call.operands, gB, gC, gD, gE, gF, gG, Nat.reduceMul, reduceCtorEq, Nat.reduceBEq, Nat.reduceAdd, Nat.reduceLT, Nat.reduceLeDiff, Nat.reduceSub, Nat.reduceEqDiff, bq, tgs, vq]
    refine hK _ ?_
    clear hK K
    try refine vthen_n ?_
    refine VW.ret ⟨.inl rfl, _, rfl, ?_⟩
    have : xs ≠ ys := fun e => by subst e; simp at hc
    simp [this]
  have hlen : xs.length = ys.length := by simp at hc; omega
  refine VW.skip (vthen_n ?_)
  repeat refine VW.seq ?_
  refine VW.regl hT fun K hK => ?_
  simp only [List.replicate, List.set, List.map, List.any, List.append, Op.operands, dif_pos, gA, Call.operands, gB, gC, gD, gE, gF, gG, Nat.reduceMul, reduceCtorEq, Nat.reduceBEq, Nat.reduceAdd, Nat.reduceLT, Nat.reduceLeDiff, Nat.reduceSub, Nat.reduceEqDiff, bq, tgs, vq]
  refine hK _ ?_
  clear hK K
  try refine vthen_n ?_
  repeat refine VW.seq ?_
  refine VW.block ?_
  refine VW.loop (α := Nat) [(0, none), (1, none), (5, none)] (fun i => [.v false (.sl 4 .bool) xs, .v false (.sl 4 .bool) ys, D, D, D, .v false (.int .i64) (i : Int), D, D, D, D, D, D, D, D, D, D, D, D, D, D, D, D, D, D, D, D]) (fun i => i ≤ xs.length ∧ ∀ k, k < i → xs.getD k false = ys.getD k false) (fun i => xs.length - i) ⟨0, ⟨by omega, fun k hk => by omega⟩, ?_⟩ fun i ⟨hi, hk⟩ => ?_
  · simp only [norm, homeOne, moveTo, keepS, keepGo, usesOut, List.foldl, ren, renC, List.replicate, List.set, List.map, List.any, List.append, Op.operands, dif_pos, gA, Call.operands, gB, gC, gD, gE, gF, gG, Nat.reduceMul, reduceCtorEq, Nat.reduceBEq, Nat.reduceAdd, Nat.reduceLT, Nat.reduceLeDiff, Nat.reduceSub, Nat.reduceEqDiff, bq, tgs, vq]
    rfl
  repeat refine VW.seq ?_
  refine VW.regl hT fun K hK => ?_
  simp only [List.replicate, List.set, List.map, List.any, List.append, Op.operands, dif_pos, gA, Call.operands, gB, gC, gD, gE, gF, gG, Nat.reduceMul, reduceCtorEq, Nat.reduceBEq, Nat.reduceAdd, Nat.reduceLT, Nat.reduceLeDiff, Nat.reduceSub, Nat.reduceEqDiff, bq, tgs, vq]
  refine hK _ ?_
  clear hK K
  try refine vthen_n ?_
  repeat refine VW.seq ?_
  refine VW.cond rfl (fun hc => ?_) (fun hc => ?_)
  · have hlt : i < xs.length := by simpa using hc
    refine VW.skip (vthen_n ?_)
    repeat refine VW.seq ?_
    refine VW.block ?_
    repeat refine VW.seq ?_
    refine VW.drawl hT hm (by kernel_rfl) fun K hK => ?_
    simp only [List.replicate, List.set, List.map, List.any, List.append, Op.operands, dif_pos, gA, Call.operands, gB, gC, gD, gE, gF, gG, Nat.reduceMul, reduceCtorEq, Nat.reduceBEq, Nat.reduceAdd, Nat.reduceLT, Nat.reduceLeDiff, Nat.reduceSub, Nat.reduceEqDiff, bq, tgs, vq]
    refine ⟨by simp; omega, by simp; omega, ?_⟩
    refine hK _ ?_
    clear hK K
    try refine vthen_n ?_
    repeat refine VW.seq ?_
    refine VW.cond rfl (fun hc => ?_) (fun hc => ?_)
    · repeat refine VW.seq ?_
      refine VW.regl hT fun K hK => ?_
      simp only [List.replicate, List.set, List.map, List.any, List.append, Op.operands, dif_pos, gA, Call.operands, gB, gC, gD, gE, gF, gG, Nat.reduceMul, reduceCtorEq, Nat.reduceBEq, Nat.reduceAdd, Nat.reduceLT, Nat.reduceLeDiff, Nat.reduceSub, Nat.reduceEqDiff, bq, tgs, vq]
      refine hK _ ?_
      clear hK K
      try refine vthen_n ?_
      refine VW.ret ⟨.inl rfl, _, rfl, ?_⟩
      have : xs ≠ ys := fun e => by subst e; simp [eqv] at hc
      simp [this]
    · have hxy : xs.getD i false = ys.getD i false := by
        have hc2 := hc
        rw [Bool.not_eq_false'] at hc2
        exact (eqv_eq rfl).1 hc2
      refine VW.skip ?_
      show vthen _ _ _ .normal _
      refine vthen_n ?_
      repeat refine VW.seq ?_
      refine VW.regl hT fun K hK => ?_
      simp only [List.replicate, List.set, List.map, List.any, List.append, Op.operands, dif_pos, gA, Call.operands, gB, gC, gD, gE, gF, gG, Nat.reduceMul, reduceCtorEq, Nat.reduceBEq, Nat.reduceAdd, Nat.reduceLT, Nat.reduceLeDiff, Nat.reduceSub, Nat.reduceEqDiff, bq, tgs, vq]
      refine hK _ ?_
      clear hK K
      try refine vthen_n ?_
      refine ⟨i + 1, ⟨hlt, fun k h => ?_⟩, ?_, by show xs.length - (i + 1) < xs.length - i; omega⟩
      · rcases Nat.lt_or_ge k i with h1 | h1
        · exact hk k h1
        · obtain rfl : k = i := by omega
          exact hxy
      · simp only [norm, homeOne, moveTo, keepS, keepGo, usesOut, List.foldl, ren, renC, List.replicate, List.set, List.map, List.any, List.append, Op.operands, dif_pos, gA, Call.operands, gB, gC, gD, gE, gF, gG, Nat.reduceMul, reduceCtorEq, Nat.reduceBEq, Nat.reduceAdd, Nat.reduceLT, Nat.reduceLeDiff, Nat.reduceSub, Nat.reduceEqDiff, bq, tgs, vq]
        rw [wrap64 (by omega) (by omega)]
        rfl
  · have hc : xs.length ≤ i := by simpa using hc
    refine VW.exit ?_
    show vthen _ _ _ .normal _
    refine vthen_n ?_
    repeat refine VW.seq ?_
    refine VW.regl hT fun K hK => ?_
    simp only [List.replicate, List.set, List.map, List.any, List.append, Op.operands, dif_pos, gA, Call.operands, gB, gC, gD, gE, gF, gG, Nat.reduceMul, reduceCtorEq, Nat.reduceBEq, Nat.reduceAdd, Nat.reduceLT, Nat.reduceLeDiff, Nat.reduceSub, Nat.reduceEqDiff, bq, tgs, vq]
    refine hK _ ?_
    clear hK K
    try refine vthen_n ?_
    refine VW.ret ⟨.inl rfl, _, rfl, ?_⟩
    rw [row_eq false hlen fun k h => hk k (by omega)]
    simp
end Go.Proofs.Ytmechjnfeidnkaa.V.W

/- Texts G2 G3 F17 F18 F19 G4 G5 F20 F21 F23 E1 E3 E4 T2 N1 N2 N3 N4 N5 N6 N7 N8 N9 M1 M2 M3 M4 M6 N11 N12 C1 in one. No condition. -/
import Derived.Test.YtmechjnfeidnkaaGreatZIsReplay4
set_option linter.unnecessarySimpa false
set_option linter.unusedSimpArgs false
set_option linter.unusedVariables false
section
namespace Go.Proofs.YtmechjnfeidnkaaGreat.V.W
open Go Go.RowKit
theorem szNodeS_vc (xs : List (Int × Int × Int)) (n : Int) (hl : xs.length * 1 ≤ 140737488351232) (h0 : 0 ≤ n) (h1 : n ≤ 1048576) : VC Tryz.prog 69 [.v false (.sl 154 sN) xs, .v false (.int .i64) n] (Left n · xs.length) := by
 refine VC.of_body hT Tryz.func69 rfl (by kernel_rfl) [(.tmp 4, false, .int .i64)] (by kernel_rfl) ?_
 show VW _ _ ([.v false (.sl 154 sN) xs, .v false (.int .i64) n, D, D, D, D, D, D, D, D, D, D]) _
 repeat refine VW.seq ?_
 refine VW.regl hT fun K hK => ?_
 simp only [wq, simprocAttr]
 refine hK _ ?_
 clear hK K
 try refine vthen_n ?_
 repeat refine VW.seq ?_
 refine VW.regl hT fun K hK => ?_
 simp only [wq, simprocAttr]
 refine hK _ ?_
 clear hK K
 try refine vthen_n ?_
 rw [wrap64 (by omega) (by omega)]
 repeat refine VW.seq ?_
 refine VW.regl hT fun K hK => ?_
 simp only [wq, simprocAttr]
 refine hK _ ?_
 clear hK K
 try refine vthen_n ?_
 repeat refine VW.seq ?_
 refine VW.cond rfl (fun hc => ?_) (fun hc => ?_)
 ·repeat refine VW.seq ?_
  refine VW.regl hT fun K hK => ?_
  simp only [wq, simprocAttr]
  refine hK _ ?_
  clear hK K
  try refine vthen_n ?_
  exact VW.ret ⟨.inl rfl, _, rfl, (-1 : Int), rfl, by omega, fun h => by omega⟩
 ·refine VW.skip (vthen_n ?_)
  repeat refine VW.seq ?_
  refine VW.regl hT fun K hK => ?_
  simp only [wq, simprocAttr]
  refine hK _ ?_
  clear hK K
  try refine vthen_n ?_
  have hc : ¬ ((n : Int) - xs.length < 0) := of_decide_eq_false hc
  exact VW.ret ⟨.inl rfl, _, rfl, (n - xs.length : Int), rfl, by omega, fun h => by omega⟩
set_option maxRecDepth 20000 in
theorem toNode_vc (x : Int × Int × Int) : VC Tryz.prog 134 [.v true sN x] (· = .v true sN x) := by
 refine VC.of_body hT Tryz.func134 rfl (by kernel_rfl) [(.cell 2 102, true, sN)] (by kernel_rfl) ?_
 show VW _ _ ([.v true sN x, D, D, D, D, D, D, D, D, D, D, D, D, D]) _
 repeat refine VW.seq ?_
 refine VW.regl hT fun K hK => ?_
 simp only [wq, simprocAttr]
 refine hK _ ?_
 clear hK K
 try refine vthen_n ?_
 repeat refine VW.seq ?_
 refine VW.regl hT fun K hK => ?_
 simp only [wq, simprocAttr]
 refine hK _ ?_
 clear hK K
 try refine vthen_n ?_
 repeat refine VW.seq ?_
 refine VW.regl hT fun K hK => ?_
 simp only [wq, simprocAttr]
 refine hK _ ?_
 clear hK K
 try refine vthen_n ?_
 repeat refine VW.seq ?_
 refine VW.regl hT fun K hK => ?_
 simp only [wq, simprocAttr]
 refine hK _ ?_
 clear hK K
 try refine vthen_n ?_
 repeat refine VW.seq ?_
 refine VW.regl hT fun K hK => ?_
 simp only [wq, simprocAttr]
 refine hK _ ?_
 clear hK K
 try refine vthen_n ?_
 repeat refine VW.seq ?_
 refine VW.regl hT fun K hK => ?_
 simp only [wq, simprocAttr]
 refine hK _ ?_
 clear hK K
 try refine vthen_n ?_
 exact VW.ret ⟨.inl rfl, _, rfl, rfl⟩
set_option maxRecDepth 20000 in
theorem eqNode_vc (x y : Int × Int × Int) : VC Tryz.prog 137 [.v true sN x, .v true sN y] (· = .v false .bool (decide (x = y))) := by
 refine VC.of_body hT Tryz.func137 rfl (by kernel_rfl) [(.tmp 4, false, .bool)] (by kernel_rfl) ?_
 show VW _ _ ([.v true sN x, .v true sN y, D, D, D, D, D, D, D, D, D, D, D, D, D, D, D, D, D, D]) _
 obtain ⟨x0, x1, x2⟩ := x
 obtain ⟨y0, y1, y2⟩ := y
 repeat refine VW.seq ?_
 refine VW.regl hT fun K hK => ?_
 simp only [wq, simprocAttr]
 refine hK _ ?_
 clear hK K
 try refine vthen_n ?_
 repeat refine VW.seq ?_
 refine VW.regl hT fun K hK => ?_
 simp only [wq, simprocAttr]
 refine hK _ ?_
 clear hK K
 try refine vthen_n ?_
 repeat refine VW.seq ?_
 refine VW.cond rfl (fun hc => ?_) (fun hc => ?_)
 ·repeat refine VW.seq ?_
  refine VW.regl hT fun K hK => ?_
  simp only [wq, simprocAttr]
  refine hK _ ?_
  clear hK K
  try refine vthen_n ?_
  refine VW.ret ⟨.inl rfl, _, rfl, ?_⟩
  simp [eqv] at hc; simp [hc]
 refine VW.skip (vthen_n ?_)
 repeat refine VW.seq ?_
 refine VW.regl hT fun K hK => ?_
 simp only [wq, simprocAttr]
 refine hK _ ?_
 clear hK K
 try refine vthen_n ?_
 repeat refine VW.seq ?_
 refine VW.cond rfl (fun hc => ?_) (fun hc => ?_)
 ·repeat refine VW.seq ?_
  refine VW.regl hT fun K hK => ?_
  simp only [wq, simprocAttr]
  refine hK _ ?_
  clear hK K
  try refine vthen_n ?_
  refine VW.ret ⟨.inl rfl, _, rfl, ?_⟩
  simp [eqv] at hc; simp [hc]
 refine VW.skip (vthen_n ?_)
 repeat refine VW.seq ?_
 refine VW.regl hT fun K hK => ?_
 simp only [wq, simprocAttr]
 refine hK _ ?_
 clear hK K
 try refine vthen_n ?_
 repeat refine VW.seq ?_
 refine VW.cond rfl (fun hc => ?_) (fun hc => ?_)
 ·repeat refine VW.seq ?_
  refine VW.regl hT fun K hK => ?_
  simp only [wq, simprocAttr]
  refine hK _ ?_
  clear hK K
  try refine vthen_n ?_
  refine VW.ret ⟨.inl rfl, _, rfl, ?_⟩
  simp [eqv] at hc; simp [hc]
 refine VW.skip (vthen_n ?_)
 repeat refine VW.seq ?_
 refine VW.regl hT fun K hK => ?_
 simp only [wq, simprocAttr]
 refine hK _ ?_
 clear hK K
 try refine vthen_n ?_
 refine VW.ret ⟨.inl rfl, _, rfl, ?_⟩
 simp_all [eqv]
set_option maxRecDepth 20000 in
theorem eqBar_vc (x y : Int × Int) : VC Tryz.prog 138 [.v true sBr x, .v true sBr y] (· = .v false .bool (decide (x = y))) := by
 refine VC.of_body hT Tryz.func138 rfl (by kernel_rfl) [(.tmp 4, false, .bool)] (by kernel_rfl) ?_
 show VW _ _ ([.v true sBr x, .v true sBr y, D, D, D, D, D, D, D, D, D, D, D, D, D]) _
 obtain ⟨x0, x1⟩ := x
 obtain ⟨y0, y1⟩ := y
 repeat refine VW.seq ?_
 refine VW.regl hT fun K hK => ?_
 simp only [wq, simprocAttr]
 refine hK _ ?_
 clear hK K
 try refine vthen_n ?_
 repeat refine VW.seq ?_
 refine VW.regl hT fun K hK => ?_
 simp only [wq, simprocAttr]
 refine hK _ ?_
 clear hK K
 try refine vthen_n ?_
 repeat refine VW.seq ?_
 refine VW.cond rfl (fun hc => ?_) (fun hc => ?_)
 ·repeat refine VW.seq ?_
  refine VW.regl hT fun K hK => ?_
  simp only [wq, simprocAttr]
  refine hK _ ?_
  clear hK K
  try refine vthen_n ?_
  refine VW.ret ⟨.inl rfl, _, rfl, ?_⟩
  simp [eqv] at hc; simp [hc]
 refine VW.skip (vthen_n ?_)
 repeat refine VW.seq ?_
 refine VW.regl hT fun K hK => ?_
 simp only [wq, simprocAttr]
 refine hK _ ?_
 clear hK K
 try refine vthen_n ?_
 repeat refine VW.seq ?_
 refine VW.cond rfl (fun hc => ?_) (fun hc => ?_)
 ·repeat refine VW.seq ?_
  refine VW.regl hT fun K hK => ?_
  simp only [wq, simprocAttr]
  refine hK _ ?_
  clear hK K
  try refine vthen_n ?_
  refine VW.ret ⟨.inl rfl, _, rfl, ?_⟩
  simp [eqv] at hc; simp [hc]
 refine VW.skip (vthen_n ?_)
 repeat refine VW.seq ?_
 refine VW.regl hT fun K hK => ?_
 simp only [wq, simprocAttr]
 refine hK _ ?_
 clear hK K
 try refine vthen_n ?_
 refine VW.ret ⟨.inl rfl, _, rfl, ?_⟩
 simp_all [eqv]
set_option maxRecDepth 20000 in
theorem toNodeS_vc (xs : List (Int × Int × Int)) (hl : xs.length * 24 ≤ 140737488351232) : VC Tryz.prog 79 [.v false (.sl 154 sN) xs] (· = .root (.val false) (.sl 102 sN) .own xs) := by
 refine VC.of_body hT Tryz.func79 rfl (by kernel_rfl) [(.tmp 2, false, .sl 102 sN)] (by kernel_rfl) ?_
 show VW _ _ ([.v false (.sl 154 sN) xs, D, D, D, D, D, D, D, D, D, D, D, D, D, D, D, D, D, D, D, D, D, D]) _
 repeat refine VW.seq ?_
 refine VW.regl hT fun K hK => ?_
 simp only [wq, Nat.reduceMul, reduceCtorEq, Nat.reduceBEq, Nat.reduceAdd, Nat.reduceLT, Nat.reduceLeDiff, Nat.reduceSub, Nat.reduceEqDiff]
 refine hK _ ?_
 clear hK K
 try refine vthen_n ?_
 repeat refine VW.seq ?_
 refine VW.regl hT fun K hK => ?_
 simp only [wq, Nat.reduceMul, reduceCtorEq, Nat.reduceBEq, Nat.reduceAdd, Nat.reduceLT, Nat.reduceLeDiff, Nat.reduceSub, Nat.reduceEqDiff]
 refine ⟨by simp [limOk]; omega, ?_⟩
 refine hK _ ?_
 clear hK K
 try refine vthen_n ?_
 repeat refine VW.seq ?_
 refine VW.regl hT fun K hK => ?_
 simp only [wq, Nat.reduceMul, reduceCtorEq, Nat.reduceBEq, Nat.reduceAdd, Nat.reduceLT, Nat.reduceLeDiff, Nat.reduceSub, Nat.reduceEqDiff]
 refine hK _ ?_
 clear hK K
 try refine vthen_n ?_
 repeat refine VW.seq ?_
 refine VW.block ?_
 refine VW.loop (α := Nat) [(0, none), (3, none), (4, none)] (fun i => [.v false (.sl 154 sN) xs, D, D, .root (.val false) (.sl 102 sN) .own (fillTo xs (0, 0, 0) i), .v false (.int .i64) (i : Int), D, D, D, D, D, D, D, D, D, D, D, D, D, D, D, D, D, D]) (fun i => i ≤ xs.length) (fun i => xs.length - i) ⟨0, by omega, ?_⟩ fun i hi => ?_
 ·simp only [wn, wq, Nat.reduceMul, reduceCtorEq, Nat.reduceBEq, Nat.reduceAdd, Nat.reduceLT, Nat.reduceLeDiff, Nat.reduceSub, Nat.reduceEqDiff]
  rw [fillTo_zero]; rfl
 repeat refine VW.seq ?_
 refine VW.regl hT fun K hK => ?_
 simp only [wq, Nat.reduceMul, reduceCtorEq, Nat.reduceBEq, Nat.reduceAdd, Nat.reduceLT, Nat.reduceLeDiff, Nat.reduceSub, Nat.reduceEqDiff]
 refine hK _ ?_
 clear hK K
 try refine vthen_n ?_
 repeat refine VW.seq ?_
 refine VW.cond rfl (fun hc => ?_) (fun hc => ?_)
 ·have hlt : i < xs.length := by simpa using hc
  refine VW.skip (vthen_n ?_)
  repeat refine VW.seq ?_
  refine VW.block ?_
  repeat refine VW.seq ?_
  refine VW.regl hT fun K hK => ?_
  simp only [wq, Nat.reduceMul, reduceCtorEq, Nat.reduceBEq, Nat.reduceAdd, Nat.reduceLT, Nat.reduceLeDiff, Nat.reduceSub, Nat.reduceEqDiff]
  refine ⟨by simp; omega, vcall_of (toNode_vc _) ?_⟩
  simp only [wq, Nat.reduceMul, reduceCtorEq, Nat.reduceBEq, Nat.reduceAdd, Nat.reduceLT, Nat.reduceLeDiff, Nat.reduceSub, Nat.reduceEqDiff]
  refine ⟨by simp [fillTo_len hi]; omega, ?_⟩
  refine hK _ ?_
  clear hK K
  try refine vthen_n ?_
  repeat refine VW.seq ?_
  refine VW.regl hT fun K hK => ?_
  simp only [wq, Nat.reduceMul, reduceCtorEq, Nat.reduceBEq, Nat.reduceAdd, Nat.reduceLT, Nat.reduceLeDiff, Nat.reduceSub, Nat.reduceEqDiff]
  refine hK _ ?_
  clear hK K
  try refine vthen_n ?_
  refine ⟨i + 1, hlt, ?_, by show xs.length - (i + 1) < xs.length - i; omega⟩
  simp only [wn, wq, Nat.reduceMul, reduceCtorEq, Nat.reduceBEq, Nat.reduceAdd, Nat.reduceLT, Nat.reduceLeDiff, Nat.reduceSub, Nat.reduceEqDiff]
  rw [fillTo_set hlt, wrap64 (by omega) (by omega)]
  try rfl
 ·have hc : xs.length ≤ i := by simpa using hc
  refine VW.exit ?_
  show vthen _ _ _ .normal _
  refine vthen_n ?_
  repeat refine VW.seq ?_
  refine VW.regl hT fun K hK => ?_
  simp only [wq, Nat.reduceMul, reduceCtorEq, Nat.reduceBEq, Nat.reduceAdd, Nat.reduceLT, Nat.reduceLeDiff, Nat.reduceSub, Nat.reduceEqDiff]
  refine hK _ ?_
  clear hK K
  try refine vthen_n ?_
  refine VW.ret ⟨.inl rfl, _, rfl, ?_⟩
  rw [fillTo_all xs _ hc]
set_option maxRecDepth 20000 in
theorem eqNodeS_vc (xs ys : List (Int × Int × Int)) (hl : xs.length * 24 ≤ 140737488351232) : VC Tryz.prog 83 [.v false (.sl 102 sN) xs, .v false (.sl 102 sN) ys] (· = .v false .bool (decide (xs = ys))) := by
 refine VC.of_body hT Tryz.func83 rfl (by kernel_rfl) [(.tmp 4, false, .bool)] (by kernel_rfl) ?_
 show VW _ _ ([.v false (.sl 102 sN) xs, .v false (.sl 102 sN) ys, D, D, D, D, D, D, D, D, D, D, D, D, D, D, D, D, D, D, D, D, D, D, D, D, D]) _
 repeat refine VW.seq ?_
 refine VW.regl hT fun K hK => ?_
 simp only [wq, simprocAttr]
 refine hK _ ?_
 clear hK K
 try refine vthen_n ?_
 repeat refine VW.seq ?_
 refine VW.regl hT fun K hK => ?_
 simp only [wq, simprocAttr]
 refine hK _ ?_
 clear hK K
 try refine vthen_n ?_
 repeat refine VW.seq ?_
 refine VW.cond rfl (fun hc => ?_) (fun hc => ?_)
 ·repeat refine VW.seq ?_
  refine VW.regl hT fun K hK => ?_
  simp only [wq, simprocAttr]
  refine hK _ ?_
  clear hK K
  try refine vthen_n ?_
  refine VW.ret ⟨.inl rfl, _, rfl, ?_⟩
  have : xs ≠ ys := fun e => by subst e; simp at hc
  simp [this]
 have hlen : xs.length = ys.length := by simp at hc; omega
 refine VW.skip (vthen_n ?_)
 repeat refine VW.seq ?_
 refine VW.regl hT fun K hK => ?_
 simp only [wq, simprocAttr]
 refine hK _ ?_
 clear hK K
 try refine vthen_n ?_
 repeat refine VW.seq ?_
 refine VW.block ?_
 refine VW.loop (α := Nat) [(0, none), (1, none), (5, none)] (fun i => [.v false (.sl 102 sN) xs, .v false (.sl 102 sN) ys, D, D, D, .v false (.int .i64) (i : Int), D, D, D, D, D, D, D, D, D, D, D, D, D, D, D, D, D, D, D, D, D]) (fun i => i ≤ xs.length ∧ ∀ k, k < i → xs.getD k (0, 0, 0) = ys.getD k (0, 0, 0)) (fun i => xs.length - i) ⟨0, ⟨by omega, fun k hk => by omega⟩, ?_⟩ fun i ⟨hi, hk⟩ => ?_
 ·simp only [wn, wq, simprocAttr]
  try rfl
 repeat refine VW.seq ?_
 refine VW.regl hT fun K hK => ?_
 simp only [wq, simprocAttr]
 refine hK _ ?_
 clear hK K
 try refine vthen_n ?_
 repeat refine VW.seq ?_
 refine VW.cond rfl (fun hc => ?_) (fun hc => ?_)
 ·have hlt : i < xs.length := by simpa using hc
  refine VW.skip (vthen_n ?_)
  repeat refine VW.seq ?_
  refine VW.block ?_
  repeat refine VW.seq ?_
  refine VW.drawl hT hm (by kernel_rfl) fun K hK => ?_
  simp only [wq, simprocAttr]
  refine ⟨by simp; omega, by simp; omega, vcallD_of (eqNode_vc _ _) ?_⟩
  simp only [wq, simprocAttr]
  refine hK _ ?_
  clear hK K
  try refine vthen_n ?_
  repeat refine VW.seq ?_
  refine VW.cond rfl (fun hc => ?_) (fun hc => ?_)
  ·repeat refine VW.seq ?_
   refine VW.regl hT fun K hK => ?_
   simp only [wq, simprocAttr]
   refine hK _ ?_
   clear hK K
   try refine vthen_n ?_
   refine VW.ret ⟨.inl rfl, _, rfl, ?_⟩
   have : xs ≠ ys := fun e => by subst e; simp [eqv] at hc
   simp [this]
  ·have hxy : xs.getD i (0, 0, 0) = ys.getD i (0, 0, 0) := by
    have hc2 := hc
    rw [Bool.not_eq_false'] at hc2
    exact of_decide_eq_true hc2
   refine VW.skip ?_
   show vthen _ _ _ .normal _
   refine vthen_n ?_
   repeat refine VW.seq ?_
   refine VW.regl hT fun K hK => ?_
   simp only [wq, simprocAttr]
   refine hK _ ?_
   clear hK K
   try refine vthen_n ?_
   refine ⟨i + 1, ⟨hlt, fun k h => ?_⟩, ?_, by show xs.length - (i + 1) < xs.length - i; omega⟩
   ·rcases Nat.lt_or_ge k i with h1 | h1
    ·exact hk k h1
    ·obtain rfl : k = i := by omega
     exact hxy
   ·simp only [wn, wq, simprocAttr]
    rw [wrap64 (by omega) (by omega)]
    rfl
 ·have hc : xs.length ≤ i := by simpa using hc
  refine VW.exit ?_
  show vthen _ _ _ .normal _
  refine vthen_n ?_
  repeat refine VW.seq ?_
  refine VW.regl hT fun K hK => ?_
  simp only [wq, simprocAttr]
  refine hK _ ?_
  clear hK K
  try refine vthen_n ?_
  refine VW.ret ⟨.inl rfl, _, rfl, ?_⟩
  rw [row_eq (0, 0, 0) hlen fun k h => hk k (by omega)]
  simp
set_option maxRecDepth 20000 in
theorem eqBarS_vc (xs ys : List (Int × Int)) (hl : xs.length * 16 ≤ 140737488351232) : VC Tryz.prog 84 [.v false (.sl 51 sBr) xs, .v false (.sl 51 sBr) ys] (· = .v false .bool (decide (xs = ys))) := by
 refine VC.of_body hT Tryz.func84 rfl (by kernel_rfl) [(.tmp 4, false, .bool)] (by kernel_rfl) ?_
 show VW _ _ ([.v false (.sl 51 sBr) xs, .v false (.sl 51 sBr) ys, D, D, D, D, D, D, D, D, D, D, D, D, D, D, D, D, D, D, D, D, D, D, D, D, D]) _
 repeat refine VW.seq ?_
 refine VW.regl hT fun K hK => ?_
 simp only [wq, simprocAttr]
 refine hK _ ?_
 clear hK K
 try refine vthen_n ?_
 repeat refine VW.seq ?_
 refine VW.regl hT fun K hK => ?_
 simp only [wq, simprocAttr]
 refine hK _ ?_
 clear hK K
 try refine vthen_n ?_
 repeat refine VW.seq ?_
 refine VW.cond rfl (fun hc => ?_) (fun hc => ?_)
 ·repeat refine VW.seq ?_
  refine VW.regl hT fun K hK => ?_
  simp only [wq, simprocAttr]
  refine hK _ ?_
  clear hK K
  try refine vthen_n ?_
  refine VW.ret ⟨.inl rfl, _, rfl, ?_⟩
  have : xs ≠ ys := fun e => by subst e; simp at hc
  simp [this]
 have hlen : xs.length = ys.length := by simp at hc; omega
 refine VW.skip (vthen_n ?_)
 repeat refine VW.seq ?_
 refine VW.regl hT fun K hK => ?_
 simp only [wq, simprocAttr]
 refine hK _ ?_
 clear hK K
 try refine vthen_n ?_
 repeat refine VW.seq ?_
 refine VW.block ?_
 refine VW.loop (α := Nat) [(0, none), (1, none), (5, none)] (fun i => [.v false (.sl 51 sBr) xs, .v false (.sl 51 sBr) ys, D, D, D, .v false (.int .i64) (i : Int), D, D, D, D, D, D, D, D, D, D, D, D, D, D, D, D, D, D, D, D, D]) (fun i => i ≤ xs.length ∧ ∀ k, k < i → xs.getD k (0, 0) = ys.getD k (0, 0)) (fun i => xs.length - i) ⟨0, ⟨by omega, fun k hk => by omega⟩, ?_⟩ fun i ⟨hi, hk⟩ => ?_
 ·simp only [wn, wq, simprocAttr]
  try rfl
 repeat refine VW.seq ?_
 refine VW.regl hT fun K hK => ?_
 simp only [wq, simprocAttr]
 refine hK _ ?_
 clear hK K
 try refine vthen_n ?_
 repeat refine VW.seq ?_
 refine VW.cond rfl (fun hc => ?_) (fun hc => ?_)
 ·have hlt : i < xs.length := by simpa using hc
  refine VW.skip (vthen_n ?_)
  repeat refine VW.seq ?_
  refine VW.block ?_
  repeat refine VW.seq ?_
  refine VW.drawl hT hm (by kernel_rfl) fun K hK => ?_
  simp only [wq, simprocAttr]
  refine ⟨by simp; omega, by simp; omega, vcallD_of (eqBar_vc _ _) ?_⟩
  simp only [wq, simprocAttr]
  refine hK _ ?_
  clear hK K
  try refine vthen_n ?_
  repeat refine VW.seq ?_
  refine VW.cond rfl (fun hc => ?_) (fun hc => ?_)
  ·repeat refine VW.seq ?_
   refine VW.regl hT fun K hK => ?_
   simp only [wq, simprocAttr]
   refine hK _ ?_
   clear hK K
   try refine vthen_n ?_
   refine VW.ret ⟨.inl rfl, _, rfl, ?_⟩
   have : xs ≠ ys := fun e => by subst e; simp [eqv] at hc
   simp [this]
  ·have hxy : xs.getD i (0, 0) = ys.getD i (0, 0) := by
    have hc2 := hc
    rw [Bool.not_eq_false'] at hc2
    exact of_decide_eq_true hc2
   refine VW.skip ?_
   show vthen _ _ _ .normal _
   refine vthen_n ?_
   repeat refine VW.seq ?_
   refine VW.regl hT fun K hK => ?_
   simp only [wq, simprocAttr]
   refine hK _ ?_
   clear hK K
   try refine vthen_n ?_
   refine ⟨i + 1, ⟨hlt, fun k h => ?_⟩, ?_, by show xs.length - (i + 1) < xs.length - i; omega⟩
   ·rcases Nat.lt_or_ge k i with h1 | h1
    ·exact hk k h1
    ·obtain rfl : k = i := by omega
     exact hxy
   ·simp only [wn, wq, simprocAttr]
    rw [wrap64 (by omega) (by omega)]
    rfl
 ·have hc : xs.length ≤ i := by simpa using hc
  refine VW.exit ?_
  show vthen _ _ _ .normal _
  refine vthen_n ?_
  repeat refine VW.seq ?_
  refine VW.regl hT fun K hK => ?_
  simp only [wq, simprocAttr]
  refine hK _ ?_
  clear hK K
  try refine vthen_n ?_
  refine VW.ret ⟨.inl rfl, _, rfl, ?_⟩
  rw [row_eq (0, 0) hlen fun k h => hk k (by omega)]
  simp
set_option maxRecDepth 20000 in
theorem eqIntSS_vc (xs ys : List (List Int)) (hl : xs.length * 24 ≤ 140737488351232) (hin : ∀ k, (xs.getD k []).length * 8 ≤ 140737488351232) : VC Tryz.prog 85 [.v false (.sl 25 sI) xs, .v false (.sl 25 sI) ys] (· = .v false .bool (decide (xs = ys))) := by
 refine VC.of_body hT Tryz.func85 rfl (by kernel_rfl) [(.tmp 4, false, .bool)] (by kernel_rfl) ?_
 show VW _ _ ([.v false (.sl 25 sI) xs, .v false (.sl 25 sI) ys, D, D, D, D, D, D, D, D, D, D, D, D, D, D, D, D, D, D, D, D, D, D, D, D, D]) _
 repeat refine VW.seq ?_
 refine VW.regl hT fun K hK => ?_
 simp only [wq, simprocAttr]
 refine hK _ ?_
 clear hK K
 try refine vthen_n ?_
 repeat refine VW.seq ?_
 refine VW.regl hT fun K hK => ?_
 simp only [wq, simprocAttr]
 refine hK _ ?_
 clear hK K
 try refine vthen_n ?_
 repeat refine VW.seq ?_
 refine VW.cond rfl (fun hc => ?_) (fun hc => ?_)
 ·repeat refine VW.seq ?_
  refine VW.regl hT fun K hK => ?_
  simp only [wq, simprocAttr]
  refine hK _ ?_
  clear hK K
  try refine vthen_n ?_
  refine VW.ret ⟨.inl rfl, _, rfl, ?_⟩
  have : xs ≠ ys := fun e => by subst e; simp at hc
  simp [this]
 have hlen : xs.length = ys.length := by simp at hc; omega
 refine VW.skip (vthen_n ?_)
 repeat refine VW.seq ?_
 refine VW.regl hT fun K hK => ?_
 simp only [wq, simprocAttr]
 refine hK _ ?_
 clear hK K
 try refine vthen_n ?_
 repeat refine VW.seq ?_
 refine VW.block ?_
 refine VW.loop (α := Nat) [(0, none), (1, none), (5, none)] (fun i => [.v false (.sl 25 sI) xs, .v false (.sl 25 sI) ys, D, D, D, .v false (.int .i64) (i : Int), D, D, D, D, D, D, D, D, D, D, D, D, D, D, D, D, D, D, D, D, D]) (fun i => i ≤ xs.length ∧ ∀ k, k < i → xs.getD k [] = ys.getD k []) (fun i => xs.length - i) ⟨0, ⟨by omega, fun k hk => by omega⟩, ?_⟩ fun i ⟨hi, hk⟩ => ?_
 ·simp only [wn, wq, simprocAttr]
  try rfl
 repeat refine VW.seq ?_
 refine VW.regl hT fun K hK => ?_
 simp only [wq, simprocAttr]
 refine hK _ ?_
 clear hK K
 try refine vthen_n ?_
 repeat refine VW.seq ?_
 refine VW.cond rfl (fun hc => ?_) (fun hc => ?_)
 ·have hlt : i < xs.length := by simpa using hc
  refine VW.skip (vthen_n ?_)
  repeat refine VW.seq ?_
  refine VW.block ?_
  repeat refine VW.seq ?_
  refine VW.drawl hT hm (by kernel_rfl) fun K hK => ?_
  simp only [wq, simprocAttr]
  refine ⟨by simp; omega, by simp; omega, vcallD_of (eqIntS_vc _ _ (hin i)) ?_⟩
  simp only [wq, simprocAttr]
  refine hK _ ?_
  clear hK K
  try refine vthen_n ?_
  repeat refine VW.seq ?_
  refine VW.cond rfl (fun hc => ?_) (fun hc => ?_)
  ·repeat refine VW.seq ?_
   refine VW.regl hT fun K hK => ?_
   simp only [wq, simprocAttr]
   refine hK _ ?_
   clear hK K
   try refine vthen_n ?_
   refine VW.ret ⟨.inl rfl, _, rfl, ?_⟩
   have : xs ≠ ys := fun e => by subst e; simp [eqv] at hc
   simp [this]
  ·have hxy : xs.getD i [] = ys.getD i [] := by
    have hc2 := hc
    rw [Bool.not_eq_false'] at hc2
    exact of_decide_eq_true hc2
   refine VW.skip ?_
   show vthen _ _ _ .normal _
   refine vthen_n ?_
   repeat refine VW.seq ?_
   refine VW.regl hT fun K hK => ?_
   simp only [wq, simprocAttr]
   refine hK _ ?_
   clear hK K
   try refine vthen_n ?_
   refine ⟨i + 1, ⟨hlt, fun k h => ?_⟩, ?_, by show xs.length - (i + 1) < xs.length - i; omega⟩
   ·rcases Nat.lt_or_ge k i with h1 | h1
    ·exact hk k h1
    ·obtain rfl : k = i := by omega
     exact hxy
   ·simp only [wn, wq, simprocAttr]
    rw [wrap64 (by omega) (by omega)]
    rfl
 ·have hc : xs.length ≤ i := by simpa using hc
  refine VW.exit ?_
  show vthen _ _ _ .normal _
  refine vthen_n ?_
  repeat refine VW.seq ?_
  refine VW.regl hT fun K hK => ?_
  simp only [wq, simprocAttr]
  refine hK _ ?_
  clear hK K
  try refine vthen_n ?_
  refine VW.ret ⟨.inl rfl, _, rfl, ?_⟩
  rw [row_eq [] hlen fun k h => hk k (by omega)]
  simp
end Go.Proofs.YtmechjnfeidnkaaGreat.V.W
end
section
namespace Go.Proofs.YtmechjnfeidnkaaGreat.V.W
open Go Go.RowKit
abbrev sG : Sh := .sl 4 .bool
abbrev sFs : Sh := .pr (.sl 154 (.pr (.int .i64) (.pr (.int .i64) (.int .i64)))) (.pr (.sl 3 (.int .i64)) (.pr (.sl 156 (.pr (.int .i64) (.int .i64))) (.pr (.sl 25 (.sl 3 (.int .i64))) sG)))
abbrev sFi : Sh := .pr (.sl 102 (.pr (.int .i64) (.pr (.int .i64) (.int .i64)))) (.pr (.sl 3 (.int .i64)) (.pr (.sl 51 (.pr (.int .i64) (.int .i64))) (.pr (.sl 25 (.sl 3 (.int .i64))) sG)))
abbrev Fab := List (Int × Int × Int) × List Int × List (Int × Int) × List (List Int) × List Bool
structure FabB (x : Fab) : Prop where
 a : x.1.length * 24 ≤ 140737488351232
 b : x.2.1.length * 8 ≤ 140737488351232
 c : x.2.2.1.length * 16 ≤ 140737488351232
 d : x.2.2.2.1.length * 24 ≤ 140737488351232
 e : ∀ k, (x.2.2.2.1.getD k []).length * 8 ≤ 140737488351232
 f : x.2.2.2.2.length * 1 ≤ 140737488351232
set_option maxRecDepth 20000 in
set_option maxRecDepth 20000 in
theorem eqGuard_vc (x y : List Bool) (hl : x.length * 1 ≤ 140737488351232) : VC Tryz.prog 86 [.v true sG x, .v true sG y] (· = .v false .bool (decide (x = y))) := by
 refine VC.of_body hT Tryz.func86 rfl (by kernel_rfl) [(.tmp 4, false, .bool)] (by kernel_rfl) ?_
 show VW _ _ ([.v true sG x, .v true sG y, D, D, D, D, D, D, D, D, D]) _
 repeat refine VW.seq ?_
 refine VW.regl hT fun K hK => ?_
 simp only [wq, simprocAttr]
 refine hK _ ?_
 clear hK K
 try refine vthen_n ?_
 repeat refine VW.seq ?_
 refine VW.regl hT fun K hK => ?_
 simp only [wq, simprocAttr]
 refine vcall_of (eqBoolS_vc x y hl) ?_
 simp only [wq, simprocAttr]
 refine hK _ ?_
 clear hK K
 try refine vthen_n ?_
 repeat refine VW.seq ?_
 refine VW.cond rfl (fun hc => ?_) (fun hc => ?_)
 ·repeat refine VW.seq ?_
  refine VW.regl hT fun K hK => ?_
  simp only [wq, simprocAttr]
  refine hK _ ?_
  clear hK K
  try refine vthen_n ?_
  refine VW.ret ⟨.inl rfl, _, rfl, ?_⟩
  simp at hc; simp [hc]
 ·refine VW.skip (vthen_n ?_)
  repeat refine VW.seq ?_
  refine VW.regl hT fun K hK => ?_
  simp only [wq, simprocAttr]
  refine hK _ ?_
  clear hK K
  try refine vthen_n ?_
  refine VW.ret ⟨.inl rfl, _, rfl, ?_⟩
  simp at hc; simp [hc]
/-- what two levels of rows hold -/
def tot (xs : List (List Int)) (i : Nat) : Nat := ((xs.take i).map List.length).sum
theorem tot_succ {xs : List (List Int)} {i : Nat} (h : i < xs.length) : tot xs (i + 1) = tot xs i + (xs.getD i []).length := by
 unfold tot
 rw [List.take_add_one, List.getElem?_eq_getElem h, List.map_append, List.sum_append_nat, List.getD_eq_getElem?_getD, List.getElem?_eq_getElem h]
 simp
theorem tot_mono (m : List (List Int)) : ∀ i, i ≤ m.length → tot m i ≤ tot m m.length := by
 intro i hi
 obtain ⟨d, hd⟩ : ∃ d, m.length = i + d := ⟨m.length - i, by omega⟩
 have : ∀ d, i + d ≤ m.length → tot m i ≤ tot m (i + d) := by
  intro d
  induction d with
  | zero => intro _; exact Nat.le_refl _
  | succ d ih =>
   intro h
   have h1 := ih (by omega)
   have h2 := tot_succ (xs := m) (i := i + d) (by omega)
   rw [← Nat.add_assoc, h2]
   omega
 have h := this d (by omega)
 rwa [← hd] at h
set_option maxRecDepth 20000 in
def fabSize (x : Fab) : Nat := x.1.length + x.2.1.length + x.2.2.1.length + (x.2.2.2.1.length + tot x.2.2.2.1 x.2.2.2.1.length) + x.2.2.2.2.length
set_option maxRecDepth 20000 in
set_option maxRecDepth 20000 in
set_option maxRecDepth 20000 in
theorem eqFabric_vc (x y : Fab) (hx : FabB x) : VC Tryz.prog 31 [.v true sFi x, .v true sFi y] (· = .v false .bool (decide (x = y))) := by
 refine VC.of_body hT Tryz.func31 rfl (by kernel_rfl) [(.tmp 4, false, .bool)] (by kernel_rfl) ?_
 show VW _ _ ([.v true sFi x, .v true sFi y, D, D, D, D, D, D, D, D, D, D, D, D, D, D, D, D, D, D, D, D, D, D, D, D, D, D, D, D, D, D, D, D, D]) _
 have key : decide (x = y) = (decide (x.1 = y.1) && (decide (x.2.1 = y.2.1) && (decide (x.2.2.1 = y.2.2.1) && (decide (x.2.2.2.1 = y.2.2.2.1) && decide (x.2.2.2.2 = y.2.2.2.2))))) := by
  rw [Bool.eq_iff_iff]
  simp [Prod.ext_iff]
 repeat refine VW.seq ?_
 refine VW.regl hT fun K hK => ?_
 simp only [wq, simprocAttr]
 refine hK _ ?_
 clear hK K
 try refine vthen_n ?_
 repeat refine VW.seq ?_
 refine VW.regl hT fun K hK => ?_
 simp only [wq, simprocAttr]
 refine vcall_of (eqNodeS_vc _ _ hx.a) ?_
 simp only [wq, simprocAttr]
 refine hK _ ?_
 clear hK K
 try refine vthen_n ?_
 repeat refine VW.seq ?_
 refine VW.cond rfl (fun hc => ?_) (fun hc => ?_)
 ·repeat refine VW.seq ?_
  refine VW.regl hT fun K hK => ?_
  simp only [wq, simprocAttr]
  refine hK _ ?_
  clear hK K
  try refine vthen_n ?_
  refine VW.ret ⟨.inl rfl, _, rfl, ?_⟩
  rw [key]; simp at hc; simp [hc]
 refine VW.skip (vthen_n ?_)
 repeat refine VW.seq ?_
 refine VW.regl hT fun K hK => ?_
 simp only [wq, simprocAttr]
 refine vcall_of (eqIntS_vc _ _ hx.b) ?_
 simp only [wq, simprocAttr]
 refine hK _ ?_
 clear hK K
 try refine vthen_n ?_
 repeat refine VW.seq ?_
 refine VW.cond rfl (fun hc => ?_) (fun hc => ?_)
 ·repeat refine VW.seq ?_
  refine VW.regl hT fun K hK => ?_
  simp only [wq, simprocAttr]
  refine hK _ ?_
  clear hK K
  try refine vthen_n ?_
  refine VW.ret ⟨.inl rfl, _, rfl, ?_⟩
  rw [key]; simp at hc; simp [hc]
 refine VW.skip (vthen_n ?_)
 repeat refine VW.seq ?_
 refine VW.regl hT fun K hK => ?_
 simp only [wq, simprocAttr]
 refine vcall_of (eqBarS_vc _ _ hx.c) ?_
 simp only [wq, simprocAttr]
 refine hK _ ?_
 clear hK K
 try refine vthen_n ?_
 repeat refine VW.seq ?_
 refine VW.cond rfl (fun hc => ?_) (fun hc => ?_)
 ·repeat refine VW.seq ?_
  refine VW.regl hT fun K hK => ?_
  simp only [wq, simprocAttr]
  refine hK _ ?_
  clear hK K
  try refine vthen_n ?_
  refine VW.ret ⟨.inl rfl, _, rfl, ?_⟩
  rw [key]; simp at hc; simp [hc]
 refine VW.skip (vthen_n ?_)
 repeat refine VW.seq ?_
 refine VW.regl hT fun K hK => ?_
 simp only [wq, simprocAttr]
 refine vcall_of (eqIntSS_vc _ _ hx.d hx.e) ?_
 simp only [wq, simprocAttr]
 refine hK _ ?_
 clear hK K
 try refine vthen_n ?_
 repeat refine VW.seq ?_
 refine VW.cond rfl (fun hc => ?_) (fun hc => ?_)
 ·repeat refine VW.seq ?_
  refine VW.regl hT fun K hK => ?_
  simp only [wq, simprocAttr]
  refine hK _ ?_
  clear hK K
  try refine vthen_n ?_
  refine VW.ret ⟨.inl rfl, _, rfl, ?_⟩
  rw [key]; simp at hc; simp [hc]
 refine VW.skip (vthen_n ?_)
 repeat refine VW.seq ?_
 refine VW.regl hT fun K hK => ?_
 simp only [wq, simprocAttr]
 refine vcall_of (eqGuard_vc _ _ hx.f) ?_
 simp only [wq, simprocAttr]
 refine hK _ ?_
 clear hK K
 try refine vthen_n ?_
 repeat refine VW.seq ?_
 refine VW.cond rfl (fun hc => ?_) (fun hc => ?_)
 ·repeat refine VW.seq ?_
  refine VW.regl hT fun K hK => ?_
  simp only [wq, simprocAttr]
  refine hK _ ?_
  clear hK K
  try refine vthen_n ?_
  refine VW.ret ⟨.inl rfl, _, rfl, ?_⟩
  rw [key]; simp at hc; simp [hc]
 refine VW.skip (vthen_n ?_)
 repeat refine VW.seq ?_
 refine VW.regl hT fun K hK => ?_
 simp only [wq, simprocAttr]
 refine hK _ ?_
 clear hK K
 try refine vthen_n ?_
 refine VW.ret ⟨.inl rfl, _, rfl, ?_⟩
 rw [key]; simp_all
end Go.Proofs.YtmechjnfeidnkaaGreat.V.W
end
section
namespace Go.Proofs.YtmechjnfeidnkaaGreat.V.W
open Go Go.RowKit
theorem newFab1_vc (x : Int) : VC Tryz.prog 121 [.v false (.int .i64) (x)] (· = .v false .bool (decide (x > 64))) := by
 refine VC.of_body hT Tryz.func121 rfl (by kernel_rfl) [(.tmp 2, false, .bool)] (by kernel_rfl) ?_
 show VW _ _ ([.v false (.int .i64) (x), D, D, D, D]) _
 repeat refine VW.seq ?_
 refine VW.regl hT fun K hK => ?_
 simp only [wq, simprocAttr]
 refine hK _ ?_
 clear hK K
 try refine vthen_n ?_
 repeat refine VW.seq ?_
 refine VW.regl hT fun K hK => ?_
 simp only [wq, simprocAttr]
 refine hK _ ?_
 clear hK K
 try refine vthen_n ?_
 exact VW.ret ⟨.inl rfl, _, rfl, rfl⟩
/-- a new fabric can be made -/
def newOk (t : List Nd) (s : List Int) : Bool := fits t s && !s.any fun x => decide (x > 64)
/-- the first i rows of memory -/
def memTo (s : List Int) (i : Nat) : List (List Int) := (s.take i).map fun n => List.replicate n.toNat 0
theorem memTo_succ {s : List Int} {i : Nat} (h : i < s.length) : memTo s (i + 1) = memTo s i ++ [List.replicate (s.getD i 0).toNat 0] := by
 unfold memTo
 rw [List.take_add_one, List.getElem?_eq_getElem h, List.map_append, List.getD_eq_getElem?_getD, List.getElem?_eq_getElem h]
 rfl
theorem memTo_len {s : List Int} {i : Nat} (h : i ≤ s.length) : (memTo s i).length = i := by
 simp [memTo]; omega
def newFab (t : List Nd) (s : List Int) : Fab := (t, s, allBars t s, memTo s s.length, List.replicate s.length true)
abbrev fFab : Fl := .pr .own (.pr .own (.pr .own (.pr .own .own)))
abbrev rFab (fl : Fl) (x : Fab) (b : Bool) : PV := .root (.tup [true, false]) (.pr sFi .bool) (.pr fl .fz) (x, b)
set_option maxRecDepth 20000 in
set_option maxHeartbeats 2000000 in
theorem newFabric_vc (t : List Nd) (s : List Int) (hl : t.length ≤ 2000000) (hs : s.length ≤ 2000000) : VC Tryz.prog 58 [.v false sNS t, .v false sI s] (fun pv => if newOk t s = true then pv = rFab fFab (newFab t s) true else pv = rFab .own ([], [], [], [], []) false) := by
 refine VC.of_body hT Tryz.func58 rfl (by kernel_rfl) [(.cell 4 32, true, sFi), (.tmp 5, false, .bool)] (by kernel_rfl) ?_
 show VW _ _ ([.v false sNS t, .v false sI s, D, D, D, D, D, D, D, D, D, D, D, D, D, D, D, D, D, D, D, D, D, D, D, D, D, D, D, D, D, D, D, D, D, D, D, D, D, D, D, D, D, D, D, D, D, D, D, D, D, D, D, D, D, D, D, D, D, D, D, D, D, D, D, D, D, D]) _
 repeat refine VW.seq ?_
 refine VW.regl hT fun K hK => ?_
 simp only [wq, simprocAttr]
 refine hK _ ?_
 clear hK K
 try refine vthen_n ?_
 repeat refine VW.seq ?_
 refine VW.regl hT fun K hK => ?_
 simp only [wq, simprocAttr]
 refine vcall_of (sizesOk_vc t s hl hs) ?_
 simp only [wq, simprocAttr]
 refine vbr (fun h => ?_) (fun h => ?_) <;> simp only [wq, simprocAttr]
 case refine_2 =>
  refine hK _ ?_
  clear hK K
  try refine vthen_n ?_
  repeat refine VW.seq ?_
  refine VW.cond rfl (fun hc => ?_) (fun hc => ?_)
  ·repeat refine VW.seq ?_
   refine VW.regl hT fun K hK => ?_
   simp only [wq, simprocAttr]
   refine hK _ ?_
   clear hK K
   try refine vthen_n ?_
   have h' : sizesOk t s = false := (Bool.not_eq_true' _).mp h
   refine VW.ret ⟨.inl rfl, _, rfl, ?_⟩
   rw [if_neg (by rw [newOk, fits, h', Bool.false_and, Bool.false_and]; decide)]
  ·cases hc
 have hok0 : sizesOk t s = true := by
  have := h
  rwa [Bool.not_eq_false'] at this
 have hok := (sizesOk_iff.1 hok0).1
 have hsl := (sizesOk_iff.1 hok0).2.1
 have htl := treeOk_len hok
 refine vcall_of (containsI_vc s 121 [] (fun x => decide (x > 64)) rfl newFab1_vc hs) ?_
 simp only [wq, simprocAttr]
 refine hK _ ?_
 clear hK K
 try refine vthen_n ?_
 repeat refine VW.seq ?_
 refine VW.cond rfl (fun hc => ?_) (fun hc => ?_)
 ·repeat refine VW.seq ?_
  refine VW.regl hT fun K hK => ?_
  simp only [wq, simprocAttr]
  refine hK _ ?_
  clear hK K
  try refine vthen_n ?_
  refine VW.ret ⟨.inl rfl, _, rfl, ?_⟩
  rw [if_neg (by rw [newOk, show (s.any fun x => decide (x > 64)) = true from hc]; simp)]
 have h64 : ∀ i, i < s.length → 0 ≤ s.getD i 0 ∧ s.getD i 0 ≤ 64 := fun i hi => by
  have hc : (s.any fun x => decide (x > 64)) = false := hc
  rw [List.any_eq_false] at hc
  have := hc _ (getD_mem hi)
  refine ⟨?_, by simpa using this⟩
  rcases sizes_node hok0 (k := i) (by omega) with h | ⟨h, _⟩
  ·omega
  ·have := pw_in h
   omega
 refine VW.skip (vthen_n ?_)
 repeat refine VW.seq ?_
 refine VW.regl hT fun K hK => ?_
 simp only [wq, simprocAttr]
 refine vcall_ex (enum_vc t hl) ?_
 intro pv hpv
 rw [if_pos hok] at hpv
 obtain ⟨x3, rfl⟩ := hpv
 simp only [wq, simprocAttr]
 refine hK _ ?_
 clear hK K
 try refine vthen_n ?_
 repeat refine VW.seq ?_
 refine VW.regl hT fun K hK => ?_
 simp only [wq, simprocAttr]
 refine vcall_ex (allocate_vc t s hl hs) ?_
 intro pv hpv
 by_cases hf : fits t s = true
 case neg =>
  rw [if_neg hf] at hpv
  obtain ⟨bs, rfl⟩ := hpv
  simp only [wq, simprocAttr]
  refine hK _ ?_
  clear hK K
  try refine vthen_n ?_
  repeat refine VW.seq ?_
  refine VW.regl hT fun K hK => ?_
  simp only [wq, simprocAttr]
  refine hK _ ?_
  clear hK K
  try refine vthen_n ?_
  repeat refine VW.seq ?_
  refine VW.cond rfl (fun hc => ?_) (fun hc => ?_)
  ·repeat refine VW.seq ?_
   refine VW.regl hT fun K hK => ?_
   simp only [wq, simprocAttr]
   refine hK _ ?_
   clear hK K
   try refine vthen_n ?_
   refine VW.ret ⟨.inl rfl, _, rfl, ?_⟩
   rw [if_neg (by rw [newOk, (by simpa using hf : fits t s = false), Bool.false_and]; decide)]
  ·cases hc
 rw [if_pos hf] at hpv
 subst hpv
 simp only [wq, simprocAttr]
 refine hK _ ?_
 clear hK K
 try refine vthen_n ?_
 repeat refine VW.seq ?_
 refine VW.regl hT fun K hK => ?_
 simp only [wq, simprocAttr]
 refine hK _ ?_
 clear hK K
 try refine vthen_n ?_
 repeat refine VW.seq ?_
 refine VW.cond rfl (fun hc => ?_) (fun hc => ?_)
 ·cases hc
 refine VW.skip (vthen_n ?_)
 repeat refine VW.seq ?_
 refine VW.regl hT fun K hK => ?_
 simp only [wq, simprocAttr]
 refine vcall_of (clone_vc t hl) ?_
 simp only [wq, simprocAttr]
 refine vcall_of (cloneI_vc s hs) ?_
 simp only [wq, simprocAttr]
 refine hK _ ?_
 clear hK K
 try refine vthen_n ?_
 repeat refine VW.seq ?_
 refine VW.regl hT fun K hK => ?_
 simp only [wq, simprocAttr]
 refine hK _ ?_
 clear hK K
 try refine vthen_n ?_
 refine VW.retag (ι := Unit) (g := 10) (fun _ => fFab) _ rfl (fun w Z cs B h => ⟨(), h⟩) (fun j => by simp only [wq, simprocAttr]; rfl) (fun _ => ?_)
 repeat refine VW.seq ?_
 refine VW.block ?_
 refine VW.loop (α := Nat) [(0, none), (4, none), (10, none), (46, none), (47, none), (48, none)] (fun i => [.v false sNS t, D, D, D, .root (.box 32) sFi .own ([], [], [], [], []), D, D, D, D, D, .root (.box 32) sFi fFab (t, s, allBars t s, memTo s i, List.replicate i true), D, D, D, D, D, D, D, D, D, D, D, D, D, D, D, D, D, D, D, D, D, D, D, D, D, D, D, D, D, D, D, D, D, D, D, .v false sI s, .v false (.int .i64) ((s.length : Nat)), .v false (.int .i64) ((i : Nat)), D, D, D, D, D, D, D, D, D, D, D, D, D, D, D, D, D, D, D]) (fun i => i ≤ s.length) (fun i => s.length - i) ⟨0, by omega, ?_⟩ fun i hi => ?_
 ·simp only [wn, wq, simprocAttr]
  try rfl
 repeat refine VW.seq ?_
 refine VW.regl hT fun K hK => ?_
 simp only [wq, simprocAttr]
 refine hK _ ?_
 clear hK K
 try refine vthen_n ?_
 repeat refine VW.seq ?_
 refine VW.cond rfl (fun hc => ?_) (fun hc => ?_)
 ·have hlt : i < s.length := by simpa using hc
  have hml := memTo_len (s := s) (i := i) (by omega)
  have h6 := h64 i hlt
  refine VW.skip (vthen_n ?_)
  repeat refine VW.seq ?_
  refine VW.block ?_
  repeat refine VW.seq ?_
  refine VW.regl hT fun K hK => ?_
  simp only [wq, simprocAttr]
  refine ⟨decide_eq_true ⟨Int.natCast_nonneg _, by show (i : Int) < (s.length : Int); omega⟩, ?_⟩
  refine hK _ ?_
  clear hK K
  try refine vthen_n ?_
  generalize hN : s.getD i 0 = N at *
  refine VW.weak (weak_norm [(0, none), (4, none), (10, none), (12, none), (46, none), (47, none), (48, none)] _) ?_
  simp only [wn, wq, simprocAttr]
  have hrep : true :: List.replicate i true = List.replicate i true ++ [true] := by rw [← List.replicate_succ, List.replicate_succ']
  have sc3 : (decide (0 ≤ N) && limOk N.toNat 8) = true := by simp [limOk]; omega
  refine VW.any hT hm fun K hK W hW => ?_
  apply cutl
  intro tK
  apply cutl
  intro t65535
  apply cutl
  intro t32767
  apply cutl
  intro t4095
  apply cutl
  intro t3071
  apply cutl
  intro t2559
  apply cutl
  intro t991
  apply cutl
  intro t767
  apply cutl
  intro t989
  apply cutl
  intro t975
  apply cutl
  intro t735
  apply cutl
  intro t479
  apply cutl
  intro t255
  apply cutl
  intro t973
  apply cutl
  intro t967
  apply cutl
  intro t733
  apply cutl
  intro t719
  apply cutl
  intro t477
  apply cutl
  intro t463
  apply cutl
  intro t223
  apply cutl
  intro t965
  apply cutl
  intro t717
  apply cutl
  intro t711
  apply cutl
  intro t461
  apply cutl
  intro t455
  apply cutl
  intro t221
  apply cutl
  intro t207
  apply cutl
  intro t709
  apply cutl
  intro t453
  apply cutl
  intro t205
  apply cutl
  intro t199
  ·refine hW.takeF 0 0 1 _ (by kernel_rfl) ?_
   simp only [wy, wq, simprocAttr]
   refine hW.take 1 2 5 _ (by kernel_rfl) ?_
   simp only [wy, wq, simprocAttr]
   refine hW.takeF 5 6 69 _ (by kernel_rfl) ?_
   simp only [wy, wq, simprocAttr]
   refine hW.takeF 69 7 197 _ (by kernel_rfl) ?_
   simp only [wy, wq, simprocAttr]
   refine hW.all 197 [(1, 199), (3, 205), (8, 453), (9, 709)] _ (by kernel_rfl) (by simp) ?_
   simp only [wy, wq, simprocAttr]
   refine ⟨?_, ?_, ?_, ?_⟩
   ·exact t199.h
   ·refine ⟨sc3, ?_⟩
    exact t205.h
   ·exact t453.h
   ·exact t709.h
  ·skip
   refine hW.all 199 [(3, 207), (8, 455), (9, 711)] _ (by kernel_rfl) (by simp) ?_
   simp only [wy, wq, simprocAttr]
   refine ⟨?_, ?_, ?_⟩
   ·refine ⟨sc3, ?_⟩
    exact t207.h
   ·exact t455.h
   ·exact t711.h
  ·skip
   refine hW.all 205 [(1, 207), (4, 221), (8, 461), (9, 717)] _ (by kernel_rfl) (by simp) ?_
   simp only [wy, wq, simprocAttr]
   refine ⟨?_, ?_, ?_, ?_⟩
   ·exact t207.h
   ·exact t221.h
   ·exact t461.h
   ·exact t717.h
  ·skip
   refine hW.all 453 [(1, 455), (3, 461), (9, 965)] _ (by kernel_rfl) (by simp) ?_
   simp only [wy, wq, simprocAttr]
   refine ⟨?_, ?_, ?_⟩
   ·exact t455.h
   ·refine ⟨sc3, ?_⟩
    exact t461.h
   ·exact t965.h
  ·skip
   refine hW.all 709 [(1, 711), (3, 717), (8, 965)] _ (by kernel_rfl) (by simp) ?_
   simp only [wy, wq, simprocAttr]
   refine ⟨?_, ?_, ?_⟩
   ·exact t711.h
   ·refine ⟨sc3, ?_⟩
    exact t717.h
   ·exact t965.h
  ·skip
   refine hW.all 207 [(4, 223), (8, 463), (9, 719)] _ (by kernel_rfl) (by simp) ?_
   simp only [wy, wq, simprocAttr]
   refine ⟨?_, ?_, ?_⟩
   ·exact t223.h
   ·exact t463.h
   ·exact t719.h
  ·skip
   refine hW.all 221 [(1, 223), (8, 477), (9, 733)] _ (by kernel_rfl) (by simp) ?_
   simp only [wy, wq, simprocAttr]
   refine ⟨?_, ?_, ?_⟩
   ·exact t223.h
   ·exact t477.h
   ·exact t733.h
  ·skip
   refine hW.all 455 [(3, 463), (9, 967)] _ (by kernel_rfl) (by simp) ?_
   simp only [wy, wq, simprocAttr]
   refine ⟨?_, ?_⟩
   ·refine ⟨sc3, ?_⟩
    exact t463.h
   ·exact t967.h
  ·skip
   refine hW.all 461 [(1, 463), (4, 477), (9, 973)] _ (by kernel_rfl) (by simp) ?_
   simp only [wy, wq, simprocAttr]
   refine ⟨?_, ?_, ?_⟩
   ·exact t463.h
   ·exact t477.h
   ·exact t973.h
  ·skip
   refine hW.all 711 [(3, 719), (8, 967)] _ (by kernel_rfl) (by simp) ?_
   simp only [wy, wq, simprocAttr]
   refine ⟨?_, ?_⟩
   ·refine ⟨sc3, ?_⟩
    exact t719.h
   ·exact t967.h
  ·skip
   refine hW.all 717 [(1, 719), (4, 733), (8, 973)] _ (by kernel_rfl) (by simp) ?_
   simp only [wy, wq, simprocAttr]
   refine ⟨?_, ?_, ?_⟩
   ·exact t719.h
   ·exact t733.h
   ·exact t973.h
  ·skip
   refine hW.all 965 [(1, 967), (3, 973)] _ (by kernel_rfl) (by simp) ?_
   simp only [wy, wq, simprocAttr]
   refine ⟨?_, ?_⟩
   ·exact t967.h
   ·refine ⟨sc3, ?_⟩
    exact t973.h
  ·skip
   refine hW.all 223 [(5, 255), (8, 479), (9, 735)] _ (by kernel_rfl) (by simp) ?_
   simp only [wy, wq, simprocAttr]
   refine ⟨?_, ?_, ?_⟩
   ·refine ⟨by simp [limOk, hml]; omega, ?_⟩
    exact t255.h
   ·exact t479.h
   ·exact t735.h
  ·skip
   refine hW.all 463 [(4, 479), (9, 975)] _ (by kernel_rfl) (by simp) ?_
   simp only [wy, wq, simprocAttr]
   refine ⟨?_, ?_⟩
   ·exact t479.h
   ·exact t975.h
  ·skip
   refine hW.all 477 [(1, 479), (9, 989)] _ (by kernel_rfl) (by simp) ?_
   simp only [wy, wq, simprocAttr]
   refine ⟨?_, ?_⟩
   ·exact t479.h
   ·exact t989.h
  ·skip
   refine hW.all 719 [(4, 735), (8, 975)] _ (by kernel_rfl) (by simp) ?_
   simp only [wy, wq, simprocAttr]
   refine ⟨?_, ?_⟩
   ·exact t735.h
   ·exact t975.h
  ·skip
   refine hW.all 733 [(1, 735), (8, 989)] _ (by kernel_rfl) (by simp) ?_
   simp only [wy, wq, simprocAttr]
   refine ⟨?_, ?_⟩
   ·exact t735.h
   ·exact t989.h
  ·skip
   refine hW.all 967 [(3, 975)] _ (by kernel_rfl) (by simp) ?_
   simp only [wy, wq, simprocAttr]
   skip
   refine ⟨sc3, ?_⟩
   exact t975.h
  ·skip
   refine hW.all 973 [(1, 975), (4, 989)] _ (by kernel_rfl) (by simp) ?_
   simp only [wy, wq, simprocAttr]
   refine ⟨?_, ?_⟩
   ·exact t975.h
   ·exact t989.h
  ·skip
   refine hW.all 255 [(8, 511), (9, 767)] _ (by kernel_rfl) (by simp) ?_
   simp only [wy, wq, simprocAttr]
   refine ⟨?_, ?_⟩
   ·refine hW.takeF 511 11 2559 _ (by kernel_rfl) ?_
    simp only [wy, wq, simprocAttr]
    exact t2559.h
   ·exact t767.h
  ·skip
   refine hW.all 479 [(5, 511), (9, 991)] _ (by kernel_rfl) (by simp) ?_
   simp only [wy, wq, simprocAttr]
   refine ⟨?_, ?_⟩
   ·refine ⟨by simp [limOk, hml]; omega, ?_⟩
    refine hW.takeF 511 11 2559 _ (by kernel_rfl) ?_
    simp only [wy, wq, simprocAttr]
    exact t2559.h
   ·exact t991.h
  ·skip
   refine hW.all 735 [(5, 767), (8, 991)] _ (by kernel_rfl) (by simp) ?_
   simp only [wy, wq, simprocAttr]
   refine ⟨?_, ?_⟩
   ·refine ⟨by simp [limOk, hml]; omega, ?_⟩
    exact t767.h
   ·exact t991.h
  ·skip
   refine hW.all 975 [(4, 991)] _ (by kernel_rfl) (by simp) ?_
   simp only [wy, wq, simprocAttr]
   skip
   exact t991.h
  ·skip
   refine hW.all 989 [(1, 991)] _ (by kernel_rfl) (by simp) ?_
   simp only [wy, wq, simprocAttr]
   skip
   exact t991.h
  ·skip
   refine hW.all 767 [(8, 1023)] _ (by kernel_rfl) (by simp) ?_
   simp only [wy, wq, simprocAttr]
   skip
   refine hW.takeF 1023 11 3071 _ (by kernel_rfl) ?_
   simp only [wy, wq, simprocAttr]
   exact t3071.h
  ·skip
   refine hW.all 991 [(5, 1023)] _ (by kernel_rfl) (by simp) ?_
   simp only [wy, wq, simprocAttr]
   skip
   refine ⟨by simp [limOk, hml]; omega, ?_⟩
   refine hW.takeF 1023 11 3071 _ (by kernel_rfl) ?_
   simp only [wy, wq, simprocAttr]
   exact t3071.h
  ·skip
   refine hW.all 2559 [(9, 3071)] _ (by kernel_rfl) (by simp) ?_
   simp only [wy, wq, simprocAttr]
   skip
   exact t3071.h
  ·skip
   refine hW.all 3071 [(10, 4095)] _ (by kernel_rfl) (by simp) ?_
   simp only [wy, wq, simprocAttr]
   skip
   refine ⟨by simp [limOk, hml]; omega, ?_⟩
   exact t4095.h
  ·skip
   refine hW.all 4095 [(12, 8191)] _ (by kernel_rfl) (by simp) ?_
   simp only [wy, wq, simprocAttr]
   skip
   refine hW.takeF 8191 13 16383 _ (by kernel_rfl) ?_
   simp only [wy, wq, simprocAttr]
   refine hW.takeF 16383 14 32767 _ (by kernel_rfl) ?_
   simp only [wy, wq, simprocAttr]
   exact t32767.h
  ·skip
   refine hW.all 32767 [(15, 65535)] _ (by kernel_rfl) (by simp) ?_
   simp only [wy, wq, simprocAttr]
   skip
   exact t65535.h
  ·skip
   refine hW.done 65535 _ (by kernel_rfl) ?_
   exact tK.h
  ·refine hK _ ?_
   show vthen _ _ _ .normal _
   refine vthen_n ?_
   repeat refine VW.seq ?_
   refine VW.regl hT fun K hK => ?_
   simp only [wq, simprocAttr]
   refine hK _ ?_
   clear hK K
   try refine vthen_n ?_
   refine ⟨i + 1, hlt, ?_, by show s.length - (i + 1) < s.length - i; omega⟩
   simp only [wn, wq, simprocAttr]
   rw [wrap64 (by omega) (by omega), memTo_succ hlt, hN, hrep]
   rfl
 ·have hge : i = s.length := by
   have : s.length ≤ i := by simpa using hc
   omega
  subst hge
  refine VW.exit ?_
  show vthen _ _ _ .normal _
  refine vthen_n ?_
  repeat refine VW.seq ?_
  refine VW.regl hT fun K hK => ?_
  simp only [wq, simprocAttr]
  refine hK _ ?_
  clear hK K
  try refine vthen_n ?_
  refine VW.ret ⟨.inl rfl, _, rfl, ?_⟩
  have hn : newOk t s = true := by
   rw [newOk, hf, Bool.true_and, Bool.not_eq_true', List.any_eq_false]
   intro x hx
   obtain ⟨j, h1, h2⟩ := List.getElem_of_mem hx
   have := h64 j h1
   rw [List.getD_eq_getElem?_getD, List.getElem?_eq_getElem h1] at this
   have : s[j] ≤ 64 := this.2
   rw [h2] at this
   simpa using this
  rw [if_pos hn]
  rfl
end Go.Proofs.YtmechjnfeidnkaaGreat.V.W
end
section
namespace Go.Proofs.YtmechjnfeidnkaaGreat.V.W
open Go Go.RowKit
set_option maxRecDepth 20000 in
set_option maxHeartbeats 2000000 in
theorem specNew_vc (t : List Nd) (s : List Int) (hl : t.length ≤ 2000000) (hs : s.length ≤ 2000000) : VC Tryz.prog 107 [.v false sNS t, .v false sI s] (fun pv => if newOk t s = true then pv = rFab fFab (newFab t s) true else pv = rFab .own ([], [], [], [], []) false) := by
 refine VC.of_body hT Tryz.func107 rfl (by kernel_rfl) [(.cell 4 32, true, sFi), (.tmp 5, false, .bool)] (by kernel_rfl) ?_
 show VW _ _ ([.v false sNS t, .v false sI s, D, D, D, D, D, D, D, D, D, D, D, D, D, D, D, D, D, D, D, D, D, D, D, D, D, D, D, D, D, D, D, D, D, D, D, D, D, D, D, D, D, D, D, D, D, D, D, D, D, D, D, D, D, D, D, D, D, D, D, D, D, D, D, D, D, D]) _
 repeat refine VW.seq ?_
 refine VW.regl hT fun K hK => ?_
 simp only [wq, simprocAttr]
 refine hK _ ?_
 clear hK K
 try refine vthen_n ?_
 repeat refine VW.seq ?_
 refine VW.regl hT fun K hK => ?_
 simp only [wq, simprocAttr]
 refine vcall_ex (specAllocate_vc t s hl hs) ?_
 intro pv hpv
 by_cases hf : fits t s = true
 case neg =>
  have hno : newOk t s = false := by rw [newOk, (by simpa using hf : fits t s = false), Bool.false_and]
  rw [if_neg hf] at hpv
  obtain ⟨bs, rfl⟩ := hpv
  simp only [wq, simprocAttr]
  refine hK _ ?_
  clear hK K
  try refine vthen_n ?_
  repeat refine VW.seq ?_
  refine VW.regl hT fun K hK => ?_
  simp only [wq, simprocAttr]
  refine vcall_ex (specEnum_vc t hl) ?_
  intro pv hpv
  by_cases hok : treeOk t = true
  ·rw [if_pos hok] at hpv
   obtain ⟨x3, rfl⟩ := hpv
   simp only [wq, simprocAttr]
   refine hK _ ?_
   clear hK K
   try refine vthen_n ?_
   repeat refine VW.seq ?_
   refine VW.regl hT fun K hK => ?_
   simp only [wq, simprocAttr]
   refine hK _ ?_
   clear hK K
   try refine vthen_n ?_
   repeat refine VW.seq ?_
   refine VW.cond rfl (fun hc => ?_) (fun hc => ?_)
   ·repeat refine VW.seq ?_
    refine VW.regl hT fun K hK => ?_
    simp only [wq, simprocAttr]
    refine hK _ ?_
    clear hK K
    try refine vthen_n ?_
    refine VW.ret ⟨.inl rfl, _, rfl, ?_⟩
    rw [if_neg (by rw [hno]; decide)]
   ·cases hc
  ·rw [if_neg hok] at hpv
   subst hpv
   simp only [wq, simprocAttr]
   refine hK _ ?_
   clear hK K
   try refine vthen_n ?_
   repeat refine VW.seq ?_
   refine VW.regl hT fun K hK => ?_
   simp only [wq, simprocAttr]
   refine hK _ ?_
   clear hK K
   try refine vthen_n ?_
   repeat refine VW.seq ?_
   refine VW.cond rfl (fun hc => ?_) (fun hc => ?_)
   ·repeat refine VW.seq ?_
    refine VW.regl hT fun K hK => ?_
    simp only [wq, simprocAttr]
    refine hK _ ?_
    clear hK K
    try refine vthen_n ?_
    refine VW.ret ⟨.inl rfl, _, rfl, ?_⟩
    rw [if_neg (by rw [hno]; decide)]
   ·cases hc
 rw [if_pos hf] at hpv
 subst hpv
 simp only [wq, simprocAttr]
 refine hK _ ?_
 clear hK K
 try refine vthen_n ?_
 have hok0 : sizesOk t s = true := by
  have := hf
  rw [fits, Bool.and_eq_true] at this
  exact this.1
 have hok := (sizesOk_iff.1 hok0).1
 have hsl := (sizesOk_iff.1 hok0).2.1
 have htl := treeOk_len hok
 have hpos : ∀ i, i < s.length → 0 ≤ s.getD i 0 := fun i hi => by
  rcases sizes_node hok0 (k := i) (by omega) with h | ⟨h, _⟩
  ·omega
  ·have := pw_in h
   omega
 repeat refine VW.seq ?_
 refine VW.regl hT fun K hK => ?_
 simp only [wq, simprocAttr]
 refine vcall_ex (specEnum_vc t hl) ?_
 intro pv hpv
 rw [if_pos hok] at hpv
 obtain ⟨x3, rfl⟩ := hpv
 simp only [wq, simprocAttr]
 refine hK _ ?_
 clear hK K
 try refine vthen_n ?_
 repeat refine VW.seq ?_
 refine VW.regl hT fun K hK => ?_
 simp only [wq, simprocAttr]
 refine hK _ ?_
 clear hK K
 try refine vthen_n ?_
 repeat refine VW.seq ?_
 refine VW.cond rfl (fun hc => ?_) (fun hc => ?_)
 ·cases hc
 refine VW.skip (vthen_n ?_)
 repeat refine VW.seq ?_
 refine VW.regl hT fun K hK => ?_
 simp only [wq, simprocAttr]
 refine ⟨by simp [limOk]; omega, by simp [limOk]; omega, ?_⟩
 refine hK _ ?_
 clear hK K
 try refine vthen_n ?_
 repeat refine VW.seq ?_
 refine VW.regl hT fun K hK => ?_
 simp only [wq, simprocAttr]
 refine hK _ ?_
 clear hK K
 try refine vthen_n ?_
 refine VW.retag (ι := Unit) (g := 10) (fun _ => fFab) _ rfl (fun w Z cs B h => ⟨(), h⟩) (fun j => by simp only [wq, simprocAttr]; rfl) (fun _ => ?_)
 repeat refine VW.seq ?_
 refine VW.block ?_
 refine VW.loop (α := Nat) [(0, none), (1, none), (4, none), (10, none), (11, none)] (fun i => [.v false sNS t, .v false sI s, D, D, .root (.box 32) sFi .own ([], [], [], [], []), D, D, D, D, D, .root (.box 32) sFi fFab (t, s, allBars t s, memTo s i, List.replicate i true), .v false (.int .i64) ((i : Nat)), D, D, D, D, D, D, D, D, D, D, D, D, D, D, D, D, D, D, D, D, D, D, D, D, D, D, D, D, D, D, D, D, D, D, D, D, D, D, D, D, D, D, D, D, D, D, D, D, D, D, D, D, D, D, D, D]) (fun i => i ≤ s.length ∧ ∀ j, j < i → s.getD j 0 ≤ 64) (fun i => s.length - i) ⟨0, ⟨by omega, fun j h => by omega⟩, ?_⟩ fun i ⟨hi, hle⟩ => ?_
 ·simp only [wn, wq, simprocAttr]
  try rfl
 repeat refine VW.seq ?_
 refine VW.regl hT fun K hK => ?_
 simp only [wq, simprocAttr]
 refine hK _ ?_
 clear hK K
 try refine vthen_n ?_
 repeat refine VW.seq ?_
 refine VW.cond rfl (fun hc => ?_) (fun hc => ?_)
 ·have hlt : i < s.length := by
   have : (i : Int) < (t.length : Int) := of_decide_eq_true hc
   omega
  have hml := memTo_len (s := s) (i := i) (by omega)
  have h6 := hpos i hlt
  have hiS : decide (0 ≤ (i : Int) ∧ (i : Int) < (s.length : Int)) = true := decide_eq_true ⟨Int.natCast_nonneg _, by omega⟩
  refine VW.skip (vthen_n ?_)
  repeat refine VW.seq ?_
  refine VW.block ?_
  repeat refine VW.seq ?_
  refine VW.regl hT fun K hK => ?_
  simp only [wq, simprocAttr]
  refine ⟨hiS, ?_⟩
  refine hK _ ?_
  clear hK K
  try refine vthen_n ?_
  repeat refine VW.seq ?_
  refine VW.cond rfl (fun hc => ?_) (fun hc => ?_)
  ·have hc : s.getD i 0 > 64 := of_decide_eq_true hc
   have hno : newOk t s = false := by
    rw [newOk, hf, Bool.true_and, Bool.not_eq_false', List.any_eq_true]
    exact ⟨_, getD_mem hlt, decide_eq_true hc⟩
   repeat refine VW.seq ?_
   refine VW.regl hT fun K hK => ?_
   simp only [wq, simprocAttr]
   refine hK _ ?_
   clear hK K
   try refine vthen_n ?_
   refine VW.ret ⟨.inl rfl, _, rfl, ?_⟩
   rw [if_neg (by rw [hno]; decide)]
  have h7 : ¬ s.getD i 0 > 64 := of_decide_eq_false hc
  refine VW.skip (vthen_n ?_)
  refine VW.weak (weak_norm [(0, none), (1, none), (4, none), (10, none), (11, none)] _) ?_
  simp only [wn, wq, simprocAttr]
  repeat refine VW.seq ?_
  have hrep : true :: List.replicate i true = List.replicate i true ++ [true] := by rw [← List.replicate_succ, List.replicate_succ']
  have sc3 : (decide (0 ≤ s.getD i 0) && limOk (Int.toNat (s.getD i 0)) 8) = true := by
   generalize s.getD i 0 = N at *
   simp [limOk]; omega
  refine VW.any hT hm fun K hK W hW => ?_
  apply cutl
  intro tK
  apply cutl
  intro t2047
  apply cutl
  intro t1023
  apply cutl
  intro t255
  apply cutl
  intro t253
  apply cutl
  intro t127
  apply cutl
  intro t125
  apply cutl
  intro t63
  apply cutl
  intro t61
  apply cutl
  intro t31
  apply cutl
  intro t29
  apply cutl
  intro t15
  ·refine hW.takeF 0 0 1 _ (by kernel_rfl) ?_
   simp only [wy, wq, simprocAttr]
   refine hW.take 1 2 5 _ (by kernel_rfl) ?_
   simp only [wy, wq, simprocAttr]
   refine hW.take 5 3 13 _ (by kernel_rfl) ?_
   simp only [wy, wq, simprocAttr]
   refine hW.all 13 [(1, 15), (4, 29)] _ (by kernel_rfl) (by simp) ?_
   simp only [wy, wq, simprocAttr]
   refine ⟨?_, ?_⟩
   ·exact t15.h
   ·refine ⟨hiS, ?_⟩
    exact t29.h
  ·skip
   refine hW.all 15 [(4, 31)] _ (by kernel_rfl) (by simp) ?_
   simp only [wy, wq, simprocAttr]
   skip
   refine ⟨hiS, ?_⟩
   exact t31.h
  ·skip
   refine hW.all 29 [(1, 31), (5, 61)] _ (by kernel_rfl) (by simp) ?_
   simp only [wy, wq, simprocAttr]
   refine ⟨?_, ?_⟩
   ·exact t31.h
   ·exact t61.h
  ·skip
   refine hW.all 31 [(5, 63)] _ (by kernel_rfl) (by simp) ?_
   simp only [wy, wq, simprocAttr]
   skip
   exact t63.h
  ·skip
   refine hW.all 61 [(1, 63), (6, 125)] _ (by kernel_rfl) (by simp) ?_
   simp only [wy, wq, simprocAttr]
   refine ⟨?_, ?_⟩
   ·exact t63.h
   ·refine ⟨sc3, ?_⟩
    exact t125.h
  ·skip
   refine hW.all 63 [(6, 127)] _ (by kernel_rfl) (by simp) ?_
   simp only [wy, wq, simprocAttr]
   skip
   refine ⟨sc3, ?_⟩
   exact t127.h
  ·skip
   refine hW.all 125 [(1, 127), (7, 253)] _ (by kernel_rfl) (by simp) ?_
   simp only [wy, wq, simprocAttr]
   refine ⟨?_, ?_⟩
   ·exact t127.h
   ·exact t253.h
  ·skip
   refine hW.all 127 [(7, 255)] _ (by kernel_rfl) (by simp) ?_
   simp only [wy, wq, simprocAttr]
   skip
   exact t255.h
  ·skip
   refine hW.all 253 [(1, 255)] _ (by kernel_rfl) (by simp) ?_
   simp only [wy, wq, simprocAttr]
   skip
   exact t255.h
  ·skip
   refine hW.all 255 [(8, 511)] _ (by kernel_rfl) (by simp) ?_
   simp only [wy, wq, simprocAttr]
   skip
   refine ⟨by simp [limOk, hml]; omega, ?_⟩
   refine hW.takeF 511 9 1023 _ (by kernel_rfl) ?_
   simp only [wy, wq, simprocAttr]
   exact t1023.h
  ·skip
   refine hW.all 1023 [(10, 2047)] _ (by kernel_rfl) (by simp) ?_
   simp only [wy, wq, simprocAttr]
   skip
   exact t2047.h
  ·skip
   refine hW.done 2047 _ (by kernel_rfl) ?_
   exact tK.h
  ·refine hK _ ?_
   show vthen _ _ _ .normal _
   refine vthen_n ?_
   repeat refine VW.seq ?_
   refine VW.regl hT fun K hK => ?_
   simp only [wq, simprocAttr]
   refine ⟨by simp [limOk]; omega, ?_⟩
   refine hK _ ?_
   clear hK K
   try refine vthen_n ?_
   show vthen _ _ _ .normal _
   refine vthen_n ?_
   repeat refine VW.seq ?_
   refine VW.regl hT fun K hK => ?_
   simp only [wq, simprocAttr]
   refine hK _ ?_
   clear hK K
   try refine vthen_n ?_
   refine ⟨i + 1, ⟨hlt, fun j h => ?_⟩, ?_, by show s.length - (i + 1) < s.length - i; omega⟩
   ·rcases Nat.lt_or_ge j i with h1 | h1
    ·exact hle j h1
    ·obtain rfl : j = i := by omega
     omega
   simp only [wn, wq, simprocAttr]
   rw [wrap64 (by omega) (by omega), memTo_succ hlt, hrep]
   rfl
 ·have hge : i = s.length := by
   have : ¬ (i : Int) < (t.length : Int) := of_decide_eq_false hc
   omega
  subst hge
  refine VW.exit ?_
  show vthen _ _ _ .normal _
  refine vthen_n ?_
  repeat refine VW.seq ?_
  refine VW.regl hT fun K hK => ?_
  simp only [wq, simprocAttr]
  refine hK _ ?_
  clear hK K
  try refine vthen_n ?_
  refine VW.ret ⟨.inl rfl, _, rfl, ?_⟩
  have hn : newOk t s = true := by
   rw [newOk, hf, Bool.true_and, Bool.not_eq_true', List.any_eq_false]
   intro x hx
   obtain ⟨j, h1, h2⟩ := List.getElem_of_mem hx
   have := hle j h1
   rw [List.getD_eq_getElem?_getD, List.getElem?_eq_getElem h1] at this
   have : s[j] ≤ 64 := this
   rw [h2] at this
   simpa using this
  rw [if_pos hn]
  rfl
end Go.Proofs.YtmechjnfeidnkaaGreat.V.W
end
section
namespace Go.Proofs.YtmechjnfeidnkaaGreat.V.W
open Go Go.RowKit
def words (xs : List Int) : Bool := !xs.any fun x => !inB x 0 65535
theorem isWord_vc (x : Int) : VC Tryz.prog 117 [.v false (.int .i64) (x)] (· = .v false .bool (inB x 0 65535)) := by
 refine VC.of_body hT Tryz.func117 rfl (by kernel_rfl) [(.tmp 2, false, .bool)] (by kernel_rfl) ?_
 show VW _ _ ([.v false (.int .i64) (x), D, D, D, D]) _
 repeat refine VW.seq ?_
 refine VW.regl hT fun K hK => ?_
 simp only [wq, simprocAttr]
 refine hK _ ?_
 clear hK K
 try refine vthen_n ?_
 repeat refine VW.seq ?_
 refine VW.regl hT fun K hK => ?_
 simp only [wq, simprocAttr]
 refine vcall_of (within_vc x 0 65535) ?_
 simp only [wq, simprocAttr]
 refine hK _ ?_
 clear hK K
 try refine vthen_n ?_
 exact VW.ret ⟨.inl rfl, _, rfl, rfl⟩
theorem areWords1_vc (x : Int) : VC Tryz.prog 116 [.v false (.int .i64) (x)] (· = .v false .bool (!inB x 0 65535)) := by
 refine VC.of_body hT Tryz.func116 rfl (by kernel_rfl) [(.tmp 2, false, .bool)] (by kernel_rfl) ?_
 show VW _ _ ([.v false (.int .i64) (x), D, D, D, D, D]) _
 repeat refine VW.seq ?_
 refine VW.regl hT fun K hK => ?_
 simp only [wq, simprocAttr]
 refine hK _ ?_
 clear hK K
 try refine vthen_n ?_
 repeat refine VW.seq ?_
 refine VW.regl hT fun K hK => ?_
 simp only [wq, simprocAttr]
 refine vcall_of (isWord_vc x) ?_
 simp only [wq, simprocAttr]
 refine hK _ ?_
 clear hK K
 try refine vthen_n ?_
 exact VW.ret ⟨.inl rfl, _, rfl, rfl⟩
theorem areWords_vc (xs : List Int) (hl : xs.length ≤ 2000000) : VC Tryz.prog 56 [.v false sI xs] (· = .v false .bool (words xs)) := by
 refine VC.of_body hT Tryz.func56 rfl (by kernel_rfl) [(.tmp 2, false, .bool)] (by kernel_rfl) ?_
 show VW _ _ ([.v false sI xs, D, D, D, D, D]) _
 repeat refine VW.seq ?_
 refine VW.regl hT fun K hK => ?_
 simp only [wq, simprocAttr]
 refine hK _ ?_
 clear hK K
 try refine vthen_n ?_
 repeat refine VW.seq ?_
 refine VW.regl hT fun K hK => ?_
 simp only [wq, simprocAttr]
 refine vcall_of (containsI_vc xs 116 [] (fun x => !inB x 0 65535) rfl areWords1_vc hl) ?_
 simp only [wq, simprocAttr]
 refine hK _ ?_
 clear hK K
 try refine vthen_n ?_
 exact VW.ret ⟨.inl rfl, _, rfl, rfl⟩
set_option maxRecDepth 20000 in
theorem specWords_vc (xs : List Int) (hl : xs.length ≤ 2000000) : VC Tryz.prog 92 [.v false sI xs] (· = .v false .bool (words xs)) := by
 refine VC.of_body hT Tryz.func92 rfl (by kernel_rfl) [(.tmp 2, false, .bool)] (by kernel_rfl) ?_
 show VW _ _ ([.v false sI xs, D, D, D, D, D, D, D, D, D, D, D, D, D, D, D]) _
 repeat refine VW.seq ?_
 refine VW.regl hT fun K hK => ?_
 simp only [wq, simprocAttr]
 refine hK _ ?_
 clear hK K
 try refine vthen_n ?_
 repeat refine VW.seq ?_
 refine VW.regl hT fun K hK => ?_
 simp only [wq, simprocAttr]
 refine hK _ ?_
 clear hK K
 try refine vthen_n ?_
 repeat refine VW.seq ?_
 refine VW.block ?_
 refine VW.loop (α := Nat) [(0, none), (3, none)] (fun i => [.v false sI xs, D, D, .v false (.int .i64) ((i : Nat)), D, D, D, D, D, D, D, D, D, D, D, D]) (fun i => i ≤ xs.length ∧ ∀ j, j < i → inB (xs.getD j 0) 0 65535 = true) (fun i => xs.length - i) ⟨0, ⟨by omega, fun j h => by omega⟩, ?_⟩ fun i ⟨hi, hj⟩ => ?_
 ·simp only [wn, wq, simprocAttr]
  try rfl
 repeat refine VW.seq ?_
 refine VW.regl hT fun K hK => ?_
 simp only [wq, simprocAttr]
 refine hK _ ?_
 clear hK K
 try refine vthen_n ?_
 repeat refine VW.seq ?_
 refine VW.cond rfl (fun hc => ?_) (fun hc => ?_)
 ·have hlt : i < xs.length := by simpa using hc
  refine VW.skip (vthen_n ?_)
  repeat refine VW.seq ?_
  refine VW.block ?_
  repeat refine VW.seq ?_
  refine VW.regl hT fun K hK => ?_
  simp only [wq, simprocAttr]
  refine ⟨decide_eq_true ⟨Int.natCast_nonneg _, by show (i : Int) < (xs.length : Int); omega⟩, ?_⟩
  refine vcall_of (in_vc _ 0 65535) ?_
  simp only [wq, simprocAttr]
  refine hK _ ?_
  clear hK K
  try refine vthen_n ?_
  repeat refine VW.seq ?_
  refine VW.cond rfl (fun hc => ?_) (fun hc => ?_)
  ·repeat refine VW.seq ?_
   refine VW.regl hT fun K hK => ?_
   simp only [wq, simprocAttr]
   refine hK _ ?_
   clear hK K
   try refine vthen_n ?_
   refine VW.ret ⟨.inl rfl, _, rfl, ?_⟩
   have : words xs = false := by
    rw [words, Bool.not_eq_false', List.any_eq_true]
    exact ⟨_, getD_mem hlt, hc⟩
   rw [this]
  ·refine VW.skip ?_
   show vthen _ _ _ .normal _
   refine vthen_n ?_
   repeat refine VW.seq ?_
   refine VW.regl hT fun K hK => ?_
   simp only [wq, simprocAttr]
   refine hK _ ?_
   clear hK K
   try refine vthen_n ?_
   refine ⟨i + 1, ⟨hlt, fun j h => ?_⟩, ?_, by show xs.length - (i + 1) < xs.length - i; omega⟩
   ·rcases Nat.lt_or_ge j i with h1 | h1
    ·exact hj j h1
    ·obtain rfl : j = i := by omega
     have := hc
     rwa [Bool.not_eq_false'] at this
   simp only [wn, wq, simprocAttr]
   rw [wrap64 (by omega) (by omega)]
   rfl
 ·have hge : i = xs.length := by
   have : xs.length ≤ i := by simpa using hc
   omega
  subst hge
  refine VW.exit ?_
  show vthen _ _ _ .normal _
  refine vthen_n ?_
  repeat refine VW.seq ?_
  refine VW.regl hT fun K hK => ?_
  simp only [wq, simprocAttr]
  refine hK _ ?_
  clear hK K
  try refine vthen_n ?_
  refine VW.ret ⟨.inl rfl, _, rfl, ?_⟩
  have : words xs = true := by
   rw [words, Bool.not_eq_true', List.any_eq_false]
   intro x hx
   obtain ⟨j, h1, h2⟩ := List.getElem_of_mem hx
   have := hj j h1
   rw [List.getD_eq_getElem?_getD, List.getElem?_eq_getElem h1] at this
   have : inB xs[j] 0 65535 = true := this
   rw [h2] at this
   rw [this]
   decide
  rw [this]
def guardOk (t : List Nd) (g : List Bool) : Bool := treeOk t && ((g.length == t.length) && g.getD 0 false)
theorem guardOk_vc (t : List Nd) (g : List Bool) (hl : t.length ≤ 2000000) : VC Tryz.prog 60 [.v false sNS t, .v true sG g] (· = .v false .bool (guardOk t g)) := by
 refine VC.of_body hT Tryz.func60 rfl (by kernel_rfl) [(.tmp 4, false, .bool)] (by kernel_rfl) ?_
 show VW _ _ ([.v false sNS t, .v true sG g, D, D, D, D, D, D, D, D, D, D, D, D, D, D, D, D, D, D, D]) _
 repeat refine VW.seq ?_
 refine VW.regl hT fun K hK => ?_
 simp only [wq, Nat.reduceMul, reduceCtorEq, Nat.reduceBEq, Nat.reduceAdd, Nat.reduceLT, Nat.reduceLeDiff, Nat.reduceSub, Nat.reduceEqDiff]
 refine hK _ ?_
 clear hK K
 try refine vthen_n ?_
 repeat refine VW.seq ?_
 refine VW.regl hT fun K hK => ?_
 simp only [wq, Nat.reduceMul, reduceCtorEq, Nat.reduceBEq, Nat.reduceAdd, Nat.reduceLT, Nat.reduceLeDiff, Nat.reduceSub, Nat.reduceEqDiff]
 refine vcall_of (treeOk_vc t hl) ?_
 simp only [wq, Nat.reduceMul, reduceCtorEq, Nat.reduceBEq, Nat.reduceAdd, Nat.reduceLT, Nat.reduceLeDiff, Nat.reduceSub, Nat.reduceEqDiff]
 refine vbr (fun h => ?_) (fun h => ?_) <;> simp only [wq, Nat.reduceMul, reduceCtorEq, Nat.reduceBEq, Nat.reduceAdd, Nat.reduceLT, Nat.reduceLeDiff, Nat.reduceSub, Nat.reduceEqDiff]
 case refine_2 =>
  refine hK _ ?_
  clear hK K
  try refine vthen_n ?_
  refine VW.ret ⟨.inl rfl, _, rfl, ?_⟩
  have h : treeOk t = false := h
  rw [guardOk, h]
  try rfl
 have h : treeOk t = true := h
 have htl := treeOk_len h
 refine vbr (fun h2 => ?_) (fun h2 => ?_) <;> simp only [wq, Nat.reduceMul, reduceCtorEq, Nat.reduceBEq, Nat.reduceAdd, Nat.reduceLT, Nat.reduceLeDiff, Nat.reduceSub, Nat.reduceEqDiff]
 case refine_2 =>
  refine hK _ ?_
  clear hK K
  try refine vthen_n ?_
  refine VW.ret ⟨.inl rfl, _, rfl, ?_⟩
  have h2 : ((g.length : Int) == (t.length : Int)) = false := h2
  rw [guardOk, h, ← lenEq, h2]
  try rfl
 have h2 : ((g.length : Int) == (t.length : Int)) = true := h2
 have h3 : (g.length : Int) = (t.length : Int) := by simpa using h2
 refine ⟨decide_eq_true ⟨by decide, by show (0 : Int) < (g.length : Int); omega⟩, ?_⟩
 refine hK _ ?_
 clear hK K
 try refine vthen_n ?_
 refine VW.ret ⟨.inl rfl, _, rfl, ?_⟩
 rw [guardOk, h, ← lenEq, h2]
 try rfl
theorem specGuard_vc (t : List Nd) (g : List Bool) (hl : t.length ≤ 2000000) : VC Tryz.prog 130 [.v false sNS t, .v true sG g] (· = .v false .bool (guardOk t g)) := by
 refine VC.of_body hT Tryz.func130 rfl (by kernel_rfl) [(.tmp 4, false, .bool)] (by kernel_rfl) ?_
 show VW _ _ ([.v false sNS t, .v true sG g, D, D, D, D, D, D, D, D, D, D, D, D, D, D, D, D, D, D, D]) _
 repeat refine VW.seq ?_
 refine VW.regl hT fun K hK => ?_
 simp only [wq, Nat.reduceMul, reduceCtorEq, Nat.reduceBEq, Nat.reduceAdd, Nat.reduceLT, Nat.reduceLeDiff, Nat.reduceSub, Nat.reduceEqDiff]
 refine hK _ ?_
 clear hK K
 try refine vthen_n ?_
 repeat refine VW.seq ?_
 refine VW.regl hT fun K hK => ?_
 simp only [wq, Nat.reduceMul, reduceCtorEq, Nat.reduceBEq, Nat.reduceAdd, Nat.reduceLT, Nat.reduceLeDiff, Nat.reduceSub, Nat.reduceEqDiff]
 refine vcall_of (specTreeOk_vc t hl) ?_
 simp only [wq, Nat.reduceMul, reduceCtorEq, Nat.reduceBEq, Nat.reduceAdd, Nat.reduceLT, Nat.reduceLeDiff, Nat.reduceSub, Nat.reduceEqDiff]
 refine vbr (fun h => ?_) (fun h => ?_) <;> simp only [wq, Nat.reduceMul, reduceCtorEq, Nat.reduceBEq, Nat.reduceAdd, Nat.reduceLT, Nat.reduceLeDiff, Nat.reduceSub, Nat.reduceEqDiff]
 case refine_2 =>
  refine hK _ ?_
  clear hK K
  try refine vthen_n ?_
  refine VW.ret ⟨.inl rfl, _, rfl, ?_⟩
  have h : treeOk t = false := h
  rw [guardOk, h]
  try rfl
 have h : treeOk t = true := h
 have htl := treeOk_len h
 refine vbr (fun h2 => ?_) (fun h2 => ?_) <;> simp only [wq, Nat.reduceMul, reduceCtorEq, Nat.reduceBEq, Nat.reduceAdd, Nat.reduceLT, Nat.reduceLeDiff, Nat.reduceSub, Nat.reduceEqDiff]
 case refine_2 =>
  refine hK _ ?_
  clear hK K
  try refine vthen_n ?_
  refine VW.ret ⟨.inl rfl, _, rfl, ?_⟩
  have h2 : ((g.length : Int) == (t.length : Int)) = false := h2
  rw [guardOk, h, ← lenEq, h2]
  try rfl
 have h2 : ((g.length : Int) == (t.length : Int)) = true := h2
 have h3 : (g.length : Int) = (t.length : Int) := by simpa using h2
 refine ⟨decide_eq_true ⟨by decide, by show (0 : Int) < (g.length : Int); omega⟩, ?_⟩
 refine hK _ ?_
 clear hK K
 try refine vthen_n ?_
 refine VW.ret ⟨.inl rfl, _, rfl, ?_⟩
 rw [guardOk, h, ← lenEq, h2]
 try rfl
end Go.Proofs.YtmechjnfeidnkaaGreat.V.W
end
section
namespace Go.Proofs.YtmechjnfeidnkaaGreat.V.W
open Go Go.RowKit
set_option maxRecDepth 20000 in
theorem toBoolS_vc (xs : List (Bool)) (hl : xs.length * 1 ≤ 140737488351232) : VC Tryz.prog 136 [.v false (.sl 4 .bool) xs] (· = .root (.val false) (.sl 4 .bool) .own xs) := by
 refine VC.of_body hT Tryz.func136 rfl (by kernel_rfl) [(.tmp 2, false, .sl 4 .bool)] (by kernel_rfl) ?_
 show VW _ _ ([.v false (.sl 4 .bool) xs, D, D, D, D, D, D, D, D, D, D, D, D, D, D, D, D, D, D, D, D, D]) _
 repeat refine VW.seq ?_
 refine VW.regl hT fun K hK => ?_
 simp only [wq, Nat.reduceMul, reduceCtorEq, Nat.reduceBEq, Nat.reduceAdd, Nat.reduceLT, Nat.reduceLeDiff, Nat.reduceSub, Nat.reduceEqDiff]
 refine hK _ ?_
 clear hK K
 try refine vthen_n ?_
 repeat refine VW.seq ?_
 refine VW.regl hT fun K hK => ?_
 simp only [wq, Nat.reduceMul, reduceCtorEq, Nat.reduceBEq, Nat.reduceAdd, Nat.reduceLT, Nat.reduceLeDiff, Nat.reduceSub, Nat.reduceEqDiff]
 refine ⟨by simp [limOk]; omega, ?_⟩
 refine hK _ ?_
 clear hK K
 try refine vthen_n ?_
 repeat refine VW.seq ?_
 refine VW.regl hT fun K hK => ?_
 simp only [wq, Nat.reduceMul, reduceCtorEq, Nat.reduceBEq, Nat.reduceAdd, Nat.reduceLT, Nat.reduceLeDiff, Nat.reduceSub, Nat.reduceEqDiff]
 refine hK _ ?_
 clear hK K
 try refine vthen_n ?_
 repeat refine VW.seq ?_
 refine VW.block ?_
 refine VW.loop (α := Nat) [(0, none), (3, none), (4, none)] (fun i => [.v false (.sl 4 .bool) xs, D, D, .root (.val false) (.sl 4 .bool) .own (fillTo xs false i), .v false (.int .i64) (i : Int), D, D, D, D, D, D, D, D, D, D, D, D, D, D, D, D, D]) (fun i => i ≤ xs.length) (fun i => xs.length - i) ⟨0, by omega, ?_⟩ fun i hi => ?_
 ·simp only [wn, wq, Nat.reduceMul, reduceCtorEq, Nat.reduceBEq, Nat.reduceAdd, Nat.reduceLT, Nat.reduceLeDiff, Nat.reduceSub, Nat.reduceEqDiff]
  rw [fillTo_zero]; rfl
 repeat refine VW.seq ?_
 refine VW.regl hT fun K hK => ?_
 simp only [wq, Nat.reduceMul, reduceCtorEq, Nat.reduceBEq, Nat.reduceAdd, Nat.reduceLT, Nat.reduceLeDiff, Nat.reduceSub, Nat.reduceEqDiff]
 refine hK _ ?_
 clear hK K
 try refine vthen_n ?_
 repeat refine VW.seq ?_
 refine VW.cond rfl (fun hc => ?_) (fun hc => ?_)
 ·have hlt : i < xs.length := by simpa using hc
  refine VW.skip (vthen_n ?_)
  repeat refine VW.seq ?_
  refine VW.block ?_
  repeat refine VW.seq ?_
  refine VW.regl hT fun K hK => ?_
  simp only [wq, Nat.reduceMul, reduceCtorEq, Nat.reduceBEq, Nat.reduceAdd, Nat.reduceLT, Nat.reduceLeDiff, Nat.reduceSub, Nat.reduceEqDiff]
  refine ⟨by simp; omega, by simp [fillTo_len hi]; omega, ?_⟩
  refine hK _ ?_
  clear hK K
  try refine vthen_n ?_
  repeat refine VW.seq ?_
  refine VW.regl hT fun K hK => ?_
  simp only [wq, Nat.reduceMul, reduceCtorEq, Nat.reduceBEq, Nat.reduceAdd, Nat.reduceLT, Nat.reduceLeDiff, Nat.reduceSub, Nat.reduceEqDiff]
  refine hK _ ?_
  clear hK K
  try refine vthen_n ?_
  refine ⟨i + 1, hlt, ?_, by show xs.length - (i + 1) < xs.length - i; omega⟩
  simp only [wn, wq, Nat.reduceMul, reduceCtorEq, Nat.reduceBEq, Nat.reduceAdd, Nat.reduceLT, Nat.reduceLeDiff, Nat.reduceSub, Nat.reduceEqDiff]
  rw [fillTo_set hlt, wrap64 (by omega) (by omega)]
  try rfl
 ·have hc : xs.length ≤ i := by simpa using hc
  refine VW.exit ?_
  show vthen _ _ _ .normal _
  refine vthen_n ?_
  repeat refine VW.seq ?_
  refine VW.regl hT fun K hK => ?_
  simp only [wq, Nat.reduceMul, reduceCtorEq, Nat.reduceBEq, Nat.reduceAdd, Nat.reduceLT, Nat.reduceLeDiff, Nat.reduceSub, Nat.reduceEqDiff]
  refine hK _ ?_
  clear hK K
  try refine vthen_n ?_
  refine VW.ret ⟨.inl rfl, _, rfl, ?_⟩
  rw [fillTo_all xs _ hc]
set_option maxRecDepth 20000 in
theorem libBarEq_vc (xs ys : List (Int × Int)) (hl : xs.length * 16 ≤ 140737488351232) : VC Tryz.prog 59 [.v false (.sl 51 sBr) xs, .v false (.sl 51 sBr) ys] (· = .v false .bool (decide (xs = ys))) := by
 refine VC.of_body hT Tryz.func59 rfl (by kernel_rfl) [(.tmp 4, false, .bool)] (by kernel_rfl) ?_
 show VW _ _ ([.v false (.sl 51 sBr) xs, .v false (.sl 51 sBr) ys, D, D, D, D, D, D, D, D, D, D, D, D, D, D, D, D, D, D, D, D, D, D, D, D]) _
 repeat refine VW.seq ?_
 refine VW.regl hT fun K hK => ?_
 simp only [wq, simprocAttr]
 refine hK _ ?_
 clear hK K
 try refine vthen_n ?_
 repeat refine VW.seq ?_
 refine VW.regl hT fun K hK => ?_
 simp only [wq, simprocAttr]
 refine hK _ ?_
 clear hK K
 try refine vthen_n ?_
 repeat refine VW.seq ?_
 refine VW.cond rfl (fun hc => ?_) (fun hc => ?_)
 ·repeat refine VW.seq ?_
  refine VW.regl hT fun K hK => ?_
  simp only [wq, simprocAttr]
  refine hK _ ?_
  clear hK K
  try refine vthen_n ?_
  refine VW.ret ⟨.inl rfl, _, rfl, ?_⟩
  have : xs ≠ ys := fun e => by subst e; simp at hc
  simp [this]
 have hlen : xs.length = ys.length := by simp at hc; omega
 refine VW.skip (vthen_n ?_)
 repeat refine VW.seq ?_
 refine VW.regl hT fun K hK => ?_
 simp only [wq, simprocAttr]
 refine hK _ ?_
 clear hK K
 try refine vthen_n ?_
 repeat refine VW.seq ?_
 refine VW.block ?_
 refine VW.loop (α := Nat) [(0, none), (1, none), (12, none), (13, none)] (fun i => [.v false (.sl 51 sBr) xs, .v false (.sl 51 sBr) ys, D, D, D, D, D, D, D, D, D, D, .v false (.int .i64) (xs.length : Int), .v false (.int .i64) (i : Int), D, D, D, D, D, D, D, D, D, D, D, D]) (fun i => i ≤ xs.length ∧ ∀ k, k < i → xs.getD k (0, 0) = ys.getD k (0, 0)) (fun i => xs.length - i) ⟨0, ⟨by omega, fun k hk => by omega⟩, ?_⟩ fun i ⟨hi, hk⟩ => ?_
 ·simp only [wn, wq, simprocAttr]
  try rfl
 repeat refine VW.seq ?_
 refine VW.regl hT fun K hK => ?_
 simp only [wq, simprocAttr]
 refine hK _ ?_
 clear hK K
 try refine vthen_n ?_
 repeat refine VW.seq ?_
 refine VW.cond rfl (fun hc => ?_) (fun hc => ?_)
 ·have hlt : i < xs.length := by simpa using hc
  refine VW.skip (vthen_n ?_)
  repeat refine VW.seq ?_
  refine VW.block ?_
  repeat refine VW.seq ?_
  refine VW.regl hT fun K hK => ?_
  simp only [wq, simprocAttr]
  refine hK _ ?_
  clear hK K
  try refine vthen_n ?_
  repeat refine VW.seq ?_
  refine VW.drawl hT hm (by kernel_rfl) fun K hK => ?_
  simp only [wq, simprocAttr]
  refine ⟨by simp; omega, by simp; omega, ?_⟩
  refine hK _ ?_
  clear hK K
  try refine vthen_n ?_
  repeat refine VW.seq ?_
  refine VW.cond rfl (fun hc => ?_) (fun hc => ?_)
  ·repeat refine VW.seq ?_
   refine VW.regl hT fun K hK => ?_
   simp only [wq, simprocAttr]
   refine hK _ ?_
   clear hK K
   try refine vthen_n ?_
   refine VW.ret ⟨.inl rfl, _, rfl, ?_⟩
   have : xs ≠ ys := fun e => by subst e; simp [eqv] at hc
   simp [this]
  ·have hxy : xs.getD i (0, 0) = ys.getD i (0, 0) := by
    have hc2 := hc
    rw [Bool.not_eq_false'] at hc2
    exact (eqv_eq rfl).1 hc2
   refine VW.skip ?_
   show vthen _ _ _ .normal _
   refine vthen_n ?_
   repeat refine VW.seq ?_
   refine VW.regl hT fun K hK => ?_
   simp only [wq, simprocAttr]
   refine hK _ ?_
   clear hK K
   try refine vthen_n ?_
   refine ⟨i + 1, ⟨hlt, fun k h => ?_⟩, ?_, by show xs.length - (i + 1) < xs.length - i; omega⟩
   ·rcases Nat.lt_or_ge k i with h1 | h1
    ·exact hk k h1
    ·obtain rfl : k = i := by omega
     exact hxy
   ·simp only [wn, wq, simprocAttr]
    rw [wrap64 (by omega) (by omega)]
    rfl
 ·have hc : xs.length ≤ i := by simpa using hc
  refine VW.exit ?_
  show vthen _ _ _ .normal _
  refine vthen_n ?_
  repeat refine VW.seq ?_
  refine VW.regl hT fun K hK => ?_
  simp only [wq, simprocAttr]
  refine hK _ ?_
  clear hK K
  try refine vthen_n ?_
  refine VW.ret ⟨.inl rfl, _, rfl, ?_⟩
  rw [row_eq (0, 0) hlen fun k h => hk k (by omega)]
  simp
theorem szIntS_vc (xs : List (Int)) (n : Int) (hl : xs.length * 1 ≤ 140737488351232) (h0 : 0 ≤ n) (h1 : n ≤ 1048576) : VC Tryz.prog 70 [.v false (.sl 3 (.int .i64)) xs, .v false (.int .i64) n] (Left n · xs.length) := by
 refine VC.of_body hT Tryz.func70 rfl (by kernel_rfl) [(.tmp 4, false, .int .i64)] (by kernel_rfl) ?_
 show VW _ _ ([.v false (.sl 3 (.int .i64)) xs, .v false (.int .i64) n, D, D, D, D, D, D, D, D, D, D]) _
 repeat refine VW.seq ?_
 refine VW.regl hT fun K hK => ?_
 simp only [wq, simprocAttr]
 refine hK _ ?_
 clear hK K
 try refine vthen_n ?_
 repeat refine VW.seq ?_
 refine VW.regl hT fun K hK => ?_
 simp only [wq, simprocAttr]
 refine hK _ ?_
 clear hK K
 try refine vthen_n ?_
 rw [wrap64 (by omega) (by omega)]
 repeat refine VW.seq ?_
 refine VW.regl hT fun K hK => ?_
 simp only [wq, simprocAttr]
 refine hK _ ?_
 clear hK K
 try refine vthen_n ?_
 repeat refine VW.seq ?_
 refine VW.cond rfl (fun hc => ?_) (fun hc => ?_)
 ·repeat refine VW.seq ?_
  refine VW.regl hT fun K hK => ?_
  simp only [wq, simprocAttr]
  refine hK _ ?_
  clear hK K
  try refine vthen_n ?_
  exact VW.ret ⟨.inl rfl, _, rfl, (-1 : Int), rfl, by omega, fun h => by omega⟩
 ·refine VW.skip (vthen_n ?_)
  repeat refine VW.seq ?_
  refine VW.regl hT fun K hK => ?_
  simp only [wq, simprocAttr]
  refine hK _ ?_
  clear hK K
  try refine vthen_n ?_
  have hc : ¬ ((n : Int) - xs.length < 0) := of_decide_eq_false hc
  exact VW.ret ⟨.inl rfl, _, rfl, (n - xs.length : Int), rfl, by omega, fun h => by omega⟩
theorem szBarS_vc (xs : List (Int × Int)) (n : Int) (hl : xs.length * 1 ≤ 140737488351232) (h0 : 0 ≤ n) (h1 : n ≤ 1048576) : VC Tryz.prog 71 [.v false (.sl 156 sBr) xs, .v false (.int .i64) n] (Left n · xs.length) := by
 refine VC.of_body hT Tryz.func71 rfl (by kernel_rfl) [(.tmp 4, false, .int .i64)] (by kernel_rfl) ?_
 show VW _ _ ([.v false (.sl 156 sBr) xs, .v false (.int .i64) n, D, D, D, D, D, D, D, D, D, D]) _
 repeat refine VW.seq ?_
 refine VW.regl hT fun K hK => ?_
 simp only [wq, simprocAttr]
 refine hK _ ?_
 clear hK K
 try refine vthen_n ?_
 repeat refine VW.seq ?_
 refine VW.regl hT fun K hK => ?_
 simp only [wq, simprocAttr]
 refine hK _ ?_
 clear hK K
 try refine vthen_n ?_
 rw [wrap64 (by omega) (by omega)]
 repeat refine VW.seq ?_
 refine VW.regl hT fun K hK => ?_
 simp only [wq, simprocAttr]
 refine hK _ ?_
 clear hK K
 try refine vthen_n ?_
 repeat refine VW.seq ?_
 refine VW.cond rfl (fun hc => ?_) (fun hc => ?_)
 ·repeat refine VW.seq ?_
  refine VW.regl hT fun K hK => ?_
  simp only [wq, simprocAttr]
  refine hK _ ?_
  clear hK K
  try refine vthen_n ?_
  exact VW.ret ⟨.inl rfl, _, rfl, (-1 : Int), rfl, by omega, fun h => by omega⟩
 ·refine VW.skip (vthen_n ?_)
  repeat refine VW.seq ?_
  refine VW.regl hT fun K hK => ?_
  simp only [wq, simprocAttr]
  refine hK _ ?_
  clear hK K
  try refine vthen_n ?_
  have hc : ¬ ((n : Int) - xs.length < 0) := of_decide_eq_false hc
  exact VW.ret ⟨.inl rfl, _, rfl, (n - xs.length : Int), rfl, by omega, fun h => by omega⟩
theorem szBoolS_vc (xs : List (Bool)) (n : Int) (hl : xs.length * 1 ≤ 140737488351232) (h0 : 0 ≤ n) (h1 : n ≤ 1048576) : VC Tryz.prog 129 [.v false (.sl 4 .bool) xs, .v false (.int .i64) n] (Left n · xs.length) := by
 refine VC.of_body hT Tryz.func129 rfl (by kernel_rfl) [(.tmp 4, false, .int .i64)] (by kernel_rfl) ?_
 show VW _ _ ([.v false (.sl 4 .bool) xs, .v false (.int .i64) n, D, D, D, D, D, D, D, D, D, D]) _
 repeat refine VW.seq ?_
 refine VW.regl hT fun K hK => ?_
 simp only [wq, simprocAttr]
 refine hK _ ?_
 clear hK K
 try refine vthen_n ?_
 repeat refine VW.seq ?_
 refine VW.regl hT fun K hK => ?_
 simp only [wq, simprocAttr]
 refine hK _ ?_
 clear hK K
 try refine vthen_n ?_
 rw [wrap64 (by omega) (by omega)]
 repeat refine VW.seq ?_
 refine VW.regl hT fun K hK => ?_
 simp only [wq, simprocAttr]
 refine hK _ ?_
 clear hK K
 try refine vthen_n ?_
 repeat refine VW.seq ?_
 refine VW.cond rfl (fun hc => ?_) (fun hc => ?_)
 ·repeat refine VW.seq ?_
  refine VW.regl hT fun K hK => ?_
  simp only [wq, simprocAttr]
  refine hK _ ?_
  clear hK K
  try refine vthen_n ?_
  exact VW.ret ⟨.inl rfl, _, rfl, (-1 : Int), rfl, by omega, fun h => by omega⟩
 ·refine VW.skip (vthen_n ?_)
  repeat refine VW.seq ?_
  refine VW.regl hT fun K hK => ?_
  simp only [wq, simprocAttr]
  refine hK _ ?_
  clear hK K
  try refine vthen_n ?_
  have hc : ¬ ((n : Int) - xs.length < 0) := of_decide_eq_false hc
  exact VW.ret ⟨.inl rfl, _, rfl, (n - xs.length : Int), rfl, by omega, fun h => by omega⟩
set_option maxRecDepth 20000 in
theorem toBar_vc (x : Int × Int) : VC Tryz.prog 135 [.v true sBr x] (· = .v true sBr x) := by
 refine VC.of_body hT Tryz.func135 rfl (by kernel_rfl) [(.cell 2 51, true, sBr)] (by kernel_rfl) ?_
 show VW _ _ ([.v true sBr x, D, D, D, D, D, D, D, D, D, D]) _
 repeat refine VW.seq ?_
 refine VW.regl hT fun K hK => ?_
 simp only [wq, simprocAttr]
 refine hK _ ?_
 clear hK K
 try refine vthen_n ?_
 repeat refine VW.seq ?_
 refine VW.regl hT fun K hK => ?_
 simp only [wq, simprocAttr]
 refine hK _ ?_
 clear hK K
 try refine vthen_n ?_
 repeat refine VW.seq ?_
 refine VW.regl hT fun K hK => ?_
 simp only [wq, simprocAttr]
 refine hK _ ?_
 clear hK K
 try refine vthen_n ?_
 repeat refine VW.seq ?_
 refine VW.regl hT fun K hK => ?_
 simp only [wq, simprocAttr]
 refine hK _ ?_
 clear hK K
 try refine vthen_n ?_
 repeat refine VW.seq ?_
 refine VW.regl hT fun K hK => ?_
 simp only [wq, simprocAttr]
 refine hK _ ?_
 clear hK K
 try refine vthen_n ?_
 exact VW.ret ⟨.inl rfl, _, rfl, rfl⟩
set_option maxRecDepth 20000 in
theorem toBarS_vc (xs : List (Int × Int)) (hl : xs.length * 16 ≤ 140737488351232) : VC Tryz.prog 80 [.v false (.sl 156 sBr) xs] (· = .root (.val false) (.sl 51 sBr) .own xs) := by
 refine VC.of_body hT Tryz.func80 rfl (by kernel_rfl) [(.tmp 2, false, .sl 51 sBr)] (by kernel_rfl) ?_
 show VW _ _ ([.v false (.sl 156 sBr) xs, D, D, D, D, D, D, D, D, D, D, D, D, D, D, D, D, D, D, D, D, D, D]) _
 repeat refine VW.seq ?_
 refine VW.regl hT fun K hK => ?_
 simp only [wq, Nat.reduceMul, reduceCtorEq, Nat.reduceBEq, Nat.reduceAdd, Nat.reduceLT, Nat.reduceLeDiff, Nat.reduceSub, Nat.reduceEqDiff]
 refine hK _ ?_
 clear hK K
 try refine vthen_n ?_
 repeat refine VW.seq ?_
 refine VW.regl hT fun K hK => ?_
 simp only [wq, Nat.reduceMul, reduceCtorEq, Nat.reduceBEq, Nat.reduceAdd, Nat.reduceLT, Nat.reduceLeDiff, Nat.reduceSub, Nat.reduceEqDiff]
 refine ⟨by simp [limOk]; omega, ?_⟩
 refine hK _ ?_
 clear hK K
 try refine vthen_n ?_
 repeat refine VW.seq ?_
 refine VW.regl hT fun K hK => ?_
 simp only [wq, Nat.reduceMul, reduceCtorEq, Nat.reduceBEq, Nat.reduceAdd, Nat.reduceLT, Nat.reduceLeDiff, Nat.reduceSub, Nat.reduceEqDiff]
 refine hK _ ?_
 clear hK K
 try refine vthen_n ?_
 repeat refine VW.seq ?_
 refine VW.block ?_
 refine VW.loop (α := Nat) [(0, none), (3, none), (4, none)] (fun i => [.v false (.sl 156 sBr) xs, D, D, .root (.val false) (.sl 51 sBr) .own (fillTo xs (0, 0) i), .v false (.int .i64) (i : Int), D, D, D, D, D, D, D, D, D, D, D, D, D, D, D, D, D, D]) (fun i => i ≤ xs.length) (fun i => xs.length - i) ⟨0, by omega, ?_⟩ fun i hi => ?_
 ·simp only [wn, wq, Nat.reduceMul, reduceCtorEq, Nat.reduceBEq, Nat.reduceAdd, Nat.reduceLT, Nat.reduceLeDiff, Nat.reduceSub, Nat.reduceEqDiff]
  rw [fillTo_zero]; rfl
 repeat refine VW.seq ?_
 refine VW.regl hT fun K hK => ?_
 simp only [wq, Nat.reduceMul, reduceCtorEq, Nat.reduceBEq, Nat.reduceAdd, Nat.reduceLT, Nat.reduceLeDiff, Nat.reduceSub, Nat.reduceEqDiff]
 refine hK _ ?_
 clear hK K
 try refine vthen_n ?_
 repeat refine VW.seq ?_
 refine VW.cond rfl (fun hc => ?_) (fun hc => ?_)
 ·have hlt : i < xs.length := by simpa using hc
  refine VW.skip (vthen_n ?_)
  repeat refine VW.seq ?_
  refine VW.block ?_
  repeat refine VW.seq ?_
  refine VW.regl hT fun K hK => ?_
  simp only [wq, Nat.reduceMul, reduceCtorEq, Nat.reduceBEq, Nat.reduceAdd, Nat.reduceLT, Nat.reduceLeDiff, Nat.reduceSub, Nat.reduceEqDiff]
  refine ⟨by simp; omega, vcall_of (toBar_vc _) ?_⟩
  simp only [wq, Nat.reduceMul, reduceCtorEq, Nat.reduceBEq, Nat.reduceAdd, Nat.reduceLT, Nat.reduceLeDiff, Nat.reduceSub, Nat.reduceEqDiff]
  refine ⟨by simp [fillTo_len hi]; omega, ?_⟩
  refine hK _ ?_
  clear hK K
  try refine vthen_n ?_
  repeat refine VW.seq ?_
  refine VW.regl hT fun K hK => ?_
  simp only [wq, Nat.reduceMul, reduceCtorEq, Nat.reduceBEq, Nat.reduceAdd, Nat.reduceLT, Nat.reduceLeDiff, Nat.reduceSub, Nat.reduceEqDiff]
  refine hK _ ?_
  clear hK K
  try refine vthen_n ?_
  refine ⟨i + 1, hlt, ?_, by show xs.length - (i + 1) < xs.length - i; omega⟩
  simp only [wn, wq, Nat.reduceMul, reduceCtorEq, Nat.reduceBEq, Nat.reduceAdd, Nat.reduceLT, Nat.reduceLeDiff, Nat.reduceSub, Nat.reduceEqDiff]
  rw [fillTo_set hlt, wrap64 (by omega) (by omega)]
  try rfl
 ·have hc : xs.length ≤ i := by simpa using hc
  refine VW.exit ?_
  show vthen _ _ _ .normal _
  refine vthen_n ?_
  repeat refine VW.seq ?_
  refine VW.regl hT fun K hK => ?_
  simp only [wq, Nat.reduceMul, reduceCtorEq, Nat.reduceBEq, Nat.reduceAdd, Nat.reduceLT, Nat.reduceLeDiff, Nat.reduceSub, Nat.reduceEqDiff]
  refine hK _ ?_
  clear hK K
  try refine vthen_n ?_
  refine VW.ret ⟨.inl rfl, _, rfl, ?_⟩
  rw [fillTo_all xs _ hc]
set_option maxRecDepth 20000 in
theorem toIntSS_vc (xs : List (List Int)) (hl : xs.length * 24 ≤ 140737488351232) (hin : ∀ k, (xs.getD k []).length * 8 ≤ 140737488351232) : VC Tryz.prog 81 [.v false (.sl 25 sI) xs] (· = .root (.val false) (.sl 25 sI) .own xs) := by
 refine VC.of_body hT Tryz.func81 rfl (by kernel_rfl) [(.tmp 2, false, .sl 25 sI)] (by kernel_rfl) ?_
 show VW _ _ ([.v false (.sl 25 sI) xs, D, D, D, D, D, D, D, D, D, D, D, D, D, D, D, D, D, D, D, D, D, D]) _
 repeat refine VW.seq ?_
 refine VW.regl hT fun K hK => ?_
 simp only [wq, Nat.reduceMul, reduceCtorEq, Nat.reduceBEq, Nat.reduceAdd, Nat.reduceLT, Nat.reduceLeDiff, Nat.reduceSub, Nat.reduceEqDiff]
 refine hK _ ?_
 clear hK K
 try refine vthen_n ?_
 repeat refine VW.seq ?_
 refine VW.regl hT fun K hK => ?_
 simp only [wq, Nat.reduceMul, reduceCtorEq, Nat.reduceBEq, Nat.reduceAdd, Nat.reduceLT, Nat.reduceLeDiff, Nat.reduceSub, Nat.reduceEqDiff]
 refine ⟨by simp [limOk]; omega, ?_⟩
 refine hK _ ?_
 clear hK K
 try refine vthen_n ?_
 repeat refine VW.seq ?_
 refine VW.regl hT fun K hK => ?_
 simp only [wq, Nat.reduceMul, reduceCtorEq, Nat.reduceBEq, Nat.reduceAdd, Nat.reduceLT, Nat.reduceLeDiff, Nat.reduceSub, Nat.reduceEqDiff]
 refine hK _ ?_
 clear hK K
 try refine vthen_n ?_
 repeat refine VW.seq ?_
 refine VW.block ?_
 refine VW.loop (α := Nat) [(0, none), (3, none), (4, none)] (fun i => [.v false (.sl 25 sI) xs, D, D, .root (.val false) (.sl 25 sI) .own (fillTo xs [] i), .v false (.int .i64) (i : Int), D, D, D, D, D, D, D, D, D, D, D, D, D, D, D, D, D, D]) (fun i => i ≤ xs.length) (fun i => xs.length - i) ⟨0, by omega, ?_⟩ fun i hi => ?_
 ·simp only [wn, wq, Nat.reduceMul, reduceCtorEq, Nat.reduceBEq, Nat.reduceAdd, Nat.reduceLT, Nat.reduceLeDiff, Nat.reduceSub, Nat.reduceEqDiff]
  rw [fillTo_zero]; rfl
 repeat refine VW.seq ?_
 refine VW.regl hT fun K hK => ?_
 simp only [wq, Nat.reduceMul, reduceCtorEq, Nat.reduceBEq, Nat.reduceAdd, Nat.reduceLT, Nat.reduceLeDiff, Nat.reduceSub, Nat.reduceEqDiff]
 refine hK _ ?_
 clear hK K
 try refine vthen_n ?_
 repeat refine VW.seq ?_
 refine VW.cond rfl (fun hc => ?_) (fun hc => ?_)
 ·have hlt : i < xs.length := by simpa using hc
  refine VW.skip (vthen_n ?_)
  repeat refine VW.seq ?_
  refine VW.block ?_
  repeat refine VW.seq ?_
  refine VW.regl hT fun K hK => ?_
  simp only [wq, Nat.reduceMul, reduceCtorEq, Nat.reduceBEq, Nat.reduceAdd, Nat.reduceLT, Nat.reduceLeDiff, Nat.reduceSub, Nat.reduceEqDiff]
  refine ⟨by simp; omega, vcall_of (toIntS_vc _ (hin i)) ?_⟩
  simp only [wq, Nat.reduceMul, reduceCtorEq, Nat.reduceBEq, Nat.reduceAdd, Nat.reduceLT, Nat.reduceLeDiff, Nat.reduceSub, Nat.reduceEqDiff]
  refine ⟨by simp [fillTo_len hi]; omega, ?_⟩
  refine hK _ ?_
  clear hK K
  try refine vthen_n ?_
  repeat refine VW.seq ?_
  refine VW.regl hT fun K hK => ?_
  simp only [wq, Nat.reduceMul, reduceCtorEq, Nat.reduceBEq, Nat.reduceAdd, Nat.reduceLT, Nat.reduceLeDiff, Nat.reduceSub, Nat.reduceEqDiff]
  refine hK _ ?_
  clear hK K
  try refine vthen_n ?_
  refine ⟨i + 1, hlt, ?_, by show xs.length - (i + 1) < xs.length - i; omega⟩
  simp only [wn, wq, Nat.reduceMul, reduceCtorEq, Nat.reduceBEq, Nat.reduceAdd, Nat.reduceLT, Nat.reduceLeDiff, Nat.reduceSub, Nat.reduceEqDiff]
  rw [fillTo_set hlt, wrap64 (by omega) (by omega)]
  try rfl
 ·have hc : xs.length ≤ i := by simpa using hc
  refine VW.exit ?_
  show vthen _ _ _ .normal _
  refine vthen_n ?_
  repeat refine VW.seq ?_
  refine VW.regl hT fun K hK => ?_
  simp only [wq, Nat.reduceMul, reduceCtorEq, Nat.reduceBEq, Nat.reduceAdd, Nat.reduceLT, Nat.reduceLeDiff, Nat.reduceSub, Nat.reduceEqDiff]
  refine hK _ ?_
  clear hK K
  try refine vthen_n ?_
  refine VW.ret ⟨.inl rfl, _, rfl, ?_⟩
  rw [fillTo_all xs _ hc]
end Go.Proofs.YtmechjnfeidnkaaGreat.V.W
end
section
namespace Go.Proofs.YtmechjnfeidnkaaGreat.V.W
open Go Go.RowKit
set_option maxRecDepth 20000 in
theorem szGuard_vc (x : List Bool) (n : Int) (hl : x.length * 1 ≤ 140737488351232) (h0 : 0 ≤ n) (h1 : n ≤ 1048576) : VC Tryz.prog 73 [.v true sG x, .v false (.int .i64) n] (Left n · x.length) := by
 refine VC.of_body hT Tryz.func73 rfl (by kernel_rfl) [(.tmp 4, false, .int .i64)] (by kernel_rfl) ?_
 show VW _ _ ([.v true sG x, .v false (.int .i64) n, D, D, D, D, D, D, D, D, D, D]) _
 repeat refine VW.seq ?_
 refine VW.regl hT fun K hK => ?_
 simp only [wq, simprocAttr]
 refine hK _ ?_
 clear hK K
 try refine vthen_n ?_
 repeat refine VW.seq ?_
 refine VW.regl hT fun K hK => ?_
 simp only [wq, simprocAttr]
 refine vcall_ex (szBoolS_vc x n hl h0 h1) ?_
 rintro pv ⟨m, rfl, hm1, hm2⟩
 simp only [wq, simprocAttr]
 refine hK _ ?_
 clear hK K
 try refine vthen_n ?_
 repeat refine VW.seq ?_
 refine VW.regl hT fun K hK => ?_
 simp only [wq, simprocAttr]
 refine hK _ ?_
 clear hK K
 try refine vthen_n ?_
 repeat refine VW.seq ?_
 refine VW.cond rfl (fun hc => ?_) (fun hc => ?_)
 ·repeat refine VW.seq ?_
  refine VW.regl hT fun K hK => ?_
  simp only [wq, simprocAttr]
  refine hK _ ?_
  clear hK K
  try refine vthen_n ?_
  exact VW.ret ⟨.inl rfl, _, rfl, (-1 : Int), rfl, by omega, fun h => by omega⟩
 ·refine VW.skip (vthen_n ?_)
  repeat refine VW.seq ?_
  refine VW.regl hT fun K hK => ?_
  simp only [wq, simprocAttr]
  refine hK _ ?_
  clear hK K
  try refine vthen_n ?_
  exact VW.ret ⟨.inl rfl, _, rfl, _, rfl, hm1, hm2⟩
set_option maxRecDepth 20000 in
theorem toGuard_vc (x : List Bool) (hl : x.length * 1 ≤ 140737488351232) : VC Tryz.prog 82 [.v true sG x] (· = .root (.val true) sG .own x) := by
 refine VC.of_body hT Tryz.func82 rfl (by kernel_rfl) [(.cell 2 30, true, sG)] (by kernel_rfl) ?_
 show VW _ _ ([.v true sG x, D, D, D, D, D, D, D, D]) _
 repeat refine VW.seq ?_
 refine VW.regl hT fun K hK => ?_
 simp only [wq, simprocAttr]
 refine hK _ ?_
 clear hK K
 try refine vthen_n ?_
 repeat refine VW.seq ?_
 refine VW.regl hT fun K hK => ?_
 simp only [wq, simprocAttr]
 refine hK _ ?_
 clear hK K
 try refine vthen_n ?_
 repeat refine VW.seq ?_
 refine VW.regl hT fun K hK => ?_
 simp only [wq, simprocAttr]
 refine vcall_of (toBoolS_vc x hl) ?_
 simp only [wq, simprocAttr]
 refine hK _ ?_
 clear hK K
 try refine vthen_n ?_
 repeat refine VW.seq ?_
 refine VW.regl hT fun K hK => ?_
 simp only [wq, simprocAttr]
 refine hK _ ?_
 clear hK K
 try refine vthen_n ?_
 exact VW.ret ⟨.inl rfl, _, rfl, rfl⟩
set_option maxRecDepth 20000 in
theorem szIntSS_vc (xs : List (List Int)) (n : Int) (hl : xs.length * 24 ≤ 140737488351232) (hin : ∀ k, (xs.getD k []).length * 8 ≤ 140737488351232) (h0 : 0 ≤ n) (h1 : n ≤ 1048576) : VC Tryz.prog 72 [.v false (.sl 25 (.sl 3 (.int .i64))) xs, .v false (.int .i64) n] (Left n · (xs.length + tot xs xs.length)) := by
 refine VC.of_body hT Tryz.func72 rfl (by kernel_rfl) [(.tmp 4, false, .int .i64)] (by kernel_rfl) ?_
 show VW _ _ ([.v false (.sl 25 (.sl 3 (.int .i64))) xs, .v false (.int .i64) n, D, D, D, D, D, D, D, D, D, D, D, D, D, D, D, D, D, D, D, D, D, D, D, D, D]) _
 repeat refine VW.seq ?_
 refine VW.regl hT fun K hK => ?_
 simp only [wq, simprocAttr]
 refine hK _ ?_
 clear hK K
 try refine vthen_n ?_
 repeat refine VW.seq ?_
 refine VW.regl hT fun K hK => ?_
 simp only [wq, simprocAttr]
 refine hK _ ?_
 clear hK K
 try refine vthen_n ?_
 rw [wrap64 (by omega) (by omega)]
 repeat refine VW.seq ?_
 refine VW.regl hT fun K hK => ?_
 simp only [wq, simprocAttr]
 refine hK _ ?_
 clear hK K
 try refine vthen_n ?_
 repeat refine VW.seq ?_
 refine VW.cond rfl (fun hc => ?_) (fun hc => ?_)
 ·repeat refine VW.seq ?_
  refine VW.regl hT fun K hK => ?_
  simp only [wq, simprocAttr]
  refine hK _ ?_
  clear hK K
  try refine vthen_n ?_
  exact VW.ret ⟨.inl rfl, _, rfl, (-1 : Int), rfl, by omega, fun h => by omega⟩
 have hc0 : ¬ ((n : Int) - xs.length < 0) := of_decide_eq_false hc
 refine VW.skip (vthen_n ?_)
 repeat refine VW.seq ?_
 refine VW.regl hT fun K hK => ?_
 simp only [wq, simprocAttr]
 refine hK _ ?_
 clear hK K
 try refine vthen_n ?_
 repeat refine VW.seq ?_
 refine VW.block ?_
 refine VW.loop (α := Nat × Int) [(0, none), (1, none), (5, none)] (fun p => [.v false (.sl 25 (.sl 3 (.int .i64))) xs, .v false (.int .i64) p.2, D, D, D, .v false (.int .i64) (p.1 : Int), D, D, D, D, D, D, D, D, D, D, D, D, D, D, D, D, D, D, D, D, D]) (fun p => p.1 ≤ xs.length ∧ 0 ≤ p.2 ∧ p.2 + (xs.length + tot xs p.1) ≤ n) (fun p => xs.length - p.1) ⟨(0, n - xs.length), ⟨by omega, by omega, by simp [tot]⟩, ?_⟩ fun ⟨i, m⟩ ⟨hi, hm1, hm2⟩ => ?_
 ·simp only [wn, wq, simprocAttr]
  try rfl
 have hm1 : 0 ≤ m := hm1
 have hm2 : m + (xs.length + tot xs i) ≤ n := hm2
 repeat refine VW.seq ?_
 refine VW.regl hT fun K hK => ?_
 simp only [wq, simprocAttr]
 refine hK _ ?_
 clear hK K
 try refine vthen_n ?_
 repeat refine VW.seq ?_
 refine VW.cond rfl (fun hc => ?_) (fun hc => ?_)
 ·have hlt : i < xs.length := by simpa using hc
  refine VW.skip (vthen_n ?_)
  repeat refine VW.seq ?_
  refine VW.block ?_
  repeat refine VW.seq ?_
  refine VW.regl hT fun K hK => ?_
  simp only [wq, simprocAttr]
  refine ⟨by simp; omega, ?_⟩
  refine vcall_ex (szIntS_vc _ _ (by have := hin i; omega) hm1 (by omega)) ?_
  rintro pv ⟨m', rfl, hm3, hm4⟩
  simp only [wq, simprocAttr]
  refine hK _ ?_
  clear hK K
  try refine vthen_n ?_
  repeat refine VW.seq ?_
  refine VW.regl hT fun K hK => ?_
  simp only [wq, simprocAttr]
  refine hK _ ?_
  clear hK K
  try refine vthen_n ?_
  repeat refine VW.seq ?_
  refine VW.cond rfl (fun hc => ?_) (fun hc => ?_)
  ·repeat refine VW.seq ?_
   refine VW.regl hT fun K hK => ?_
   simp only [wq, simprocAttr]
   refine hK _ ?_
   clear hK K
   try refine vthen_n ?_
   exact VW.ret ⟨.inl rfl, _, rfl, (-1 : Int), rfl, by omega, fun h => by omega⟩
  ·refine VW.skip ?_
   show vthen _ _ _ .normal _
   refine vthen_n ?_
   have hc1 : ¬ (m' < 0) := of_decide_eq_false hc
   have ht := tot_succ hlt
   have hm4 := hm4 (by omega)
   repeat refine VW.seq ?_
   refine VW.regl hT fun K hK => ?_
   simp only [wq, simprocAttr]
   refine hK _ ?_
   clear hK K
   try refine vthen_n ?_
   refine ⟨(i + 1, m'), ⟨hlt, by show 0 ≤ m'; omega, ?_⟩, ?_, by show xs.length - (i + 1) < xs.length - i; omega⟩
   ·show m' + (xs.length + tot xs (i + 1)) ≤ n
    rw [ht]; omega
   simp only [wn, wq, simprocAttr]
   rw [wrap64 (by omega) (by omega)]
   rfl
 ·have hge : i = xs.length := by
   have : xs.length ≤ i := by simpa using hc
   omega
  subst hge
  refine VW.exit ?_
  show vthen _ _ _ .normal _
  refine vthen_n ?_
  repeat refine VW.seq ?_
  refine VW.regl hT fun K hK => ?_
  simp only [wq, simprocAttr]
  refine hK _ ?_
  clear hK K
  try refine vthen_n ?_
  exact VW.ret ⟨.inl rfl, _, rfl, m, rfl, by omega, fun h => by omega⟩
set_option maxRecDepth 20000 in
theorem szFabric_vc (x : Fab) (n : Int) (hx : FabB x) (h0 : 0 ≤ n) (h1 : n ≤ 1048576) : VC Tryz.prog 28 [.v true sFs x, .v false (.int .i64) n] (Left n · (fabSize x)) := by
 have ha := hx.a
 have hb := hx.b
 have hcc := hx.c
 have hf := hx.f
 unfold fabSize
 refine VC.of_body hT Tryz.func28 rfl (by kernel_rfl) [(.tmp 4, false, .int .i64)] (by kernel_rfl) ?_
 show VW _ _ ([.v true sFs x, .v false (.int .i64) n, D, D, D, D, D, D, D, D, D, D, D, D, D, D, D, D, D, D, D, D, D, D, D, D, D, D, D, D, D, D, D, D, D, D]) _
 repeat refine VW.seq ?_
 refine VW.regl hT fun K hK => ?_
 simp only [wq, simprocAttr]
 refine hK _ ?_
 clear hK K
 try refine vthen_n ?_
 repeat refine VW.seq ?_
 refine VW.regl hT fun K hK => ?_
 simp only [wq, simprocAttr]
 refine vcall_ex (szNodeS_vc _ _ (by omega) (by omega) (by omega)) ?_
 rintro pv ⟨m0, rfl, q0, r0⟩
 simp only [wq, simprocAttr]
 refine hK _ ?_
 clear hK K
 try refine vthen_n ?_
 repeat refine VW.seq ?_
 refine VW.regl hT fun K hK => ?_
 simp only [wq, simprocAttr]
 refine hK _ ?_
 clear hK K
 try refine vthen_n ?_
 repeat refine VW.seq ?_
 refine VW.cond rfl (fun hc => ?_) (fun hc => ?_)
 ·repeat refine VW.seq ?_
  refine VW.regl hT fun K hK => ?_
  simp only [wq, simprocAttr]
  refine hK _ ?_
  clear hK K
  try refine vthen_n ?_
  exact VW.ret ⟨.inl rfl, _, rfl, (-1 : Int), rfl, by omega, fun h => by omega⟩
 have c0 : ¬ (m0 < 0) := of_decide_eq_false hc
 clear hc
 have r0 := r0 (by omega)
 refine VW.skip (vthen_n ?_)
 repeat refine VW.seq ?_
 refine VW.regl hT fun K hK => ?_
 simp only [wq, simprocAttr]
 refine vcall_ex (szIntS_vc _ _ (by omega) (by omega) (by omega)) ?_
 rintro pv ⟨m1, rfl, q1, r1⟩
 simp only [wq, simprocAttr]
 refine hK _ ?_
 clear hK K
 try refine vthen_n ?_
 repeat refine VW.seq ?_
 refine VW.regl hT fun K hK => ?_
 simp only [wq, simprocAttr]
 refine hK _ ?_
 clear hK K
 try refine vthen_n ?_
 repeat refine VW.seq ?_
 refine VW.cond rfl (fun hc => ?_) (fun hc => ?_)
 ·repeat refine VW.seq ?_
  refine VW.regl hT fun K hK => ?_
  simp only [wq, simprocAttr]
  refine hK _ ?_
  clear hK K
  try refine vthen_n ?_
  exact VW.ret ⟨.inl rfl, _, rfl, (-1 : Int), rfl, by omega, fun h => by omega⟩
 have c1 : ¬ (m1 < 0) := of_decide_eq_false hc
 clear hc
 have r1 := r1 (by omega)
 refine VW.skip (vthen_n ?_)
 repeat refine VW.seq ?_
 refine VW.regl hT fun K hK => ?_
 simp only [wq, simprocAttr]
 refine vcall_ex (szBarS_vc _ _ (by omega) (by omega) (by omega)) ?_
 rintro pv ⟨m2, rfl, q2, r2⟩
 simp only [wq, simprocAttr]
 refine hK _ ?_
 clear hK K
 try refine vthen_n ?_
 repeat refine VW.seq ?_
 refine VW.regl hT fun K hK => ?_
 simp only [wq, simprocAttr]
 refine hK _ ?_
 clear hK K
 try refine vthen_n ?_
 repeat refine VW.seq ?_
 refine VW.cond rfl (fun hc => ?_) (fun hc => ?_)
 ·repeat refine VW.seq ?_
  refine VW.regl hT fun K hK => ?_
  simp only [wq, simprocAttr]
  refine hK _ ?_
  clear hK K
  try refine vthen_n ?_
  exact VW.ret ⟨.inl rfl, _, rfl, (-1 : Int), rfl, by omega, fun h => by omega⟩
 have c2 : ¬ (m2 < 0) := of_decide_eq_false hc
 clear hc
 have r2 := r2 (by omega)
 refine VW.skip (vthen_n ?_)
 repeat refine VW.seq ?_
 refine VW.regl hT fun K hK => ?_
 simp only [wq, simprocAttr]
 refine vcall_ex (szIntSS_vc _ _ hx.d hx.e (by omega) (by omega)) ?_
 rintro pv ⟨m3, rfl, q3, r3⟩
 simp only [wq, simprocAttr]
 refine hK _ ?_
 clear hK K
 try refine vthen_n ?_
 repeat refine VW.seq ?_
 refine VW.regl hT fun K hK => ?_
 simp only [wq, simprocAttr]
 refine hK _ ?_
 clear hK K
 try refine vthen_n ?_
 repeat refine VW.seq ?_
 refine VW.cond rfl (fun hc => ?_) (fun hc => ?_)
 ·repeat refine VW.seq ?_
  refine VW.regl hT fun K hK => ?_
  simp only [wq, simprocAttr]
  refine hK _ ?_
  clear hK K
  try refine vthen_n ?_
  exact VW.ret ⟨.inl rfl, _, rfl, (-1 : Int), rfl, by omega, fun h => by omega⟩
 have c3 : ¬ (m3 < 0) := of_decide_eq_false hc
 clear hc
 have r3 := r3 (by omega)
 refine VW.skip (vthen_n ?_)
 repeat refine VW.seq ?_
 refine VW.regl hT fun K hK => ?_
 simp only [wq, simprocAttr]
 refine vcall_ex (szGuard_vc _ _ hx.f (by omega) (by omega)) ?_
 rintro pv ⟨m4, rfl, q4, r4⟩
 simp only [wq, simprocAttr]
 refine hK _ ?_
 clear hK K
 try refine vthen_n ?_
 repeat refine VW.seq ?_
 refine VW.regl hT fun K hK => ?_
 simp only [wq, simprocAttr]
 refine hK _ ?_
 clear hK K
 try refine vthen_n ?_
 repeat refine VW.seq ?_
 refine VW.cond rfl (fun hc => ?_) (fun hc => ?_)
 ·repeat refine VW.seq ?_
  refine VW.regl hT fun K hK => ?_
  simp only [wq, simprocAttr]
  refine hK _ ?_
  clear hK K
  try refine vthen_n ?_
  exact VW.ret ⟨.inl rfl, _, rfl, (-1 : Int), rfl, by omega, fun h => by omega⟩
 have c4 : ¬ (m4 < 0) := of_decide_eq_false hc
 clear hc
 have r4 := r4 (by omega)
 refine VW.skip (vthen_n ?_)
 repeat refine VW.seq ?_
 refine VW.regl hT fun K hK => ?_
 simp only [wq, simprocAttr]
 refine hK _ ?_
 clear hK K
 try refine vthen_n ?_
 exact VW.ret ⟨.inl rfl, _, rfl, m4, rfl, by omega, fun h => by omega⟩
set_option maxRecDepth 20000 in
theorem toFabric_vc (x : Fab) (hx : FabB x) : VC Tryz.prog 30 [.v true sFs x] (· = .root (.val true) sFi (.pr .own (.pr .own (.pr .own (.pr .own .own)))) x) := by
 refine VC.of_body hT Tryz.func30 rfl (by kernel_rfl) [(.cell 2 32, true, sFi)] (by kernel_rfl) ?_
 show VW _ _ ([.v true sFs x, D, D, D, D, D, D, D, D, D, D, D, D, D, D, D, D, D, D, D, D, D, D, D, D]) _
 repeat refine VW.seq ?_
 refine VW.regl hT fun K hK => ?_
 simp only [wq, simprocAttr]
 refine hK _ ?_
 clear hK K
 try refine vthen_n ?_
 repeat refine VW.seq ?_
 refine VW.regl hT fun K hK => ?_
 simp only [wq, simprocAttr]
 refine hK _ ?_
 clear hK K
 try refine vthen_n ?_
 repeat refine VW.seq ?_
 refine VW.regl hT fun K hK => ?_
 simp only [wq, simprocAttr]
 refine vcall_of (toNodeS_vc _ hx.a) ?_
 simp only [wq, simprocAttr]
 refine hK _ ?_
 clear hK K
 try refine vthen_n ?_
 repeat refine VW.seq ?_
 refine VW.regl hT fun K hK => ?_
 simp only [wq, simprocAttr]
 refine vcall_of (toIntS_vc _ hx.b) ?_
 simp only [wq, simprocAttr]
 refine hK _ ?_
 clear hK K
 try refine vthen_n ?_
 repeat refine VW.seq ?_
 refine VW.regl hT fun K hK => ?_
 simp only [wq, simprocAttr]
 refine vcall_of (toBarS_vc _ hx.c) ?_
 simp only [wq, simprocAttr]
 refine hK _ ?_
 clear hK K
 try refine vthen_n ?_
 repeat refine VW.seq ?_
 refine VW.regl hT fun K hK => ?_
 simp only [wq, simprocAttr]
 refine vcall_of (toIntSS_vc _ hx.d hx.e) ?_
 simp only [wq, simprocAttr]
 refine hK _ ?_
 clear hK K
 try refine vthen_n ?_
 repeat refine VW.seq ?_
 refine VW.regl hT fun K hK => ?_
 simp only [wq, simprocAttr]
 refine vcall_of (toGuard_vc _ hx.f) ?_
 simp only [wq, simprocAttr]
 refine hK _ ?_
 clear hK K
 try refine vthen_n ?_
 repeat refine VW.seq ?_
 refine VW.regl hT fun K hK => ?_
 simp only [wq, simprocAttr]
 refine hK _ ?_
 clear hK K
 try refine vthen_n ?_
 exact VW.ret ⟨.inl rfl, _, rfl, rfl⟩
end Go.Proofs.YtmechjnfeidnkaaGreat.V.W
end
section
namespace Go.Proofs.YtmechjnfeidnkaaGreat.V.W
open Go Go.RowKit
/-- a row of memory that does not fit -/
def memBad (m : List (List Int)) (s : List Int) (k : Nat) : Bool := !(((m.getD k []).length : Int) == s.getD k 0) || !words (m.getD k [])
def memOk (m : List (List Int)) (s : List Int) : Bool := (List.range m.length).all fun k => !memBad m s k
theorem memOk_false {m : List (List Int)} {s : List Int} {k : Nat} (hk : k < m.length) (h : memBad m s k = true) : memOk m s = false := by
 rw [memOk, List.all_eq_false]
 exact ⟨k, List.mem_range.2 hk, by rw [h]; simp⟩
theorem memOk_true {m : List (List Int)} {s : List Int} (h : ∀ k, k < m.length → memBad m s k = false) : memOk m s = true := by
 rw [memOk, List.all_eq_true]
 intro k hk
 rw [h k (List.mem_range.1 hk)]
 rfl
/-- a fabric that may be -/
def fabOk (x : Fab) : Bool := newOk x.1 x.2.1 && (decide (allBars x.1 x.2.1 = x.2.2.1) && (((x.2.2.2.1.length : Int) == (x.2.1.length : Int)) && (guardOk x.1 x.2.2.2.2 && memOk x.2.2.2.1 x.2.1)))
structure FabL (x : Fab) : Prop where
 a : x.1.length ≤ 2000000
 b : x.2.1.length ≤ 2000000
 c : x.2.2.1.length ≤ 2000000
 d : x.2.2.2.1.length ≤ 2000000
 e : ∀ k, (x.2.2.2.1.getD k []).length ≤ 2000000
set_option maxRecDepth 20000 in
set_option maxHeartbeats 2000000 in
theorem fabricOk_vc (x : Fab) (hx : FabL x) : VC Tryz.prog 19 [.v true sFi x] (· = .v false .bool (fabOk x)) := by
 obtain ⟨t, s, b, m, g⟩ := x
 have hla : t.length ≤ 2000000 := hx.a
 have hlb : s.length ≤ 2000000 := hx.b
 have hlc : b.length ≤ 2000000 := hx.c
 have hld : m.length ≤ 2000000 := hx.d
 have hle : ∀ k, (m.getD k []).length ≤ 2000000 := hx.e
 refine VC.of_body hT Tryz.func19 rfl (by kernel_rfl) [(.tmp 2, false, .bool)] (by kernel_rfl) ?_
 show VW _ _ ([.v true sFi (t, s, b, m, g), D, D, D, D, D, D, D, D, D, D, D, D, D, D, D, D, D, D, D, D, D, D, D, D, D, D, D, D, D, D, D, D, D, D, D, D, D, D, D, D, D, D, D, D, D, D, D, D, D, D, D, D, D, D, D, D, D, D, D, D, D, D, D]) _
 repeat refine VW.seq ?_
 refine VW.regl hT fun K hK => ?_
 simp only [wq, simprocAttr]
 refine hK _ ?_
 clear hK K
 try refine vthen_n ?_
 repeat refine VW.seq ?_
 refine VW.regl hT fun K hK => ?_
 simp only [wq, simprocAttr]
 refine vcall_ex (newFabric_vc t s hla hlb) ?_
 intro pv hpv
 by_cases hn : newOk t s = true
 case neg =>
  have hn0 : newOk t s = false := by simpa using hn
  rw [if_neg hn] at hpv
  subst hpv
  simp only [wq, simprocAttr]
  refine hK _ ?_
  clear hK K
  try refine vthen_n ?_
  repeat refine VW.seq ?_
  refine VW.regl hT fun K hK => ?_
  simp only [wq, simprocAttr]
  refine hK _ ?_
  clear hK K
  try refine vthen_n ?_
  repeat refine VW.seq ?_
  refine VW.cond rfl (fun hc => ?_) (fun hc => ?_)
  ·repeat refine VW.seq ?_
   refine VW.regl hT fun K hK => ?_
   simp only [wq, simprocAttr]
   refine hK _ ?_
   clear hK K
   try refine vthen_n ?_
   refine VW.ret ⟨.inl rfl, _, rfl, ?_⟩
   rw [fabOk, hn0]
   rfl
  ·cases hc
 rw [if_pos hn] at hpv
 subst hpv
 simp only [wq, simprocAttr]
 refine hK _ ?_
 clear hK K
 try refine vthen_n ?_
 have hok0 : sizesOk t s = true := by
  have := hn
  rw [newOk, fits, Bool.and_eq_true, Bool.and_eq_true] at this
  exact this.1.1
 have hok := (sizesOk_iff.1 hok0).1
 have hsl := (sizesOk_iff.1 hok0).2.1
 have htl := treeOk_len hok
 repeat refine VW.seq ?_
 refine VW.regl hT fun K hK => ?_
 simp only [wq, simprocAttr]
 refine vcall_of (libBarEq_vc (allBars t s) b (by rw [show (allBars t s).length = t.length from bars_len _ _ _]; omega)) ?_
 simp only [wq, simprocAttr]
 refine vbr (fun h => ?_) (fun h => ?_) <;> simp only [wq, simprocAttr]
 case refine_2 =>
  have h : decide (allBars t s = b) = false := (Bool.not_eq_true' _).mp h
  refine hK _ ?_
  clear hK K
  try refine vthen_n ?_
  repeat refine VW.seq ?_
  refine VW.cond rfl (fun hc => ?_) (fun hc => ?_)
  ·repeat refine VW.seq ?_
   refine VW.regl hT fun K hK => ?_
   simp only [wq, simprocAttr]
   refine hK _ ?_
   clear hK K
   try refine vthen_n ?_
   refine VW.ret ⟨.inl rfl, _, rfl, ?_⟩
   rw [fabOk, hn, Bool.true_and, h]
   rfl
  ·cases hc
 have h1 : decide (allBars t s = b) = true := by
  have := h
  rwa [Bool.not_eq_false'] at this
 clear h
 refine vbr (fun h => ?_) (fun h => ?_) <;> simp only [wq, simprocAttr]
 case refine_2 =>
  have h : ((m.length : Int) == (s.length : Int)) = false := (Bool.not_eq_true' _).mp h
  refine hK _ ?_
  clear hK K
  try refine vthen_n ?_
  repeat refine VW.seq ?_
  refine VW.cond rfl (fun hc => ?_) (fun hc => ?_)
  ·repeat refine VW.seq ?_
   refine VW.regl hT fun K hK => ?_
   simp only [wq, simprocAttr]
   refine hK _ ?_
   clear hK K
   try refine vthen_n ?_
   refine VW.ret ⟨.inl rfl, _, rfl, ?_⟩
   rw [fabOk, hn, h1, Bool.true_and, Bool.true_and, h]
   rfl
  ·cases hc
 have h2 : ((m.length : Int) == (s.length : Int)) = true := by
  have := h
  rwa [Bool.not_eq_false'] at this
 clear h
 refine vcall_of (guardOk_vc t g hla) ?_
 simp only [wq, simprocAttr]
 refine hK _ ?_
 clear hK K
 try refine vthen_n ?_
 repeat refine VW.seq ?_
 refine VW.cond rfl (fun hc => ?_) (fun hc => ?_)
 ·have h : guardOk t g = false := (Bool.not_eq_true' _).mp hc
  repeat refine VW.seq ?_
  refine VW.regl hT fun K hK => ?_
  simp only [wq, simprocAttr]
  refine hK _ ?_
  clear hK K
  try refine vthen_n ?_
  refine VW.ret ⟨.inl rfl, _, rfl, ?_⟩
  rw [fabOk, hn, h1, h2, h]
  rfl
 have h3 : guardOk t g = true := by
  have := hc
  rwa [Bool.not_eq_false'] at this
 have hfin : fabOk (t, s, b, m, g) = memOk m s := by rw [fabOk, hn, h1, h2, h3]; rfl
 have hms : m.length = s.length := by
  have : (m.length : Int) = (s.length : Int) := by simpa using h2
  omega
 refine VW.skip (vthen_n ?_)
 repeat refine VW.seq ?_
 refine VW.regl hT fun K hK => ?_
 simp only [wq, simprocAttr]
 refine hK _ ?_
 clear hK K
 try refine vthen_n ?_
 repeat refine VW.seq ?_
 refine VW.block ?_
 refine VW.loop (α := Nat) [(1, none), (43, none), (44, none), (45, none)] (fun i => [D, .root (.box 32) sFi .fz (t, s, b, m, g), D, D, D, D, D, D, D, D, D, D, D, D, D, D, D, D, D, D, D, D, D, D, D, D, D, D, D, D, D, D, D, D, D, D, D, D, D, D, D, D, D, .v false sII m, .v false (.int .i64) ((m.length : Nat)), .v false (.int .i64) ((i : Nat)), D, D, D, D, D, D, D, D, D, D, D, D, D, D, D, D, D, D]) (fun i => i ≤ m.length ∧ ∀ k, k < i → memBad m s k = false) (fun i => m.length - i) ⟨0, ⟨by omega, fun k h => by omega⟩, ?_⟩ fun i ⟨hi, hk⟩ => ?_
 ·simp only [wn, wq, simprocAttr]
  try rfl
 repeat refine VW.seq ?_
 refine VW.regl hT fun K hK => ?_
 simp only [wq, simprocAttr]
 refine hK _ ?_
 clear hK K
 try refine vthen_n ?_
 repeat refine VW.seq ?_
 refine VW.cond rfl (fun hc => ?_) (fun hc => ?_)
 ·have hlt : i < m.length := by simpa using hc
  refine VW.skip (vthen_n ?_)
  repeat refine VW.seq ?_
  refine VW.block ?_
  repeat refine VW.seq ?_
  refine VW.regl hT fun K hK => ?_
  simp only [wq, simprocAttr]
  refine ⟨decide_eq_true ⟨Int.natCast_nonneg _, by show (i : Int) < (m.length : Int); omega⟩, ?_⟩
  refine hK _ ?_
  clear hK K
  try refine vthen_n ?_
  repeat refine VW.seq ?_
  refine VW.regl hT fun K hK => ?_
  simp only [wq, simprocAttr]
  refine ⟨decide_eq_true ⟨Int.natCast_nonneg _, by show (i : Int) < (s.length : Int); omega⟩, ?_⟩
  refine vbr (fun h => ?_) (fun h => ?_) <;> simp only [wq, simprocAttr]
  case refine_2 =>
   have h : (!(((m.getD i []).length : Int) == s.getD i 0)) = true := h
   refine hK _ ?_
   clear hK K
   try refine vthen_n ?_
   repeat refine VW.seq ?_
   refine VW.cond rfl (fun hc => ?_) (fun hc => ?_)
   ·repeat refine VW.seq ?_
    refine VW.regl hT fun K hK => ?_
    simp only [wq, simprocAttr]
    refine hK _ ?_
    clear hK K
    try refine vthen_n ?_
    refine VW.ret ⟨.inl rfl, _, rfl, ?_⟩
    rw [hfin, memOk_false hlt (by rw [memBad, h]; rfl)]
   ·cases hc
  have h : (!(((m.getD i []).length : Int) == s.getD i 0)) = false := h
  refine vcall_of (areWords_vc _ (hle i)) ?_
  simp only [wq, simprocAttr]
  refine hK _ ?_
  clear hK K
  try refine vthen_n ?_
  repeat refine VW.seq ?_
  refine VW.cond rfl (fun hc => ?_) (fun hc => ?_)
  ·have hc : (!words (m.getD i [])) = true := hc
   repeat refine VW.seq ?_
   refine VW.regl hT fun K hK => ?_
   simp only [wq, simprocAttr]
   refine hK _ ?_
   clear hK K
   try refine vthen_n ?_
   refine VW.ret ⟨.inl rfl, _, rfl, ?_⟩
   rw [hfin, memOk_false hlt (by rw [memBad, h, hc]; rfl)]
  ·have hc : (!words (m.getD i [])) = false := hc
   refine VW.skip ?_
   show vthen _ _ _ .normal _
   refine vthen_n ?_
   repeat refine VW.seq ?_
   refine VW.regl hT fun K hK => ?_
   simp only [wq, simprocAttr]
   refine hK _ ?_
   clear hK K
   try refine vthen_n ?_
   refine ⟨i + 1, ⟨hlt, fun k h4 => ?_⟩, ?_, by show m.length - (i + 1) < m.length - i; omega⟩
   ·rcases Nat.lt_or_ge k i with h5 | h5
    ·exact hk k h5
    ·obtain rfl : k = i := by omega
     rw [memBad, h, hc]
     rfl
   simp only [wn, wq, simprocAttr]
   rw [wrap64 (by omega) (by omega)]
   rfl
 ·have hge : i = m.length := by
   have : m.length ≤ i := by simpa using hc
   omega
  subst hge
  refine VW.exit ?_
  show vthen _ _ _ .normal _
  refine vthen_n ?_
  repeat refine VW.seq ?_
  refine VW.regl hT fun K hK => ?_
  simp only [wq, simprocAttr]
  refine hK _ ?_
  clear hK K
  try refine vthen_n ?_
  refine VW.ret ⟨.inl rfl, _, rfl, ?_⟩
  rw [hfin, memOk_true hk]
end Go.Proofs.YtmechjnfeidnkaaGreat.V.W
end
section
namespace Go.Proofs.YtmechjnfeidnkaaGreat.V.W
open Go Go.RowKit
set_option maxRecDepth 20000 in
set_option maxHeartbeats 2000000 in
theorem specFabricOk_vc (x : Fab) (hx : FabL x) : VC Tryz.prog 74 [.v true sFi x] (· = .v false .bool (fabOk x)) := by
 obtain ⟨t, s, b, m, g⟩ := x
 have hla : t.length ≤ 2000000 := hx.a
 have hlb : s.length ≤ 2000000 := hx.b
 have hlc : b.length ≤ 2000000 := hx.c
 have hld : m.length ≤ 2000000 := hx.d
 have hle : ∀ k, (m.getD k []).length ≤ 2000000 := hx.e
 refine VC.of_body hT Tryz.func74 rfl (by kernel_rfl) [(.tmp 2, false, .bool)] (by kernel_rfl) ?_
 show VW _ _ ([.v true sFi (t, s, b, m, g), D, D, D, D, D, D, D, D, D, D, D, D, D, D, D, D, D, D, D, D, D, D, D, D, D, D, D, D, D, D, D, D, D, D, D, D, D, D, D, D, D, D, D, D, D, D, D, D, D, D, D, D, D, D, D, D, D, D, D, D, D, D, D, D, D, D, D, D, D, D, D, D, D, D, D, D, D, D, D, D, D, D]) _
 repeat refine VW.seq ?_
 refine VW.regl hT fun K hK => ?_
 simp only [wq, simprocAttr]
 refine hK _ ?_
 clear hK K
 try refine vthen_n ?_
 repeat refine VW.seq ?_
 refine VW.regl hT fun K hK => ?_
 simp only [wq, simprocAttr]
 refine vcall_ex (specNew_vc t s hla hlb) ?_
 intro pv hpv
 by_cases hn : newOk t s = true
 case neg =>
  have hn0 : newOk t s = false := by simpa using hn
  rw [if_neg hn] at hpv
  subst hpv
  simp only [wq, simprocAttr]
  refine hK _ ?_
  clear hK K
  try refine vthen_n ?_
  repeat refine VW.seq ?_
  refine VW.regl hT fun K hK => ?_
  simp only [wq, simprocAttr]
  refine hK _ ?_
  clear hK K
  try refine vthen_n ?_
  repeat refine VW.seq ?_
  refine VW.cond rfl (fun hc => ?_) (fun hc => ?_)
  ·repeat refine VW.seq ?_
   refine VW.regl hT fun K hK => ?_
   simp only [wq, simprocAttr]
   refine hK _ ?_
   clear hK K
   try refine vthen_n ?_
   refine VW.ret ⟨.inl rfl, _, rfl, ?_⟩
   rw [fabOk, hn0]
   rfl
  ·cases hc
 rw [if_pos hn] at hpv
 subst hpv
 simp only [wq, simprocAttr]
 refine hK _ ?_
 clear hK K
 try refine vthen_n ?_
 have hok0 : sizesOk t s = true := by
  have := hn
  rw [newOk, fits, Bool.and_eq_true, Bool.and_eq_true] at this
  exact this.1.1
 have hok := (sizesOk_iff.1 hok0).1
 have hsl := (sizesOk_iff.1 hok0).2.1
 have htl := treeOk_len hok
 have hal : (allBars t s).length = t.length := bars_len _ _ _
 have hml : (memTo s s.length).length = s.length := memTo_len (Nat.le_refl _)
 repeat refine VW.seq ?_
 refine VW.regl hT fun K hK => ?_
 simp only [wq, simprocAttr]
 refine vbr (fun h => ?_) (fun h => ?_) <;> simp only [wq, simprocAttr]
 case refine_2 =>
  have h : ((b.length : Int) == ((allBars t s).length : Int)) = false := (Bool.not_eq_true' _).mp h
  have h0 : decide (allBars t s = b) = false := by
   rw [decide_eq_false_iff_not]
   rintro rfl
   simp at h
  refine hK _ ?_
  clear hK K
  try refine vthen_n ?_
  repeat refine VW.seq ?_
  refine VW.cond rfl (fun hc => ?_) (fun hc => ?_)
  ·repeat refine VW.seq ?_
   refine VW.regl hT fun K hK => ?_
   simp only [wq, simprocAttr]
   refine hK _ ?_
   clear hK K
   try refine vthen_n ?_
   refine VW.ret ⟨.inl rfl, _, rfl, ?_⟩
   rw [fabOk, hn, Bool.true_and, h0]
   rfl
  ·cases hc
 have h1 : ((b.length : Int) == ((allBars t s).length : Int)) = true := by
  have := h
  rwa [Bool.not_eq_false'] at this
 have h1 : b.length = t.length := by
  have : (b.length : Int) = ((allBars t s).length : Int) := by simpa using h1
  omega
 clear h
 refine vbr (fun h => ?_) (fun h => ?_) <;> simp only [wq, simprocAttr]
 case refine_2 =>
  have h : ((m.length : Int) == ((memTo s s.length).length : Int)) = false := (Bool.not_eq_true' _).mp h
  rw [hml] at h
  refine hK _ ?_
  clear hK K
  try refine vthen_n ?_
  repeat refine VW.seq ?_
  refine VW.cond rfl (fun hc => ?_) (fun hc => ?_)
  ·repeat refine VW.seq ?_
   refine VW.regl hT fun K hK => ?_
   simp only [wq, simprocAttr]
   refine hK _ ?_
   clear hK K
   try refine vthen_n ?_
   refine VW.ret ⟨.inl rfl, _, rfl, ?_⟩
   rw [fabOk, hn, Bool.true_and, h, Bool.false_and, Bool.and_false]
  ·cases hc
 have h2 : ((m.length : Int) == ((memTo s s.length).length : Int)) = true := by
  have := h
  rwa [Bool.not_eq_false'] at this
 rw [hml] at h2
 clear h
 refine vcall_of (specGuard_vc t g hla) ?_
 simp only [wq, simprocAttr]
 refine hK _ ?_
 clear hK K
 try refine vthen_n ?_
 repeat refine VW.seq ?_
 refine VW.cond rfl (fun hc => ?_) (fun hc => ?_)
 ·have h : guardOk t g = false := (Bool.not_eq_true' _).mp hc
  repeat refine VW.seq ?_
  refine VW.regl hT fun K hK => ?_
  simp only [wq, simprocAttr]
  refine hK _ ?_
  clear hK K
  try refine vthen_n ?_
  refine VW.ret ⟨.inl rfl, _, rfl, ?_⟩
  rw [fabOk, hn, h2, h, Bool.false_and, Bool.and_false, Bool.and_false]
  rfl
 have h3 : guardOk t g = true := by
  have := hc
  rwa [Bool.not_eq_false'] at this
 have hms : m.length = s.length := by
  have : (m.length : Int) = (s.length : Int) := by simpa using h2
  omega
 have hfin : fabOk (t, s, b, m, g) = (decide (allBars t s = b) && memOk m s) := by
  rw [fabOk, hn, Bool.true_and, h2, h3]
  rfl
 refine VW.skip (vthen_n ?_)
 repeat refine VW.seq ?_
 refine VW.regl hT fun K hK => ?_
 simp only [wq, simprocAttr]
 refine hK _ ?_
 clear hK K
 try refine vthen_n ?_
 repeat refine VW.seq ?_
 refine VW.block ?_
 refine VW.loop (α := Nat) [(1, none), (3, none), (5, none)] (fun i => [D, .root (.box 32) sFi .fz (t, s, b, m, g), D, .root (.box 32) sFi fFab (newFab t s), D, .v false (.int .i64) ((i : Nat)), D, D, D, D, D, D, D, D, D, D, D, D, D, D, D, D, D, D, D, D, D, D, D, D, D, D, D, D, D, D, D, D, D, D, D, D, D, D, D, D, D, D, D, D, D, D, D, D, D, D, D, D, D, D, D, D, D, D, D, D, D, D, D, D, D, D, D, D, D, D, D, D, D, D, D, D, D]) (fun i => i ≤ t.length ∧ ∀ k, k < i → b.getD k zb = (allBars t s).getD k zb ∧ memBad m s k = false) (fun i => t.length - i) ⟨0, ⟨by omega, fun k h => by omega⟩, ?_⟩ fun i ⟨hi, hk⟩ => ?_
 ·simp only [wn, wq, simprocAttr]
  try rfl
 repeat refine VW.seq ?_
 refine VW.regl hT fun K hK => ?_
 simp only [wq, simprocAttr]
 refine hK _ ?_
 clear hK K
 try refine vthen_n ?_
 repeat refine VW.seq ?_
 refine VW.cond rfl (fun hc => ?_) (fun hc => ?_)
 ·have hlt : i < t.length := by
   have : (i : Int) < ((allBars t s).length : Int) := of_decide_eq_true hc
   omega
  refine VW.skip (vthen_n ?_)
  repeat refine VW.seq ?_
  refine VW.block ?_
  repeat refine VW.seq ?_
  refine VW.drawl hT hm (by kernel_rfl) fun K hK => ?_
  simp only [wq, simprocAttr]
  refine ⟨by kernel_rfl, by kernel_rfl, decide_eq_true ⟨Int.natCast_nonneg _, by show (i : Int) < (b.length : Int); omega⟩, by kernel_rfl, by kernel_rfl, by kernel_rfl, decide_eq_true ⟨Int.natCast_nonneg _, by show (i : Int) < ((allBars t s).length : Int); omega⟩, by kernel_rfl, ?_⟩
  refine vbr (fun h => ?_) (fun h => ?_) <;> simp only [wq, simprocAttr]
  case refine_2 =>
   have h : (!eqv sBr (b.getD i zb) ((allBars t s).getD i zb)) = true := h
   have h0 : decide (allBars t s = b) = false := by
    rw [decide_eq_false_iff_not]
    rintro rfl
    rw [Bool.not_eq_true'] at h
    rw [(eqv_eq rfl).2 rfl] at h
    cases h
   refine hK _ ?_
   clear hK K
   try refine vthen_n ?_
   repeat refine VW.seq ?_
   refine VW.cond rfl (fun hc => ?_) (fun hc => ?_)
   ·repeat refine VW.seq ?_
    refine VW.regl hT fun K hK => ?_
    simp only [wq, simprocAttr]
    refine hK _ ?_
    clear hK K
    try refine vthen_n ?_
    refine VW.ret ⟨.inl rfl, _, rfl, ?_⟩
    rw [hfin, h0, Bool.false_and]
   ·cases hc
  have h : (!eqv sBr (b.getD i zb) ((allBars t s).getD i zb)) = false := h
  have hbi : b.getD i zb = (allBars t s).getD i zb := by
   rw [Bool.not_eq_false'] at h
   exact (eqv_eq rfl).1 h
  clear h
  refine ⟨by kernel_rfl, by kernel_rfl, decide_eq_true ⟨Int.natCast_nonneg _, by show (i : Int) < (m.length : Int); omega⟩, by kernel_rfl, by kernel_rfl, decide_eq_true ⟨Int.natCast_nonneg _, by show (i : Int) < (s.length : Int); omega⟩, ?_⟩
  refine vbr (fun h => ?_) (fun h => ?_) <;> simp only [wq, simprocAttr]
  case refine_2 =>
   have h : (!(((m.getD i []).length : Int) == s.getD i 0)) = true := h
   refine hK _ ?_
   clear hK K
   try refine vthen_n ?_
   repeat refine VW.seq ?_
   refine VW.cond rfl (fun hc => ?_) (fun hc => ?_)
   ·repeat refine VW.seq ?_
    refine VW.regl hT fun K hK => ?_
    simp only [wq, simprocAttr]
    refine hK _ ?_
    clear hK K
    try refine vthen_n ?_
    refine VW.ret ⟨.inl rfl, _, rfl, ?_⟩
    rw [hfin, memOk_false (k := i) (by omega) (by rw [memBad, h]; rfl), Bool.and_false]
   ·cases hc
  have h : (!(((m.getD i []).length : Int) == s.getD i 0)) = false := h
  refine ⟨by kernel_rfl, by kernel_rfl, decide_eq_true ⟨Int.natCast_nonneg _, by show (i : Int) < (m.length : Int); omega⟩, ?_⟩
  refine vcallD_of (specWords_vc _ (hle i)) ?_
  simp only [wq, simprocAttr]
  refine hK _ ?_
  clear hK K
  try refine vthen_n ?_
  repeat refine VW.seq ?_
  refine VW.cond rfl (fun hc => ?_) (fun hc => ?_)
  ·have hc : (!words (m.getD i [])) = true := hc
   repeat refine VW.seq ?_
   refine VW.regl hT fun K hK => ?_
   simp only [wq, simprocAttr]
   refine hK _ ?_
   clear hK K
   try refine vthen_n ?_
   refine VW.ret ⟨.inl rfl, _, rfl, ?_⟩
   rw [hfin, memOk_false (k := i) (by omega) (by rw [memBad, h, hc]; rfl), Bool.and_false]
  ·have hc : (!words (m.getD i [])) = false := hc
   refine VW.skip ?_
   show vthen _ _ _ .normal _
   refine vthen_n ?_
   repeat refine VW.seq ?_
   refine VW.regl hT fun K hK => ?_
   simp only [wq, simprocAttr]
   refine hK _ ?_
   clear hK K
   try refine vthen_n ?_
   refine ⟨i + 1, ⟨hlt, fun k h4 => ?_⟩, ?_, by show t.length - (i + 1) < t.length - i; omega⟩
   ·rcases Nat.lt_or_ge k i with h5 | h5
    ·exact hk k h5
    ·obtain rfl : k = i := by omega
     refine ⟨hbi, ?_⟩
     rw [memBad, h, hc]
     rfl
   simp only [wn, wq, simprocAttr]
   rw [wrap64 (by omega) (by omega)]
   rfl
 ·have hge : i = t.length := by
   have : ¬ (i : Int) < ((allBars t s).length : Int) := of_decide_eq_false hc
   omega
  subst hge
  refine VW.exit ?_
  show vthen _ _ _ .normal _
  refine vthen_n ?_
  repeat refine VW.seq ?_
  refine VW.regl hT fun K hK => ?_
  simp only [wq, simprocAttr]
  refine hK _ ?_
  clear hK K
  try refine vthen_n ?_
  refine VW.ret ⟨.inl rfl, _, rfl, ?_⟩
  have hbe : allBars t s = b := (row_eq zb (by omega) fun k h => (hk k (by omega)).1).symm
  rw [hfin, decide_eq_true hbe, memOk_true fun k h => (hk k (by omega)).2]
  rfl
end Go.Proofs.YtmechjnfeidnkaaGreat.V.W
end
section
namespace Go.Proofs.YtmechjnfeidnkaaGreat.V.W
open Go Go.RowKit
theorem fab_wf {x : Fab} (h : wfS Tryz.prog sFs x) : FabB x := by
 obtain ⟨⟨a1, _⟩, ⟨b1, _⟩, ⟨c1, _⟩, ⟨d1, _, d3⟩, ⟨f1, _⟩⟩ := h
 rw [show Tryz.prog.bytesOf 154 = 24 by kernel_rfl] at a1
 rw [show Tryz.prog.bytesOf 3 = 8 by kernel_rfl] at b1
 rw [show Tryz.prog.bytesOf 156 = 16 by kernel_rfl] at c1
 rw [show Tryz.prog.bytesOf 25 = 24 by kernel_rfl] at d1
 rw [show Tryz.prog.bytesOf 4 = 1 by kernel_rfl] at f1
 refine ⟨a1, b1, c1, d1, fun k => ?_, f1⟩
 rw [List.getD_eq_getElem?_getD]
 cases hk : x.2.2.2.1[k]? with
 | none => simp
 | some l =>
  have := (d3 l (List.mem_of_getElem? hk)).1
  rwa [show Tryz.prog.bytesOf 3 = 8 by kernel_rfl] at this
theorem fab_small {x : Fab} (h : fabSize x ≤ 1048576) : FabL x := by
 obtain ⟨t, s, b, m, g⟩ := x
 unfold fabSize at h
 have h : t.length + s.length + b.length + (m.length + tot m m.length) + g.length ≤ 1048576 := h
 refine ⟨by show t.length ≤ _; omega, by show s.length ≤ _; omega, by show b.length ≤ _; omega, by show m.length ≤ _; omega, fun k => ?_⟩
 show (m.getD k []).length ≤ _
 rcases Nat.lt_or_ge k m.length with hk | hk
 ·have h1 := tot_succ hk
  have h2 := tot_mono m (k + 1) hk
  omega
 ·rw [List.getD_eq_getElem?_getD, List.getElem?_eq_none hk]
  simp
end Go.Proofs.YtmechjnfeidnkaaGreat.V.W
end
section
namespace Go.Proofs.YtmechjnfeidnkaaGreat.V
open Go Go.RowKit
theorem getD_setL {α : Type} (xs : List α) (i j : Nat) (y z : α) (hi : i < xs.length) : (xs.set i y).getD j z = if j = i then y else xs.getD j z := by
 rw [List.getD_eq_getElem?_getD, List.getD_eq_getElem?_getD, List.getElem?_set]
 by_cases h : i = j
 ·subst h; simp [hi]
 ·rw [if_neg h, if_neg (fun e => h e.symm)]
/-- a row's own element taken out and put back -/
theorem own_el {w : World} {Z : Nat → Prop} {e e2 : TypeId} {s2 : Sh} {xs : List (List s2.ty)} {v : Value} {B : Nat → Prop} {i : Nat} (hi : i < xs.length) (hB : ∀ b, B b → b < w.heap.size) (hR : OwnR w e 1 (fun x c B' => Rep w Z (.sl e2 s2) .own x c B') [] xs [v] B) :
  ∃ A c u, ∃ Bi : Nat → Prop, v = .slice (some A) xs.length c ∧ rowCells w (A.add (i * 1)) 1 = [u] ∧ (∀ b, Bi b → B b) ∧ Rep w Z (.sl e2 s2) .own (xs.getD i []) [u] Bi ∧
   ∀ (w' : World) (y : List s2.ty) (Bo : Nat → Prop), ExtF w w' Bi → Rep w' Z (.sl e2 s2) .own y [u] Bo → (∀ b, Bo b → Bi b ∨ w.heap.size ≤ b) → (∀ b, Z b → b < w.heap.size ∧ ¬ B b) →
    OwnR w' e 1 (fun x c B' => Rep w' Z (.sl e2 s2) .own x c B') [] (xs.set i y) [v] (fun b => (B b ∧ ¬ Bi b) ∨ Bo b) := by
 rcases hR with ⟨A, _, rfl⟩ | ⟨g, cap, cur, rows, Bs, hA, q2, q3, q4, q5, q6, q7, q8⟩
 ·have : ([] : List (List s2.ty)).length = 0 := rfl
  omega
 have hv : v = .slice (some ⟨g, 0, none⟩) xs.length cap := by simpa using hA
 obtain ⟨p1, p2, p3, p4⟩ := q7 i hi
 obtain ⟨u, hu⟩ : ∃ u, rows i = [u] := by
  match h : rows i, p1 with
  | [u], _ => exact ⟨u, rfl⟩
 have hadd : (⟨g, 0, none⟩ : Addr).add (i * 1) = ⟨g, i * 1, none⟩ := by unfold Addr.add; split <;> simp_all
 refine ⟨⟨g, 0, none⟩, cap, u, Bs i, hv, ?_, fun b hb => (p3 b hb).1, by rw [hu] at p4; exact p4, ?_⟩
 ·refine rowCells_eq rfl fun j hj => ?_
  rw [add_add, cell_at rfl q2, ← hu, ← p2 j hj]
  show cur[0 + (i * 1 + j)]? = _
  rw [Nat.zero_add]
 ·intro w' y Bo hx hy hBo hZ
  have hgB : ¬ Bs i g := fun h => (p3 g h).2 rfl
  have hg' : w'.heap[g]? = some (.cells cur e (0, 0)) := by rw [hx.block g (hB g q6) hgB]; exact q2
  refine .inr ⟨g, cap, cur, rows, fun j => if j = i then Bo else Bs j, by rw [hv, List.length_set], hg', by rw [List.length_set]; exact q3, q4, q5, .inl ⟨q6, hgB⟩, fun j hj => ?_, fun j k b hj hk hne h1 h2 => ?_⟩
  ·rw [List.length_set] at hj
   obtain ⟨r1, r2, r3, r4⟩ := q7 j hj
   by_cases e : j = i
   ·subst e
    refine ⟨r1, r2, fun b hb => ?_, ?_⟩
    ·have hb : Bo b := by
      have hb : (if j = j then Bo else Bs j) b := hb
      rwa [if_pos rfl] at hb
     refine ⟨.inr hb, ?_⟩
     rintro rfl
     rcases hBo _ hb with h | h
     ·exact hgB h
     ·have := hB _ q6
      omega
    ·simp only [if_true]
     rw [getD_setL _ _ _ _ _ hi, if_pos rfl, hu]
     exact hy
   ·refine ⟨r1, r2, fun b hb => ?_, ?_⟩
    ·have hb : (if j = i then Bo else Bs j) b := hb
     rw [if_neg e] at hb
     have := r3 b hb
     exact ⟨.inl ⟨this.1, fun h => q8 j i b hj hi e hb h⟩, this.2⟩
    ·simp only [if_neg e]
     rw [getD_setL _ _ _ _ _ hi, if_neg e]
     exact r4.frame (fun _ h => h) (fun b hb => by
      rcases hb with hb | hb
      ·exact hx.block b (hZ b hb).1 (fun h => (hZ b hb).2 (p3 b h).1)
      ·exact hx.block b (hB b (r3 b hb).1) (fun h => q8 j i b hj hi e hb h))
  ·rw [List.length_set] at hj hk
   have h1 : (if j = i then Bo else Bs j) b := h1
   have h2 : (if k = i then Bo else Bs k) b := h2
   by_cases e1 : j = i
   ·subst e1
    have e2 : ¬ k = j := fun e => hne e.symm
    simp only [if_true] at h1
    rw [if_neg e2] at h2
    rcases hBo _ h1 with h | h
    ·exact q8 j k b hj hk hne h h2
    ·have := hB _ ((q7 k hk).2.2.1 b h2).1
     omega
   ·by_cases e2 : k = i
    ·subst e2
     rw [if_neg e1] at h1
     simp only [if_true] at h2
     rcases hBo _ h2 with h | h
     ·exact q8 j k b hj hk hne h1 h
     ·have := hB _ ((q7 j hj).2.2.1 b h1).1
      omega
    ·rw [if_neg e1] at h1
     rw [if_neg e2] at h2
     exact q8 j k b hj hk hne h1 h2
section
variable {P : Program} {T : List (Nat × TI)} {o : Oper} {st st1 st2 : St}
variable {ops : Array Oper}
theorem vops_pre (hT : TabOk P T) {K : St → Prop} {Q : Exit → Act → World → Prop} (rest : List Nat) : ∀ (os : List Oper) (i : Nat), (ops.toList.drop i).take os.length = os → ∀ {L : Lay} {st : St} {a : Act} {w : World}, vops P T ops os st K → Rel L st a w Free → (∀ st' L' a' w', K st' → Stp L L' w w' → Rel L' st' a' w' Free → wpOps P ops Q rest a' w') → wpOps P ops Q (List.range' i os.length ++ rest) a w
 | [], i, hi, L, st, a, w, hv, h, hk => by
  simp only [List.length_nil, List.range'_zero, List.nil_append]
  exact hk st L a w hv (Stp.refl _ _) h
 | o :: r, i, hi, L, st, a, w, hv, h, hk => by
  have hcons : ∃ tl, ops.toList.drop i = o :: tl ∧ tl.take r.length = r := by
   cases hd : ops.toList.drop i with
   | nil => rw [hd] at hi; simp at hi
   | cons x tl =>
    rw [hd, List.length_cons, List.take_succ_cons] at hi
    injection hi with h1 h2
    exact ⟨tl, by rw [h1], h2⟩
  obtain ⟨tl, hd, htl⟩ := hcons
  have ho : ops[i]? = some o := by
   have : (ops.toList.drop i)[0]? = some o := by rw [hd]; rfl
   rw [List.getElem?_drop] at this
   simpa using this
  have hi' : (ops.toList.drop (i + 1)).take r.length = r := by rw [← List.drop_drop, hd]; exact htl
  simp only [List.length_cons, List.range'_succ, List.cons_append, wpOps, ho]
  unfold vops at hv
  have hg := vguard_ok h hv
  cases hw : Region.wanted o (yielded ops a.tmps) with
  | true =>
   rw [hw] at hg
   simp only at hg
   rw [if_pos rfl]
   left
   refine vread_ok hT hg (fun st1 pv hK => hK.1) L a w _ _ h fun st' L' a' w' ⟨st1, pv, hK, e⟩ hs hr => ?_
   subst e
   exact vops_pre hT rest r (i + 1) hi' hK.2 hr fun st2 L2 a2 w2 k1 k2 k3 => hk st2 L2 a2 w2 k1 (hs.trans k2) k3
  | false =>
   rw [hw] at hg
   simp only at hg
   rw [if_neg (by simp)]
   obtain ⟨L', s1, s2⟩ := skip_ok h hg.1
   exact vops_pre hT rest r (i + 1) hi' hg.2 s2 fun st2 L2 a2 w2 k1 k2 k3 => hk st2 L2 a2 w2 k1 (s1.trans k2) k3
/-- an ordered region with one operation by its own law -/
theorem VW.regE (hT : TabOk P T) (c : Nat) {id : Nat} {Q : Exit → St → Prop} (h : ∀ K : St → Prop, (∀ s o s2, ops[c]? = some o → o.guard = none → Does P o s (fun s' => s' = s2) → vops P T ops (ops.toList.drop (c + 1)) s2 (Q .normal) → K s) → vops P T ops (ops.toList.take c) st K) (hc : c < ops.size) : VW P (.region id ops false) st Q := by
 intro L a w hr
 refine wp_region ?_
 have hlen : (ops.toList.take c).length = c := by rw [List.length_take, Array.length_toList]; omega
 have hrange : List.range ops.size = List.range' 0 (ops.toList.take c).length ++ (c :: List.range' (c + 1) (ops.toList.drop (c + 1)).length) := by
  rw [hlen, List.length_drop, Array.length_toList, List.range_eq_range']
  obtain ⟨d, hd⟩ : ∃ d, ops.size = c + (d + 1) := ⟨ops.size - c - 1, by omega⟩
  rw [hd, show c + (d + 1) - (c + 1) = d by omega, ← List.range'_append_1, Nat.zero_add, List.range'_succ]
 rw [hrange]
 refine vops_pre hT _ (ops.toList.take c) 0 (by rw [hlen, List.drop_zero]) (h (fun s => ∃ o s2, ops[c]? = some o ∧ o.guard = none ∧ Does P o s (fun s' => s' = s2) ∧ vops P T ops (ops.toList.drop (c + 1)) s2 (Q .normal)) (fun s o s2 h1 h2 h3 h4 => ⟨o, s2, h1, h2, h3, h4⟩)) hr fun s L1 a1 w1 ⟨o, s2, h1, h2, h3, h4⟩ hs1 hr1 => ?_
 refine wpOps_step h1 h2 ?_
 refine h3 L1 a1 w1 _ _ hr1 fun s3 L2 a2 w2 e hs2 hr2 => ?_
 subst e
 exact vops_ok (Q := fun e a' w' => ∃ L' st', Stp L L' w w' ∧ Rel L' st' a' w' Free ∧ Q e st') hT (ops.toList.drop (c + 1)) (c + 1) rfl h4 hr2 fun s4 L4 a4 w4 k1 k2 k3 => ⟨L4, s4, (hs1.trans hs2).trans k2, k3, k1⟩
end
end Go.Proofs.YtmechjnfeidnkaaGreat.V
end
section
namespace Go.Proofs.YtmechjnfeidnkaaGreat.V
open Go Go.RowKit
/-- what holds nothing frozen -/
def clean1 : PV → PV
 | .v agg s x => if s.plain = true then .v agg s x else .dead
 | .root k s f x => if Fl.nofz s f = true then .root k s f x else .dead
 | .emp => .emp
 | _ => .dead
def clean (st : St) : St := st.map clean1
theorem clean_len (st : St) : (clean st).length = st.length := by simp [clean]
theorem clean_at (st : St) (t : Nat) : (clean st).at t = clean1 (st.at t) := by
 unfold clean St.at
 rw [List.getD_eq_getElem?_getD, List.getD_eq_getElem?_getD, List.getElem?_map]
 cases st[t]? <;> rfl
section
variable {L : Lay} {st : St} {a : Act} {w : World} {R : Nat → Prop}
/-- what is let go is frozen from then on -/
theorem Rel.frozen (h : Rel L st a w R) : Rel ⟨fun b => L.Z b ∨ R b, L.F, L.C, L.D⟩ st a w Free where
 size := h.size
 defers := h.defers
 zlt := fun b hb => hb.elim (h.zlt b) fun q => (h.rlt b q).1
 flt := fun t b hb => ⟨(h.flt t b hb).1, fun q => q.elim (h.flt t b hb).2 (h.rdj t b hb)⟩
 dj := h.dj
 rlt := fun b hb => hb.elim
 rdj := fun t b _ hb => hb.elim
 tmp := fun t ht => by
  have := h.tmp t ht
  rcases PV.root_or (st.at t) with ⟨k, s, f, x, e⟩ | e
  ·rw [e] at this ⊢
   obtain ⟨q1, B, q2, q3, q4⟩ := this
   exact ⟨q1, B, q2, q3, q4.frame (fun b hb => .inl hb) (fun _ _ => rfl)⟩
  ·rw [PVRep.of e] at this ⊢
   exact ORep.places (L' := ⟨fun b => L.Z b ∨ R b, L.F, L.C, L.D⟩) (fun b hb => Or.inl hb) (fun _ _ => rfl) (fun agg g p _ s1 cs1 ad1 h1 h2 h3 => ⟨s1, cs1, ad1, h1, h2, h3⟩) (fun g p _ s1 cs1 A h1 => ⟨cs1, h1⟩) this
theorem put_same {g : Nat} : a.put (some g) (a.tmps.getD g undef) = a := by
 show ({ a with tmps := a.tmps.setIfInBounds g (a.tmps.getD g undef) } : Act) = a
 have : a.tmps.setIfInBounds g (a.tmps.getD g undef) = a.tmps := by
  apply Array.ext
  ·simp
  ·intro j h1 h2
   rw [Array.getElem_setIfInBounds h2]
   split
   ·rename_i e
    subst e
    simp [Array.getD, h2]
   ·rfl
 rw [this]
theorem Rel.clean (h : Rel L st a w Free) {Z : Nat → Prop} (hZ : ∀ b, Z b → L.Z b) : Rel ⟨Z, L.F, L.C, L.D⟩ (V.clean st) a w Free where
 size := by rw [clean_len]; exact h.size
 defers := h.defers
 zlt := fun b hb => h.zlt b (hZ b hb)
 flt := fun t b hb => ⟨(h.flt t b hb).1, fun q => (h.flt t b hb).2 (hZ b q)⟩
 dj := h.dj
 rlt := fun b hb => hb.elim
 rdj := fun t b _ hb => hb.elim
 tmp := fun t ht => by
  rw [clean_len] at ht
  have := h.tmp t ht
  rw [clean_at]
  generalize a.tmps.getD t undef = v at this ⊢
  cases hp : st.at t with
  | v agg s x =>
   rw [hp] at this
   simp only [clean1]
   split
   ·rename_i hs
    obtain ⟨cs, q1, q2⟩ := this
    exact ⟨cs, q1, q2.plain hs⟩
   ·trivial
  | root k s f x =>
   rw [hp] at this
   simp only [clean1]
   split
   ·rename_i hs
    obtain ⟨q1, B, q2, q3, q4⟩ := this
    exact ⟨q1, B, q2, q3, q4.nofz hs⟩
   ·trivial
  | emp =>
   rw [hp] at this
   exact this
  | dead => trivial
  | h => trivial
  | adr => trivial
  | fadr => trivial
  | fn => trivial
end
/-- one's own memory that is read alone till the end: it counts as frozen -/
theorem VW.giveup {P : Program} {c : Code} {st : St} {Q : Exit → St → Prop} (g : Nat) {s : Sh} {fl : Fl} {x : s.ty} (hg : st.at g = .root (.val false) s fl x) (hs : Fl.sound s fl = true) (h : VW P c ((st.map (V.drop g)).set g (.v false s x)) (fun e st2 => Q e (clean st2))) : VW P c st Q := by
 intro L a w hr
 obtain ⟨B, r1, r2, r3⟩ := hr.gone hg
 have r4 := r1.frozen
 have hroot := (hr.root hg).1
 have hgl : g < st.length := root_lt hg
 have hdead : (St.at ((st.map (V.drop g)).set g .dead) g).isRoot = false := by
  rw [St.at_set, if_pos ⟨rfl, by rw [List.length_map]; exact hgl⟩]
  rfl
 have r5 := r4.setO (d := g) (v := a.tmps.getD g undef) hdead (pv := .v false s x) rfl ⟨L.C g, hroot.1, r3.freeze (fun b hb => .inl hb) hs (fun b hb => .inr (.inr (r2 b hb)))⟩
 rw [put_same, List.set_set] at r5
 refine wp_mono (h _ a w r5) fun e a' w' ⟨L', st', s', r', q⟩ => ⟨⟨L.Z, L'.F, L'.C, L'.D⟩, _, ?_, r'.clean (fun b hb => by rw [s'.Z]; exact .inl hb), q⟩
 refine ⟨s'.os, s'.tape, s'.output, s'.size, fun n hn hL => s'.block n hn fun t ht => ?_, rfl, fun t n hn => ?_⟩
 ·simp only at ht
  split at ht
  ·exact ht
  ·exact hL t ht
 ·rcases s'.F t n hn with ⟨t', ht⟩ | hn
  ·simp only at ht
   split at ht
   ·exact ht.elim
   ·exact .inl ⟨t', ht⟩
  ·exact .inr hn
end Go.Proofs.YtmechjnfeidnkaaGreat.V
end
section
namespace Go.Proofs.YtmechjnfeidnkaaGreat.V
open Go Go.RowKit
section
variable {L : Lay} {st : St} {a : Act} {w : World} {R : Nat → Prop}
theorem Rel.unheld (h : Rel L st a w R) : Rel L st a w Free where
 size := h.size
 defers := h.defers
 zlt := h.zlt
 flt := h.flt
 dj := h.dj
 rlt := fun b hb => hb.elim
 rdj := fun t b _ hb => hb.elim
 tmp := h.tmp
variable {P : Program} {T : List (Nat × TI)} {o : Oper} {K : St → Prop}
theorem does_gone {d : Nat} {k : RK} {s : Sh} {f : Fl} {x : s.ty} (hg : st.at d = .root k s f x) (h1 : Does P o ((st.map (drop d)).set d .dead) K) : Does P o st K := by
 intro L a w next Q h hk
 obtain ⟨B, r1, _, _⟩ := h.gone hg
 refine h1 _ a w next Q r1.unheld fun st' L' a' w' k s r => hk st' L' a' w' k ⟨s.os, s.tape, s.output, s.size, fun n hn hL => s.block n hn fun t ht => ?_, s.Z, fun t n hn => ?_⟩ r
 ·simp only at ht
  split at ht
  ·exact ht
  ·exact hL t ht
 ·rcases s.F t n hn with ⟨t', ht⟩ | hn
  ·simp only at ht
   split at ht
   ·exact ht.elim
   ·exact .inl ⟨t', ht⟩
  ·exact .inr hn
/-- an assignment to a temporary that holds own memory -/
theorem does_over (hT : TabOk P T) {d : Nat} {k : RK} {s : Sh} {f : Fl} {x : s.ty} {out : Out} {s2 : St} (hg : st.at d = .root k s f x) (hp : pop T ((st.map (drop d)).set d .dead) ((st.map (drop d)).set d .dead) o = some out) (hc : out.c = true) (hd : nonroot out.st o.dst = true) (hs : setD out.st o.dst out.pv = s2) : Does P o st (fun s' => s' = s2) := by
 subst hs
 exact does_gone hg (does_pop hT (fun _ _ _ _ _ h => h) hp hc hd)
end
end Go.Proofs.YtmechjnfeidnkaaGreat.V
end
section
namespace Go.Proofs.YtmechjnfeidnkaaGreat.V.W
open Go Go.RowKit
/-- the first and the last i turned -/
def revTo (xs : List Int) (i : Nat) : List Int := (List.range xs.length).map fun m => if m < i ∨ xs.length ≤ m + i then xs.getD (xs.length - 1 - m) 0 else xs.getD m 0
theorem revTo_len (xs : List Int) (i : Nat) : (revTo xs i).length = xs.length := by simp [revTo]
theorem revTo_get {xs : List Int} {i m : Nat} (h : m < xs.length) : (revTo xs i).getD m 0 = if m < i ∨ xs.length ≤ m + i then xs.getD (xs.length - 1 - m) 0 else xs.getD m 0 := by
 rw [revTo, List.getD_eq_getElem?_getD, List.getElem?_map, List.getElem?_range h]; rfl
theorem list_ext {xs ys : List Int} (h : xs.length = ys.length) (hg : ∀ m, m < xs.length → xs.getD m 0 = ys.getD m 0) : xs = ys := by
 refine List.ext_getElem h fun m h1 h2 => ?_
 have := hg m h1
 rwa [List.getD_eq_getElem?_getD, List.getElem?_eq_getElem h1, List.getD_eq_getElem?_getD, List.getElem?_eq_getElem h2] at this
theorem set_getD {xs : List Int} {j m : Nat} {y : Int} (h : m < xs.length) : (xs.set j y).getD m 0 = if j = m then y else xs.getD m 0 := by
 rw [List.getD_eq_getElem?_getD, List.getElem?_set, List.getD_eq_getElem?_getD]
 by_cases e : j = m
 ·subst e; simp [h]
 ·simp [e]
theorem revTo_zero (xs : List Int) : revTo xs 0 = xs := by
 refine list_ext (revTo_len _ _) fun m hm => ?_
 rw [revTo_len] at hm
 rw [revTo_get hm, if_neg (by omega)]
theorem revTo_done {xs : List Int} {i : Nat} (h : xs.length - 1 - i ≤ i) : revTo xs i = xs.reverse := by
 refine list_ext (by rw [revTo_len, List.length_reverse]) fun m hm => ?_
 rw [revTo_len] at hm
 rw [revTo_get hm, List.getD_eq_getElem?_getD (l := xs.reverse), List.getElem?_reverse hm, ← List.getD_eq_getElem?_getD]
 split
 ·rfl
 ·congr 1; omega
theorem revTo_step {xs : List Int} {i : Nat} (h : i < xs.length - 1 - i) : ((revTo xs i).set i (xs.getD (xs.length - 1 - i) 0)).set (xs.length - 1 - i) (xs.getD i 0) = revTo xs (i + 1) := by
 refine list_ext (by simp only [List.length_set, revTo_len]) fun m hm => ?_
 simp only [List.length_set, revTo_len] at hm
 rw [set_getD (by simp only [List.length_set, revTo_len]; exact hm), set_getD (by rw [revTo_len]; exact hm), revTo_get hm, revTo_get hm]
 by_cases e1 : xs.length - 1 - i = m
 ·rw [if_pos e1, if_pos (by omega)]; congr 1; omega
 ·rw [if_neg e1]
  by_cases e2 : i = m
  ·subst e2; rw [if_pos rfl, if_pos (by omega)]
  ·rw [if_neg e2]
   by_cases e3 : m < i ∨ xs.length ≤ m + i
   ·rw [if_pos e3, if_pos (by omega)]
   ·rw [if_neg e3, if_neg (by omega)]
set_option maxRecDepth 20000 in
theorem reverse_vx (xs : List Int) (h0 : 0 < xs.length) (hl : xs.length ≤ 2000000) :
  VX Tryz.prog 127 [.root (.val false) sI .own xs] 0 (fun pv ot => pv = nil0 ∧ ot = .root (.val false) sI .own xs.reverse) := by
 refine VX.of_rows hT Tryz.func127 rfl (by kernel_rfl) [] (by kernel_rfl) rfl rfl h0 fun l fi li e1 e2 => ?_
 obtain ⟨n, cp, rfl, rfl⟩ := io1 e1 e2
 show VW _ _ ([.root (.val false) sI (.io n cp) xs, D, D, D, D, D, D, D, D, D, D, D, D, D, D, D, D, D, D, D, D, D, D, D, D, D, D, D]) _
 repeat refine VW.seq ?_
 refine VW.regl hT fun K hK => ?_
 simp only [wq, simprocAttr]
 refine hK _ ?_
 clear hK K
 try refine vthen_n ?_
 rw [wrap64 (by omega) (by omega)]
 repeat refine VW.seq ?_
 refine VW.block ?_
 refine VW.loop (α := Nat) [(0, none), (2, none), (3, none)] (fun i => [.root (.val false) sI (.io n cp) (revTo xs i), D, .v false (.int .i64) (i), .v false (.int .i64) ((xs.length : Int) - 1 - i), D, D, D, D, D, D, D, D, D, D, D, D, D, D, D, D, D, D, D, D, D, D, D, D]) (fun i => 2 * i ≤ xs.length + 1) (fun i => xs.length + 1 - i) ⟨0, by omega, ?_⟩ fun i hi => ?_
 ·simp only [wn, wq, simprocAttr]
  rw [revTo_zero]
  simp
 repeat refine VW.seq ?_
 refine VW.regl hT fun K hK => ?_
 simp only [wq, simprocAttr]
 refine hK _ ?_
 clear hK K
 try refine vthen_n ?_
 have hrl := revTo_len xs i
 repeat refine VW.seq ?_
 refine VW.cond rfl (fun hc => ?_) (fun hc => ?_)
 ·have hlt : (i : Int) < (xs.length : Int) - 1 - i := of_decide_eq_true hc
  have hj : (xs.length : Int) - 1 - i = ((xs.length - 1 - i : Nat) : Int) := by omega
  rw [hj]
  refine VW.skip (vthen_n ?_)
  repeat refine VW.seq ?_
  refine VW.block ?_
  repeat refine VW.seq ?_
  refine VW.mixl hT hm 4 12 (by kernel_rfl) fun K hK => ?_
  simp only [wq, simprocAttr]
  refine ⟨by kernel_rfl, by kernel_rfl, decide_eq_true ⟨Int.natCast_nonneg _, by show ((xs.length - 1 - i : Nat) : Int) < ((revTo xs i).length : Int); omega⟩, by kernel_rfl, by kernel_rfl, by kernel_rfl, decide_eq_true ⟨Int.natCast_nonneg _, by show (i : Int) < ((revTo xs i).length : Int); omega⟩, by kernel_rfl, decide_eq_true ⟨Int.natCast_nonneg _, by show (i : Int) < ((revTo xs i).length : Int); omega⟩, decide_eq_true ⟨Int.natCast_nonneg _, by show ((xs.length - 1 - i : Nat) : Int) < ((List.set _ _ _).length : Int); rw [List.length_set]; omega⟩, ?_⟩
  have g1 : (revTo xs i).getD (xs.length - 1 - i) 0 = xs.getD (xs.length - 1 - i) 0 := by rw [revTo_get (by omega), if_neg (by omega)]
  have g2 : (revTo xs i).getD i 0 = xs.getD i 0 := by rw [revTo_get (by omega), if_neg (by omega)]
  rw [g1, g2, revTo_step (by omega)]
  refine hK _ ?_
  clear hK K
  try refine vthen_n ?_
  repeat refine VW.seq ?_
  refine VW.regl hT fun K hK => ?_
  simp only [wq, simprocAttr]
  refine hK _ ?_
  clear hK K
  try refine vthen_n ?_
  refine ⟨i + 1, by omega, ?_, by show xs.length + 1 - (i + 1) < xs.length + 1 - i; omega⟩
  simp only [wn, wq, simprocAttr]
  rw [wrap64 (by omega) (by omega), wrap64 (by omega) (by omega), show ((xs.length - 1 - i : Nat) : Int) - 1 = (xs.length : Int) - 1 - ((i + 1 : Nat) : Int) by omega]
  rfl
 ·have hge : ¬ (i : Int) < (xs.length : Int) - 1 - i := of_decide_eq_false hc
  refine VW.exit ?_
  refine ⟨.inr rfl, _, _, _, _, rfl, ⟨0, _, rfl⟩, ?_, rfl, ?_⟩
  ·show some [Value.slice (some ⟨n, 0, none⟩) (revTo xs i).length cp] = some [Value.slice (some ⟨n, 0, none⟩) xs.length cp]
   rw [hrl]
  ·show PV.root (.val false) sI .own (revTo xs i) = _
   rw [revTo_done (by omega)]
/-- the bridge i steps above -/
def anc (t : List Nd) (k : Int) : Nat → Int
 | 0 => k
 | i + 1 => (t.getD (anc t k i).toNat z).1
/-- a node and all above it, from the root on -/
def pathTo (t : List Nd) (k : Int) : List Int := if (treeOk t && inB k 0 (t.length - 1)) = true then (((List.range t.length).map (anc t k)).filter fun x => decide (0 ≤ x)).reverse else []
theorem anc_lt {t : List Nd} {k : Int} (h : treeOk t = true) (hk : k < t.length) : ∀ i, -1 ≤ k → -1 ≤ anc t k i ∧ anc t k i < t.length ∧ (0 ≤ anc t k i → anc t k i ≤ k - i)
 | 0, h0 => ⟨h0, hk, fun _ => by show k ≤ k - 0; omega⟩
 | i + 1, h0 => by
  have h1 := anc_lt h hk i h0
  have hl := treeOk_len h
  show -1 ≤ (t.getD (anc t k i).toNat z).1 ∧ (t.getD (anc t k i).toNat z).1 < t.length ∧ (0 ≤ (t.getD (anc t k i).toNat z).1 → (t.getD (anc t k i).toNat z).1 ≤ k - ((i + 1 : Nat) : Int))
  rcases Nat.eq_zero_or_pos (anc t k i).toNat with e | e
  ·rw [e, (tree_parts h).2.1]
   exact ⟨by decide, by show (-1 : Int) < _; omega, fun h => absurd h (by decide)⟩
  ·obtain ⟨p, hp, hpl⟩ := par h (j := (anc t k i).toNat) (by omega) (by omega)
   rw [hp]
   omega
theorem anc_out {t : List Nd} {k : Int} (h : treeOk t = true) {i : Nat} (hi : anc t k i < 0) : ∀ j, i ≤ j → anc t k j < 0
 | 0, hj => by
  obtain rfl : i = 0 := by omega
  exact hi
 | j + 1, hj => by
  rcases Nat.lt_or_ge j i with h1 | h1
  ·obtain rfl : i = j + 1 := by omega
   exact hi
  ·have := anc_out h hi j h1
   show (t.getD (anc t k j).toNat z).1 < 0
   rw [show (anc t k j).toNat = 0 by omega, (tree_parts h).2.1]
   decide
/-- the first i -/
def accTo (t : List Nd) (k : Int) (i : Nat) : List Int := (List.range i).map (anc t k)
theorem accTo_succ (t : List Nd) (k : Int) (i : Nat) : accTo t k (i + 1) = accTo t k i ++ [anc t k i] := by simp [accTo, List.range_succ]
theorem accTo_all {t : List Nd} {k : Int} (h : treeOk t = true) {i : Nat} (hi : anc t k i < 0) (hj : ∀ j, j < i → 0 ≤ anc t k j) : ∀ n, i ≤ n → (((List.range n).map (anc t k)).filter fun x => decide (0 ≤ x)) = accTo t k i
 | 0, hn => by
  obtain rfl : i = 0 := by omega
  rfl
 | n + 1, hn => by
  rcases Nat.lt_or_ge n i with h1 | h1
  ·obtain rfl : i = n + 1 := by omega
   unfold accTo
   rw [List.filter_eq_self]
   intro x hx
   obtain ⟨j, h2, rfl⟩ := List.mem_map.1 hx
   exact decide_eq_true (hj j (List.mem_range.1 h2))
  ·rw [List.range_succ, List.map_append, List.filter_append, accTo_all h hi hj n h1]
   have := anc_out h hi n h1
   simp only [List.map_cons, List.map_nil, List.filter_cons, List.filter_nil]
   rw [if_neg (by rw [decide_eq_true_iff]; omega), List.append_nil]
set_option maxRecDepth 20000 in
theorem pathTo_vc (t : List Nd) (k : Int) (hl : t.length ≤ 2000000) : VC Tryz.prog 126 [.v false sNS t, .v false (.int .i64) (k)] (· = .root (.val false) sI .own (pathTo t k)) := by
 refine VC.of_body hT Tryz.func126 rfl (by kernel_rfl) [(.tmp 4, false, sI)] (by kernel_rfl) ?_
 show VW _ _ ([.v false sNS t, .v false (.int .i64) (k), D, D, D, D, D, D, D, D, D, D, D, D, D, D, D, D, D, D, D, D, D, D, D, D]) _
 repeat refine VW.seq ?_
 refine VW.regl hT fun K hK => ?_
 simp only [wq, simprocAttr]
 refine hK _ ?_
 clear hK K
 try refine vthen_n ?_
 repeat refine VW.seq ?_
 refine VW.regl hT fun K hK => ?_
 simp only [wq, simprocAttr]
 refine hK _ ?_
 clear hK K
 try refine vthen_n ?_
 repeat refine VW.seq ?_
 refine VW.regl hT fun K hK => ?_
 simp only [wq, simprocAttr]
 refine vcall_of (isNode_vc t k hl) ?_
 simp only [wq, simprocAttr]
 refine hK _ ?_
 clear hK K
 try refine vthen_n ?_
 repeat refine VW.seq ?_
 refine VW.cond rfl (fun hc => ?_) (fun hc => ?_)
 ·repeat refine VW.seq ?_
  refine VW.regl hT fun K hK => ?_
  simp only [wq, simprocAttr]
  refine hK _ ?_
  clear hK K
  try refine vthen_n ?_
  refine VW.ret ⟨.inl rfl, _, rfl, ?_⟩
  have h' : (treeOk t && inB k 0 (t.length - 1)) = false := (Bool.not_eq_true' _).mp hc
  rw [pathTo, h']
  rfl
 have hok : (treeOk t && inB k 0 (t.length - 1)) = true := by
  have := hc
  rwa [Bool.not_eq_false'] at this
 have hk := hok
 simp only [Bool.and_eq_true] at hk
 have htr := hk.1
 have hk := inB_iff.1 hk.2
 have htl := treeOk_len htr
 refine VW.skip ?_
 show vthen _ _ _ .normal _
 refine vthen_n ?_
 repeat refine VW.seq ?_
 refine VW.block ?_
 refine VW.loop (α := Nat) [(0, none), (1, none), (5, some (3, .int .i64))] (fun i => [.v false sNS t, .v false (.int .i64) (anc t k i), D, D, D, .root (.val false) sI .own (accTo t k i), D, D, D, D, D, D, D, D, D, D, D, D, D, D, D, D, D, D, D, D]) (fun i => i ≤ t.length ∧ ∀ j, j < i → 0 ≤ anc t k j) (fun i => t.length - i) ⟨0, ⟨by omega, fun j hj => by omega⟩, ?_⟩ fun i ⟨hi, hj⟩ => ?_
 ·simp only [wn, wq, simprocAttr]
  try rfl
 have ha := anc_lt htr (show k < t.length by omega) i (by omega)
 have hal : (accTo t k i).length = i := by simp [accTo]
 repeat refine VW.seq ?_
 refine VW.regl hT fun K hK => ?_
 simp only [wq, simprocAttr]
 refine hK _ ?_
 clear hK K
 try refine vthen_n ?_
 repeat refine VW.seq ?_
 refine VW.cond rfl (fun hc => ?_) (fun hc => ?_)
 ·have hge : 0 ≤ anc t k i := of_decide_eq_true hc
  have := ha.2.2 hge
  refine VW.skip (vthen_n ?_)
  repeat refine VW.seq ?_
  refine VW.block ?_
  repeat refine VW.seq ?_
  refine VW.regl hT fun K hK => ?_
  simp only [wq, simprocAttr]
  refine ⟨by simp [limOk]; omega, ?_⟩
  refine hK _ ?_
  clear hK K
  try refine vthen_n ?_
  repeat refine VW.seq ?_
  refine VW.regl hT fun K hK => ?_
  simp only [wq, simprocAttr]
  refine ⟨decide_eq_true ⟨hge, ha.2.1⟩, ?_⟩
  refine hK _ ?_
  clear hK K
  try refine vthen_n ?_
  refine ⟨i + 1, ⟨by omega, fun j h => ?_⟩, ?_, by show t.length - (i + 1) < t.length - i; omega⟩
  ·rcases Nat.lt_or_ge j i with h1 | h1
   ·exact hj j h1
   ·obtain rfl : j = i := by omega
    exact hge
  ·simp only [wn, wq, simprocAttr]
   rw [accTo_succ]
   rfl
 ·have hlt : anc t k i < 0 := by
   have : ¬ 0 ≤ anc t k i := of_decide_eq_false hc
   omega
  refine VW.exit ?_
  show vthen _ _ _ .normal _
  refine vthen_n ?_
  have h0 : 0 < (accTo t k i).length := by
   rcases Nat.eq_zero_or_pos i with rfl | h
   ·exact absurd hk.1 (by show ¬ 0 ≤ k; exact (by have : anc t k 0 = k := rfl; omega))
   ·omega
  repeat refine VW.seq ?_
  refine VW.regl hT fun K hK => ?_
  simp only [wq, simprocAttr]
  refine vcall_io 0 ?_
  simp only [wq, simprocAttr]
  refine vxcall_of (reverse_vx _ h0 (by omega)) ?_
  simp only [wq, simprocAttr]
  refine hK _ ?_
  clear hK K
  try refine vthen_n ?_
  repeat refine VW.seq ?_
  refine VW.regl hT fun K hK => ?_
  simp only [wq, simprocAttr]
  refine hK _ ?_
  clear hK K
  try refine vthen_n ?_
  refine VW.ret ⟨.inl rfl, _, rfl, ?_⟩
  rw [pathTo, if_pos hok, accTo_all htr hlt hj _ hi]
end Go.Proofs.YtmechjnfeidnkaaGreat.V.W
end
section
namespace Go.Proofs.YtmechjnfeidnkaaGreat.V.W
open Go Go.RowKit
/-- a window covers an address -/
def covB (b : Int × Int) (a : Int) : Bool := decide (b.1 > 0) && (decide (a ≥ b.2) && decide (IntKind.u64.wrap (IntKind.u64.wrap a - IntKind.u64.wrap b.2) < IntKind.u64.wrap b.1))
theorem covers_vc (b : Int × Int) (a : Int) : VC Tryz.prog 148 [.v true sBr b, .v false (.int .i64) (a)] (· = .v false .bool (covB b a)) := by
 refine VC.of_body hT Tryz.func148 rfl (by kernel_rfl) [(.tmp 4, false, .bool)] (by kernel_rfl) ?_
 show VW _ _ ([.v true sBr b, .v false (.int .i64) (a), D, D, D, D, D, D, D, D, D, D, D, D, D, D, D, D, D, D, D, D, D, D, D, D]) _
 repeat refine VW.seq ?_
 refine VW.regl hT fun K hK => ?_
 simp only [wq, simprocAttr]
 refine hK _ ?_
 clear hK K
 try refine vthen_n ?_
 repeat refine VW.seq ?_
 refine VW.regl hT fun K hK => ?_
 simp only [wq, simprocAttr]
 refine vbr (fun h => ?_) (fun h => ?_) <;> simp only [wq, simprocAttr]
 case refine_2 =>
  refine hK _ ?_
  clear hK K
  try refine vthen_n ?_
  refine VW.ret ⟨.inl rfl, _, rfl, ?_⟩
  have h : decide (b.1 > 0) = false := h
  rw [covB, h]
  rfl
 have h : decide (b.1 > 0) = true := h
 refine vbr (fun h2 => ?_) (fun h2 => ?_) <;> simp only [wq, simprocAttr]
 case refine_2 =>
  refine hK _ ?_
  clear hK K
  try refine vthen_n ?_
  refine VW.ret ⟨.inl rfl, _, rfl, ?_⟩
  have h2 : decide (a ≥ b.2) = false := h2
  rw [covB, h, h2]
  rfl
 have h2 : decide (a ≥ b.2) = true := h2
 refine hK _ ?_
 clear hK K
 try refine vthen_n ?_
 refine VW.ret ⟨.inl rfl, _, rfl, ?_⟩
 rw [covB, h, h2]
 rfl
def winsOk (t : List Nd) (b : List (Int × Int)) : Bool := treeOk t && (b.length == t.length)
theorem areWindows_vc (t : List Nd) (b : List (Int × Int)) (hl : t.length ≤ 2000000) : VC Tryz.prog 146 [.v false sNS t, .v false sBS b] (· = .v false .bool (winsOk t b)) := by
 refine VC.of_body hT Tryz.func146 rfl (by kernel_rfl) [(.tmp 4, false, .bool)] (by kernel_rfl) ?_
 show VW _ _ ([.v false sNS t, .v false sBS b, D, D, D, D, D, D, D, D, D, D, D, D]) _
 repeat refine VW.seq ?_
 refine VW.regl hT fun K hK => ?_
 simp only [wq, simprocAttr]
 refine hK _ ?_
 clear hK K
 try refine vthen_n ?_
 repeat refine VW.seq ?_
 refine VW.regl hT fun K hK => ?_
 simp only [wq, simprocAttr]
 refine vcall_of (treeOk_vc t hl) ?_
 simp only [wq, simprocAttr]
 refine vbr (fun h => ?_) (fun h => ?_) <;> simp only [wq, simprocAttr]
 case refine_2 =>
  refine hK _ ?_
  clear hK K
  try refine vthen_n ?_
  refine VW.ret ⟨.inl rfl, _, rfl, ?_⟩
  have h : treeOk t = false := h
  rw [winsOk, h]
  rfl
 have h : treeOk t = true := h
 refine hK _ ?_
 clear hK K
 try refine vthen_n ?_
 refine VW.ret ⟨.inl rfl, _, rfl, ?_⟩
 rw [winsOk, h, ← lenEq]
 rfl
/-- the node of which k is asked -/
def owns (t : List Nd) (b : List (Int × Int)) (a : Int) (k : Nat) : Bool := !((t.getD k z).2.2 == 0) && covB (b.getD k zb) a
/-- the first node that owns an address, -1 if there is none -/
def ownGo (t : List Nd) (b : List (Int × Int)) (a : Int) : Nat → Nat → Int
 | 0, _ => -1
 | f + 1, k => if owns t b a k = true then (k : Int) else ownGo t b a f (k + 1)
def ownerOf (t : List Nd) (b : List (Int × Int)) (a : Int) : Int := if winsOk t b = true then ownGo t b a t.length 0 else -1
set_option maxRecDepth 20000 in
theorem owner_vc (t : List Nd) (b : List (Int × Int)) (a : Int) (hl : t.length ≤ 2000000) : VC Tryz.prog 119 [.v false sNS t, .v false sBS b, .v false (.int .i64) (a)] (· = .v false (.int .i64) (ownerOf t b a)) := by
 refine VC.of_body hT Tryz.func119 rfl (by kernel_rfl) [(.tmp 6, false, .int .i64)] (by kernel_rfl) ?_
 show VW _ _ ([.v false sNS t, .v false sBS b, .v false (.int .i64) (a), D, D, D, D, D, D, D, D, D, D, D, D, D, D, D, D, D, D, D, D, D, D, D, D, D, D, D, D]) _
 repeat refine VW.seq ?_
 refine VW.regl hT fun K hK => ?_
 simp only [wq, simprocAttr]
 refine hK _ ?_
 clear hK K
 try refine vthen_n ?_
 repeat refine VW.seq ?_
 refine VW.regl hT fun K hK => ?_
 simp only [wq, simprocAttr]
 refine vcall_of (areWindows_vc t b hl) ?_
 simp only [wq, simprocAttr]
 refine hK _ ?_
 clear hK K
 try refine vthen_n ?_
 repeat refine VW.seq ?_
 refine VW.cond rfl (fun hc => ?_) (fun hc => ?_)
 ·repeat refine VW.seq ?_
  refine VW.regl hT fun K hK => ?_
  simp only [wq, simprocAttr]
  refine hK _ ?_
  clear hK K
  try refine vthen_n ?_
  refine VW.ret ⟨.inl rfl, _, rfl, ?_⟩
  have hc : winsOk t b = false := (Bool.not_eq_true' _).mp hc
  rw [ownerOf, hc]
  rfl
 have hw : winsOk t b = true := by
  have := hc
  rwa [Bool.not_eq_false'] at this
 have hw2 := hw
 rw [winsOk, Bool.and_eq_true, beq_iff_eq] at hw2
 obtain ⟨hok, hbl⟩ := hw2
 refine VW.skip (vthen_n ?_)
 repeat refine VW.seq ?_
 refine VW.regl hT fun K hK => ?_
 simp only [wq, simprocAttr]
 refine hK _ ?_
 clear hK K
 try refine vthen_n ?_
 repeat refine VW.seq ?_
 refine VW.block ?_
 refine VW.loop (α := Nat) [(0, none), (1, none), (2, none), (13, none), (14, none)] (fun i => [.v false sNS t, .v false sBS b, .v false (.int .i64) (a), D, D, D, D, D, D, D, D, D, D, .v false (.int .i64) ((t.length : Nat)), .v false (.int .i64) ((i : Nat)), D, D, D, D, D, D, D, D, D, D, D, D, D, D, D, D]) (fun i => i ≤ t.length ∧ ownerOf t b a = ownGo t b a (t.length - i) i) (fun i => t.length - i) ⟨0, ⟨by omega, by rw [ownerOf, if_pos hw]; rfl⟩, ?_⟩ fun i ⟨hi, hgo⟩ => ?_
 ·simp only [wn, wq, simprocAttr]
  try rfl
 repeat refine VW.seq ?_
 refine VW.regl hT fun K hK => ?_
 simp only [wq, simprocAttr]
 refine hK _ ?_
 clear hK K
 try refine vthen_n ?_
 repeat refine VW.seq ?_
 refine VW.cond rfl (fun hc => ?_) (fun hc => ?_)
 ·have hlt : i < t.length := by simpa using hc
  obtain ⟨f, hf⟩ : ∃ f, t.length - i = f + 1 := ⟨t.length - i - 1, by omega⟩
  rw [hf, ownGo] at hgo
  refine VW.skip (vthen_n ?_)
  repeat refine VW.seq ?_
  refine VW.block ?_
  repeat refine VW.seq ?_
  refine VW.regl hT fun K hK => ?_
  simp only [wq, simprocAttr]
  refine hK _ ?_
  clear hK K
  try refine vthen_n ?_
  apply cutl
  ·intro tail
   repeat refine VW.seq ?_
   refine VW.regl hT fun K hK => ?_
   simp only [wq, simprocAttr]
   refine vcall_of (isBridge_vc t i (by omega) (by omega)) ?_
   simp only [wq, simprocAttr]
   refine vbr (fun h => ?_) (fun h => ?_) <;> simp only [wq, simprocAttr]
   case refine_2 =>
    have h : (!((t.getD i z).2.2 == 0)) = false := h
    have ho : owns t b a i = false := by rw [owns, h, Bool.false_and]
    refine hK _ ?_
    try refine vthen_n ?_
    refine VW.cond rfl (fun hc => by cases hc) (fun hc => ?_)
    refine VW.skip ?_
    show vthen _ _ _ .normal _
    refine vthen_n ?_
    refine VW.weak (weak_norm [(0, none), (1, none), (2, none), (13, none), (14, none)] _) ?_
    simp only [wn, wq, simprocAttr]
    revert ho
    exact tail.h
   have h : (!((t.getD i z).2.2 == 0)) = true := h
   refine ⟨decide_eq_true ⟨Int.natCast_nonneg _, by show (i : Int) < (b.length : Int); omega⟩, ?_⟩
   refine vcall_of (covers_vc _ _) ?_
   simp only [wq, simprocAttr]
   refine hK _ ?_
   try refine vthen_n ?_
   refine VW.cond rfl (fun hc => ?_) (fun hc => ?_)
   ·have hc : covB (b.getD i zb) a = true := hc
    have ho : owns t b a i = true := by rw [owns, h, hc]; rfl
    rw [if_pos ho] at hgo
    repeat refine VW.seq ?_
    refine VW.regl hT fun K hK => ?_
    simp only [wq, simprocAttr]
    refine hK _ ?_
    clear hK K
    try refine vthen_n ?_
    refine VW.ret ⟨.inl rfl, _, rfl, ?_⟩
    rw [hgo]
   ·have hc : covB (b.getD i zb) a = false := hc
    have ho : owns t b a i = false := by rw [owns, h, hc]; rfl
    refine VW.skip ?_
    show vthen _ _ _ .normal _
    refine vthen_n ?_
    refine VW.weak (weak_norm [(0, none), (1, none), (2, none), (13, none), (14, none)] _) ?_
    simp only [wn, wq, simprocAttr]
    revert ho
    exact tail.h
  ·intro ho
   rw [if_neg (by rw [ho]; decide)] at hgo
   repeat refine VW.seq ?_
   refine VW.regl hT fun K hK => ?_
   simp only [wq, simprocAttr]
   refine hK _ ?_
   clear hK K
   try refine vthen_n ?_
   refine ⟨i + 1, ⟨hlt, by rw [hgo, show t.length - (i + 1) = f by omega]⟩, ?_, by show t.length - (i + 1) < t.length - i; omega⟩
   simp only [wn, wq, simprocAttr]
   rw [wrap64 (by omega) (by omega)]
   rfl
 ·have hge : i = t.length := by
   have : t.length ≤ i := by simpa using hc
   omega
  subst hge
  refine VW.exit ?_
  show vthen _ _ _ .normal _
  refine vthen_n ?_
  repeat refine VW.seq ?_
  refine VW.regl hT fun K hK => ?_
  simp only [wq, simprocAttr]
  refine hK _ ?_
  clear hK K
  try refine vthen_n ?_
  refine VW.ret ⟨.inl rfl, _, rfl, ?_⟩
  rw [hgo, Nat.sub_self]
  rfl
end Go.Proofs.YtmechjnfeidnkaaGreat.V.W
end
section
namespace Go.Proofs.YtmechjnfeidnkaaGreat.V.W
open Go Go.RowKit
/-- how long two rows agree -/
def cpl : List Int → List Int → Nat
 | a :: x, b :: y => if a = b then cpl x y + 1 else 0
 | _, _ => 0
theorem cpl_eq : ∀ (x y : List Int) (n : Nat), n ≤ x.length → n ≤ y.length → (∀ j, j < n → x.getD j 0 = y.getD j 0) → (n = x.length ∨ n = y.length ∨ x.getD n 0 ≠ y.getD n 0) → cpl x y = n
 | [], y, n, h1, h2, h3, h4 => by
  obtain rfl : n = 0 := by simpa using h1
  simp [cpl]
 | a :: x, [], n, h1, h2, h3, h4 => by
  obtain rfl : n = 0 := by simpa using h2
  simp [cpl]
 | a :: x, b :: y, 0, h1, h2, h3, h4 => by
  have : a ≠ b := by
   rcases h4 with h | h | h
   ·simp at h
   ·simp at h
   ·simpa using h
  simp [cpl, this]
 | a :: x, b :: y, n + 1, h1, h2, h3, h4 => by
  have h0 : a = b := by simpa using h3 0 (by omega)
  have ih := cpl_eq x y n (by simpa using h1) (by simpa using h2) (fun j hj => by simpa using h3 (j + 1) (by omega)) (by simpa using h4)
  simp [cpl, h0, ih]
theorem cpl_pos {x y : List Int} (h1 : 0 < x.length) (h2 : 0 < y.length) (h : x.getD 0 0 = y.getD 0 0) : 1 ≤ cpl x y := by
 match x, y, h1, h2 with
 | a :: x, b :: y, _, _ =>
  have : a = b := by simpa using h
  simp [cpl, this]
theorem path_head {t : List Nd} {k : Int} (h : (treeOk t && inB k 0 (t.length - 1)) = true) : 0 < (pathTo t k).length ∧ (pathTo t k).getD 0 0 = 0 ∧ (pathTo t k).length ≤ 12 := by
 have hok : treeOk t = true := by
  rw [Bool.and_eq_true] at h
  exact h.1
 have hk := inB_iff.1 (by rw [Bool.and_eq_true] at h; exact h.2 : inB k 0 (t.length - 1) = true)
 have htl := treeOk_len hok
 have hneg : ∃ i, i ≤ t.length ∧ anc t k i < 0 ∧ ∀ j, j < i → 0 ≤ anc t k j := by
  have hend : anc t k t.length < 0 := by
   have := anc_lt hok (k := k) (by omega) t.length (by omega)
   omega
  have : ∀ n, anc t k n < 0 → ∃ i, i ≤ n ∧ anc t k i < 0 ∧ ∀ j, j < i → 0 ≤ anc t k j := by
   intro n
   induction n using Nat.strongRecOn with
   | _ n ih =>
    intro hn
    by_cases hex : ∃ j, j < n ∧ anc t k j < 0
    ·obtain ⟨j, h1, h2⟩ := hex
     obtain ⟨i, q1, q2, q3⟩ := ih j h1 h2
     exact ⟨i, by omega, q2, q3⟩
    ·refine ⟨n, Nat.le_refl _, hn, fun j hj => ?_⟩
     have : ¬ anc t k j < 0 := fun q => hex ⟨j, hj, q⟩
     omega
  exact this _ hend
 obtain ⟨i, hi, h1, h2⟩ := hneg
 rw [pathTo, if_pos h, accTo_all hok h1 h2 _ hi]
 have hi0 : i ≠ 0 := by
  rintro rfl
  have h1 : k < 0 := h1
  omega
 obtain ⟨m, rfl⟩ : ∃ m, i = m + 1 := ⟨i - 1, by omega⟩
 have hm : anc t k m = 0 := by
  have h3 := h2 m (by omega)
  have h1 : (t.getD (anc t k m).toNat z).1 < 0 := h1
  have h4 := anc_lt hok (k := k) (by omega) m (by omega)
  rcases Nat.eq_zero_or_pos (anc t k m).toNat with e | e
  ·omega
  ·obtain ⟨p, hp, _⟩ := par hok (j := (anc t k m).toNat) (by omega) (by omega)
   omega
 rw [accTo_succ, hm, List.reverse_append]
 refine ⟨by simp, by simp, ?_⟩
 simp [accTo]
 omega
def isNd (t : List Nd) (k : Int) : Bool := treeOk t && inB k 0 (t.length - 1)
/-- the nodes from one node to another -/
def between (t : List Nd) (a b : Int) : List Int := if (isNd t a && isNd t b) = true then ((pathTo t a).drop (cpl (pathTo t a) (pathTo t b) - 1)).reverse ++ (pathTo t b).drop (cpl (pathTo t a) (pathTo t b)) else []
set_option maxRecDepth 20000 in
set_option maxHeartbeats 1000000 in
theorem between_vc (t : List Nd) (a b : Int) (hl : t.length ≤ 2000000) : VC Tryz.prog 66 [.v false sNS t, .v false (.int .i64) (a), .v false (.int .i64) (b)] (· = .root (.val false) sI .own (between t a b)) := by
 refine VC.of_body hT Tryz.func66 rfl (by kernel_rfl) [(.tmp 6, false, sI)] (by kernel_rfl) ?_
 show VW _ _ ([.v false sNS t, .v false (.int .i64) (a), .v false (.int .i64) (b), D, D, D, D, D, D, D, D, D, D, D, D, D, D, D, D, D, D, D, D, D, D, D, D, D, D, D, D, D, D, D, D, D, D, D, D, D, D, D, D, D, D, D, D, D, D, D, D, D, D, D, D, D, D, D, D]) _
 repeat refine VW.seq ?_
 refine VW.regl hT fun K hK => ?_
 simp only [wq, simprocAttr]
 refine hK _ ?_
 clear hK K
 try refine vthen_n ?_
 repeat refine VW.seq ?_
 refine VW.regl hT fun K hK => ?_
 simp only [wq, simprocAttr]
 refine vcall_of (isNode_vc t a hl) ?_
 simp only [wq, simprocAttr]
 refine vbr (fun h => ?_) (fun h => ?_) <;> simp only [wq, simprocAttr]
 case refine_2 =>
  have h : isNd t a = false := (Bool.not_eq_true' _).mp h
  refine hK _ ?_
  clear hK K
  try refine vthen_n ?_
  repeat refine VW.seq ?_
  refine VW.cond rfl (fun hc => ?_) (fun hc => ?_)
  ·repeat refine VW.seq ?_
   refine VW.regl hT fun K hK => ?_
   simp only [wq, simprocAttr]
   refine hK _ ?_
   clear hK K
   try refine vthen_n ?_
   refine VW.ret ⟨.inl rfl, _, rfl, ?_⟩
   rw [between, if_neg (by rw [h, Bool.false_and]; decide)]
   rfl
  ·cases hc
 have ha : isNd t a = true := by
  have := h
  rwa [Bool.not_eq_false'] at this
 refine vcall_of (isNode_vc t b hl) ?_
 simp only [wq, simprocAttr]
 refine hK _ ?_
 clear hK K
 try refine vthen_n ?_
 repeat refine VW.seq ?_
 refine VW.cond rfl (fun hc => ?_) (fun hc => ?_)
 ·have hc : isNd t b = false := (Bool.not_eq_true' _).mp hc
  repeat refine VW.seq ?_
  refine VW.regl hT fun K hK => ?_
  simp only [wq, simprocAttr]
  refine hK _ ?_
  clear hK K
  try refine vthen_n ?_
  refine VW.ret ⟨.inl rfl, _, rfl, ?_⟩
  rw [between, if_neg (by rw [ha, hc]; decide)]
  rfl
 have hb : isNd t b = true := by
  have := hc
  rwa [Bool.not_eq_false'] at this
 have hpa := path_head ha
 have hpb := path_head hb
 have hbt : between t a b = ((pathTo t a).drop (cpl (pathTo t a) (pathTo t b) - 1)).reverse ++ (pathTo t b).drop (cpl (pathTo t a) (pathTo t b)) := by rw [between, if_pos (by rw [ha, hb]; rfl)]
 rw [hbt]
 refine VW.skip (vthen_n ?_)
 repeat refine VW.seq ?_
 refine VW.regl hT fun K hK => ?_
 simp only [wq, simprocAttr]
 refine vcall_of (pathTo_vc t a hl) ?_
 simp only [wq, simprocAttr]
 refine vcall_of (pathTo_vc t b hl) ?_
 simp only [wq, simprocAttr]
 refine hK _ ?_
 clear hK K
 try refine vthen_n ?_
 generalize pathTo t a = x at *
 generalize pathTo t b = y at *
 refine VW.weak (weak_norm [(7, none), (8, none)] _) ?_
 simp only [wn, wq, simprocAttr]
 refine VW.giveup 7 rfl rfl ?_
 refine VW.giveup 8 rfl rfl ?_
 simp only [V.drop, usesG, wq, simprocAttr]
 obtain ⟨px1, px2, px3⟩ := hpa
 obtain ⟨py1, py2, py3⟩ := hpb
 have hcp := cpl_pos px1 py1 (by rw [px2, py2])
 repeat refine VW.seq ?_
 refine VW.regl hT fun K hK => ?_
 simp only [wq, simprocAttr]
 refine hK _ ?_
 clear hK K
 try refine vthen_n ?_
 repeat refine VW.seq ?_
 refine VW.block ?_
 refine VW.loop (α := Nat) [(7, none), (8, none), (9, none)] (fun i => [D, D, D, D, D, D, D, .v false sI x, .v false sI y, .v false (.int .i64) ((i : Nat)), D, D, D, D, D, D, D, D, D, D, D, D, D, D, D, D, D, D, D, D, D, D, D, D, D, D, D, D, D, D, D, D, D, D, D, D, D, D, D, D, D, D, D, D, D, D, D, D, D]) (fun i => i ≤ x.length ∧ i ≤ y.length ∧ ∀ j, j < i → x.getD j 0 = y.getD j 0) (fun i => x.length - i) ⟨0, ⟨by omega, by omega, fun j h => by omega⟩, ?_⟩ fun i ⟨hx, hy, hj⟩ => ?_
 ·simp only [wn, wq, simprocAttr]
  try rfl
 apply cutl
 ·intro tail
  repeat refine VW.seq ?_
  refine VW.drawl hT hm (by kernel_rfl) fun K hK => ?_
  simp only [wq, simprocAttr]
  refine vbr (fun h => ?_) (fun h => ?_) <;> simp only [wq, simprocAttr]
  case refine_2 =>
   have h : decide ((i : Int) < if (y.length : Int) < (x.length : Int) then (y.length : Int) else (x.length : Int)) = false := h
   have h := of_decide_eq_false h
   have hend : i = x.length ∨ i = y.length ∨ x.getD i 0 ≠ y.getD i 0 := by
    split at h
    ·exact .inr (.inl (by omega))
    ·exact .inl (by omega)
   refine hK _ ?_
   try refine vthen_n ?_
   refine VW.cond rfl (fun hc => by cases hc) (fun hc => ?_)
   refine VW.exit ?_
   show vthen _ _ _ .normal _
   refine vthen_n ?_
   refine VW.weak (weak_norm [(7, none), (8, none), (9, none)] _) ?_
   simp only [wn, wq, simprocAttr]
   revert hend
   exact tail.h
  have h : decide ((i : Int) < if (y.length : Int) < (x.length : Int) then (y.length : Int) else (x.length : Int)) = true := h
  have h := of_decide_eq_true h
  have hlx : i < x.length := by split at h <;> omega
  have hly : i < y.length := by split at h <;> omega
  refine ⟨decide_eq_true ⟨Int.natCast_nonneg _, by show (i : Int) < (x.length : Int); omega⟩, decide_eq_true ⟨Int.natCast_nonneg _, by show (i : Int) < (y.length : Int); omega⟩, ?_⟩
  refine hK _ ?_
  try refine vthen_n ?_
  refine VW.cond rfl (fun hc => ?_) (fun hc => ?_)
  ·have hc : (x.getD i 0 == y.getD i 0) = true := hc
   refine VW.skip (vthen_n ?_)
   repeat refine VW.seq ?_
   refine VW.block ?_
   repeat refine VW.seq ?_
   refine VW.regl hT fun K hK => ?_
   simp only [wq, simprocAttr]
   refine hK _ ?_
   clear hK K
   try refine vthen_n ?_
   refine ⟨i + 1, ⟨hlx, hly, fun j hj2 => ?_⟩, ?_, by show x.length - (i + 1) < x.length - i; omega⟩
   ·rcases Nat.lt_or_ge j i with h1 | h1
    ·exact hj j h1
    ·obtain rfl : j = i := by omega
     simpa using hc
   simp only [wn, wq, simprocAttr]
   rw [wrap64 (by omega) (by omega)]
   rfl
  ·have hc : (x.getD i 0 == y.getD i 0) = false := hc
   have hend : i = x.length ∨ i = y.length ∨ x.getD i 0 ≠ y.getD i 0 := .inr (.inr (by simpa using hc))
   refine VW.exit ?_
   show vthen _ _ _ .normal _
   refine vthen_n ?_
   refine VW.weak (weak_norm [(7, none), (8, none), (9, none)] _) ?_
   simp only [wn, wq, simprocAttr]
   revert hend
   exact tail.h
 ·intro hend
  have hi := cpl_eq x y i hx hy hj hend
  rw [hi] at hcp
  rw [hi]
  obtain ⟨m, hm1⟩ : ∃ m, i = m + 1 := ⟨i - 1, by omega⟩
  have hdl : (x.drop m).length = x.length - m := List.length_drop ..
  rw [show i - 1 = m by omega]
  repeat refine VW.seq ?_
  refine VW.regl hT fun K hK => ?_
  simp only [wq, simprocAttr]
  rw [wrap64 (by omega) (by omega), show (i : Int) - 1 = (m : Int) by omega, Int.toNat_natCast, List.take_length]
  refine ⟨decide_eq_true ⟨by omega, by omega, by omega⟩, ?_⟩
  refine vcall_of (cloneI_vc (x.drop m) (by omega)) ?_
  simp only [wq, simprocAttr]
  refine hK _ ?_
  clear hK K
  try refine vthen_n ?_
  repeat refine VW.seq ?_
  refine VW.regl hT fun K hK => ?_
  simp only [wq, simprocAttr]
  refine vcall_io 0 ?_
  simp only [wq, simprocAttr]
  refine vxcall_of (reverse_vx (x.drop m) (by omega) (by omega)) ?_
  simp only [wq, simprocAttr]
  refine hK _ ?_
  clear hK K
  try refine vthen_n ?_
  repeat refine VW.seq ?_
  refine VW.regl hT fun K hK => ?_
  simp only [wq, simprocAttr]
  rw [List.take_length]
  refine ⟨decide_eq_true ⟨by omega, by omega, by omega⟩, ?_, ?_⟩
  ·have e1 : (x.drop m).reverse.length + (y.drop i).length ≤ 24 := by
    rw [List.length_reverse, List.length_drop, List.length_drop]
    omega
   generalize (x.drop m).reverse.length + (y.drop i).length = q at *
   simp [limOk]
   omega
  refine hK _ ?_
  clear hK K
  try refine vthen_n ?_
  refine VW.weak (weak_norm [(6, none)] _) ?_
  simp only [wn, wq, simprocAttr]
  exact VW.ret ⟨.inl rfl, _, rfl, rfl⟩
end Go.Proofs.YtmechjnfeidnkaaGreat.V.W
end
section
namespace Go.Proofs.YtmechjnfeidnkaaGreat.V.W
open Go Go.RowKit
theorem path_mem {t : List Nd} {k x : Int} (h : isNd t k = true) (hx : x ∈ pathTo t k) : 0 ≤ x ∧ x < t.length := by
 have hok : treeOk t = true := by
  rw [isNd, Bool.and_eq_true] at h
  exact h.1
 have hk := inB_iff.1 (by rw [isNd, Bool.and_eq_true] at h; exact h.2 : inB k 0 (t.length - 1) = true)
 rw [pathTo, if_pos (show (treeOk t && inB k 0 (t.length - 1)) = true from h), List.mem_reverse, List.mem_filter] at hx
 obtain ⟨h1, h2⟩ := hx
 obtain ⟨j, _, rfl⟩ := List.mem_map.1 h1
 have := anc_lt hok (k := k) (by omega) j (by omega)
 exact ⟨by simpa using h2, this.2.1⟩
theorem between_mem {t : List Nd} {a b x : Int} (hx : x ∈ between t a b) : 0 ≤ x ∧ x < t.length := by
 rw [between] at hx
 split at hx
 ·rename_i h
  rw [Bool.and_eq_true] at h
  rcases List.mem_append.1 hx with hx | hx
  ·exact path_mem h.1 (List.mem_of_mem_drop (List.mem_reverse.1 hx))
  ·exact path_mem h.2 (List.mem_of_mem_drop hx)
 ·cases hx
theorem between_len (t : List Nd) (a b : Int) : (between t a b).length ≤ 24 := by
 rw [between]
 split
 ·rename_i h
  rw [Bool.and_eq_true] at h
  have h1 := path_head h.1
  have h2 := path_head h.2
  rw [List.length_append, List.length_reverse, List.length_drop, List.length_drop]
  omega
 ·simp
/-- the lower of two neighbours on a path -/
def lowAt (t : List Nd) (p : List Int) (i : Nat) : Int := if (t.getD (p.getD (i - 1) 0).toNat z).1 == p.getD i 0 then p.getD (i - 1) 0 else p.getD i 0
def passes (t : List Nd) (g : List Bool) (p : List Int) : Bool := (List.range p.length).all fun i => i == 0 || g.getD (lowAt t p i).toNat false
def canReach (t : List Nd) (g : List Bool) (a b : Int) : Bool := guardOk t g && (!((between t a b).length == 0) && passes t g (between t a b))
set_option maxRecDepth 20000 in
set_option maxHeartbeats 1000000 in
theorem canReach_vc (t : List Nd) (g : List Bool) (a b : Int) (hl : t.length ≤ 2000000) : VC Tryz.prog 22 [.v false sNS t, .v true sG g, .v false (.int .i64) (a), .v false (.int .i64) (b)] (· = .v false .bool (canReach t g a b)) := by
 refine VC.of_body hT Tryz.func22 rfl (by kernel_rfl) [(.tmp 8, false, .bool)] (by kernel_rfl) ?_
 show VW _ _ ([.v false sNS t, .v true sG g, .v false (.int .i64) (a), .v false (.int .i64) (b), D, D, D, D, D, D, D, D, D, D, D, D, D, D, D, D, D, D, D, D, D, D, D, D, D, D, D, D, D, D, D, D, D, D, D, D, D, D, D, D, D, D, D, D, D, D, D, D, D, D, D, D, D, D, D, D]) _
 have hmem := fun x (hx : x ∈ between t a b) => between_mem hx
 have hpl := between_len t a b
 rw [canReach]
 repeat refine VW.seq ?_
 refine VW.regl hT fun K hK => ?_
 simp only [wq, simprocAttr]
 refine hK _ ?_
 clear hK K
 try refine vthen_n ?_
 repeat refine VW.seq ?_
 refine VW.regl hT fun K hK => ?_
 simp only [wq, simprocAttr]
 refine vcall_of (between_vc t a b hl) ?_
 simp only [wq, simprocAttr]
 refine hK _ ?_
 clear hK K
 try refine vthen_n ?_
 generalize between t a b = p at *
 repeat refine VW.seq ?_
 refine VW.regl hT fun K hK => ?_
 simp only [wq, simprocAttr]
 refine vcall_of (guardOk_vc t g hl) ?_
 simp only [wq, simprocAttr]
 refine vbr (fun h => ?_) (fun h => ?_) <;> simp only [wq, simprocAttr]
 case refine_2 =>
  have h : guardOk t g = false := (Bool.not_eq_true' _).mp h
  refine hK _ ?_
  clear hK K
  try refine vthen_n ?_
  repeat refine VW.seq ?_
  refine VW.cond rfl (fun hc => ?_) (fun hc => ?_)
  ·repeat refine VW.seq ?_
   refine VW.regl hT fun K hK => ?_
   simp only [wq, simprocAttr]
   refine hK _ ?_
   clear hK K
   try refine vthen_n ?_
   refine VW.ret ⟨.inl rfl, _, rfl, ?_⟩
   rw [h]
   rfl
  ·cases hc
 have hg : guardOk t g = true := by
  have := h
  rwa [Bool.not_eq_false'] at this
 have hg2 := hg
 rw [guardOk, Bool.and_eq_true, Bool.and_eq_true, beq_iff_eq] at hg2
 obtain ⟨hok, hgl, _⟩ := hg2
 refine hK _ ?_
 clear hK K
 try refine vthen_n ?_
 repeat refine VW.seq ?_
 refine VW.cond rfl (fun hc => ?_) (fun hc => ?_)
 ·have hc : ((p.length : Int) == 0) = true := hc
  have h0 : p.length = 0 := by
   have : (p.length : Int) = 0 := by simpa using hc
   omega
  repeat refine VW.seq ?_
  refine VW.regl hT fun K hK => ?_
  simp only [wq, simprocAttr]
  refine hK _ ?_
  clear hK K
  try refine vthen_n ?_
  refine VW.ret ⟨.inl rfl, _, rfl, ?_⟩
  rw [h0, hg]
  rfl
 have h0 : (!(p.length == 0)) = true := by
  have hc : ((p.length : Int) == 0) = false := hc
  have : ¬ (p.length : Int) = 0 := by simpa using hc
  have : p.length ≠ 0 := by omega
  simpa using this
 rw [hg, h0, Bool.true_and, Bool.true_and]
 refine VW.skip (vthen_n ?_)
 repeat refine VW.seq ?_
 refine VW.regl hT fun K hK => ?_
 simp only [wq, simprocAttr]
 refine hK _ ?_
 clear hK K
 try refine vthen_n ?_
 repeat refine VW.seq ?_
 refine VW.block ?_
 refine VW.loop (α := Nat) [(0, none), (5, none), (9, none), (10, none)] (fun i => [.v false sNS t, D, D, D, D, .root (.box 30) sG .fz g, D, D, D, .root (.val false) sI .own p, .v false (.int .i64) ((i : Nat)), D, D, D, D, D, D, D, D, D, D, D, D, D, D, D, D, D, D, D, D, D, D, D, D, D, D, D, D, D, D, D, D, D, D, D, D, D, D, D, D, D, D, D, D, D, D, D, D, D]) (fun i => 1 ≤ i ∧ i ≤ p.length ∧ ∀ j, j < i → (j == 0 || g.getD (lowAt t p j).toNat false) = true) (fun i => p.length - i) ⟨1, ⟨by omega, ?_, fun j h => ?_⟩, ?_⟩ fun i ⟨hi1, hi, hj⟩ => ?_
 ·have : p.length ≠ 0 := by simpa using h0
  omega
 ·obtain rfl : j = 0 := by omega
  rfl
 ·simp only [wn, wq, simprocAttr]
  try rfl
 repeat refine VW.seq ?_
 refine VW.regl hT fun K hK => ?_
 simp only [wq, simprocAttr]
 refine hK _ ?_
 clear hK K
 try refine vthen_n ?_
 repeat refine VW.seq ?_
 refine VW.cond rfl (fun hc => ?_) (fun hc => ?_)
 ·have hlt : i < p.length := by simpa using hc
  have m1 := hmem _ (getD_mem hlt)
  have m2 := hmem _ (getD_mem (i := i - 1) (by omega))
  have hlow : lowAt t p i = if (t.getD (p.getD (i - 1) 0).toNat z).1 == p.getD i 0 then p.getD (i - 1) 0 else p.getD i 0 := rfl
  refine VW.skip (vthen_n ?_)
  repeat refine VW.seq ?_
  refine VW.block ?_
  repeat refine VW.seq ?_
  refine VW.regl hT fun K hK => ?_
  simp only [wq, simprocAttr]
  refine ⟨decide_eq_true ⟨Int.natCast_nonneg _, by show (i : Int) < (p.length : Int); omega⟩, ?_⟩
  refine hK _ ?_
  clear hK K
  try refine vthen_n ?_
  repeat refine VW.seq ?_
  refine VW.drawl hT hm (by kernel_rfl) fun K hK => ?_
  simp only [wq, simprocAttr]
  rw [wrap64 (by omega) (by omega), show (i : Int) - 1 = ((i - 1 : Nat) : Int) by omega, Int.toNat_natCast]
  refine ⟨by kernel_rfl, by kernel_rfl, decide_eq_true ⟨Int.natCast_nonneg _, by show ((i - 1 : Nat) : Int) < (p.length : Int); omega⟩, by kernel_rfl, decide_eq_true m2, by kernel_rfl, by kernel_rfl, decide_eq_true ⟨Int.natCast_nonneg _, by show (i : Int) < (p.length : Int); omega⟩, by kernel_rfl, ?_⟩
  refine hK _ ?_
  clear hK K
  try refine vthen_n ?_
  apply cutl
  ·intro tail
   repeat refine VW.seq ?_
   refine VW.cond rfl (fun hc => ?_) (fun hc => ?_)
   ·have hc : ((t.getD (p.getD (i - 1) 0).toNat z).1 == p.getD i 0) = true := hc
    rw [if_pos hc] at hlow
    repeat refine VW.seq ?_
    refine VW.regl hT fun K hK => ?_
    simp only [wq, simprocAttr]
    rw [wrap64 (by omega) (by omega), show (i : Int) - 1 = ((i - 1 : Nat) : Int) by omega, Int.toNat_natCast]
    refine ⟨decide_eq_true ⟨Int.natCast_nonneg _, by show ((i - 1 : Nat) : Int) < (p.length : Int); omega⟩, ?_⟩
    refine hK _ ?_
    try refine vthen_n ?_
    refine VW.weak (weak_norm [(0, none), (5, none), (9, none), (10, none), (11, none)] _) ?_
    simp only [wn, wq, simprocAttr]
    rw [← hlow]
    exact tail.h
   ·have hc : ((t.getD (p.getD (i - 1) 0).toNat z).1 == p.getD i 0) = false := hc
    rw [if_neg (by rw [hc]; decide)] at hlow
    refine VW.skip ?_
    show vthen _ _ _ .normal _
    refine vthen_n ?_
    refine VW.weak (weak_norm [(0, none), (5, none), (9, none), (10, none), (11, none)] _) ?_
    simp only [wn, wq, simprocAttr]
    rw [← hlow]
    exact tail.h
  have m3 : 0 ≤ lowAt t p i ∧ lowAt t p i < t.length := by
   rw [hlow]
   split
   ·exact m2
   ·exact m1
  clear hlow
  repeat refine VW.seq ?_
  refine VW.regl hT fun K hK => ?_
  simp only [wq, simprocAttr]
  refine ⟨decide_eq_true ⟨m3.1, by show lowAt t p i < (g.length : Int); omega⟩, ?_⟩
  refine hK _ ?_
  clear hK K
  try refine vthen_n ?_
  repeat refine VW.seq ?_
  refine VW.cond rfl (fun hc => ?_) (fun hc => ?_)
  ·have hc : g.getD (lowAt t p i).toNat false = false := (Bool.not_eq_true' _).mp hc
   have hno : passes t g p = false := by
    rw [passes, List.all_eq_false]
    refine ⟨i, List.mem_range.2 hlt, ?_⟩
    rw [hc, Bool.or_false]
    simp
    omega
   repeat refine VW.seq ?_
   refine VW.regl hT fun K hK => ?_
   simp only [wq, simprocAttr]
   refine hK _ ?_
   clear hK K
   try refine vthen_n ?_
   refine VW.ret ⟨.inl rfl, _, rfl, ?_⟩
   rw [hno]
  ·have hc : g.getD (lowAt t p i).toNat false = true := by
    have := hc
    rwa [Bool.not_eq_false'] at this
   refine VW.skip ?_
   show vthen _ _ _ .normal _
   refine vthen_n ?_
   repeat refine VW.seq ?_
   refine VW.regl hT fun K hK => ?_
   simp only [wq, simprocAttr]
   refine hK _ ?_
   clear hK K
   try refine vthen_n ?_
   refine ⟨i + 1, ⟨by omega, hlt, fun j h => ?_⟩, ?_, by show p.length - (i + 1) < p.length - i; omega⟩
   ·rcases Nat.lt_or_ge j i with h1 | h1
    ·exact hj j h1
    ·obtain rfl : j = i := by omega
     rw [hc, Bool.or_true]
   simp only [wn, wq, simprocAttr]
   rw [wrap64 (by omega) (by omega)]
   rfl
 ·have hge : i = p.length := by
   have : p.length ≤ i := by simpa using hc
   omega
  subst hge
  refine VW.exit ?_
  show vthen _ _ _ .normal _
  refine vthen_n ?_
  repeat refine VW.seq ?_
  refine VW.regl hT fun K hK => ?_
  simp only [wq, simprocAttr]
  refine hK _ ?_
  clear hK K
  try refine vthen_n ?_
  refine VW.ret ⟨.inl rfl, _, rfl, ?_⟩
  have hyes : passes t g p = true := by
   rw [passes, List.all_eq_true]
   intro j h
   exact hj j (List.mem_range.1 h)
  rw [hyes]
end Go.Proofs.YtmechjnfeidnkaaGreat.V.W
end
section
namespace Go.Proofs.YtmechjnfeidnkaaGreat.V.W
open Go Go.RowKit
theorem ownGo_lt (t : List Nd) (b : List (Int × Int)) (a : Int) : ∀ f k, ownGo t b a f k = -1 ∨ ∃ j : Nat, ownGo t b a f k = (j : Int) ∧ k ≤ j ∧ j < k + f ∧ owns t b a j = true
 | 0, k => .inl rfl
 | f + 1, k => by
  rw [ownGo]
  split
  ·rename_i h
   exact .inr ⟨k, rfl, by omega, by omega, h⟩
  ·rcases ownGo_lt t b a f (k + 1) with h | ⟨j, h1, h2, h3, h4⟩
   ·exact .inl h
   ·exact .inr ⟨j, h1, by omega, by omega, h4⟩
theorem owner_lt (t : List Nd) (b : List (Int × Int)) (a : Int) : ownerOf t b a = -1 ∨ ∃ j : Nat, ownerOf t b a = (j : Int) ∧ j < t.length ∧ b.length = t.length ∧ owns t b a j = true := by
 rw [ownerOf]
 split
 ·rename_i h
  rw [winsOk, Bool.and_eq_true, beq_iff_eq] at h
  rcases ownGo_lt t b a t.length 0 with h2 | ⟨j, h1, _, h3, h4⟩
  ·exact .inl h2
  ·exact .inr ⟨j, h1, by omega, h.2, h4⟩
 ·exact .inl rfl
/-- the room that is left behind an address in a window -/
def room (w : Int × Int) (a : Int) : Int := IntKind.i64.wrap (w.1 - IntKind.i64.wrap (a - w.2))
def target (x : Fab) (fr a l : Int) : Int × Int :=
 if (inB fr 0 (x.1.length - 1) && inB l 1 64) = true then
  if ownerOf x.1 x.2.2.1 a < 0 then (0, 1)
  else if l > room (x.2.2.1.getD (ownerOf x.1 x.2.2.1 a).toNat zb) a then (ownerOf x.1 x.2.2.1 a, 3)
  else if canReach x.1 x.2.2.2.2 fr (ownerOf x.1 x.2.2.1 a) = true then (ownerOf x.1 x.2.2.1 a, 0) else (ownerOf x.1 x.2.2.1 a, 2)
 else (0, 1)
abbrev r2 (p : Int × Int) : PV := .root (.tup [false, false]) (.pr (.int .i64) (.int .i64)) (.pr .fz .fz) p
set_option maxRecDepth 20000 in
set_option maxHeartbeats 1000000 in
theorem target_vc (x : Fab) (fr a l : Int) (hx : FabL x) : VC Tryz.prog 57 [.v true sFi x, .v false (.int .i64) (fr), .v false (.int .i64) (a), .v false (.int .i64) (l)] (· = r2 (target x fr a l)) := by
 obtain ⟨t, s, b, m, g⟩ := x
 have hla : t.length ≤ 2000000 := hx.a
 have htg : target (t, s, b, m, g) fr a l = if (inB fr 0 (t.length - 1) && inB l 1 64) = true then if ownerOf t b a < 0 then (0, 1) else if l > room (b.getD (ownerOf t b a).toNat zb) a then (ownerOf t b a, 3) else if canReach t g fr (ownerOf t b a) = true then (ownerOf t b a, 0) else (ownerOf t b a, 2) else (0, 1) := rfl
 rw [htg]
 refine VC.of_body hT Tryz.func57 rfl (by kernel_rfl) [(.tmp 8, false, .int .i64), (.tmp 9, false, .int .i64)] (by kernel_rfl) ?_
 show VW _ _ ([.v true sFi (t, s, b, m, g), .v false (.int .i64) (fr), .v false (.int .i64) (a), .v false (.int .i64) (l), D, D, D, D, D, D, D, D, D, D, D, D, D, D, D, D, D, D, D, D, D, D, D, D, D, D, D, D, D, D, D, D, D, D, D, D, D, D, D, D, D, D, D, D, D, D, D, D, D, D, D, D, D, D, D, D, D, D]) _
 repeat refine VW.seq ?_
 refine VW.regl hT fun K hK => ?_
 simp only [wq, simprocAttr]
 refine hK _ ?_
 clear hK K
 try refine vthen_n ?_
 repeat refine VW.seq ?_
 refine VW.regl hT fun K hK => ?_
 simp only [wq, simprocAttr]
 rw [wrap64 (by omega) (by omega)]
 refine vcall_of (within_vc fr 0 (t.length - 1)) ?_
 simp only [wq, simprocAttr]
 refine vbr (fun h => ?_) (fun h => ?_) <;> simp only [wq, simprocAttr]
 case refine_2 =>
  have h : inB fr 0 (t.length - 1) = false := (Bool.not_eq_true' _).mp h
  refine hK _ ?_
  clear hK K
  try refine vthen_n ?_
  repeat refine VW.seq ?_
  refine VW.cond rfl (fun hc => ?_) (fun hc => ?_)
  ·repeat refine VW.seq ?_
   refine VW.regl hT fun K hK => ?_
   simp only [wq, simprocAttr]
   refine hK _ ?_
   clear hK K
   try refine vthen_n ?_
   refine VW.ret ⟨.inl rfl, _, rfl, ?_⟩
   rw [h, if_neg (by simp)]
  ·cases hc
 have h1 : inB fr 0 (t.length - 1) = true := by
  have := h
  rwa [Bool.not_eq_false'] at this
 refine vcall_of (within_vc l 1 64) ?_
 simp only [wq, simprocAttr]
 refine hK _ ?_
 clear hK K
 try refine vthen_n ?_
 repeat refine VW.seq ?_
 refine VW.cond rfl (fun hc => ?_) (fun hc => ?_)
 ·have hc : inB l 1 64 = false := (Bool.not_eq_true' _).mp hc
  repeat refine VW.seq ?_
  refine VW.regl hT fun K hK => ?_
  simp only [wq, simprocAttr]
  refine hK _ ?_
  clear hK K
  try refine vthen_n ?_
  refine VW.ret ⟨.inl rfl, _, rfl, ?_⟩
  rw [hc, if_neg (by simp)]
 have h2 : inB l 1 64 = true := by
  have := hc
  rwa [Bool.not_eq_false'] at this
 rw [if_pos (by rw [h1, h2]; rfl)]
 have how := owner_lt t b a
 refine VW.skip (vthen_n ?_)
 repeat refine VW.seq ?_
 refine VW.regl hT fun K hK => ?_
 simp only [wq, simprocAttr]
 refine vcall_of (owner_vc t b a hla) ?_
 simp only [wq, simprocAttr]
 refine hK _ ?_
 clear hK K
 try refine vthen_n ?_
 generalize ownerOf t b a = k at *
 repeat refine VW.seq ?_
 refine VW.block ?_
 repeat refine VW.seq ?_
 refine VW.regl hT fun K hK => ?_
 simp only [wq, simprocAttr]
 refine hK _ ?_
 clear hK K
 try refine vthen_n ?_
 repeat refine VW.seq ?_
 refine VW.cond rfl (fun hc => ?_) (fun hc => ?_)
 ·have hc : k < 0 := of_decide_eq_true hc
  repeat refine VW.seq ?_
  refine VW.regl hT fun K hK => ?_
  simp only [wq, simprocAttr]
  refine hK _ ?_
  clear hK K
  try refine vthen_n ?_
  refine VW.ret ⟨.inl rfl, _, rfl, ?_⟩
  rw [if_pos hc]
 have hk : ¬ k < 0 := of_decide_eq_false hc
 obtain ⟨j, rfl, hjl, hbl, -⟩ := how.resolve_left (by omega)
 rw [if_neg hk, Int.toNat_natCast]
 repeat refine VW.seq ?_
 refine VW.drawl hT hm (by kernel_rfl) fun K hK => ?_
 simp only [wq, simprocAttr]
 have hidx : decide (0 ≤ (j : Int) ∧ (j : Int) < (b.length : Int)) = true := decide_eq_true ⟨Int.natCast_nonneg _, by omega⟩
 refine ⟨by kernel_rfl, by kernel_rfl, hidx, by kernel_rfl, by kernel_rfl, hidx, ?_⟩
 refine hK _ ?_
 clear hK K
 try refine vthen_n ?_
 have hroom : room (b.getD j zb) a = IntKind.i64.wrap ((b.getD j (0, 0)).1 - IntKind.i64.wrap (a - (b.getD j (0, 0)).2)) := rfl
 rw [hroom]
 generalize IntKind.i64.wrap ((b.getD j (0, 0)).1 - IntKind.i64.wrap (a - (b.getD j (0, 0)).2)) = q
 repeat refine VW.seq ?_
 refine VW.cond rfl (fun hc => ?_) (fun hc => ?_)
 ·have hc : l > q := of_decide_eq_true hc
  repeat refine VW.seq ?_
  refine VW.regl hT fun K hK => ?_
  simp only [wq, simprocAttr]
  refine hK _ ?_
  clear hK K
  try refine vthen_n ?_
  refine VW.ret ⟨.inl rfl, _, rfl, ?_⟩
  rw [if_pos hc]
 have hq : ¬ l > q := of_decide_eq_false hc
 rw [if_neg hq]
 repeat refine VW.seq ?_
 refine VW.regl hT fun K hK => ?_
 simp only [wq, simprocAttr]
 refine vcall_of (canReach_vc t g fr j hla) ?_
 simp only [wq, simprocAttr]
 refine hK _ ?_
 clear hK K
 try refine vthen_n ?_
 repeat refine VW.seq ?_
 refine VW.cond rfl (fun hc => ?_) (fun hc => ?_)
 ·have hc : canReach t g fr j = false := (Bool.not_eq_true' _).mp hc
  repeat refine VW.seq ?_
  refine VW.regl hT fun K hK => ?_
  simp only [wq, simprocAttr]
  refine hK _ ?_
  clear hK K
  try refine vthen_n ?_
  refine VW.ret ⟨.inl rfl, _, rfl, ?_⟩
  rw [if_neg (by rw [hc]; decide)]
 have hr : canReach t g fr j = true := by
  have := hc
  rwa [Bool.not_eq_false'] at this
 rw [if_pos hr]
 refine VW.skip ?_
 show vthen _ _ _ .normal _
 refine vthen_n ?_
 repeat refine VW.seq ?_
 refine VW.regl hT fun K hK => ?_
 simp only [wq, simprocAttr]
 refine hK _ ?_
 clear hK K
 try refine vthen_n ?_
 exact VW.ret ⟨.inl rfl, _, rfl, rfl⟩
def targetOf (x : Fab) (fr a l : Int) : Int × Int := if fabOk x = true then target x fr a l else (0, 1)
set_option maxRecDepth 20000 in
theorem targetOf_vc (x : Fab) (fr a l : Int) (hx : FabL x) : VC Tryz.prog 18 [.v true sFi x, .v false (.int .i64) (fr), .v false (.int .i64) (a), .v false (.int .i64) (l)] (· = r2 (targetOf x fr a l)) := by
 refine VC.of_body hT Tryz.func18 rfl (by kernel_rfl) [(.tmp 8, false, .int .i64), (.tmp 9, false, .int .i64)] (by kernel_rfl) ?_
 show VW _ _ ([.v true sFi x, .v false (.int .i64) (fr), .v false (.int .i64) (a), .v false (.int .i64) (l), D, D, D, D, D, D, D, D, D, D, D, D, D, D, D, D]) _
 repeat refine VW.seq ?_
 refine VW.regl hT fun K hK => ?_
 simp only [wq, simprocAttr]
 refine hK _ ?_
 clear hK K
 try refine vthen_n ?_
 repeat refine VW.seq ?_
 refine VW.regl hT fun K hK => ?_
 simp only [wq, simprocAttr]
 refine vcall_of (fabricOk_vc x hx) ?_
 simp only [wq, simprocAttr]
 refine hK _ ?_
 clear hK K
 try refine vthen_n ?_
 repeat refine VW.seq ?_
 refine VW.cond rfl (fun hc => ?_) (fun hc => ?_)
 ·have hc : fabOk x = false := (Bool.not_eq_true' _).mp hc
  repeat refine VW.seq ?_
  refine VW.regl hT fun K hK => ?_
  simp only [wq, simprocAttr]
  refine hK _ ?_
  clear hK K
  try refine vthen_n ?_
  refine VW.ret ⟨.inl rfl, _, rfl, ?_⟩
  rw [targetOf, if_neg (by rw [hc]; decide)]
 have hf : fabOk x = true := by
  have := hc
  rwa [Bool.not_eq_false'] at this
 rw [targetOf, if_pos hf]
 refine VW.skip (vthen_n ?_)
 repeat refine VW.seq ?_
 refine VW.regl hT fun K hK => ?_
 simp only [wq, simprocAttr]
 refine vcall_of (target_vc x fr a l hx) ?_
 simp only [wq, simprocAttr]
 refine hK _ ?_
 clear hK K
 try refine vthen_n ?_
 exact VW.ret ⟨.inl rfl, _, rfl, rfl⟩
end Go.Proofs.YtmechjnfeidnkaaGreat.V.W
end
section
namespace Go.Proofs.YtmechjnfeidnkaaGreat.V.W
open Go Go.RowKit
theorem far_vc (a b : Int) : VC Tryz.prog 132 [.v false (.int .i64) (a), .v false (.int .i64) (b)] (· = .v false (.int .u64) (IntKind.u64.wrap (IntKind.u64.wrap b - IntKind.u64.wrap a))) := by
 refine VC.of_body hT Tryz.func132 rfl (by kernel_rfl) [(.tmp 4, false, .int .u64)] (by kernel_rfl) ?_
 show VW _ _ ([.v false (.int .i64) (a), .v false (.int .i64) (b), D, D, D, D, D, D, D, D]) _
 repeat refine VW.seq ?_
 refine VW.regl hT fun K hK => ?_
 simp only [wq, simprocAttr]
 refine hK _ ?_
 clear hK K
 try refine vthen_n ?_
 repeat refine VW.seq ?_
 refine VW.regl hT fun K hK => ?_
 simp only [wq, simprocAttr]
 refine hK _ ?_
 clear hK K
 try refine vthen_n ?_
 exact VW.ret ⟨.inl rfl, _, rfl, rfl⟩
theorem specCovers_vc (b : Int × Int) (a : Int) : VC Tryz.prog 77 [.v true sBr b, .v false (.int .i64) (a)] (· = .v false .bool (covB b a)) := by
 refine VC.of_body hT Tryz.func77 rfl (by kernel_rfl) [(.tmp 4, false, .bool)] (by kernel_rfl) ?_
 show VW _ _ ([.v true sBr b, .v false (.int .i64) (a), D, D, D, D, D, D, D, D, D, D, D, D, D, D, D, D, D, D, D, D, D, D]) _
 repeat refine VW.seq ?_
 refine VW.regl hT fun K hK => ?_
 simp only [wq, simprocAttr]
 refine hK _ ?_
 clear hK K
 try refine vthen_n ?_
 repeat refine VW.seq ?_
 refine VW.drawl hT hm (by kernel_rfl) fun K hK => ?_
 simp only [wq, simprocAttr]
 repeat refine ⟨by kernel_rfl, ?_⟩
 refine vbr (fun h => ?_) (fun h => ?_) <;> simp only [wq, simprocAttr]
 case refine_2 =>
  refine hK _ ?_
  clear hK K
  try refine vthen_n ?_
  refine VW.ret ⟨.inl rfl, _, rfl, ?_⟩
  have h : decide (b.1 > 0) = false := h
  rw [covB, h]
  rfl
 have h : decide (b.1 > 0) = true := h
 repeat refine ⟨by kernel_rfl, ?_⟩
 refine vbr (fun h2 => ?_) (fun h2 => ?_) <;> simp only [wq, simprocAttr]
 case refine_2 =>
  refine hK _ ?_
  clear hK K
  try refine vthen_n ?_
  refine VW.ret ⟨.inl rfl, _, rfl, ?_⟩
  have h2 : decide (a ≥ b.2) = false := h2
  rw [covB, h, h2]
  rfl
 have h2 : decide (a ≥ b.2) = true := h2
 repeat refine ⟨by kernel_rfl, ?_⟩
 refine vcallD_of (far_vc _ _) ?_
 simp only [wq, simprocAttr]
 repeat refine ⟨by kernel_rfl, ?_⟩
 refine hK _ ?_
 clear hK K
 try refine vthen_n ?_
 refine VW.ret ⟨.inl rfl, _, rfl, ?_⟩
 rw [covB, h, h2]
 rfl
set_option maxRecDepth 20000 in
theorem specOwner_vc (t : List Nd) (b : List (Int × Int)) (a : Int) (hl : t.length ≤ 2000000) : VC Tryz.prog 76 [.v false sNS t, .v false sBS b, .v false (.int .i64) (a)] (· = .v false (.int .i64) (ownerOf t b a)) := by
 refine VC.of_body hT Tryz.func76 rfl (by kernel_rfl) [(.tmp 6, false, .int .i64)] (by kernel_rfl) ?_
 show VW _ _ ([.v false sNS t, .v false sBS b, .v false (.int .i64) (a), D, D, D, D, D, D, D, D, D, D, D, D, D, D, D, D, D, D, D, D, D, D, D, D, D, D, D, D, D, D, D, D, D, D, D, D]) _
 repeat refine VW.seq ?_
 refine VW.regl hT fun K hK => ?_
 simp only [wq, simprocAttr]
 refine hK _ ?_
 clear hK K
 try refine vthen_n ?_
 repeat refine VW.seq ?_
 refine VW.regl hT fun K hK => ?_
 simp only [wq, simprocAttr]
 refine vcall_of (specTreeOk_vc t hl) ?_
 simp only [wq, simprocAttr]
 refine vbr (fun h => ?_) (fun h => ?_) <;> simp only [wq, simprocAttr]
 case refine_2 =>
  have h : treeOk t = false := (Bool.not_eq_true' _).mp h
  refine hK _ ?_
  clear hK K
  try refine vthen_n ?_
  repeat refine VW.seq ?_
  refine VW.cond rfl (fun hc => ?_) (fun hc => ?_)
  ·repeat refine VW.seq ?_
   refine VW.regl hT fun K hK => ?_
   simp only [wq, simprocAttr]
   refine hK _ ?_
   clear hK K
   try refine vthen_n ?_
   refine VW.ret ⟨.inl rfl, _, rfl, ?_⟩
   rw [ownerOf, winsOk, h]
   rfl
  ·cases hc
 have hok : treeOk t = true := by
  have := h
  rwa [Bool.not_eq_false'] at this
 refine hK _ ?_
 clear hK K
 try refine vthen_n ?_
 repeat refine VW.seq ?_
 refine VW.cond rfl (fun hc => ?_) (fun hc => ?_)
 ·have hc : (!((b.length : Int) == (t.length : Int))) = true := hc
  have hc := (Bool.not_eq_true' _).mp hc
  repeat refine VW.seq ?_
  refine VW.regl hT fun K hK => ?_
  simp only [wq, simprocAttr]
  refine hK _ ?_
  clear hK K
  try refine vthen_n ?_
  refine VW.ret ⟨.inl rfl, _, rfl, ?_⟩
  rw [ownerOf, winsOk, hok, ← lenEq, hc]
  rfl
 have hbe : ((b.length : Int) == (t.length : Int)) = true := by
  have := hc
  rwa [Bool.not_eq_false'] at this
 have hbl : (b.length : Int) = (t.length : Int) := by simpa using hbe
 have hw : winsOk t b = true := by
  rw [winsOk, hok, ← lenEq, hbe]
  rfl
 refine VW.skip (vthen_n ?_)
 repeat refine VW.seq ?_
 refine VW.regl hT fun K hK => ?_
 simp only [wq, simprocAttr]
 refine hK _ ?_
 clear hK K
 try refine vthen_n ?_
 repeat refine VW.seq ?_
 refine VW.block ?_
 refine VW.loop (α := Nat) [(0, none), (1, none), (2, none), (7, none)] (fun i => [.v false sNS t, .v false sBS b, .v false (.int .i64) (a), D, D, D, D, .v false (.int .i64) ((i : Nat)), D, D, D, D, D, D, D, D, D, D, D, D, D, D, D, D, D, D, D, D, D, D, D, D, D, D, D, D, D, D, D]) (fun i => i ≤ t.length ∧ ownerOf t b a = ownGo t b a (t.length - i) i) (fun i => t.length - i) ⟨0, ⟨by omega, by rw [ownerOf, if_pos hw]; rfl⟩, ?_⟩ fun i ⟨hi, hgo⟩ => ?_
 ·simp only [wn, wq, simprocAttr]
  try rfl
 repeat refine VW.seq ?_
 refine VW.regl hT fun K hK => ?_
 simp only [wq, simprocAttr]
 refine hK _ ?_
 clear hK K
 try refine vthen_n ?_
 repeat refine VW.seq ?_
 refine VW.cond rfl (fun hc => ?_) (fun hc => ?_)
 ·have hlt : i < t.length := by simpa using hc
  obtain ⟨f, hf⟩ : ∃ f, t.length - i = f + 1 := ⟨t.length - i - 1, by omega⟩
  rw [hf, ownGo] at hgo
  refine VW.skip (vthen_n ?_)
  repeat refine VW.seq ?_
  refine VW.block ?_
  have hix : decide (0 ≤ (i : Int) ∧ (i : Int) < (t.length : Int)) = true := decide_eq_true ⟨Int.natCast_nonneg _, by omega⟩
  have hfu := tree_fun hok hlt
  apply cutl
  ·intro tail
   repeat refine VW.seq ?_
   refine VW.regl hT fun K hK => ?_
   simp only [wq, simprocAttr]
   refine ⟨hix, ?_⟩
   refine vbr (fun h => ?_) (fun h => ?_) <;> simp only [wq, simprocAttr]
   case refine_2 =>
    have h : decide ((t.getD i z).2.2 > 0) = false := h
    have h := of_decide_eq_false h
    have h : (t.getD i z).2.2 = 0 := by omega
    have ho : owns t b a i = false := by rw [owns, h]; rfl
    refine hK _ ?_
    try refine vthen_n ?_
    refine VW.cond rfl (fun hc => by cases hc) (fun hc => ?_)
    refine VW.skip ?_
    show vthen _ _ _ .normal _
    refine vthen_n ?_
    refine VW.weak (weak_norm [(0, none), (1, none), (2, none), (7, none)] _) ?_
    simp only [wn, wq, simprocAttr]
    revert ho
    exact tail.h
   have h : decide ((t.getD i z).2.2 > 0) = true := h
   have h := of_decide_eq_true h
   have h : ((t.getD i z).2.2 == 0) = false := beq_eq_false_iff_ne.2 (by omega)
   refine ⟨decide_eq_true ⟨Int.natCast_nonneg _, by show (i : Int) < (b.length : Int); omega⟩, ?_⟩
   refine vcall_of (specCovers_vc _ _) ?_
   simp only [wq, simprocAttr]
   refine hK _ ?_
   try refine vthen_n ?_
   refine VW.cond rfl (fun hc => ?_) (fun hc => ?_)
   ·have hc : covB (b.getD i zb) a = true := hc
    have ho : owns t b a i = true := by rw [owns, h, hc]; rfl
    rw [if_pos ho] at hgo
    repeat refine VW.seq ?_
    refine VW.regl hT fun K hK => ?_
    simp only [wq, simprocAttr]
    refine hK _ ?_
    clear hK K
    try refine vthen_n ?_
    refine VW.ret ⟨.inl rfl, _, rfl, ?_⟩
    rw [hgo]
   ·have hc : covB (b.getD i zb) a = false := hc
    have ho : owns t b a i = false := by rw [owns, h, hc]; rfl
    refine VW.skip ?_
    show vthen _ _ _ .normal _
    refine vthen_n ?_
    refine VW.weak (weak_norm [(0, none), (1, none), (2, none), (7, none)] _) ?_
    simp only [wn, wq, simprocAttr]
    revert ho
    exact tail.h
  ·intro ho
   rw [if_neg (by rw [ho]; decide)] at hgo
   repeat refine VW.seq ?_
   refine VW.regl hT fun K hK => ?_
   simp only [wq, simprocAttr]
   refine hK _ ?_
   clear hK K
   try refine vthen_n ?_
   refine ⟨i + 1, ⟨hlt, by rw [hgo, show t.length - (i + 1) = f by omega]⟩, ?_, by show t.length - (i + 1) < t.length - i; omega⟩
   simp only [wn, wq, simprocAttr]
   rw [wrap64 (by omega) (by omega)]
   rfl
 ·have hge : i = t.length := by
   have : t.length ≤ i := by simpa using hc
   omega
  subst hge
  refine VW.exit ?_
  show vthen _ _ _ .normal _
  refine vthen_n ?_
  repeat refine VW.seq ?_
  refine VW.regl hT fun K hK => ?_
  simp only [wq, simprocAttr]
  refine hK _ ?_
  clear hK K
  try refine vthen_n ?_
  refine VW.ret ⟨.inl rfl, _, rfl, ?_⟩
  rw [hgo, Nat.sub_self]
  rfl
end Go.Proofs.YtmechjnfeidnkaaGreat.V.W
end
section
namespace Go.Proofs.YtmechjnfeidnkaaGreat.V.W
open Go Go.RowKit
set_option maxRecDepth 20000 in
theorem specPathTo_vc (t : List Nd) (k : Int) (hl : t.length ≤ 2000000) : VC Tryz.prog 156 [.v false sNS t, .v false (.int .i64) (k)] (· = .root (.val false) sI .own (pathTo t k)) := by
 refine VC.of_body hT Tryz.func156 rfl (by kernel_rfl) [(.tmp 4, false, sI)] (by kernel_rfl) ?_
 show VW _ _ ([.v false sNS t, .v false (.int .i64) (k), D, D, D, D, D, D, D, D, D, D, D, D, D, D, D, D, D, D, D, D, D, D]) _
 repeat refine VW.seq ?_
 refine VW.regl hT fun K hK => ?_
 simp only [wq, simprocAttr]
 refine hK _ ?_
 clear hK K
 try refine vthen_n ?_
 repeat refine VW.seq ?_
 refine VW.regl hT fun K hK => ?_
 simp only [wq, simprocAttr]
 refine hK _ ?_
 clear hK K
 try refine vthen_n ?_
 repeat refine VW.seq ?_
 refine VW.regl hT fun K hK => ?_
 simp only [wq, simprocAttr]
 refine vcall_of (specNode_vc t k hl) ?_
 simp only [wq, simprocAttr]
 refine hK _ ?_
 clear hK K
 try refine vthen_n ?_
 repeat refine VW.seq ?_
 refine VW.cond rfl (fun hc => ?_) (fun hc => ?_)
 ·repeat refine VW.seq ?_
  refine VW.regl hT fun K hK => ?_
  simp only [wq, simprocAttr]
  refine hK _ ?_
  clear hK K
  try refine vthen_n ?_
  refine VW.ret ⟨.inl rfl, _, rfl, ?_⟩
  have h' : (treeOk t && inB k 0 (t.length - 1)) = false := (Bool.not_eq_true' _).mp hc
  rw [pathTo, h']
  rfl
 have hok : (treeOk t && inB k 0 (t.length - 1)) = true := by
  have := hc
  rwa [Bool.not_eq_false'] at this
 have hk := hok
 simp only [Bool.and_eq_true] at hk
 have htr := hk.1
 have hk := inB_iff.1 hk.2
 have htl := treeOk_len htr
 refine VW.skip ?_
 show vthen _ _ _ .normal _
 refine vthen_n ?_
 repeat refine VW.seq ?_
 refine VW.block ?_
 refine VW.loop (α := Nat) [(0, none), (1, none), (5, some (3, .int .i64))] (fun i => [.v false sNS t, .v false (.int .i64) (anc t k i), D, D, D, .root (.val false) sI .own (accTo t k i).reverse, D, D, D, D, D, D, D, D, D, D, D, D, D, D, D, D, D, D]) (fun i => i ≤ t.length ∧ ∀ j, j < i → 0 ≤ anc t k j) (fun i => t.length - i) ⟨0, ⟨by omega, fun j hj => by omega⟩, ?_⟩ fun i ⟨hi, hj⟩ => ?_
 ·simp only [wn, wq, simprocAttr]
  try rfl
 have ha := anc_lt htr (show k < t.length by omega) i (by omega)
 have hal : (accTo t k i).length = i := by simp [accTo]
 repeat refine VW.seq ?_
 refine VW.regl hT fun K hK => ?_
 simp only [wq, simprocAttr]
 refine hK _ ?_
 clear hK K
 try refine vthen_n ?_
 repeat refine VW.seq ?_
 refine VW.cond rfl (fun hc => ?_) (fun hc => ?_)
 ·have hge : 0 ≤ anc t k i := of_decide_eq_true hc
  have := ha.2.2 hge
  refine VW.skip (vthen_n ?_)
  repeat refine VW.seq ?_
  refine VW.block ?_
  repeat refine VW.seq ?_
  refine VW.regE hT 4 (fun K hK => ?_) (by decide)
  simp only [List.take_succ_cons, List.take_zero, wq, simprocAttr]
  refine ⟨by simp [limOk]; omega, ?_⟩
  refine hK _ _ _ rfl rfl (does_over hT (d := 5) rfl (by rfl) (by rfl) (by rfl) rfl) ?_
  simp only [List.drop_succ_cons, List.drop_zero, List.getElem_toArray, List.getElem_cons_succ, List.getElem_cons_zero, wq, simprocAttr]
  clear hK K
  show vthen _ _ _ .normal _
  refine vthen_n ?_
  repeat refine VW.seq ?_
  refine VW.regl hT fun K hK => ?_
  simp only [wq, simprocAttr]
  refine ⟨decide_eq_true ⟨hge, ha.2.1⟩, ?_⟩
  refine hK _ ?_
  clear hK K
  try refine vthen_n ?_
  refine ⟨i + 1, ⟨by omega, fun j h => ?_⟩, ?_, by show t.length - (i + 1) < t.length - i; omega⟩
  ·rcases Nat.lt_or_ge j i with h1 | h1
   ·exact hj j h1
   ·obtain rfl : j = i := by omega
    exact hge
  ·simp only [wn, wq, simprocAttr]
   rw [accTo_succ, List.reverse_append]
   rfl
 ·have hlt : anc t k i < 0 := by
   have : ¬ 0 ≤ anc t k i := of_decide_eq_false hc
   omega
  refine VW.exit ?_
  show vthen _ _ _ .normal _
  refine vthen_n ?_
  repeat refine VW.seq ?_
  refine VW.regl hT fun K hK => ?_
  simp only [wq, simprocAttr]
  refine hK _ ?_
  clear hK K
  try refine vthen_n ?_
  refine VW.ret ⟨.inl rfl, _, rfl, ?_⟩
  rw [pathTo, if_pos hok, accTo_all htr hlt hj _ hi]
end Go.Proofs.YtmechjnfeidnkaaGreat.V.W
end
section
namespace Go.Proofs.YtmechjnfeidnkaaGreat.V.W
open Go Go.RowKit
theorem path_none {t : List Nd} {k : Int} (h : isNd t k = false) : pathTo t k = [] := by
 rw [pathTo, if_neg (by rw [show (treeOk t && inB k 0 (t.length - 1)) = isNd t k from rfl, h]; decide)]
theorem path_some {t : List Nd} {k : Int} (h : (pathTo t k).length ≠ 0) : isNd t k = true := by
 cases e : isNd t k with
 | true => rfl
 | false => rw [path_none e] at h; exact absurd rfl h
/-- the end of a row from behind: what is done after j steps -/
theorem back_snoc {x : List Int} {m j : Nat} (h1 : m ≤ j) (h2 : j < x.length) : (x.drop (j + 1)).reverse ++ [x.getD j 0] = (x.drop j).reverse := by
 rw [List.drop_eq_getElem_cons h2, List.reverse_cons, List.getD_eq_getElem?_getD, List.getElem?_eq_getElem h2]
 rfl
set_option maxRecDepth 20000 in
set_option maxHeartbeats 1000000 in
theorem specBetween_vc (t : List Nd) (a b : Int) (hl : t.length ≤ 2000000) : VC Tryz.prog 133 [.v false sNS t, .v false (.int .i64) (a), .v false (.int .i64) (b)] (· = .root (.val false) sI .own (between t a b)) := by
 refine VC.of_body hT Tryz.func133 rfl (by kernel_rfl) [(.tmp 6, false, sI)] (by kernel_rfl) ?_
 show VW _ _ ([.v false sNS t, .v false (.int .i64) (a), .v false (.int .i64) (b), D, D, D, D, D, D, D, D, D, D, D, D, D, D, D, D, D, D, D, D, D, D, D, D, D, D, D, D, D, D, D, D, D, D, D, D, D, D, D, D, D, D, D, D, D, D, D, D, D, D, D, D, D, D, D, D, D, D, D, D, D, D, D, D, D, D, D, D, D]) _
 repeat refine VW.seq ?_
 refine VW.regl hT fun K hK => ?_
 simp only [wq, simprocAttr]
 refine hK _ ?_
 clear hK K
 try refine vthen_n ?_
 repeat refine VW.seq ?_
 refine VW.regl hT fun K hK => ?_
 simp only [wq, simprocAttr]
 refine vcall_of (specPathTo_vc t a hl) ?_
 simp only [wq, simprocAttr]
 refine hK _ ?_
 clear hK K
 try refine vthen_n ?_
 repeat refine VW.seq ?_
 refine VW.regl hT fun K hK => ?_
 simp only [wq, simprocAttr]
 refine vcall_of (specPathTo_vc t b hl) ?_
 simp only [wq, simprocAttr]
 refine hK _ ?_
 clear hK K
 try refine vthen_n ?_
 repeat refine VW.seq ?_
 refine VW.regl hT fun K hK => ?_
 simp only [wq, simprocAttr]
 refine hK _ ?_
 clear hK K
 try refine vthen_n ?_
 have hpa := fun h => path_head (t := t) (k := a) h
 have hpb := fun h => path_head (t := t) (k := b) h
 have hia := fun h => path_some (t := t) (k := a) h
 have hib := fun h => path_some (t := t) (k := b) h
 have hbt : between t a b = if (isNd t a && isNd t b) = true then ((pathTo t a).drop (cpl (pathTo t a) (pathTo t b) - 1)).reverse ++ (pathTo t b).drop (cpl (pathTo t a) (pathTo t b)) else [] := rfl
 have hna := fun h => path_none (t := t) (k := a) h
 have hnb := fun h => path_none (t := t) (k := b) h
 rw [hbt]
 clear hbt
 have hx12 : isNd t a = true → (pathTo t a).length ≤ 12 := fun h => (hpa h).2.2
 generalize pathTo t a = x at *
 generalize pathTo t b = y at *
 refine VW.weak (weak_norm [(7, none), (8, none), (9, none)] _) ?_
 simp only [wn, wq, simprocAttr]
 refine VW.giveup 7 rfl rfl ?_
 refine VW.giveup 8 rfl rfl ?_
 simp only [V.drop, usesG, wq, simprocAttr]
 repeat refine VW.seq ?_
 refine VW.regl hT fun K hK => ?_
 simp only [wq, simprocAttr]
 have hlx0 : x.length = 0 → isNd t a = false := fun h => by
  cases e : isNd t a with
  | false => rfl
  | true => have := (hpa e).1; omega
 have hly0 : y.length = 0 → isNd t b = false := fun h => by
  cases e : isNd t b with
  | false => rfl
  | true => have := (hpb e).1; omega
 refine vbr (fun h => ?_) (fun h => ?_) <;> simp only [wq, simprocAttr]
 case refine_2 =>
  have h : ((x.length : Int) == 0) = true := h
  have h0 : x.length = 0 := by
   have : (x.length : Int) = 0 := by simpa using h
   omega
  refine hK _ ?_
  clear hK K
  try refine vthen_n ?_
  repeat refine VW.seq ?_
  refine VW.cond rfl (fun hc => ?_) (fun hc => ?_)
  ·repeat refine VW.seq ?_
   refine VW.regl hT fun K hK => ?_
   simp only [wq, simprocAttr]
   refine hK _ ?_
   clear hK K
   try refine vthen_n ?_
   refine VW.ret ⟨.inl rfl, _, rfl, ?_⟩
   rw [hlx0 h0, Bool.false_and, if_neg (by decide)]
   rfl
  ·cases hc
 have h : ((x.length : Int) == 0) = false := h
 have px1 : 0 < x.length := by
  have : ¬ (x.length : Int) = 0 := by simpa using h
  omega
 have ha : isNd t a = true := hia (by omega)
 refine hK _ ?_
 clear hK K
 try refine vthen_n ?_
 repeat refine VW.seq ?_
 refine VW.cond rfl (fun hc => ?_) (fun hc => ?_)
 ·have hc : ((y.length : Int) == 0) = true := hc
  have h0 : y.length = 0 := by
   have : (y.length : Int) = 0 := by simpa using hc
   omega
  repeat refine VW.seq ?_
  refine VW.regl hT fun K hK => ?_
  simp only [wq, simprocAttr]
  refine hK _ ?_
  clear hK K
  try refine vthen_n ?_
  refine VW.ret ⟨.inl rfl, _, rfl, ?_⟩
  rw [hly0 h0, Bool.and_false, if_neg (by decide)]
  rfl
 have py1 : 0 < y.length := by
  have hc : ((y.length : Int) == 0) = false := hc
  have : ¬ (y.length : Int) = 0 := by simpa using hc
  omega
 have hb : isNd t b = true := hib (by omega)
 rw [ha, hb, Bool.true_and, if_pos rfl]
 obtain ⟨-, px2, px3⟩ := hpa ha
 obtain ⟨-, py2, py3⟩ := hpb hb
 have hcp := cpl_pos px1 py1 (by rw [px2, py2])
 clear hpa hpb hia hib hna hnb hlx0 hly0 hx12
 refine VW.skip (vthen_n ?_)
 repeat refine VW.seq ?_
 refine VW.regl hT fun K hK => ?_
 simp only [wq, simprocAttr]
 refine hK _ ?_
 clear hK K
 try refine vthen_n ?_
 repeat refine VW.seq ?_
 refine VW.block ?_
 refine VW.loop (α := Nat) [(7, none), (8, none), (9, none), (10, none)] (fun i => [D, D, D, D, D, D, D, .v false sI x, .v false sI y, .emp, .v false (.int .i64) ((i : Nat)), D, D, D, D, D, D, D, D, D, D, D, D, D, D, D, D, D, D, D, D, D, D, D, D, D, D, D, D, D, D, D, D, D, D, D, D, D, D, D, D, D, D, D, D, D, D, D, D, D, D, D, D, D, D, D, D, D, D, D, D, D]) (fun i => i ≤ x.length ∧ i ≤ y.length ∧ ∀ j, j < i → x.getD j 0 = y.getD j 0) (fun i => x.length - i) ⟨0, ⟨by omega, by omega, fun j h => by omega⟩, ?_⟩ fun i ⟨hx, hy, hj⟩ => ?_
 ·simp only [wn, wq, simprocAttr]
  try rfl
 apply cutl
 ·intro tail
  repeat refine VW.seq ?_
  refine VW.drawl hT hm (by kernel_rfl) fun K hK => ?_
  simp only [wq, simprocAttr]
  refine vbr (fun h => ?_) (fun h => ?_) <;> simp only [wq, simprocAttr]
  case refine_2 =>
   have h : decide ((i : Int) < (x.length : Int)) = false := h
   have h := of_decide_eq_false h
   have hend : i = x.length ∨ i = y.length ∨ x.getD i 0 ≠ y.getD i 0 := .inl (by omega)
   refine hK _ ?_
   try refine vthen_n ?_
   refine VW.cond rfl (fun hc => by cases hc) (fun hc => ?_)
   refine VW.exit ?_
   show vthen _ _ _ .normal _
   refine vthen_n ?_
   refine VW.weak (weak_norm [(7, none), (8, none), (9, none), (10, none)] _) ?_
   simp only [wn, wq, simprocAttr]
   revert hend
   exact tail.h
  have h : decide ((i : Int) < (x.length : Int)) = true := h
  have h := of_decide_eq_true h
  have hlx : i < x.length := by omega
  refine vbr (fun h2 => ?_) (fun h2 => ?_) <;> simp only [wq, simprocAttr]
  case refine_2 =>
   have h2 : decide ((i : Int) < (y.length : Int)) = false := h2
   have h2 := of_decide_eq_false h2
   have hend : i = x.length ∨ i = y.length ∨ x.getD i 0 ≠ y.getD i 0 := .inr (.inl (by omega))
   refine hK _ ?_
   try refine vthen_n ?_
   refine VW.cond rfl (fun hc => by cases hc) (fun hc => ?_)
   refine VW.exit ?_
   show vthen _ _ _ .normal _
   refine vthen_n ?_
   refine VW.weak (weak_norm [(7, none), (8, none), (9, none), (10, none)] _) ?_
   simp only [wn, wq, simprocAttr]
   revert hend
   exact tail.h
  have h2 : decide ((i : Int) < (y.length : Int)) = true := h2
  have h2 := of_decide_eq_true h2
  have hly : i < y.length := by omega
  refine ⟨decide_eq_true ⟨Int.natCast_nonneg _, by show (i : Int) < (x.length : Int); omega⟩, decide_eq_true ⟨Int.natCast_nonneg _, by show (i : Int) < (y.length : Int); omega⟩, ?_⟩
  refine hK _ ?_
  try refine vthen_n ?_
  refine VW.cond rfl (fun hc => ?_) (fun hc => ?_)
  ·have hc : (x.getD i 0 == y.getD i 0) = true := hc
   refine VW.skip (vthen_n ?_)
   repeat refine VW.seq ?_
   refine VW.block ?_
   repeat refine VW.seq ?_
   refine VW.regl hT fun K hK => ?_
   simp only [wq, simprocAttr]
   refine hK _ ?_
   clear hK K
   try refine vthen_n ?_
   refine ⟨i + 1, ⟨hlx, hly, fun j hj2 => ?_⟩, ?_, by show x.length - (i + 1) < x.length - i; omega⟩
   ·rcases Nat.lt_or_ge j i with h1 | h1
    ·exact hj j h1
    ·obtain rfl : j = i := by omega
     simpa using hc
   simp only [wn, wq, simprocAttr]
   rw [wrap64 (by omega) (by omega)]
   rfl
  ·have hc : (x.getD i 0 == y.getD i 0) = false := hc
   have hend : i = x.length ∨ i = y.length ∨ x.getD i 0 ≠ y.getD i 0 := .inr (.inr (by simpa using hc))
   refine VW.exit ?_
   show vthen _ _ _ .normal _
   refine vthen_n ?_
   refine VW.weak (weak_norm [(7, none), (8, none), (9, none), (10, none)] _) ?_
   simp only [wn, wq, simprocAttr]
   revert hend
   exact tail.h
 ·intro hend
  have hi := cpl_eq x y i hx hy hj hend
  rw [hi] at hcp
  rw [hi]
  obtain ⟨m, rfl⟩ : ∃ m, i = m + 1 := ⟨i - 1, by omega⟩
  rw [show m + 1 - 1 = m by omega]
  repeat refine VW.seq ?_
  refine VW.regl hT fun K hK => ?_
  simp only [wq, simprocAttr]
  refine hK _ ?_
  clear hK K
  try refine vthen_n ?_
  repeat refine VW.seq ?_
  refine VW.block ?_
  refine VW.loop (α := Nat) [(8, none), (7, none), (9, some (3, .int .i64)), (10, none), (11, none)] (fun j => [D, D, D, D, D, D, D, .v false sI x, .v false sI y, .root (.val false) sI .own (x.drop j).reverse, .v false (.int .i64) (((m + 1 : Nat) : Int)), .v false (.int .i64) ((j : Int) - 1), D, D, D, D, D, D, D, D, D, D, D, D, D, D, D, D, D, D, D, D, D, D, D, D, D, D, D, D, D, D, D, D, D, D, D, D, D, D, D, D, D, D, D, D, D, D, D, D, D, D, D, D, D, D, D, D, D, D, D, D]) (fun j => m ≤ j ∧ j ≤ x.length) (fun j => j) ⟨x.length, ⟨by omega, by omega⟩, ?_⟩ fun j ⟨hj1, hj2⟩ => ?_
  ·simp only [wn, wq, simprocAttr]
   rw [wrap64 (by omega) (by omega), List.drop_length]
   rfl
  have hdl : (x.drop j).length = x.length - j := List.length_drop ..
  repeat refine VW.seq ?_
  refine VW.regl hT fun K hK => ?_
  simp only [wq, simprocAttr]
  refine hK _ ?_
  clear hK K
  try refine vthen_n ?_
  rw [wrap64 (by omega) (by omega)]
  repeat refine VW.seq ?_
  refine VW.cond rfl (fun hc => ?_) (fun hc => ?_)
  ·have hc : (j : Int) - 1 ≥ ((m + 1 : Nat) : Int) - 1 := of_decide_eq_true hc
   obtain ⟨q, rfl⟩ : ∃ q, j = q + 1 := ⟨j - 1, by omega⟩
   rw [show ((q + 1 : Nat) : Int) - 1 = (q : Int) by omega]
   refine VW.skip (vthen_n ?_)
   repeat refine VW.seq ?_
   refine VW.block ?_
   repeat refine VW.seq ?_
   refine VW.regl hT fun K hK => ?_
   simp only [wq, simprocAttr]
   refine ⟨decide_eq_true ⟨Int.natCast_nonneg _, by show (q : Int) < (x.length : Int); omega⟩, ?_, ?_⟩
   ·have : ((x.drop (q + 1)).reverse).length ≤ 12 := by rw [List.length_reverse]; omega
    generalize (x.drop (q + 1)).reverse = w at *
    simp [limOk]
    omega
   refine hK _ ?_
   clear hK K
   try refine vthen_n ?_
   repeat refine VW.seq ?_
   refine VW.regl hT fun K hK => ?_
   simp only [wq, simprocAttr]
   refine hK _ ?_
   clear hK K
   try refine vthen_n ?_
   refine ⟨q, ⟨by omega, by omega⟩, ?_, by show q < q + 1; omega⟩
   simp only [wn, wq, simprocAttr]
   rw [wrap64 (by omega) (by omega), back_snoc (m := m) (by omega) (by omega)]
  ·have hc : ¬ (j : Int) - 1 ≥ ((m + 1 : Nat) : Int) - 1 := of_decide_eq_false hc
   obtain rfl : j = m := by omega
   refine VW.exit ?_
   show vthen _ _ _ .normal _
   refine vthen_n ?_
   repeat refine VW.seq ?_
   refine VW.regl hT fun K hK => ?_
   simp only [wq, simprocAttr]
   rw [List.take_length]
   refine ⟨decide_eq_true ⟨by omega, by omega, by omega⟩, ?_, ?_⟩
   ·have e1 : (x.drop j).reverse.length + (y.drop (j + 1)).length ≤ 24 := by
     rw [List.length_reverse, List.length_drop, List.length_drop]
     omega
    generalize (x.drop j).reverse.length + (y.drop (j + 1)).length = q at *
    simp [limOk]
    omega
   refine hK _ ?_
   clear hK K
   try refine vthen_n ?_
   refine VW.weak (weak_norm [(6, none)] _) ?_
   simp only [wn, wq, simprocAttr]
   exact VW.ret ⟨.inl rfl, _, rfl, rfl⟩
end Go.Proofs.YtmechjnfeidnkaaGreat.V.W
end
section
namespace Go.Proofs.YtmechjnfeidnkaaGreat.V.W
open Go Go.RowKit
/-- two rows agree as far as cpl says -/
theorem cpl_spec : ∀ x y : List Int, cpl x y ≤ x.length ∧ cpl x y ≤ y.length ∧ ∀ j, j < cpl x y → x.getD j 0 = y.getD j 0
 | [], y => by simp [cpl]
 | a :: x, [] => by simp [cpl]
 | a :: x, b :: y => by
  obtain ⟨h1, h2, h3⟩ := cpl_spec x y
  by_cases e : a = b
  ·simp only [cpl, e, if_true, List.length_cons]
   refine ⟨by omega, by omega, fun j hj => ?_⟩
   match j, hj with
   | 0, _ => rfl
   | j + 1, hj => exact h3 j (by omega)
  ·simp [cpl, e]
theorem rev_getD {x : List Int} {j : Nat} (h : j < x.length) : x.reverse.getD j 0 = x.getD (x.length - 1 - j) 0 := by
 rw [List.getD_eq_getElem?_getD, List.getElem?_reverse h, ← List.getD_eq_getElem?_getD]
theorem drop_getD (x : List Int) (n j : Nat) : (x.drop n).getD j 0 = x.getD (n + j) 0 := by
 rw [List.getD_eq_getElem?_getD, List.getElem?_drop, ← List.getD_eq_getElem?_getD]
theorem app_getDI (x y : List Int) (j : Nat) : (x ++ y).getD j 0 = if j < x.length then x.getD j 0 else y.getD (j - x.length) 0 := by
 rw [List.getD_eq_getElem?_getD]
 split
 ·rename_i h
  rw [List.getElem?_append_left h, ← List.getD_eq_getElem?_getD]
 ·rename_i h
  rw [List.getElem?_append_right (by omega), ← List.getD_eq_getElem?_getD]
def upN (t : List Nd) (k : Int) : Int := (t.getD k.toNat z).1
/-- each node of a path to a node stands below the one ahead of it -/
theorem path_chain {t : List Nd} {k : Int} (h : isNd t k = true) (j : Nat) (hj : j + 1 < (pathTo t k).length) : upN t ((pathTo t k).getD (j + 1) 0) = (pathTo t k).getD j 0 := by
 have hok : treeOk t = true := by
  rw [isNd, Bool.and_eq_true] at h
  exact h.1
 have hk := inB_iff.1 (by rw [isNd, Bool.and_eq_true] at h; exact h.2 : inB k 0 (t.length - 1) = true)
 have hex : ∃ i, pathTo t k = (accTo t k i).reverse := by
  have hend : anc t k t.length < 0 := by
   have := anc_lt hok (k := k) (by omega) t.length (by omega)
   have htl := treeOk_len hok
   omega
  have : ∀ n, anc t k n < 0 → ∃ i, i ≤ n ∧ anc t k i < 0 ∧ ∀ j, j < i → 0 ≤ anc t k j := by
   intro n
   induction n using Nat.strongRecOn with
   | _ n ih =>
    intro hn
    by_cases hex : ∃ j, j < n ∧ anc t k j < 0
    ·obtain ⟨j, h1, h2⟩ := hex
     obtain ⟨i, q1, q2, q3⟩ := ih j h1 h2
     exact ⟨i, by omega, q2, q3⟩
    ·refine ⟨n, Nat.le_refl _, hn, fun j hj => ?_⟩
     have : ¬ anc t k j < 0 := fun q => hex ⟨j, hj, q⟩
     omega
  obtain ⟨i, hi, h1, h2⟩ := this _ hend
  exact ⟨i, by rw [pathTo, if_pos (show (treeOk t && inB k 0 (t.length - 1)) = true from h), accTo_all hok h1 h2 _ hi]⟩
 obtain ⟨i, hp⟩ := hex
 rw [hp] at hj ⊢
 have hl : (accTo t k i).length = i := by simp [accTo]
 rw [List.length_reverse, hl] at hj
 have hg : ∀ m, m < i → (accTo t k i).getD m 0 = anc t k m := fun m hm => by
  rw [accTo, List.getD_eq_getElem?_getD, List.getElem?_map, List.getElem?_range hm]
  rfl
 rw [rev_getD (by omega), rev_getD (by omega), hl, hg _ (by omega), hg _ (by omega), show i - 1 - j = (i - 1 - (j + 1)) + 1 by omega]
 rfl
/-- neighbours on a path -/
theorem between_adj {t : List Nd} {a b : Int} (j : Nat) (hj : j + 1 < (between t a b).length) : upN t ((between t a b).getD j 0) = (between t a b).getD (j + 1) 0 ∨ upN t ((between t a b).getD (j + 1) 0) = (between t a b).getD j 0 := by
 rw [between] at hj ⊢
 split at hj
 case isFalse => simp at hj
 rename_i h
 rw [if_pos h]
 rw [Bool.and_eq_true] at h
 have hx := path_chain h.1
 have hy := path_chain h.2
 have px := path_head h.1
 have py := path_head h.2
 have hc := cpl_spec (pathTo t a) (pathTo t b)
 have hc1 := cpl_pos px.1 py.1 (by rw [px.2.1, py.2.1])
 generalize pathTo t a = x at *
 generalize pathTo t b = y at *
 generalize cpl x y = c at *
 obtain ⟨m, rfl⟩ : ∃ m, c = m + 1 := ⟨c - 1, by omega⟩
 rw [show m + 1 - 1 = m by omega] at hj ⊢
 obtain ⟨c1, c2, c3⟩ := hc
 have hU : ((x.drop m).reverse).length = x.length - m := by rw [List.length_reverse, List.length_drop]
 have hgU : ∀ q, q < x.length - m → ((x.drop m).reverse).getD q 0 = x.getD (x.length - 1 - q) 0 := fun q hq => by
  rw [rev_getD (by rw [List.length_drop]; exact hq), drop_getD, List.length_drop]
  congr 1
  omega
 rw [List.length_append, hU, List.length_drop] at hj
 rw [app_getDI, app_getDI, hU, drop_getD, drop_getD]
 by_cases h1 : j + 1 < x.length - m
 ·rw [if_pos (by omega), if_pos h1, hgU _ (by omega), hgU _ h1]
  left
  have := hx (x.length - 1 - (j + 1)) (by omega)
  rw [show x.length - 1 - (j + 1) + 1 = x.length - 1 - j by omega] at this
  exact this
 ·right
  rw [if_neg h1]
  by_cases h2 : j < x.length - m
  ·rw [if_pos h2, hgU _ h2, show x.length - 1 - j = m by omega, show m + 1 + (j + 1 - (x.length - m)) = m + 1 by omega, c3 m (by omega)]
   exact hy m (by omega)
  ·rw [if_neg h2]
   have := hy (m + 1 + (j - (x.length - m))) (by omega)
   rw [show m + 1 + (j + 1 - (x.length - m)) = m + 1 + (j - (x.length - m)) + 1 by omega]
   exact this
/-- which of two neighbours is the lower one may be asked from either side -/
theorem low_eq {t : List Nd} (hok : treeOk t = true) {x y : Int} (hx : 0 ≤ x ∧ x < t.length) (hy : 0 ≤ y ∧ y < t.length) (h : upN t x = y ∨ upN t y = x) : (if (upN t x == y) = true then x else y) = if (upN t y == x) = true then y else x := by
 have hlt : ∀ k : Int, 0 ≤ k ∧ k < t.length → upN t k < k := fun k hk => by
  unfold upN
  rcases Nat.eq_zero_or_pos k.toNat with e | e
  ·rw [e, (tree_parts hok).2.1]
   omega
  ·obtain ⟨p, hp, hpl⟩ := par hok (j := k.toNat) e (by omega)
   rw [hp]
   omega
 have q1 := hlt x hx
 have q2 := hlt y hy
 rcases h with h | h
 ·have : (upN t y == x) = false := beq_eq_false_iff_ne.2 (by omega)
  rw [this, h]
  simp
 ·have : (upN t x == y) = false := beq_eq_false_iff_ne.2 (by omega)
  rw [this, h]
  simp
set_option maxRecDepth 20000 in
set_option maxHeartbeats 1000000 in
theorem specCanReach_vc (t : List Nd) (g : List Bool) (a b : Int) (hl : t.length ≤ 2000000) : VC Tryz.prog 78 [.v false sNS t, .v true sG g, .v false (.int .i64) (a), .v false (.int .i64) (b)] (· = .v false .bool (canReach t g a b)) := by
 refine VC.of_body hT Tryz.func78 rfl (by kernel_rfl) [(.tmp 8, false, .bool)] (by kernel_rfl) ?_
 show VW _ _ ([.v false sNS t, .v true sG g, .v false (.int .i64) (a), .v false (.int .i64) (b), D, D, D, D, D, D, D, D, D, D, D, D, D, D, D, D, D, D, D, D, D, D, D, D, D, D, D, D, D, D, D, D, D, D, D, D, D, D, D, D, D, D, D, D, D, D, D, D, D, D, D, D, D, D, D, D, D]) _
 have hmem := fun x (hx : x ∈ between t a b) => between_mem hx
 have hpl := between_len t a b
 have hadj := fun j h => between_adj (t := t) (a := a) (b := b) j h
 rw [canReach]
 repeat refine VW.seq ?_
 refine VW.regl hT fun K hK => ?_
 simp only [wq, simprocAttr]
 refine hK _ ?_
 clear hK K
 try refine vthen_n ?_
 repeat refine VW.seq ?_
 refine VW.regl hT fun K hK => ?_
 simp only [wq, simprocAttr]
 refine vcall_of (specBetween_vc t a b hl) ?_
 simp only [wq, simprocAttr]
 refine hK _ ?_
 clear hK K
 try refine vthen_n ?_
 generalize between t a b = p at *
 repeat refine VW.seq ?_
 refine VW.regl hT fun K hK => ?_
 simp only [wq, simprocAttr]
 refine vcall_of (specGuard_vc t g hl) ?_
 simp only [wq, simprocAttr]
 refine vbr (fun h => ?_) (fun h => ?_) <;> simp only [wq, simprocAttr]
 case refine_2 =>
  have h : guardOk t g = false := (Bool.not_eq_true' _).mp h
  refine hK _ ?_
  clear hK K
  try refine vthen_n ?_
  repeat refine VW.seq ?_
  refine VW.cond rfl (fun hc => ?_) (fun hc => ?_)
  ·repeat refine VW.seq ?_
   refine VW.regl hT fun K hK => ?_
   simp only [wq, simprocAttr]
   refine hK _ ?_
   clear hK K
   try refine vthen_n ?_
   refine VW.ret ⟨.inl rfl, _, rfl, ?_⟩
   rw [h]
   rfl
  ·cases hc
 have hg : guardOk t g = true := by
  have := h
  rwa [Bool.not_eq_false'] at this
 have hg2 := hg
 rw [guardOk, Bool.and_eq_true, Bool.and_eq_true, beq_iff_eq] at hg2
 obtain ⟨hok, hgl, _⟩ := hg2
 refine hK _ ?_
 clear hK K
 try refine vthen_n ?_
 repeat refine VW.seq ?_
 refine VW.cond rfl (fun hc => ?_) (fun hc => ?_)
 ·have hc : ((p.length : Int) == 0) = true := hc
  have h0 : p.length = 0 := by
   have : (p.length : Int) = 0 := by simpa using hc
   omega
  repeat refine VW.seq ?_
  refine VW.regl hT fun K hK => ?_
  simp only [wq, simprocAttr]
  refine hK _ ?_
  clear hK K
  try refine vthen_n ?_
  refine VW.ret ⟨.inl rfl, _, rfl, ?_⟩
  rw [h0, hg]
  rfl
 have h0 : (!(p.length == 0)) = true := by
  have hc : ((p.length : Int) == 0) = false := hc
  have : ¬ (p.length : Int) = 0 := by simpa using hc
  have : p.length ≠ 0 := by omega
  simpa using this
 have hp1 : 1 ≤ p.length := by
  have : p.length ≠ 0 := by simpa using h0
  omega
 rw [hg, h0, Bool.true_and, Bool.true_and]
 refine VW.skip (vthen_n ?_)
 repeat refine VW.seq ?_
 refine VW.regl hT fun K hK => ?_
 simp only [wq, simprocAttr]
 refine hK _ ?_
 clear hK K
 try refine vthen_n ?_
 repeat refine VW.seq ?_
 refine VW.block ?_
 refine VW.loop (α := Nat) [(0, none), (5, none), (9, none), (10, none)] (fun i => [.v false sNS t, D, D, D, D, .root (.box 30) sG .fz g, D, D, D, .root (.val false) sI .own p, .v false (.int .i64) ((i : Nat)), D, D, D, D, D, D, D, D, D, D, D, D, D, D, D, D, D, D, D, D, D, D, D, D, D, D, D, D, D, D, D, D, D, D, D, D, D, D, D, D, D, D, D, D, D, D, D, D, D, D]) (fun i => i + 1 ≤ p.length ∧ ∀ j, j < i + 1 → (j == 0 || g.getD (lowAt t p j).toNat false) = true) (fun i => p.length - i) ⟨0, ⟨by omega, fun j h => ?_⟩, ?_⟩ fun i ⟨hi, hj⟩ => ?_
 ·obtain rfl : j = 0 := by omega
  rfl
 ·simp only [wn, wq, simprocAttr]
  try rfl
 repeat refine VW.seq ?_
 refine VW.regl hT fun K hK => ?_
 simp only [wq, simprocAttr]
 refine hK _ ?_
 clear hK K
 try refine vthen_n ?_
 rw [wrap64 (by omega) (by omega)]
 repeat refine VW.seq ?_
 refine VW.cond rfl (fun hc => ?_) (fun hc => ?_)
 ·have hlt : i + 1 < p.length := by
   have := of_decide_eq_true hc
   omega
  have m1 := hmem _ (getD_mem hlt)
  have m2 := hmem _ (getD_mem (i := i) (by omega))
  have hlow : lowAt t p (i + 1) = if (t.getD (p.getD (i + 1) 0).toNat z).1 == p.getD i 0 then p.getD (i + 1) 0 else p.getD i 0 := by
   have : lowAt t p (i + 1) = if (upN t (p.getD i 0) == p.getD (i + 1) 0) = true then p.getD i 0 else p.getD (i + 1) 0 := rfl
   rw [this, low_eq hok m2 m1 (hadj i hlt)]
   rfl
  refine VW.skip (vthen_n ?_)
  repeat refine VW.seq ?_
  refine VW.block ?_
  repeat refine VW.seq ?_
  refine VW.regl hT fun K hK => ?_
  simp only [wq, simprocAttr]
  refine ⟨decide_eq_true ⟨Int.natCast_nonneg _, by show (i : Int) < (p.length : Int); omega⟩, ?_⟩
  refine hK _ ?_
  clear hK K
  try refine vthen_n ?_
  repeat refine VW.seq ?_
  refine VW.drawl hT hm (by kernel_rfl) fun K hK => ?_
  simp only [wq, simprocAttr]
  rw [wrap64 (by omega) (by omega), show (i : Int) + 1 = ((i + 1 : Nat) : Int) by omega, Int.toNat_natCast]
  refine ⟨by kernel_rfl, by kernel_rfl, decide_eq_true ⟨Int.natCast_nonneg _, by show ((i + 1 : Nat) : Int) < (p.length : Int); omega⟩, by kernel_rfl, decide_eq_true m1, by kernel_rfl, by kernel_rfl, decide_eq_true ⟨Int.natCast_nonneg _, by show (i : Int) < (p.length : Int); omega⟩, by kernel_rfl, ?_⟩
  refine hK _ ?_
  clear hK K
  try refine vthen_n ?_
  apply cutl
  ·intro tail
   repeat refine VW.seq ?_
   refine VW.cond rfl (fun hc => ?_) (fun hc => ?_)
   ·have hc : ((t.getD (p.getD (i + 1) 0).toNat z).1 == p.getD i 0) = true := hc
    rw [if_pos hc] at hlow
    repeat refine VW.seq ?_
    refine VW.regl hT fun K hK => ?_
    simp only [wq, simprocAttr]
    rw [wrap64 (by omega) (by omega), show (i : Int) + 1 = ((i + 1 : Nat) : Int) by omega, Int.toNat_natCast]
    refine ⟨decide_eq_true ⟨Int.natCast_nonneg _, by show ((i + 1 : Nat) : Int) < (p.length : Int); omega⟩, ?_⟩
    refine hK _ ?_
    try refine vthen_n ?_
    refine VW.weak (weak_norm [(0, none), (5, none), (9, none), (10, none), (11, none)] _) ?_
    simp only [wn, wq, simprocAttr]
    rw [← hlow]
    exact tail.h
   ·have hc : ((t.getD (p.getD (i + 1) 0).toNat z).1 == p.getD i 0) = false := hc
    rw [if_neg (by rw [hc]; decide)] at hlow
    refine VW.skip ?_
    show vthen _ _ _ .normal _
    refine vthen_n ?_
    refine VW.weak (weak_norm [(0, none), (5, none), (9, none), (10, none), (11, none)] _) ?_
    simp only [wn, wq, simprocAttr]
    rw [← hlow]
    exact tail.h
  have m3 : 0 ≤ lowAt t p (i + 1) ∧ lowAt t p (i + 1) < t.length := by
   rw [hlow]
   split
   ·exact m1
   ·exact m2
  clear hlow
  repeat refine VW.seq ?_
  refine VW.regl hT fun K hK => ?_
  simp only [wq, simprocAttr]
  refine ⟨decide_eq_true ⟨m3.1, by show lowAt t p (i + 1) < (g.length : Int); omega⟩, ?_⟩
  refine hK _ ?_
  clear hK K
  try refine vthen_n ?_
  repeat refine VW.seq ?_
  refine VW.cond rfl (fun hc => ?_) (fun hc => ?_)
  ·have hc : g.getD (lowAt t p (i + 1)).toNat false = false := (Bool.not_eq_true' _).mp hc
   have hno : passes t g p = false := by
    rw [passes, List.all_eq_false]
    refine ⟨i + 1, List.mem_range.2 hlt, ?_⟩
    rw [hc, Bool.or_false]
    simp
   repeat refine VW.seq ?_
   refine VW.regl hT fun K hK => ?_
   simp only [wq, simprocAttr]
   refine hK _ ?_
   clear hK K
   try refine vthen_n ?_
   refine VW.ret ⟨.inl rfl, _, rfl, ?_⟩
   rw [hno]
  ·have hc : g.getD (lowAt t p (i + 1)).toNat false = true := by
    have := hc
    rwa [Bool.not_eq_false'] at this
   refine VW.skip ?_
   show vthen _ _ _ .normal _
   refine vthen_n ?_
   repeat refine VW.seq ?_
   refine VW.regl hT fun K hK => ?_
   simp only [wq, simprocAttr]
   refine hK _ ?_
   clear hK K
   try refine vthen_n ?_
   refine ⟨i + 1, ⟨by omega, fun j h => ?_⟩, ?_, by show p.length - (i + 1) < p.length - i; omega⟩
   ·rcases Nat.lt_or_ge j (i + 1) with h1 | h1
    ·exact hj j h1
    ·obtain rfl : j = i + 1 := by omega
     rw [hc, Bool.or_true]
   simp only [wn, wq, simprocAttr]
   rw [wrap64 (by omega) (by omega)]
   rfl
 ·have hge : i + 1 = p.length := by
   have : ¬ (i : Int) + 1 < (p.length : Int) := of_decide_eq_false hc
   omega
  refine VW.exit ?_
  show vthen _ _ _ .normal _
  refine vthen_n ?_
  repeat refine VW.seq ?_
  refine VW.regl hT fun K hK => ?_
  simp only [wq, simprocAttr]
  refine hK _ ?_
  clear hK K
  try refine vthen_n ?_
  refine VW.ret ⟨.inl rfl, _, rfl, ?_⟩
  have hyes : passes t g p = true := by
   rw [passes, List.all_eq_true]
   intro j h
   exact hj j (by have := List.mem_range.1 h; omega)
  rw [hyes]
end Go.Proofs.YtmechjnfeidnkaaGreat.V.W
end
section
namespace Go.Proofs.YtmechjnfeidnkaaGreat.V.W
open Go Go.RowKit
theorem wrapU {x : Int} (h : 0 ≤ x) (k : x ≤ 9223372036854775807) : IntKind.u64.wrap x = x := by simp [IntKind.wrap, IntKind.bits, IntKind.signed]; omega
/-- the end of an access lies in the window if there is room for it -/
theorem cov_room {w b a l : Int} (hw0 : 0 ≤ w) (hw : w ≤ 65536) (hb0 : 0 ≤ b) (hb : b ≤ 65536) (ha : a ≤ 9223372036854775807) (hl1 : 1 ≤ l) (hl2 : l ≤ 64) (h : covB (w, b) a = true) : covB (w, b) (IntKind.i64.wrap (IntKind.i64.wrap (a + l) - 1)) = !decide (l > room (w, b) a) := by
 rw [covB, Bool.and_eq_true, Bool.and_eq_true] at h
 obtain ⟨h1, h2, h3⟩ := h
 have h2 : a ≥ b := of_decide_eq_true h2
 have h1 : w > 0 := of_decide_eq_true h1
 have h3 : IntKind.u64.wrap (IntKind.u64.wrap a - IntKind.u64.wrap b) < IntKind.u64.wrap w := of_decide_eq_true h3
 rw [wrapU (x := a) (by omega) (by omega), wrapU (x := b) (by omega) (by omega), wrapU (x := w) (by omega) (by omega), wrapU (by omega) (by omega)] at h3
 have h4 : a - b < w := by omega
 have e1 : IntKind.i64.wrap (IntKind.i64.wrap (a + l) - 1) = a + l - 1 := by
  rw [wrap64 (x := a + l) (by omega) (by omega), wrap64 (by omega) (by omega)]
 have e2 : room (w, b) a = w - (a - b) := by
  show IntKind.i64.wrap (w - IntKind.i64.wrap (a - b)) = _
  rw [wrap64 (x := a - b) (by omega) (by omega), wrap64 (by omega) (by omega)]
 rw [e1, e2, covB]
 show (decide (w > 0) && (decide (a + l - 1 ≥ b) && decide (IntKind.u64.wrap (IntKind.u64.wrap (a + l - 1) - IntKind.u64.wrap b) < IntKind.u64.wrap w))) = _
 rw [wrapU (x := a + l - 1) (by omega) (by omega), wrapU (x := b) (by omega) (by omega), wrapU (x := w) (by omega) (by omega), wrapU (x := a + l - 1 - b) (by omega) (by omega)]
 rw [decide_eq_true (show w > 0 by omega), decide_eq_true (show a + l - 1 ≥ b by omega), Bool.true_and, Bool.true_and]
 by_cases hq : l > w - (a - b)
 ·rw [decide_eq_true hq]
  exact decide_eq_false (by omega)
 ·rw [decide_eq_false hq]
  exact decide_eq_true (by omega)
theorem fab_win {x : Fab} (h : fabOk x = true) {a : Int} {j : Nat} (hj : j < x.1.length) : 0 ≤ (x.2.2.1.getD j zb).1 ∧ (x.2.2.1.getD j zb).1 ≤ 65536 ∧ 0 ≤ (x.2.2.1.getD j zb).2 ∧ (x.2.2.1.getD j zb).2 ≤ 65536 := by
 obtain ⟨t, s, b, m, g⟩ := x
 rw [fabOk, Bool.and_eq_true, Bool.and_eq_true] at h
 obtain ⟨h1, h2, -⟩ := h
 have h1 : newOk t s = true := h1
 have h2 : allBars t s = b := of_decide_eq_true h2
 have hj : j < t.length := hj
 rw [newOk, fits, Bool.and_eq_true, Bool.and_eq_true] at h1
 have hs := h1.1.1
 have h65 : win t s 0 ≤ 65536 := of_decide_eq_true h1.1.2
 have hok : treeOk t = true := (sizesOk_iff.1 hs).1
 have := pos_bd hok s j j (Nat.le_refl _) hj
 show 0 ≤ (b.getD j zb).1 ∧ (b.getD j zb).1 ≤ 65536 ∧ 0 ≤ (b.getD j zb).2 ∧ (b.getD j zb).2 ≤ 65536
 rw [← h2, allBars, bars_get _ _ _ hj]
 refine ⟨Int.natCast_nonneg _, ?_, ?_, ?_⟩
 ·show (win t s j : Int) ≤ 65536
  omega
 ·show 0 ≤ (if true = true then (pos t s j : Int) else 0)
  rw [if_pos rfl]
  omega
 ·show (if true = true then (pos t s j : Int) else 0) ≤ 65536
  rw [if_pos rfl]
  omega
set_option maxRecDepth 20000 in
set_option maxHeartbeats 1000000 in
theorem specTargetOf_vc (x : Fab) (fr a l : Int) (hx : FabL x) (ha : a ≤ 9223372036854775807) : VC Tryz.prog 29 [.v true sFi x, .v false (.int .i64) (fr), .v false (.int .i64) (a), .v false (.int .i64) (l)] (· = r2 (targetOf x fr a l)) := by
 refine VC.of_body hT Tryz.func29 rfl (by kernel_rfl) [(.tmp 8, false, .int .i64), (.tmp 9, false, .int .i64)] (by kernel_rfl) ?_
 generalize hr : targetOf x fr a l = r
 show VW _ _ ([.v true sFi x, .v false (.int .i64) (fr), .v false (.int .i64) (a), .v false (.int .i64) (l), D, D, D, D, D, D, D, D, D, D, D, D, D, D, D, D, D, D, D, D, D, D, D, D, D, D, D, D, D, D, D, D, D, D, D, D, D, D, D, D, D, D, D, D, D, D, D, D, D, D, D, D, D, D, D, D, D]) _
 repeat refine VW.seq ?_
 refine VW.regl hT fun K hK => ?_
 simp only [wq, simprocAttr]
 refine hK _ ?_
 clear hK K
 try refine vthen_n ?_
 repeat refine VW.seq ?_
 refine VW.regl hT fun K hK => ?_
 simp only [wq, simprocAttr]
 refine vcall_of (specFabricOk_vc x hx) ?_
 simp only [wq, simprocAttr]
 refine vbr (fun h => ?_) (fun h => ?_) <;> simp only [wq, simprocAttr]
 case refine_2 =>
  have h : fabOk x = false := (Bool.not_eq_true' _).mp h
  refine hK _ ?_
  clear hK K
  try refine vthen_n ?_
  repeat refine VW.seq ?_
  refine VW.cond rfl (fun hc => ?_) (fun hc => ?_)
  ·repeat refine VW.seq ?_
   refine VW.regl hT fun K hK => ?_
   simp only [wq, simprocAttr]
   refine hK _ ?_
   clear hK K
   try refine vthen_n ?_
   refine VW.ret ⟨.inl rfl, _, rfl, ?_⟩
   rw [← hr, targetOf, if_neg (by rw [h]; decide)]
  ·cases hc
 have hf : fabOk x = true := by
  have := h
  rwa [Bool.not_eq_false'] at this
 rw [targetOf, if_pos hf] at hr
 have hwin := fun j (hj : j < x.1.length) => fab_win hf (a := a) hj
 obtain ⟨t, s, b, m, g⟩ := x
 have hla : t.length ≤ 2000000 := hx.a
 have htg : target (t, s, b, m, g) fr a l = if (inB fr 0 (t.length - 1) && inB l 1 64) = true then if ownerOf t b a < 0 then (0, 1) else if l > room (b.getD (ownerOf t b a).toNat zb) a then (ownerOf t b a, 3) else if canReach t g fr (ownerOf t b a) = true then (ownerOf t b a, 0) else (ownerOf t b a, 2) else (0, 1) := rfl
 rw [htg] at hr
 rw [wrap64 (by show -9223372036854775808 ≤ (t.length : Int) - 1; omega) (by show (t.length : Int) - 1 ≤ 9223372036854775807; omega)]
 refine vcall_of (in_vc fr 0 (t.length - 1)) ?_
 simp only [wq, simprocAttr]
 refine vbr (fun h => ?_) (fun h => ?_) <;> simp only [wq, simprocAttr]
 case refine_2 =>
  have h : inB fr 0 (t.length - 1) = false := (Bool.not_eq_true' _).mp h
  refine hK _ ?_
  clear hK K
  try refine vthen_n ?_
  repeat refine VW.seq ?_
  refine VW.cond rfl (fun hc => ?_) (fun hc => ?_)
  ·repeat refine VW.seq ?_
   refine VW.regl hT fun K hK => ?_
   simp only [wq, simprocAttr]
   refine hK _ ?_
   clear hK K
   try refine vthen_n ?_
   refine VW.ret ⟨.inl rfl, _, rfl, ?_⟩
   rw [← hr, h, if_neg (by simp)]
  ·cases hc
 have h1 : inB fr 0 (t.length - 1) = true := by
  have := h
  rwa [Bool.not_eq_false'] at this
 refine vcall_of (in_vc l 1 64) ?_
 simp only [wq, simprocAttr]
 refine hK _ ?_
 clear hK K
 try refine vthen_n ?_
 repeat refine VW.seq ?_
 refine VW.cond rfl (fun hc => ?_) (fun hc => ?_)
 ·have hc : inB l 1 64 = false := (Bool.not_eq_true' _).mp hc
  repeat refine VW.seq ?_
  refine VW.regl hT fun K hK => ?_
  simp only [wq, simprocAttr]
  refine hK _ ?_
  clear hK K
  try refine vthen_n ?_
  refine VW.ret ⟨.inl rfl, _, rfl, ?_⟩
  rw [← hr, hc, if_neg (by simp)]
 have h2 : inB l 1 64 = true := by
  have := hc
  rwa [Bool.not_eq_false'] at this
 have h64 := inB_iff.1 h2
 rw [if_pos (by rw [h1, h2]; rfl)] at hr
 have how := owner_lt t b a
 refine VW.skip (vthen_n ?_)
 repeat refine VW.seq ?_
 refine VW.regl hT fun K hK => ?_
 simp only [wq, simprocAttr]
 refine vcall_of (specOwner_vc t b a hla) ?_
 simp only [wq, simprocAttr]
 refine hK _ ?_
 clear hK K
 try refine vthen_n ?_
 generalize ownerOf t b a = k at *
 repeat refine VW.seq ?_
 refine VW.block ?_
 repeat refine VW.seq ?_
 refine VW.regl hT fun K hK => ?_
 simp only [wq, simprocAttr]
 refine hK _ ?_
 clear hK K
 try refine vthen_n ?_
 repeat refine VW.seq ?_
 refine VW.cond rfl (fun hc => ?_) (fun hc => ?_)
 ·have hc : k < 0 := of_decide_eq_true hc
  repeat refine VW.seq ?_
  refine VW.regl hT fun K hK => ?_
  simp only [wq, simprocAttr]
  refine hK _ ?_
  clear hK K
  try refine vthen_n ?_
  refine VW.ret ⟨.inl rfl, _, rfl, ?_⟩
  rw [← hr, if_pos hc]
 have hk : ¬ k < 0 := of_decide_eq_false hc
 obtain ⟨j, rfl, hjl, hbl, hown⟩ := how.resolve_left (by omega)
 rw [if_neg hk, Int.toNat_natCast] at hr
 have hcov : covB (b.getD j zb) (IntKind.i64.wrap (IntKind.i64.wrap (a + l) - 1)) = !decide (l > room (b.getD j zb) a) := by
  obtain ⟨w1, w2, w3, w4⟩ := hwin j hjl
  rw [owns, Bool.and_eq_true] at hown
  exact cov_room w1 w2 w3 w4 ha h64.1 h64.2 hown.2
 repeat refine VW.seq ?_
 refine VW.regl hT fun K hK => ?_
 simp only [wq, simprocAttr]
 refine ⟨decide_eq_true ⟨Int.natCast_nonneg _, by show (j : Int) < (b.length : Int); omega⟩, ?_⟩
 refine vcall_of (specCovers_vc _ _) ?_
 simp only [wq, simprocAttr]
 refine hK _ ?_
 clear hK K
 try refine vthen_n ?_
 repeat refine VW.seq ?_
 refine VW.cond rfl (fun hc => ?_) (fun hc => ?_)
 ·have hc : covB (b.getD j zb) (IntKind.i64.wrap (IntKind.i64.wrap (a + l) - 1)) = false := (Bool.not_eq_true' _).mp hc
  rw [hcov, Bool.not_eq_false'] at hc
  repeat refine VW.seq ?_
  refine VW.regl hT fun K hK => ?_
  simp only [wq, simprocAttr]
  refine hK _ ?_
  clear hK K
  try refine vthen_n ?_
  refine VW.ret ⟨.inl rfl, _, rfl, ?_⟩
  rw [← hr, if_pos (of_decide_eq_true hc)]
 have hc : covB (b.getD j zb) (IntKind.i64.wrap (IntKind.i64.wrap (a + l) - 1)) = true := by
  have := hc
  rwa [Bool.not_eq_false'] at this
 rw [hcov, Bool.not_eq_true'] at hc
 rw [if_neg (of_decide_eq_false hc)] at hr
 repeat refine VW.seq ?_
 refine VW.regl hT fun K hK => ?_
 simp only [wq, simprocAttr]
 refine vcall_of (specCanReach_vc t g fr j hla) ?_
 simp only [wq, simprocAttr]
 refine hK _ ?_
 clear hK K
 try refine vthen_n ?_
 repeat refine VW.seq ?_
 refine VW.cond rfl (fun hc => ?_) (fun hc => ?_)
 ·have hc : canReach t g fr j = false := (Bool.not_eq_true' _).mp hc
  repeat refine VW.seq ?_
  refine VW.regl hT fun K hK => ?_
  simp only [wq, simprocAttr]
  refine hK _ ?_
  clear hK K
  try refine vthen_n ?_
  refine VW.ret ⟨.inl rfl, _, rfl, ?_⟩
  rw [← hr, if_neg (by rw [hc]; decide)]
 have hcr : canReach t g fr j = true := by
  have := hc
  rwa [Bool.not_eq_false'] at this
 rw [if_pos hcr] at hr
 refine VW.skip ?_
 show vthen _ _ _ .normal _
 refine vthen_n ?_
 repeat refine VW.seq ?_
 refine VW.regl hT fun K hK => ?_
 simp only [wq, simprocAttr]
 refine hK _ ?_
 clear hK K
 try refine vthen_n ?_
 exact VW.ret ⟨.inl rfl, _, rfl, by rw [← hr]⟩
end Go.Proofs.YtmechjnfeidnkaaGreat.V.W
end
section
namespace Go.Proofs.YtmechjnfeidnkaaGreat.V.W
open Go Go.RowKit
end Go.Proofs.YtmechjnfeidnkaaGreat.V.W
end
section
namespace Go.Proofs.YtmechjnfeidnkaaGreat.V.W
open Go Go.RowKit
end Go.Proofs.YtmechjnfeidnkaaGreat.V.W
end
section
namespace Go.Proofs.YtmechjnfeidnkaaGreat.V.W
open Go Go.RowKit
def kA (k : Int) (x : Fab) : Int := k + ((3 * x.1.length : Nat) : Int)
def kB (k : Int) (x : Fab) : Int := kA k x + ((1 * x.2.1.length : Nat) : Int)
def kC (k : Int) (x : Fab) : Int := kB k x + ((2 * x.2.2.1.length : Nat) : Int)
def kD (k : Int) (x : Fab) : Int := kC k x + (tot x.2.2.2.1 x.2.2.2.1.length : Nat)
def kE (k : Int) (x : Fab) : Int := kD k x + ((1 * x.2.2.2.2.length : Nat) : Int)
structure FabS (x : Fab) : Prop where
 a : x.1.length ≤ 2000000
 b : x.2.1.length ≤ 2000000
 c : x.2.2.1.length ≤ 2000000
 d : x.2.2.2.1.length ≤ 2000000
 e : tot x.2.2.2.1 x.2.2.2.1.length ≤ 2000000
 f : x.2.2.2.2.length ≤ 2000000
end Go.Proofs.YtmechjnfeidnkaaGreat.V.W
end
section
namespace Go.Proofs.YtmechjnfeidnkaaGreat.V.W
open Go Go.RowKit
end Go.Proofs.YtmechjnfeidnkaaGreat.V.W
end
section
namespace Go.Proofs.YtmechjnfeidnkaaGreat.V
open Go Go.RowKit
end Go.Proofs.YtmechjnfeidnkaaGreat.V
namespace Go.Proofs.YtmechjnfeidnkaaGreat.V.W
open Go Go.RowKit
end Go.Proofs.YtmechjnfeidnkaaGreat.V.W
end
section
namespace Go.Proofs.YtmechjnfeidnkaaGreat.V.W
open Go Go.RowKit
/-- a fabric's parts, if it is valid -/
theorem fab_parts {t : List Nd} {s : List Int} {b : List (Int × Int)} {m : List (List Int)} {g : List Bool} (h : fabOk (t, s, b, m, g) = true) : newOk t s = true ∧ allBars t s = b ∧ m.length = s.length ∧ guardOk t g = true ∧ (∀ k, k < m.length → ((m.getD k []).length : Int) = s.getD k 0 ∧ words (m.getD k []) = true) := by
 rw [fabOk, Bool.and_eq_true, Bool.and_eq_true, Bool.and_eq_true, Bool.and_eq_true] at h
 obtain ⟨h1, h2, h3, h4, h5⟩ := h
 have h5 : ((List.range m.length).all fun k => !memBad m s k) = true := h5
 refine ⟨h1, of_decide_eq_true h2, ?_, h4, fun k hk => ?_⟩
 ·have h3 : ((m.length : Int) == (s.length : Int)) = true := h3
  have := eq_of_beq h3
  omega
 ·have := List.all_eq_true.1 h5 k (List.mem_range.2 hk)
  rw [Bool.not_eq_true', memBad, Bool.or_eq_false_iff, Bool.not_eq_false', Bool.not_eq_false'] at this
  exact ⟨eq_of_beq this.1, this.2⟩
/-- an access that goes well lies in one row of memory -/
theorem target_good {t : List Nd} {s : List Int} {b : List (Int × Int)} {m : List (List Int)} {g : List Bool} {fr a l k : Int} (ht : targetOf (t, s, b, m, g) fr a l = (k, 0)) (ha : a ≤ 9223372036854775807) : ∃ j lo n : Nat, k = (j : Int) ∧ l = (n : Int) ∧ j < m.length ∧ j < b.length ∧ IntKind.i64.wrap (a - (b.getD j zb).2) = (lo : Int) ∧ 1 ≤ n ∧ lo + n ≤ (m.getD j []).length ∧ (m.getD j []).length ≤ 64 ∧ fabOk (t, s, b, m, g) = true := by
 by_cases hf : fabOk (t, s, b, m, g) = true
 case neg =>
  rw [targetOf, if_neg hf] at ht
  cases ht
 rw [targetOf, if_pos hf] at ht
 have htg : target (t, s, b, m, g) fr a l = if (inB fr 0 (t.length - 1) && inB l 1 64) = true then if ownerOf t b a < 0 then (0, 1) else if l > room (b.getD (ownerOf t b a).toNat zb) a then (ownerOf t b a, 3) else if canReach t g fr (ownerOf t b a) = true then (ownerOf t b a, 0) else (ownerOf t b a, 2) else (0, 1) := rfl
 rw [htg] at ht
 split at ht
 case isFalse => cases ht
 rename_i hin
 split at ht
 ·cases ht
 rename_i hk0
 split at ht
 ·cases ht
 rename_i hroom
 split at ht
 case isFalse => cases ht
 obtain rfl := (Prod.mk.inj ht).1
 rw [Bool.and_eq_true] at hin
 have h64 := inB_iff.1 hin.2
 obtain ⟨h1, h2, h3, h4, h5⟩ := fab_parts hf
 obtain ⟨j, e1, e2, e3, e4⟩ := (owner_lt t b a).resolve_left (by omega)
 obtain ⟨w1, w2, w3, w4⟩ := fab_win hf (a := a) e2
 have w1 : 0 ≤ (b.getD j zb).1 := w1
 have w2 : (b.getD j zb).1 ≤ 65536 := w2
 have w3 : 0 ≤ (b.getD j zb).2 := w3
 have w4 : (b.getD j zb).2 ≤ 65536 := w4
 rw [e1, Int.toNat_natCast] at hroom
 rw [owns, Bool.and_eq_true, covB, Bool.and_eq_true, Bool.and_eq_true] at e4
 have hdev : ¬ (t.getD j z).2.2 = 0 := by simpa using e4.1
 have hge : a ≥ (b.getD j zb).2 := of_decide_eq_true e4.2.2.1
 have hn := h1
 rw [newOk, fits, Bool.and_eq_true, Bool.and_eq_true] at hn
 have hok : treeOk t = true := (sizesOk_iff.1 hn.1.1).1
 have hsl := (sizesOk_iff.1 hn.1.1).2.1
 have hs64 : s.getD j 0 ≤ 64 := by
  have h2 : (s.any fun x => decide (x > 64)) = false := by simpa using hn.2
  rw [List.any_eq_false] at h2
  have := h2 _ (getD_mem (show j < s.length by omega))
  simpa using this
 have hw : (b.getD j zb).1 = ((s.getD j 0).toNat : Int) := by
  rw [← h2, allBars, bars_get _ _ _ e2]
  show ((win t s j : Nat) : Int) = _
  rw [win_eq hok s e2, if_neg hdev]
 have hml := (h5 j (by omega)).1
 have e5 : IntKind.i64.wrap (a - (b.getD j zb).2) = a - (b.getD j zb).2 := wrap64 (by omega) (by omega)
 have e6 : room (b.getD j zb) a = (b.getD j zb).1 - (a - (b.getD j zb).2) := by
  show IntKind.i64.wrap ((b.getD j zb).1 - IntKind.i64.wrap (a - (b.getD j zb).2)) = _
  rw [e5]
  exact wrap64 (by omega) (by omega)
 rw [e6] at hroom
 exact ⟨j, (a - (b.getD j zb).2).toNat, l.toNat, e1, by omega, by omega, by omega, by omega, by omega, by omega, by omega, hf⟩
/-- what is loaded -/
def loadW (x : Fab) (fr a l : Int) : List Int × Int :=
 if (targetOf x fr a l).2 = 0 then (((x.2.2.2.1.getD (targetOf x fr a l).1.toNat []).drop (IntKind.i64.wrap (a - (x.2.2.1.getD (targetOf x fr a l).1.toNat zb).2)).toNat).take l.toNat, 0) else ([], (targetOf x fr a l).2)
end Go.Proofs.YtmechjnfeidnkaaGreat.V.W
end
section
namespace Go.Proofs.YtmechjnfeidnkaaGreat.V.W
open Go Go.RowKit
abbrev rIW (p : List Int × Int) : PV := .root (.tup [false, false]) (.pr sI (.int .i64)) (.pr .own .fz) p
set_option maxRecDepth 20000 in
set_option maxHeartbeats 1000000 in
theorem loadWords_vc (x : Fab) (fr a l : Int) (hx : FabL x) (ha : a ≤ 9223372036854775807) : VC Tryz.prog 21 [.v true sFi x, .v false (.int .i64) (fr), .v false (.int .i64) (a), .v false (.int .i64) (l)] (· = rIW (loadW x fr a l)) := by
 refine VC.of_body hT Tryz.func21 rfl (by kernel_rfl) [(.tmp 8, false, sI), (.tmp 9, false, .int .i64)] (by kernel_rfl) ?_
 have htv := targetOf_vc x fr a l hx
 generalize hr : loadW x fr a l = r
 rw [loadW] at hr
 obtain ⟨t, s, b, m, g⟩ := x
 have hg : ∀ k : Int, targetOf (t, s, b, m, g) fr a l = (k, 0) → _ := fun k h => target_good h ha
 generalize targetOf (t, s, b, m, g) fr a l = p at *
 obtain ⟨k, c⟩ := p
 show VW _ _ ([.v true sFi (t, s, b, m, g), .v false (.int .i64) (fr), .v false (.int .i64) (a), .v false (.int .i64) (l), D, D, D, D, D, D, D, D, D, D, D, D, D, D, D, D, D, D, D, D, D, D, D, D, D, D, D, D, D, D, D, D, D, D, D, D, D, D, D]) _
 repeat refine VW.seq ?_
 refine VW.regl hT fun K hK => ?_
 simp only [wq, simprocAttr]
 refine hK _ ?_
 clear hK K
 try refine vthen_n ?_
 repeat refine VW.seq ?_
 refine VW.regl hT fun K hK => ?_
 simp only [wq, simprocAttr]
 refine vcall_of htv ?_
 simp only [wq, simprocAttr]
 refine hK _ ?_
 clear hK K
 try refine vthen_n ?_
 repeat refine VW.seq ?_
 refine VW.regl hT fun K hK => ?_
 simp only [wq, simprocAttr]
 refine hK _ ?_
 clear hK K
 try refine vthen_n ?_
 repeat refine VW.seq ?_
 refine VW.cond rfl (fun hc => ?_) (fun hc => ?_)
 ·repeat refine VW.seq ?_
  refine VW.regl hT fun K hK => ?_
  simp only [wq, simprocAttr]
  refine hK _ ?_
  clear hK K
  try refine vthen_n ?_
  refine VW.ret ⟨.inl rfl, _, rfl, ?_⟩
  rw [← hr, if_neg (by simpa using hc)]
  rfl
 have hc : c = 0 := by simpa using hc
 subst hc
 obtain ⟨j, lo, n, rfl, rfl, h1, h2, h3, h4, h5, h6, hf⟩ := hg k rfl
 rw [if_pos rfl] at hr
 have hr : (((m.getD ((j : Int)).toNat []).drop (IntKind.i64.wrap (a - (b.getD ((j : Int)).toNat zb).2)).toNat).take ((n : Int)).toNat, (0 : Int)) = r := hr
 rw [Int.toNat_natCast, Int.toNat_natCast, h3, Int.toNat_natCast] at hr
 refine VW.skip (vthen_n ?_)
 repeat refine VW.seq ?_
 refine VW.regl hT fun K hK => ?_
 simp only [wq, simprocAttr]
 refine ⟨decide_eq_true ⟨Int.natCast_nonneg _, by show (j : Int) < (b.length : Int); omega⟩, ?_⟩
 refine hK _ ?_
 clear hK K
 try refine vthen_n ?_
 rw [show IntKind.i64.wrap (a - (b.getD j zb).2) = (lo : Int) from h3]
 repeat refine VW.seq ?_
 refine VW.regl hT fun K hK => ?_
 simp only [wq, simprocAttr]
 rw [show IntKind.i64.wrap ((lo : Int) + (n : Int)) = ((lo + n : Nat) : Int) from by rw [wrap64 (by omega) (by omega)]; omega]
 refine ⟨decide_eq_true ⟨Int.natCast_nonneg _, by show (j : Int) < (m.length : Int); omega⟩, decide_eq_true ⟨Int.natCast_nonneg _, by omega, by show ((lo + n : Nat) : Int) ≤ ((m.getD j []).length : Int); omega⟩, ?_⟩
 rw [show (List.drop lo (List.take (((lo + n : Nat) : Int)).toNat (m.getD j []))) = ((m.getD j []).drop lo).take n from by rw [Int.toNat_natCast, List.drop_take]; congr 1; omega]
 refine vcall_of (cloneI_vc _ (by rw [List.length_take]; omega)) ?_
 simp only [wq, simprocAttr]
 refine hK _ ?_
 clear hK K
 try refine vthen_n ?_
 refine VW.ret ⟨.inl rfl, _, rfl, ?_⟩
 rw [← hr]
set_option maxRecDepth 20000 in
set_option maxHeartbeats 1000000 in
theorem specLoadWords_vc (x : Fab) (fr a l : Int) (hx : FabL x) (ha : a ≤ 9223372036854775807) : VC Tryz.prog 32 [.v true sFi x, .v false (.int .i64) (fr), .v false (.int .i64) (a), .v false (.int .i64) (l)] (· = rIW (loadW x fr a l)) := by
 refine VC.of_body hT Tryz.func32 rfl (by kernel_rfl) [(.tmp 8, false, sI), (.tmp 9, false, .int .i64)] (by kernel_rfl) ?_
 have htv := specTargetOf_vc x fr a l hx ha
 generalize hr : loadW x fr a l = r
 rw [loadW] at hr
 obtain ⟨t, s, b, m, g⟩ := x
 have hg : ∀ k : Int, targetOf (t, s, b, m, g) fr a l = (k, 0) → _ := fun k h => target_good h ha
 generalize targetOf (t, s, b, m, g) fr a l = p at *
 obtain ⟨k, c⟩ := p
 show VW _ _ ([.v true sFi (t, s, b, m, g), .v false (.int .i64) (fr), .v false (.int .i64) (a), .v false (.int .i64) (l), D, D, D, D, D, D, D, D, D, D, D, D, D, D, D, D, D, D, D, D, D, D, D, D, D, D, D, D, D, D, D, D, D, D, D, D, D, D, D, D, D, D]) _
 repeat refine VW.seq ?_
 refine VW.regl hT fun K hK => ?_
 simp only [wq, simprocAttr]
 refine hK _ ?_
 clear hK K
 try refine vthen_n ?_
 repeat refine VW.seq ?_
 refine VW.regl hT fun K hK => ?_
 simp only [wq, simprocAttr]
 refine vcall_of htv ?_
 simp only [wq, simprocAttr]
 refine hK _ ?_
 clear hK K
 try refine vthen_n ?_
 repeat refine VW.seq ?_
 refine VW.regl hT fun K hK => ?_
 simp only [wq, simprocAttr]
 refine hK _ ?_
 clear hK K
 try refine vthen_n ?_
 repeat refine VW.seq ?_
 refine VW.cond rfl (fun hc => ?_) (fun hc => ?_)
 ·repeat refine VW.seq ?_
  refine VW.regl hT fun K hK => ?_
  simp only [wq, simprocAttr]
  refine hK _ ?_
  clear hK K
  try refine vthen_n ?_
  refine VW.ret ⟨.inl rfl, _, rfl, ?_⟩
  rw [← hr, if_neg (by simpa using hc)]
  rfl
 have hc : c = 0 := by simpa using hc
 subst hc
 obtain ⟨j, lo, n, rfl, rfl, h1, h2, h3, h4, h5, h6, hf⟩ := hg k rfl
 rw [if_pos rfl] at hr
 have hr : (((m.getD ((j : Int)).toNat []).drop (IntKind.i64.wrap (a - (b.getD ((j : Int)).toNat zb).2)).toNat).take ((n : Int)).toNat, (0 : Int)) = r := hr
 rw [Int.toNat_natCast, Int.toNat_natCast, h3, Int.toNat_natCast] at hr
 refine VW.skip (vthen_n ?_)
 repeat refine VW.seq ?_
 refine VW.regl hT fun K hK => ?_
 simp only [wq, simprocAttr]
 refine ⟨decide_eq_true ⟨Int.natCast_nonneg _, by show (j : Int) < (b.length : Int); omega⟩, ?_⟩
 refine hK _ ?_
 clear hK K
 try refine vthen_n ?_
 rw [show IntKind.i64.wrap (a - (b.getD j zb).2) = (lo : Int) from h3]
 repeat refine VW.seq ?_
 refine VW.regl hT fun K hK => ?_
 simp only [wq, simprocAttr]
 rw [show IntKind.i64.wrap ((lo : Int) + (n : Int)) = ((lo + n : Nat) : Int) from by rw [wrap64 (by omega) (by omega)]; omega]
 refine ⟨decide_eq_true ⟨Int.natCast_nonneg _, by show (j : Int) < (m.length : Int); omega⟩, decide_eq_true ⟨Int.natCast_nonneg _, by omega, by show ((lo + n : Nat) : Int) ≤ ((m.getD j []).length : Int); omega⟩, ?_⟩
 rw [show (List.drop lo (List.take (((lo + n : Nat) : Int)).toNat (m.getD j []))) = ((m.getD j []).drop lo).take n from by rw [Int.toNat_natCast, List.drop_take]; congr 1; omega]
 refine ⟨by simp only [limOk, List.length_take, List.length_drop]; exact decide_eq_true (by omega), ?_⟩
 refine hK _ ?_
 clear hK K
 try refine vthen_n ?_
 refine VW.ret ⟨.inl rfl, _, rfl, ?_⟩
 rw [← hr]
end Go.Proofs.YtmechjnfeidnkaaGreat.V.W
end
section
namespace Go.Proofs.YtmechjnfeidnkaaGreat.V.W
open Go Go.RowKit
theorem nil_of {α : Type} {t : List α} {b : Bool} (hb : 0 < t.length → b = false) (hc : b = true) : t = [] := by
 rcases Nat.eq_zero_or_pos t.length with h | h
 ·exact List.eq_nil_of_length_eq_zero h
 ·have := hb h; rw [this] at hc; cases hc
theorem cloneBo_vc (t : List Bool) (hl : t.length ≤ 2000000) : VC Tryz.prog 114 [.v false sG t] (· = .root (.val false) sG .own t) := by
 refine VC.of_body hT Tryz.func114 rfl (by kernel_rfl) [(.tmp 2, false, sG)] (by kernel_rfl) ?_
 show VW _ _ ([.v false sG t, D, D, D, D, D, D, D]) _
 repeat refine VW.seq ?_
 refine VW.regl hT fun K hK => ?_
 simp only [wq, simprocAttr]
 refine hK _ ?_
 clear hK K
 try refine vthen_n ?_
 repeat refine VW.seq ?_
 refine VW.regl hT fun K hK => ?_
 simp only [wq, simprocAttr]
 intro b hb
 refine hK _ ?_
 clear hK K
 try refine vthen_n ?_
 repeat refine VW.seq ?_
 refine VW.cond rfl (fun hc => ?_) (fun hc => ?_)
 ·repeat refine VW.seq ?_
  refine VW.regl hT fun K hK => ?_
  simp only [wq, simprocAttr]
  refine hK _ ?_
  clear hK K
  try refine vthen_n ?_
  refine VW.ret ⟨.inl rfl, _, rfl, ?_⟩
  obtain rfl := nil_of hb hc
  rfl
 ·refine VW.skip (vthen_n ?_)
  repeat refine VW.seq ?_
  refine VW.regl hT fun K hK => ?_
  simp only [wq, simprocAttr]
  refine ⟨by simp [limOk]; omega, ?_⟩
  refine hK _ ?_
  clear hK K
  try refine vthen_n ?_
  exact VW.ret ⟨.inl rfl, _, rfl, rfl⟩
theorem cloneBa_vc (t : List (Int × Int)) (hl : t.length ≤ 2000000) : VC Tryz.prog 112 [.v false sBS t] (· = .root (.val false) sBS .own t) := by
 refine VC.of_body hT Tryz.func112 rfl (by kernel_rfl) [(.tmp 2, false, sBS)] (by kernel_rfl) ?_
 show VW _ _ ([.v false sBS t, D, D, D, D, D, D, D]) _
 repeat refine VW.seq ?_
 refine VW.regl hT fun K hK => ?_
 simp only [wq, simprocAttr]
 refine hK _ ?_
 clear hK K
 try refine vthen_n ?_
 repeat refine VW.seq ?_
 refine VW.regl hT fun K hK => ?_
 simp only [wq, simprocAttr]
 intro b hb
 refine hK _ ?_
 clear hK K
 try refine vthen_n ?_
 repeat refine VW.seq ?_
 refine VW.cond rfl (fun hc => ?_) (fun hc => ?_)
 ·repeat refine VW.seq ?_
  refine VW.regl hT fun K hK => ?_
  simp only [wq, simprocAttr]
  refine hK _ ?_
  clear hK K
  try refine vthen_n ?_
  refine VW.ret ⟨.inl rfl, _, rfl, ?_⟩
  obtain rfl := nil_of hb hc
  rfl
 ·refine VW.skip (vthen_n ?_)
  repeat refine VW.seq ?_
  refine VW.regl hT fun K hK => ?_
  simp only [wq, simprocAttr]
  refine ⟨by simp [limOk]; omega, ?_⟩
  refine hK _ ?_
  clear hK K
  try refine vthen_n ?_
  exact VW.ret ⟨.inl rfl, _, rfl, rfl⟩
set_option maxRecDepth 20000 in
theorem copyLists_vc (m : List (List Int)) (hl : m.length ≤ 2000000) (hr : ∀ k, (m.getD k []).length ≤ 2000000) : VC Tryz.prog 113 [.v false sII m] (· = .root (.val false) sII .own m) := by
 refine VC.of_body hT Tryz.func113 rfl (by kernel_rfl) [(.tmp 2, false, sII)] (by kernel_rfl) ?_
 show VW _ _ ([.v false sII m, D, D, D, D, D, D, D, D, D, D, D, D, D, D, D, D, D, D, D]) _
 repeat refine VW.seq ?_
 refine VW.regl hT fun K hK => ?_
 simp only [wq, simprocAttr]
 refine hK _ ?_
 clear hK K
 try refine vthen_n ?_
 repeat refine VW.seq ?_
 refine VW.regl hT fun K hK => ?_
 simp only [wq, simprocAttr]
 refine hK _ ?_
 clear hK K
 try refine vthen_n ?_
 repeat refine VW.seq ?_
 refine VW.regl hT fun K hK => ?_
 simp only [wq, simprocAttr]
 refine hK _ ?_
 clear hK K
 try refine vthen_n ?_
 repeat refine VW.seq ?_
 refine VW.block ?_
 refine VW.loop (α := Nat) [(3, some (25, sI)), (7, none), (8, none), (9, none)] (fun i => [D, D, D, .root (.val false) sII .own (m.take i), D, D, D, .v false sII m, .v false (.int .i64) ((m.length : Nat)), .v false (.int .i64) ((i : Nat)), D, D, D, D, D, D, D, D, D, D]) (fun i => i ≤ m.length) (fun i => m.length - i) ⟨0, by omega, ?_⟩ fun i hi => ?_
 ·simp only [wn, wq, simprocAttr]
  try rfl
 repeat refine VW.seq ?_
 refine VW.regl hT fun K hK => ?_
 simp only [wq, simprocAttr]
 refine hK _ ?_
 clear hK K
 try refine vthen_n ?_
 repeat refine VW.seq ?_
 refine VW.cond rfl (fun hc => ?_) (fun hc => ?_)
 ·have hlt : i < m.length := by simpa using hc
  refine VW.skip (vthen_n ?_)
  repeat refine VW.seq ?_
  refine VW.block ?_
  repeat refine VW.seq ?_
  refine VW.regl hT fun K hK => ?_
  simp only [wq, simprocAttr]
  refine ⟨decide_eq_true ⟨Int.natCast_nonneg _, by show (i : Int) < (m.length : Int); omega⟩, ?_⟩
  refine hK _ ?_
  clear hK K
  try refine vthen_n ?_
  repeat refine VW.seq ?_
  refine VW.regl hT fun K hK => ?_
  simp only [wq, simprocAttr]
  refine vcall_of (cloneI_vc _ (hr i)) ?_
  simp only [wq, simprocAttr]
  refine ⟨by simp only [limOk, List.length_take]; exact decide_eq_true (by omega), ?_⟩
  refine hK _ ?_
  clear hK K
  try refine vthen_n ?_
  show vthen _ _ _ .normal _
  refine vthen_n ?_
  repeat refine VW.seq ?_
  refine VW.regl hT fun K hK => ?_
  simp only [wq, simprocAttr]
  refine hK _ ?_
  clear hK K
  try refine vthen_n ?_
  refine ⟨i + 1, hlt, ?_, by show m.length - (i + 1) < m.length - i; omega⟩
  simp only [wn, wq, simprocAttr]
  rw [wrap64 (by omega) (by omega), show m.take (i + 1) = m.take i ++ [m.getD i []] from by rw [List.take_add_one, List.getElem?_eq_getElem hlt, List.getD_eq_getElem?_getD, List.getElem?_eq_getElem hlt]; rfl, show (i : Int) + 1 = ((i + 1 : Nat) : Int) by omega]
 ·have hge : i = m.length := by
   have hc : ¬ (i : Int) < (m.length : Int) := of_decide_eq_false hc
   omega
  subst hge
  rw [List.take_length]
  refine VW.exit ?_
  show vthen _ _ _ .normal _
  refine vthen_n ?_
  repeat refine VW.seq ?_
  refine VW.regl hT fun K hK => ?_
  simp only [wq, simprocAttr]
  refine hK _ ?_
  clear hK K
  try refine vthen_n ?_
  exact VW.ret ⟨.inl rfl, _, rfl, rfl⟩
set_option maxRecDepth 20000 in
set_option maxHeartbeats 1000000 in
theorem copyFabric_vc (x : Fab) (hx : FabL x) (hg : x.2.2.2.2.length ≤ 2000000) : VC Tryz.prog 55 [.v true sFi x] (· = .root (.val true) sFi fFab x) := by
 obtain ⟨t, s, b, m, g⟩ := x
 refine VC.of_body hT Tryz.func55 rfl (by kernel_rfl) [(.cell 2 32, true, sFi)] (by kernel_rfl) ?_
 show VW _ _ ([.v true sFi (t, s, b, m, g), D, D, D, D, D, D, D, D, D, D, D, D, D, D, D, D, D, D, D, D]) _
 repeat refine VW.seq ?_
 refine VW.regl hT fun K hK => ?_
 simp only [wq, simprocAttr]
 refine hK _ ?_
 clear hK K
 try refine vthen_n ?_
 repeat refine VW.seq ?_
 refine VW.mixl hT hm 0 16 (by kernel_rfl) fun K hK => ?_
 simp only [wq, simprocAttr]
 repeat refine ⟨by kernel_rfl, ?_⟩
 refine vcallD_of (clone_vc t hx.a) ?_
 simp only [wq, simprocAttr]
 repeat refine ⟨by kernel_rfl, ?_⟩
 refine vcallD_of (cloneI_vc s hx.b) ?_
 simp only [wq, simprocAttr]
 repeat refine ⟨by kernel_rfl, ?_⟩
 refine vcallD_of (cloneBa_vc b hx.c) ?_
 simp only [wq, simprocAttr]
 repeat refine ⟨by kernel_rfl, ?_⟩
 refine vcallD_of (copyLists_vc m hx.d hx.e) ?_
 simp only [wq, simprocAttr]
 repeat refine ⟨by kernel_rfl, ?_⟩
 refine vcallD_of (cloneBo_vc g hg) ?_
 simp only [wq, simprocAttr]
 trace_state
 refine hK _ ?_
 clear hK K
 try refine vthen_n ?_
 refine VW.ret ⟨.inl rfl, _, rfl, rfl⟩
end Go.Proofs.YtmechjnfeidnkaaGreat.V.W
end

/- slices.insertionSortCmpFunc walked. No condition. -/
import Derived.Test.YtmechjnfeidnkaaW3
set_option linter.unusedVariables false
set_option linter.unnecessarySimpa false
set_option linter.unusedSimpArgs false
namespace Go.Proofs.Ytmechjnfeidnkaa.V.W
open Go Go.RowKit
abbrev nil0 : PV := .root (.tup []) .unit .fz ()
theorem rowAt_one {c : Int → Int → Int} {xs : List Int} (h : 0 < xs.length) : rowAt c xs 1 = xs := by
  unfold rowAt
  rw [pre_succ h]
  cases xs with
  | nil => simp at h
  | cons x r => simp [pre, ins]
theorem rowAt_all {c : Int → Int → Int} {xs : List Int} {i : Nat} (h : i = xs.length) : rowAt c xs i = isort c xs := by
  subst h; simp [rowAt, isort]
set_option maxRecDepth 20000 in
theorem insSort_vx (xs : List Int) (f : FuncId) (sc : Sh) (xc : sc.ty) (c : Int → Int → Int) (hp : ∀ a b, a ∈ xs → b ∈ xs → VC Try.prog f [.v false (.int .i64) (a), .v false (.int .i64) (b), .fadr sc xc] (· = .v false (.int .i64) (c a b))) (h0 : 0 < xs.length) (hl : xs.length ≤ 2000000) :
    VX Try.prog 121 [.root (.val false) sI .own xs, .v false (.int .i64) (0), .v false (.int .i64) (xs.length), .fn f [.fadr sc xc]] 0 (fun pv ot => pv = nil0 ∧ ot = .root (.val false) sI .own (isort c xs)) := by
  refine VX.of_rows hT Try.func121 rfl (by kernel_rfl) [] (by kernel_rfl) rfl rfl h0 fun l fi li e1 e2 => ?_
  obtain ⟨n, cp, rfl, rfl⟩ := io1 e1 e2
  show VW _ _ ([.root (.val false) sI (.io n cp) xs, .v false (.int .i64) (0), .v false (.int .i64) (xs.length), .fn f [.fadr sc xc], D, D, D, D, D, D, D, D, D, D, D, D, D, D, D, D, D, D, D, D, D, D, D, D, D, D, D, D, D, D, D, D, D, D, D, D, D, D, D, D, D, D, D, D, D, D, D, D, D]) _
  repeat refine VW.seq ?_
  refine VW.regl hT fun K hK => ?_
  simp only [List.replicate, List.set, List.map, List.any, List.append, Op.operands, dif_pos, gA, Call.operands, gB, gC, gD, gE, gF, gG, Nat.reduceMul, reduceCtorEq, Nat.reduceBEq, Nat.reduceAdd, Nat.reduceLT, Nat.reduceLeDiff, Nat.reduceSub, Nat.reduceEqDiff, bq, tgs, vq]
  refine hK _ ?_
  clear hK K
  try refine vthen_n ?_
  rw [wrap64 (by omega) (by omega)]
  repeat refine VW.seq ?_
  refine VW.block ?_
  refine VW.loop (α := Nat) [(0, none), (1, none), (2, none), (3, none), (8, none)] (fun i => [.root (.val false) sI (.io n cp) (rowAt c xs i), .v false (.int .i64) (0), .v false (.int .i64) (xs.length), .fn f [.fadr sc xc], D, D, D, D, .v false (.int .i64) (i), D, D, D, D, D, D, D, D, D, D, D, D, D, D, D, D, D, D, D, D, D, D, D, D, D, D, D, D, D, D, D, D, D, D, D, D, D, D, D, D, D, D, D, D]) (fun i => 1 ≤ i ∧ i ≤ xs.length) (fun i => xs.length - i) ⟨1, ⟨Nat.le_refl _, h0⟩, ?_⟩ fun i ⟨hi1, hi⟩ => ?_
  · simp only [norm, homeOne, moveTo, keepS, keepGo, usesOut, List.foldl, ren, renC, List.replicate, List.set, List.map, List.any, List.append, Op.operands, dif_pos, gA, Call.operands, gB, gC, gD, gE, gF, gG, Nat.reduceMul, reduceCtorEq, Nat.reduceBEq, Nat.reduceAdd, Nat.reduceLT, Nat.reduceLeDiff, Nat.reduceSub, Nat.reduceEqDiff, bq, tgs, vq]
    rw [rowAt_one h0]
    rfl
  repeat refine VW.seq ?_
  refine VW.regl hT fun K hK => ?_
  simp only [List.replicate, List.set, List.map, List.any, List.append, Op.operands, dif_pos, gA, Call.operands, gB, gC, gD, gE, gF, gG, Nat.reduceMul, reduceCtorEq, Nat.reduceBEq, Nat.reduceAdd, Nat.reduceLT, Nat.reduceLeDiff, Nat.reduceSub, Nat.reduceEqDiff, bq, tgs, vq]
  refine hK _ ?_
  clear hK K
  try refine vthen_n ?_
  repeat refine VW.seq ?_
  refine VW.cond rfl (fun hc => ?_) (fun hc => ?_)
  · have hlt : i < xs.length := by simpa using hc
    have hpl := pre_len c xs i hi
    refine VW.skip (vthen_n ?_)
    repeat refine VW.seq ?_
    refine VW.block ?_
    repeat refine VW.seq ?_
    refine VW.regl hT fun K hK => ?_
    simp only [List.replicate, List.set, List.map, List.any, List.append, Op.operands, dif_pos, gA, Call.operands, gB, gC, gD, gE, gF, gG, Nat.reduceMul, reduceCtorEq, Nat.reduceBEq, Nat.reduceAdd, Nat.reduceLT, Nat.reduceLeDiff, Nat.reduceSub, Nat.reduceEqDiff, bq, tgs, vq]
    refine hK _ ?_
    clear hK K
    try refine vthen_n ?_
    repeat refine VW.seq ?_
    refine VW.block ?_
    refine VW.loop (α := Nat) [(0, none), (1, none), (2, none), (3, none), (8, none), (9, none)] (fun m => [.root (.val false) sI (.io n cp) (mid c xs i m), .v false (.int .i64) (0), .v false (.int .i64) (xs.length), .fn f [.fadr sc xc], D, D, D, D, .v false (.int .i64) (i), .v false (.int .i64) (((i - m : Nat) : Int)), D, D, D, D, D, D, D, D, D, D, D, D, D, D, D, D, D, D, D, D, D, D, D, D, D, D, D, D, D, D, D, D, D, D, D, D, D, D, D, D, D, D, D]) (fun m => m ≤ i ∧ ∀ k, k < m → c (xs.getD i 0) ((pre c xs i).getD k 0) < 0) (fun m => i - m) ⟨0, ⟨by omega, fun k hk => by omega⟩, ?_⟩ fun m ⟨hmi, hmm⟩ => ?_
    · simp only [norm, homeOne, moveTo, keepS, keepGo, usesOut, List.foldl, ren, renC, List.replicate, List.set, List.map, List.any, List.append, Op.operands, dif_pos, gA, Call.operands, gB, gC, gD, gE, gF, gG, Nat.reduceMul, reduceCtorEq, Nat.reduceBEq, Nat.reduceAdd, Nat.reduceLT, Nat.reduceLeDiff, Nat.reduceSub, Nat.reduceEqDiff, bq, tgs, vq]
      rw [mid_zero hlt]
      rfl
    have hml := mid_len (c := c) (m := m) hlt hmi
    repeat refine VW.seq ?_
    refine VW.drawl hT hm (by kernel_rfl) fun K hK => ?_
    simp only [List.replicate, List.set, List.map, List.any, List.append, Op.operands, dif_pos, gA, Call.operands, gB, gC, gD, gE, gF, gG, Nat.reduceMul, reduceCtorEq, Nat.reduceBEq, Nat.reduceAdd, Nat.reduceLT, Nat.reduceLeDiff, Nat.reduceSub, Nat.reduceEqDiff, bq, tgs, vq]
    refine vbr (fun g => ?_) (fun g => ?_) <;> simp only [List.replicate, List.set, List.map, List.any, List.append, Op.operands, dif_pos, gA, Call.operands, gB, gC, gD, gE, gF, gG, Nat.reduceMul, reduceCtorEq, Nat.reduceBEq, Nat.reduceAdd, Nat.reduceLT, Nat.reduceLeDiff, Nat.reduceSub, Nat.reduceEqDiff, bq, tgs, vq]
    · have hlt' : m < i := by
        have : (0 : Int) < ((i - m : Nat) : Int) := by simpa using g
        omega
      have hsh := mid_shape (c := c) hlt hlt'
      have hAl : (((pre c xs i).drop (m + 1)).reverse).length + 1 = i - m := by simp; omega
      have hgx : (mid c xs i m).getD (i - m) 0 = xs.getD i 0 := by rw [hsh.1]; exact (app_getD hAl).1
      have hgy : (mid c xs i m).getD (i - m - 1) 0 = (pre c xs i).getD m 0 := by rw [hsh.1]; exact (app_getD hAl).2
      have hw : IntKind.i64.wrap (((i - m : Nat) : Int) - 1) = ((i - m - 1 : Nat) : Int) := by rw [wrap64 (by omega) (by omega)]; omega
      have hwn : Int.toNat ((i - m - 1 : Nat) : Int) = i - m - 1 := by omega
      have hmx : xs.getD i 0 ∈ xs := by
        rw [List.getD_eq_getElem?_getD, List.getElem?_eq_getElem hlt]; exact List.getElem_mem _
      have hmy : (pre c xs i).getD m 0 ∈ xs := by
        refine pre_mem (c := c) i hi ?_
        rw [List.getD_eq_getElem?_getD, List.getElem?_eq_getElem (by omega)]; exact List.getElem_mem _
      rw [hw]
      refine ⟨by kernel_rfl, by kernel_rfl, decide_eq_true ⟨Int.natCast_nonneg _, by show ((i - m : Nat) : Int) < ((mid c xs i m).length : Int); omega⟩, by kernel_rfl, by kernel_rfl, by kernel_rfl, decide_eq_true ⟨Int.natCast_nonneg _, by show ((i - m - 1 : Nat) : Int) < ((mid c xs i m).length : Int); omega⟩, by kernel_rfl, ?_⟩
      rw [hwn, hgx, hgy]
      refine vcallD_of (hp _ _ hmx hmy) ?_
      simp only [List.replicate, List.set, List.map, List.any, List.append, Op.operands, dif_pos, gA, Call.operands, gB, gC, gD, gE, gF, gG, Nat.reduceMul, reduceCtorEq, Nat.reduceBEq, Nat.reduceAdd, Nat.reduceLT, Nat.reduceLeDiff, Nat.reduceSub, Nat.reduceEqDiff, bq, tgs, vq]
      refine hK _ ?_
      clear hK K
      try refine vthen_n ?_
      repeat refine VW.seq ?_
      refine VW.cond rfl (fun hc => ?_) (fun hc => ?_)
      · refine VW.skip ?_
        show vthen _ _ _ .normal _
        refine vthen_n ?_
        repeat refine VW.seq ?_
        refine VW.block ?_
        repeat refine VW.seq ?_
        refine VW.mixl hT hm 5 14 (by kernel_rfl) fun K hK => ?_
        simp only [List.replicate, List.set, List.map, List.any, List.append, Op.operands, dif_pos, gA, Call.operands, gB, gC, gD, gE, gF, gG, Nat.reduceMul, reduceCtorEq, Nat.reduceBEq, Nat.reduceAdd, Nat.reduceLT, Nat.reduceLeDiff, Nat.reduceSub, Nat.reduceEqDiff, bq, tgs, vq]
        rw [hw]
        have hsl : ∀ y : Int, ((mid c xs i m).set (i - m) y).length = (mid c xs i m).length := fun y => by rw [List.length_set]
        refine ⟨by kernel_rfl, by kernel_rfl, decide_eq_true ⟨Int.natCast_nonneg _, by show ((i - m - 1 : Nat) : Int) < ((mid c xs i m).length : Int); omega⟩, by kernel_rfl, by kernel_rfl, by kernel_rfl, decide_eq_true ⟨Int.natCast_nonneg _, by show ((i - m : Nat) : Int) < ((mid c xs i m).length : Int); omega⟩, by kernel_rfl, decide_eq_true ⟨Int.natCast_nonneg _, by show ((i - m : Nat) : Int) < ((mid c xs i m).length : Int); omega⟩, decide_eq_true ⟨Int.natCast_nonneg _, ?_⟩, ?_⟩
        · show ((i - m - 1 : Nat) : Int) < ((List.set _ _ _).length : Int)
          rw [List.length_set]; omega
        rw [hwn, hgx, hgy]
        have hsw : ((mid c xs i m).set (i - m) ((pre c xs i).getD m 0)).set (i - m - 1) (xs.getD i 0) = mid c xs i (m + 1) := by
          rw [hsh.1, hsh.2]; exact app_swap hAl
        rw [hsw]
        refine hK _ ?_
        clear hK K
        try refine vthen_n ?_
        repeat refine VW.seq ?_
        refine VW.regl hT fun K hK => ?_
        simp only [List.replicate, List.set, List.map, List.any, List.append, Op.operands, dif_pos, gA, Call.operands, gB, gC, gD, gE, gF, gG, Nat.reduceMul, reduceCtorEq, Nat.reduceBEq, Nat.reduceAdd, Nat.reduceLT, Nat.reduceLeDiff, Nat.reduceSub, Nat.reduceEqDiff, bq, tgs, vq]
        refine hK _ ?_
        clear hK K
        try refine vthen_n ?_
        refine ⟨m + 1, ⟨hlt', fun k hk => ?_⟩, ?_, by show i - (m + 1) < i - m; omega⟩
        · rcases Nat.lt_or_ge k m with h1 | h1
          · exact hmm k h1
          · obtain rfl : k = m := by omega
            simpa using hc
        · simp only [norm, homeOne, moveTo, keepS, keepGo, usesOut, List.foldl, ren, renC, List.replicate, List.set, List.map, List.any, List.append, Op.operands, dif_pos, gA, Call.operands, gB, gC, gD, gE, gF, gG, Nat.reduceMul, reduceCtorEq, Nat.reduceBEq, Nat.reduceAdd, Nat.reduceLT, Nat.reduceLeDiff, Nat.reduceSub, Nat.reduceEqDiff, bq, tgs, vq]
          rw [hw, show ((i - m - 1 : Nat) : Int) = ((i - (m + 1) : Nat) : Int) by omega]
      · refine VW.exit ?_
        show vthen _ _ _ .normal _
        refine vthen_n ?_
        repeat refine VW.seq ?_
        refine VW.regl hT fun K hK => ?_
        simp only [List.replicate, List.set, List.map, List.any, List.append, Op.operands, dif_pos, gA, Call.operands, gB, gC, gD, gE, gF, gG, Nat.reduceMul, reduceCtorEq, Nat.reduceBEq, Nat.reduceAdd, Nat.reduceLT, Nat.reduceLeDiff, Nat.reduceSub, Nat.reduceEqDiff, bq, tgs, vq]
        refine hK _ ?_
        clear hK K
        try refine vthen_n ?_
        refine ⟨i + 1, ⟨by omega, by omega⟩, ?_, by show xs.length - (i + 1) < xs.length - i; omega⟩
        simp only [norm, homeOne, moveTo, keepS, keepGo, usesOut, List.foldl, ren, renC, List.replicate, List.set, List.map, List.any, List.append, Op.operands, dif_pos, gA, Call.operands, gB, gC, gD, gE, gF, gG, Nat.reduceMul, reduceCtorEq, Nat.reduceBEq, Nat.reduceAdd, Nat.reduceLT, Nat.reduceLeDiff, Nat.reduceSub, Nat.reduceEqDiff, bq, tgs, vq]
        rw [wrap64 (by omega) (by omega), mid_done hlt hmi hmm (.inr (by simpa using hc))]
        rfl
    · have hme : m = i := by
        have : ¬ (0 : Int) < ((i - m : Nat) : Int) := by simpa using g
        omega
      subst hme
      refine hK _ ?_
      clear hK K
      try refine vthen_n ?_
      repeat refine VW.seq ?_
      refine VW.cond rfl (fun hc => ?_) (fun hc => ?_)
      · cases hc
      refine VW.exit ?_
      show vthen _ _ _ .normal _
      refine vthen_n ?_
      repeat refine VW.seq ?_
      refine VW.regl hT fun K hK => ?_
      simp only [List.replicate, List.set, List.map, List.any, List.append, Op.operands, dif_pos, gA, Call.operands, gB, gC, gD, gE, gF, gG, Nat.reduceMul, reduceCtorEq, Nat.reduceBEq, Nat.reduceAdd, Nat.reduceLT, Nat.reduceLeDiff, Nat.reduceSub, Nat.reduceEqDiff, bq, tgs, vq]
      refine hK _ ?_
      clear hK K
      try refine vthen_n ?_
      refine ⟨m + 1, ⟨by omega, by omega⟩, ?_, by show xs.length - (m + 1) < xs.length - m; omega⟩
      simp only [norm, homeOne, moveTo, keepS, keepGo, usesOut, List.foldl, ren, renC, List.replicate, List.set, List.map, List.any, List.append, Op.operands, dif_pos, gA, Call.operands, gB, gC, gD, gE, gF, gG, Nat.reduceMul, reduceCtorEq, Nat.reduceBEq, Nat.reduceAdd, Nat.reduceLT, Nat.reduceLeDiff, Nat.reduceSub, Nat.reduceEqDiff, bq, tgs, vq]
      rw [wrap64 (by omega) (by omega), mid_done hlt hmi hmm (.inl rfl)]
      rfl
  · have hge : xs.length ≤ i := by simpa using hc
    refine VW.exit ?_
    refine ⟨.inr rfl, _, _, _, _, rfl, ⟨0, _, rfl⟩, ?_, rfl, ?_⟩
    · show some [Value.slice (some ⟨n, 0, none⟩) (rowAt c xs i).length cp] = some [Value.slice (some ⟨n, 0, none⟩) xs.length cp]
      rw [rowAt_len hi]
    · show PV.root (.val false) sI .own (rowAt c xs i) = _
      rw [rowAt_all (by omega)]
end Go.Proofs.Ytmechjnfeidnkaa.V.W

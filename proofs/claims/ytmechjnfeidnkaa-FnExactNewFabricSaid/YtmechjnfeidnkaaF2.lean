/- spec.IsPower, SizesOk, ChildrenOf walked. No condition. -/
import Derived.Test.YtmechjnfeidnkaaF1
set_option linter.unusedVariables false
set_option linter.unnecessarySimpa false
set_option linter.unusedSimpArgs false
namespace Go.Proofs.Ytmechjnfeidnkaa.V.W
open Go Go.RowKit
theorem pow_pw : ((List.range 21).all fun i => decide ((2 ^ i : Nat) < 16) || decide ((2 ^ i : Nat) > 4096) || pw ((2 ^ i : Nat) : Int)) = true := by decide
theorem pow_pw' {i : Nat} (hi : i < 21) (h1 : (16 : Int) ≤ ((2 ^ i : Nat) : Int)) (h2 : ((2 ^ i : Nat) : Int) ≤ 4096) : pw ((2 ^ i : Nat) : Int) = true := by
  have := List.all_eq_true.1 pow_pw i (List.mem_range.2 hi)
  rw [decide_eq_false (by omega), decide_eq_false (by omega)] at this
  simpa using this
theorem pw_pow {n : Int} (h : pw n = true) : ∃ i : Nat, i < 21 ∧ n = ((2 ^ i : Nat) : Int) := by
  simp only [pw, Bool.or_eq_true, beq_iff_eq] at h
  rcases h with (((((((h | h) | h) | h) | h) | h) | h) | h) | h
  · exact ⟨4, by omega, h⟩
  · exact ⟨5, by omega, h⟩
  · exact ⟨6, by omega, h⟩
  · exact ⟨7, by omega, h⟩
  · exact ⟨8, by omega, h⟩
  · exact ⟨9, by omega, h⟩
  · exact ⟨10, by omega, h⟩
  · exact ⟨11, by omega, h⟩
  · exact ⟨12, by omega, h⟩
theorem specPower_vc (n : Int) : VC Try.prog 119 [.v false (.int .i64) (n)] (fun pv => ∃ b : Bool, pv = .v false .bool (b) ∧ (16 ≤ n → n ≤ 4096 → b = pw n)) := by
  refine VC.of_body hT Try.func119 rfl (by kernel_rfl) [(.tmp 2, false, .bool)] (by kernel_rfl) ?_
  show VW _ _ ([.v false (.int .i64) (n), D, D, D, D, D, D, D, D, D, D, D]) _
  repeat refine VW.seq ?_
  refine VW.regl hT fun K hK => ?_
  simp only [List.replicate, List.set, List.map, List.any, List.append, Op.operands, dif_pos, gA, Call.operands, gB, gC, gD, gE, gF, gG, Nat.reduceMul, reduceCtorEq, Nat.reduceBEq, Nat.reduceAdd, Nat.reduceLT, Nat.reduceLeDiff, Nat.reduceSub, Nat.reduceEqDiff, bq, tgs, vq]
  refine hK _ ?_
  clear hK K
  try refine vthen_n ?_
  repeat refine VW.seq ?_
  refine VW.regl hT fun K hK => ?_
  simp only [List.replicate, List.set, List.map, List.any, List.append, Op.operands, dif_pos, gA, Call.operands, gB, gC, gD, gE, gF, gG, Nat.reduceMul, reduceCtorEq, Nat.reduceBEq, Nat.reduceAdd, Nat.reduceLT, Nat.reduceLeDiff, Nat.reduceSub, Nat.reduceEqDiff, bq, tgs, vq]
  refine hK _ ?_
  clear hK K
  try refine vthen_n ?_
  repeat refine VW.seq ?_
  refine VW.block ?_
  refine VW.loop (α := Nat) [(0, none), (3, none)] (fun i => [.v false (.int .i64) (n), D, D, .v false (.int .i64) (i), D, D, D, D, D, D, D, D]) (fun i => i ≤ 21 ∧ ∀ j, j < i → n ≠ ((2 ^ j : Nat) : Int)) (fun i => 21 - i) ⟨0, ⟨by omega, fun j hj => by omega⟩, ?_⟩ fun i ⟨hi, hj⟩ => ?_
  · simp only [norm, homeOne, moveTo, keepS, keepGo, usesOut, List.foldl, ren, renC, List.replicate, List.set, List.map, List.any, List.append, Op.operands, dif_pos, gA, Call.operands, gB, gC, gD, gE, gF, gG, Nat.reduceMul, reduceCtorEq, Nat.reduceBEq, Nat.reduceAdd, Nat.reduceLT, Nat.reduceLeDiff, Nat.reduceSub, Nat.reduceEqDiff, bq, tgs, vq]
    rfl
  repeat refine VW.seq ?_
  refine VW.regl hT fun K hK => ?_
  simp only [List.replicate, List.set, List.map, List.any, List.append, Op.operands, dif_pos, gA, Call.operands, gB, gC, gD, gE, gF, gG, Nat.reduceMul, reduceCtorEq, Nat.reduceBEq, Nat.reduceAdd, Nat.reduceLT, Nat.reduceLeDiff, Nat.reduceSub, Nat.reduceEqDiff, bq, tgs, vq]
  refine hK _ ?_
  clear hK K
  try refine vthen_n ?_
  repeat refine VW.seq ?_
  refine VW.cond rfl (fun hc => ?_) (fun hc => ?_)
  · have hlt : i < 21 := by
      have : (i : Int) ≤ 20 := of_decide_eq_true hc
      omega
    refine VW.skip (vthen_n ?_)
    repeat refine VW.seq ?_
    refine VW.block ?_
    repeat refine VW.seq ?_
    refine VW.regl hT fun K hK => ?_
    simp only [List.replicate, List.set, List.map, List.any, List.append, Op.operands, dif_pos, gA, Call.operands, gB, gC, gD, gE, gF, gG, Nat.reduceMul, reduceCtorEq, Nat.reduceBEq, Nat.reduceAdd, Nat.reduceLT, Nat.reduceLeDiff, Nat.reduceSub, Nat.reduceEqDiff, bq, tgs, vq]
    have hle : (2 ^ i : Nat) ≤ 2 ^ 20 := Nat.pow_le_pow_right (by decide) (by omega)
    have hw : IntKind.i64.wrap (1 * 2 ^ min i IntKind.i64.bits) = ((2 ^ i : Nat) : Int) := by
      rw [show min i IntKind.i64.bits = i from Nat.min_eq_left (by show i ≤ 64; omega), Int.one_mul, show (2 : Int) ^ i = ((2 ^ i : Nat) : Int) by simp]
      generalize (2 ^ i : Nat) = p at hle ⊢
      exact wrap64 (by omega) (by omega)
    rw [hw]
    refine ⟨decide_eq_true (Int.natCast_nonneg _), ?_⟩
    refine hK _ ?_
    clear hK K
    try refine vthen_n ?_
    repeat refine VW.seq ?_
    refine VW.cond rfl (fun hc => ?_) (fun hc => ?_)
    · repeat refine VW.seq ?_
      refine VW.regl hT fun K hK => ?_
      simp only [List.replicate, List.set, List.map, List.any, List.append, Op.operands, dif_pos, gA, Call.operands, gB, gC, gD, gE, gF, gG, Nat.reduceMul, reduceCtorEq, Nat.reduceBEq, Nat.reduceAdd, Nat.reduceLT, Nat.reduceLeDiff, Nat.reduceSub, Nat.reduceEqDiff, bq, tgs, vq]
      refine hK _ ?_
      clear hK K
      try refine vthen_n ?_
      refine VW.ret ⟨.inl rfl, _, rfl, _, rfl, fun h1 h2 => ?_⟩
      have e : n = ((2 ^ i : Nat) : Int) := by simpa using hc
      show true = pw n
      rw [e] at h1 h2 ⊢
      exact (pow_pw' hlt h1 h2).symm
    · refine VW.skip ?_
      show vthen _ _ _ .normal _
      refine vthen_n ?_
      repeat refine VW.seq ?_
      refine VW.regl hT fun K hK => ?_
      simp only [List.replicate, List.set, List.map, List.any, List.append, Op.operands, dif_pos, gA, Call.operands, gB, gC, gD, gE, gF, gG, Nat.reduceMul, reduceCtorEq, Nat.reduceBEq, Nat.reduceAdd, Nat.reduceLT, Nat.reduceLeDiff, Nat.reduceSub, Nat.reduceEqDiff, bq, tgs, vq]
      refine hK _ ?_
      clear hK K
      try refine vthen_n ?_
      refine ⟨i + 1, ⟨by omega, fun j h => ?_⟩, ?_, by show 21 - (i + 1) < 21 - i; omega⟩
      · rcases Nat.lt_or_ge j i with h1 | h1
        · exact hj j h1
        · obtain rfl : j = i := by omega
          simpa using hc
      · simp only [norm, homeOne, moveTo, keepS, keepGo, usesOut, List.foldl, ren, renC, List.replicate, List.set, List.map, List.any, List.append, Op.operands, dif_pos, gA, Call.operands, gB, gC, gD, gE, gF, gG, Nat.reduceMul, reduceCtorEq, Nat.reduceBEq, Nat.reduceAdd, Nat.reduceLT, Nat.reduceLeDiff, Nat.reduceSub, Nat.reduceEqDiff, bq, tgs, vq]
        rw [wrap64 (by omega) (by omega)]
        rfl
  · have hge : i = 21 := by
      have : ¬ (i : Int) ≤ 20 := of_decide_eq_false hc
      omega
    refine VW.exit ?_
    show vthen _ _ _ .normal _
    refine vthen_n ?_
    repeat refine VW.seq ?_
    refine VW.regl hT fun K hK => ?_
    simp only [List.replicate, List.set, List.map, List.any, List.append, Op.operands, dif_pos, gA, Call.operands, gB, gC, gD, gE, gF, gG, Nat.reduceMul, reduceCtorEq, Nat.reduceBEq, Nat.reduceAdd, Nat.reduceLT, Nat.reduceLeDiff, Nat.reduceSub, Nat.reduceEqDiff, bq, tgs, vq]
    refine hK _ ?_
    clear hK K
    try refine vthen_n ?_
    refine VW.ret ⟨.inl rfl, _, rfl, _, rfl, fun h1 h2 => ?_⟩
    symm
    show pw n = false
    rw [← Bool.not_eq_true]
    intro h
    obtain ⟨j, hj2, hj3⟩ := pw_pow h
    exact hj j (by omega) hj3
set_option maxRecDepth 20000 in
theorem specSizes_vc (t : List Nd) (s : List Int) (hl : t.length ≤ 2000000) (hs : s.length ≤ 2000000) : VC Try.prog 102 [.v false sNS t, .v false sI s] (· = .v false .bool (sizesOk t s)) := by
  refine VC.of_body hT Try.func102 rfl (by kernel_rfl) [(.tmp 4, false, .bool)] (by kernel_rfl) ?_
  show VW _ _ ([.v false sNS t, .v false sI s, D, D, D, D, D, D, D, D, D, D, D, D, D, D, D, D, D, D, D, D, D, D, D, D, D, D, D, D, D, D, D, D, D, D, D, D, D, D, D, D, D, D, D, D, D, D, D, D, D]) _
  repeat refine VW.seq ?_
  refine VW.regl hT fun K hK => ?_
  simp only [List.replicate, List.set, List.map, List.any, List.append, Op.operands, dif_pos, gA, Call.operands, gB, gC, gD, gE, gF, gG, Nat.reduceMul, reduceCtorEq, Nat.reduceBEq, Nat.reduceAdd, Nat.reduceLT, Nat.reduceLeDiff, Nat.reduceSub, Nat.reduceEqDiff, bq, tgs, vq]
  refine hK _ ?_
  clear hK K
  try refine vthen_n ?_
  repeat refine VW.seq ?_
  refine VW.regl hT fun K hK => ?_
  simp only [List.replicate, List.set, List.map, List.any, List.append, Op.operands, dif_pos, gA, Call.operands, gB, gC, gD, gE, gF, gG, Nat.reduceMul, reduceCtorEq, Nat.reduceBEq, Nat.reduceAdd, Nat.reduceLT, Nat.reduceLeDiff, Nat.reduceSub, Nat.reduceEqDiff, bq, tgs, vq]
  refine vcall_of (specTreeOk_vc t hl) ?_
  simp only [List.replicate, List.set, List.map, List.any, List.append, Op.operands, dif_pos, gA, Call.operands, gB, gC, gD, gE, gF, gG, Nat.reduceMul, reduceCtorEq, Nat.reduceBEq, Nat.reduceAdd, Nat.reduceLT, Nat.reduceLeDiff, Nat.reduceSub, Nat.reduceEqDiff, bq, tgs, vq]
  refine vbr (fun h => ?_) (fun h => ?_) <;> simp only [List.replicate, List.set, List.map, List.any, List.append, Op.operands, dif_pos, gA, Call.operands, gB, gC, gD, gE, gF, gG, Nat.reduceMul, reduceCtorEq, Nat.reduceBEq, Nat.reduceAdd, Nat.reduceLT, Nat.reduceLeDiff, Nat.reduceSub, Nat.reduceEqDiff, bq, tgs, vq]
  case refine_2 =>
    refine hK _ ?_
    clear hK K
    try refine vthen_n ?_
    repeat refine VW.seq ?_
    refine VW.cond rfl (fun hc => ?_) (fun hc => ?_)
    · repeat refine VW.seq ?_
      refine VW.regl hT fun K hK => ?_
      simp only [List.replicate, List.set, List.map, List.any, List.append, Op.operands, dif_pos, gA, Call.operands, gB, gC, gD, gE, gF, gG, Nat.reduceMul, reduceCtorEq, Nat.reduceBEq, Nat.reduceAdd, Nat.reduceLT, Nat.reduceLeDiff, Nat.reduceSub, Nat.reduceEqDiff, bq, tgs, vq]
      refine hK _ ?_
      clear hK K
      try refine vthen_n ?_
      refine VW.ret ⟨.inl rfl, _, rfl, ?_⟩
      have h' : treeOk t = false := (Bool.not_eq_true' _).mp h
      rw [sizesOk, h', Bool.false_and]
    · cases hc
  have hok : treeOk t = true := by
    have := h
    rwa [Bool.not_eq_false'] at this
  have htl := treeOk_len hok
  refine hK _ ?_
  clear hK K
  try refine vthen_n ?_
  rw [lenEq]
  repeat refine VW.seq ?_
  refine VW.cond rfl (fun hc => ?_) (fun hc => ?_)
  · repeat refine VW.seq ?_
    refine VW.regl hT fun K hK => ?_
    simp only [List.replicate, List.set, List.map, List.any, List.append, Op.operands, dif_pos, gA, Call.operands, gB, gC, gD, gE, gF, gG, Nat.reduceMul, reduceCtorEq, Nat.reduceBEq, Nat.reduceAdd, Nat.reduceLT, Nat.reduceLeDiff, Nat.reduceSub, Nat.reduceEqDiff, bq, tgs, vq]
    refine hK _ ?_
    clear hK K
    try refine vthen_n ?_
    refine VW.ret ⟨.inl rfl, _, rfl, ?_⟩
    have h' : (s.length == t.length) = false := (Bool.not_eq_true' _).mp hc
    rw [sizesOk, h', Bool.false_and, Bool.and_false]
  have hsl : s.length = t.length := by simpa using hc
  refine VW.skip (vthen_n ?_)
  repeat refine VW.seq ?_
  refine VW.regl hT fun K hK => ?_
  simp only [List.replicate, List.set, List.map, List.any, List.append, Op.operands, dif_pos, gA, Call.operands, gB, gC, gD, gE, gF, gG, Nat.reduceMul, reduceCtorEq, Nat.reduceBEq, Nat.reduceAdd, Nat.reduceLT, Nat.reduceLeDiff, Nat.reduceSub, Nat.reduceEqDiff, bq, tgs, vq]
  refine hK _ ?_
  clear hK K
  try refine vthen_n ?_
  repeat refine VW.seq ?_
  refine VW.block ?_
  refine VW.loop (α := Nat) [(0, none), (1, none), (5, none)] (fun i => [.v false sNS t, .v false sI s, D, D, D, .v false (.int .i64) (i), D, D, D, D, D, D, D, D, D, D, D, D, D, D, D, D, D, D, D, D, D, D, D, D, D, D, D, D, D, D, D, D, D, D, D, D, D, D, D, D, D, D, D, D, D]) (fun i => i ≤ t.length ∧ ∀ k, k < i → sizeBad t s k = false) (fun i => t.length - i) ⟨0, ⟨by omega, fun k hk => by omega⟩, ?_⟩ fun i ⟨hi, hk⟩ => ?_
  · simp only [norm, homeOne, moveTo, keepS, keepGo, usesOut, List.foldl, ren, renC, List.replicate, List.set, List.map, List.any, List.append, Op.operands, dif_pos, gA, Call.operands, gB, gC, gD, gE, gF, gG, Nat.reduceMul, reduceCtorEq, Nat.reduceBEq, Nat.reduceAdd, Nat.reduceLT, Nat.reduceLeDiff, Nat.reduceSub, Nat.reduceEqDiff, bq, tgs, vq]
    rfl
  repeat refine VW.seq ?_
  refine VW.regl hT fun K hK => ?_
  simp only [List.replicate, List.set, List.map, List.any, List.append, Op.operands, dif_pos, gA, Call.operands, gB, gC, gD, gE, gF, gG, Nat.reduceMul, reduceCtorEq, Nat.reduceBEq, Nat.reduceAdd, Nat.reduceLT, Nat.reduceLeDiff, Nat.reduceSub, Nat.reduceEqDiff, bq, tgs, vq]
  refine hK _ ?_
  clear hK K
  try refine vthen_n ?_
  repeat refine VW.seq ?_
  refine VW.cond rfl (fun hc => ?_) (fun hc => ?_)
  · have hlt : i < t.length := by simpa using hc
    have hi1 : decide (0 ≤ (i : Int) ∧ (i : Int) < (s.length : Int)) = true := decide_eq_true ⟨Int.natCast_nonneg _, by omega⟩
    have hi2 : decide (0 ≤ (i : Int) ∧ (i : Int) < (t.length : Int)) = true := decide_eq_true ⟨Int.natCast_nonneg _, by omega⟩
    refine VW.skip (vthen_n ?_)
    repeat refine VW.seq ?_
    refine VW.block ?_
    apply cutl
    · intro tail
      repeat refine VW.seq ?_
      refine VW.regl hT fun K hK => ?_
      simp only [List.replicate, List.set, List.map, List.any, List.append, Op.operands, dif_pos, gA, Call.operands, gB, gC, gD, gE, gF, gG, Nat.reduceMul, reduceCtorEq, Nat.reduceBEq, Nat.reduceAdd, Nat.reduceLT, Nat.reduceLeDiff, Nat.reduceSub, Nat.reduceEqDiff, bq, tgs, vq]
      refine ⟨hi1, ?_⟩
      refine vbr (fun g => ?_) (fun g => ?_) <;> simp only [List.replicate, List.set, List.map, List.any, List.append, Op.operands, dif_pos, gA, Call.operands, gB, gC, gD, gE, gF, gG, Nat.reduceMul, reduceCtorEq, Nat.reduceBEq, Nat.reduceAdd, Nat.reduceLT, Nat.reduceLeDiff, Nat.reduceSub, Nat.reduceEqDiff, bq, tgs, vq]
      case refine_2 =>
        refine hK _ ?_
        try refine vthen_n ?_
        refine VW.cond rfl (fun hc => by cases hc) (fun hc => ?_)
        refine VW.skip ?_
        show vthen _ _ _ .normal _
        refine vthen_n ?_
        refine VW.weak (weak_norm [(0, none), (1, none), (5, none)] _) ?_
        simp only [norm, homeOne, moveTo, keepS, keepGo, usesOut, List.foldl, ren, renC, List.replicate, List.set, List.map, List.any, List.append, Op.operands, dif_pos, gA, Call.operands, gB, gC, gD, gE, gF, gG, Nat.reduceMul, reduceCtorEq, Nat.reduceBEq, Nat.reduceAdd, Nat.reduceLT, Nat.reduceLeDiff, Nat.reduceSub, Nat.reduceEqDiff, bq, tgs, vq]
        have hb : sizeBad t s i = false := by
          have g2 : (!(s.getD i 0 == 0)) = false := g
          rw [sizeBad, g2, Bool.false_and]
        revert hb
        exact tail.h
      have g2 : (!(s.getD i 0 == 0)) = true := g
      have bad : ((t.getD i z).2.2 == 0 || !pw (s.getD i 0)) = true → sizesOk t s = false := fun h => sizesOk_false (k := i) (by omega) (by rw [sizeBad, g2, h]; rfl)
      refine ⟨hi2, ?_⟩
      refine vbr (fun g3 => ?_) (fun g3 => ?_) <;> simp only [List.replicate, List.set, List.map, List.any, List.append, Op.operands, dif_pos, gA, Call.operands, gB, gC, gD, gE, gF, gG, Nat.reduceMul, reduceCtorEq, Nat.reduceBEq, Nat.reduceAdd, Nat.reduceLT, Nat.reduceLeDiff, Nat.reduceSub, Nat.reduceEqDiff, bq, tgs, vq]
      case refine_2 =>
        refine hK _ ?_
        try refine vthen_n ?_
        refine VW.cond rfl (fun hc => ?_) (fun hc => by cases hc)
        repeat refine VW.seq ?_
        refine VW.regl hT fun K hK => ?_
        simp only [List.replicate, List.set, List.map, List.any, List.append, Op.operands, dif_pos, gA, Call.operands, gB, gC, gD, gE, gF, gG, Nat.reduceMul, reduceCtorEq, Nat.reduceBEq, Nat.reduceAdd, Nat.reduceLT, Nat.reduceLeDiff, Nat.reduceSub, Nat.reduceEqDiff, bq, tgs, vq]
        refine hK _ ?_
        clear hK K
        try refine vthen_n ?_
        refine VW.ret ⟨.inl rfl, _, rfl, ?_⟩
        rw [bad (by rw [show ((t.getD i z).2.2 == 0) = true from g3]; rfl)]
      have g3 : ((t.getD i z).2.2 == 0) = false := g3
      refine ⟨hi1, ?_⟩
      refine vcall_ex (specPower_vc _) ?_
      rintro pv ⟨b, rfl, hb⟩
      simp only [List.replicate, List.set, List.map, List.any, List.append, Op.operands, dif_pos, gA, Call.operands, gB, gC, gD, gE, gF, gG, Nat.reduceMul, reduceCtorEq, Nat.reduceBEq, Nat.reduceAdd, Nat.reduceLT, Nat.reduceLeDiff, Nat.reduceSub, Nat.reduceEqDiff, bq, tgs, vq]
      refine vbr (fun g4 => ?_) (fun g4 => ?_) <;> simp only [List.replicate, List.set, List.map, List.any, List.append, Op.operands, dif_pos, gA, Call.operands, gB, gC, gD, gE, gF, gG, Nat.reduceMul, reduceCtorEq, Nat.reduceBEq, Nat.reduceAdd, Nat.reduceLT, Nat.reduceLeDiff, Nat.reduceSub, Nat.reduceEqDiff, bq, tgs, vq]
      case refine_2 =>
        refine hK _ ?_
        try refine vthen_n ?_
        refine VW.cond rfl (fun hc => ?_) (fun hc => by cases hc)
        repeat refine VW.seq ?_
        refine VW.regl hT fun K hK => ?_
        simp only [List.replicate, List.set, List.map, List.any, List.append, Op.operands, dif_pos, gA, Call.operands, gB, gC, gD, gE, gF, gG, Nat.reduceMul, reduceCtorEq, Nat.reduceBEq, Nat.reduceAdd, Nat.reduceLT, Nat.reduceLeDiff, Nat.reduceSub, Nat.reduceEqDiff, bq, tgs, vq]
        refine hK _ ?_
        clear hK K
        try refine vthen_n ?_
        refine VW.ret ⟨.inl rfl, _, rfl, ?_⟩
        have g4 : b = false := by simpa using g4
        have : pw (s.getD i 0) = false := by
          rw [← Bool.not_eq_true]
          intro h
          have h2 := pw_in h
          have h3 := hb h2.1 h2.2
          rw [g4] at h3
          rw [show pw (s.getD i 0) = false from h3.symm] at h
          cases h
        rw [bad (by rw [this]; simp)]
      have g4 : b = true := by simpa using g4
      refine ⟨hi1, ?_⟩
      refine vcall_of (in_vc _ 16 4096) ?_
      simp only [List.replicate, List.set, List.map, List.any, List.append, Op.operands, dif_pos, gA, Call.operands, gB, gC, gD, gE, gF, gG, Nat.reduceMul, reduceCtorEq, Nat.reduceBEq, Nat.reduceAdd, Nat.reduceLT, Nat.reduceLeDiff, Nat.reduceSub, Nat.reduceEqDiff, bq, tgs, vq]
      refine hK _ ?_
      try refine vthen_n ?_
      refine VW.cond rfl (fun hc => ?_) (fun hc => ?_)
      · repeat refine VW.seq ?_
        refine VW.regl hT fun K hK => ?_
        simp only [List.replicate, List.set, List.map, List.any, List.append, Op.operands, dif_pos, gA, Call.operands, gB, gC, gD, gE, gF, gG, Nat.reduceMul, reduceCtorEq, Nat.reduceBEq, Nat.reduceAdd, Nat.reduceLT, Nat.reduceLeDiff, Nat.reduceSub, Nat.reduceEqDiff, bq, tgs, vq]
        refine hK _ ?_
        clear hK K
        try refine vthen_n ?_
        refine VW.ret ⟨.inl rfl, _, rfl, ?_⟩
        have hc : inB (s.getD i 0) 16 4096 = false := (Bool.not_eq_true' _).mp hc
        have : pw (s.getD i 0) = false := by
          rw [← Bool.not_eq_true]
          intro h
          rw [inB_iff.2 (pw_in h)] at hc
          cases hc
        rw [bad (by rw [this]; simp)]
      · refine VW.skip ?_
        show vthen _ _ _ .normal _
        refine vthen_n ?_
        refine VW.weak (weak_norm [(0, none), (1, none), (5, none)] _) ?_
        simp only [norm, homeOne, moveTo, keepS, keepGo, usesOut, List.foldl, ren, renC, List.replicate, List.set, List.map, List.any, List.append, Op.operands, dif_pos, gA, Call.operands, gB, gC, gD, gE, gF, gG, Nat.reduceMul, reduceCtorEq, Nat.reduceBEq, Nat.reduceAdd, Nat.reduceLT, Nat.reduceLeDiff, Nat.reduceSub, Nat.reduceEqDiff, bq, tgs, vq]
        have hb : sizeBad t s i = false := by
          have hc : inB (s.getD i 0) 16 4096 = true := by
            have := hc
            rwa [Bool.not_eq_false'] at this
          have h2 := inB_iff.1 hc
          have h3 := hb h2.1 h2.2
          rw [g4] at h3
          rw [sizeBad, g3, show pw (s.getD i 0) = true from h3.symm]
          simp
        revert hb
        exact tail.h
    · intro hb
      repeat refine VW.seq ?_
      refine VW.regl hT fun K hK => ?_
      simp only [List.replicate, List.set, List.map, List.any, List.append, Op.operands, dif_pos, gA, Call.operands, gB, gC, gD, gE, gF, gG, Nat.reduceMul, reduceCtorEq, Nat.reduceBEq, Nat.reduceAdd, Nat.reduceLT, Nat.reduceLeDiff, Nat.reduceSub, Nat.reduceEqDiff, bq, tgs, vq]
      refine hK _ ?_
      clear hK K
      try refine vthen_n ?_
      refine ⟨i + 1, ⟨hlt, fun k h => ?_⟩, ?_, by show t.length - (i + 1) < t.length - i; omega⟩
      · rcases Nat.lt_or_ge k i with h1 | h1
        · exact hk k h1
        · obtain rfl : k = i := by omega
          exact hb
      · simp only [norm, homeOne, moveTo, keepS, keepGo, usesOut, List.foldl, ren, renC, List.replicate, List.set, List.map, List.any, List.append, Op.operands, dif_pos, gA, Call.operands, gB, gC, gD, gE, gF, gG, Nat.reduceMul, reduceCtorEq, Nat.reduceBEq, Nat.reduceAdd, Nat.reduceLT, Nat.reduceLeDiff, Nat.reduceSub, Nat.reduceEqDiff, bq, tgs, vq]
        rw [wrap64 (by omega) (by omega)]
        rfl
  · have hge : t.length ≤ i := by simpa using hc
    refine VW.exit ?_
    show vthen _ _ _ .normal _
    refine vthen_n ?_
    repeat refine VW.seq ?_
    refine VW.regl hT fun K hK => ?_
    simp only [List.replicate, List.set, List.map, List.any, List.append, Op.operands, dif_pos, gA, Call.operands, gB, gC, gD, gE, gF, gG, Nat.reduceMul, reduceCtorEq, Nat.reduceBEq, Nat.reduceAdd, Nat.reduceLT, Nat.reduceLeDiff, Nat.reduceSub, Nat.reduceEqDiff, bq, tgs, vq]
    refine hK _ ?_
    clear hK K
    try refine vthen_n ?_
    refine VW.ret ⟨.inl rfl, _, rfl, ?_⟩
    rw [sizesOk_iff.2 ⟨hok, hsl, fun k hk' => hk k (by omega)⟩]
theorem specNode_vc (t : List Nd) (k : Int) (hl : t.length ≤ 2000000) : VC Try.prog 133 [.v false sNS t, .v false (.int .i64) (k)] (· = .v false .bool (treeOk t && inB k 0 (t.length - 1))) := by
  refine VC.of_body hT Try.func133 rfl (by kernel_rfl) [(.tmp 4, false, .bool)] (by kernel_rfl) ?_
  show VW _ _ ([.v false sNS t, .v false (.int .i64) (k), D, D, D, D, D, D, D, D, D, D, D, D]) _
  repeat refine VW.seq ?_
  refine VW.regl hT fun K hK => ?_
  simp only [List.replicate, List.set, List.map, List.any, List.append, Op.operands, dif_pos, gA, Call.operands, gB, gC, gD, gE, gF, gG, Nat.reduceMul, reduceCtorEq, Nat.reduceBEq, Nat.reduceAdd, Nat.reduceLT, Nat.reduceLeDiff, Nat.reduceSub, Nat.reduceEqDiff, bq, tgs, vq]
  refine hK _ ?_
  clear hK K
  try refine vthen_n ?_
  repeat refine VW.seq ?_
  refine VW.regl hT fun K hK => ?_
  simp only [List.replicate, List.set, List.map, List.any, List.append, Op.operands, dif_pos, gA, Call.operands, gB, gC, gD, gE, gF, gG, Nat.reduceMul, reduceCtorEq, Nat.reduceBEq, Nat.reduceAdd, Nat.reduceLT, Nat.reduceLeDiff, Nat.reduceSub, Nat.reduceEqDiff, bq, tgs, vq]
  refine vcall_of (specTreeOk_vc t hl) ?_
  simp only [List.replicate, List.set, List.map, List.any, List.append, Op.operands, dif_pos, gA, Call.operands, gB, gC, gD, gE, gF, gG, Nat.reduceMul, reduceCtorEq, Nat.reduceBEq, Nat.reduceAdd, Nat.reduceLT, Nat.reduceLeDiff, Nat.reduceSub, Nat.reduceEqDiff, bq, tgs, vq]
  refine vbr (fun h => ?_) (fun h => ?_) <;> simp only [List.replicate, List.set, List.map, List.any, List.append, Op.operands, dif_pos, gA, Call.operands, gB, gC, gD, gE, gF, gG, Nat.reduceMul, reduceCtorEq, Nat.reduceBEq, Nat.reduceAdd, Nat.reduceLT, Nat.reduceLeDiff, Nat.reduceSub, Nat.reduceEqDiff, bq, tgs, vq]
  · rw [wrap64 (by omega) (by omega)]
    refine vcall_of (in_vc k 0 (t.length - 1)) ?_
    simp only [List.replicate, List.set, List.map, List.any, List.append, Op.operands, dif_pos, gA, Call.operands, gB, gC, gD, gE, gF, gG, Nat.reduceMul, reduceCtorEq, Nat.reduceBEq, Nat.reduceAdd, Nat.reduceLT, Nat.reduceLeDiff, Nat.reduceSub, Nat.reduceEqDiff, bq, tgs, vq]
    refine hK _ ?_
    clear hK K
    try refine vthen_n ?_
    refine VW.ret ⟨.inl rfl, _, rfl, ?_⟩
    simp only [h, Bool.true_and]
  · refine hK _ ?_
    clear hK K
    try refine vthen_n ?_
    refine VW.ret ⟨.inl rfl, _, rfl, ?_⟩
    simp only [h, Bool.not_true, Bool.false_and]
/-- the nodes below k with device d among the first i -/
def kidsD (t : List Nd) (k : Int) (d i : Nat) : List Int := ((List.range i).filter fun j : Nat => decide (1 ≤ j) && ((t.getD j z).1 == k && (t.getD j z).2.1 == (d : Int))).map fun j : Nat => (j : Int)
theorem kidsD_succ (t : List Nd) (k : Int) (d i : Nat) : kidsD t k d (i + 1) = kidsD t k d i ++ (if (decide (1 ≤ i) && ((t.getD i z).1 == k && (t.getD i z).2.1 == (d : Int))) = true then [(i : Int)] else []) := by
  unfold kidsD
  rw [List.range_succ, List.filter_append, List.map_append]
  congr 1
  simp only [List.filter_cons, List.filter_nil]
  split <;> rfl
theorem kidsD_len (t : List Nd) (k : Int) (d i : Nat) : (kidsD t k d i).length ≤ i := by
  unfold kidsD
  rw [List.length_map]
  refine Nat.le_trans (List.length_filter_le _ _) ?_
  simp
def kidsTo (t : List Nd) (k : Int) (d : Nat) : List Int := (List.range d).flatMap fun d => kidsD t k d t.length
theorem kidsTo_succ (t : List Nd) (k : Int) (d : Nat) : kidsTo t k (d + 1) = kidsTo t k d ++ kidsD t k d t.length := by
  unfold kidsTo
  rw [List.range_succ, List.flatMap_append]
  simp
theorem kidsTo_len (t : List Nd) (k : Int) : ∀ d, (kidsTo t k d).length ≤ d * t.length
  | 0 => by simp [kidsTo]
  | d + 1 => by
    rw [kidsTo_succ, List.length_append, Nat.succ_mul]
    have := kidsTo_len t k d
    have := kidsD_len t k d t.length
    omega
def skids (t : List Nd) (k : Int) : List Int := if (treeOk t && inB k 0 (t.length - 1)) = true then kidsTo t k 4 else []
set_option maxRecDepth 20000 in
theorem specChildren_vc (t : List Nd) (k : Int) (hl : t.length ≤ 2000000) : VC Try.prog 120 [.v false sNS t, .v false (.int .i64) (k)] (· = .root (.val false) sI .own (skids t k)) := by
  refine VC.of_body hT Try.func120 rfl (by kernel_rfl) [(.tmp 4, false, sI)] (by kernel_rfl) ?_
  show VW _ _ ([.v false sNS t, .v false (.int .i64) (k), D, D, D, D, D, D, D, D, D, D, D, D, D, D, D, D, D, D, D, D, D, D, D, D, D, D, D, D, D, D, D, D, D, D, D, D, D, D, D, D, D, D, D]) _
  repeat refine VW.seq ?_
  refine VW.regl hT fun K hK => ?_
  simp only [List.replicate, List.set, List.map, List.any, List.append, Op.operands, dif_pos, gA, Call.operands, gB, gC, gD, gE, gF, gG, Nat.reduceMul, reduceCtorEq, Nat.reduceBEq, Nat.reduceAdd, Nat.reduceLT, Nat.reduceLeDiff, Nat.reduceSub, Nat.reduceEqDiff, bq, tgs, vq]
  refine hK _ ?_
  clear hK K
  try refine vthen_n ?_
  repeat refine VW.seq ?_
  refine VW.regl hT fun K hK => ?_
  simp only [List.replicate, List.set, List.map, List.any, List.append, Op.operands, dif_pos, gA, Call.operands, gB, gC, gD, gE, gF, gG, Nat.reduceMul, reduceCtorEq, Nat.reduceBEq, Nat.reduceAdd, Nat.reduceLT, Nat.reduceLeDiff, Nat.reduceSub, Nat.reduceEqDiff, bq, tgs, vq]
  refine hK _ ?_
  clear hK K
  try refine vthen_n ?_
  repeat refine VW.seq ?_
  refine VW.regl hT fun K hK => ?_
  simp only [List.replicate, List.set, List.map, List.any, List.append, Op.operands, dif_pos, gA, Call.operands, gB, gC, gD, gE, gF, gG, Nat.reduceMul, reduceCtorEq, Nat.reduceBEq, Nat.reduceAdd, Nat.reduceLT, Nat.reduceLeDiff, Nat.reduceSub, Nat.reduceEqDiff, bq, tgs, vq]
  refine vcall_of (specNode_vc t k hl) ?_
  simp only [List.replicate, List.set, List.map, List.any, List.append, Op.operands, dif_pos, gA, Call.operands, gB, gC, gD, gE, gF, gG, Nat.reduceMul, reduceCtorEq, Nat.reduceBEq, Nat.reduceAdd, Nat.reduceLT, Nat.reduceLeDiff, Nat.reduceSub, Nat.reduceEqDiff, bq, tgs, vq]
  refine hK _ ?_
  clear hK K
  try refine vthen_n ?_
  repeat refine VW.seq ?_
  refine VW.cond rfl (fun hc => ?_) (fun hc => ?_)
  · repeat refine VW.seq ?_
    refine VW.regl hT fun K hK => ?_
    simp only [List.replicate, List.set, List.map, List.any, List.append, Op.operands, dif_pos, gA, Call.operands, gB, gC, gD, gE, gF, gG, Nat.reduceMul, reduceCtorEq, Nat.reduceBEq, Nat.reduceAdd, Nat.reduceLT, Nat.reduceLeDiff, Nat.reduceSub, Nat.reduceEqDiff, bq, tgs, vq]
    refine hK _ ?_
    clear hK K
    try refine vthen_n ?_
    refine VW.ret ⟨.inl rfl, _, rfl, ?_⟩
    have h' : (treeOk t && inB k 0 (t.length - 1)) = false := (Bool.not_eq_true' _).mp hc
    rw [skids, h']
    rfl
  have hok : (treeOk t && inB k 0 (t.length - 1)) = true := by
    have := hc
    rwa [Bool.not_eq_false'] at this
  have htl : 1 ≤ t.length ∧ t.length ≤ 12 := by
    simp only [Bool.and_eq_true] at hok
    exact treeOk_len hok.1
  refine VW.skip (vthen_n ?_)
  repeat refine VW.seq ?_
  refine VW.regl hT fun K hK => ?_
  simp only [List.replicate, List.set, List.map, List.any, List.append, Op.operands, dif_pos, gA, Call.operands, gB, gC, gD, gE, gF, gG, Nat.reduceMul, reduceCtorEq, Nat.reduceBEq, Nat.reduceAdd, Nat.reduceLT, Nat.reduceLeDiff, Nat.reduceSub, Nat.reduceEqDiff, bq, tgs, vq]
  refine hK _ ?_
  clear hK K
  try refine vthen_n ?_
  repeat refine VW.seq ?_
  refine VW.block ?_
  refine VW.loop (α := Nat) [(0, none), (1, none), (5, some (3, .int .i64)), (6, none)] (fun d => [.v false sNS t, .v false (.int .i64) (k), D, D, D, .root (.val false) sI .own (kidsTo t k d), .v false (.int .i64) (d), D, D, D, D, D, D, D, D, D, D, D, D, D, D, D, D, D, D, D, D, D, D, D, D, D, D, D, D, D, D, D, D, D, D, D, D, D, D]) (fun d => d ≤ 4) (fun d => 4 - d) ⟨0, by omega, ?_⟩ fun d hd => ?_
  · simp only [norm, homeOne, moveTo, keepS, keepGo, usesOut, List.foldl, ren, renC, List.replicate, List.set, List.map, List.any, List.append, Op.operands, dif_pos, gA, Call.operands, gB, gC, gD, gE, gF, gG, Nat.reduceMul, reduceCtorEq, Nat.reduceBEq, Nat.reduceAdd, Nat.reduceLT, Nat.reduceLeDiff, Nat.reduceSub, Nat.reduceEqDiff, bq, tgs, vq]
    rfl
  repeat refine VW.seq ?_
  refine VW.regl hT fun K hK => ?_
  simp only [List.replicate, List.set, List.map, List.any, List.append, Op.operands, dif_pos, gA, Call.operands, gB, gC, gD, gE, gF, gG, Nat.reduceMul, reduceCtorEq, Nat.reduceBEq, Nat.reduceAdd, Nat.reduceLT, Nat.reduceLeDiff, Nat.reduceSub, Nat.reduceEqDiff, bq, tgs, vq]
  refine hK _ ?_
  clear hK K
  try refine vthen_n ?_
  repeat refine VW.seq ?_
  refine VW.cond rfl (fun hc => ?_) (fun hc => ?_)
  · have hlt : d < 4 := by
      have : (d : Int) ≤ 3 := of_decide_eq_true hc
      omega
    have hkt := kidsTo_len t k d
    have hmul : d * t.length ≤ 4 * 12 := Nat.mul_le_mul (by omega) (by omega)
    refine VW.skip (vthen_n ?_)
    repeat refine VW.seq ?_
    refine VW.block ?_
    repeat refine VW.seq ?_
    refine VW.regl hT fun K hK => ?_
    simp only [List.replicate, List.set, List.map, List.any, List.append, Op.operands, dif_pos, gA, Call.operands, gB, gC, gD, gE, gF, gG, Nat.reduceMul, reduceCtorEq, Nat.reduceBEq, Nat.reduceAdd, Nat.reduceLT, Nat.reduceLeDiff, Nat.reduceSub, Nat.reduceEqDiff, bq, tgs, vq]
    refine hK _ ?_
    clear hK K
    try refine vthen_n ?_
    repeat refine VW.seq ?_
    refine VW.block ?_
    refine VW.loop (α := Nat) [(0, none), (1, none), (5, some (3, .int .i64)), (6, none), (7, none)] (fun i => [.v false sNS t, .v false (.int .i64) (k), D, D, D, .root (.val false) sI .own (kidsTo t k d ++ kidsD t k d i), .v false (.int .i64) (d), .v false (.int .i64) (i), D, D, D, D, D, D, D, D, D, D, D, D, D, D, D, D, D, D, D, D, D, D, D, D, D, D, D, D, D, D, D, D, D, D, D, D, D]) (fun i => 1 ≤ i ∧ i ≤ t.length) (fun i => t.length - i) ⟨1, ⟨by omega, by omega⟩, ?_⟩ fun i ⟨hi1, hi⟩ => ?_
    · simp only [norm, homeOne, moveTo, keepS, keepGo, usesOut, List.foldl, ren, renC, List.replicate, List.set, List.map, List.any, List.append, Op.operands, dif_pos, gA, Call.operands, gB, gC, gD, gE, gF, gG, Nat.reduceMul, reduceCtorEq, Nat.reduceBEq, Nat.reduceAdd, Nat.reduceLT, Nat.reduceLeDiff, Nat.reduceSub, Nat.reduceEqDiff, bq, tgs, vq]
      rw [show kidsD t k d 1 = [] from rfl, List.append_nil]
      rfl
    have hkd := kidsD_len t k d i
    repeat refine VW.seq ?_
    refine VW.regl hT fun K hK => ?_
    simp only [List.replicate, List.set, List.map, List.any, List.append, Op.operands, dif_pos, gA, Call.operands, gB, gC, gD, gE, gF, gG, Nat.reduceMul, reduceCtorEq, Nat.reduceBEq, Nat.reduceAdd, Nat.reduceLT, Nat.reduceLeDiff, Nat.reduceSub, Nat.reduceEqDiff, bq, tgs, vq]
    refine hK _ ?_
    clear hK K
    try refine vthen_n ?_
    repeat refine VW.seq ?_
    refine VW.cond rfl (fun hc => ?_) (fun hc => ?_)
    · have hlti : i < t.length := by simpa using hc
      have hi2 : decide (0 ≤ (i : Int) ∧ (i : Int) < (t.length : Int)) = true := decide_eq_true ⟨Int.natCast_nonneg _, by omega⟩
      have hd1 : decide (1 ≤ i) = true := decide_eq_true hi1
      refine VW.skip (vthen_n ?_)
      repeat refine VW.seq ?_
      refine VW.block ?_
      apply cutl
      · intro tail
        repeat refine VW.seq ?_
        refine VW.regl hT fun K hK => ?_
        simp only [List.replicate, List.set, List.map, List.any, List.append, Op.operands, dif_pos, gA, Call.operands, gB, gC, gD, gE, gF, gG, Nat.reduceMul, reduceCtorEq, Nat.reduceBEq, Nat.reduceAdd, Nat.reduceLT, Nat.reduceLeDiff, Nat.reduceSub, Nat.reduceEqDiff, bq, tgs, vq]
        refine ⟨hi2, ?_⟩
        refine vbr (fun g => ?_) (fun g => ?_) <;> simp only [List.replicate, List.set, List.map, List.any, List.append, Op.operands, dif_pos, gA, Call.operands, gB, gC, gD, gE, gF, gG, Nat.reduceMul, reduceCtorEq, Nat.reduceBEq, Nat.reduceAdd, Nat.reduceLT, Nat.reduceLeDiff, Nat.reduceSub, Nat.reduceEqDiff, bq, tgs, vq]
        case refine_2 =>
          refine hK _ ?_
          try refine vthen_n ?_
          refine VW.cond rfl (fun hc => by cases hc) (fun hc => ?_)
          refine VW.skip ?_
          show vthen _ _ _ .normal _
          refine vthen_n ?_
          refine VW.weak (weak_norm [(0, none), (1, none), (5, none), (6, none), (7, none)] _) ?_
          simp only [norm, homeOne, moveTo, keepS, keepGo, usesOut, List.foldl, ren, renC, List.replicate, List.set, List.map, List.any, List.append, Op.operands, dif_pos, gA, Call.operands, gB, gC, gD, gE, gF, gG, Nat.reduceMul, reduceCtorEq, Nat.reduceBEq, Nat.reduceAdd, Nat.reduceLT, Nat.reduceLeDiff, Nat.reduceSub, Nat.reduceEqDiff, bq, tgs, vq]
          have e : kidsTo t k d ++ kidsD t k d i = kidsTo t k d ++ kidsD t k d (i + 1) := by
            rw [kidsD_succ, show ((t.getD i z).1 == k) = false from g]
            simp
          rw [e]
          exact tail.h
        refine ⟨hi2, ?_⟩
        refine hK _ ?_
        try refine vthen_n ?_
        refine VW.cond rfl (fun hc => ?_) (fun hc => ?_)
        · repeat refine VW.seq ?_
          refine VW.regl hT fun K hK => ?_
          simp only [List.replicate, List.set, List.map, List.any, List.append, Op.operands, dif_pos, gA, Call.operands, gB, gC, gD, gE, gF, gG, Nat.reduceMul, reduceCtorEq, Nat.reduceBEq, Nat.reduceAdd, Nat.reduceLT, Nat.reduceLeDiff, Nat.reduceSub, Nat.reduceEqDiff, bq, tgs, vq]
          refine ⟨by simp [limOk]; omega, ?_⟩
          refine hK _ ?_
          try refine vthen_n ?_
          show vthen _ _ _ .normal _
          refine vthen_n ?_
          refine VW.weak (weak_norm [(0, none), (1, none), (5, none), (6, none), (7, none)] _) ?_
          simp only [norm, homeOne, moveTo, keepS, keepGo, usesOut, List.foldl, ren, renC, List.replicate, List.set, List.map, List.any, List.append, Op.operands, dif_pos, gA, Call.operands, gB, gC, gD, gE, gF, gG, Nat.reduceMul, reduceCtorEq, Nat.reduceBEq, Nat.reduceAdd, Nat.reduceLT, Nat.reduceLeDiff, Nat.reduceSub, Nat.reduceEqDiff, bq, tgs, vq]
          have e : kidsTo t k d ++ kidsD t k d i ++ [(i : Int)] = kidsTo t k d ++ kidsD t k d (i + 1) := by
            rw [kidsD_succ, hd1, show ((t.getD i z).1 == k) = true from g, show ((t.getD i z).2.1 == (d : Int)) = true from hc]
            simp
          rw [e]
          exact tail.h
        · refine VW.skip ?_
          show vthen _ _ _ .normal _
          refine vthen_n ?_
          refine VW.weak (weak_norm [(0, none), (1, none), (5, none), (6, none), (7, none)] _) ?_
          simp only [norm, homeOne, moveTo, keepS, keepGo, usesOut, List.foldl, ren, renC, List.replicate, List.set, List.map, List.any, List.append, Op.operands, dif_pos, gA, Call.operands, gB, gC, gD, gE, gF, gG, Nat.reduceMul, reduceCtorEq, Nat.reduceBEq, Nat.reduceAdd, Nat.reduceLT, Nat.reduceLeDiff, Nat.reduceSub, Nat.reduceEqDiff, bq, tgs, vq]
          have e : kidsTo t k d ++ kidsD t k d i = kidsTo t k d ++ kidsD t k d (i + 1) := by
            rw [kidsD_succ, show ((t.getD i z).2.1 == (d : Int)) = false from hc]
            simp
          rw [e]
          exact tail.h
      · repeat refine VW.seq ?_
        refine VW.regl hT fun K hK => ?_
        simp only [List.replicate, List.set, List.map, List.any, List.append, Op.operands, dif_pos, gA, Call.operands, gB, gC, gD, gE, gF, gG, Nat.reduceMul, reduceCtorEq, Nat.reduceBEq, Nat.reduceAdd, Nat.reduceLT, Nat.reduceLeDiff, Nat.reduceSub, Nat.reduceEqDiff, bq, tgs, vq]
        refine hK _ ?_
        clear hK K
        try refine vthen_n ?_
        refine ⟨i + 1, ⟨by omega, by omega⟩, ?_, by show t.length - (i + 1) < t.length - i; omega⟩
        simp only [norm, homeOne, moveTo, keepS, keepGo, usesOut, List.foldl, ren, renC, List.replicate, List.set, List.map, List.any, List.append, Op.operands, dif_pos, gA, Call.operands, gB, gC, gD, gE, gF, gG, Nat.reduceMul, reduceCtorEq, Nat.reduceBEq, Nat.reduceAdd, Nat.reduceLT, Nat.reduceLeDiff, Nat.reduceSub, Nat.reduceEqDiff, bq, tgs, vq]
        rw [wrap64 (by omega) (by omega)]
        rfl
    · have hge : i = t.length := by
        have : t.length ≤ i := by simpa using hc
        omega
      subst hge
      refine VW.exit ?_
      show vthen _ _ _ .normal _
      refine vthen_n ?_
      repeat refine VW.seq ?_
      refine VW.regl hT fun K hK => ?_
      simp only [List.replicate, List.set, List.map, List.any, List.append, Op.operands, dif_pos, gA, Call.operands, gB, gC, gD, gE, gF, gG, Nat.reduceMul, reduceCtorEq, Nat.reduceBEq, Nat.reduceAdd, Nat.reduceLT, Nat.reduceLeDiff, Nat.reduceSub, Nat.reduceEqDiff, bq, tgs, vq]
      refine hK _ ?_
      clear hK K
      try refine vthen_n ?_
      refine ⟨d + 1, by omega, ?_, by show 4 - (d + 1) < 4 - d; omega⟩
      simp only [norm, homeOne, moveTo, keepS, keepGo, usesOut, List.foldl, ren, renC, List.replicate, List.set, List.map, List.any, List.append, Op.operands, dif_pos, gA, Call.operands, gB, gC, gD, gE, gF, gG, Nat.reduceMul, reduceCtorEq, Nat.reduceBEq, Nat.reduceAdd, Nat.reduceLT, Nat.reduceLeDiff, Nat.reduceSub, Nat.reduceEqDiff, bq, tgs, vq]
      rw [wrap64 (by omega) (by omega), kidsTo_succ]
      rfl
  · have hge : d = 4 := by
      have : ¬ (d : Int) ≤ 3 := of_decide_eq_false hc
      omega
    subst hge
    refine VW.exit ?_
    show vthen _ _ _ .normal _
    refine vthen_n ?_
    repeat refine VW.seq ?_
    refine VW.regl hT fun K hK => ?_
    simp only [List.replicate, List.set, List.map, List.any, List.append, Op.operands, dif_pos, gA, Call.operands, gB, gC, gD, gE, gF, gG, Nat.reduceMul, reduceCtorEq, Nat.reduceBEq, Nat.reduceAdd, Nat.reduceLT, Nat.reduceLeDiff, Nat.reduceSub, Nat.reduceEqDiff, bq, tgs, vq]
    refine hK _ ?_
    clear hK K
    try refine vthen_n ?_
    refine VW.ret ⟨.inl rfl, _, rfl, ?_⟩
    rw [skids, if_pos hok]
end Go.Proofs.Ytmechjnfeidnkaa.V.W

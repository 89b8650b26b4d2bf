/- spec.FabricOk walked. No condition. -/
import Derived.Test.YtmechjnfeidnkaaF20
set_option linter.unusedVariables false
set_option linter.unnecessarySimpa false
set_option linter.unusedSimpArgs false
namespace Go.Proofs.Ytmechjnfeidnkaa.V.W
open Go Go.RowKit
set_option maxRecDepth 20000 in
set_option maxHeartbeats 2000000 in
theorem specFabricOk_vc (x : Fab) (hx : FabL x) : VC Try.prog 24 [.v true sFi x] (· = .v false .bool (fabOk x)) := by
  obtain ⟨t, s, b, m, g⟩ := x
  have hla : t.length ≤ 2000000 := hx.a
  have hlb : s.length ≤ 2000000 := hx.b
  have hlc : b.length ≤ 2000000 := hx.c
  have hld : m.length ≤ 2000000 := hx.d
  have hle : ∀ k, (m.getD k []).length ≤ 2000000 := hx.e
  refine VC.of_body hT Try.func24 rfl (by kernel_rfl) [(.tmp 2, false, .bool)] (by kernel_rfl) ?_
  show VW _ _ ([.v true sFi (t, s, b, m, g), D, D, D, D, D, D, D, D, D, D, D, D, D, D, D, D, D, D, D, D, D, D, D, D, D, D, D, D, D, D, D, D, D, D, D, D, D, D, D, D, D, D, D, D, D, D, D, D, D, D, D, D, D, D, D, D, D, D, D, D, D, D, D, D, D, D, D, D, D, D, D, D, D, D, D, D, D, D, D, D, D, D]) _
  repeat refine VW.seq ?_
  refine VW.regl hT fun K hK => ?_
  simp only [List.replicate, List.set, List.map, List.any, List.append, Op.operands, dif_pos, gA, Call.operands, gB, gC, gD, gE, gF, gG, Nat.reduceMul, reduceCtorEq, Nat.reduceBEq, Nat.reduceAdd, Nat.reduceLT, Nat.reduceLeDiff, Nat.reduceSub, Nat.reduceEqDiff, bq, tgs, vq]
  refine hK _ ?_
  clear hK K
  try refine vthen_n ?_
  repeat refine VW.seq ?_
  refine VW.regl hT fun K hK => ?_
  simp only [List.replicate, List.set, List.map, List.any, List.append, Op.operands, dif_pos, gA, Call.operands, gB, gC, gD, gE, gF, gG, Nat.reduceMul, reduceCtorEq, Nat.reduceBEq, Nat.reduceAdd, Nat.reduceLT, Nat.reduceLeDiff, Nat.reduceSub, Nat.reduceEqDiff, bq, tgs, vq]
  refine vcall_ex (specNew_vc t s hla hlb) ?_
  intro pv hpv
  by_cases hn : newOk t s = true
  case neg =>
    have hn0 : newOk t s = false := by simpa using hn
    rw [if_neg hn] at hpv
    subst hpv
    simp only [List.replicate, List.set, List.map, List.any, List.append, Op.operands, dif_pos, gA, Call.operands, gB, gC, gD, gE, gF, gG, Nat.reduceMul, reduceCtorEq, Nat.reduceBEq, Nat.reduceAdd, Nat.reduceLT, Nat.reduceLeDiff, Nat.reduceSub, Nat.reduceEqDiff, bq, tgs, vq]
    refine hK _ ?_
    clear hK K
    try refine vthen_n ?_
    repeat refine VW.seq ?_
    refine VW.regl hT fun K hK => ?_
    simp only [List.replicate, List.set, List.map, List.any, List.append, Op.operands, dif_pos, gA, Call.operands, gB, gC, gD, gE, gF, gG, Nat.reduceMul, reduceCtorEq, Nat.reduceBEq, Nat.reduceAdd, Nat.reduceLT, Nat.reduceLeDiff, Nat.reduceSub, Nat.reduceEqDiff, bq, tgs, vq]
    refine hK _ ?_
    clear hK K
    try refine vthen_n ?_
    repeat refine VW.seq ?_
    refine VW.cond rfl (fun hc => ?_) (fun hc => ?_)
    · repeat refine VW.seq ?_
      refine VW.regl hT fun K hK => ?_
      simp only [List.replicate, List.set, List.map, List.any, List.append, Op.operands, dif_pos, gA, Call.operands, gB, gC, gD, gE, gF, gG, Nat.reduceMul, reduceCtorEq, Nat.reduceBEq, Nat.reduceAdd, Nat.reduceLT, Nat.reduceLeDiff, Nat.reduceSub, Nat.reduceEqDiff, bq, tgs, vq]
      refine hK _ ?_
      clear hK K
      try refine vthen_n ?_
      refine VW.ret ⟨.inl rfl, _, rfl, ?_⟩
      rw [fabOk, hn0]
      rfl
    · cases hc
  rw [if_pos hn] at hpv
  subst hpv
  simp only [List.replicate, List.set, List.map, List.any, List.append, Op.operands, dif_pos, gA, Call.operands, gB, gC, gD, gE, gF, gG, Nat.reduceMul, reduceCtorEq, Nat.reduceBEq, Nat.reduceAdd, Nat.reduceLT, Nat.reduceLeDiff, Nat.reduceSub, Nat.reduceEqDiff, bq, tgs, vq]
  refine hK _ ?_
  clear hK K
  try refine vthen_n ?_
  have hok0 : sizesOk t s = true := by
    have := hn
    rw [newOk, fits, Bool.and_eq_true, Bool.and_eq_true] at this
    exact this.1.1
  have hok := (sizesOk_iff.1 hok0).1
  have hsl := (sizesOk_iff.1 hok0).2.1
  have htl := treeOk_len hok
  have hal : (allBars t s).length = t.length := bars_len _ _ _
  have hml : (memTo s s.length).length = s.length := memTo_len (Nat.le_refl _)
  repeat refine VW.seq ?_
  refine VW.regl hT fun K hK => ?_
  simp only [List.replicate, List.set, List.map, List.any, List.append, Op.operands, dif_pos, gA, Call.operands, gB, gC, gD, gE, gF, gG, Nat.reduceMul, reduceCtorEq, Nat.reduceBEq, Nat.reduceAdd, Nat.reduceLT, Nat.reduceLeDiff, Nat.reduceSub, Nat.reduceEqDiff, bq, tgs, vq]
  refine vbr (fun h => ?_) (fun h => ?_) <;> simp only [List.replicate, List.set, List.map, List.any, List.append, Op.operands, dif_pos, gA, Call.operands, gB, gC, gD, gE, gF, gG, Nat.reduceMul, reduceCtorEq, Nat.reduceBEq, Nat.reduceAdd, Nat.reduceLT, Nat.reduceLeDiff, Nat.reduceSub, Nat.reduceEqDiff, bq, tgs, vq]
  case refine_2 =>
    have h : ((b.length : Int) == ((allBars t s).length : Int)) = false := (Bool.not_eq_true' _).mp h
    have h0 : decide (allBars t s = b) = false := by
      rw [decide_eq_false_iff_not]
      rintro rfl
      simp at h
    refine hK _ ?_
    clear hK K
    try refine vthen_n ?_
    repeat refine VW.seq ?_
    refine VW.cond rfl (fun hc => ?_) (fun hc => ?_)
    · repeat refine VW.seq ?_
      refine VW.regl hT fun K hK => ?_
      simp only [List.replicate, List.set, List.map, List.any, List.append, Op.operands, dif_pos, gA, Call.operands, gB, gC, gD, gE, gF, gG, Nat.reduceMul, reduceCtorEq, Nat.reduceBEq, Nat.reduceAdd, Nat.reduceLT, Nat.reduceLeDiff, Nat.reduceSub, Nat.reduceEqDiff, bq, tgs, vq]
      refine hK _ ?_
      clear hK K
      try refine vthen_n ?_
      refine VW.ret ⟨.inl rfl, _, rfl, ?_⟩
      rw [fabOk, hn, Bool.true_and, h0]
      rfl
    · cases hc
  have h1 : ((b.length : Int) == ((allBars t s).length : Int)) = true := by
    have := h
    rwa [Bool.not_eq_false'] at this
  have h1 : b.length = t.length := by
    have : (b.length : Int) = ((allBars t s).length : Int) := by simpa using h1
    omega
  clear h
  refine vbr (fun h => ?_) (fun h => ?_) <;> simp only [List.replicate, List.set, List.map, List.any, List.append, Op.operands, dif_pos, gA, Call.operands, gB, gC, gD, gE, gF, gG, Nat.reduceMul, reduceCtorEq, Nat.reduceBEq, Nat.reduceAdd, Nat.reduceLT, Nat.reduceLeDiff, Nat.reduceSub, Nat.reduceEqDiff, bq, tgs, vq]
  case refine_2 =>
    have h : ((m.length : Int) == ((memTo s s.length).length : Int)) = false := (Bool.not_eq_true' _).mp h
    rw [hml] at h
    refine hK _ ?_
    clear hK K
    try refine vthen_n ?_
    repeat refine VW.seq ?_
    refine VW.cond rfl (fun hc => ?_) (fun hc => ?_)
    · repeat refine VW.seq ?_
      refine VW.regl hT fun K hK => ?_
      simp only [List.replicate, List.set, List.map, List.any, List.append, Op.operands, dif_pos, gA, Call.operands, gB, gC, gD, gE, gF, gG, Nat.reduceMul, reduceCtorEq, Nat.reduceBEq, Nat.reduceAdd, Nat.reduceLT, Nat.reduceLeDiff, Nat.reduceSub, Nat.reduceEqDiff, bq, tgs, vq]
      refine hK _ ?_
      clear hK K
      try refine vthen_n ?_
      refine VW.ret ⟨.inl rfl, _, rfl, ?_⟩
      rw [fabOk, hn, Bool.true_and, h, Bool.false_and, Bool.and_false]
    · cases hc
  have h2 : ((m.length : Int) == ((memTo s s.length).length : Int)) = true := by
    have := h
    rwa [Bool.not_eq_false'] at this
  rw [hml] at h2
  clear h
  refine vcall_of (specGuard_vc t g hla) ?_
  simp only [List.replicate, List.set, List.map, List.any, List.append, Op.operands, dif_pos, gA, Call.operands, gB, gC, gD, gE, gF, gG, Nat.reduceMul, reduceCtorEq, Nat.reduceBEq, Nat.reduceAdd, Nat.reduceLT, Nat.reduceLeDiff, Nat.reduceSub, Nat.reduceEqDiff, bq, tgs, vq]
  refine hK _ ?_
  clear hK K
  try refine vthen_n ?_
  repeat refine VW.seq ?_
  refine VW.cond rfl (fun hc => ?_) (fun hc => ?_)
  · have h : guardOk t g = false := (Bool.not_eq_true' _).mp hc
    repeat refine VW.seq ?_
    refine VW.regl hT fun K hK => ?_
    simp only [List.replicate, List.set, List.map, List.any, List.append, Op.operands, dif_pos, gA, Call.operands, gB, gC, gD, gE, gF, gG, Nat.reduceMul, reduceCtorEq, Nat.reduceBEq, Nat.reduceAdd, Nat.reduceLT, Nat.reduceLeDiff, Nat.reduceSub, Nat.reduceEqDiff, bq, tgs, vq]
    refine hK _ ?_
    clear hK K
    try refine vthen_n ?_
    refine VW.ret ⟨.inl rfl, _, rfl, ?_⟩
    rw [fabOk, hn, h2, h, Bool.false_and, Bool.and_false, Bool.and_false]
    rfl
  have h3 : guardOk t g = true := by
    have := hc
    rwa [Bool.not_eq_false'] at this
  have hms : m.length = s.length := by
    have : (m.length : Int) = (s.length : Int) := by simpa using h2
    omega
  have hfin : fabOk (t, s, b, m, g) = (decide (allBars t s = b) && memOk m s) := by
    rw [fabOk, hn, Bool.true_and, h2, h3]
    rfl
  refine VW.skip (vthen_n ?_)
  repeat refine VW.seq ?_
  refine VW.regl hT fun K hK => ?_
  simp only [List.replicate, List.set, List.map, List.any, List.append, Op.operands, dif_pos, gA, Call.operands, gB, gC, gD, gE, gF, gG, Nat.reduceMul, reduceCtorEq, Nat.reduceBEq, Nat.reduceAdd, Nat.reduceLT, Nat.reduceLeDiff, Nat.reduceSub, Nat.reduceEqDiff, bq, tgs, vq]
  refine hK _ ?_
  clear hK K
  try refine vthen_n ?_
  repeat refine VW.seq ?_
  refine VW.block ?_
  refine VW.loop (α := Nat) [(1, none), (3, none), (5, none)] (fun i => [D, .root (.box 32) sFi .fz (t, s, b, m, g), D, .root (.box 32) sFi fFab (newFab t s), D, .v false (.int .i64) ((i : Nat)), D, D, D, D, D, D, D, D, D, D, D, D, D, D, D, D, D, D, D, D, D, D, D, D, D, D, D, D, D, D, D, D, D, D, D, D, D, D, D, D, D, D, D, D, D, D, D, D, D, D, D, D, D, D, D, D, D, D, D, D, D, D, D, D, D, D, D, D, D, D, D, D, D, D, D, D, D]) (fun i => i ≤ t.length ∧ ∀ k, k < i → b.getD k zb = (allBars t s).getD k zb ∧ memBad m s k = false) (fun i => t.length - i) ⟨0, ⟨by omega, fun k h => by omega⟩, ?_⟩ fun i ⟨hi, hk⟩ => ?_
  · simp only [norm, homeOne, moveTo, keepS, keepGo, usesOut, List.foldl, ren, renC, List.replicate, List.set, List.map, List.any, List.append, Op.operands, dif_pos, gA, Call.operands, gB, gC, gD, gE, gF, gG, Nat.reduceMul, reduceCtorEq, Nat.reduceBEq, Nat.reduceAdd, Nat.reduceLT, Nat.reduceLeDiff, Nat.reduceSub, Nat.reduceEqDiff, bq, tgs, vq]
    rfl
  repeat refine VW.seq ?_
  refine VW.regl hT fun K hK => ?_
  simp only [List.replicate, List.set, List.map, List.any, List.append, Op.operands, dif_pos, gA, Call.operands, gB, gC, gD, gE, gF, gG, Nat.reduceMul, reduceCtorEq, Nat.reduceBEq, Nat.reduceAdd, Nat.reduceLT, Nat.reduceLeDiff, Nat.reduceSub, Nat.reduceEqDiff, bq, tgs, vq]
  refine hK _ ?_
  clear hK K
  try refine vthen_n ?_
  repeat refine VW.seq ?_
  refine VW.cond rfl (fun hc => ?_) (fun hc => ?_)
  · have hlt : i < t.length := by
      have : (i : Int) < ((allBars t s).length : Int) := of_decide_eq_true hc
      omega
    refine VW.skip (vthen_n ?_)
    repeat refine VW.seq ?_
    refine VW.block ?_
    repeat refine VW.seq ?_
    refine VW.drawl hT hm (by kernel_rfl) fun K hK => ?_
    simp only [List.replicate, List.set, List.map, List.any, List.append, Op.operands, dif_pos, gA, Call.operands, gB, gC, gD, gE, gF, gG, Nat.reduceMul, reduceCtorEq, Nat.reduceBEq, Nat.reduceAdd, Nat.reduceLT, Nat.reduceLeDiff, Nat.reduceSub, Nat.reduceEqDiff, bq, tgs, vq]
    refine ⟨by kernel_rfl, by kernel_rfl, decide_eq_true ⟨Int.natCast_nonneg _, by show (i : Int) < (b.length : Int); omega⟩, by kernel_rfl, by kernel_rfl, by kernel_rfl, decide_eq_true ⟨Int.natCast_nonneg _, by show (i : Int) < ((allBars t s).length : Int); omega⟩, by kernel_rfl, ?_⟩
    refine vbr (fun h => ?_) (fun h => ?_) <;> simp only [List.replicate, List.set, List.map, List.any, List.append, Op.operands, dif_pos, gA, Call.operands, gB, gC, gD, gE, gF, gG, Nat.reduceMul, reduceCtorEq, Nat.reduceBEq, Nat.reduceAdd, Nat.reduceLT, Nat.reduceLeDiff, Nat.reduceSub, Nat.reduceEqDiff, bq, tgs, vq]
    case refine_2 =>
      have h : (!eqv sBr (b.getD i zb) ((allBars t s).getD i zb)) = true := h
      have h0 : decide (allBars t s = b) = false := by
        rw [decide_eq_false_iff_not]
        rintro rfl
        rw [Bool.not_eq_true'] at h
        rw [(eqv_eq rfl).2 rfl] at h
        cases h
      refine hK _ ?_
      clear hK K
      try refine vthen_n ?_
      repeat refine VW.seq ?_
      refine VW.cond rfl (fun hc => ?_) (fun hc => ?_)
      · repeat refine VW.seq ?_
        refine VW.regl hT fun K hK => ?_
        simp only [List.replicate, List.set, List.map, List.any, List.append, Op.operands, dif_pos, gA, Call.operands, gB, gC, gD, gE, gF, gG, Nat.reduceMul, reduceCtorEq, Nat.reduceBEq, Nat.reduceAdd, Nat.reduceLT, Nat.reduceLeDiff, Nat.reduceSub, Nat.reduceEqDiff, bq, tgs, vq]
        refine hK _ ?_
        clear hK K
        try refine vthen_n ?_
        refine VW.ret ⟨.inl rfl, _, rfl, ?_⟩
        rw [hfin, h0, Bool.false_and]
      · cases hc
    have h : (!eqv sBr (b.getD i zb) ((allBars t s).getD i zb)) = false := h
    have hbi : b.getD i zb = (allBars t s).getD i zb := by
      rw [Bool.not_eq_false'] at h
      exact (eqv_eq rfl).1 h
    clear h
    refine ⟨by kernel_rfl, by kernel_rfl, decide_eq_true ⟨Int.natCast_nonneg _, by show (i : Int) < (m.length : Int); omega⟩, by kernel_rfl, by kernel_rfl, decide_eq_true ⟨Int.natCast_nonneg _, by show (i : Int) < (s.length : Int); omega⟩, ?_⟩
    refine vbr (fun h => ?_) (fun h => ?_) <;> simp only [List.replicate, List.set, List.map, List.any, List.append, Op.operands, dif_pos, gA, Call.operands, gB, gC, gD, gE, gF, gG, Nat.reduceMul, reduceCtorEq, Nat.reduceBEq, Nat.reduceAdd, Nat.reduceLT, Nat.reduceLeDiff, Nat.reduceSub, Nat.reduceEqDiff, bq, tgs, vq]
    case refine_2 =>
      have h : (!(((m.getD i []).length : Int) == s.getD i 0)) = true := h
      refine hK _ ?_
      clear hK K
      try refine vthen_n ?_
      repeat refine VW.seq ?_
      refine VW.cond rfl (fun hc => ?_) (fun hc => ?_)
      · repeat refine VW.seq ?_
        refine VW.regl hT fun K hK => ?_
        simp only [List.replicate, List.set, List.map, List.any, List.append, Op.operands, dif_pos, gA, Call.operands, gB, gC, gD, gE, gF, gG, Nat.reduceMul, reduceCtorEq, Nat.reduceBEq, Nat.reduceAdd, Nat.reduceLT, Nat.reduceLeDiff, Nat.reduceSub, Nat.reduceEqDiff, bq, tgs, vq]
        refine hK _ ?_
        clear hK K
        try refine vthen_n ?_
        refine VW.ret ⟨.inl rfl, _, rfl, ?_⟩
        rw [hfin, memOk_false (k := i) (by omega) (by rw [memBad, h]; rfl), Bool.and_false]
      · cases hc
    have h : (!(((m.getD i []).length : Int) == s.getD i 0)) = false := h
    refine ⟨by kernel_rfl, by kernel_rfl, decide_eq_true ⟨Int.natCast_nonneg _, by show (i : Int) < (m.length : Int); omega⟩, ?_⟩
    refine vcallD_of (specWords_vc _ (hle i)) ?_
    simp only [List.replicate, List.set, List.map, List.any, List.append, Op.operands, dif_pos, gA, Call.operands, gB, gC, gD, gE, gF, gG, Nat.reduceMul, reduceCtorEq, Nat.reduceBEq, Nat.reduceAdd, Nat.reduceLT, Nat.reduceLeDiff, Nat.reduceSub, Nat.reduceEqDiff, bq, tgs, vq]
    refine hK _ ?_
    clear hK K
    try refine vthen_n ?_
    repeat refine VW.seq ?_
    refine VW.cond rfl (fun hc => ?_) (fun hc => ?_)
    · have hc : (!words (m.getD i [])) = true := hc
      repeat refine VW.seq ?_
      refine VW.regl hT fun K hK => ?_
      simp only [List.replicate, List.set, List.map, List.any, List.append, Op.operands, dif_pos, gA, Call.operands, gB, gC, gD, gE, gF, gG, Nat.reduceMul, reduceCtorEq, Nat.reduceBEq, Nat.reduceAdd, Nat.reduceLT, Nat.reduceLeDiff, Nat.reduceSub, Nat.reduceEqDiff, bq, tgs, vq]
      refine hK _ ?_
      clear hK K
      try refine vthen_n ?_
      refine VW.ret ⟨.inl rfl, _, rfl, ?_⟩
      rw [hfin, memOk_false (k := i) (by omega) (by rw [memBad, h, hc]; rfl), Bool.and_false]
    · have hc : (!words (m.getD i [])) = false := hc
      refine VW.skip ?_
      show vthen _ _ _ .normal _
      refine vthen_n ?_
      repeat refine VW.seq ?_
      refine VW.regl hT fun K hK => ?_
      simp only [List.replicate, List.set, List.map, List.any, List.append, Op.operands, dif_pos, gA, Call.operands, gB, gC, gD, gE, gF, gG, Nat.reduceMul, reduceCtorEq, Nat.reduceBEq, Nat.reduceAdd, Nat.reduceLT, Nat.reduceLeDiff, Nat.reduceSub, Nat.reduceEqDiff, bq, tgs, vq]
      refine hK _ ?_
      clear hK K
      try refine vthen_n ?_
      refine ⟨i + 1, ⟨hlt, fun k h4 => ?_⟩, ?_, by show t.length - (i + 1) < t.length - i; omega⟩
      · rcases Nat.lt_or_ge k i with h5 | h5
        · exact hk k h5
        · obtain rfl : k = i := by omega
          refine ⟨hbi, ?_⟩
          rw [memBad, h, hc]
          rfl
      simp only [norm, homeOne, moveTo, keepS, keepGo, usesOut, List.foldl, ren, renC, List.replicate, List.set, List.map, List.any, List.append, Op.operands, dif_pos, gA, Call.operands, gB, gC, gD, gE, gF, gG, Nat.reduceMul, reduceCtorEq, Nat.reduceBEq, Nat.reduceAdd, Nat.reduceLT, Nat.reduceLeDiff, Nat.reduceSub, Nat.reduceEqDiff, bq, tgs, vq]
      rw [wrap64 (by omega) (by omega)]
      rfl
  · have hge : i = t.length := by
      have : ¬ (i : Int) < ((allBars t s).length : Int) := of_decide_eq_false hc
      omega
    subst hge
    refine VW.exit ?_
    show vthen _ _ _ .normal _
    refine vthen_n ?_
    repeat refine VW.seq ?_
    refine VW.regl hT fun K hK => ?_
    simp only [List.replicate, List.set, List.map, List.any, List.append, Op.operands, dif_pos, gA, Call.operands, gB, gC, gD, gE, gF, gG, Nat.reduceMul, reduceCtorEq, Nat.reduceBEq, Nat.reduceAdd, Nat.reduceLT, Nat.reduceLeDiff, Nat.reduceSub, Nat.reduceEqDiff, bq, tgs, vq]
    refine hK _ ?_
    clear hK K
    try refine vthen_n ?_
    refine VW.ret ⟨.inl rfl, _, rfl, ?_⟩
    have hbe : allBars t s = b := (row_eq zb (by omega) fun k h => (hk k (by omega)).1).symm
    rw [hfin, decide_eq_true hbe, memOk_true fun k h => (hk k (by omega)).2]
    rfl
end Go.Proofs.Ytmechjnfeidnkaa.V.W

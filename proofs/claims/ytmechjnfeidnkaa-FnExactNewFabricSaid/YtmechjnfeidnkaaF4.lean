/- windowSize, l24Window walked. No condition. -/
import Derived.Test.YtmechjnfeidnkaaF3
set_option linter.unusedVariables false
set_option linter.unnecessarySimpa false
set_option linter.unusedSimpArgs false
namespace Go.Proofs.Ytmechjnfeidnkaa.V.W
open Go Go.RowKit
theorem getD_mem {xs : List Int} {i : Nat} (h : i < xs.length) : xs.getD i 0 ∈ xs := by
  rw [List.getD_eq_getElem?_getD, List.getElem?_eq_getElem h]
  exact List.getElem_mem h
set_option maxRecDepth 20000 in
theorem win_vc {t : List Nd} {s : List Int} (hs : sizesOk t s = true) : ∀ (f k : Nat), t.length - k ≤ f → k < t.length → VC Try.prog 74 [.v false sNS t, .v false sI s, .v false (.int .i64) ((k : Nat))] (· = .v false (.int .i64) ((win t s k : Nat)))
  := by
  intro f
  induction f with
  | zero =>
    intro k hf hk
    omega
  | succ f ih =>
    intro k hf hk
    have hok := (sizesOk_iff.1 hs).1
    have hsl := (sizesOk_iff.1 hs).2.1
    have htl := treeOk_len hok
    have hwin := win_eq hok s hk
    have hlim := ksum_lim hs hk
    have hperm := children_perm hok hk
    have hcl : (children t k).length ≤ 12 := by
      rw [hperm.length_eq]
      have := kids_len t k t.length
      omega
    have hsum : wsum (win t s) (children t k) = ksum t s k := wsum_perm hperm
    refine VC.of_body hT Try.func74 rfl (by kernel_rfl) [(.tmp 6, false, .int .i64)] (by kernel_rfl) ?_
    show VW _ _ ([.v false sNS t, .v false sI s, .v false (.int .i64) ((k : Nat)), D, D, D, D, D, D, D, D, D, D, D, D, D, D, D, D, D, D, D, D, D, D, D, D, D, D, D, D, D, D, D, D, D, D, D, D, D, D, D]) _
    repeat refine VW.seq ?_
    refine VW.regl hT fun K hK => ?_
    simp only [List.replicate, List.set, List.map, List.any, List.append, Op.operands, dif_pos, gA, Call.operands, gB, gC, gD, gE, gF, gG, Nat.reduceMul, reduceCtorEq, Nat.reduceBEq, Nat.reduceAdd, Nat.reduceLT, Nat.reduceLeDiff, Nat.reduceSub, Nat.reduceEqDiff, bq, tgs, vq]
    refine hK _ ?_
    clear hK K
    try refine vthen_n ?_
    repeat refine VW.seq ?_
    refine VW.regl hT fun K hK => ?_
    simp only [List.replicate, List.set, List.map, List.any, List.append, Op.operands, dif_pos, gA, Call.operands, gB, gC, gD, gE, gF, gG, Nat.reduceMul, reduceCtorEq, Nat.reduceBEq, Nat.reduceAdd, Nat.reduceLT, Nat.reduceLeDiff, Nat.reduceSub, Nat.reduceEqDiff, bq, tgs, vq]
    refine vcall_of (isBridge_vc t k (by omega) (by omega)) ?_
    simp only [List.replicate, List.set, List.map, List.any, List.append, Op.operands, dif_pos, gA, Call.operands, gB, gC, gD, gE, gF, gG, Nat.reduceMul, reduceCtorEq, Nat.reduceBEq, Nat.reduceAdd, Nat.reduceLT, Nat.reduceLeDiff, Nat.reduceSub, Nat.reduceEqDiff, bq, tgs, vq]
    refine hK _ ?_
    clear hK K
    try refine vthen_n ?_
    repeat refine VW.seq ?_
    refine VW.cond rfl (fun hc => ?_) (fun hc => ?_)
    · repeat refine VW.seq ?_
      refine VW.regl hT fun K hK => ?_
      simp only [List.replicate, List.set, List.map, List.any, List.append, Op.operands, dif_pos, gA, Call.operands, gB, gC, gD, gE, gF, gG, Nat.reduceMul, reduceCtorEq, Nat.reduceBEq, Nat.reduceAdd, Nat.reduceLT, Nat.reduceLeDiff, Nat.reduceSub, Nat.reduceEqDiff, bq, tgs, vq]
      refine ⟨decide_eq_true ⟨Int.natCast_nonneg _, by show (k : Int) < (s.length : Int); omega⟩, ?_⟩
      refine hK _ ?_
      clear hK K
      try refine vthen_n ?_
      refine VW.ret ⟨.inl rfl, _, rfl, ?_⟩
      have hc : ((t.getD k z).2.2 == 0) = false := (Bool.not_eq_true' _).mp hc
      have hc : (t.getD k z).2.2 ≠ 0 := by simpa using hc
      have : s.getD k 0 = ((s.getD k 0).toNat : Int) := by
        rcases sizes_node hs hk with h | ⟨h, _⟩
        · rw [h]; rfl
        · have := pw_in h
          omega
      rw [hwin, if_neg hc, ← this]
    have hb : (t.getD k z).2.2 = 0 := by
      have hc : ((t.getD k z).2.2 == 0) = true := by
        have := hc
        rwa [Bool.not_eq_false'] at this
      simpa using hc
    rw [if_pos hb] at hwin
    rw [hwin]
    generalize hL : children t k = L at *
    refine VW.skip (vthen_n ?_)
    repeat refine VW.seq ?_
    refine VW.regl hT fun K hK => ?_
    simp only [List.replicate, List.set, List.map, List.any, List.append, Op.operands, dif_pos, gA, Call.operands, gB, gC, gD, gE, gF, gG, Nat.reduceMul, reduceCtorEq, Nat.reduceBEq, Nat.reduceAdd, Nat.reduceLT, Nat.reduceLeDiff, Nat.reduceSub, Nat.reduceEqDiff, bq, tgs, vq]
    refine hK _ ?_
    clear hK K
    try refine vthen_n ?_
    repeat refine VW.seq ?_
    refine VW.regl hT fun K hK => ?_
    simp only [List.replicate, List.set, List.map, List.any, List.append, Op.operands, dif_pos, gA, Call.operands, gB, gC, gD, gE, gF, gG, Nat.reduceMul, reduceCtorEq, Nat.reduceBEq, Nat.reduceAdd, Nat.reduceLT, Nat.reduceLeDiff, Nat.reduceSub, Nat.reduceEqDiff, bq, tgs, vq]
    refine vcall_of (children_vc t k (by omega)) ?_
    rw [hL]
    simp only [List.replicate, List.set, List.map, List.any, List.append, Op.operands, dif_pos, gA, Call.operands, gB, gC, gD, gE, gF, gG, Nat.reduceMul, reduceCtorEq, Nat.reduceBEq, Nat.reduceAdd, Nat.reduceLT, Nat.reduceLeDiff, Nat.reduceSub, Nat.reduceEqDiff, bq, tgs, vq]
    refine hK _ ?_
    clear hK K
    try refine vthen_n ?_
    repeat refine VW.seq ?_
    refine VW.block ?_
    refine VW.loop (α := Nat) [(0, none), (1, none), (7, none), (21, none), (22, none), (23, none)] (fun i => [.v false sNS t, .v false sI s, D, D, D, D, D, .v false (.int .i64) ((wsum (win t s) (L.take i) : Nat)), D, D, D, D, D, D, D, D, D, D, D, D, D, .root (.val false) sI .own L, .v false (.int .i64) ((L.length : Nat)), .v false (.int .i64) ((i : Nat)), D, D, D, D, D, D, D, D, D, D, D, D, D, D, D, D, D, D]) (fun i => i ≤ L.length) (fun i => L.length - i) ⟨0, by omega, ?_⟩ fun i hi => ?_
    · simp only [norm, homeOne, moveTo, keepS, keepGo, usesOut, List.foldl, ren, renC, List.replicate, List.set, List.map, List.any, List.append, Op.operands, dif_pos, gA, Call.operands, gB, gC, gD, gE, gF, gG, Nat.reduceMul, reduceCtorEq, Nat.reduceBEq, Nat.reduceAdd, Nat.reduceLT, Nat.reduceLeDiff, Nat.reduceSub, Nat.reduceEqDiff, bq, tgs, vq]
      rfl
    repeat refine VW.seq ?_
    refine VW.regl hT fun K hK => ?_
    simp only [List.replicate, List.set, List.map, List.any, List.append, Op.operands, dif_pos, gA, Call.operands, gB, gC, gD, gE, gF, gG, Nat.reduceMul, reduceCtorEq, Nat.reduceBEq, Nat.reduceAdd, Nat.reduceLT, Nat.reduceLeDiff, Nat.reduceSub, Nat.reduceEqDiff, bq, tgs, vq]
    refine hK _ ?_
    clear hK K
    try refine vthen_n ?_
    repeat refine VW.seq ?_
    refine VW.cond rfl (fun hc => ?_) (fun hc => ?_)
    · have hlt : i < L.length := by simpa using hc
      obtain ⟨j, hj, h1, h2, h3, h4⟩ := kids_pos hok (hperm.mem_iff.1 (getD_mem hlt))
      have hle := wsum_le (win t s) L (i + 1)
      have htk := wsum_take (win t s) hlt
      rw [hj, Int.toNat_natCast] at htk
      refine VW.skip (vthen_n ?_)
      repeat refine VW.seq ?_
      refine VW.block ?_
      repeat refine VW.seq ?_
      refine VW.regl hT fun K hK => ?_
      simp only [List.replicate, List.set, List.map, List.any, List.append, Op.operands, dif_pos, gA, Call.operands, gB, gC, gD, gE, gF, gG, Nat.reduceMul, reduceCtorEq, Nat.reduceBEq, Nat.reduceAdd, Nat.reduceLT, Nat.reduceLeDiff, Nat.reduceSub, Nat.reduceEqDiff, bq, tgs, vq]
      refine ⟨decide_eq_true ⟨Int.natCast_nonneg _, by show (i : Int) < (L.length : Int); omega⟩, ?_⟩
      refine hK _ ?_
      clear hK K
      try refine vthen_n ?_
      repeat refine VW.seq ?_
      refine VW.regl hT fun K hK => ?_
      simp only [List.replicate, List.set, List.map, List.any, List.append, Op.operands, dif_pos, gA, Call.operands, gB, gC, gD, gE, gF, gG, Nat.reduceMul, reduceCtorEq, Nat.reduceBEq, Nat.reduceAdd, Nat.reduceLT, Nat.reduceLeDiff, Nat.reduceSub, Nat.reduceEqDiff, bq, tgs, vq]
      rw [show L.getD i 0 = (j : Int) from hj]
      refine vcall_of (ih j (by omega) h2) ?_
      simp only [List.replicate, List.set, List.map, List.any, List.append, Op.operands, dif_pos, gA, Call.operands, gB, gC, gD, gE, gF, gG, Nat.reduceMul, reduceCtorEq, Nat.reduceBEq, Nat.reduceAdd, Nat.reduceLT, Nat.reduceLeDiff, Nat.reduceSub, Nat.reduceEqDiff, bq, tgs, vq]
      refine hK _ ?_
      clear hK K
      try refine vthen_n ?_
      repeat refine VW.seq ?_
      refine VW.regl hT fun K hK => ?_
      simp only [List.replicate, List.set, List.map, List.any, List.append, Op.operands, dif_pos, gA, Call.operands, gB, gC, gD, gE, gF, gG, Nat.reduceMul, reduceCtorEq, Nat.reduceBEq, Nat.reduceAdd, Nat.reduceLT, Nat.reduceLeDiff, Nat.reduceSub, Nat.reduceEqDiff, bq, tgs, vq]
      refine hK _ ?_
      clear hK K
      try refine vthen_n ?_
      refine ⟨i + 1, hlt, ?_, by show L.length - (i + 1) < L.length - i; omega⟩
      simp only [norm, homeOne, moveTo, keepS, keepGo, usesOut, List.foldl, ren, renC, List.replicate, List.set, List.map, List.any, List.append, Op.operands, dif_pos, gA, Call.operands, gB, gC, gD, gE, gF, gG, Nat.reduceMul, reduceCtorEq, Nat.reduceBEq, Nat.reduceAdd, Nat.reduceLT, Nat.reduceLeDiff, Nat.reduceSub, Nat.reduceEqDiff, bq, tgs, vq]
      rw [wrap64 (by omega) (by omega), wrap64 (by omega) (by omega), htk]
      rfl
    · have hge : i = L.length := by
        have : L.length ≤ i := by simpa using hc
        omega
      subst hge
      refine VW.exit ?_
      show vthen _ _ _ .normal _
      refine vthen_n ?_
      rw [List.take_length, hsum]
      generalize ksum t s k = S at *
      repeat refine VW.seq ?_
      refine VW.regl hT fun K hK => ?_
      simp only [List.replicate, List.set, List.map, List.any, List.append, Op.operands, dif_pos, gA, Call.operands, gB, gC, gD, gE, gF, gG, Nat.reduceMul, reduceCtorEq, Nat.reduceBEq, Nat.reduceAdd, Nat.reduceLT, Nat.reduceLeDiff, Nat.reduceSub, Nat.reduceEqDiff, bq, tgs, vq]
      refine hK _ ?_
      clear hK K
      try refine vthen_n ?_
      repeat refine VW.seq ?_
      refine VW.cond rfl (fun hc => ?_) (fun hc => ?_)
      · repeat refine VW.seq ?_
        refine VW.regl hT fun K hK => ?_
        simp only [List.replicate, List.set, List.map, List.any, List.append, Op.operands, dif_pos, gA, Call.operands, gB, gC, gD, gE, gF, gG, Nat.reduceMul, reduceCtorEq, Nat.reduceBEq, Nat.reduceAdd, Nat.reduceLT, Nat.reduceLeDiff, Nat.reduceSub, Nat.reduceEqDiff, bq, tgs, vq]
        refine hK _ ?_
        clear hK K
        try refine vthen_n ?_
        refine VW.ret ⟨.inl rfl, _, rfl, ?_⟩
        have : S = 0 := by
          have : (S : Int) = 0 := by simpa using hc
          omega
        rw [this]
        rfl
      have hS : 1 ≤ S := by
        have : ¬ (S : Int) = 0 := by simpa using hc
        omega
      refine VW.skip (vthen_n ?_)
      repeat refine VW.seq ?_
      refine VW.regl hT fun K hK => ?_
      simp only [List.replicate, List.set, List.map, List.any, List.append, Op.operands, dif_pos, gA, Call.operands, gB, gC, gD, gE, gF, gG, Nat.reduceMul, reduceCtorEq, Nat.reduceBEq, Nat.reduceAdd, Nat.reduceLT, Nat.reduceLeDiff, Nat.reduceSub, Nat.reduceEqDiff, bq, tgs, vq]
      refine hK _ ?_
      clear hK K
      try refine vthen_n ?_
      repeat refine VW.seq ?_
      refine VW.block ?_
      refine VW.loop (α := Nat) [(7, none), (10, none)] (fun i => [D, D, D, D, D, D, D, .v false (.int .i64) ((S : Nat)), D, D, .v false (.int .i64) ((2 ^ i : Nat)), D, D, D, D, D, D, D, D, D, D, D, D, D, D, D, D, D, D, D, D, D, D, D, D, D, D, D, D, D, D, D]) (fun i => i = 0 ∨ 2 ^ (i - 1) < S) (fun i => 2 * S - 2 ^ i) ⟨0, .inl rfl, ?_⟩ fun i hi => ?_
      · simp only [norm, homeOne, moveTo, keepS, keepGo, usesOut, List.foldl, ren, renC, List.replicate, List.set, List.map, List.any, List.append, Op.operands, dif_pos, gA, Call.operands, gB, gC, gD, gE, gF, gG, Nat.reduceMul, reduceCtorEq, Nat.reduceBEq, Nat.reduceAdd, Nat.reduceLT, Nat.reduceLeDiff, Nat.reduceSub, Nat.reduceEqDiff, bq, tgs, vq]
        rfl
      have h2i : 2 ^ i ≤ 2 * S := by
        rcases hi with rfl | hi
        · simp; omega
        · cases i with
          | zero => simp; omega
          | succ i =>
            simp only [Nat.add_sub_cancel] at hi
            rw [Nat.pow_succ]
            omega
      repeat refine VW.seq ?_
      refine VW.regl hT fun K hK => ?_
      simp only [List.replicate, List.set, List.map, List.any, List.append, Op.operands, dif_pos, gA, Call.operands, gB, gC, gD, gE, gF, gG, Nat.reduceMul, reduceCtorEq, Nat.reduceBEq, Nat.reduceAdd, Nat.reduceLT, Nat.reduceLeDiff, Nat.reduceSub, Nat.reduceEqDiff, bq, tgs, vq]
      refine hK _ ?_
      clear hK K
      try refine vthen_n ?_
      repeat refine VW.seq ?_
      refine VW.cond rfl (fun hc => ?_) (fun hc => ?_)
      · have hlt : 2 ^ i < S := by
          have : ((2 ^ i : Nat) : Int) < (S : Int) := of_decide_eq_true hc
          omega
        have hps : 2 ^ (i + 1) = 2 ^ i * 2 := Nat.pow_succ ..
        refine VW.skip (vthen_n ?_)
        repeat refine VW.seq ?_
        refine VW.block ?_
        repeat refine VW.seq ?_
        refine VW.regl hT fun K hK => ?_
        simp only [List.replicate, List.set, List.map, List.any, List.append, Op.operands, dif_pos, gA, Call.operands, gB, gC, gD, gE, gF, gG, Nat.reduceMul, reduceCtorEq, Nat.reduceBEq, Nat.reduceAdd, Nat.reduceLT, Nat.reduceLeDiff, Nat.reduceSub, Nat.reduceEqDiff, bq, tgs, vq]
        refine hK _ ?_
        clear hK K
        try refine vthen_n ?_
        refine ⟨i + 1, .inr (by simpa using hlt), ?_, by show 2 * S - 2 ^ (i + 1) < 2 * S - 2 ^ i; have := Nat.two_pow_pos i; omega⟩
        simp only [norm, homeOne, moveTo, keepS, keepGo, usesOut, List.foldl, ren, renC, List.replicate, List.set, List.map, List.any, List.append, Op.operands, dif_pos, gA, Call.operands, gB, gC, gD, gE, gF, gG, Nat.reduceMul, reduceCtorEq, Nat.reduceBEq, Nat.reduceAdd, Nat.reduceLT, Nat.reduceLeDiff, Nat.reduceSub, Nat.reduceEqDiff, bq, tgs, vq]
        rw [hps]
        generalize 2 ^ i = P at *
        rw [wrap64 (by omega) (by omega)]
        rfl
      · have hge : S ≤ 2 ^ i := by
          have : ¬ ((2 ^ i : Nat) : Int) < (S : Int) := of_decide_eq_false hc
          omega
        refine VW.exit ?_
        show vthen _ _ _ .normal _
        refine vthen_n ?_
        repeat refine VW.seq ?_
        refine VW.regl hT fun K hK => ?_
        simp only [List.replicate, List.set, List.map, List.any, List.append, Op.operands, dif_pos, gA, Call.operands, gB, gC, gD, gE, gF, gG, Nat.reduceMul, reduceCtorEq, Nat.reduceBEq, Nat.reduceAdd, Nat.reduceLT, Nat.reduceLeDiff, Nat.reduceSub, Nat.reduceEqDiff, bq, tgs, vq]
        refine hK _ ?_
        clear hK K
        try refine vthen_n ?_
        refine VW.ret ⟨.inl rfl, _, rfl, ?_⟩
        rw [up_eq hS hge hi]
end Go.Proofs.Ytmechjnfeidnkaa.V.W

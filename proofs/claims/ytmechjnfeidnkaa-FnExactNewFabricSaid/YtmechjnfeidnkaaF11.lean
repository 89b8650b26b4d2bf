/- spec.l24Place walked. No condition. -/
import Derived.Test.YtmechjnfeidnkaaF10
set_option linter.unusedVariables false
set_option linter.unnecessarySimpa false
set_option linter.unusedSimpArgs false
namespace Go.Proofs.Ytmechjnfeidnkaa.V.W
open Go Go.RowKit
/-- the sizes, from the greatest down to nothing -/
def sz : Nat → Nat
  | 0 => 0
  | m + 1 => 2 ^ m
def atP (t : List Nd) (s : List Int) (k size i : Nat) : Nat := pos t s k + atS t s k size i
theorem atS_step {t : List Nd} {s : List Int} (hs : sizesOk t s = true) {k : Nat} : ∀ m : Nat, atS t s k (sz (m + 1)) t.length = atS t s k (sz m) 1
  | m + 1 => atS_next hs m
  | 0 => by
    unfold atS
    congr 1
    refine List.filter_congr fun a ha => ?_
    obtain ⟨j, rfl, h1, h2, h3, h4⟩ := kids_pos (sizesOk_iff.1 hs).1 ha
    rw [decide_eq_decide, Int.toNat_natCast]
    simp only [sz]
    omega
theorem dS_step {t : List Nd} {s : List Int} (hs : sizesOk t s = true) {k : Nat} {A : Nat → Bool} (m : Nat) : bars t s (dS t s k A (sz (m + 1)) t.length) = bars t s (dS t s k A (sz m) 1) := by
  refine bars_same t s fun i h1 h2 h3 => ?_
  have h4 : (decide (sz (m + 1) < win t s i) || (win t s i == sz (m + 1) && decide (i < t.length))) = (decide (sz m < win t s i) || (win t s i == sz m && decide (i < 1))) := by
    rw [Bool.eq_iff_iff]
    simp only [Bool.or_eq_true, Bool.and_eq_true, decide_eq_true_eq, beq_iff_eq]
    cases m with
    | zero => simp only [sz]; omega
    | succ m =>
      have := pow_lt_half (e := m) (win_pow hs h1)
      simp only [sz]
      omega
  unfold dS
  rw [h4]
theorem dS_first {t : List Nd} {s : List Int} {k : Nat} {A : Nat → Bool} (h : ∀ j, j < t.length → win t s j ≤ 65536) : bars t s A = bars t s (dS t s k A (sz 17) 1) := by
  refine bars_same t s fun i h1 h2 h3 => ?_
  have h4 : (decide (sz 17 < win t s i) || (win t s i == sz 17 && decide (i < 1))) = false := by
    have := h i h1
    rw [show sz 17 = 65536 from rfl, Bool.eq_false_iff]
    simp only [ne_eq, Bool.or_eq_true, Bool.and_eq_true, decide_eq_true_eq, beq_iff_eq]
    omega
  unfold dS
  rw [h4, Bool.and_false, Bool.or_false]
theorem fuel_step {n k i f : Nat} (h : n - k ≤ f + 1) (h2 : k < i) (h3 : i < n) : n - i ≤ f := by omega
theorem half_sz (m : Nat) (h : sz (m + 1) ≤ 65536) : IntKind.i64.wrap (Int.tdiv ((sz (m + 1) : Nat) : Int) 2) = ((sz m : Nat) : Int) := by
  cases m with
  | zero => rfl
  | succ m =>
    have h0 : (2 ^ m : Nat) * 2 = 2 ^ (m + 1) := (Nat.pow_succ ..).symm
    show IntKind.i64.wrap (Int.tdiv ((2 ^ (m + 1) : Nat) : Int) 2) = ((2 ^ m : Nat) : Int)
    have h1 : Int.tdiv ((2 ^ (m + 1) : Nat) : Int) 2 = ((2 ^ m : Nat) : Int) := by
      rw [← h0, Int.natCast_mul]
      exact Int.mul_tdiv_cancel _ (by decide)
    rw [h1]
    have h2 : sz (m + 1 + 1) ≤ 65536 := h
    have h2 : 2 ^ (m + 1) ≤ 65536 := h2
    generalize (2 ^ m : Nat) = P at *
    exact wrap64 (by omega) (by omega)
set_option maxRecDepth 20000 in
theorem place_vx {t : List Nd} {s : List Int} (hs : sizesOk t s = true) (h65 : win t s 0 ≤ 65536) : ∀ (f k : Nat) (A : Nat → Bool), t.length - k ≤ f → k < t.length → (A k = true ∨ k = 0 ∨ win t s k = 0) →
    VX Try.prog 104 [.v false sNS t, .root (.val false) sBS .own (bars t s A), .v false (.int .i64) ((k : Nat))] 1 (fun pv ot => pv = nil0 ∧ ∃ bs : List (Int × Int), (∃ E : Nat → Bool, bs = bars t s E ∧ (∀ j, A j = true → E j = true) ∧ ∀ j, Bel t k j → win t s j ≠ 0 → E j = true) ∧ ot = .root (.val false) sBS .own bs)
  := by
  intro f
  induction f with
  | zero =>
    intro k A hf hk hA
    omega
  | succ f ih =>
    intro k A hf hk hA
    have hok := (sizesOk_iff.1 hs).1
    have htl := treeOk_len hok
    have hbl := bars_len t s A
    have hpb := fun j (h : j < t.length) => pos_bd hok s j j (Nat.le_refl _) h
    have hw65 : ∀ j, j < t.length → win t s j ≤ 65536 := fun j h => by have := hpb j h; omega
    have hpk := hpb k hk
    refine VX.of_rows hT Try.func104 rfl (by kernel_rfl) [] (by kernel_rfl) rfl rfl (by show 0 < (bars t s A).length; omega) fun l fi li e1 e2 => ?_
    obtain ⟨n, cp, rfl, rfl⟩ := io1 e1 e2
    show VW _ _ ([.v false sNS t, .root (.val false) sBS (.io n cp) (bars t s A), .v false (.int .i64) ((k : Nat)), D, D, D, D, D, D, D, D, D, D, D, D, D, D, D, D, D, D, D, D, D, D, D, D, D, D, D, D, D, D, D, D, D, D, D, D, D, D, D, D, D, D, D, D, D, D, D, D, D, D, D, D, D, D, D, D, D, D, D, D, D, D, D, D, D, D, D, D, D, D, D, D, D, D, D, D, D, D, D]) _
    have hbk : (bars t s A).getD k zb = ((win t s k : Int), (pos t s k : Int)) := by
      rw [bars_get _ _ _ hk]
      rcases hA with h | rfl | h
      · rw [if_pos h]
      · rw [pos_root]; simp
      · rw [pos_zero h]; simp
    have hA0 : bars t s A = bars t s (dS t s k A (sz 17) 1) := dS_first hw65
    have hat0 : pos t s k = atP t s k (sz 17) 1 := by
      unfold atP
      rw [atS_first hok (m := sz 17) (fun j h => hw65 j h)]
      rfl
    have hatl : ∀ size i, atP t s k size i ≤ 2200000000 := fun size i => by
      have h1 := atS_le t s k size i
      have h2 := ksum_lim hs hk
      unfold atP
      omega
    repeat refine VW.seq ?_
    refine VW.regl hT fun K hK => ?_
    simp only [List.replicate, List.set, List.map, List.any, List.append, Op.operands, dif_pos, gA, Call.operands, gB, gC, gD, gE, gF, gG, Nat.reduceMul, reduceCtorEq, Nat.reduceBEq, Nat.reduceAdd, Nat.reduceLT, Nat.reduceLeDiff, Nat.reduceSub, Nat.reduceEqDiff, bq, tgs, vq]
    refine ⟨decide_eq_true ⟨Int.natCast_nonneg _, by show (k : Int) < ((bars t s A).length : Int); omega⟩, ?_⟩
    rw [hbk]
    refine hK _ ?_
    clear hK K
    try refine vthen_n ?_
    repeat refine VW.seq ?_
    refine VW.regl hT fun K hK => ?_
    simp only [List.replicate, List.set, List.map, List.any, List.append, Op.operands, dif_pos, gA, Call.operands, gB, gC, gD, gE, gF, gG, Nat.reduceMul, reduceCtorEq, Nat.reduceBEq, Nat.reduceAdd, Nat.reduceLT, Nat.reduceLeDiff, Nat.reduceSub, Nat.reduceEqDiff, bq, tgs, vq]
    refine hK _ ?_
    clear hK K
    try refine vthen_n ?_
    repeat refine VW.seq ?_
    refine VW.block ?_
    refine VW.loop (α := Nat) [(0, none), (1, none), (2, none), (6, none), (7, none)] (fun m => [.v false sNS t, .root (.val false) sBS (.io n cp) (bars t s (dS t s k A (sz m) 1)), .v false (.int .i64) ((k : Nat)), D, D, D, .v false (.int .i64) ((atP t s k (sz m) 1 : Nat)), .v false (.int .i64) ((sz m : Nat)), D, D, D, D, D, D, D, D, D, D, D, D, D, D, D, D, D, D, D, D, D, D, D, D, D, D, D, D, D, D, D, D, D, D, D, D, D, D, D, D, D, D, D, D, D, D, D, D, D, D, D, D, D, D, D, D, D, D, D, D, D, D, D, D, D, D, D, D, D, D, D, D, D, D]) (fun m => m ≤ 17) (fun m => m) ⟨17, by omega, ?_⟩ fun m hm1 => ?_
    · simp only [norm, homeOne, moveTo, keepS, keepGo, usesOut, List.foldl, ren, renC, List.replicate, List.set, List.map, List.any, List.append, Op.operands, dif_pos, gA, Call.operands, gB, gC, gD, gE, gF, gG, Nat.reduceMul, reduceCtorEq, Nat.reduceBEq, Nat.reduceAdd, Nat.reduceLT, Nat.reduceLeDiff, Nat.reduceSub, Nat.reduceEqDiff, bq, tgs, vq]
      rw [hA0, hat0]
      rfl
    repeat refine VW.seq ?_
    refine VW.regl hT fun K hK => ?_
    simp only [List.replicate, List.set, List.map, List.any, List.append, Op.operands, dif_pos, gA, Call.operands, gB, gC, gD, gE, gF, gG, Nat.reduceMul, reduceCtorEq, Nat.reduceBEq, Nat.reduceAdd, Nat.reduceLT, Nat.reduceLeDiff, Nat.reduceSub, Nat.reduceEqDiff, bq, tgs, vq]
    refine hK _ ?_
    clear hK K
    try refine vthen_n ?_
    repeat refine VW.seq ?_
    refine VW.cond rfl (fun hc => ?_) (fun hc => ?_)
    · obtain ⟨m, rfl⟩ : ∃ m', m = m' + 1 := by
        cases m with
        | zero =>
          have : ((sz 0 : Nat) : Int) > 0 := of_decide_eq_true hc
          exact absurd this (by decide)
        | succ m => exact ⟨m, rfl⟩
      have hsz : sz (m + 1) ≤ 65536 := Nat.pow_le_pow_right (n := 2) (by omega) (show m ≤ 16 by omega)
      have hS0 : 0 < sz (m + 1) := Nat.two_pow_pos m
      refine VW.skip (vthen_n ?_)
      repeat refine VW.seq ?_
      refine VW.block ?_
      repeat refine VW.seq ?_
      refine VW.regl hT fun K hK => ?_
      simp only [List.replicate, List.set, List.map, List.any, List.append, Op.operands, dif_pos, gA, Call.operands, gB, gC, gD, gE, gF, gG, Nat.reduceMul, reduceCtorEq, Nat.reduceBEq, Nat.reduceAdd, Nat.reduceLT, Nat.reduceLeDiff, Nat.reduceSub, Nat.reduceEqDiff, bq, tgs, vq]
      refine hK _ ?_
      clear hK K
      try refine vthen_n ?_
      repeat refine VW.seq ?_
      refine VW.block ?_
      refine VW.loop (α := Nat) [(0, none), (1, none), (2, none), (6, none), (7, none), (8, none)] (fun i => [.v false sNS t, .root (.val false) sBS (.io n cp) (bars t s (dS t s k A (sz (m + 1)) i)), .v false (.int .i64) ((k : Nat)), D, D, D, .v false (.int .i64) ((atP t s k (sz (m + 1)) i : Nat)), .v false (.int .i64) ((sz (m + 1) : Nat)), .v false (.int .i64) ((i : Nat)), D, D, D, D, D, D, D, D, D, D, D, D, D, D, D, D, D, D, D, D, D, D, D, D, D, D, D, D, D, D, D, D, D, D, D, D, D, D, D, D, D, D, D, D, D, D, D, D, D, D, D, D, D, D, D, D, D, D, D, D, D, D, D, D, D, D, D, D, D, D, D, D, D]) (fun i => 1 ≤ i ∧ i ≤ t.length) (fun i => t.length - i) ⟨1, ⟨by omega, by omega⟩, ?_⟩ fun i ⟨hi1, hi⟩ => ?_
      · simp only [norm, homeOne, moveTo, keepS, keepGo, usesOut, List.foldl, ren, renC, List.replicate, List.set, List.map, List.any, List.append, Op.operands, dif_pos, gA, Call.operands, gB, gC, gD, gE, gF, gG, Nat.reduceMul, reduceCtorEq, Nat.reduceBEq, Nat.reduceAdd, Nat.reduceLT, Nat.reduceLeDiff, Nat.reduceSub, Nat.reduceEqDiff, bq, tgs, vq]
        rfl
      repeat refine VW.seq ?_
      refine VW.regl hT fun K hK => ?_
      simp only [List.replicate, List.set, List.map, List.any, List.append, Op.operands, dif_pos, gA, Call.operands, gB, gC, gD, gE, gF, gG, Nat.reduceMul, reduceCtorEq, Nat.reduceBEq, Nat.reduceAdd, Nat.reduceLT, Nat.reduceLeDiff, Nat.reduceSub, Nat.reduceEqDiff, bq, tgs, vq]
      refine hK _ ?_
      clear hK K
      try refine vthen_n ?_
      repeat refine VW.seq ?_
      refine VW.cond rfl (fun hc => ?_) (fun hc => ?_)
      · have hlt : i < t.length := by simpa using hc
        generalize hS : sz (m + 1) = S at *
        have hbe := bars_len t s (dS t s k A S i)
        have hbg := bars_get t s (dS t s k A S i) hlt zb
        have hidx : decide (0 ≤ (i : Int) ∧ (i : Int) < (t.length : Int)) = true := decide_eq_true ⟨Int.natCast_nonneg _, by omega⟩
        have hidb : decide (0 ≤ (i : Int) ∧ (i : Int) < ((bars t s (dS t s k A S i)).length : Int)) = true := decide_eq_true ⟨Int.natCast_nonneg _, by omega⟩
        have hl1 := hatl S i
        have hl2 := hatl S (i + 1)
        refine VW.skip (vthen_n ?_)
        repeat refine VW.seq ?_
        refine VW.block ?_
        apply cutl
        · intro tail
          repeat refine VW.seq ?_
          refine VW.regl hT fun K hK => ?_
          simp only [List.replicate, List.set, List.map, List.any, List.append, Op.operands, dif_pos, gA, Call.operands, gB, gC, gD, gE, gF, gG, Nat.reduceMul, reduceCtorEq, Nat.reduceBEq, Nat.reduceAdd, Nat.reduceLT, Nat.reduceLeDiff, Nat.reduceSub, Nat.reduceEqDiff, bq, tgs, vq]
          refine ⟨hidx, ?_⟩
          refine vbr (fun g => ?_) (fun g => ?_) <;> simp only [List.replicate, List.set, List.map, List.any, List.append, Op.operands, dif_pos, gA, Call.operands, gB, gC, gD, gE, gF, gG, Nat.reduceMul, reduceCtorEq, Nat.reduceBEq, Nat.reduceAdd, Nat.reduceLT, Nat.reduceLeDiff, Nat.reduceSub, Nat.reduceEqDiff, bq, tgs, vq]
          case refine_2 =>
            have g : ((t.getD i z).1 == (k : Int)) = false := g
            have g : (t.getD i z).1 ≠ (k : Int) := by simpa using g
            refine hK _ ?_
            try refine vthen_n ?_
            refine VW.cond rfl (fun hc => by cases hc) (fun hc => ?_)
            refine VW.skip ?_
            show vthen _ _ _ .normal _
            refine vthen_n ?_
            refine VW.weak (weak_norm [(0, none), (1, none), (2, none), (6, none), (7, none), (8, none)] _) ?_
            simp only [norm, homeOne, moveTo, keepS, keepGo, usesOut, List.foldl, ren, renC, List.replicate, List.set, List.map, List.any, List.append, Op.operands, dif_pos, gA, Call.operands, gB, gC, gD, gE, gF, gG, Nat.reduceMul, reduceCtorEq, Nat.reduceBEq, Nat.reduceAdd, Nat.reduceLT, Nat.reduceLeDiff, Nat.reduceSub, Nat.reduceEqDiff, bq, tgs, vq]
            rw [dS_miss (.inl g), show atP t s k S i = atP t s k S (i + 1) by unfold atP; rw [atS_miss (.inl g)]]
            exact tail.h
          have g : ((t.getD i z).1 == (k : Int)) = true := g
          have g : (t.getD i z).1 = (k : Int) := by simpa using g
          refine ⟨hidb, ?_⟩
          rw [hbg]
          refine hK _ ?_
          try refine vthen_n ?_
          refine VW.cond rfl (fun hc => ?_) (fun hc => ?_)
          · have hw : win t s i = S := by
              have : ((win t s i : Nat) : Int) = (S : Int) := by simpa using hc
              omega
            have hset : (bars t s (dS t s k A S i)).set i (((win t s i : Int), if dS t s k A S i i = true then (pos t s i : Int) else 0).1, ((atP t s k S i : Nat) : Int)) = bars t s (dS t s k A S (i + 1)) := by
              rw [← dS_hit g hw, ← bars_set t s _ hlt, pos_eq hok hi1 hlt (by omega) g, ← atS_befs, hw]
              rfl
            have hat : atP t s k S (i + 1) = atP t s k S i + S := by
              unfold atP
              rw [atS_hit hlt g hw]
              omega
            repeat refine VW.seq ?_
            refine VW.regl hT fun K hK => ?_
            simp only [List.replicate, List.set, List.map, List.any, List.append, Op.operands, dif_pos, gA, Call.operands, gB, gC, gD, gE, gF, gG, Nat.reduceMul, reduceCtorEq, Nat.reduceBEq, Nat.reduceAdd, Nat.reduceLT, Nat.reduceLeDiff, Nat.reduceSub, Nat.reduceEqDiff, bq, tgs, vq]
            refine ⟨hidb, ?_⟩
            rw [hbg, hset]
            refine hK _ ?_
            try refine vthen_n ?_
            repeat refine VW.seq ?_
            refine VW.regl hT fun K hK => ?_
            simp only [List.replicate, List.set, List.map, List.any, List.append, Op.operands, dif_pos, gA, Call.operands, gB, gC, gD, gE, gF, gG, Nat.reduceMul, reduceCtorEq, Nat.reduceBEq, Nat.reduceAdd, Nat.reduceLT, Nat.reduceLeDiff, Nat.reduceSub, Nat.reduceEqDiff, bq, tgs, vq]
            rw [wrap64 (by omega) (by omega), show ((atP t s k S i : Nat) : Int) + (S : Int) = ((atP t s k S (i + 1) : Nat) : Int) by omega]
            refine hK _ ?_
            try refine vthen_n ?_
            show vthen _ _ _ .normal _
            refine vthen_n ?_
            refine VW.weak (weak_norm [(0, none), (1, none), (2, none), (6, none), (7, none), (8, none)] _) ?_
            simp only [norm, homeOne, moveTo, keepS, keepGo, usesOut, List.foldl, ren, renC, List.replicate, List.set, List.map, List.any, List.append, Op.operands, dif_pos, gA, Call.operands, gB, gC, gD, gE, gF, gG, Nat.reduceMul, reduceCtorEq, Nat.reduceBEq, Nat.reduceAdd, Nat.reduceLT, Nat.reduceLeDiff, Nat.reduceSub, Nat.reduceEqDiff, bq, tgs, vq]
            exact tail.h
          · have hw : win t s i ≠ S := by
              have : ¬ ((win t s i : Nat) : Int) = (S : Int) := by simpa using hc
              omega
            refine VW.skip ?_
            show vthen _ _ _ .normal _
            refine vthen_n ?_
            refine VW.weak (weak_norm [(0, none), (1, none), (2, none), (6, none), (7, none), (8, none)] _) ?_
            simp only [norm, homeOne, moveTo, keepS, keepGo, usesOut, List.foldl, ren, renC, List.replicate, List.set, List.map, List.any, List.append, Op.operands, dif_pos, gA, Call.operands, gB, gC, gD, gE, gF, gG, Nat.reduceMul, reduceCtorEq, Nat.reduceBEq, Nat.reduceAdd, Nat.reduceLT, Nat.reduceLeDiff, Nat.reduceSub, Nat.reduceEqDiff, bq, tgs, vq]
            rw [dS_miss (.inr hw), show atP t s k S i = atP t s k S (i + 1) by unfold atP; rw [atS_miss (.inr hw)]]
            exact tail.h
        · repeat refine VW.seq ?_
          refine VW.regl hT fun K hK => ?_
          simp only [List.replicate, List.set, List.map, List.any, List.append, Op.operands, dif_pos, gA, Call.operands, gB, gC, gD, gE, gF, gG, Nat.reduceMul, reduceCtorEq, Nat.reduceBEq, Nat.reduceAdd, Nat.reduceLT, Nat.reduceLeDiff, Nat.reduceSub, Nat.reduceEqDiff, bq, tgs, vq]
          refine hK _ ?_
          clear hK K
          try refine vthen_n ?_
          refine ⟨i + 1, ⟨by omega, by omega⟩, ?_, by show t.length - (i + 1) < t.length - i; omega⟩
          simp only [norm, homeOne, moveTo, keepS, keepGo, usesOut, List.foldl, ren, renC, List.replicate, List.set, List.map, List.any, List.append, Op.operands, dif_pos, gA, Call.operands, gB, gC, gD, gE, gF, gG, Nat.reduceMul, reduceCtorEq, Nat.reduceBEq, Nat.reduceAdd, Nat.reduceLT, Nat.reduceLeDiff, Nat.reduceSub, Nat.reduceEqDiff, bq, tgs, vq]
          rw [wrap64 (by omega) (by omega)]
          rfl
      · have hge : i = t.length := by
          have : t.length ≤ i := by simpa using hc
          omega
        subst hge
        refine VW.exit ?_
        show vthen _ _ _ .normal _
        refine vthen_n ?_
        repeat refine VW.seq ?_
        refine VW.regl hT fun K hK => ?_
        simp only [List.replicate, List.set, List.map, List.any, List.append, Op.operands, dif_pos, gA, Call.operands, gB, gC, gD, gE, gF, gG, Nat.reduceMul, reduceCtorEq, Nat.reduceBEq, Nat.reduceAdd, Nat.reduceLT, Nat.reduceLeDiff, Nat.reduceSub, Nat.reduceEqDiff, bq, tgs, vq]
        refine ⟨by decide, ?_⟩
        refine hK _ ?_
        clear hK K
        try refine vthen_n ?_
        refine ⟨m, by omega, ?_, by show m < m + 1; omega⟩
        simp only [norm, homeOne, moveTo, keepS, keepGo, usesOut, List.foldl, ren, renC, List.replicate, List.set, List.map, List.any, List.append, Op.operands, dif_pos, gA, Call.operands, gB, gC, gD, gE, gF, gG, Nat.reduceMul, reduceCtorEq, Nat.reduceBEq, Nat.reduceAdd, Nat.reduceLT, Nat.reduceLeDiff, Nat.reduceSub, Nat.reduceEqDiff, bq, tgs, vq]
        rw [half_sz m hsz, dS_step hs m, show atP t s k (sz (m + 1)) t.length = atP t s k (sz m) 1 by unfold atP; rw [atS_step hs m]]
    · have hm0 : m = 0 := by
        cases m with
        | zero => rfl
        | succ m =>
          have : ¬ ((sz (m + 1) : Nat) : Int) > 0 := of_decide_eq_false hc
          have h1 := Nat.two_pow_pos m
          have h2 : ((sz (m + 1) : Nat) : Int) > 0 := by show ((2 ^ m : Nat) : Int) > 0; omega
          exact absurd h2 this
      subst hm0
      refine VW.exit ?_
      show vthen _ _ _ .normal _
      refine vthen_n ?_
      repeat refine VW.seq ?_
      refine VW.regl hT fun K hK => ?_
      simp only [List.replicate, List.set, List.map, List.any, List.append, Op.operands, dif_pos, gA, Call.operands, gB, gC, gD, gE, gF, gG, Nat.reduceMul, reduceCtorEq, Nat.reduceBEq, Nat.reduceAdd, Nat.reduceLT, Nat.reduceLeDiff, Nat.reduceSub, Nat.reduceEqDiff, bq, tgs, vq]
      refine hK _ ?_
      clear hK K
      try refine vthen_n ?_
      repeat refine VW.seq ?_
      refine VW.block ?_
      refine VW.loop (α := Nat × (Nat → Bool)) [(0, none), (1, none), (2, none), (9, none)] (fun p => [.v false sNS t, .root (.val false) sBS (.io n cp) (bars t s p.2), .v false (.int .i64) ((k : Nat)), D, D, D, D, D, D, .v false (.int .i64) ((p.1 : Nat)), D, D, D, D, D, D, D, D, D, D, D, D, D, D, D, D, D, D, D, D, D, D, D, D, D, D, D, D, D, D, D, D, D, D, D, D, D, D, D, D, D, D, D, D, D, D, D, D, D, D, D, D, D, D, D, D, D, D, D, D, D, D, D, D, D, D, D, D, D, D, D, D]) (fun p => 1 ≤ p.1 ∧ p.1 ≤ t.length ∧ (∀ j, A j = true → p.2 j = true) ∧ (∀ j, 1 ≤ j → j < t.length → (t.getD j z).1 = (k : Int) → win t s j ≠ 0 → p.2 j = true) ∧ ∀ c, 1 ≤ c → c < p.1 → (t.getD c z).1 = (k : Int) → ∀ j, Bel t c j → win t s j ≠ 0 → p.2 j = true) (fun p => t.length - p.1) ⟨(1, dS t s k A (sz 0) 1), ⟨by omega, by omega, fun j h => by show (A j || _) = true; rw [h]; rfl, fun j h1 h2 h3 h4 => ?_, fun c h1 h2 => by omega⟩, ?_⟩ fun ⟨i, E⟩ ⟨hi1, hi, hE1, hE2, hE3⟩ => ?_
      · show dS t s k A (sz 0) 1 j = true
        unfold dS
        rw [h3, show decide (sz 0 < win t s j) = true from decide_eq_true (by simp only [sz]; omega)]
        simp
      · simp only [norm, homeOne, moveTo, keepS, keepGo, usesOut, List.foldl, ren, renC, List.replicate, List.set, List.map, List.any, List.append, Op.operands, dif_pos, gA, Call.operands, gB, gC, gD, gE, gF, gG, Nat.reduceMul, reduceCtorEq, Nat.reduceBEq, Nat.reduceAdd, Nat.reduceLT, Nat.reduceLeDiff, Nat.reduceSub, Nat.reduceEqDiff, bq, tgs, vq]
        rfl
      have hi1 : 1 ≤ i := hi1
      have hi : i ≤ t.length := hi
      have hE1 : ∀ j, A j = true → E j = true := hE1
      have hE2 : ∀ j, 1 ≤ j → j < t.length → (t.getD j z).1 = (k : Int) → win t s j ≠ 0 → E j = true := hE2
      have hE3 : ∀ c, 1 ≤ c → c < i → (t.getD c z).1 = (k : Int) → ∀ j, Bel t c j → win t s j ≠ 0 → E j = true := hE3
      repeat refine VW.seq ?_
      refine VW.regl hT fun K hK => ?_
      simp only [List.replicate, List.set, List.map, List.any, List.append, Op.operands, dif_pos, gA, Call.operands, gB, gC, gD, gE, gF, gG, Nat.reduceMul, reduceCtorEq, Nat.reduceBEq, Nat.reduceAdd, Nat.reduceLT, Nat.reduceLeDiff, Nat.reduceSub, Nat.reduceEqDiff, bq, tgs, vq]
      refine hK _ ?_
      clear hK K
      try refine vthen_n ?_
      repeat refine VW.seq ?_
      refine VW.cond rfl (fun hc => ?_) (fun hc => ?_)
      · have hlt : i < t.length := by simpa using hc
        have hbe := bars_len t s E
        have hbg := bars_get t s E hlt zb
        have hidx : decide (0 ≤ (i : Int) ∧ (i : Int) < (t.length : Int)) = true := decide_eq_true ⟨Int.natCast_nonneg _, by omega⟩
        have hidb : decide (0 ≤ (i : Int) ∧ (i : Int) < ((bars t s E).length : Int)) = true := decide_eq_true ⟨Int.natCast_nonneg _, by omega⟩
        have hgo : ∀ H : Nat → Bool, (∀ j, E j = true → H j = true) → ((t.getD i z).1 = (k : Int) → ∀ j, Bel t i j → win t s j ≠ 0 → H j = true) → 1 ≤ i + 1 ∧ i + 1 ≤ t.length ∧ (∀ j, A j = true → H j = true) ∧ (∀ j, 1 ≤ j → j < t.length → (t.getD j z).1 = (k : Int) → win t s j ≠ 0 → H j = true) ∧ ∀ c, 1 ≤ c → c < i + 1 → (t.getD c z).1 = (k : Int) → ∀ j, Bel t c j → win t s j ≠ 0 → H j = true := fun H q1 q2 => by
          refine ⟨by omega, by omega, fun j h => q1 j (hE1 j h), fun j h1 h2 h3 h4 => q1 j (hE2 j h1 h2 h3 h4), fun c h1 h2 h3 j h4 h5 => ?_⟩
          rcases Nat.lt_or_ge c i with h6 | h6
          · exact q1 j (hE3 c h1 h6 h3 j h4 h5)
          · obtain rfl : c = i := by omega
            exact q2 h3 j h4 h5
        refine VW.skip (vthen_n ?_)
        repeat refine VW.seq ?_
        refine VW.block ?_
        apply cutl
        · intro tail
          repeat refine VW.seq ?_
          refine VW.regl hT fun K hK => ?_
          simp only [List.replicate, List.set, List.map, List.any, List.append, Op.operands, dif_pos, gA, Call.operands, gB, gC, gD, gE, gF, gG, Nat.reduceMul, reduceCtorEq, Nat.reduceBEq, Nat.reduceAdd, Nat.reduceLT, Nat.reduceLeDiff, Nat.reduceSub, Nat.reduceEqDiff, bq, tgs, vq]
          refine ⟨hidx, ?_⟩
          refine vbr (fun g => ?_) (fun g => ?_) <;> simp only [List.replicate, List.set, List.map, List.any, List.append, Op.operands, dif_pos, gA, Call.operands, gB, gC, gD, gE, gF, gG, Nat.reduceMul, reduceCtorEq, Nat.reduceBEq, Nat.reduceAdd, Nat.reduceLT, Nat.reduceLeDiff, Nat.reduceSub, Nat.reduceEqDiff, bq, tgs, vq]
          case refine_2 =>
            have g : ((t.getD i z).1 == (k : Int)) = false := g
            have g : (t.getD i z).1 ≠ (k : Int) := by simpa using g
            refine hK _ ?_
            try refine vthen_n ?_
            refine VW.cond rfl (fun hc => by cases hc) (fun hc => ?_)
            refine VW.skip ?_
            show vthen _ _ _ .normal _
            refine vthen_n ?_
            refine VW.weak (weak_norm [(0, none), (1, none), (2, none), (9, none)] _) ?_
            simp only [norm, homeOne, moveTo, keepS, keepGo, usesOut, List.foldl, ren, renC, List.replicate, List.set, List.map, List.any, List.append, Op.operands, dif_pos, gA, Call.operands, gB, gC, gD, gE, gF, gG, Nat.reduceMul, reduceCtorEq, Nat.reduceBEq, Nat.reduceAdd, Nat.reduceLT, Nat.reduceLeDiff, Nat.reduceSub, Nat.reduceEqDiff, bq, tgs, vq]
            have hnew := hgo E (fun j h => h) (fun h => absurd h g)
            revert hnew
            exact tail.h
          have g : ((t.getD i z).1 == (k : Int)) = true := g
          have g : (t.getD i z).1 = (k : Int) := by simpa using g
          refine ⟨hidx, ?_⟩
          refine vbr (fun g2 => ?_) (fun g2 => ?_) <;> simp only [List.replicate, List.set, List.map, List.any, List.append, Op.operands, dif_pos, gA, Call.operands, gB, gC, gD, gE, gF, gG, Nat.reduceMul, reduceCtorEq, Nat.reduceBEq, Nat.reduceAdd, Nat.reduceLT, Nat.reduceLeDiff, Nat.reduceSub, Nat.reduceEqDiff, bq, tgs, vq]
          case refine_2 =>
            have g2 : ((t.getD i z).2.2 == 0) = false := g2
            have g2 : ¬ (t.getD i z).2.2 = 0 := by simpa using g2
            refine hK _ ?_
            try refine vthen_n ?_
            refine VW.cond rfl (fun hc => by cases hc) (fun hc => ?_)
            refine VW.skip ?_
            show vthen _ _ _ .normal _
            refine vthen_n ?_
            refine VW.weak (weak_norm [(0, none), (1, none), (2, none), (9, none)] _) ?_
            simp only [norm, homeOne, moveTo, keepS, keepGo, usesOut, List.foldl, ren, renC, List.replicate, List.set, List.map, List.any, List.append, Op.operands, dif_pos, gA, Call.operands, gB, gC, gD, gE, gF, gG, Nat.reduceMul, reduceCtorEq, Nat.reduceBEq, Nat.reduceAdd, Nat.reduceLT, Nat.reduceLeDiff, Nat.reduceSub, Nat.reduceEqDiff, bq, tgs, vq]
            have hnew := hgo E (fun j h => h) (fun _ j h _ => absurd (bel_bridge hok h) g2)
            revert hnew
            exact tail.h
          refine ⟨hidb, ?_⟩
          rw [hbg]
          refine hK _ ?_
          try refine vthen_n ?_
          refine VW.cond rfl (fun hc => ?_) (fun hc => ?_)
          · have hw : win t s i ≠ 0 := by
              have : ((win t s i : Nat) : Int) > 0 := of_decide_eq_true hc
              omega
            have hn := tree_node hok hi1 hlt
            rw [g] at hn
            repeat refine VW.seq ?_
            refine VW.regl hT fun K hK => ?_
            simp only [List.replicate, List.set, List.map, List.any, List.append, Op.operands, dif_pos, gA, Call.operands, gB, gC, gD, gE, gF, gG, Nat.reduceMul, reduceCtorEq, Nat.reduceBEq, Nat.reduceAdd, Nat.reduceLT, Nat.reduceLeDiff, Nat.reduceSub, Nat.reduceEqDiff, bq, tgs, vq]
            refine vcall_io 1 ?_
            simp only [List.replicate, List.set, List.map, List.any, List.append, Op.operands, dif_pos, gA, Call.operands, gB, gC, gD, gE, gF, gG, Nat.reduceMul, reduceCtorEq, Nat.reduceBEq, Nat.reduceAdd, Nat.reduceLT, Nat.reduceLeDiff, Nat.reduceSub, Nat.reduceEqDiff, bq, tgs, vq]
            have hal := ih i E (fuel_step hf (Int.ofNat_lt.1 hn.2.1) hlt) hlt (.inl (hE2 i hi1 hlt g hw))
            have hrec := tagE (agg := false) (s := sBS) (fi := .io n cp) (f0 := .own) (x := bars t s E) (l := [Value.slice (some ⟨n, 0, none⟩) (bars t s E).length cp]) hal rfl rfl rfl (fun y hy => by
              obtain ⟨H, q1, _⟩ := hy
              show some [Value.slice (some ⟨n, 0, none⟩) (List.length y) cp] = some [Value.slice (some ⟨n, 0, none⟩) (List.length (bars t s E)) cp]
              rw [q1, bars_len, bars_len])
            refine vxcall_ex hrec ?_
            rintro pv ot ⟨rfl, bs, ⟨H, rfl, q1, q2⟩, rfl⟩
            simp only [List.replicate, List.set, List.map, List.any, List.append, Op.operands, dif_pos, gA, Call.operands, gB, gC, gD, gE, gF, gG, Nat.reduceMul, reduceCtorEq, Nat.reduceBEq, Nat.reduceAdd, Nat.reduceLT, Nat.reduceLeDiff, Nat.reduceSub, Nat.reduceEqDiff, bq, tgs, vq]
            refine hK _ ?_
            clear hK K
            try refine vthen_n ?_
            show vthen _ _ _ .normal _
            refine vthen_n ?_
            repeat refine VW.seq ?_
            refine VW.regl hT fun K hK => ?_
            simp only [List.replicate, List.set, List.map, List.any, List.append, Op.operands, dif_pos, gA, Call.operands, gB, gC, gD, gE, gF, gG, Nat.reduceMul, reduceCtorEq, Nat.reduceBEq, Nat.reduceAdd, Nat.reduceLT, Nat.reduceLeDiff, Nat.reduceSub, Nat.reduceEqDiff, bq, tgs, vq]
            refine hK _ ?_
            clear hK K
            try refine vthen_n ?_
            refine ⟨(i + 1, H), hgo H q1 (fun _ => q2), ?_, by show t.length - (i + 1) < t.length - i; omega⟩
            simp only [norm, homeOne, moveTo, keepS, keepGo, usesOut, List.foldl, ren, renC, List.replicate, List.set, List.map, List.any, List.append, Op.operands, dif_pos, gA, Call.operands, gB, gC, gD, gE, gF, gG, Nat.reduceMul, reduceCtorEq, Nat.reduceBEq, Nat.reduceAdd, Nat.reduceLT, Nat.reduceLeDiff, Nat.reduceSub, Nat.reduceEqDiff, bq, tgs, vq]
            rw [wrap64 (by omega) (by omega)]
            rfl
          · have hw : win t s i = 0 := by
              have : ¬ ((win t s i : Nat) : Int) > 0 := of_decide_eq_false hc
              omega
            refine VW.skip ?_
            show vthen _ _ _ .normal _
            refine vthen_n ?_
            refine VW.weak (weak_norm [(0, none), (1, none), (2, none), (9, none)] _) ?_
            simp only [norm, homeOne, moveTo, keepS, keepGo, usesOut, List.foldl, ren, renC, List.replicate, List.set, List.map, List.any, List.append, Op.operands, dif_pos, gA, Call.operands, gB, gC, gD, gE, gF, gG, Nat.reduceMul, reduceCtorEq, Nat.reduceBEq, Nat.reduceAdd, Nat.reduceLT, Nat.reduceLeDiff, Nat.reduceSub, Nat.reduceEqDiff, bq, tgs, vq]
            have hnew := hgo E (fun j h => h) (fun _ j h h2 => absurd (bel_win hok s h) (by omega))
            revert hnew
            exact tail.h
        · intro hnew
          repeat refine VW.seq ?_
          refine VW.regl hT fun K hK => ?_
          simp only [List.replicate, List.set, List.map, List.any, List.append, Op.operands, dif_pos, gA, Call.operands, gB, gC, gD, gE, gF, gG, Nat.reduceMul, reduceCtorEq, Nat.reduceBEq, Nat.reduceAdd, Nat.reduceLT, Nat.reduceLeDiff, Nat.reduceSub, Nat.reduceEqDiff, bq, tgs, vq]
          refine hK _ ?_
          clear hK K
          try refine vthen_n ?_
          refine ⟨(i + 1, E), hnew, ?_, by show t.length - (i + 1) < t.length - i; omega⟩
          simp only [norm, homeOne, moveTo, keepS, keepGo, usesOut, List.foldl, ren, renC, List.replicate, List.set, List.map, List.any, List.append, Op.operands, dif_pos, gA, Call.operands, gB, gC, gD, gE, gF, gG, Nat.reduceMul, reduceCtorEq, Nat.reduceBEq, Nat.reduceAdd, Nat.reduceLT, Nat.reduceLeDiff, Nat.reduceSub, Nat.reduceEqDiff, bq, tgs, vq]
          rw [wrap64 (by omega) (by omega)]
          rfl
      · have hge : i = t.length := by
          have : t.length ≤ i := by simpa using hc
          omega
        refine VW.exit ?_
        refine ⟨.inr rfl, _, _, _, _, rfl, ⟨1, _, rfl⟩, ?_, rfl, _, ⟨E, rfl, hE1, fun j h hw => ?_⟩, rfl⟩
        · show some [Value.slice (some ⟨n, 0, none⟩) (List.length (bars t s E)) cp] = some [Value.slice (some ⟨n, 0, none⟩) (List.length (bars t s A)) cp]
          rw [bars_len, bars_len]
        · obtain ⟨c, h1, h2, h3, h4⟩ := bel_cases h
          rcases h4 with rfl | h4
          · exact hE2 _ h1 h2 h3 hw
          · exact hE3 c h1 (by omega) h3 j h4 hw
end Go.Proofs.Ytmechjnfeidnkaa.V.W

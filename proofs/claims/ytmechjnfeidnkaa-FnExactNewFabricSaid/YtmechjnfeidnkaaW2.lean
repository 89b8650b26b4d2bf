/- impl.TreeOk, spec.TreeOk, isNode walked. No condition. -/
import Derived.Test.YtmechjnfeidnkaaW1
set_option linter.unusedVariables false
set_option linter.unnecessarySimpa false
set_option linter.unusedSimpArgs false
namespace Go.Proofs.Ytmechjnfeidnkaa.V.W
open Go Go.RowKit
def bad1 (t : List Nd) (i : Nat) (n : Nd) : Bool := !inB n.1 0 i || (!((t.getD n.1.toNat z).2.2 == 0) || (!inB n.2.1 0 3 || !inB n.2.2 0 4))
def bad (t : List Nd) (i : Nat) : Bool := bad1 t i (t.getD (i + 1) z) || (t.take (i + 1)).any (same (t.getD (i + 1) z))
def treeOk (t : List Nd) : Bool := inB t.length 1 12 && ((t.getD 0 z == (-1, 0, 0)) && (List.range (t.length - 1)).all fun i => !bad t i)
theorem treeOk_false {t : List Nd} {i : Nat} (hi : i + 1 < t.length) (h : bad t i = true) : treeOk t = false := by
  have : ((List.range (t.length - 1)).all fun i => !bad t i) = false := by
    rw [List.all_eq_false]
    exact ⟨i, List.mem_range.2 (by omega), by simp [h]⟩
  simp only [treeOk, this, Bool.and_false]
theorem treeOk_true {t : List Nd} (h1 : inB t.length 1 12 = true) (h2 : (t.getD 0 z == (-1, 0, 0)) = true) (h : ∀ i, i + 1 < t.length → bad t i = false) : treeOk t = true := by
  have : ((List.range (t.length - 1)).all fun i => !bad t i) = true := by
    rw [List.all_eq_true]
    intro i hi
    rw [h i (by have := List.mem_range.1 hi; omega)]; rfl
  simp only [treeOk, h1, h2, this, Bool.and_self]
theorem getD_tail (t : List Nd) (i : Nat) : (List.drop 1 (List.take t.length t)).getD i z = t.getD (i + 1) z := by
  rw [List.take_length, List.getD_eq_getElem?_getD, List.getD_eq_getElem?_getD, List.getElem?_drop, Nat.add_comm 1 i]
theorem eqN (x y : Nd) : eqv sN x y = (x == y) := by
  obtain ⟨a, b, c⟩ := x
  obtain ⟨a', b', c'⟩ := y
  simp only [eqv]
  rw [Bool.eq_iff_iff]
  simp
set_option maxRecDepth 20000 in
theorem treeOk_vc (t : List Nd) (hl : t.length ≤ 2000000) : VC Try.prog 67 [.v false sNS t] (· = .v false .bool (treeOk t)) := by
  refine VC.of_body hT Try.func67 rfl (by kernel_rfl) [(.tmp 2, false, .bool)] (by kernel_rfl) ?_
  show VW _ _ ([.v false sNS t, D, D, D, D, D, D, D, D, D, D, D, D, D, D, D, D, D, D, D, D, D, D, D, D, D, D, D, D, D, D, D, D, D, D, D, D, D, D, D, D, D, D, D, D, D, D, D, D, D, D, D, D, D, D, D, D, D, D]) _
  repeat refine VW.seq ?_
  refine VW.regl hT fun K hK => ?_
  simp only [List.replicate, List.set, List.map, List.any, List.append, Op.operands, dif_pos, gA, Call.operands, gB, gC, gD, gE, gF, gG, Nat.reduceMul, reduceCtorEq, Nat.reduceBEq, Nat.reduceAdd, Nat.reduceLT, Nat.reduceLeDiff, Nat.reduceSub, Nat.reduceEqDiff, bq, tgs, vq]
  refine hK _ ?_
  clear hK K
  try refine vthen_n ?_
  repeat refine VW.seq ?_
  refine VW.regl hT fun K hK => ?_
  simp only [List.replicate, List.set, List.map, List.any, List.append, Op.operands, dif_pos, gA, Call.operands, gB, gC, gD, gE, gF, gG, Nat.reduceMul, reduceCtorEq, Nat.reduceBEq, Nat.reduceAdd, Nat.reduceLT, Nat.reduceLeDiff, Nat.reduceSub, Nat.reduceEqDiff, bq, tgs, vq]
  refine vcall_of (within_vc _ _ _) ?_
  simp only [List.replicate, List.set, List.map, List.any, List.append, Op.operands, dif_pos, gA, Call.operands, gB, gC, gD, gE, gF, gG, Nat.reduceMul, reduceCtorEq, Nat.reduceBEq, Nat.reduceAdd, Nat.reduceLT, Nat.reduceLeDiff, Nat.reduceSub, Nat.reduceEqDiff, bq, tgs, vq]
  refine vbr (fun h1 => ?_) (fun h1 => ?_) <;> simp only [List.replicate, List.set, List.map, List.any, List.append, Op.operands, dif_pos, gA, Call.operands, gB, gC, gD, gE, gF, gG, Nat.reduceMul, reduceCtorEq, Nat.reduceBEq, Nat.reduceAdd, Nat.reduceLT, Nat.reduceLeDiff, Nat.reduceSub, Nat.reduceEqDiff, bq, tgs, vq]
  case refine_2 =>
    refine hK _ ?_
    clear hK K
    try refine vthen_n ?_
    repeat refine VW.seq ?_
    refine VW.cond rfl (fun hc => ?_) (fun hc => ?_)
    · repeat refine VW.seq ?_
      refine VW.regl hT fun K hK => ?_
      simp only [List.replicate, List.set, List.map, List.any, List.append, Op.operands, dif_pos, gA, Call.operands, gB, gC, gD, gE, gF, gG, Nat.reduceMul, reduceCtorEq, Nat.reduceBEq, Nat.reduceAdd, Nat.reduceLT, Nat.reduceLeDiff, Nat.reduceSub, Nat.reduceEqDiff, bq, tgs, vq]
      refine hK _ ?_
      clear hK K
      try refine vthen_n ?_
      refine VW.ret ⟨.inl rfl, _, rfl, ?_⟩
      have h1 : inB t.length 1 12 = false := by simpa using h1
      simp only [treeOk, h1, Bool.false_and]
    · cases hc
  have h1 : inB t.length 1 12 = true := by simpa using h1
  have hlen := inB_iff.1 h1
  refine ⟨by simp; omega, ?_⟩
  refine hK _ ?_
  clear hK K
  try refine vthen_n ?_
  repeat refine VW.seq ?_
  refine VW.cond rfl (fun hc => ?_) (fun hc => ?_)
  · repeat refine VW.seq ?_
    refine VW.regl hT fun K hK => ?_
    simp only [List.replicate, List.set, List.map, List.any, List.append, Op.operands, dif_pos, gA, Call.operands, gB, gC, gD, gE, gF, gG, Nat.reduceMul, reduceCtorEq, Nat.reduceBEq, Nat.reduceAdd, Nat.reduceLT, Nat.reduceLeDiff, Nat.reduceSub, Nat.reduceEqDiff, bq, tgs, vq]
    refine hK _ ?_
    clear hK K
    try refine vthen_n ?_
    refine VW.ret ⟨.inl rfl, _, rfl, ?_⟩
    have hc' : (!eqv sN (t.getD 0 z) (-1, 0, 0)) = true := hc
    rw [eqN] at hc'
    have : (t.getD 0 z == (-1, 0, 0)) = false := by simpa using hc'
    have e : treeOk t = false := by simp only [treeOk, this, Bool.false_and, Bool.and_false]
    rw [e]
  have h2 : (t.getD 0 z == (-1, 0, 0)) = true := by
    have hc' : (!eqv sN (t.getD 0 z) (-1, 0, 0)) = false := hc
    rw [eqN] at hc'
    simpa using hc'
  refine VW.skip (vthen_n ?_)
  repeat refine VW.seq ?_
  refine VW.regl hT fun K hK => ?_
  simp only [List.replicate, List.set, List.map, List.any, List.append, Op.operands, dif_pos, gA, Call.operands, gB, gC, gD, gE, gF, gG, Nat.reduceMul, reduceCtorEq, Nat.reduceBEq, Nat.reduceAdd, Nat.reduceLT, Nat.reduceLeDiff, Nat.reduceSub, Nat.reduceEqDiff, bq, tgs, vq]
  refine ⟨by simp; omega, ?_⟩
  refine hK _ ?_
  clear hK K
  try refine vthen_n ?_
  repeat refine VW.seq ?_
  refine VW.block ?_
  have htl : (List.drop 1 (List.take t.length t)).length = t.length - 1 := by simp
  refine VW.loop (α := Nat) [(0, none), (18, none), (19, none), (20, none)] (fun i => [.v false sNS t, D, D, D, D, D, D, D, D, D, D, D, D, D, D, D, D, D, .v false sNS (List.drop 1 (List.take t.length t)), .v false (.int .i64) ((List.drop 1 (List.take t.length t)).length), .v false (.int .i64) (i), D, D, D, D, D, D, D, D, D, D, D, D, D, D, D, D, D, D, D, D, D, D, D, D, D, D, D, D, D, D, D, D, D, D, D, D, D, D]) (fun i => i + 1 ≤ t.length ∧ ∀ k, k < i → bad t k = false) (fun i => t.length - i) ⟨0, ⟨by omega, fun k hk => by omega⟩, ?_⟩ fun i ⟨hi, hk⟩ => ?_
  · simp only [norm, homeOne, moveTo, keepS, keepGo, usesOut, List.foldl, ren, renC, List.replicate, List.set, List.map, List.any, List.append, Op.operands, dif_pos, gA, Call.operands, gB, gC, gD, gE, gF, gG, Nat.reduceMul, reduceCtorEq, Nat.reduceBEq, Nat.reduceAdd, Nat.reduceLT, Nat.reduceLeDiff, Nat.reduceSub, Nat.reduceEqDiff, bq, tgs, vq]
    rfl
  repeat refine VW.seq ?_
  refine VW.regl hT fun K hK => ?_
  simp only [List.replicate, List.set, List.map, List.any, List.append, Op.operands, dif_pos, gA, Call.operands, gB, gC, gD, gE, gF, gG, Nat.reduceMul, reduceCtorEq, Nat.reduceBEq, Nat.reduceAdd, Nat.reduceLT, Nat.reduceLeDiff, Nat.reduceSub, Nat.reduceEqDiff, bq, tgs, vq]
  refine hK _ ?_
  clear hK K
  try refine vthen_n ?_
  repeat refine VW.seq ?_
  refine VW.cond rfl (fun hc => ?_) (fun hc => ?_)
  · have hlt : i + 1 < t.length := by
      have : (i : Int) < ((t.length - 1 : Nat) : Int) := by rw [← htl]; simpa using hc
      omega
    refine VW.skip (vthen_n ?_)
    repeat refine VW.seq ?_
    refine VW.block ?_
    repeat refine VW.seq ?_
    refine VW.regl hT fun K hK => ?_
    simp only [List.replicate, List.set, List.map, List.any, List.append, Op.operands, dif_pos, gA, Call.operands, gB, gC, gD, gE, gF, gG, Nat.reduceMul, reduceCtorEq, Nat.reduceBEq, Nat.reduceAdd, Nat.reduceLT, Nat.reduceLeDiff, Nat.reduceSub, Nat.reduceEqDiff, bq, tgs, vq]
    refine ⟨decide_eq_true ⟨Int.natCast_nonneg i, ?_⟩, ?_⟩
    · have : (i : Int) < ((t.length - 1 : Nat) : Int) := by omega
      rw [← htl] at this
      exact this
    refine hK _ ?_
    clear hK K
    try refine vthen_n ?_
    repeat refine VW.seq ?_
    refine VW.regl hT fun K hK => ?_
    simp only [List.replicate, List.set, List.map, List.any, List.append, Op.operands, dif_pos, gA, Call.operands, gB, gC, gD, gE, gF, gG, Nat.reduceMul, reduceCtorEq, Nat.reduceBEq, Nat.reduceAdd, Nat.reduceLT, Nat.reduceLeDiff, Nat.reduceSub, Nat.reduceEqDiff, bq, tgs, vq]
    rw [wrap64 (by omega) (by omega)]
    refine ⟨decide_eq_true ⟨Int.le_refl _, by omega, by show ((i : Int) + 1) ≤ (t.length : Int); omega⟩, ?_⟩
    refine hK _ ?_
    clear hK K
    try refine vthen_n ?_
    have hT1 : List.drop (Int.toNat 0) (List.take (Int.toNat ((i : Int) + 1)) t) = t.take (i + 1) := by
      rw [show Int.toNat ((i : Int) + 1) = i + 1 by omega]; rfl
    have hTl : (t.take (i + 1)).length = i + 1 := by rw [List.length_take]; omega
    generalize hn : (t.getD (i + 1) z : Nd) = n
    have hn' : (List.drop 1 (List.take t.length t)).getD i (0, 0, 0) = n := (getD_tail t i).trans hn
    rw [hT1, hn']
    have ex : ∀ b : Bool, bad1 t i n = b → bad t i = (b || (t.take (i + 1)).any (same n)) := by
      intro b hb; unfold bad; rw [hn, hb]
    repeat refine VW.seq ?_
    refine VW.regl hT fun K hK => ?_
    simp only [List.replicate, List.set, List.map, List.any, List.append, Op.operands, dif_pos, gA, Call.operands, gB, gC, gD, gE, gF, gG, Nat.reduceMul, reduceCtorEq, Nat.reduceBEq, Nat.reduceAdd, Nat.reduceLT, Nat.reduceLeDiff, Nat.reduceSub, Nat.reduceEqDiff, bq, tgs, vq]
    refine vcall_of (within_vc _ _ _) ?_
    simp only [List.replicate, List.set, List.map, List.any, List.append, Op.operands, dif_pos, gA, Call.operands, gB, gC, gD, gE, gF, gG, Nat.reduceMul, reduceCtorEq, Nat.reduceBEq, Nat.reduceAdd, Nat.reduceLT, Nat.reduceLeDiff, Nat.reduceSub, Nat.reduceEqDiff, bq, tgs, vq]
    refine vbr (fun g1 => ?_) (fun g1 => ?_) <;> simp only [List.replicate, List.set, List.map, List.any, List.append, Op.operands, dif_pos, gA, Call.operands, gB, gC, gD, gE, gF, gG, Nat.reduceMul, reduceCtorEq, Nat.reduceBEq, Nat.reduceAdd, Nat.reduceLT, Nat.reduceLeDiff, Nat.reduceSub, Nat.reduceEqDiff, bq, tgs, vq]
    · have g1' : inB n.1 0 i = true := by simpa using g1
      have gi := inB_iff.1 g1'
      have hg : (t.take (i + 1)).getD n.1.toNat z = t.getD n.1.toNat z := by
        rw [List.getD_eq_getElem?_getD, List.getD_eq_getElem?_getD, List.getElem?_take_of_lt (by omega)]
      refine ⟨decide_eq_true ⟨gi.1, by show n.1 < ((t.take (i + 1)).length : Int); omega⟩, ?_⟩
      refine vbr (fun g2 => ?_) (fun g2 => ?_) <;> simp only [List.replicate, List.set, List.map, List.any, List.append, Op.operands, dif_pos, gA, Call.operands, gB, gC, gD, gE, gF, gG, Nat.reduceMul, reduceCtorEq, Nat.reduceBEq, Nat.reduceAdd, Nat.reduceLT, Nat.reduceLeDiff, Nat.reduceSub, Nat.reduceEqDiff, bq, tgs, vq]
      · refine vcall_of (within_vc _ _ _) ?_
        simp only [List.replicate, List.set, List.map, List.any, List.append, Op.operands, dif_pos, gA, Call.operands, gB, gC, gD, gE, gF, gG, Nat.reduceMul, reduceCtorEq, Nat.reduceBEq, Nat.reduceAdd, Nat.reduceLT, Nat.reduceLeDiff, Nat.reduceSub, Nat.reduceEqDiff, bq, tgs, vq]
        refine vbr (fun g3 => ?_) (fun g3 => ?_) <;> simp only [List.replicate, List.set, List.map, List.any, List.append, Op.operands, dif_pos, gA, Call.operands, gB, gC, gD, gE, gF, gG, Nat.reduceMul, reduceCtorEq, Nat.reduceBEq, Nat.reduceAdd, Nat.reduceLT, Nat.reduceLeDiff, Nat.reduceSub, Nat.reduceEqDiff, bq, tgs, vq]
        · refine vcall_of (within_vc _ _ _) ?_
          simp only [List.replicate, List.set, List.map, List.any, List.append, Op.operands, dif_pos, gA, Call.operands, gB, gC, gD, gE, gF, gG, Nat.reduceMul, reduceCtorEq, Nat.reduceBEq, Nat.reduceAdd, Nat.reduceLT, Nat.reduceLeDiff, Nat.reduceSub, Nat.reduceEqDiff, bq, tgs, vq]
          refine hK _ ?_
          clear hK K
          try refine vthen_n ?_
          have b123 : bad1 t i n = !inB n.2.2 0 4 := by
            have g2' : ((t.getD n.1.toNat z).2.2 == 0) = true := by
              rw [← hg]; simpa using g2
            have g3' : inB n.2.1 0 3 = true := by simpa using g3
            simp only [bad1, g1', g2', g3', Bool.not_true, Bool.false_or]
          repeat refine VW.seq ?_
          refine VW.cond rfl (fun hc => ?_) (fun hc => ?_)
          · repeat refine VW.seq ?_
            refine VW.regl hT fun K hK => ?_
            simp only [List.replicate, List.set, List.map, List.any, List.append, Op.operands, dif_pos, gA, Call.operands, gB, gC, gD, gE, gF, gG, Nat.reduceMul, reduceCtorEq, Nat.reduceBEq, Nat.reduceAdd, Nat.reduceLT, Nat.reduceLeDiff, Nat.reduceSub, Nat.reduceEqDiff, bq, tgs, vq]
            refine hK _ ?_
            clear hK K
            try refine vthen_n ?_
            refine VW.ret ⟨.inl rfl, _, rfl, ?_⟩
            rw [treeOk_false hlt ((ex true (b123.trans hc)).trans rfl)]
          · refine VW.skip ?_
            show vthen _ _ _ .normal _
            refine vthen_n ?_
            repeat refine VW.seq ?_
            refine VW.regl hT fun K hK => ?_
            simp only [List.replicate, List.set, List.map, List.any, List.append, Op.operands, dif_pos, gA, Call.operands, gB, gC, gD, gE, gF, gG, Nat.reduceMul, reduceCtorEq, Nat.reduceBEq, Nat.reduceAdd, Nat.reduceLT, Nat.reduceLeDiff, Nat.reduceSub, Nat.reduceEqDiff, bq, tgs, vq]
            refine vcall_of (contains_vc _ 92 [.fadr sN n] (same n) rfl (fun x => treeOk1_vc x n) (by rw [hTl]; omega)) ?_
            simp only [List.replicate, List.set, List.map, List.any, List.append, Op.operands, dif_pos, gA, Call.operands, gB, gC, gD, gE, gF, gG, Nat.reduceMul, reduceCtorEq, Nat.reduceBEq, Nat.reduceAdd, Nat.reduceLT, Nat.reduceLeDiff, Nat.reduceSub, Nat.reduceEqDiff, bq, tgs, vq]
            refine hK _ ?_
            clear hK K
            try refine vthen_n ?_
            repeat refine VW.seq ?_
            refine VW.cond rfl (fun hc => ?_) (fun hc => ?_)
            · repeat refine VW.seq ?_
              refine VW.regl hT fun K hK => ?_
              simp only [List.replicate, List.set, List.map, List.any, List.append, Op.operands, dif_pos, gA, Call.operands, gB, gC, gD, gE, gF, gG, Nat.reduceMul, reduceCtorEq, Nat.reduceBEq, Nat.reduceAdd, Nat.reduceLT, Nat.reduceLeDiff, Nat.reduceSub, Nat.reduceEqDiff, bq, tgs, vq]
              refine hK _ ?_
              clear hK K
              try refine vthen_n ?_
              refine VW.ret ⟨.inl rfl, _, rfl, ?_⟩
              rw [treeOk_false hlt ((ex false (b123.trans (by assumption))).trans hc)]
            · refine VW.skip ?_
              show vthen _ _ _ .normal _
              refine vthen_n ?_
              repeat refine VW.seq ?_
              refine VW.regl hT fun K hK => ?_
              simp only [List.replicate, List.set, List.map, List.any, List.append, Op.operands, dif_pos, gA, Call.operands, gB, gC, gD, gE, gF, gG, Nat.reduceMul, reduceCtorEq, Nat.reduceBEq, Nat.reduceAdd, Nat.reduceLT, Nat.reduceLeDiff, Nat.reduceSub, Nat.reduceEqDiff, bq, tgs, vq]
              refine hK _ ?_
              clear hK K
              try refine vthen_n ?_
              refine ⟨i + 1, ⟨by omega, fun k h => ?_⟩, ?_, by show t.length - (i + 1) < t.length - i; omega⟩
              · rcases Nat.lt_or_ge k i with h1 | h1
                · exact hk k h1
                · obtain rfl : k = i := by omega
                  exact (ex false (b123.trans (by assumption))).trans hc
              · simp only [norm, homeOne, moveTo, keepS, keepGo, usesOut, List.foldl, ren, renC, List.replicate, List.set, List.map, List.any, List.append, Op.operands, dif_pos, gA, Call.operands, gB, gC, gD, gE, gF, gG, Nat.reduceMul, reduceCtorEq, Nat.reduceBEq, Nat.reduceAdd, Nat.reduceLT, Nat.reduceLeDiff, Nat.reduceSub, Nat.reduceEqDiff, bq, tgs, vq]
                rw [wrap64 (by omega) (by omega)]
                rfl
        · refine hK _ ?_
          clear hK K
          try refine vthen_n ?_
          repeat refine VW.seq ?_
          refine VW.cond rfl (fun hc => ?_) (fun hc => ?_)
          · repeat refine VW.seq ?_
            refine VW.regl hT fun K hK => ?_
            simp only [List.replicate, List.set, List.map, List.any, List.append, Op.operands, dif_pos, gA, Call.operands, gB, gC, gD, gE, gF, gG, Nat.reduceMul, reduceCtorEq, Nat.reduceBEq, Nat.reduceAdd, Nat.reduceLT, Nat.reduceLeDiff, Nat.reduceSub, Nat.reduceEqDiff, bq, tgs, vq]
            refine hK _ ?_
            clear hK K
            try refine vthen_n ?_
            refine VW.ret ⟨.inl rfl, _, rfl, ?_⟩
            have g3' : inB n.2.1 0 3 = false := by simpa using g3
            rw [treeOk_false hlt ((ex true (by simp only [bad1, g3', Bool.not_false, Bool.true_or, Bool.or_true])).trans rfl)]
          · cases hc
      · refine hK _ ?_
        clear hK K
        try refine vthen_n ?_
        repeat refine VW.seq ?_
        refine VW.cond rfl (fun hc => ?_) (fun hc => ?_)
        · repeat refine VW.seq ?_
          refine VW.regl hT fun K hK => ?_
          simp only [List.replicate, List.set, List.map, List.any, List.append, Op.operands, dif_pos, gA, Call.operands, gB, gC, gD, gE, gF, gG, Nat.reduceMul, reduceCtorEq, Nat.reduceBEq, Nat.reduceAdd, Nat.reduceLT, Nat.reduceLeDiff, Nat.reduceSub, Nat.reduceEqDiff, bq, tgs, vq]
          refine hK _ ?_
          clear hK K
          try refine vthen_n ?_
          refine VW.ret ⟨.inl rfl, _, rfl, ?_⟩
          have g2' : ((t.getD n.1.toNat z).2.2 == 0) = false := by
            rw [← hg]; simpa using g2
          rw [treeOk_false hlt ((ex true (by simp only [bad1, g2', Bool.not_false, Bool.true_or, Bool.or_true])).trans rfl)]
        · cases hc
    · refine hK _ ?_
      clear hK K
      try refine vthen_n ?_
      repeat refine VW.seq ?_
      refine VW.cond rfl (fun hc => ?_) (fun hc => ?_)
      · repeat refine VW.seq ?_
        refine VW.regl hT fun K hK => ?_
        simp only [List.replicate, List.set, List.map, List.any, List.append, Op.operands, dif_pos, gA, Call.operands, gB, gC, gD, gE, gF, gG, Nat.reduceMul, reduceCtorEq, Nat.reduceBEq, Nat.reduceAdd, Nat.reduceLT, Nat.reduceLeDiff, Nat.reduceSub, Nat.reduceEqDiff, bq, tgs, vq]
        refine hK _ ?_
        clear hK K
        try refine vthen_n ?_
        refine VW.ret ⟨.inl rfl, _, rfl, ?_⟩
        have g1' : inB n.1 0 i = false := by simpa using g1
        rw [treeOk_false hlt ((ex true (by simp only [bad1, g1', Bool.not_false, Bool.true_or])).trans rfl)]
      · cases hc
  · have hge : t.length ≤ i + 1 := by
      have : ((t.length - 1 : Nat) : Int) ≤ (i : Int) := by rw [← htl]; simpa using hc
      omega
    refine VW.exit ?_
    show vthen _ _ _ .normal _
    refine vthen_n ?_
    repeat refine VW.seq ?_
    refine VW.regl hT fun K hK => ?_
    simp only [List.replicate, List.set, List.map, List.any, List.append, Op.operands, dif_pos, gA, Call.operands, gB, gC, gD, gE, gF, gG, Nat.reduceMul, reduceCtorEq, Nat.reduceBEq, Nat.reduceAdd, Nat.reduceLT, Nat.reduceLeDiff, Nat.reduceSub, Nat.reduceEqDiff, bq, tgs, vq]
    refine hK _ ?_
    clear hK K
    try refine vthen_n ?_
    refine VW.ret ⟨.inl rfl, _, rfl, ?_⟩
    rw [treeOk_true h1 h2 fun k hk' => hk k (by omega)]
theorem isNode_vc (t : List Nd) (k : Int) (hl : t.length ≤ 2000000) : VC Try.prog 111 [.v false sNS t, .v false (.int .i64) (k)] (· = .v false .bool (treeOk t && inB k 0 (t.length - 1))) := by
  refine VC.of_body hT Try.func111 rfl (by kernel_rfl) [(.tmp 4, false, .bool)] (by kernel_rfl) ?_
  show VW _ _ ([.v false sNS t, .v false (.int .i64) (k), D, D, D, D, D, D, D, D, D, D, D, D]) _
  repeat refine VW.seq ?_
  refine VW.regl hT fun K hK => ?_
  simp only [List.replicate, List.set, List.map, List.any, List.append, Op.operands, dif_pos, gA, Call.operands, gB, gC, gD, gE, gF, gG, Nat.reduceMul, reduceCtorEq, Nat.reduceBEq, Nat.reduceAdd, Nat.reduceLT, Nat.reduceLeDiff, Nat.reduceSub, Nat.reduceEqDiff, bq, tgs, vq]
  refine hK _ ?_
  clear hK K
  try refine vthen_n ?_
  repeat refine VW.seq ?_
  refine VW.regl hT fun K hK => ?_
  simp only [List.replicate, List.set, List.map, List.any, List.append, Op.operands, dif_pos, gA, Call.operands, gB, gC, gD, gE, gF, gG, Nat.reduceMul, reduceCtorEq, Nat.reduceBEq, Nat.reduceAdd, Nat.reduceLT, Nat.reduceLeDiff, Nat.reduceSub, Nat.reduceEqDiff, bq, tgs, vq]
  refine vcall_of (treeOk_vc t hl) ?_
  simp only [List.replicate, List.set, List.map, List.any, List.append, Op.operands, dif_pos, gA, Call.operands, gB, gC, gD, gE, gF, gG, Nat.reduceMul, reduceCtorEq, Nat.reduceBEq, Nat.reduceAdd, Nat.reduceLT, Nat.reduceLeDiff, Nat.reduceSub, Nat.reduceEqDiff, bq, tgs, vq]
  refine vbr (fun h => ?_) (fun h => ?_) <;> simp only [List.replicate, List.set, List.map, List.any, List.append, Op.operands, dif_pos, gA, Call.operands, gB, gC, gD, gE, gF, gG, Nat.reduceMul, reduceCtorEq, Nat.reduceBEq, Nat.reduceAdd, Nat.reduceLT, Nat.reduceLeDiff, Nat.reduceSub, Nat.reduceEqDiff, bq, tgs, vq]
  · rw [wrap64 (by omega) (by omega)]
    refine vcall_of (within_vc _ _ _) ?_
    simp only [List.replicate, List.set, List.map, List.any, List.append, Op.operands, dif_pos, gA, Call.operands, gB, gC, gD, gE, gF, gG, Nat.reduceMul, reduceCtorEq, Nat.reduceBEq, Nat.reduceAdd, Nat.reduceLT, Nat.reduceLeDiff, Nat.reduceSub, Nat.reduceEqDiff, bq, tgs, vq]
    refine hK _ ?_
    clear hK K
    try refine vthen_n ?_
    refine VW.ret ⟨.inl rfl, _, rfl, ?_⟩
    rw [h, Bool.true_and]
  · refine hK _ ?_
    clear hK K
    try refine vthen_n ?_
    refine VW.ret ⟨.inl rfl, _, rfl, ?_⟩
    have h : treeOk t = false := h
    rw [h, Bool.false_and]
theorem clone_vc (t : List Nd) (hl : t.length ≤ 2000000) : VC Try.prog 33 [.v false sNS t] (· = .root (.val false) sNS .own t) := by
  refine VC.of_body hT Try.func33 rfl (by kernel_rfl) [(.tmp 2, false, sNS)] (by kernel_rfl) ?_
  show VW _ _ ([.v false sNS t, D, D, D, D, D, D, D]) _
  repeat refine VW.seq ?_
  refine VW.regl hT fun K hK => ?_
  simp only [List.replicate, List.set, List.map, List.any, List.append, Op.operands, dif_pos, gA, Call.operands, gB, gC, gD, gE, gF, gG, Nat.reduceMul, reduceCtorEq, Nat.reduceBEq, Nat.reduceAdd, Nat.reduceLT, Nat.reduceLeDiff, Nat.reduceSub, Nat.reduceEqDiff, bq, tgs, vq]
  refine hK _ ?_
  clear hK K
  try refine vthen_n ?_
  repeat refine VW.seq ?_
  refine VW.regl hT fun K hK => ?_
  simp only [List.replicate, List.set, List.map, List.any, List.append, Op.operands, dif_pos, gA, Call.operands, gB, gC, gD, gE, gF, gG, Nat.reduceMul, reduceCtorEq, Nat.reduceBEq, Nat.reduceAdd, Nat.reduceLT, Nat.reduceLeDiff, Nat.reduceSub, Nat.reduceEqDiff, bq, tgs, vq]
  intro b hb
  refine hK _ ?_
  clear hK K
  try refine vthen_n ?_
  repeat refine VW.seq ?_
  refine VW.cond rfl (fun hc => ?_) (fun hc => ?_)
  · repeat refine VW.seq ?_
    refine VW.regl hT fun K hK => ?_
    simp only [List.replicate, List.set, List.map, List.any, List.append, Op.operands, dif_pos, gA, Call.operands, gB, gC, gD, gE, gF, gG, Nat.reduceMul, reduceCtorEq, Nat.reduceBEq, Nat.reduceAdd, Nat.reduceLT, Nat.reduceLeDiff, Nat.reduceSub, Nat.reduceEqDiff, bq, tgs, vq]
    refine hK _ ?_
    clear hK K
    try refine vthen_n ?_
    refine VW.ret ⟨.inl rfl, _, rfl, ?_⟩
    have : t = [] := by
      rcases Nat.eq_zero_or_pos t.length with h | h
      · exact List.eq_nil_of_length_eq_zero h
      · have := hb h; rw [this] at hc; cases hc
    subst this; rfl
  · refine VW.skip (vthen_n ?_)
    repeat refine VW.seq ?_
    refine VW.regl hT fun K hK => ?_
    simp only [List.replicate, List.set, List.map, List.any, List.append, Op.operands, dif_pos, gA, Call.operands, gB, gC, gD, gE, gF, gG, Nat.reduceMul, reduceCtorEq, Nat.reduceBEq, Nat.reduceAdd, Nat.reduceLT, Nat.reduceLeDiff, Nat.reduceSub, Nat.reduceEqDiff, bq, tgs, vq]
    refine ⟨by simp [limOk]; omega, ?_⟩
    refine hK _ ?_
    clear hK K
    try refine vthen_n ?_
    exact VW.ret ⟨.inl rfl, _, rfl, rfl⟩
end Go.Proofs.Ytmechjnfeidnkaa.V.W

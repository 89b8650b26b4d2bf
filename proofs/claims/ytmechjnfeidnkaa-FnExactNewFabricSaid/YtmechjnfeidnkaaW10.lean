/- spec.TreeOk walked. No condition. -/
import Derived.Test.YtmechjnfeidnkaaW2
set_option linter.unusedVariables false
set_option linter.unnecessarySimpa false
set_option linter.unusedSimpArgs false
namespace Go.Proofs.Ytmechjnfeidnkaa.V.W
open Go Go.RowKit
theorem eqN2 (x y : Nd) : eqv sN x y = (x == y) := eqN x y
set_option maxRecDepth 20000 in
theorem specTreeOk_vc (t : List Nd) (hl : t.length ≤ 2000000) : VC Try.prog 86 [.v false sNS t] (· = .v false .bool (treeOk t)) := by
  refine VC.of_body hT Try.func86 rfl (by kernel_rfl) [(.tmp 2, false, .bool)] (by kernel_rfl) ?_
  show VW _ _ ([.v false sNS t, D, D, D, D, D, D, D, D, D, D, D, D, D, D, D, D, D, D, D, D, D, D, D, D, D, D, D, D, D, D, D, D, D, D, D, D, D, D, D, D, D, D, D, D, D, D, D, D, D, D, D, D, D, D, D, D, D, D, D, D, D, D, D, D, D, D, D, D, D, D, D, D, D, D, D, D]) _
  repeat refine VW.seq ?_
  refine VW.regl hT fun K hK => ?_
  simp only [List.replicate, List.set, List.map, List.any, List.append, Op.operands, dif_pos, gA, Call.operands, gB, gC, gD, gE, gF, gG, Nat.reduceMul, reduceCtorEq, Nat.reduceBEq, Nat.reduceAdd, Nat.reduceLT, Nat.reduceLeDiff, Nat.reduceSub, Nat.reduceEqDiff, bq, tgs, vq]
  refine hK _ ?_
  clear hK K
  try refine vthen_n ?_
  repeat refine VW.seq ?_
  refine VW.regl hT fun K hK => ?_
  simp only [List.replicate, List.set, List.map, List.any, List.append, Op.operands, dif_pos, gA, Call.operands, gB, gC, gD, gE, gF, gG, Nat.reduceMul, reduceCtorEq, Nat.reduceBEq, Nat.reduceAdd, Nat.reduceLT, Nat.reduceLeDiff, Nat.reduceSub, Nat.reduceEqDiff, bq, tgs, vq]
  refine vcall_of (in_vc _ _ _) ?_
  simp only [List.replicate, List.set, List.map, List.any, List.append, Op.operands, dif_pos, gA, Call.operands, gB, gC, gD, gE, gF, gG, Nat.reduceMul, reduceCtorEq, Nat.reduceBEq, Nat.reduceAdd, Nat.reduceLT, Nat.reduceLeDiff, Nat.reduceSub, Nat.reduceEqDiff, bq, tgs, vq]
  refine vbr (fun h1 => ?_) (fun h1 => ?_) <;> simp only [List.replicate, List.set, List.map, List.any, List.append, Op.operands, dif_pos, gA, Call.operands, gB, gC, gD, gE, gF, gG, Nat.reduceMul, reduceCtorEq, Nat.reduceBEq, Nat.reduceAdd, Nat.reduceLT, Nat.reduceLeDiff, Nat.reduceSub, Nat.reduceEqDiff, bq, tgs, vq]
  case refine_2 =>
    refine hK _ ?_
    clear hK K
    try refine vthen_n ?_
    repeat refine VW.seq ?_
    refine VW.cond rfl (fun hc => ?_) (fun hc => ?_)
    · repeat refine VW.seq ?_
      refine VW.regl hT fun K hK => ?_
      simp only [List.replicate, List.set, List.map, List.any, List.append, Op.operands, dif_pos, gA, Call.operands, gB, gC, gD, gE, gF, gG, Nat.reduceMul, reduceCtorEq, Nat.reduceBEq, Nat.reduceAdd, Nat.reduceLT, Nat.reduceLeDiff, Nat.reduceSub, Nat.reduceEqDiff, bq, tgs, vq]
      refine hK _ ?_
      clear hK K
      try refine vthen_n ?_
      refine VW.ret ⟨.inl rfl, _, rfl, ?_⟩
      have h1 : inB t.length 1 12 = false := by simpa using h1
      simp only [treeOk, h1, Bool.false_and]
    · cases hc
  have h1 : inB t.length 1 12 = true := by simpa using h1
  have hlen := inB_iff.1 h1
  refine ⟨by simp; omega, ?_⟩
  refine hK _ ?_
  clear hK K
  try refine vthen_n ?_
  repeat refine VW.seq ?_
  refine VW.cond rfl (fun hc => ?_) (fun hc => ?_)
  · repeat refine VW.seq ?_
    refine VW.regl hT fun K hK => ?_
    simp only [List.replicate, List.set, List.map, List.any, List.append, Op.operands, dif_pos, gA, Call.operands, gB, gC, gD, gE, gF, gG, Nat.reduceMul, reduceCtorEq, Nat.reduceBEq, Nat.reduceAdd, Nat.reduceLT, Nat.reduceLeDiff, Nat.reduceSub, Nat.reduceEqDiff, bq, tgs, vq]
    refine hK _ ?_
    clear hK K
    try refine vthen_n ?_
    refine VW.ret ⟨.inl rfl, _, rfl, ?_⟩
    have hc' : (!eqv sN (t.getD 0 z) (-1, 0, 0)) = true := hc
    rw [eqN] at hc'
    have : (t.getD 0 z == (-1, 0, 0)) = false := by simpa using hc'
    have e : treeOk t = false := by simp only [treeOk, this, Bool.false_and, Bool.and_false]
    rw [e]
  have h2 : (t.getD 0 z == (-1, 0, 0)) = true := by
    have hc' : (!eqv sN (t.getD 0 z) (-1, 0, 0)) = false := hc
    rw [eqN] at hc'
    simpa using hc'
  have h20 : t.getD 0 z = (-1, 0, 0) := by simpa using h2
  refine VW.skip (vthen_n ?_)
  repeat refine VW.seq ?_
  refine VW.regl hT fun K hK => ?_
  simp only [List.replicate, List.set, List.map, List.any, List.append, Op.operands, dif_pos, gA, Call.operands, gB, gC, gD, gE, gF, gG, Nat.reduceMul, reduceCtorEq, Nat.reduceBEq, Nat.reduceAdd, Nat.reduceLT, Nat.reduceLeDiff, Nat.reduceSub, Nat.reduceEqDiff, bq, tgs, vq]
  refine hK _ ?_
  clear hK K
  try refine vthen_n ?_
  repeat refine VW.seq ?_
  refine VW.block ?_
  refine VW.loop (α := Nat) [(0, none), (3, none)] (fun i => [.v false sNS t, D, D, .v false (.int .i64) (((i + 1 : Nat) : Int)), D, D, D, D, D, D, D, D, D, D, D, D, D, D, D, D, D, D, D, D, D, D, D, D, D, D, D, D, D, D, D, D, D, D, D, D, D, D, D, D, D, D, D, D, D, D, D, D, D, D, D, D, D, D, D, D, D, D, D, D, D, D, D, D, D, D, D, D, D, D, D, D, D]) (fun i => i + 1 ≤ t.length ∧ ∀ k, k < i → bad t k = false) (fun i => t.length - i) ⟨0, ⟨by omega, fun k hk => by omega⟩, ?_⟩ fun i ⟨hi, hk⟩ => ?_
  · simp only [norm, homeOne, moveTo, keepS, keepGo, usesOut, List.foldl, ren, renC, List.replicate, List.set, List.map, List.any, List.append, Op.operands, dif_pos, gA, Call.operands, gB, gC, gD, gE, gF, gG, Nat.reduceMul, reduceCtorEq, Nat.reduceBEq, Nat.reduceAdd, Nat.reduceLT, Nat.reduceLeDiff, Nat.reduceSub, Nat.reduceEqDiff, bq, tgs, vq]
    rfl
  repeat refine VW.seq ?_
  refine VW.regl hT fun K hK => ?_
  simp only [List.replicate, List.set, List.map, List.any, List.append, Op.operands, dif_pos, gA, Call.operands, gB, gC, gD, gE, gF, gG, Nat.reduceMul, reduceCtorEq, Nat.reduceBEq, Nat.reduceAdd, Nat.reduceLT, Nat.reduceLeDiff, Nat.reduceSub, Nat.reduceEqDiff, bq, tgs, vq]
  refine hK _ ?_
  clear hK K
  try refine vthen_n ?_
  repeat refine VW.seq ?_
  refine VW.cond rfl (fun hc => ?_) (fun hc => ?_)
  · have hlt : i + 1 < t.length := by
      have : ((i + 1 : Nat) : Int) < (t.length : Int) := by simpa using hc
      omega
    refine VW.skip (vthen_n ?_)
    repeat refine VW.seq ?_
    refine VW.block ?_
    repeat refine VW.seq ?_
    refine VW.regl hT fun K hK => ?_
    simp only [List.replicate, List.set, List.map, List.any, List.append, Op.operands, dif_pos, gA, Call.operands, gB, gC, gD, gE, gF, gG, Nat.reduceMul, reduceCtorEq, Nat.reduceBEq, Nat.reduceAdd, Nat.reduceLT, Nat.reduceLeDiff, Nat.reduceSub, Nat.reduceEqDiff, bq, tgs, vq]
    refine ⟨decide_eq_true ⟨Int.natCast_nonneg _, by show ((i + 1 : Nat) : Int) < (t.length : Int); omega⟩, ?_⟩
    refine hK _ ?_
    clear hK K
    try refine vthen_n ?_
    generalize hn : (t.getD (i + 1) z : Nd) = n
    have ex : ∀ b : Bool, bad1 t i n = b → bad t i = (b || (t.take (i + 1)).any (same n)) := by
      intro b hb; unfold bad; rw [hn, hb]
    repeat refine VW.seq ?_
    refine VW.regl hT fun K hK => ?_
    simp only [List.replicate, List.set, List.map, List.any, List.append, Op.operands, dif_pos, gA, Call.operands, gB, gC, gD, gE, gF, gG, Nat.reduceMul, reduceCtorEq, Nat.reduceBEq, Nat.reduceAdd, Nat.reduceLT, Nat.reduceLeDiff, Nat.reduceSub, Nat.reduceEqDiff, bq, tgs, vq]
    have hw : IntKind.i64.wrap (((i + 1 : Nat) : Int) - 1) = (i : Int) := by rw [wrap64 (by omega) (by omega)]; omega
    rw [hw]
    refine vcall_of (in_vc _ _ _) ?_
    simp only [List.replicate, List.set, List.map, List.any, List.append, Op.operands, dif_pos, gA, Call.operands, gB, gC, gD, gE, gF, gG, Nat.reduceMul, reduceCtorEq, Nat.reduceBEq, Nat.reduceAdd, Nat.reduceLT, Nat.reduceLeDiff, Nat.reduceSub, Nat.reduceEqDiff, bq, tgs, vq]
    refine vbr (fun g1 => ?_) (fun g1 => ?_) <;> simp only [List.replicate, List.set, List.map, List.any, List.append, Op.operands, dif_pos, gA, Call.operands, gB, gC, gD, gE, gF, gG, Nat.reduceMul, reduceCtorEq, Nat.reduceBEq, Nat.reduceAdd, Nat.reduceLT, Nat.reduceLeDiff, Nat.reduceSub, Nat.reduceEqDiff, bq, tgs, vq]
    · have g1' : inB n.1 0 i = true := by simpa using g1
      have gi := inB_iff.1 g1'
      refine ⟨decide_eq_true ⟨gi.1, by show n.1 < (t.length : Int); omega⟩, ?_⟩
      refine vbr (fun g2 => ?_) (fun g2 => ?_) <;> simp only [List.replicate, List.set, List.map, List.any, List.append, Op.operands, dif_pos, gA, Call.operands, gB, gC, gD, gE, gF, gG, Nat.reduceMul, reduceCtorEq, Nat.reduceBEq, Nat.reduceAdd, Nat.reduceLT, Nat.reduceLeDiff, Nat.reduceSub, Nat.reduceEqDiff, bq, tgs, vq]
      · refine vcall_of (in_vc _ _ _) ?_
        simp only [List.replicate, List.set, List.map, List.any, List.append, Op.operands, dif_pos, gA, Call.operands, gB, gC, gD, gE, gF, gG, Nat.reduceMul, reduceCtorEq, Nat.reduceBEq, Nat.reduceAdd, Nat.reduceLT, Nat.reduceLeDiff, Nat.reduceSub, Nat.reduceEqDiff, bq, tgs, vq]
        refine vbr (fun g3 => ?_) (fun g3 => ?_) <;> simp only [List.replicate, List.set, List.map, List.any, List.append, Op.operands, dif_pos, gA, Call.operands, gB, gC, gD, gE, gF, gG, Nat.reduceMul, reduceCtorEq, Nat.reduceBEq, Nat.reduceAdd, Nat.reduceLT, Nat.reduceLeDiff, Nat.reduceSub, Nat.reduceEqDiff, bq, tgs, vq]
        · refine vcall_of (in_vc _ _ _) ?_
          simp only [List.replicate, List.set, List.map, List.any, List.append, Op.operands, dif_pos, gA, Call.operands, gB, gC, gD, gE, gF, gG, Nat.reduceMul, reduceCtorEq, Nat.reduceBEq, Nat.reduceAdd, Nat.reduceLT, Nat.reduceLeDiff, Nat.reduceSub, Nat.reduceEqDiff, bq, tgs, vq]
          refine hK _ ?_
          clear hK K
          try refine vthen_n ?_
          have b123 : bad1 t i n = !inB n.2.2 0 4 := by
            have g2' : ((t.getD n.1.toNat z).2.2 == 0) = true := by simpa using g2
            have g3' : inB n.2.1 0 3 = true := by simpa using g3
            simp only [bad1, g1', g2', g3', Bool.not_true, Bool.false_or]
          repeat refine VW.seq ?_
          refine VW.cond rfl (fun hc => ?_) (fun hc => ?_)
          · repeat refine VW.seq ?_
            refine VW.regl hT fun K hK => ?_
            simp only [List.replicate, List.set, List.map, List.any, List.append, Op.operands, dif_pos, gA, Call.operands, gB, gC, gD, gE, gF, gG, Nat.reduceMul, reduceCtorEq, Nat.reduceBEq, Nat.reduceAdd, Nat.reduceLT, Nat.reduceLeDiff, Nat.reduceSub, Nat.reduceEqDiff, bq, tgs, vq]
            refine hK _ ?_
            clear hK K
            try refine vthen_n ?_
            refine VW.ret ⟨.inl rfl, _, rfl, ?_⟩
            rw [treeOk_false hlt ((ex true (b123.trans hc)).trans rfl)]
          · have hb1 : bad1 t i n = false := b123.trans hc
            refine VW.skip ?_
            show vthen _ _ _ .normal _
            refine vthen_n ?_
            repeat refine VW.seq ?_
            refine VW.regl hT fun K hK => ?_
            simp only [List.replicate, List.set, List.map, List.any, List.append, Op.operands, dif_pos, gA, Call.operands, gB, gC, gD, gE, gF, gG, Nat.reduceMul, reduceCtorEq, Nat.reduceBEq, Nat.reduceAdd, Nat.reduceLT, Nat.reduceLeDiff, Nat.reduceSub, Nat.reduceEqDiff, bq, tgs, vq]
            refine hK _ ?_
            clear hK K
            try refine vthen_n ?_
            repeat refine VW.seq ?_
            refine VW.block ?_
            refine VW.loop (α := Nat) [(0, none), (3, none), (4, none), (5, none)] (fun j => [.v false sNS t, D, D, .v false (.int .i64) (((i + 1 : Nat) : Int)), .root (.box 71) sN .fz n, .v false (.int .i64) (((j + 1 : Nat) : Int)), D, D, D, D, D, D, D, D, D, D, D, D, D, D, D, D, D, D, D, D, D, D, D, D, D, D, D, D, D, D, D, D, D, D, D, D, D, D, D, D, D, D, D, D, D, D, D, D, D, D, D, D, D, D, D, D, D, D, D, D, D, D, D, D, D, D, D, D, D, D, D]) (fun j => j ≤ i ∧ ∀ k, k < j + 1 → same n (t.getD k z) = false) (fun j => t.length - j) ⟨0, ⟨by omega, fun k hk => ?_⟩, ?_⟩ fun j ⟨hj, hjk⟩ => ?_
            · obtain rfl : k = 0 := by omega
              rw [h20]
              have : ¬ (-1 : Int) = n.1 := by omega
              simp only [same]
              rw [show ((-1 : Int) == n.1) = false by simpa using this]
              rfl
            · simp only [norm, homeOne, moveTo, keepS, keepGo, usesOut, List.foldl, ren, renC, List.replicate, List.set, List.map, List.any, List.append, Op.operands, dif_pos, gA, Call.operands, gB, gC, gD, gE, gF, gG, Nat.reduceMul, reduceCtorEq, Nat.reduceBEq, Nat.reduceAdd, Nat.reduceLT, Nat.reduceLeDiff, Nat.reduceSub, Nat.reduceEqDiff, bq, tgs, vq]
              rfl
            repeat refine VW.seq ?_
            refine VW.regl hT fun K hK => ?_
            simp only [List.replicate, List.set, List.map, List.any, List.append, Op.operands, dif_pos, gA, Call.operands, gB, gC, gD, gE, gF, gG, Nat.reduceMul, reduceCtorEq, Nat.reduceBEq, Nat.reduceAdd, Nat.reduceLT, Nat.reduceLeDiff, Nat.reduceSub, Nat.reduceEqDiff, bq, tgs, vq]
            refine hK _ ?_
            clear hK K
            try refine vthen_n ?_
            repeat refine VW.seq ?_
            refine VW.cond rfl (fun hc => ?_) (fun hc => ?_)
            · have hjl : j + 1 < i + 1 := by
                have : ((j + 1 : Nat) : Int) < ((i + 1 : Nat) : Int) := by simpa using hc
                omega
              refine VW.skip (vthen_n ?_)
              repeat refine VW.seq ?_
              refine VW.block ?_
              repeat refine VW.seq ?_
              refine VW.drawl hT hm (by kernel_rfl) fun K hK => ?_
              simp only [List.replicate, List.set, List.map, List.any, List.append, Op.operands, dif_pos, gA, Call.operands, gB, gC, gD, gE, gF, gG, Nat.reduceMul, reduceCtorEq, Nat.reduceBEq, Nat.reduceAdd, Nat.reduceLT, Nat.reduceLeDiff, Nat.reduceSub, Nat.reduceEqDiff, bq, tgs, vq]
              have hjx : decide (0 ≤ ((j + 1 : Nat) : Int) ∧ ((j + 1 : Nat) : Int) < (t.length : Int)) = true := decide_eq_true ⟨by omega, by omega⟩
              have hin : t.getD (j + 1) z ∈ t.take (i + 1) := by
                rw [List.getD_eq_getElem?_getD, List.getElem?_eq_getElem (by omega)]
                have : (t.take (i + 1))[j + 1]? = some t[j + 1] := by rw [List.getElem?_take_of_lt (by omega), List.getElem?_eq_getElem (by omega)]
                exact List.mem_of_getElem? this
              refine ⟨hjx, by kernel_rfl, by kernel_rfl, ?_⟩
              refine vbr (fun q1 => ?_) (fun q1 => ?_) <;> simp only [List.replicate, List.set, List.map, List.any, List.append, Op.operands, dif_pos, gA, Call.operands, gB, gC, gD, gE, gF, gG, Nat.reduceMul, reduceCtorEq, Nat.reduceBEq, Nat.reduceAdd, Nat.reduceLT, Nat.reduceLeDiff, Nat.reduceSub, Nat.reduceEqDiff, bq, tgs, vq]
              · refine ⟨hjx, by kernel_rfl, by kernel_rfl, ?_⟩
                refine hK _ ?_
                clear hK K
                try refine vthen_n ?_
                repeat refine VW.seq ?_
                refine VW.cond rfl (fun hc => ?_) (fun hc => ?_)
                · repeat refine VW.seq ?_
                  refine VW.regl hT fun K hK => ?_
                  simp only [List.replicate, List.set, List.map, List.any, List.append, Op.operands, dif_pos, gA, Call.operands, gB, gC, gD, gE, gF, gG, Nat.reduceMul, reduceCtorEq, Nat.reduceBEq, Nat.reduceAdd, Nat.reduceLT, Nat.reduceLeDiff, Nat.reduceSub, Nat.reduceEqDiff, bq, tgs, vq]
                  refine hK _ ?_
                  clear hK K
                  try refine vthen_n ?_
                  refine VW.ret ⟨.inl rfl, _, rfl, ?_⟩
                  have q2 : ((t.getD (j + 1) z).2.1 == n.2.1) = true := hc
                  have q1' : ((t.getD (j + 1) z).1 == n.1) = true := q1
                  have : (t.take (i + 1)).any (same n) = true := by
                    rw [List.any_eq_true]
                    exact ⟨_, hin, by simp only [same, q1', q2, Bool.and_self]⟩
                  rw [treeOk_false hlt ((ex false hb1).trans this)]
                · refine VW.skip ?_
                  show vthen _ _ _ .normal _
                  refine vthen_n ?_
                  repeat refine VW.seq ?_
                  refine VW.regl hT fun K hK => ?_
                  simp only [List.replicate, List.set, List.map, List.any, List.append, Op.operands, dif_pos, gA, Call.operands, gB, gC, gD, gE, gF, gG, Nat.reduceMul, reduceCtorEq, Nat.reduceBEq, Nat.reduceAdd, Nat.reduceLT, Nat.reduceLeDiff, Nat.reduceSub, Nat.reduceEqDiff, bq, tgs, vq]
                  refine hK _ ?_
                  clear hK K
                  try refine vthen_n ?_
                  refine ⟨j + 1, ⟨by omega, fun k hk' => ?_⟩, ?_, by show t.length - (j + 1) < t.length - j; omega⟩
                  · rcases Nat.lt_or_ge k (j + 1) with h3 | h3
                    · exact hjk k h3
                    · obtain rfl : k = j + 1 := by omega
                      have q2 : ((t.getD (j + 1) z).2.1 == n.2.1) = false := hc
                      simp only [same, q2, Bool.and_false]
                  · simp only [norm, homeOne, moveTo, keepS, keepGo, usesOut, List.foldl, ren, renC, List.replicate, List.set, List.map, List.any, List.append, Op.operands, dif_pos, gA, Call.operands, gB, gC, gD, gE, gF, gG, Nat.reduceMul, reduceCtorEq, Nat.reduceBEq, Nat.reduceAdd, Nat.reduceLT, Nat.reduceLeDiff, Nat.reduceSub, Nat.reduceEqDiff, bq, tgs, vq]
                    rw [wrap64 (by omega) (by omega)]
                    rfl
              · refine hK _ ?_
                clear hK K
                try refine vthen_n ?_
                repeat refine VW.seq ?_
                refine VW.cond rfl (fun hc => ?_) (fun hc => ?_)
                · cases hc
                · refine VW.skip ?_
                  show vthen _ _ _ .normal _
                  refine vthen_n ?_
                  repeat refine VW.seq ?_
                  refine VW.regl hT fun K hK => ?_
                  simp only [List.replicate, List.set, List.map, List.any, List.append, Op.operands, dif_pos, gA, Call.operands, gB, gC, gD, gE, gF, gG, Nat.reduceMul, reduceCtorEq, Nat.reduceBEq, Nat.reduceAdd, Nat.reduceLT, Nat.reduceLeDiff, Nat.reduceSub, Nat.reduceEqDiff, bq, tgs, vq]
                  refine hK _ ?_
                  clear hK K
                  try refine vthen_n ?_
                  refine ⟨j + 1, ⟨by omega, fun k hk' => ?_⟩, ?_, by show t.length - (j + 1) < t.length - j; omega⟩
                  · rcases Nat.lt_or_ge k (j + 1) with h3 | h3
                    · exact hjk k h3
                    · obtain rfl : k = j + 1 := by omega
                      have q1' : ((t.getD (j + 1) z).1 == n.1) = false := q1
                      simp only [same, q1', Bool.false_and]
                  · simp only [norm, homeOne, moveTo, keepS, keepGo, usesOut, List.foldl, ren, renC, List.replicate, List.set, List.map, List.any, List.append, Op.operands, dif_pos, gA, Call.operands, gB, gC, gD, gE, gF, gG, Nat.reduceMul, reduceCtorEq, Nat.reduceBEq, Nat.reduceAdd, Nat.reduceLT, Nat.reduceLeDiff, Nat.reduceSub, Nat.reduceEqDiff, bq, tgs, vq]
                    rw [wrap64 (by omega) (by omega)]
                    rfl
            · have hje : j = i := by
                have : ¬ ((j + 1 : Nat) : Int) < ((i + 1 : Nat) : Int) := by simpa using hc
                omega
              subst hje
              have hno : (t.take (j + 1)).any (same n) = false := by
                rw [List.any_eq_false]
                intro x hx
                obtain ⟨k, hk1, rfl⟩ := List.mem_iff_getElem.1 hx
                have h3 := hjk k (by rw [List.length_take] at hk1; omega)
                rw [List.getD_eq_getElem?_getD, List.getElem?_eq_getElem (by rw [List.length_take] at hk1; omega)] at h3
                simpa using h3
              refine VW.exit ?_
              show vthen _ _ _ .normal _
              refine vthen_n ?_
              repeat refine VW.seq ?_
              refine VW.regl hT fun K hK => ?_
              simp only [List.replicate, List.set, List.map, List.any, List.append, Op.operands, dif_pos, gA, Call.operands, gB, gC, gD, gE, gF, gG, Nat.reduceMul, reduceCtorEq, Nat.reduceBEq, Nat.reduceAdd, Nat.reduceLT, Nat.reduceLeDiff, Nat.reduceSub, Nat.reduceEqDiff, bq, tgs, vq]
              refine hK _ ?_
              clear hK K
              try refine vthen_n ?_
              refine ⟨j + 1, ⟨by omega, fun k h => ?_⟩, ?_, by show t.length - (j + 1) < t.length - j; omega⟩
              · rcases Nat.lt_or_ge k j with h3 | h3
                · exact hk k h3
                · obtain rfl : k = j := by omega
                  exact (ex false hb1).trans hno
              · simp only [norm, homeOne, moveTo, keepS, keepGo, usesOut, List.foldl, ren, renC, List.replicate, List.set, List.map, List.any, List.append, Op.operands, dif_pos, gA, Call.operands, gB, gC, gD, gE, gF, gG, Nat.reduceMul, reduceCtorEq, Nat.reduceBEq, Nat.reduceAdd, Nat.reduceLT, Nat.reduceLeDiff, Nat.reduceSub, Nat.reduceEqDiff, bq, tgs, vq]
                rw [wrap64 (by omega) (by omega)]
                rfl
        · refine hK _ ?_
          clear hK K
          try refine vthen_n ?_
          repeat refine VW.seq ?_
          refine VW.cond rfl (fun hc => ?_) (fun hc => ?_)
          · repeat refine VW.seq ?_
            refine VW.regl hT fun K hK => ?_
            simp only [List.replicate, List.set, List.map, List.any, List.append, Op.operands, dif_pos, gA, Call.operands, gB, gC, gD, gE, gF, gG, Nat.reduceMul, reduceCtorEq, Nat.reduceBEq, Nat.reduceAdd, Nat.reduceLT, Nat.reduceLeDiff, Nat.reduceSub, Nat.reduceEqDiff, bq, tgs, vq]
            refine hK _ ?_
            clear hK K
            try refine vthen_n ?_
            refine VW.ret ⟨.inl rfl, _, rfl, ?_⟩
            have g3' : inB n.2.1 0 3 = false := by simpa using g3
            rw [treeOk_false hlt ((ex true (by simp only [bad1, g3', Bool.not_false, Bool.true_or, Bool.or_true])).trans rfl)]
          · cases hc
      · refine hK _ ?_
        clear hK K
        try refine vthen_n ?_
        repeat refine VW.seq ?_
        refine VW.cond rfl (fun hc => ?_) (fun hc => ?_)
        · repeat refine VW.seq ?_
          refine VW.regl hT fun K hK => ?_
          simp only [List.replicate, List.set, List.map, List.any, List.append, Op.operands, dif_pos, gA, Call.operands, gB, gC, gD, gE, gF, gG, Nat.reduceMul, reduceCtorEq, Nat.reduceBEq, Nat.reduceAdd, Nat.reduceLT, Nat.reduceLeDiff, Nat.reduceSub, Nat.reduceEqDiff, bq, tgs, vq]
          refine hK _ ?_
          clear hK K
          try refine vthen_n ?_
          refine VW.ret ⟨.inl rfl, _, rfl, ?_⟩
          have g2' : ((t.getD n.1.toNat z).2.2 == 0) = false := by simpa using g2
          rw [treeOk_false hlt ((ex true (by simp only [bad1, g2', Bool.not_false, Bool.true_or, Bool.or_true])).trans rfl)]
        · cases hc
    · refine hK _ ?_
      clear hK K
      try refine vthen_n ?_
      repeat refine VW.seq ?_
      refine VW.cond rfl (fun hc => ?_) (fun hc => ?_)
      · repeat refine VW.seq ?_
        refine VW.regl hT fun K hK => ?_
        simp only [List.replicate, List.set, List.map, List.any, List.append, Op.operands, dif_pos, gA, Call.operands, gB, gC, gD, gE, gF, gG, Nat.reduceMul, reduceCtorEq, Nat.reduceBEq, Nat.reduceAdd, Nat.reduceLT, Nat.reduceLeDiff, Nat.reduceSub, Nat.reduceEqDiff, bq, tgs, vq]
        refine hK _ ?_
        clear hK K
        try refine vthen_n ?_
        refine VW.ret ⟨.inl rfl, _, rfl, ?_⟩
        have g1' : inB n.1 0 i = false := by simpa using g1
        rw [treeOk_false hlt ((ex true (by simp only [bad1, g1', Bool.not_false, Bool.true_or])).trans rfl)]
      · cases hc
  · have hge : t.length ≤ i + 1 := by
      have : ¬ ((i + 1 : Nat) : Int) < (t.length : Int) := by simpa using hc
      omega
    refine VW.exit ?_
    show vthen _ _ _ .normal _
    refine vthen_n ?_
    repeat refine VW.seq ?_
    refine VW.regl hT fun K hK => ?_
    simp only [List.replicate, List.set, List.map, List.any, List.append, Op.operands, dif_pos, gA, Call.operands, gB, gC, gD, gE, gF, gG, Nat.reduceMul, reduceCtorEq, Nat.reduceBEq, Nat.reduceAdd, Nat.reduceLT, Nat.reduceLeDiff, Nat.reduceSub, Nat.reduceEqDiff, bq, tgs, vq]
    refine hK _ ?_
    clear hK K
    try refine vthen_n ?_
    refine VW.ret ⟨.inl rfl, _, rfl, ?_⟩
    rw [treeOk_true h1 h2 fun k hk' => hk k (by omega)]
end Go.Proofs.Ytmechjnfeidnkaa.V.W

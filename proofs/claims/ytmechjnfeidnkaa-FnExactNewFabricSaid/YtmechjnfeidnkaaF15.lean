/- spec.l20Visit walked. No condition. -/
import Derived.Test.YtmechjnfeidnkaaF14
set_option linter.unusedVariables false
set_option linter.unnecessarySimpa false
set_option linter.unusedSimpArgs false
namespace Go.Proofs.Ytmechjnfeidnkaa.V.W
open Go Go.RowKit
abbrev fI3 : Fl := .pr .own (.pr .own .own)
theorem io3 {x : I3} {l : List (Nat × Nat)} {fi : Fl} {li : List Value} (h : (tagF sI3 l).1 = fi) (k : encI sI3 fi x = some li) : ∃ n1 c1 n2 c2 n3 c3, fi = .pr (.io n1 c1) (.pr (.io n2 c2) (.io n3 c3)) ∧ li = [.slice (some ⟨n1, 0, none⟩) x.1.length c1, .slice (some ⟨n2, 0, none⟩) x.2.1.length c2, .slice (some ⟨n3, 0, none⟩) x.2.2.length c3] := by
  rcases l with _ | ⟨⟨n1, c1⟩, _ | ⟨⟨n2, c2⟩, _ | ⟨⟨n3, c3⟩, l⟩⟩⟩
  · subst h; cases k
  · subst h; cases k
  · subst h; cases k
  · subst h
    exact ⟨n1, c1, n2, c2, n3, c3, rfl, (Option.some.inj k).symm⟩
set_option maxRecDepth 20000 in
set_option maxHeartbeats 2000000 in
theorem svisit_vx {t : List Nd} (hok : treeOk t = true) : ∀ (f k : Nat), t.length - k ≤ f → k < t.length → ∀ (x : I3) (u : Nat), Len3 t.length x → u + subs t k ≤ 1000 →
    VX Try.prog 105 [.v false sNS t, .root (.val true) sI3 fI3 x, .v false (.int .i64) ((k : Nat)), .v false (.int .i64) ((u : Nat))] 1 (fun pv ot => pv = .v false (.int .i64) (((u + subs t k : Nat) : Int)) ∧ ∃ y : I3, Len3 t.length y ∧ ot = .root (.val true) sI3 fI3 y) := by
  have htl := treeOk_len hok
  intro f
  induction f with
  | zero =>
    intro k hf hk
    omega
  | succ f ih =>
    intro k hf hk x u hx hu
    obtain ⟨b0, s0, l0⟩ := x
    obtain ⟨hb0, hs0, hl0⟩ := hx
    have hb0 : b0.length = t.length := hb0
    have hs0 : s0.length = t.length := hs0
    have hl0 : l0.length = t.length := hl0
    have hperm := skids_perm hok hk
    have hcl : (skids t k).length ≤ 12 := by
      rw [hperm.length_eq]
      have := kids_len t k t.length
      omega
    have hsum : wsum (vis t) (skids t k) = subs t k := wsum_perm hperm
    refine VX.of_rows hT Try.func105 rfl (by kernel_rfl) [(.tmp 8, false, .int .i64)] (by kernel_rfl) rfl rfl ⟨by show 0 < b0.length; omega, by show 0 < s0.length; omega, by show 0 < l0.length; omega⟩ fun ll fi li e1 e2 => ?_
    obtain ⟨n1, c1, n2, c2, n3, c3, rfl, rfl⟩ := io3 e1 e2
    show VW _ _ ([.v false sNS t, .root (.val true) sI3 (.pr (.io n1 c1) (.pr (.io n2 c2) (.io n3 c3))) (b0, s0, l0), .v false (.int .i64) ((k : Nat)), .v false (.int .i64) ((u : Nat)), D, D, D, D, D, D, D, D, D, D, D, D, D, D, D, D, D, D, D, D, D, D, D, D, D, D, D, D, D, D, D, D, D, D, D, D, D, D, D, D, D, D, D, D, D, D, D, D, D, D, D, D, D, D, D, D, D, D, D, D, D]) _
    repeat refine VW.seq ?_
    refine VW.regl hT fun K hK => ?_
    simp only [List.replicate, List.set, List.map, List.any, List.append, Op.operands, dif_pos, gA, Call.operands, gB, gC, gD, gE, gF, gG, Nat.reduceMul, reduceCtorEq, Nat.reduceBEq, Nat.reduceAdd, Nat.reduceLT, Nat.reduceLeDiff, Nat.reduceSub, Nat.reduceEqDiff, bq, tgs, vq]
    refine hK _ ?_
    clear hK K
    try refine vthen_n ?_
    repeat refine VW.seq ?_
    refine VW.regl hT fun K hK => ?_
    simp only [List.replicate, List.set, List.map, List.any, List.append, Op.operands, dif_pos, gA, Call.operands, gB, gC, gD, gE, gF, gG, Nat.reduceMul, reduceCtorEq, Nat.reduceBEq, Nat.reduceAdd, Nat.reduceLT, Nat.reduceLeDiff, Nat.reduceSub, Nat.reduceEqDiff, bq, tgs, vq]
    refine vcall_of (specChildren_vc t k (by omega)) ?_
    generalize hL : skids t k = L at *
    simp only [List.replicate, List.set, List.map, List.any, List.append, Op.operands, dif_pos, gA, Call.operands, gB, gC, gD, gE, gF, gG, Nat.reduceMul, reduceCtorEq, Nat.reduceBEq, Nat.reduceAdd, Nat.reduceLT, Nat.reduceLeDiff, Nat.reduceSub, Nat.reduceEqDiff, bq, tgs, vq]
    refine hK _ ?_
    clear hK K
    try refine vthen_n ?_
    repeat refine VW.seq ?_
    refine VW.regl hT fun K hK => ?_
    simp only [List.replicate, List.set, List.map, List.any, List.append, Op.operands, dif_pos, gA, Call.operands, gB, gC, gD, gE, gF, gG, Nat.reduceMul, reduceCtorEq, Nat.reduceBEq, Nat.reduceAdd, Nat.reduceLT, Nat.reduceLeDiff, Nat.reduceSub, Nat.reduceEqDiff, bq, tgs, vq]
    refine hK _ ?_
    clear hK K
    try refine vthen_n ?_
    repeat refine VW.seq ?_
    refine VW.block ?_
    refine VW.loop (α := Nat × I3) [(0, none), (2, none), (3, none), (5, none), (9, none), (10, none)] (fun p => [.v false sNS t, D, .v false (.int .i64) ((k : Nat)), .v false (.int .i64) (((u + wsum (vis t) (L.take p.1) : Nat) : Int)), D, .root (.box 64) sI3 (.pr (.io n1 c1) (.pr (.io n2 c2) (.io n3 c3))) p.2, D, D, D, .root (.val false) sI .own L, .v false (.int .i64) ((p.1 : Nat)), D, D, D, D, D, D, D, D, D, D, D, D, D, D, D, D, D, D, D, D, D, D, D, D, D, D, D, D, D, D, D, D, D, D, D, D, D, D, D, D, D, D, D, D, D, D, D, D, D, D, D, D, D, D]) (fun p => p.1 ≤ L.length ∧ Len3 t.length p.2) (fun p => L.length - p.1) ⟨(0, b0, s0, l0), ⟨by omega, hb0, hs0, hl0⟩, ?_⟩ fun ⟨i, b, s, l⟩ ⟨hi, hb, hs, hl⟩ => ?_
    · simp only [norm, homeOne, moveTo, keepS, keepGo, usesOut, List.foldl, ren, renC, List.replicate, List.set, List.map, List.any, List.append, Op.operands, dif_pos, gA, Call.operands, gB, gC, gD, gE, gF, gG, Nat.reduceMul, reduceCtorEq, Nat.reduceBEq, Nat.reduceAdd, Nat.reduceLT, Nat.reduceLeDiff, Nat.reduceSub, Nat.reduceEqDiff, bq, tgs, vq]
      rfl
    have hi : i ≤ L.length := hi
    have hb : b.length = t.length := hb
    have hs : s.length = t.length := hs
    have hl : l.length = t.length := hl
    repeat refine VW.seq ?_
    refine VW.regl hT fun K hK => ?_
    simp only [List.replicate, List.set, List.map, List.any, List.append, Op.operands, dif_pos, gA, Call.operands, gB, gC, gD, gE, gF, gG, Nat.reduceMul, reduceCtorEq, Nat.reduceBEq, Nat.reduceAdd, Nat.reduceLT, Nat.reduceLeDiff, Nat.reduceSub, Nat.reduceEqDiff, bq, tgs, vq]
    refine hK _ ?_
    clear hK K
    try refine vthen_n ?_
    repeat refine VW.seq ?_
    refine VW.cond rfl (fun hc => ?_) (fun hc => ?_)
    · have hlt : i < L.length := by simpa using hc
      obtain ⟨c, hc0, h1, h2, h3, h4⟩ := kids_pos hok (hperm.mem_iff.1 (getD_mem hlt))
      have hle := wsum_le (vis t) L (i + 1)
      have htk := wsum_take (vis t) hlt
      have hv := vis_eq hok h2
      rw [hc0, Int.toNat_natCast] at htk
      refine VW.skip (vthen_n ?_)
      repeat refine VW.seq ?_
      refine VW.block ?_
      have hiL : decide (0 ≤ (i : Int) ∧ (i : Int) < (L.length : Int)) = true := decide_eq_true ⟨Int.natCast_nonneg _, by omega⟩
      repeat refine VW.seq ?_
      refine VW.mixl hT hm 0 11 (by kernel_rfl) fun K hK => ?_
      simp only [List.replicate, List.set, List.map, List.any, List.append, Op.operands, dif_pos, gA, Call.operands, gB, gC, gD, gE, gF, gG, Nat.reduceMul, reduceCtorEq, Nat.reduceBEq, Nat.reduceAdd, Nat.reduceLT, Nat.reduceLeDiff, Nat.reduceSub, Nat.reduceEqDiff, bq, tgs, vq]
      refine ⟨by kernel_rfl, by kernel_rfl, by kernel_rfl, by kernel_rfl, hiL, by kernel_rfl, by kernel_rfl, by kernel_rfl, by kernel_rfl, decide_eq_true ⟨Int.natCast_nonneg _, by show (k : Int) < (s.length : Int); omega⟩, by kernel_rfl, decide_eq_true ?_, ?_⟩
      · show 0 ≤ L.getD i 0 ∧ L.getD i 0 < (b.length : Int)
        rw [hc0]
        omega
      rw [show L.getD i 0 = (c : Int) from hc0]
      refine hK _ ?_
      clear hK K
      try refine vthen_n ?_
      have hb' : (b.set (Int.toNat (c : Int)) (s.getD k 0)).length = t.length := by rw [List.length_set]; exact hb
      generalize b.set (Int.toNat (c : Int)) (s.getD k 0) = b' at hb' ⊢
      clear hb
      repeat refine VW.seq ?_
      refine VW.regl hT fun K hK => ?_
      simp only [List.replicate, List.set, List.map, List.any, List.append, Op.operands, dif_pos, gA, Call.operands, gB, gC, gD, gE, gF, gG, Nat.reduceMul, reduceCtorEq, Nat.reduceBEq, Nat.reduceAdd, Nat.reduceLT, Nat.reduceLeDiff, Nat.reduceSub, Nat.reduceEqDiff, bq, tgs, vq]
      refine ⟨hiL, ?_⟩
      rw [show L.getD i 0 = (c : Int) from hc0]
      refine ⟨decide_eq_true ⟨Int.natCast_nonneg _, by show (c : Int) < (t.length : Int); omega⟩, ?_⟩
      refine hK _ ?_
      clear hK K
      try refine vthen_n ?_
      generalize hU : u + wsum (vis t) (L.take i) = U at *
      repeat refine VW.seq ?_
      refine VW.cond rfl (fun hc => ?_) (fun hc => ?_)
      · have hbr : (t.getD c z).2.2 = 0 := by simpa using hc
        rw [if_pos hbr] at hv
        repeat refine VW.seq ?_
        refine VW.regl hT fun K hK => ?_
        simp only [List.replicate, List.set, List.map, List.any, List.append, Op.operands, dif_pos, gA, Call.operands, gB, gC, gD, gE, gF, gG, Nat.reduceMul, reduceCtorEq, Nat.reduceBEq, Nat.reduceAdd, Nat.reduceLT, Nat.reduceLeDiff, Nat.reduceSub, Nat.reduceEqDiff, bq, tgs, vq]
        refine hK _ ?_
        clear hK K
        try refine vthen_n ?_
        rw [wrap64 (by omega) (by omega), show (U : Int) + 1 = ((U + 1 : Nat) : Int) by omega]
        refine VW.weak (weak_norm [(0, none), (2, none), (3, none), (5, none), (9, none), (10, none)] _) ?_
        simp only [norm, homeOne, moveTo, keepS, keepGo, usesOut, List.foldl, ren, renC, List.replicate, List.set, List.map, List.any, List.append, Op.operands, dif_pos, gA, Call.operands, gB, gC, gD, gE, gF, gG, Nat.reduceMul, reduceCtorEq, Nat.reduceBEq, Nat.reduceAdd, Nat.reduceLT, Nat.reduceLeDiff, Nat.reduceSub, Nat.reduceEqDiff, bq, tgs, vq]
        repeat refine VW.seq ?_
        refine VW.mixl hT hm 0 7 (by kernel_rfl) fun K hK => ?_
        simp only [List.replicate, List.set, List.map, List.any, List.append, Op.operands, dif_pos, gA, Call.operands, gB, gC, gD, gE, gF, gG, Nat.reduceMul, reduceCtorEq, Nat.reduceBEq, Nat.reduceAdd, Nat.reduceLT, Nat.reduceLeDiff, Nat.reduceSub, Nat.reduceEqDiff, bq, tgs, vq]
        refine ⟨by kernel_rfl, by kernel_rfl, by kernel_rfl, by kernel_rfl, hiL, by kernel_rfl, decide_eq_true ?_, ?_⟩
        · show 0 ≤ L.getD i 0 ∧ L.getD i 0 < (s.length : Int)
          rw [hc0]
          omega
        rw [show L.getD i 0 = (c : Int) from hc0]
        refine hK _ ?_
        clear hK K
        try refine vthen_n ?_
        have hs' : (s.set (Int.toNat (c : Int)) ((U + 1 : Nat) : Int)).length = t.length := by rw [List.length_set]; exact hs
        generalize s.set (Int.toNat (c : Int)) ((U + 1 : Nat) : Int) = s' at hs' ⊢
        clear hs
        refine VW.weak (weak_norm [(0, none), (2, none), (3, none), (5, none), (9, none), (10, none)] _) ?_
        simp only [norm, homeOne, moveTo, keepS, keepGo, usesOut, List.foldl, ren, renC, List.replicate, List.set, List.map, List.any, List.append, Op.operands, dif_pos, gA, Call.operands, gB, gC, gD, gE, gF, gG, Nat.reduceMul, reduceCtorEq, Nat.reduceBEq, Nat.reduceAdd, Nat.reduceLT, Nat.reduceLeDiff, Nat.reduceSub, Nat.reduceEqDiff, bq, tgs, vq]
        repeat refine VW.seq ?_
        refine VW.mixl hT hm 0 7 (by kernel_rfl) fun K hK => ?_
        simp only [List.replicate, List.set, List.map, List.any, List.append, Op.operands, dif_pos, gA, Call.operands, gB, gC, gD, gE, gF, gG, Nat.reduceMul, reduceCtorEq, Nat.reduceBEq, Nat.reduceAdd, Nat.reduceLT, Nat.reduceLeDiff, Nat.reduceSub, Nat.reduceEqDiff, bq, tgs, vq]
        refine ⟨by kernel_rfl, by kernel_rfl, by kernel_rfl, hiL, by kernel_rfl, ?_⟩
        rw [show L.getD i 0 = (c : Int) from hc0]
        refine vcall_io 1 ?_
        simp only [List.replicate, List.set, List.map, List.any, List.append, Op.operands, dif_pos, gA, Call.operands, gB, gC, gD, gE, gF, gG, Nat.reduceMul, reduceCtorEq, Nat.reduceBEq, Nat.reduceAdd, Nat.reduceLT, Nat.reduceLeDiff, Nat.reduceSub, Nat.reduceEqDiff, bq, tgs, vq]
        have hal := ih c (by omega) h2 (b', s', l) (U + 1) ⟨hb', hs', hl⟩ (by omega)
        have hrec := tagE (agg := true) (s := sI3) (fi := .pr (.io n1 c1) (.pr (.io n2 c2) (.io n3 c3))) (f0 := fI3) (x := (b', s', l)) (l := [.slice (some ⟨n1, 0, none⟩) b'.length c1, .slice (some ⟨n2, 0, none⟩) s'.length c2, .slice (some ⟨n3, 0, none⟩) l.length c3]) hal rfl rfl rfl (fun y hy => by
          obtain ⟨y1, y2, y3⟩ := hy
          show some [Value.slice (some ⟨n1, 0, none⟩) y.1.length c1, Value.slice (some ⟨n2, 0, none⟩) y.2.1.length c2, Value.slice (some ⟨n3, 0, none⟩) y.2.2.length c3] = some _
          rw [y1, y2, y3, hb', hs', hl])
        refine vxcall_ex hrec ?_
        rintro pv ot ⟨rfl, ⟨b2, s2, l2⟩, ⟨g1, g2, g3⟩, rfl⟩
        simp only [List.replicate, List.set, List.map, List.any, List.append, Op.operands, dif_pos, gA, Call.operands, gB, gC, gD, gE, gF, gG, Nat.reduceMul, reduceCtorEq, Nat.reduceBEq, Nat.reduceAdd, Nat.reduceLT, Nat.reduceLeDiff, Nat.reduceSub, Nat.reduceEqDiff, bq, tgs, vq]
        refine hK _ ?_
        clear hK K
        try refine vthen_n ?_
        show vthen _ _ _ .normal _
        refine vthen_n ?_
        repeat refine VW.seq ?_
        refine VW.regl hT fun K hK => ?_
        simp only [List.replicate, List.set, List.map, List.any, List.append, Op.operands, dif_pos, gA, Call.operands, gB, gC, gD, gE, gF, gG, Nat.reduceMul, reduceCtorEq, Nat.reduceBEq, Nat.reduceAdd, Nat.reduceLT, Nat.reduceLeDiff, Nat.reduceSub, Nat.reduceEqDiff, bq, tgs, vq]
        refine hK _ ?_
        clear hK K
        try refine vthen_n ?_
        rw [show U + 1 + subs t c = u + wsum (vis t) (L.take (i + 1)) by omega]
        refine ⟨(i + 1, b2, s2, l2), ⟨hlt, g1, g2, g3⟩, ?_, by show L.length - (i + 1) < L.length - i; omega⟩
        simp only [norm, homeOne, moveTo, keepS, keepGo, usesOut, List.foldl, ren, renC, List.replicate, List.set, List.map, List.any, List.append, Op.operands, dif_pos, gA, Call.operands, gB, gC, gD, gE, gF, gG, Nat.reduceMul, reduceCtorEq, Nat.reduceBEq, Nat.reduceAdd, Nat.reduceLT, Nat.reduceLeDiff, Nat.reduceSub, Nat.reduceEqDiff, bq, tgs, vq]
        rw [wrap64 (by omega) (by omega)]
        rfl
      · have hbr : ¬ (t.getD c z).2.2 = 0 := by simpa using hc
        rw [if_neg hbr] at hv
        refine VW.skip ?_
        show vthen _ _ _ .normal _
        refine vthen_n ?_
        repeat refine VW.seq ?_
        refine VW.regl hT fun K hK => ?_
        simp only [List.replicate, List.set, List.map, List.any, List.append, Op.operands, dif_pos, gA, Call.operands, gB, gC, gD, gE, gF, gG, Nat.reduceMul, reduceCtorEq, Nat.reduceBEq, Nat.reduceAdd, Nat.reduceLT, Nat.reduceLeDiff, Nat.reduceSub, Nat.reduceEqDiff, bq, tgs, vq]
        refine hK _ ?_
        clear hK K
        try refine vthen_n ?_
        rw [show U = u + wsum (vis t) (L.take (i + 1)) by omega]
        refine ⟨(i + 1, b', s, l), ⟨hlt, hb', hs, hl⟩, ?_, by show L.length - (i + 1) < L.length - i; omega⟩
        simp only [norm, homeOne, moveTo, keepS, keepGo, usesOut, List.foldl, ren, renC, List.replicate, List.set, List.map, List.any, List.append, Op.operands, dif_pos, gA, Call.operands, gB, gC, gD, gE, gF, gG, Nat.reduceMul, reduceCtorEq, Nat.reduceBEq, Nat.reduceAdd, Nat.reduceLT, Nat.reduceLeDiff, Nat.reduceSub, Nat.reduceEqDiff, bq, tgs, vq]
        rw [wrap64 (by omega) (by omega)]
        rfl
    · have hge : i = L.length := by
        have : L.length ≤ i := by simpa using hc
        omega
      subst hge
      refine VW.exit ?_
      show vthen _ _ _ .normal _
      refine vthen_n ?_
      rw [List.take_length, hsum]
      repeat refine VW.seq ?_
      refine VW.regl hT fun K hK => ?_
      simp only [List.replicate, List.set, List.map, List.any, List.append, Op.operands, dif_pos, gA, Call.operands, gB, gC, gD, gE, gF, gG, Nat.reduceMul, reduceCtorEq, Nat.reduceBEq, Nat.reduceAdd, Nat.reduceLT, Nat.reduceLeDiff, Nat.reduceSub, Nat.reduceEqDiff, bq, tgs, vq]
      refine ⟨decide_eq_true ⟨Int.natCast_nonneg _, by show (k : Int) < (l.length : Int); omega⟩, ?_⟩
      refine hK _ ?_
      clear hK K
      try refine vthen_n ?_
      repeat refine VW.seq ?_
      refine VW.regl hT fun K hK => ?_
      simp only [List.replicate, List.set, List.map, List.any, List.append, Op.operands, dif_pos, gA, Call.operands, gB, gC, gD, gE, gF, gG, Nat.reduceMul, reduceCtorEq, Nat.reduceBEq, Nat.reduceAdd, Nat.reduceLT, Nat.reduceLeDiff, Nat.reduceSub, Nat.reduceEqDiff, bq, tgs, vq]
      refine hK _ ?_
      clear hK K
      try refine vthen_n ?_
      have hl2 : (l.set k ((u + subs t k : Nat) : Int)).length = t.length := by rw [List.length_set]; exact hl
      refine VW.ret ⟨.inl rfl, _, _, _, _, rfl, ⟨5, _, rfl⟩, ?_, rfl, (b, s, l.set k ((u + subs t k : Nat) : Int)), ⟨hb, hs, hl2⟩, rfl⟩
      show some [Value.slice (some ⟨n1, 0, none⟩) b.length c1, Value.slice (some ⟨n2, 0, none⟩) s.length c2, Value.slice (some ⟨n3, 0, none⟩) (l.set k ((u + subs t k : Nat) : Int)).length c3] = some [Value.slice (some ⟨n1, 0, none⟩) b0.length c1, Value.slice (some ⟨n2, 0, none⟩) s0.length c2, Value.slice (some ⟨n3, 0, none⟩) l0.length c3]
      rw [hb, hs, hl2, hb0, hs0, hl0]
end Go.Proofs.Ytmechjnfeidnkaa.V.W

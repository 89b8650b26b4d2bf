/- The numbering of buses: (*numberer).visit walked. No condition. -/
import Derived.Test.YtmechjnfeidnkaaR3
set_option linter.unusedVariables false
set_option linter.unnecessarySimpa false
set_option linter.unusedSimpArgs false
namespace Go.Proofs.Ytmechjnfeidnkaa.V.W
open Go Go.RowKit
abbrev sI3 : Sh := .pr sI (.pr sI sI)
abbrev sNum : Sh := .pr sNS (.pr sI3 (.int .i64))
abbrev bNum : RK := .box 106
abbrev fNum (r : Fl) : Fl := .pr .fz (.pr (.pr .own (.pr .own .own)) r)
abbrev I3 := List Int × List Int × List Int
def Len3 (n : Nat) (x : I3) : Prop := x.1.length = n ∧ x.2.1.length = n ∧ x.2.2.length = n
def visR (t : List Nd) (u : Nat) (pv ot : PV) : Prop := ∃ (m : Int) (x : I3) (r : Fl), Len3 t.length x ∧ pv = .v false (.int .i64) (m) ∧ ot = .root bNum sNum (fNum r) (t, x, (u : Int))
set_option maxRecDepth 20000 in
set_option maxHeartbeats 2000000 in
theorem visit_vx {t : List Nd} (hok : treeOk t = true) : ∀ (f k : Nat), t.length - k ≤ f → k < t.length → ∀ (x : I3) (u : Nat) (bus : Int) (r : Fl), Len3 t.length x → u + subs t k ≤ 1000 →
    VX Try.prog 73 [.root bNum sNum (fNum r) (t, x, (u : Int)), .v false (.int .i64) ((k : Nat)), .v false (.int .i64) (bus)] 0 (visR t (u + subs t k)) := by
  have htl := treeOk_len hok
  intro f
  induction f with
  | zero =>
    intro k hf hk
    omega
  | succ f ih =>
    intro k hf hk x u bus r hx hu
    obtain ⟨b, s, l⟩ := x
    obtain ⟨hb, hs, hl⟩ := hx
    have hb : b.length = t.length := hb
    have hs : s.length = t.length := hs
    have hl : l.length = t.length := hl
    have hperm := children_perm hok hk
    have hcl : (children t k).length ≤ 12 := by
      rw [hperm.length_eq]
      have := kids_len t k t.length
      omega
    have hsum : wsum (vis t) (children t k) = subs t k := wsum_perm hperm
    refine VX.of_box hT Try.func73 rfl (by kernel_rfl) [(.tmp 6, false, .int .i64)] (by kernel_rfl) rfl fun bb => ?_
    show VW _ _ ([.root (.ibox 106 bb) sNum (fNum r) (t, (b, s, l), (u : Int)), .v false (.int .i64) ((k : Nat)), .v false (.int .i64) (bus), D, D, D, D, D, D, D, D, D, D, D, D, D, D, D, D, D, D, D, D, D, D, D, D, D, D, D, D, D, D, D, D, D, D, D, D, D, D, D, D, D, D, D, D, D, D, D, D, D, D, D, D, D, D, D, D, D, D, D, D, D, D, D, D, D, D, D]) _
    repeat refine VW.seq ?_
    refine VW.regl hT fun K hK => ?_
    simp only [List.replicate, List.set, List.map, List.any, List.append, Op.operands, dif_pos, gA, Call.operands, gB, gC, gD, gE, gF, gG, Nat.reduceMul, reduceCtorEq, Nat.reduceBEq, Nat.reduceAdd, Nat.reduceLT, Nat.reduceLeDiff, Nat.reduceSub, Nat.reduceEqDiff, bq, tgs, vq]
    refine hK _ ?_
    clear hK K
    try refine vthen_n ?_
    repeat refine VW.seq ?_
    refine VW.regl hT fun K hK => ?_
    simp only [List.replicate, List.set, List.map, List.any, List.append, Op.operands, dif_pos, gA, Call.operands, gB, gC, gD, gE, gF, gG, Nat.reduceMul, reduceCtorEq, Nat.reduceBEq, Nat.reduceAdd, Nat.reduceLT, Nat.reduceLeDiff, Nat.reduceSub, Nat.reduceEqDiff, bq, tgs, vq]
    refine ⟨decide_eq_true ⟨Int.natCast_nonneg _, by show (k : Int) < (s.length : Int); omega⟩, ?_⟩
    refine hK _ ?_
    clear hK K
    try refine vthen_n ?_
    repeat refine VW.seq ?_
    refine VW.regl hT fun K hK => ?_
    simp only [List.replicate, List.set, List.map, List.any, List.append, Op.operands, dif_pos, gA, Call.operands, gB, gC, gD, gE, gF, gG, Nat.reduceMul, reduceCtorEq, Nat.reduceBEq, Nat.reduceAdd, Nat.reduceLT, Nat.reduceLeDiff, Nat.reduceSub, Nat.reduceEqDiff, bq, tgs, vq]
    refine hK _ ?_
    clear hK K
    try refine vthen_n ?_
    repeat refine VW.seq ?_
    refine VW.regl hT fun K hK => ?_
    simp only [List.replicate, List.set, List.map, List.any, List.append, Op.operands, dif_pos, gA, Call.operands, gB, gC, gD, gE, gF, gG, Nat.reduceMul, reduceCtorEq, Nat.reduceBEq, Nat.reduceAdd, Nat.reduceLT, Nat.reduceLeDiff, Nat.reduceSub, Nat.reduceEqDiff, bq, tgs, vq]
    refine vcall_of (children_vc t k (by omega)) ?_
    generalize hL : children t k = L at *
    simp only [List.replicate, List.set, List.map, List.any, List.append, Op.operands, dif_pos, gA, Call.operands, gB, gC, gD, gE, gF, gG, Nat.reduceMul, reduceCtorEq, Nat.reduceBEq, Nat.reduceAdd, Nat.reduceLT, Nat.reduceLeDiff, Nat.reduceSub, Nat.reduceEqDiff, bq, tgs, vq]
    refine hK _ ?_
    clear hK K
    try refine vthen_n ?_
    have hs' : (s.set k bus).length = t.length := by rw [List.length_set]; exact hs
    generalize s.set k bus = s' at hs' ⊢
    clear hs
    repeat refine VW.seq ?_
    refine VW.block ?_
    refine VW.loop (α := Nat × Int × Fl × I3) [(0, none), (1, none), (2, none), (7, none), (24, none), (25, none), (26, none)] (fun p => [.root (.ibox 106 bb) sNum (fNum p.2.2.1) (t, p.2.2.2, ((u + wsum (vis t) (L.take p.1) : Nat) : Int)), .v false (.int .i64) ((k : Nat)), .v false (.int .i64) (bus), D, D, D, D, .v false (.int .i64) (p.2.1), D, D, D, D, D, D, D, D, D, D, D, D, D, D, D, D, .root (.val false) sI .own L, .v false (.int .i64) ((L.length : Nat)), .v false (.int .i64) ((p.1 : Nat)), D, D, D, D, D, D, D, D, D, D, D, D, D, D, D, D, D, D, D, D, D, D, D, D, D, D, D, D, D, D, D, D, D, D, D, D, D, D, D, D, D, D, D]) (fun p => p.1 ≤ L.length ∧ Len3 t.length p.2.2.2) (fun p => L.length - p.1) ⟨(0, bus, r, b, s', l), ⟨by omega, hb, hs', hl⟩, ?_⟩ fun ⟨i, last, r, b, s, l⟩ ⟨hi, hb, hs, hl⟩ => ?_
    · simp only [norm, homeOne, moveTo, keepS, keepGo, usesOut, List.foldl, ren, renC, List.replicate, List.set, List.map, List.any, List.append, Op.operands, dif_pos, gA, Call.operands, gB, gC, gD, gE, gF, gG, Nat.reduceMul, reduceCtorEq, Nat.reduceBEq, Nat.reduceAdd, Nat.reduceLT, Nat.reduceLeDiff, Nat.reduceSub, Nat.reduceEqDiff, bq, tgs, vq]
      rfl
    have hi : i ≤ L.length := hi
    have hb : b.length = t.length := hb
    have hs : s.length = t.length := hs
    have hl : l.length = t.length := hl
    repeat refine VW.seq ?_
    refine VW.regl hT fun K hK => ?_
    simp only [List.replicate, List.set, List.map, List.any, List.append, Op.operands, dif_pos, gA, Call.operands, gB, gC, gD, gE, gF, gG, Nat.reduceMul, reduceCtorEq, Nat.reduceBEq, Nat.reduceAdd, Nat.reduceLT, Nat.reduceLeDiff, Nat.reduceSub, Nat.reduceEqDiff, bq, tgs, vq]
    refine hK _ ?_
    clear hK K
    try refine vthen_n ?_
    repeat refine VW.seq ?_
    refine VW.cond rfl (fun hc => ?_) (fun hc => ?_)
    · have hlt : i < L.length := by simpa using hc
      obtain ⟨c, hc0, h1, h2, h3, h4⟩ := kids_pos hok (hperm.mem_iff.1 (getD_mem hlt))
      have hle := wsum_le (vis t) L (i + 1)
      have htk := wsum_take (vis t) hlt
      have hv := vis_eq hok h2
      rw [hc0, Int.toNat_natCast] at htk
      refine VW.skip (vthen_n ?_)
      repeat refine VW.seq ?_
      refine VW.block ?_
      repeat refine VW.seq ?_
      refine VW.regl hT fun K hK => ?_
      simp only [List.replicate, List.set, List.map, List.any, List.append, Op.operands, dif_pos, gA, Call.operands, gB, gC, gD, gE, gF, gG, Nat.reduceMul, reduceCtorEq, Nat.reduceBEq, Nat.reduceAdd, Nat.reduceLT, Nat.reduceLeDiff, Nat.reduceSub, Nat.reduceEqDiff, bq, tgs, vq]
      refine ⟨decide_eq_true ⟨Int.natCast_nonneg _, by show (i : Int) < (L.length : Int); omega⟩, ?_⟩
      rw [show L.getD i 0 = (c : Int) from hc0]
      refine hK _ ?_
      clear hK K
      try refine vthen_n ?_
      repeat refine VW.seq ?_
      refine VW.regl hT fun K hK => ?_
      simp only [List.replicate, List.set, List.map, List.any, List.append, Op.operands, dif_pos, gA, Call.operands, gB, gC, gD, gE, gF, gG, Nat.reduceMul, reduceCtorEq, Nat.reduceBEq, Nat.reduceAdd, Nat.reduceLT, Nat.reduceLeDiff, Nat.reduceSub, Nat.reduceEqDiff, bq, tgs, vq]
      refine ⟨decide_eq_true ⟨Int.natCast_nonneg _, by show (c : Int) < (b.length : Int); omega⟩, ?_⟩
      refine hK _ ?_
      clear hK K
      try refine vthen_n ?_
      have hb' : (b.set c bus).length = t.length := by rw [List.length_set]; exact hb
      generalize b.set c bus = b' at hb' ⊢
      clear hb
      repeat refine VW.seq ?_
      refine VW.regl hT fun K hK => ?_
      simp only [List.replicate, List.set, List.map, List.any, List.append, Op.operands, dif_pos, gA, Call.operands, gB, gC, gD, gE, gF, gG, Nat.reduceMul, reduceCtorEq, Nat.reduceBEq, Nat.reduceAdd, Nat.reduceLT, Nat.reduceLeDiff, Nat.reduceSub, Nat.reduceEqDiff, bq, tgs, vq]
      refine vcall_of (isBridge_vc t c (by omega) (by omega)) ?_
      simp only [List.replicate, List.set, List.map, List.any, List.append, Op.operands, dif_pos, gA, Call.operands, gB, gC, gD, gE, gF, gG, Nat.reduceMul, reduceCtorEq, Nat.reduceBEq, Nat.reduceAdd, Nat.reduceLT, Nat.reduceLeDiff, Nat.reduceSub, Nat.reduceEqDiff, bq, tgs, vq]
      refine hK _ ?_
      clear hK K
      try refine vthen_n ?_
      repeat refine VW.seq ?_
      refine VW.cond rfl (fun hc => ?_) (fun hc => ?_)
      · have hbr : (t.getD c z).2.2 = 0 := by simpa using hc
        rw [if_pos hbr] at hv
        generalize hU : u + wsum (vis t) (L.take i) = U at *
        repeat refine VW.seq ?_
        refine VW.regl hT fun K hK => ?_
        simp only [List.replicate, List.set, List.map, List.any, List.append, Op.operands, dif_pos, gA, Call.operands, gB, gC, gD, gE, gF, gG, Nat.reduceMul, reduceCtorEq, Nat.reduceBEq, Nat.reduceAdd, Nat.reduceLT, Nat.reduceLeDiff, Nat.reduceSub, Nat.reduceEqDiff, bq, tgs, vq]
        refine hK _ ?_
        clear hK K
        try refine vthen_n ?_
        rw [wrap64 (by omega) (by omega), show (U : Int) + 1 = ((U + 1 : Nat) : Int) by omega]
        repeat refine VW.seq ?_
        refine VW.regl hT fun K hK => ?_
        simp only [List.replicate, List.set, List.map, List.any, List.append, Op.operands, dif_pos, gA, Call.operands, gB, gC, gD, gE, gF, gG, Nat.reduceMul, reduceCtorEq, Nat.reduceBEq, Nat.reduceAdd, Nat.reduceLT, Nat.reduceLeDiff, Nat.reduceSub, Nat.reduceEqDiff, bq, tgs, vq]
        refine vcall_io 0 ?_
        simp only [List.replicate, List.set, List.map, List.any, List.append, Op.operands, dif_pos, gA, Call.operands, gB, gC, gD, gE, gF, gG, Nat.reduceMul, reduceCtorEq, Nat.reduceBEq, Nat.reduceAdd, Nat.reduceLT, Nat.reduceLeDiff, Nat.reduceSub, Nat.reduceEqDiff, bq, tgs, vq]
        refine vxcall_ex (ih c (by omega) h2 (b', s, l) (U + 1) ((U + 1 : Nat) : Int) _ ⟨hb', hs, hl⟩ (by omega)) ?_
        rintro pv ot ⟨m, ⟨b2, s2, l2⟩, r2, ⟨g1, g2, g3⟩, rfl, rfl⟩
        simp only [List.replicate, List.set, List.map, List.any, List.append, Op.operands, dif_pos, gA, Call.operands, gB, gC, gD, gE, gF, gG, Nat.reduceMul, reduceCtorEq, Nat.reduceBEq, Nat.reduceAdd, Nat.reduceLT, Nat.reduceLeDiff, Nat.reduceSub, Nat.reduceEqDiff, bq, tgs, vq]
        refine hK _ ?_
        clear hK K
        try refine vthen_n ?_
        show vthen _ _ _ .normal _
        refine vthen_n ?_
        repeat refine VW.seq ?_
        refine VW.regl hT fun K hK => ?_
        simp only [List.replicate, List.set, List.map, List.any, List.append, Op.operands, dif_pos, gA, Call.operands, gB, gC, gD, gE, gF, gG, Nat.reduceMul, reduceCtorEq, Nat.reduceBEq, Nat.reduceAdd, Nat.reduceLT, Nat.reduceLeDiff, Nat.reduceSub, Nat.reduceEqDiff, bq, tgs, vq]
        refine hK _ ?_
        clear hK K
        try refine vthen_n ?_
        rw [show U + 1 + subs t c = u + wsum (vis t) (L.take (i + 1)) by omega]
        refine ⟨(i + 1, if last < m then m else last, r2, b2, s2, l2), ⟨hlt, g1, g2, g3⟩, ?_, by show L.length - (i + 1) < L.length - i; omega⟩
        simp only [norm, homeOne, moveTo, keepS, keepGo, usesOut, List.foldl, ren, renC, List.replicate, List.set, List.map, List.any, List.append, Op.operands, dif_pos, gA, Call.operands, gB, gC, gD, gE, gF, gG, Nat.reduceMul, reduceCtorEq, Nat.reduceBEq, Nat.reduceAdd, Nat.reduceLT, Nat.reduceLeDiff, Nat.reduceSub, Nat.reduceEqDiff, bq, tgs, vq]
        rw [wrap64 (by omega) (by omega)]
        rfl
      · have hbr : ¬ (t.getD c z).2.2 = 0 := by simpa using hc
        rw [if_neg hbr] at hv
        refine VW.skip ?_
        show vthen _ _ _ .normal _
        refine vthen_n ?_
        repeat refine VW.seq ?_
        refine VW.regl hT fun K hK => ?_
        simp only [List.replicate, List.set, List.map, List.any, List.append, Op.operands, dif_pos, gA, Call.operands, gB, gC, gD, gE, gF, gG, Nat.reduceMul, reduceCtorEq, Nat.reduceBEq, Nat.reduceAdd, Nat.reduceLT, Nat.reduceLeDiff, Nat.reduceSub, Nat.reduceEqDiff, bq, tgs, vq]
        refine hK _ ?_
        clear hK K
        try refine vthen_n ?_
        rw [show wsum (vis t) (L.take i) = wsum (vis t) (L.take (i + 1)) by omega]
        refine ⟨(i + 1, last, r, b', s, l), ⟨hlt, hb', hs, hl⟩, ?_, by show L.length - (i + 1) < L.length - i; omega⟩
        simp only [norm, homeOne, moveTo, keepS, keepGo, usesOut, List.foldl, ren, renC, List.replicate, List.set, List.map, List.any, List.append, Op.operands, dif_pos, gA, Call.operands, gB, gC, gD, gE, gF, gG, Nat.reduceMul, reduceCtorEq, Nat.reduceBEq, Nat.reduceAdd, Nat.reduceLT, Nat.reduceLeDiff, Nat.reduceSub, Nat.reduceEqDiff, bq, tgs, vq]
        rw [wrap64 (by omega) (by omega)]
        rfl
    · have hge : i = L.length := by
        have : L.length ≤ i := by simpa using hc
        omega
      subst hge
      refine VW.exit ?_
      show vthen _ _ _ .normal _
      refine vthen_n ?_
      rw [List.take_length, hsum]
      repeat refine VW.seq ?_
      refine VW.regl hT fun K hK => ?_
      simp only [List.replicate, List.set, List.map, List.any, List.append, Op.operands, dif_pos, gA, Call.operands, gB, gC, gD, gE, gF, gG, Nat.reduceMul, reduceCtorEq, Nat.reduceBEq, Nat.reduceAdd, Nat.reduceLT, Nat.reduceLeDiff, Nat.reduceSub, Nat.reduceEqDiff, bq, tgs, vq]
      refine ⟨decide_eq_true ⟨Int.natCast_nonneg _, by show (k : Int) < (l.length : Int); omega⟩, ?_⟩
      refine hK _ ?_
      clear hK K
      try refine vthen_n ?_
      repeat refine VW.seq ?_
      refine VW.regl hT fun K hK => ?_
      simp only [List.replicate, List.set, List.map, List.any, List.append, Op.operands, dif_pos, gA, Call.operands, gB, gC, gD, gE, gF, gG, Nat.reduceMul, reduceCtorEq, Nat.reduceBEq, Nat.reduceAdd, Nat.reduceLT, Nat.reduceLeDiff, Nat.reduceSub, Nat.reduceEqDiff, bq, tgs, vq]
      refine hK _ ?_
      clear hK K
      try refine vthen_n ?_
      exact VW.ret ⟨.inl rfl, _, _, _, _, rfl, ⟨0, rfl⟩, last, (b, s, l.set k last), r, ⟨hb, hs, by show (l.set k last).length = _; rw [List.length_set]; exact hl⟩, rfl, rfl⟩
end Go.Proofs.Ytmechjnfeidnkaa.V.W

/- Marks on guards and fabrics. No condition. -/
import Derived.Test.YtmechjnfeidnkaaM2
set_option linter.unusedVariables false
set_option linter.unnecessarySimpa false
set_option linter.unusedSimpArgs false
namespace Go.Proofs.Ytmechjnfeidnkaa.V.W
open Go Go.RowKit
set_option maxRecDepth 20000 in
theorem markGuard_vx (g : List Bool) (k : Int) (h0 : 0 < g.length) (hl : g.length ≤ 2000000) (hk0 : 0 ≤ k) (hk1 : k ≤ 100000000) : VX Try.prog 47 [.root (.val true) sG .own g, .v false (.int .i64) (k)] 0 (fun pv ot => pv = .v false (.int .i64) (k + ((1 * g.length : Nat) : Int)) ∧ ot = .root (.val true) sG .own (mkR gBoolS 1 k g.length)) := by
  refine VX.of_rows hT Try.func47 rfl (by kernel_rfl) [(.tmp 4, false, .int .i64)] (by kernel_rfl) rfl rfl h0 fun l fi li e1 e2 => ?_
  obtain ⟨n, cp, rfl, rfl⟩ := io1 e1 e2
  show VW _ _ ([.root (.val true) sG (.io n cp) g, .v false (.int .i64) (k), D, D, D, D, D, D, D, D]) _
  repeat refine VW.seq ?_
  refine VW.regl hT fun K hK => ?_
  simp only [List.replicate, List.set, List.map, List.any, List.append, Op.operands, dif_pos, gA, Call.operands, gB, gC, gD, gE, gF, gG, Nat.reduceMul, reduceCtorEq, Nat.reduceBEq, Nat.reduceAdd, Nat.reduceLT, Nat.reduceLeDiff, Nat.reduceSub, Nat.reduceEqDiff, bq, tgs, vq]
  refine hK _ ?_
  clear hK K
  try refine vthen_n ?_
  repeat refine VW.seq ?_
  refine VW.regl hT fun K hK => ?_
  simp only [List.replicate, List.set, List.map, List.any, List.append, Op.operands, dif_pos, gA, Call.operands, gB, gC, gD, gE, gF, gG, Nat.reduceMul, reduceCtorEq, Nat.reduceBEq, Nat.reduceAdd, Nat.reduceLT, Nat.reduceLeDiff, Nat.reduceSub, Nat.reduceEqDiff, bq, tgs, vq]
  refine vcall_io 0 ?_
  simp only [List.replicate, List.set, List.map, List.any, List.append, Op.operands, dif_pos, gA, Call.operands, gB, gC, gD, gE, gF, gG, Nat.reduceMul, reduceCtorEq, Nat.reduceBEq, Nat.reduceAdd, Nat.reduceLT, Nat.reduceLeDiff, Nat.reduceSub, Nat.reduceEqDiff, bq, tgs, vq]
  refine vxcall_of (VX.tag1 (markBoolS_vx g k hl hk0 hk1) rfl rfl rfl (by show some [Value.slice (some ⟨n, 0, none⟩) (mkR gBoolS 1 k g.length).length cp] = _; rw [mkR_len])) ?_
  simp only [List.replicate, List.set, List.map, List.any, List.append, Op.operands, dif_pos, gA, Call.operands, gB, gC, gD, gE, gF, gG, Nat.reduceMul, reduceCtorEq, Nat.reduceBEq, Nat.reduceAdd, Nat.reduceLT, Nat.reduceLeDiff, Nat.reduceSub, Nat.reduceEqDiff, bq, tgs, vq]
  refine hK _ ?_
  clear hK K
  try refine vthen_n ?_
  repeat refine VW.seq ?_
  refine VW.regl hT fun K hK => ?_
  simp only [List.replicate, List.set, List.map, List.any, List.append, Op.operands, dif_pos, gA, Call.operands, gB, gC, gD, gE, gF, gG, Nat.reduceMul, reduceCtorEq, Nat.reduceBEq, Nat.reduceAdd, Nat.reduceLT, Nat.reduceLeDiff, Nat.reduceSub, Nat.reduceEqDiff, bq, tgs, vq]
  refine hK _ ?_
  clear hK K
  try refine vthen_n ?_
  refine VW.ret ⟨.inl rfl, _, _, _, _, rfl, ⟨2, _, rfl⟩, ?_, rfl, rfl⟩
  show some [Value.slice (some ⟨n, 0, none⟩) (mkR gBoolS 1 k g.length).length cp] = some [Value.slice (some ⟨n, 0, none⟩) g.length cp]
  rw [mkR_len]
set_option maxRecDepth 20000 in
theorem heldGuard_vc (n : Nat) (k : Int) (hl : n ≤ 2000000) (hk0 : 0 ≤ k) (hk1 : k ≤ 100000000) : VC Try.prog 52 [.v true sG (mkR gBoolS 1 k n), .v false (.int .i64) (k)] (· = .v false (.int .i64) (k + ((1 * n : Nat) : Int))) := by
  refine VC.of_body hT Try.func52 rfl (by kernel_rfl) [(.tmp 4, false, .int .i64)] (by kernel_rfl) ?_
  show VW _ _ ([.v true sG (mkR gBoolS 1 k n), .v false (.int .i64) (k), D, D, D, D, D, D, D, D, D, D]) _
  repeat refine VW.seq ?_
  refine VW.regl hT fun K hK => ?_
  simp only [List.replicate, List.set, List.map, List.any, List.append, Op.operands, dif_pos, gA, Call.operands, gB, gC, gD, gE, gF, gG, Nat.reduceMul, reduceCtorEq, Nat.reduceBEq, Nat.reduceAdd, Nat.reduceLT, Nat.reduceLeDiff, Nat.reduceSub, Nat.reduceEqDiff, bq, tgs, vq]
  refine hK _ ?_
  clear hK K
  try refine vthen_n ?_
  repeat refine VW.seq ?_
  refine VW.regl hT fun K hK => ?_
  simp only [List.replicate, List.set, List.map, List.any, List.append, Op.operands, dif_pos, gA, Call.operands, gB, gC, gD, gE, gF, gG, Nat.reduceMul, reduceCtorEq, Nat.reduceBEq, Nat.reduceAdd, Nat.reduceLT, Nat.reduceLeDiff, Nat.reduceSub, Nat.reduceEqDiff, bq, tgs, vq]
  refine vcall_of (heldBoolS_vc n k hl hk0 hk1) ?_
  simp only [List.replicate, List.set, List.map, List.any, List.append, Op.operands, dif_pos, gA, Call.operands, gB, gC, gD, gE, gF, gG, Nat.reduceMul, reduceCtorEq, Nat.reduceBEq, Nat.reduceAdd, Nat.reduceLT, Nat.reduceLeDiff, Nat.reduceSub, Nat.reduceEqDiff, bq, tgs, vq]
  refine hK _ ?_
  clear hK K
  try refine vthen_n ?_
  repeat refine VW.seq ?_
  refine VW.regl hT fun K hK => ?_
  simp only [List.replicate, List.set, List.map, List.any, List.append, Op.operands, dif_pos, gA, Call.operands, gB, gC, gD, gE, gF, gG, Nat.reduceMul, reduceCtorEq, Nat.reduceBEq, Nat.reduceAdd, Nat.reduceLT, Nat.reduceLeDiff, Nat.reduceSub, Nat.reduceEqDiff, bq, tgs, vq]
  refine hK _ ?_
  clear hK K
  try refine vthen_n ?_
  repeat refine VW.seq ?_
  refine VW.cond rfl (fun hc => ?_) (fun hc => ?_)
  · have hc : k + ((1 * n : Nat) : Int) < 0 := of_decide_eq_true hc
    omega
  refine VW.skip (vthen_n ?_)
  repeat refine VW.seq ?_
  refine VW.regl hT fun K hK => ?_
  simp only [List.replicate, List.set, List.map, List.any, List.append, Op.operands, dif_pos, gA, Call.operands, gB, gC, gD, gE, gF, gG, Nat.reduceMul, reduceCtorEq, Nat.reduceBEq, Nat.reduceAdd, Nat.reduceLT, Nat.reduceLeDiff, Nat.reduceSub, Nat.reduceEqDiff, bq, tgs, vq]
  refine hK _ ?_
  clear hK K
  try refine vthen_n ?_
  exact VW.ret ⟨.inl rfl, _, rfl, rfl⟩
def kA (k : Int) (x : Fab) : Int := k + ((3 * x.1.length : Nat) : Int)
def kB (k : Int) (x : Fab) : Int := kA k x + ((1 * x.2.1.length : Nat) : Int)
def kC (k : Int) (x : Fab) : Int := kB k x + ((2 * x.2.2.1.length : Nat) : Int)
def kD (k : Int) (x : Fab) : Int := kC k x + (tot x.2.2.2.1 x.2.2.2.1.length : Nat)
def kE (k : Int) (x : Fab) : Int := kD k x + ((1 * x.2.2.2.2.length : Nat) : Int)
def mkFab (k : Int) (x : Fab) : Fab := (mkR gNodeS 3 k x.1.length, mkR gIntS 1 (kA k x) x.2.1.length, mkR gBarS 2 (kB k x) x.2.2.1.length, mkII (kC k x) x.2.2.2.1 x.2.2.2.1.length, mkR gBoolS 1 (kD k x) x.2.2.2.2.length)
structure FabS (x : Fab) : Prop where
  a : x.1.length ≤ 2000000
  b : x.2.1.length ≤ 2000000
  c : x.2.2.1.length ≤ 2000000
  d : x.2.2.2.1.length ≤ 2000000
  e : tot x.2.2.2.1 x.2.2.2.1.length ≤ 2000000
  f : x.2.2.2.2.length ≤ 2000000
theorem io5 {x : Fab} {l : List (Nat × Nat)} {fi : Fl} {li : List Value} (h : (tagF sFi l).1 = fi) (k : encI sFi fi x = some li) : ∃ n1 c1 n2 c2 n3 c3 n4 c4 n5 c5, fi = .pr (.io n1 c1) (.pr (.io n2 c2) (.pr (.io n3 c3) (.pr (.io n4 c4) (.io n5 c5)))) ∧ li = [.slice (some ⟨n1, 0, none⟩) x.1.length c1, .slice (some ⟨n2, 0, none⟩) x.2.1.length c2, .slice (some ⟨n3, 0, none⟩) x.2.2.1.length c3, .slice (some ⟨n4, 0, none⟩) x.2.2.2.1.length c4, .slice (some ⟨n5, 0, none⟩) x.2.2.2.2.length c5] := by
  rcases l with _ | ⟨⟨n1, c1⟩, _ | ⟨⟨n2, c2⟩, _ | ⟨⟨n3, c3⟩, _ | ⟨⟨n4, c4⟩, _ | ⟨⟨n5, c5⟩, l⟩⟩⟩⟩⟩
  · subst h; cases k
  · subst h; cases k
  · subst h; cases k
  · subst h; cases k
  · subst h; cases k
  · subst h
    exact ⟨n1, c1, n2, c2, n3, c3, n4, c4, n5, c5, rfl, (Option.some.inj k).symm⟩
set_option maxRecDepth 20000 in
set_option maxHeartbeats 1000000 in
theorem markFabric_vx (x : Fab) (k : Int) (hx : FabS x) (h1 : 0 < x.1.length) (h2 : 0 < x.2.1.length) (h3 : 0 < x.2.2.1.length) (h4 : 0 < x.2.2.2.1.length) (h5 : 0 < x.2.2.2.2.length) (hk0 : 0 ≤ k) (hk1 : k ≤ 1000000) : VX Try.prog 21 [.root (.val true) sFi fFab x, .v false (.int .i64) (k)] 0 (fun pv ot => pv = .v false (.int .i64) (kE k x) ∧ ot = .root (.val true) sFi fFab (mkFab k x)) := by
  obtain ⟨t, s, b, m, g⟩ := x
  have ha : t.length ≤ 2000000 := hx.a
  have hb : s.length ≤ 2000000 := hx.b
  have hcc : b.length ≤ 2000000 := hx.c
  have hdd : m.length ≤ 2000000 := hx.d
  have he : tot m m.length ≤ 2000000 := hx.e
  have hf : g.length ≤ 2000000 := hx.f
  refine VX.of_rows hT Try.func21 rfl (by kernel_rfl) [(.tmp 4, false, .int .i64)] (by kernel_rfl) rfl rfl ⟨h1, h2, h3, h4, h5⟩ fun l fi li e1 e2 => ?_
  obtain ⟨n1, c1, n2, c2, n3, c3, n4, c4, n5, c5, rfl, rfl⟩ := io5 e1 e2
  show VW _ _ ([.root (.val true) sFi (.pr (.io n1 c1) (.pr (.io n2 c2) (.pr (.io n3 c3) (.pr (.io n4 c4) (.io n5 c5))))) (t, s, b, m, g), .v false (.int .i64) (k), D, D, D, D, D, D, D, D, D, D, D, D, D, D, D, D, D, D, D, D, D, D, D, D]) _
  have dA : kA k (t, s, b, m, g) = k + ((3 * t.length : Nat) : Int) := rfl
  have dB : kB k (t, s, b, m, g) = kA k (t, s, b, m, g) + ((1 * s.length : Nat) : Int) := rfl
  have dC : kC k (t, s, b, m, g) = kB k (t, s, b, m, g) + ((2 * b.length : Nat) : Int) := rfl
  have dD : kD k (t, s, b, m, g) = kC k (t, s, b, m, g) + (tot m m.length : Nat) := rfl
  have dE : kE k (t, s, b, m, g) = kD k (t, s, b, m, g) + ((1 * g.length : Nat) : Int) := rfl
  have hF : mkFab k (t, s, b, m, g) = (mkR gNodeS 3 k t.length, mkR gIntS 1 (kA k (t, s, b, m, g)) s.length, mkR gBarS 2 (kB k (t, s, b, m, g)) b.length, mkII (kC k (t, s, b, m, g)) m m.length, mkR gBoolS 1 (kD k (t, s, b, m, g)) g.length) := rfl
  rw [hF]
  generalize kE k (t, s, b, m, g) = qE at *
  generalize kD k (t, s, b, m, g) = qD at *
  generalize kC k (t, s, b, m, g) = qC at *
  generalize kB k (t, s, b, m, g) = qB at *
  generalize kA k (t, s, b, m, g) = qA at *
  repeat refine VW.seq ?_
  refine VW.regl hT fun K hK => ?_
  simp only [List.replicate, List.set, List.map, List.any, List.append, Op.operands, dif_pos, gA, Call.operands, gB, gC, gD, gE, gF, gG, Nat.reduceMul, reduceCtorEq, Nat.reduceBEq, Nat.reduceAdd, Nat.reduceLT, Nat.reduceLeDiff, Nat.reduceSub, Nat.reduceEqDiff, bq, tgs, vq]
  refine hK _ ?_
  clear hK K
  try refine vthen_n ?_
  repeat refine VW.seq ?_
  refine VW.regl hT fun K hK => ?_
  simp only [List.replicate, List.set, List.map, List.any, List.append, Op.operands, dif_pos, gA, Call.operands, gB, gC, gD, gE, gF, gG, Nat.reduceMul, reduceCtorEq, Nat.reduceBEq, Nat.reduceAdd, Nat.reduceLT, Nat.reduceLeDiff, Nat.reduceSub, Nat.reduceEqDiff, bq, tgs, vq]
  refine vcall_io 0 ?_
  simp only [List.replicate, List.set, List.map, List.any, List.append, Op.operands, dif_pos, gA, Call.operands, gB, gC, gD, gE, gF, gG, Nat.reduceMul, reduceCtorEq, Nat.reduceBEq, Nat.reduceAdd, Nat.reduceLT, Nat.reduceLeDiff, Nat.reduceSub, Nat.reduceEqDiff, bq, tgs, vq]
  refine vxcall_of (VX.tag1 (markNodeS_vx t k ha hk0 (by omega)) rfl rfl rfl (by show some [Value.slice (some ⟨n1, 0, none⟩) (mkR gNodeS 3 k t.length).length c1] = _; rw [mkR_len])) ?_
  rw [← dA]
  simp only [List.replicate, List.set, List.map, List.any, List.append, Op.operands, dif_pos, gA, Call.operands, gB, gC, gD, gE, gF, gG, Nat.reduceMul, reduceCtorEq, Nat.reduceBEq, Nat.reduceAdd, Nat.reduceLT, Nat.reduceLeDiff, Nat.reduceSub, Nat.reduceEqDiff, bq, tgs, vq]
  refine hK _ ?_
  clear hK K
  try refine vthen_n ?_
  repeat refine VW.seq ?_
  refine VW.regl hT fun K hK => ?_
  simp only [List.replicate, List.set, List.map, List.any, List.append, Op.operands, dif_pos, gA, Call.operands, gB, gC, gD, gE, gF, gG, Nat.reduceMul, reduceCtorEq, Nat.reduceBEq, Nat.reduceAdd, Nat.reduceLT, Nat.reduceLeDiff, Nat.reduceSub, Nat.reduceEqDiff, bq, tgs, vq]
  refine vcall_io 0 ?_
  simp only [List.replicate, List.set, List.map, List.any, List.append, Op.operands, dif_pos, gA, Call.operands, gB, gC, gD, gE, gF, gG, Nat.reduceMul, reduceCtorEq, Nat.reduceBEq, Nat.reduceAdd, Nat.reduceLT, Nat.reduceLeDiff, Nat.reduceSub, Nat.reduceEqDiff, bq, tgs, vq]
  refine vxcall_of (VX.tag1 (markIntS_vx s qA hb (by omega) (by omega)) rfl rfl rfl (by show some [Value.slice (some ⟨n2, 0, none⟩) (mkR gIntS 1 qA s.length).length c2] = _; rw [mkR_len])) ?_
  rw [← dB]
  simp only [List.replicate, List.set, List.map, List.any, List.append, Op.operands, dif_pos, gA, Call.operands, gB, gC, gD, gE, gF, gG, Nat.reduceMul, reduceCtorEq, Nat.reduceBEq, Nat.reduceAdd, Nat.reduceLT, Nat.reduceLeDiff, Nat.reduceSub, Nat.reduceEqDiff, bq, tgs, vq]
  refine hK _ ?_
  clear hK K
  try refine vthen_n ?_
  repeat refine VW.seq ?_
  refine VW.regl hT fun K hK => ?_
  simp only [List.replicate, List.set, List.map, List.any, List.append, Op.operands, dif_pos, gA, Call.operands, gB, gC, gD, gE, gF, gG, Nat.reduceMul, reduceCtorEq, Nat.reduceBEq, Nat.reduceAdd, Nat.reduceLT, Nat.reduceLeDiff, Nat.reduceSub, Nat.reduceEqDiff, bq, tgs, vq]
  refine vcall_io 0 ?_
  simp only [List.replicate, List.set, List.map, List.any, List.append, Op.operands, dif_pos, gA, Call.operands, gB, gC, gD, gE, gF, gG, Nat.reduceMul, reduceCtorEq, Nat.reduceBEq, Nat.reduceAdd, Nat.reduceLT, Nat.reduceLeDiff, Nat.reduceSub, Nat.reduceEqDiff, bq, tgs, vq]
  refine vxcall_of (VX.tag1 (markBarS_vx b qB hcc (by omega) (by omega)) rfl rfl rfl (by show some [Value.slice (some ⟨n3, 0, none⟩) (mkR gBarS 2 qB b.length).length c3] = _; rw [mkR_len])) ?_
  rw [← dC]
  simp only [List.replicate, List.set, List.map, List.any, List.append, Op.operands, dif_pos, gA, Call.operands, gB, gC, gD, gE, gF, gG, Nat.reduceMul, reduceCtorEq, Nat.reduceBEq, Nat.reduceAdd, Nat.reduceLT, Nat.reduceLeDiff, Nat.reduceSub, Nat.reduceEqDiff, bq, tgs, vq]
  refine hK _ ?_
  clear hK K
  try refine vthen_n ?_
  repeat refine VW.seq ?_
  refine VW.regl hT fun K hK => ?_
  simp only [List.replicate, List.set, List.map, List.any, List.append, Op.operands, dif_pos, gA, Call.operands, gB, gC, gD, gE, gF, gG, Nat.reduceMul, reduceCtorEq, Nat.reduceBEq, Nat.reduceAdd, Nat.reduceLT, Nat.reduceLeDiff, Nat.reduceSub, Nat.reduceEqDiff, bq, tgs, vq]
  refine vcall_io 0 ?_
  simp only [List.replicate, List.set, List.map, List.any, List.append, Op.operands, dif_pos, gA, Call.operands, gB, gC, gD, gE, gF, gG, Nat.reduceMul, reduceCtorEq, Nat.reduceBEq, Nat.reduceAdd, Nat.reduceLT, Nat.reduceLeDiff, Nat.reduceSub, Nat.reduceEqDiff, bq, tgs, vq]
  refine vxcall_of (VX.tag1 (markIntSS_vx m qC hdd he (by omega) (by omega)) rfl rfl rfl (by show some [Value.slice (some ⟨n4, 0, none⟩) (mkII qC m m.length).length c4] = _; rw [mkII_len])) ?_
  rw [← dD]
  simp only [List.replicate, List.set, List.map, List.any, List.append, Op.operands, dif_pos, gA, Call.operands, gB, gC, gD, gE, gF, gG, Nat.reduceMul, reduceCtorEq, Nat.reduceBEq, Nat.reduceAdd, Nat.reduceLT, Nat.reduceLeDiff, Nat.reduceSub, Nat.reduceEqDiff, bq, tgs, vq]
  refine hK _ ?_
  clear hK K
  try refine vthen_n ?_
  repeat refine VW.seq ?_
  refine VW.regl hT fun K hK => ?_
  simp only [List.replicate, List.set, List.map, List.any, List.append, Op.operands, dif_pos, gA, Call.operands, gB, gC, gD, gE, gF, gG, Nat.reduceMul, reduceCtorEq, Nat.reduceBEq, Nat.reduceAdd, Nat.reduceLT, Nat.reduceLeDiff, Nat.reduceSub, Nat.reduceEqDiff, bq, tgs, vq]
  refine vcall_io 0 ?_
  simp only [List.replicate, List.set, List.map, List.any, List.append, Op.operands, dif_pos, gA, Call.operands, gB, gC, gD, gE, gF, gG, Nat.reduceMul, reduceCtorEq, Nat.reduceBEq, Nat.reduceAdd, Nat.reduceLT, Nat.reduceLeDiff, Nat.reduceSub, Nat.reduceEqDiff, bq, tgs, vq]
  refine vxcall_of (VX.tag1 (markGuard_vx g qD h5 hf (by omega) (by omega)) rfl rfl rfl (by show some [Value.slice (some ⟨n5, 0, none⟩) (mkR gBoolS 1 qD g.length).length c5] = _; rw [mkR_len])) ?_
  rw [← dE]
  simp only [List.replicate, List.set, List.map, List.any, List.append, Op.operands, dif_pos, gA, Call.operands, gB, gC, gD, gE, gF, gG, Nat.reduceMul, reduceCtorEq, Nat.reduceBEq, Nat.reduceAdd, Nat.reduceLT, Nat.reduceLeDiff, Nat.reduceSub, Nat.reduceEqDiff, bq, tgs, vq]
  refine hK _ ?_
  clear hK K
  try refine vthen_n ?_
  repeat refine VW.seq ?_
  refine VW.regl hT fun K hK => ?_
  simp only [List.replicate, List.set, List.map, List.any, List.append, Op.operands, dif_pos, gA, Call.operands, gB, gC, gD, gE, gF, gG, Nat.reduceMul, reduceCtorEq, Nat.reduceBEq, Nat.reduceAdd, Nat.reduceLT, Nat.reduceLeDiff, Nat.reduceSub, Nat.reduceEqDiff, bq, tgs, vq]
  refine hK _ ?_
  clear hK K
  try refine vthen_n ?_
  refine VW.ret ⟨.inl rfl, _, _, _, _, rfl, ⟨2, _, rfl⟩, ?_, rfl, rfl⟩
  show some [Value.slice (some ⟨n1, 0, none⟩) (mkR gNodeS 3 k t.length).length c1, Value.slice (some ⟨n2, 0, none⟩) (mkR gIntS 1 qA s.length).length c2, Value.slice (some ⟨n3, 0, none⟩) (mkR gBarS 2 qB b.length).length c3, Value.slice (some ⟨n4, 0, none⟩) (mkII qC m m.length).length c4, Value.slice (some ⟨n5, 0, none⟩) (mkR gBoolS 1 qD g.length).length c5] = some [Value.slice (some ⟨n1, 0, none⟩) t.length c1, Value.slice (some ⟨n2, 0, none⟩) s.length c2, Value.slice (some ⟨n3, 0, none⟩) b.length c3, Value.slice (some ⟨n4, 0, none⟩) m.length c4, Value.slice (some ⟨n5, 0, none⟩) g.length c5]
  rw [mkR_len, mkR_len, mkR_len, mkII_len, mkR_len]
end Go.Proofs.Ytmechjnfeidnkaa.V.W

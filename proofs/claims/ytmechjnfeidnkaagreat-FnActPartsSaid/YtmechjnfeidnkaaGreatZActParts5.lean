/- Texts F15 F16 F17 U1 F18 T2 E1 E4 N6 E3 N2 N7 N1 F19 N3 N8 N5 G4 G5 F20 N4 F21 N9 F23 N11 D3 U3 N12 C1 E5 N14 C2 N15 N17 N18 M1 M2 M3 M4 M6 M7 M8 C3 N19 D4 D5 U2 in one. No condition. -/
import Derived.Test.YtmechjnfeidnkaaGreatZActParts4
set_option linter.unnecessarySimpa false
set_option linter.unusedSimpArgs false
set_option linter.unusedVariables false
section
namespace Go.Proofs.YtmechjnfeidnkaaGreat.V.W
open Go Go.RowKit
abbrev fI3 : Fl := .pr .own (.pr .own .own)
theorem io3 {x : I3} {l : List (Nat × Nat)} {fi : Fl} {li : List Value} (h : (tagF sI3 l).1 = fi) (k : encI sI3 fi x = some li) : ∃ n1 c1 n2 c2 n3 c3, fi = .pr (.io n1 c1) (.pr (.io n2 c2) (.io n3 c3)) ∧ li = [.slice (some ⟨n1, 0, none⟩) x.1.length c1, .slice (some ⟨n2, 0, none⟩) x.2.1.length c2, .slice (some ⟨n3, 0, none⟩) x.2.2.length c3] := by
 rcases l with _ | ⟨⟨n1, c1⟩, _ | ⟨⟨n2, c2⟩, _ | ⟨⟨n3, c3⟩, l⟩⟩⟩
 ·subst h; cases k
 ·subst h; cases k
 ·subst h; cases k
 ·subst h
  exact ⟨n1, c1, n2, c2, n3, c3, rfl, (Option.some.inj k).symm⟩
set_option maxRecDepth 20000 in
set_option maxHeartbeats 2000000 in
theorem svisit_vx {t : List Nd} (hok : treeOk t = true) : ∀ (f k : Nat), t.length - k ≤ f → k < t.length → ∀ (x : I3) (u : Nat), Len3 t.length x → u + subs t k ≤ 1000 →
  VX Tryz.prog 160 [.v false sNS t, .root (.val true) sI3 fI3 x, .v false (.int .i64) ((k : Nat)), .v false (.int .i64) ((u : Nat))] 1 (fun pv ot => pv = .v false (.int .i64) (((u + subs t k : Nat) : Int)) ∧ ∃ y : I3, Len3 t.length y ∧ ot = .root (.val true) sI3 fI3 y) := by
 have htl := treeOk_len hok
 intro f
 induction f with
 | zero =>
  intro k hf hk
  omega
 | succ f ih =>
  intro k hf hk x u hx hu
  obtain ⟨b0, s0, l0⟩ := x
  obtain ⟨hb0, hs0, hl0⟩ := hx
  have hb0 : b0.length = t.length := hb0
  have hs0 : s0.length = t.length := hs0
  have hl0 : l0.length = t.length := hl0
  have hperm := skids_perm hok hk
  have hcl : (skids t k).length ≤ 12 := by
   rw [hperm.length_eq]
   have := kids_len t k t.length
   omega
  have hsum : wsum (vis t) (skids t k) = subs t k := wsum_perm hperm
  refine VX.of_rows hT Tryz.func160 rfl (by kernel_rfl) [(.tmp 8, false, .int .i64)] (by kernel_rfl) rfl rfl ⟨by show 0 < b0.length; omega, by show 0 < s0.length; omega, by show 0 < l0.length; omega⟩ fun ll fi li e1 e2 => ?_
  obtain ⟨n1, c1, n2, c2, n3, c3, rfl, rfl⟩ := io3 e1 e2
  show VW _ _ ([.v false sNS t, .root (.val true) sI3 (.pr (.io n1 c1) (.pr (.io n2 c2) (.io n3 c3))) (b0, s0, l0), .v false (.int .i64) ((k : Nat)), .v false (.int .i64) ((u : Nat)), D, D, D, D, D, D, D, D, D, D, D, D, D, D, D, D, D, D, D, D, D, D, D, D, D, D, D, D, D, D, D, D, D, D, D, D, D, D, D, D, D, D, D, D, D, D, D, D, D, D, D, D, D, D, D, D, D, D, D, D, D]) _
  repeat refine VW.seq ?_
  refine VW.regl hT fun K hK => ?_
  simp only [wq, simprocAttr]
  refine hK _ ?_
  clear hK K
  try refine vthen_n ?_
  repeat refine VW.seq ?_
  refine VW.regl hT fun K hK => ?_
  simp only [wq, simprocAttr]
  refine vcall_of (specChildren_vc t k (by omega)) ?_
  generalize hL : skids t k = L at *
  simp only [wq, simprocAttr]
  refine hK _ ?_
  clear hK K
  try refine vthen_n ?_
  repeat refine VW.seq ?_
  refine VW.regl hT fun K hK => ?_
  simp only [wq, simprocAttr]
  refine hK _ ?_
  clear hK K
  try refine vthen_n ?_
  repeat refine VW.seq ?_
  refine VW.block ?_
  refine VW.loop (α := Nat × I3) [(0, none), (2, none), (3, none), (5, none), (9, none), (10, none)] (fun p => [.v false sNS t, D, .v false (.int .i64) ((k : Nat)), .v false (.int .i64) (((u + wsum (vis t) (L.take p.1) : Nat) : Int)), D, .root (.box 140) sI3 (.pr (.io n1 c1) (.pr (.io n2 c2) (.io n3 c3))) p.2, D, D, D, .root (.val false) sI .own L, .v false (.int .i64) ((p.1 : Nat)), D, D, D, D, D, D, D, D, D, D, D, D, D, D, D, D, D, D, D, D, D, D, D, D, D, D, D, D, D, D, D, D, D, D, D, D, D, D, D, D, D, D, D, D, D, D, D, D, D, D, D, D, D, D]) (fun p => p.1 ≤ L.length ∧ Len3 t.length p.2) (fun p => L.length - p.1) ⟨(0, b0, s0, l0), ⟨by omega, hb0, hs0, hl0⟩, ?_⟩ fun ⟨i, b, s, l⟩ ⟨hi, hb, hs, hl⟩ => ?_
  ·simp only [wn, wq, simprocAttr]
   try rfl
  have hi : i ≤ L.length := hi
  have hb : b.length = t.length := hb
  have hs : s.length = t.length := hs
  have hl : l.length = t.length := hl
  repeat refine VW.seq ?_
  refine VW.regl hT fun K hK => ?_
  simp only [wq, simprocAttr]
  refine hK _ ?_
  clear hK K
  try refine vthen_n ?_
  repeat refine VW.seq ?_
  refine VW.cond rfl (fun hc => ?_) (fun hc => ?_)
  ·have hlt : i < L.length := by simpa using hc
   obtain ⟨c, hc0, h1, h2, h3, h4⟩ := kids_pos hok (hperm.mem_iff.1 (getD_mem hlt))
   have hle := wsum_le (vis t) L (i + 1)
   have htk := wsum_take (vis t) hlt
   have hv := vis_eq hok h2
   rw [hc0, Int.toNat_natCast] at htk
   refine VW.skip (vthen_n ?_)
   repeat refine VW.seq ?_
   refine VW.block ?_
   have hiL : decide (0 ≤ (i : Int) ∧ (i : Int) < (L.length : Int)) = true := decide_eq_true ⟨Int.natCast_nonneg _, by omega⟩
   repeat refine VW.seq ?_
   refine VW.mixl hT hm 0 11 (by kernel_rfl) fun K hK => ?_
   simp only [wq, simprocAttr]
   refine ⟨by kernel_rfl, by kernel_rfl, by kernel_rfl, by kernel_rfl, hiL, by kernel_rfl, by kernel_rfl, by kernel_rfl, by kernel_rfl, decide_eq_true ⟨Int.natCast_nonneg _, by show (k : Int) < (s.length : Int); omega⟩, by kernel_rfl, decide_eq_true ?_, ?_⟩
   ·show 0 ≤ L.getD i 0 ∧ L.getD i 0 < (b.length : Int)
    rw [hc0]
    omega
   rw [show L.getD i 0 = (c : Int) from hc0]
   refine hK _ ?_
   clear hK K
   try refine vthen_n ?_
   have hb' : (b.set (Int.toNat (c : Int)) (s.getD k 0)).length = t.length := by rw [List.length_set]; exact hb
   generalize b.set (Int.toNat (c : Int)) (s.getD k 0) = b' at hb' ⊢
   clear hb
   repeat refine VW.seq ?_
   refine VW.regl hT fun K hK => ?_
   simp only [wq, simprocAttr]
   refine ⟨hiL, ?_⟩
   rw [show L.getD i 0 = (c : Int) from hc0]
   refine ⟨decide_eq_true ⟨Int.natCast_nonneg _, by show (c : Int) < (t.length : Int); omega⟩, ?_⟩
   refine hK _ ?_
   clear hK K
   try refine vthen_n ?_
   generalize hU : u + wsum (vis t) (L.take i) = U at *
   repeat refine VW.seq ?_
   refine VW.cond rfl (fun hc => ?_) (fun hc => ?_)
   ·have hbr : (t.getD c z).2.2 = 0 := by simpa using hc
    rw [if_pos hbr] at hv
    repeat refine VW.seq ?_
    refine VW.regl hT fun K hK => ?_
    simp only [wq, simprocAttr]
    refine hK _ ?_
    clear hK K
    try refine vthen_n ?_
    rw [wrap64 (by omega) (by omega), show (U : Int) + 1 = ((U + 1 : Nat) : Int) by omega]
    refine VW.weak (weak_norm [(0, none), (2, none), (3, none), (5, none), (9, none), (10, none)] _) ?_
    simp only [wn, wq, simprocAttr]
    repeat refine VW.seq ?_
    refine VW.mixl hT hm 0 7 (by kernel_rfl) fun K hK => ?_
    simp only [wq, simprocAttr]
    refine ⟨by kernel_rfl, by kernel_rfl, by kernel_rfl, by kernel_rfl, hiL, by kernel_rfl, decide_eq_true ?_, ?_⟩
    ·show 0 ≤ L.getD i 0 ∧ L.getD i 0 < (s.length : Int)
     rw [hc0]
     omega
    rw [show L.getD i 0 = (c : Int) from hc0]
    refine hK _ ?_
    clear hK K
    try refine vthen_n ?_
    have hs' : (s.set (Int.toNat (c : Int)) ((U + 1 : Nat) : Int)).length = t.length := by rw [List.length_set]; exact hs
    generalize s.set (Int.toNat (c : Int)) ((U + 1 : Nat) : Int) = s' at hs' ⊢
    clear hs
    refine VW.weak (weak_norm [(0, none), (2, none), (3, none), (5, none), (9, none), (10, none)] _) ?_
    simp only [wn, wq, simprocAttr]
    repeat refine VW.seq ?_
    refine VW.mixl hT hm 0 7 (by kernel_rfl) fun K hK => ?_
    simp only [wq, simprocAttr]
    refine ⟨by kernel_rfl, by kernel_rfl, by kernel_rfl, hiL, by kernel_rfl, ?_⟩
    rw [show L.getD i 0 = (c : Int) from hc0]
    refine vcall_io 1 ?_
    simp only [wq, simprocAttr]
    have hal := ih c (by omega) h2 (b', s', l) (U + 1) ⟨hb', hs', hl⟩ (by omega)
    have hrec := tagE (agg := true) (s := sI3) (fi := .pr (.io n1 c1) (.pr (.io n2 c2) (.io n3 c3))) (f0 := fI3) (x := (b', s', l)) (l := [.slice (some ⟨n1, 0, none⟩) b'.length c1, .slice (some ⟨n2, 0, none⟩) s'.length c2, .slice (some ⟨n3, 0, none⟩) l.length c3]) hal rfl rfl rfl (fun y hy => by
     obtain ⟨y1, y2, y3⟩ := hy
     show some [Value.slice (some ⟨n1, 0, none⟩) y.1.length c1, Value.slice (some ⟨n2, 0, none⟩) y.2.1.length c2, Value.slice (some ⟨n3, 0, none⟩) y.2.2.length c3] = some _
     rw [y1, y2, y3, hb', hs', hl])
    refine vxcall_ex hrec ?_
    rintro pv ot ⟨rfl, ⟨b2, s2, l2⟩, ⟨g1, g2, g3⟩, rfl⟩
    simp only [wq, simprocAttr]
    refine hK _ ?_
    clear hK K
    try refine vthen_n ?_
    show vthen _ _ _ .normal _
    refine vthen_n ?_
    repeat refine VW.seq ?_
    refine VW.regl hT fun K hK => ?_
    simp only [wq, simprocAttr]
    refine hK _ ?_
    clear hK K
    try refine vthen_n ?_
    rw [show U + 1 + subs t c = u + wsum (vis t) (L.take (i + 1)) by omega]
    refine ⟨(i + 1, b2, s2, l2), ⟨hlt, g1, g2, g3⟩, ?_, by show L.length - (i + 1) < L.length - i; omega⟩
    simp only [wn, wq, simprocAttr]
    rw [wrap64 (by omega) (by omega)]
    rfl
   ·have hbr : ¬ (t.getD c z).2.2 = 0 := by simpa using hc
    rw [if_neg hbr] at hv
    refine VW.skip ?_
    show vthen _ _ _ .normal _
    refine vthen_n ?_
    repeat refine VW.seq ?_
    refine VW.regl hT fun K hK => ?_
    simp only [wq, simprocAttr]
    refine hK _ ?_
    clear hK K
    try refine vthen_n ?_
    rw [show U = u + wsum (vis t) (L.take (i + 1)) by omega]
    refine ⟨(i + 1, b', s, l), ⟨hlt, hb', hs, hl⟩, ?_, by show L.length - (i + 1) < L.length - i; omega⟩
    simp only [wn, wq, simprocAttr]
    rw [wrap64 (by omega) (by omega)]
    rfl
  ·have hge : i = L.length := by
    have : L.length ≤ i := by simpa using hc
    omega
   subst hge
   refine VW.exit ?_
   show vthen _ _ _ .normal _
   refine vthen_n ?_
   rw [List.take_length, hsum]
   repeat refine VW.seq ?_
   refine VW.regl hT fun K hK => ?_
   simp only [wq, simprocAttr]
   refine ⟨decide_eq_true ⟨Int.natCast_nonneg _, by show (k : Int) < (l.length : Int); omega⟩, ?_⟩
   refine hK _ ?_
   clear hK K
   try refine vthen_n ?_
   repeat refine VW.seq ?_
   refine VW.regl hT fun K hK => ?_
   simp only [wq, simprocAttr]
   refine hK _ ?_
   clear hK K
   try refine vthen_n ?_
   have hl2 : (l.set k ((u + subs t k : Nat) : Int)).length = t.length := by rw [List.length_set]; exact hl
   refine VW.ret ⟨.inl rfl, _, _, _, _, rfl, ⟨5, _, rfl⟩, ?_, rfl, (b, s, l.set k ((u + subs t k : Nat) : Int)), ⟨hb, hs, hl2⟩, rfl⟩
   show some [Value.slice (some ⟨n1, 0, none⟩) b.length c1, Value.slice (some ⟨n2, 0, none⟩) s.length c2, Value.slice (some ⟨n3, 0, none⟩) (l.set k ((u + subs t k : Nat) : Int)).length c3] = some [Value.slice (some ⟨n1, 0, none⟩) b0.length c1, Value.slice (some ⟨n2, 0, none⟩) s0.length c2, Value.slice (some ⟨n3, 0, none⟩) l0.length c3]
   rw [hb, hs, hl2, hb0, hs0, hl0]
end Go.Proofs.YtmechjnfeidnkaaGreat.V.W
end
section
namespace Go.Proofs.YtmechjnfeidnkaaGreat.V.W
open Go Go.RowKit
set_option maxRecDepth 20000 in
set_option maxHeartbeats 1000000 in
theorem specEnum_vc (t : List Nd) (hl : t.length ≤ 2000000) : VC Tryz.prog 144 [.v false sNS t] (fun pv => if treeOk t = true then ∃ x, pv = rNum (.pr .own (.pr .own .own)) x true else pv = rNum .own ([], [], []) false) := by
 refine VC.of_body hT Tryz.func144 rfl (by kernel_rfl) [(.cell 2 140, true, sI3), (.tmp 3, false, .bool)] (by kernel_rfl) ?_
 show VW _ _ ([.v false sNS t, D, D, D, D, D, D, D, D, D, D, D, D, D, D, D, D, D, D, D, D, D, D, D, D, D, D, D, D, D, D, D, D, D, D, D, D, D, D, D, D, D, D, D]) _
 repeat refine VW.seq ?_
 refine VW.regl hT fun K hK => ?_
 simp only [wq, Nat.reduceMul, reduceCtorEq, Nat.reduceBEq, Nat.reduceAdd, Nat.reduceLT, Nat.reduceLeDiff, Nat.reduceSub, Nat.reduceEqDiff]
 refine hK _ ?_
 clear hK K
 try refine vthen_n ?_
 repeat refine VW.seq ?_
 refine VW.regl hT fun K hK => ?_
 simp only [wq, Nat.reduceMul, reduceCtorEq, Nat.reduceBEq, Nat.reduceAdd, Nat.reduceLT, Nat.reduceLeDiff, Nat.reduceSub, Nat.reduceEqDiff]
 refine vcall_of (specTreeOk_vc t hl) ?_
 simp only [wq, Nat.reduceMul, reduceCtorEq, Nat.reduceBEq, Nat.reduceAdd, Nat.reduceLT, Nat.reduceLeDiff, Nat.reduceSub, Nat.reduceEqDiff]
 refine hK _ ?_
 clear hK K
 try refine vthen_n ?_
 repeat refine VW.seq ?_
 refine VW.cond rfl (fun hc => ?_) (fun hc => ?_)
 ·repeat refine VW.seq ?_
  refine VW.regl hT fun K hK => ?_
  simp only [wq, Nat.reduceMul, reduceCtorEq, Nat.reduceBEq, Nat.reduceAdd, Nat.reduceLT, Nat.reduceLeDiff, Nat.reduceSub, Nat.reduceEqDiff]
  refine hK _ ?_
  clear hK K
  try refine vthen_n ?_
  refine VW.ret ⟨.inl rfl, _, rfl, ?_⟩
  have h' : treeOk t = false := (Bool.not_eq_true' _).mp hc
  rw [if_neg (by rw [h']; decide)]
 have hok : treeOk t = true := by
  have := hc
  rwa [Bool.not_eq_false'] at this
 have htl := treeOk_len hok
 refine VW.skip (vthen_n ?_)
 repeat refine VW.seq ?_
 refine VW.regl hT fun K hK => ?_
 simp only [wq, Nat.reduceMul, reduceCtorEq, Nat.reduceBEq, Nat.reduceAdd, Nat.reduceLT, Nat.reduceLeDiff, Nat.reduceSub, Nat.reduceEqDiff]
 refine hK _ ?_
 clear hK K
 try refine vthen_n ?_
 repeat refine VW.seq ?_
 refine VW.regl hT fun K hK => ?_
 simp only [wq, Nat.reduceMul, reduceCtorEq, Nat.reduceBEq, Nat.reduceAdd, Nat.reduceLT, Nat.reduceLeDiff, Nat.reduceSub, Nat.reduceEqDiff]
 refine hK _ ?_
 clear hK K
 try refine vthen_n ?_
 refine VW.retag (ι := Unit) (g := 4) (fun _ => fI3) _ rfl (fun w Z cs B h => ⟨(), h⟩) (fun j => by simp only [wq, Nat.reduceMul, reduceCtorEq, Nat.reduceBEq, Nat.reduceAdd, Nat.reduceLT, Nat.reduceLeDiff, Nat.reduceSub, Nat.reduceEqDiff]; rfl) (fun _ => ?_)
 repeat refine VW.seq ?_
 refine VW.block ?_
 refine VW.loop (α := Nat × I3) [(0, none), (2, none), (4, none), (5, none)] (fun p => [.v false sNS t, D, .root (.box 140) sI3 .own ([], [], []), D, .root (.box 140) sI3 fI3 p.2, .v false (.int .i64) ((p.1 : Nat)), D, D, D, D, D, D, D, D, D, D, D, D, D, D, D, D, D, D, D, D, D, D, D, D, D, D, D, D, D, D, D, D, D, D, D, D, D, D]) (fun p => p.1 ≤ t.length ∧ Len3 p.1 p.2) (fun p => t.length - p.1) ⟨(0, [], [], []), ⟨by omega, rfl, rfl, rfl⟩, ?_⟩ fun ⟨i, b, s, l⟩ ⟨hi, hb, hs, hl⟩ => ?_
 ·simp only [wn, wq, Nat.reduceMul, reduceCtorEq, Nat.reduceBEq, Nat.reduceAdd, Nat.reduceLT, Nat.reduceLeDiff, Nat.reduceSub, Nat.reduceEqDiff]
  try rfl
 have hi : i ≤ t.length := hi
 have hb : b.length = i := hb
 have hs : s.length = i := hs
 have hl : l.length = i := hl
 repeat refine VW.seq ?_
 refine VW.regl hT fun K hK => ?_
 simp only [wq, Nat.reduceMul, reduceCtorEq, Nat.reduceBEq, Nat.reduceAdd, Nat.reduceLT, Nat.reduceLeDiff, Nat.reduceSub, Nat.reduceEqDiff]
 refine hK _ ?_
 clear hK K
 try refine vthen_n ?_
 repeat refine VW.seq ?_
 refine VW.cond rfl (fun hc => ?_) (fun hc => ?_)
 ·have hlt : i < t.length := by simpa using hc
  refine VW.skip (vthen_n ?_)
  repeat refine VW.seq ?_
  refine VW.block ?_
  repeat refine VW.seq ?_
  refine VW.regl hT fun K hK => ?_
  simp only [wq, Nat.reduceMul, reduceCtorEq, Nat.reduceBEq, Nat.reduceAdd, Nat.reduceLT, Nat.reduceLeDiff, Nat.reduceSub, Nat.reduceEqDiff]
  refine ⟨by simp [limOk]; omega, ?_⟩
  refine hK _ ?_
  clear hK K
  try refine vthen_n ?_
  repeat refine VW.seq ?_
  refine VW.regl hT fun K hK => ?_
  simp only [wq, Nat.reduceMul, reduceCtorEq, Nat.reduceBEq, Nat.reduceAdd, Nat.reduceLT, Nat.reduceLeDiff, Nat.reduceSub, Nat.reduceEqDiff]
  refine ⟨by simp [limOk]; omega, ?_⟩
  refine hK _ ?_
  clear hK K
  try refine vthen_n ?_
  repeat refine VW.seq ?_
  refine VW.regl hT fun K hK => ?_
  simp only [wq, Nat.reduceMul, reduceCtorEq, Nat.reduceBEq, Nat.reduceAdd, Nat.reduceLT, Nat.reduceLeDiff, Nat.reduceSub, Nat.reduceEqDiff]
  refine ⟨by simp [limOk]; omega, ?_⟩
  refine hK _ ?_
  clear hK K
  try refine vthen_n ?_
  repeat refine VW.seq ?_
  refine VW.regl hT fun K hK => ?_
  simp only [wq, Nat.reduceMul, reduceCtorEq, Nat.reduceBEq, Nat.reduceAdd, Nat.reduceLT, Nat.reduceLeDiff, Nat.reduceSub, Nat.reduceEqDiff]
  refine hK _ ?_
  clear hK K
  try refine vthen_n ?_
  refine ⟨(i + 1, b ++ [0], s ++ [-1], l ++ [-1]), ⟨hlt, by show (b ++ [0]).length = i + 1; simp [hb], by show (s ++ [-1]).length = i + 1; simp [hs], by show (l ++ [-1]).length = i + 1; simp [hl]⟩, ?_, by show t.length - (i + 1) < t.length - i; omega⟩
  simp only [wn, wq, Nat.reduceMul, reduceCtorEq, Nat.reduceBEq, Nat.reduceAdd, Nat.reduceLT, Nat.reduceLeDiff, Nat.reduceSub, Nat.reduceEqDiff]
  rw [wrap64 (by omega) (by omega)]
  try rfl
 ·have hge : i = t.length := by
   have : t.length ≤ i := by simpa using hc
   omega
  subst hge
  have hs0 := subs_root hok
  refine VW.exit ?_
  show vthen _ _ _ .normal _
  refine vthen_n ?_
  repeat refine VW.seq ?_
  refine VW.regl hT fun K hK => ?_
  simp only [wq, Nat.reduceMul, reduceCtorEq, Nat.reduceBEq, Nat.reduceAdd, Nat.reduceLT, Nat.reduceLeDiff, Nat.reduceSub, Nat.reduceEqDiff]
  refine ⟨decide_eq_true ⟨by decide, by show (0 : Int) < (b.length : Int); omega⟩, ?_⟩
  refine hK _ ?_
  clear hK K
  try refine vthen_n ?_
  repeat refine VW.seq ?_
  refine VW.regl hT fun K hK => ?_
  simp only [wq, Nat.reduceMul, reduceCtorEq, Nat.reduceBEq, Nat.reduceAdd, Nat.reduceLT, Nat.reduceLeDiff, Nat.reduceSub, Nat.reduceEqDiff]
  refine ⟨decide_eq_true ⟨by decide, by show (0 : Int) < (s.length : Int); omega⟩, ?_⟩
  refine hK _ ?_
  clear hK K
  try refine vthen_n ?_
  have hb' : (b.set (Int.toNat 0) (-1)).length = t.length := by rw [List.length_set]; exact hb
  have hs' : (s.set (Int.toNat 0) 0).length = t.length := by rw [List.length_set]; exact hs
  generalize b.set (Int.toNat 0) (-1) = b' at hb' ⊢
  generalize s.set (Int.toNat 0) 0 = s' at hs' ⊢
  repeat refine VW.seq ?_
  refine VW.regl hT fun K hK => ?_
  simp only [wq, Nat.reduceMul, reduceCtorEq, Nat.reduceBEq, Nat.reduceAdd, Nat.reduceLT, Nat.reduceLeDiff, Nat.reduceSub, Nat.reduceEqDiff]
  refine vcall_io 1 ?_
  simp only [wq, Nat.reduceMul, reduceCtorEq, Nat.reduceBEq, Nat.reduceAdd, Nat.reduceLT, Nat.reduceLeDiff, Nat.reduceSub, Nat.reduceEqDiff]
  refine vxcall_ex (svisit_vx hok t.length 0 (by omega) (by omega) (b', s', l) 0 ⟨hb', hs', hl⟩ (by omega)) ?_
  rintro pv ot ⟨rfl, x, hx, rfl⟩
  simp only [wq, Nat.reduceMul, reduceCtorEq, Nat.reduceBEq, Nat.reduceAdd, Nat.reduceLT, Nat.reduceLeDiff, Nat.reduceSub, Nat.reduceEqDiff]
  refine hK _ ?_
  clear hK K
  try refine vthen_n ?_
  repeat refine VW.seq ?_
  refine VW.cond rfl (fun hc => ?_) (fun hc => ?_)
  ·have hc : ((subs t 0 : Nat) : Int) > 15 := of_decide_eq_true hc
   omega
  refine VW.skip (vthen_n ?_)
  repeat refine VW.seq ?_
  refine VW.regl hT fun K hK => ?_
  simp only [wq, Nat.reduceMul, reduceCtorEq, Nat.reduceBEq, Nat.reduceAdd, Nat.reduceLT, Nat.reduceLeDiff, Nat.reduceSub, Nat.reduceEqDiff]
  refine hK _ ?_
  clear hK K
  try refine vthen_n ?_
  refine VW.ret ⟨.inl rfl, _, rfl, ?_⟩
  rw [if_pos hok]
  exact ⟨x, rfl⟩
end Go.Proofs.YtmechjnfeidnkaaGreat.V.W
end
section
namespace Go.Proofs.YtmechjnfeidnkaaGreat.V.W
open Go Go.RowKit
theorem newFab1_vc (x : Int) : VC Tryz.prog 121 [.v false (.int .i64) (x)] (· = .v false .bool (decide (x > 64))) := by
 refine VC.of_body hT Tryz.func121 rfl (by kernel_rfl) [(.tmp 2, false, .bool)] (by kernel_rfl) ?_
 show VW _ _ ([.v false (.int .i64) (x), D, D, D, D]) _
 repeat refine VW.seq ?_
 refine VW.regl hT fun K hK => ?_
 simp only [wq, simprocAttr]
 refine hK _ ?_
 clear hK K
 try refine vthen_n ?_
 repeat refine VW.seq ?_
 refine VW.regl hT fun K hK => ?_
 simp only [wq, simprocAttr]
 refine hK _ ?_
 clear hK K
 try refine vthen_n ?_
 exact VW.ret ⟨.inl rfl, _, rfl, rfl⟩
/-- a new fabric can be made -/
def newOk (t : List Nd) (s : List Int) : Bool := fits t s && !s.any fun x => decide (x > 64)
/-- the first i rows of memory -/
def memTo (s : List Int) (i : Nat) : List (List Int) := (s.take i).map fun n => List.replicate n.toNat 0
theorem memTo_succ {s : List Int} {i : Nat} (h : i < s.length) : memTo s (i + 1) = memTo s i ++ [List.replicate (s.getD i 0).toNat 0] := by
 unfold memTo
 rw [List.take_add_one, List.getElem?_eq_getElem h, List.map_append, List.getD_eq_getElem?_getD, List.getElem?_eq_getElem h]
 rfl
theorem memTo_len {s : List Int} {i : Nat} (h : i ≤ s.length) : (memTo s i).length = i := by
 simp [memTo]; omega
def newFab (t : List Nd) (s : List Int) : Fab := (t, s, allBars t s, memTo s s.length, List.replicate s.length true)
abbrev fFab : Fl := .pr .own (.pr .own (.pr .own (.pr .own .own)))
abbrev rFab (fl : Fl) (x : Fab) (b : Bool) : PV := .root (.tup [true, false]) (.pr sFi .bool) (.pr fl .fz) (x, b)
set_option maxRecDepth 20000 in
set_option maxHeartbeats 2000000 in
theorem newFabric_vc (t : List Nd) (s : List Int) (hl : t.length ≤ 2000000) (hs : s.length ≤ 2000000) : VC Tryz.prog 58 [.v false sNS t, .v false sI s] (fun pv => if newOk t s = true then pv = rFab fFab (newFab t s) true else pv = rFab .own ([], [], [], [], []) false) := by
 refine VC.of_body hT Tryz.func58 rfl (by kernel_rfl) [(.cell 4 32, true, sFi), (.tmp 5, false, .bool)] (by kernel_rfl) ?_
 show VW _ _ ([.v false sNS t, .v false sI s, D, D, D, D, D, D, D, D, D, D, D, D, D, D, D, D, D, D, D, D, D, D, D, D, D, D, D, D, D, D, D, D, D, D, D, D, D, D, D, D, D, D, D, D, D, D, D, D, D, D, D, D, D, D, D, D, D, D, D, D, D, D, D, D, D, D]) _
 repeat refine VW.seq ?_
 refine VW.regl hT fun K hK => ?_
 simp only [wq, simprocAttr]
 refine hK _ ?_
 clear hK K
 try refine vthen_n ?_
 repeat refine VW.seq ?_
 refine VW.regl hT fun K hK => ?_
 simp only [wq, simprocAttr]
 refine vcall_of (sizesOk_vc t s hl hs) ?_
 simp only [wq, simprocAttr]
 refine vbr (fun h => ?_) (fun h => ?_) <;> simp only [wq, simprocAttr]
 case refine_2 =>
  refine hK _ ?_
  clear hK K
  try refine vthen_n ?_
  repeat refine VW.seq ?_
  refine VW.cond rfl (fun hc => ?_) (fun hc => ?_)
  ·repeat refine VW.seq ?_
   refine VW.regl hT fun K hK => ?_
   simp only [wq, simprocAttr]
   refine hK _ ?_
   clear hK K
   try refine vthen_n ?_
   have h' : sizesOk t s = false := (Bool.not_eq_true' _).mp h
   refine VW.ret ⟨.inl rfl, _, rfl, ?_⟩
   rw [if_neg (by rw [newOk, fits, h', Bool.false_and, Bool.false_and]; decide)]
  ·cases hc
 have hok0 : sizesOk t s = true := by
  have := h
  rwa [Bool.not_eq_false'] at this
 have hok := (sizesOk_iff.1 hok0).1
 have hsl := (sizesOk_iff.1 hok0).2.1
 have htl := treeOk_len hok
 refine vcall_of (containsI_vc s 121 [] (fun x => decide (x > 64)) rfl newFab1_vc hs) ?_
 simp only [wq, simprocAttr]
 refine hK _ ?_
 clear hK K
 try refine vthen_n ?_
 repeat refine VW.seq ?_
 refine VW.cond rfl (fun hc => ?_) (fun hc => ?_)
 ·repeat refine VW.seq ?_
  refine VW.regl hT fun K hK => ?_
  simp only [wq, simprocAttr]
  refine hK _ ?_
  clear hK K
  try refine vthen_n ?_
  refine VW.ret ⟨.inl rfl, _, rfl, ?_⟩
  rw [if_neg (by rw [newOk, show (s.any fun x => decide (x > 64)) = true from hc]; simp)]
 have h64 : ∀ i, i < s.length → 0 ≤ s.getD i 0 ∧ s.getD i 0 ≤ 64 := fun i hi => by
  have hc : (s.any fun x => decide (x > 64)) = false := hc
  rw [List.any_eq_false] at hc
  have := hc _ (getD_mem hi)
  refine ⟨?_, by simpa using this⟩
  rcases sizes_node hok0 (k := i) (by omega) with h | ⟨h, _⟩
  ·omega
  ·have := pw_in h
   omega
 refine VW.skip (vthen_n ?_)
 repeat refine VW.seq ?_
 refine VW.regl hT fun K hK => ?_
 simp only [wq, simprocAttr]
 refine vcall_ex (enum_vc t hl) ?_
 intro pv hpv
 rw [if_pos hok] at hpv
 obtain ⟨x3, rfl⟩ := hpv
 simp only [wq, simprocAttr]
 refine hK _ ?_
 clear hK K
 try refine vthen_n ?_
 repeat refine VW.seq ?_
 refine VW.regl hT fun K hK => ?_
 simp only [wq, simprocAttr]
 refine vcall_ex (allocate_vc t s hl hs) ?_
 intro pv hpv
 by_cases hf : fits t s = true
 case neg =>
  rw [if_neg hf] at hpv
  obtain ⟨bs, rfl⟩ := hpv
  simp only [wq, simprocAttr]
  refine hK _ ?_
  clear hK K
  try refine vthen_n ?_
  repeat refine VW.seq ?_
  refine VW.regl hT fun K hK => ?_
  simp only [wq, simprocAttr]
  refine hK _ ?_
  clear hK K
  try refine vthen_n ?_
  repeat refine VW.seq ?_
  refine VW.cond rfl (fun hc => ?_) (fun hc => ?_)
  ·repeat refine VW.seq ?_
   refine VW.regl hT fun K hK => ?_
   simp only [wq, simprocAttr]
   refine hK _ ?_
   clear hK K
   try refine vthen_n ?_
   refine VW.ret ⟨.inl rfl, _, rfl, ?_⟩
   rw [if_neg (by rw [newOk, (by simpa using hf : fits t s = false), Bool.false_and]; decide)]
  ·cases hc
 rw [if_pos hf] at hpv
 subst hpv
 simp only [wq, simprocAttr]
 refine hK _ ?_
 clear hK K
 try refine vthen_n ?_
 repeat refine VW.seq ?_
 refine VW.regl hT fun K hK => ?_
 simp only [wq, simprocAttr]
 refine hK _ ?_
 clear hK K
 try refine vthen_n ?_
 repeat refine VW.seq ?_
 refine VW.cond rfl (fun hc => ?_) (fun hc => ?_)
 ·cases hc
 refine VW.skip (vthen_n ?_)
 repeat refine VW.seq ?_
 refine VW.regl hT fun K hK => ?_
 simp only [wq, simprocAttr]
 refine vcall_of (clone_vc t hl) ?_
 simp only [wq, simprocAttr]
 refine vcall_of (cloneI_vc s hs) ?_
 simp only [wq, simprocAttr]
 refine hK _ ?_
 clear hK K
 try refine vthen_n ?_
 repeat refine VW.seq ?_
 refine VW.regl hT fun K hK => ?_
 simp only [wq, simprocAttr]
 refine hK _ ?_
 clear hK K
 try refine vthen_n ?_
 refine VW.retag (ι := Unit) (g := 10) (fun _ => fFab) _ rfl (fun w Z cs B h => ⟨(), h⟩) (fun j => by simp only [wq, simprocAttr]; rfl) (fun _ => ?_)
 repeat refine VW.seq ?_
 refine VW.block ?_
 refine VW.loop (α := Nat) [(0, none), (4, none), (10, none), (46, none), (47, none), (48, none)] (fun i => [.v false sNS t, D, D, D, .root (.box 32) sFi .own ([], [], [], [], []), D, D, D, D, D, .root (.box 32) sFi fFab (t, s, allBars t s, memTo s i, List.replicate i true), D, D, D, D, D, D, D, D, D, D, D, D, D, D, D, D, D, D, D, D, D, D, D, D, D, D, D, D, D, D, D, D, D, D, D, .v false sI s, .v false (.int .i64) ((s.length : Nat)), .v false (.int .i64) ((i : Nat)), D, D, D, D, D, D, D, D, D, D, D, D, D, D, D, D, D, D, D]) (fun i => i ≤ s.length) (fun i => s.length - i) ⟨0, by omega, ?_⟩ fun i hi => ?_
 ·simp only [wn, wq, simprocAttr]
  try rfl
 repeat refine VW.seq ?_
 refine VW.regl hT fun K hK => ?_
 simp only [wq, simprocAttr]
 refine hK _ ?_
 clear hK K
 try refine vthen_n ?_
 repeat refine VW.seq ?_
 refine VW.cond rfl (fun hc => ?_) (fun hc => ?_)
 ·have hlt : i < s.length := by simpa using hc
  have hml := memTo_len (s := s) (i := i) (by omega)
  have h6 := h64 i hlt
  refine VW.skip (vthen_n ?_)
  repeat refine VW.seq ?_
  refine VW.block ?_
  repeat refine VW.seq ?_
  refine VW.regl hT fun K hK => ?_
  simp only [wq, simprocAttr]
  refine ⟨decide_eq_true ⟨Int.natCast_nonneg _, by show (i : Int) < (s.length : Int); omega⟩, ?_⟩
  refine hK _ ?_
  clear hK K
  try refine vthen_n ?_
  generalize hN : s.getD i 0 = N at *
  refine VW.weak (weak_norm [(0, none), (4, none), (10, none), (12, none), (46, none), (47, none), (48, none)] _) ?_
  simp only [wn, wq, simprocAttr]
  have hrep : true :: List.replicate i true = List.replicate i true ++ [true] := by rw [← List.replicate_succ, List.replicate_succ']
  have sc3 : (decide (0 ≤ N) && limOk N.toNat 8) = true := by simp [limOk]; omega
  refine VW.any hT hm fun K hK W hW => ?_
  apply cutl
  intro tK
  apply cutl
  intro t65535
  apply cutl
  intro t32767
  apply cutl
  intro t4095
  apply cutl
  intro t3071
  apply cutl
  intro t2559
  apply cutl
  intro t991
  apply cutl
  intro t767
  apply cutl
  intro t989
  apply cutl
  intro t975
  apply cutl
  intro t735
  apply cutl
  intro t479
  apply cutl
  intro t255
  apply cutl
  intro t973
  apply cutl
  intro t967
  apply cutl
  intro t733
  apply cutl
  intro t719
  apply cutl
  intro t477
  apply cutl
  intro t463
  apply cutl
  intro t223
  apply cutl
  intro t965
  apply cutl
  intro t717
  apply cutl
  intro t711
  apply cutl
  intro t461
  apply cutl
  intro t455
  apply cutl
  intro t221
  apply cutl
  intro t207
  apply cutl
  intro t709
  apply cutl
  intro t453
  apply cutl
  intro t205
  apply cutl
  intro t199
  ·refine hW.takeF 0 0 1 _ (by kernel_rfl) ?_
   simp only [wy, wq, simprocAttr]
   refine hW.take 1 2 5 _ (by kernel_rfl) ?_
   simp only [wy, wq, simprocAttr]
   refine hW.takeF 5 6 69 _ (by kernel_rfl) ?_
   simp only [wy, wq, simprocAttr]
   refine hW.takeF 69 7 197 _ (by kernel_rfl) ?_
   simp only [wy, wq, simprocAttr]
   refine hW.all 197 [(1, 199), (3, 205), (8, 453), (9, 709)] _ (by kernel_rfl) (by simp) ?_
   simp only [wy, wq, simprocAttr]
   refine ⟨?_, ?_, ?_, ?_⟩
   ·exact t199.h
   ·refine ⟨sc3, ?_⟩
    exact t205.h
   ·exact t453.h
   ·exact t709.h
  ·skip
   refine hW.all 199 [(3, 207), (8, 455), (9, 711)] _ (by kernel_rfl) (by simp) ?_
   simp only [wy, wq, simprocAttr]
   refine ⟨?_, ?_, ?_⟩
   ·refine ⟨sc3, ?_⟩
    exact t207.h
   ·exact t455.h
   ·exact t711.h
  ·skip
   refine hW.all 205 [(1, 207), (4, 221), (8, 461), (9, 717)] _ (by kernel_rfl) (by simp) ?_
   simp only [wy, wq, simprocAttr]
   refine ⟨?_, ?_, ?_, ?_⟩
   ·exact t207.h
   ·exact t221.h
   ·exact t461.h
   ·exact t717.h
  ·skip
   refine hW.all 453 [(1, 455), (3, 461), (9, 965)] _ (by kernel_rfl) (by simp) ?_
   simp only [wy, wq, simprocAttr]
   refine ⟨?_, ?_, ?_⟩
   ·exact t455.h
   ·refine ⟨sc3, ?_⟩
    exact t461.h
   ·exact t965.h
  ·skip
   refine hW.all 709 [(1, 711), (3, 717), (8, 965)] _ (by kernel_rfl) (by simp) ?_
   simp only [wy, wq, simprocAttr]
   refine ⟨?_, ?_, ?_⟩
   ·exact t711.h
   ·refine ⟨sc3, ?_⟩
    exact t717.h
   ·exact t965.h
  ·skip
   refine hW.all 207 [(4, 223), (8, 463), (9, 719)] _ (by kernel_rfl) (by simp) ?_
   simp only [wy, wq, simprocAttr]
   refine ⟨?_, ?_, ?_⟩
   ·exact t223.h
   ·exact t463.h
   ·exact t719.h
  ·skip
   refine hW.all 221 [(1, 223), (8, 477), (9, 733)] _ (by kernel_rfl) (by simp) ?_
   simp only [wy, wq, simprocAttr]
   refine ⟨?_, ?_, ?_⟩
   ·exact t223.h
   ·exact t477.h
   ·exact t733.h
  ·skip
   refine hW.all 455 [(3, 463), (9, 967)] _ (by kernel_rfl) (by simp) ?_
   simp only [wy, wq, simprocAttr]
   refine ⟨?_, ?_⟩
   ·refine ⟨sc3, ?_⟩
    exact t463.h
   ·exact t967.h
  ·skip
   refine hW.all 461 [(1, 463), (4, 477), (9, 973)] _ (by kernel_rfl) (by simp) ?_
   simp only [wy, wq, simprocAttr]
   refine ⟨?_, ?_, ?_⟩
   ·exact t463.h
   ·exact t477.h
   ·exact t973.h
  ·skip
   refine hW.all 711 [(3, 719), (8, 967)] _ (by kernel_rfl) (by simp) ?_
   simp only [wy, wq, simprocAttr]
   refine ⟨?_, ?_⟩
   ·refine ⟨sc3, ?_⟩
    exact t719.h
   ·exact t967.h
  ·skip
   refine hW.all 717 [(1, 719), (4, 733), (8, 973)] _ (by kernel_rfl) (by simp) ?_
   simp only [wy, wq, simprocAttr]
   refine ⟨?_, ?_, ?_⟩
   ·exact t719.h
   ·exact t733.h
   ·exact t973.h
  ·skip
   refine hW.all 965 [(1, 967), (3, 973)] _ (by kernel_rfl) (by simp) ?_
   simp only [wy, wq, simprocAttr]
   refine ⟨?_, ?_⟩
   ·exact t967.h
   ·refine ⟨sc3, ?_⟩
    exact t973.h
  ·skip
   refine hW.all 223 [(5, 255), (8, 479), (9, 735)] _ (by kernel_rfl) (by simp) ?_
   simp only [wy, wq, simprocAttr]
   refine ⟨?_, ?_, ?_⟩
   ·refine ⟨by simp [limOk, hml]; omega, ?_⟩
    exact t255.h
   ·exact t479.h
   ·exact t735.h
  ·skip
   refine hW.all 463 [(4, 479), (9, 975)] _ (by kernel_rfl) (by simp) ?_
   simp only [wy, wq, simprocAttr]
   refine ⟨?_, ?_⟩
   ·exact t479.h
   ·exact t975.h
  ·skip
   refine hW.all 477 [(1, 479), (9, 989)] _ (by kernel_rfl) (by simp) ?_
   simp only [wy, wq, simprocAttr]
   refine ⟨?_, ?_⟩
   ·exact t479.h
   ·exact t989.h
  ·skip
   refine hW.all 719 [(4, 735), (8, 975)] _ (by kernel_rfl) (by simp) ?_
   simp only [wy, wq, simprocAttr]
   refine ⟨?_, ?_⟩
   ·exact t735.h
   ·exact t975.h
  ·skip
   refine hW.all 733 [(1, 735), (8, 989)] _ (by kernel_rfl) (by simp) ?_
   simp only [wy, wq, simprocAttr]
   refine ⟨?_, ?_⟩
   ·exact t735.h
   ·exact t989.h
  ·skip
   refine hW.all 967 [(3, 975)] _ (by kernel_rfl) (by simp) ?_
   simp only [wy, wq, simprocAttr]
   skip
   refine ⟨sc3, ?_⟩
   exact t975.h
  ·skip
   refine hW.all 973 [(1, 975), (4, 989)] _ (by kernel_rfl) (by simp) ?_
   simp only [wy, wq, simprocAttr]
   refine ⟨?_, ?_⟩
   ·exact t975.h
   ·exact t989.h
  ·skip
   refine hW.all 255 [(8, 511), (9, 767)] _ (by kernel_rfl) (by simp) ?_
   simp only [wy, wq, simprocAttr]
   refine ⟨?_, ?_⟩
   ·refine hW.takeF 511 11 2559 _ (by kernel_rfl) ?_
    simp only [wy, wq, simprocAttr]
    exact t2559.h
   ·exact t767.h
  ·skip
   refine hW.all 479 [(5, 511), (9, 991)] _ (by kernel_rfl) (by simp) ?_
   simp only [wy, wq, simprocAttr]
   refine ⟨?_, ?_⟩
   ·refine ⟨by simp [limOk, hml]; omega, ?_⟩
    refine hW.takeF 511 11 2559 _ (by kernel_rfl) ?_
    simp only [wy, wq, simprocAttr]
    exact t2559.h
   ·exact t991.h
  ·skip
   refine hW.all 735 [(5, 767), (8, 991)] _ (by kernel_rfl) (by simp) ?_
   simp only [wy, wq, simprocAttr]
   refine ⟨?_, ?_⟩
   ·refine ⟨by simp [limOk, hml]; omega, ?_⟩
    exact t767.h
   ·exact t991.h
  ·skip
   refine hW.all 975 [(4, 991)] _ (by kernel_rfl) (by simp) ?_
   simp only [wy, wq, simprocAttr]
   skip
   exact t991.h
  ·skip
   refine hW.all 989 [(1, 991)] _ (by kernel_rfl) (by simp) ?_
   simp only [wy, wq, simprocAttr]
   skip
   exact t991.h
  ·skip
   refine hW.all 767 [(8, 1023)] _ (by kernel_rfl) (by simp) ?_
   simp only [wy, wq, simprocAttr]
   skip
   refine hW.takeF 1023 11 3071 _ (by kernel_rfl) ?_
   simp only [wy, wq, simprocAttr]
   exact t3071.h
  ·skip
   refine hW.all 991 [(5, 1023)] _ (by kernel_rfl) (by simp) ?_
   simp only [wy, wq, simprocAttr]
   skip
   refine ⟨by simp [limOk, hml]; omega, ?_⟩
   refine hW.takeF 1023 11 3071 _ (by kernel_rfl) ?_
   simp only [wy, wq, simprocAttr]
   exact t3071.h
  ·skip
   refine hW.all 2559 [(9, 3071)] _ (by kernel_rfl) (by simp) ?_
   simp only [wy, wq, simprocAttr]
   skip
   exact t3071.h
  ·skip
   refine hW.all 3071 [(10, 4095)] _ (by kernel_rfl) (by simp) ?_
   simp only [wy, wq, simprocAttr]
   skip
   refine ⟨by simp [limOk, hml]; omega, ?_⟩
   exact t4095.h
  ·skip
   refine hW.all 4095 [(12, 8191)] _ (by kernel_rfl) (by simp) ?_
   simp only [wy, wq, simprocAttr]
   skip
   refine hW.takeF 8191 13 16383 _ (by kernel_rfl) ?_
   simp only [wy, wq, simprocAttr]
   refine hW.takeF 16383 14 32767 _ (by kernel_rfl) ?_
   simp only [wy, wq, simprocAttr]
   exact t32767.h
  ·skip
   refine hW.all 32767 [(15, 65535)] _ (by kernel_rfl) (by simp) ?_
   simp only [wy, wq, simprocAttr]
   skip
   exact t65535.h
  ·skip
   refine hW.done 65535 _ (by kernel_rfl) ?_
   exact tK.h
  ·refine hK _ ?_
   show vthen _ _ _ .normal _
   refine vthen_n ?_
   repeat refine VW.seq ?_
   refine VW.regl hT fun K hK => ?_
   simp only [wq, simprocAttr]
   refine hK _ ?_
   clear hK K
   try refine vthen_n ?_
   refine ⟨i + 1, hlt, ?_, by show s.length - (i + 1) < s.length - i; omega⟩
   simp only [wn, wq, simprocAttr]
   rw [wrap64 (by omega) (by omega), memTo_succ hlt, hN, hrep]
   rfl
 ·have hge : i = s.length := by
   have : s.length ≤ i := by simpa using hc
   omega
  subst hge
  refine VW.exit ?_
  show vthen _ _ _ .normal _
  refine vthen_n ?_
  repeat refine VW.seq ?_
  refine VW.regl hT fun K hK => ?_
  simp only [wq, simprocAttr]
  refine hK _ ?_
  clear hK K
  try refine vthen_n ?_
  refine VW.ret ⟨.inl rfl, _, rfl, ?_⟩
  have hn : newOk t s = true := by
   rw [newOk, hf, Bool.true_and, Bool.not_eq_true', List.any_eq_false]
   intro x hx
   obtain ⟨j, h1, h2⟩ := List.getElem_of_mem hx
   have := h64 j h1
   rw [List.getD_eq_getElem?_getD, List.getElem?_eq_getElem h1] at this
   have : s[j] ≤ 64 := this.2
   rw [h2] at this
   simpa using this
  rw [if_pos hn]
  rfl
end Go.Proofs.YtmechjnfeidnkaaGreat.V.W
end
section
namespace Go.Proofs.YtmechjnfeidnkaaGreat.V.W
open Go Go.RowKit
theorem up_two {n i : Nat} (h : n ≤ 2 ^ i) : up n ≤ 2 ^ i := by
 rw [up]
 split
 ·exact Nat.zero_le _
 ·rename_i hn
  refine Nat.pow_le_pow_right (by omega) ?_
  have : (2 * n - 1).log2 < i + 1 := (Nat.log2_lt (by omega)).2 (by rw [Nat.pow_succ]; omega)
  omega
/-- a window's bound, by how many nodes come from it on -/
def be (m : Nat) : Nat := if m = 0 then 0 else 2 ^ (6 + (m - 2))
theorem be_two {m : Nat} (h : 2 ≤ m) : be (m + 1) = 2 * be m := by
 rw [be, be, if_neg (by omega), if_neg (by omega), show 6 + (m + 1 - 2) = 6 + (m - 2) + 1 by omega, Nat.pow_succ]
 omega
theorem be_one : be 1 = 64 ∧ be 2 = 64 := ⟨rfl, rfl⟩
theorem be_sum (n k : Nat) : ∀ m, m ≤ n → (m ≤ k + 1 ∧ ((List.range m).map fun j => if k < j then be (n - j) else 0).sum = 0) ∨ (((List.range m).map fun j => if k < j then be (n - j) else 0).sum + (if m = n then 0 else be (n + 1 - m)) ≤ be (n - k) ∧ k + 1 < m)
 | 0, _ => .inl ⟨by omega, rfl⟩
 | m + 1, h => by
  rw [List.range_succ, List.map_append, List.sum_append_nat]
  simp only [List.map_cons, List.map_nil, List.sum_cons, List.sum_nil, Nat.add_zero]
  have e1 : n + 1 - (m + 1) = n - m := by omega
  rw [e1]
  rcases be_sum n k m (by omega) with ⟨h1, h2⟩ | ⟨h1, h2⟩
  ·rw [h2]
   by_cases hk : k < m
   ·obtain rfl : m = k + 1 := by omega
    rw [if_pos hk]
    refine .inr ⟨?_, by omega⟩
    by_cases hn : k + 1 + 1 = n
    ·rw [if_pos hn, show n - (k + 1) = 1 by omega, show n - k = 2 by omega, be_one.1, be_one.2]
     omega
    ·rw [if_neg hn]
     have := be_two (m := n - (k + 1)) (by omega)
     rw [show n - (k + 1) + 1 = n - k by omega] at this
     omega
   ·rw [if_neg hk]
    exact .inl ⟨by omega, by omega⟩
  ·rw [if_pos (by omega)]
   rw [if_neg (by omega)] at h1
   refine .inr ⟨?_, by omega⟩
   by_cases hn : m + 1 = n
   ·rw [if_pos hn, show n - m = 1 by omega, be_one.1]
    rw [show n + 1 - m = 2 by omega, be_one.2] at h1
    omega
   ·rw [if_neg hn]
    have := be_two (m := n - m) (by omega)
    rw [show n - m + 1 = n + 1 - m by omega] at this
    omega
theorem win_be {t : List Nd} {s : List Int} (hok : treeOk t = true) (h64 : ∀ j, j < t.length → s.getD j 0 ≤ 64) : ∀ (f k : Nat), t.length - k ≤ f → k < t.length → win t s k ≤ be (t.length - k)
 | 0, k, h, hk => by omega
 | f + 1, k, h, hk => by
  have hb : be (t.length - k) = 2 ^ (6 + (t.length - k - 2)) := by rw [be, if_neg (by omega)]
  rw [win_eq hok s hk]
  split
  ·rw [hb]
   refine up_two ?_
   rw [← hb]
   have h1 : ksum t s k ≤ wsum (fun j => be (t.length - j)) (kids t k t.length) := by
    refine wsum_bd fun a ha => ?_
    obtain ⟨j, rfl, h3, h4, h5, h6⟩ := kids_pos hok ha
    exact win_be hok h64 f j (by omega) h4
   have h2 := kids_above (fun j => be (t.length - j)) t k fun a ha => by
    obtain ⟨j, rfl, h3, h4, h5, h6⟩ := kids_pos hok ha
    omega
   rcases be_sum t.length k t.length (Nat.le_refl _) with ⟨h3, h4⟩ | ⟨h3, h4⟩
   ·omega
   ·rw [if_pos rfl] at h3
    omega
  ·have h1 := h64 k hk
   have h2 : 2 ^ 6 ≤ be (t.length - k) := by rw [hb]; exact Nat.pow_le_pow_right (by omega) (by omega)
   have h2 : 64 ≤ be (t.length - k) := h2
   omega
theorem small_fits {t : List Nd} {s : List Int} (hok : treeOk t = true) (hl : s.length = t.length) (h : ∀ j, j < t.length → (s.getD j 0 = 0 ∨ s.getD j 0 = 16 ∨ s.getD j 0 = 32 ∨ s.getD j 0 = 64) ∧ ((t.getD j z).2.2 = 0 → s.getD j 0 = 0)) : newOk t s = true := by
 have htl := treeOk_len hok
 have h64 : ∀ j, j < t.length → s.getD j 0 ≤ 64 := fun j hj => by
  have := (h j hj).1
  omega
 have hs : sizesOk t s = true := by
  refine sizesOk_iff.2 ⟨hok, hl, fun k hk => ?_⟩
  obtain ⟨h1, h2⟩ := h k hk
  rw [sizeBad]
  by_cases hz : s.getD k 0 = 0
  ·rw [hz]; rfl
  ·have hd : ((t.getD k z).2.2 == 0) = false := by
    rw [beq_eq_false_iff_ne]
    exact fun e => hz (h2 e)
   rw [hd, Bool.false_or]
   rcases h1 with e | e | e | e <;> rw [e] <;> rfl
 have hw := win_be hok h64 t.length 0 (by omega) (by omega)
 have hb : be (t.length - 0) ≤ 65536 := by
  rw [be]
  split
  ·omega
  ·have : 2 ^ (6 + (t.length - 0 - 2)) ≤ 2 ^ 16 := Nat.pow_le_pow_right (by omega) (by omega)
   have e : (2 : Nat) ^ 16 = 65536 := rfl
   omega
 rw [newOk, fits, hs, decide_eq_true (by omega), Bool.true_and, Bool.true_and, Bool.not_eq_true', List.any_eq_false]
 intro x hx
 obtain ⟨j, h1, rfl⟩ := List.getElem_of_mem hx
 have := h64 j (by omega)
 rw [List.getD_eq_getElem?_getD, List.getElem?_eq_getElem h1] at this
 have : s[j] ≤ 64 := this
 simpa using this
end Go.Proofs.YtmechjnfeidnkaaGreat.V.W
end
section
namespace Go.Proofs.YtmechjnfeidnkaaGreat.V.W
open Go Go.RowKit
set_option maxRecDepth 20000 in
set_option maxHeartbeats 2000000 in
theorem specNew_vc (t : List Nd) (s : List Int) (hl : t.length ≤ 2000000) (hs : s.length ≤ 2000000) : VC Tryz.prog 107 [.v false sNS t, .v false sI s] (fun pv => if newOk t s = true then pv = rFab fFab (newFab t s) true else pv = rFab .own ([], [], [], [], []) false) := by
 refine VC.of_body hT Tryz.func107 rfl (by kernel_rfl) [(.cell 4 32, true, sFi), (.tmp 5, false, .bool)] (by kernel_rfl) ?_
 show VW _ _ ([.v false sNS t, .v false sI s, D, D, D, D, D, D, D, D, D, D, D, D, D, D, D, D, D, D, D, D, D, D, D, D, D, D, D, D, D, D, D, D, D, D, D, D, D, D, D, D, D, D, D, D, D, D, D, D, D, D, D, D, D, D, D, D, D, D, D, D, D, D, D, D, D, D]) _
 repeat refine VW.seq ?_
 refine VW.regl hT fun K hK => ?_
 simp only [wq, simprocAttr]
 refine hK _ ?_
 clear hK K
 try refine vthen_n ?_
 repeat refine VW.seq ?_
 refine VW.regl hT fun K hK => ?_
 simp only [wq, simprocAttr]
 refine vcall_ex (specAllocate_vc t s hl hs) ?_
 intro pv hpv
 by_cases hf : fits t s = true
 case neg =>
  have hno : newOk t s = false := by rw [newOk, (by simpa using hf : fits t s = false), Bool.false_and]
  rw [if_neg hf] at hpv
  obtain ⟨bs, rfl⟩ := hpv
  simp only [wq, simprocAttr]
  refine hK _ ?_
  clear hK K
  try refine vthen_n ?_
  repeat refine VW.seq ?_
  refine VW.regl hT fun K hK => ?_
  simp only [wq, simprocAttr]
  refine vcall_ex (specEnum_vc t hl) ?_
  intro pv hpv
  by_cases hok : treeOk t = true
  ·rw [if_pos hok] at hpv
   obtain ⟨x3, rfl⟩ := hpv
   simp only [wq, simprocAttr]
   refine hK _ ?_
   clear hK K
   try refine vthen_n ?_
   repeat refine VW.seq ?_
   refine VW.regl hT fun K hK => ?_
   simp only [wq, simprocAttr]
   refine hK _ ?_
   clear hK K
   try refine vthen_n ?_
   repeat refine VW.seq ?_
   refine VW.cond rfl (fun hc => ?_) (fun hc => ?_)
   ·repeat refine VW.seq ?_
    refine VW.regl hT fun K hK => ?_
    simp only [wq, simprocAttr]
    refine hK _ ?_
    clear hK K
    try refine vthen_n ?_
    refine VW.ret ⟨.inl rfl, _, rfl, ?_⟩
    rw [if_neg (by rw [hno]; decide)]
   ·cases hc
  ·rw [if_neg hok] at hpv
   subst hpv
   simp only [wq, simprocAttr]
   refine hK _ ?_
   clear hK K
   try refine vthen_n ?_
   repeat refine VW.seq ?_
   refine VW.regl hT fun K hK => ?_
   simp only [wq, simprocAttr]
   refine hK _ ?_
   clear hK K
   try refine vthen_n ?_
   repeat refine VW.seq ?_
   refine VW.cond rfl (fun hc => ?_) (fun hc => ?_)
   ·repeat refine VW.seq ?_
    refine VW.regl hT fun K hK => ?_
    simp only [wq, simprocAttr]
    refine hK _ ?_
    clear hK K
    try refine vthen_n ?_
    refine VW.ret ⟨.inl rfl, _, rfl, ?_⟩
    rw [if_neg (by rw [hno]; decide)]
   ·cases hc
 rw [if_pos hf] at hpv
 subst hpv
 simp only [wq, simprocAttr]
 refine hK _ ?_
 clear hK K
 try refine vthen_n ?_
 have hok0 : sizesOk t s = true := by
  have := hf
  rw [fits, Bool.and_eq_true] at this
  exact this.1
 have hok := (sizesOk_iff.1 hok0).1
 have hsl := (sizesOk_iff.1 hok0).2.1
 have htl := treeOk_len hok
 have hpos : ∀ i, i < s.length → 0 ≤ s.getD i 0 := fun i hi => by
  rcases sizes_node hok0 (k := i) (by omega) with h | ⟨h, _⟩
  ·omega
  ·have := pw_in h
   omega
 repeat refine VW.seq ?_
 refine VW.regl hT fun K hK => ?_
 simp only [wq, simprocAttr]
 refine vcall_ex (specEnum_vc t hl) ?_
 intro pv hpv
 rw [if_pos hok] at hpv
 obtain ⟨x3, rfl⟩ := hpv
 simp only [wq, simprocAttr]
 refine hK _ ?_
 clear hK K
 try refine vthen_n ?_
 repeat refine VW.seq ?_
 refine VW.regl hT fun K hK => ?_
 simp only [wq, simprocAttr]
 refine hK _ ?_
 clear hK K
 try refine vthen_n ?_
 repeat refine VW.seq ?_
 refine VW.cond rfl (fun hc => ?_) (fun hc => ?_)
 ·cases hc
 refine VW.skip (vthen_n ?_)
 repeat refine VW.seq ?_
 refine VW.regl hT fun K hK => ?_
 simp only [wq, simprocAttr]
 refine ⟨by simp [limOk]; omega, by simp [limOk]; omega, ?_⟩
 refine hK _ ?_
 clear hK K
 try refine vthen_n ?_
 repeat refine VW.seq ?_
 refine VW.regl hT fun K hK => ?_
 simp only [wq, simprocAttr]
 refine hK _ ?_
 clear hK K
 try refine vthen_n ?_
 refine VW.retag (ι := Unit) (g := 10) (fun _ => fFab) _ rfl (fun w Z cs B h => ⟨(), h⟩) (fun j => by simp only [wq, simprocAttr]; rfl) (fun _ => ?_)
 repeat refine VW.seq ?_
 refine VW.block ?_
 refine VW.loop (α := Nat) [(0, none), (1, none), (4, none), (10, none), (11, none)] (fun i => [.v false sNS t, .v false sI s, D, D, .root (.box 32) sFi .own ([], [], [], [], []), D, D, D, D, D, .root (.box 32) sFi fFab (t, s, allBars t s, memTo s i, List.replicate i true), .v false (.int .i64) ((i : Nat)), D, D, D, D, D, D, D, D, D, D, D, D, D, D, D, D, D, D, D, D, D, D, D, D, D, D, D, D, D, D, D, D, D, D, D, D, D, D, D, D, D, D, D, D, D, D, D, D, D, D, D, D, D, D, D, D]) (fun i => i ≤ s.length ∧ ∀ j, j < i → s.getD j 0 ≤ 64) (fun i => s.length - i) ⟨0, ⟨by omega, fun j h => by omega⟩, ?_⟩ fun i ⟨hi, hle⟩ => ?_
 ·simp only [wn, wq, simprocAttr]
  try rfl
 repeat refine VW.seq ?_
 refine VW.regl hT fun K hK => ?_
 simp only [wq, simprocAttr]
 refine hK _ ?_
 clear hK K
 try refine vthen_n ?_
 repeat refine VW.seq ?_
 refine VW.cond rfl (fun hc => ?_) (fun hc => ?_)
 ·have hlt : i < s.length := by
   have : (i : Int) < (t.length : Int) := of_decide_eq_true hc
   omega
  have hml := memTo_len (s := s) (i := i) (by omega)
  have h6 := hpos i hlt
  have hiS : decide (0 ≤ (i : Int) ∧ (i : Int) < (s.length : Int)) = true := decide_eq_true ⟨Int.natCast_nonneg _, by omega⟩
  refine VW.skip (vthen_n ?_)
  repeat refine VW.seq ?_
  refine VW.block ?_
  repeat refine VW.seq ?_
  refine VW.regl hT fun K hK => ?_
  simp only [wq, simprocAttr]
  refine ⟨hiS, ?_⟩
  refine hK _ ?_
  clear hK K
  try refine vthen_n ?_
  repeat refine VW.seq ?_
  refine VW.cond rfl (fun hc => ?_) (fun hc => ?_)
  ·have hc : s.getD i 0 > 64 := of_decide_eq_true hc
   have hno : newOk t s = false := by
    rw [newOk, hf, Bool.true_and, Bool.not_eq_false', List.any_eq_true]
    exact ⟨_, getD_mem hlt, decide_eq_true hc⟩
   repeat refine VW.seq ?_
   refine VW.regl hT fun K hK => ?_
   simp only [wq, simprocAttr]
   refine hK _ ?_
   clear hK K
   try refine vthen_n ?_
   refine VW.ret ⟨.inl rfl, _, rfl, ?_⟩
   rw [if_neg (by rw [hno]; decide)]
  have h7 : ¬ s.getD i 0 > 64 := of_decide_eq_false hc
  refine VW.skip (vthen_n ?_)
  refine VW.weak (weak_norm [(0, none), (1, none), (4, none), (10, none), (11, none)] _) ?_
  simp only [wn, wq, simprocAttr]
  repeat refine VW.seq ?_
  have hrep : true :: List.replicate i true = List.replicate i true ++ [true] := by rw [← List.replicate_succ, List.replicate_succ']
  have sc3 : (decide (0 ≤ s.getD i 0) && limOk (Int.toNat (s.getD i 0)) 8) = true := by
   generalize s.getD i 0 = N at *
   simp [limOk]; omega
  refine VW.any hT hm fun K hK W hW => ?_
  apply cutl
  intro tK
  apply cutl
  intro t2047
  apply cutl
  intro t1023
  apply cutl
  intro t255
  apply cutl
  intro t253
  apply cutl
  intro t127
  apply cutl
  intro t125
  apply cutl
  intro t63
  apply cutl
  intro t61
  apply cutl
  intro t31
  apply cutl
  intro t29
  apply cutl
  intro t15
  ·refine hW.takeF 0 0 1 _ (by kernel_rfl) ?_
   simp only [wy, wq, simprocAttr]
   refine hW.take 1 2 5 _ (by kernel_rfl) ?_
   simp only [wy, wq, simprocAttr]
   refine hW.take 5 3 13 _ (by kernel_rfl) ?_
   simp only [wy, wq, simprocAttr]
   refine hW.all 13 [(1, 15), (4, 29)] _ (by kernel_rfl) (by simp) ?_
   simp only [wy, wq, simprocAttr]
   refine ⟨?_, ?_⟩
   ·exact t15.h
   ·refine ⟨hiS, ?_⟩
    exact t29.h
  ·skip
   refine hW.all 15 [(4, 31)] _ (by kernel_rfl) (by simp) ?_
   simp only [wy, wq, simprocAttr]
   skip
   refine ⟨hiS, ?_⟩
   exact t31.h
  ·skip
   refine hW.all 29 [(1, 31), (5, 61)] _ (by kernel_rfl) (by simp) ?_
   simp only [wy, wq, simprocAttr]
   refine ⟨?_, ?_⟩
   ·exact t31.h
   ·exact t61.h
  ·skip
   refine hW.all 31 [(5, 63)] _ (by kernel_rfl) (by simp) ?_
   simp only [wy, wq, simprocAttr]
   skip
   exact t63.h
  ·skip
   refine hW.all 61 [(1, 63), (6, 125)] _ (by kernel_rfl) (by simp) ?_
   simp only [wy, wq, simprocAttr]
   refine ⟨?_, ?_⟩
   ·exact t63.h
   ·refine ⟨sc3, ?_⟩
    exact t125.h
  ·skip
   refine hW.all 63 [(6, 127)] _ (by kernel_rfl) (by simp) ?_
   simp only [wy, wq, simprocAttr]
   skip
   refine ⟨sc3, ?_⟩
   exact t127.h
  ·skip
   refine hW.all 125 [(1, 127), (7, 253)] _ (by kernel_rfl) (by simp) ?_
   simp only [wy, wq, simprocAttr]
   refine ⟨?_, ?_⟩
   ·exact t127.h
   ·exact t253.h
  ·skip
   refine hW.all 127 [(7, 255)] _ (by kernel_rfl) (by simp) ?_
   simp only [wy, wq, simprocAttr]
   skip
   exact t255.h
  ·skip
   refine hW.all 253 [(1, 255)] _ (by kernel_rfl) (by simp) ?_
   simp only [wy, wq, simprocAttr]
   skip
   exact t255.h
  ·skip
   refine hW.all 255 [(8, 511)] _ (by kernel_rfl) (by simp) ?_
   simp only [wy, wq, simprocAttr]
   skip
   refine ⟨by simp [limOk, hml]; omega, ?_⟩
   refine hW.takeF 511 9 1023 _ (by kernel_rfl) ?_
   simp only [wy, wq, simprocAttr]
   exact t1023.h
  ·skip
   refine hW.all 1023 [(10, 2047)] _ (by kernel_rfl) (by simp) ?_
   simp only [wy, wq, simprocAttr]
   skip
   exact t2047.h
  ·skip
   refine hW.done 2047 _ (by kernel_rfl) ?_
   exact tK.h
  ·refine hK _ ?_
   show vthen _ _ _ .normal _
   refine vthen_n ?_
   repeat refine VW.seq ?_
   refine VW.regl hT fun K hK => ?_
   simp only [wq, simprocAttr]
   refine ⟨by simp [limOk]; omega, ?_⟩
   refine hK _ ?_
   clear hK K
   try refine vthen_n ?_
   show vthen _ _ _ .normal _
   refine vthen_n ?_
   repeat refine VW.seq ?_
   refine VW.regl hT fun K hK => ?_
   simp only [wq, simprocAttr]
   refine hK _ ?_
   clear hK K
   try refine vthen_n ?_
   refine ⟨i + 1, ⟨hlt, fun j h => ?_⟩, ?_, by show s.length - (i + 1) < s.length - i; omega⟩
   ·rcases Nat.lt_or_ge j i with h1 | h1
    ·exact hle j h1
    ·obtain rfl : j = i := by omega
     omega
   simp only [wn, wq, simprocAttr]
   rw [wrap64 (by omega) (by omega), memTo_succ hlt, hrep]
   rfl
 ·have hge : i = s.length := by
   have : ¬ (i : Int) < (t.length : Int) := of_decide_eq_false hc
   omega
  subst hge
  refine VW.exit ?_
  show vthen _ _ _ .normal _
  refine vthen_n ?_
  repeat refine VW.seq ?_
  refine VW.regl hT fun K hK => ?_
  simp only [wq, simprocAttr]
  refine hK _ ?_
  clear hK K
  try refine vthen_n ?_
  refine VW.ret ⟨.inl rfl, _, rfl, ?_⟩
  have hn : newOk t s = true := by
   rw [newOk, hf, Bool.true_and, Bool.not_eq_true', List.any_eq_false]
   intro x hx
   obtain ⟨j, h1, h2⟩ := List.getElem_of_mem hx
   have := hle j h1
   rw [List.getD_eq_getElem?_getD, List.getElem?_eq_getElem h1] at this
   have : s[j] ≤ 64 := this
   rw [h2] at this
   simpa using this
  rw [if_pos hn]
  rfl
end Go.Proofs.YtmechjnfeidnkaaGreat.V.W
end
section
namespace Go.Proofs.YtmechjnfeidnkaaGreat.V.W
open Go Go.RowKit
/-- the first and the last i turned -/
def revTo (xs : List Int) (i : Nat) : List Int := (List.range xs.length).map fun m => if m < i ∨ xs.length ≤ m + i then xs.getD (xs.length - 1 - m) 0 else xs.getD m 0
theorem revTo_len (xs : List Int) (i : Nat) : (revTo xs i).length = xs.length := by simp [revTo]
theorem revTo_get {xs : List Int} {i m : Nat} (h : m < xs.length) : (revTo xs i).getD m 0 = if m < i ∨ xs.length ≤ m + i then xs.getD (xs.length - 1 - m) 0 else xs.getD m 0 := by
 rw [revTo, List.getD_eq_getElem?_getD, List.getElem?_map, List.getElem?_range h]; rfl
theorem list_ext {xs ys : List Int} (h : xs.length = ys.length) (hg : ∀ m, m < xs.length → xs.getD m 0 = ys.getD m 0) : xs = ys := by
 refine List.ext_getElem h fun m h1 h2 => ?_
 have := hg m h1
 rwa [List.getD_eq_getElem?_getD, List.getElem?_eq_getElem h1, List.getD_eq_getElem?_getD, List.getElem?_eq_getElem h2] at this
theorem set_getD {xs : List Int} {j m : Nat} {y : Int} (h : m < xs.length) : (xs.set j y).getD m 0 = if j = m then y else xs.getD m 0 := by
 rw [List.getD_eq_getElem?_getD, List.getElem?_set, List.getD_eq_getElem?_getD]
 by_cases e : j = m
 ·subst e; simp [h]
 ·simp [e]
theorem revTo_zero (xs : List Int) : revTo xs 0 = xs := by
 refine list_ext (revTo_len _ _) fun m hm => ?_
 rw [revTo_len] at hm
 rw [revTo_get hm, if_neg (by omega)]
theorem revTo_done {xs : List Int} {i : Nat} (h : xs.length - 1 - i ≤ i) : revTo xs i = xs.reverse := by
 refine list_ext (by rw [revTo_len, List.length_reverse]) fun m hm => ?_
 rw [revTo_len] at hm
 rw [revTo_get hm, List.getD_eq_getElem?_getD (l := xs.reverse), List.getElem?_reverse hm, ← List.getD_eq_getElem?_getD]
 split
 ·rfl
 ·congr 1; omega
theorem revTo_step {xs : List Int} {i : Nat} (h : i < xs.length - 1 - i) : ((revTo xs i).set i (xs.getD (xs.length - 1 - i) 0)).set (xs.length - 1 - i) (xs.getD i 0) = revTo xs (i + 1) := by
 refine list_ext (by simp only [List.length_set, revTo_len]) fun m hm => ?_
 simp only [List.length_set, revTo_len] at hm
 rw [set_getD (by simp only [List.length_set, revTo_len]; exact hm), set_getD (by rw [revTo_len]; exact hm), revTo_get hm, revTo_get hm]
 by_cases e1 : xs.length - 1 - i = m
 ·rw [if_pos e1, if_pos (by omega)]; congr 1; omega
 ·rw [if_neg e1]
  by_cases e2 : i = m
  ·subst e2; rw [if_pos rfl, if_pos (by omega)]
  ·rw [if_neg e2]
   by_cases e3 : m < i ∨ xs.length ≤ m + i
   ·rw [if_pos e3, if_pos (by omega)]
   ·rw [if_neg e3, if_neg (by omega)]
set_option maxRecDepth 20000 in
theorem reverse_vx (xs : List Int) (h0 : 0 < xs.length) (hl : xs.length ≤ 2000000) :
  VX Tryz.prog 127 [.root (.val false) sI .own xs] 0 (fun pv ot => pv = nil0 ∧ ot = .root (.val false) sI .own xs.reverse) := by
 refine VX.of_rows hT Tryz.func127 rfl (by kernel_rfl) [] (by kernel_rfl) rfl rfl h0 fun l fi li e1 e2 => ?_
 obtain ⟨n, cp, rfl, rfl⟩ := io1 e1 e2
 show VW _ _ ([.root (.val false) sI (.io n cp) xs, D, D, D, D, D, D, D, D, D, D, D, D, D, D, D, D, D, D, D, D, D, D, D, D, D, D, D]) _
 repeat refine VW.seq ?_
 refine VW.regl hT fun K hK => ?_
 simp only [wq, simprocAttr]
 refine hK _ ?_
 clear hK K
 try refine vthen_n ?_
 rw [wrap64 (by omega) (by omega)]
 repeat refine VW.seq ?_
 refine VW.block ?_
 refine VW.loop (α := Nat) [(0, none), (2, none), (3, none)] (fun i => [.root (.val false) sI (.io n cp) (revTo xs i), D, .v false (.int .i64) (i), .v false (.int .i64) ((xs.length : Int) - 1 - i), D, D, D, D, D, D, D, D, D, D, D, D, D, D, D, D, D, D, D, D, D, D, D, D]) (fun i => 2 * i ≤ xs.length + 1) (fun i => xs.length + 1 - i) ⟨0, by omega, ?_⟩ fun i hi => ?_
 ·simp only [wn, wq, simprocAttr]
  rw [revTo_zero]
  simp
 repeat refine VW.seq ?_
 refine VW.regl hT fun K hK => ?_
 simp only [wq, simprocAttr]
 refine hK _ ?_
 clear hK K
 try refine vthen_n ?_
 have hrl := revTo_len xs i
 repeat refine VW.seq ?_
 refine VW.cond rfl (fun hc => ?_) (fun hc => ?_)
 ·have hlt : (i : Int) < (xs.length : Int) - 1 - i := of_decide_eq_true hc
  have hj : (xs.length : Int) - 1 - i = ((xs.length - 1 - i : Nat) : Int) := by omega
  rw [hj]
  refine VW.skip (vthen_n ?_)
  repeat refine VW.seq ?_
  refine VW.block ?_
  repeat refine VW.seq ?_
  refine VW.mixl hT hm 4 12 (by kernel_rfl) fun K hK => ?_
  simp only [wq, simprocAttr]
  refine ⟨by kernel_rfl, by kernel_rfl, decide_eq_true ⟨Int.natCast_nonneg _, by show ((xs.length - 1 - i : Nat) : Int) < ((revTo xs i).length : Int); omega⟩, by kernel_rfl, by kernel_rfl, by kernel_rfl, decide_eq_true ⟨Int.natCast_nonneg _, by show (i : Int) < ((revTo xs i).length : Int); omega⟩, by kernel_rfl, decide_eq_true ⟨Int.natCast_nonneg _, by show (i : Int) < ((revTo xs i).length : Int); omega⟩, decide_eq_true ⟨Int.natCast_nonneg _, by show ((xs.length - 1 - i : Nat) : Int) < ((List.set _ _ _).length : Int); rw [List.length_set]; omega⟩, ?_⟩
  have g1 : (revTo xs i).getD (xs.length - 1 - i) 0 = xs.getD (xs.length - 1 - i) 0 := by rw [revTo_get (by omega), if_neg (by omega)]
  have g2 : (revTo xs i).getD i 0 = xs.getD i 0 := by rw [revTo_get (by omega), if_neg (by omega)]
  rw [g1, g2, revTo_step (by omega)]
  refine hK _ ?_
  clear hK K
  try refine vthen_n ?_
  repeat refine VW.seq ?_
  refine VW.regl hT fun K hK => ?_
  simp only [wq, simprocAttr]
  refine hK _ ?_
  clear hK K
  try refine vthen_n ?_
  refine ⟨i + 1, by omega, ?_, by show xs.length + 1 - (i + 1) < xs.length + 1 - i; omega⟩
  simp only [wn, wq, simprocAttr]
  rw [wrap64 (by omega) (by omega), wrap64 (by omega) (by omega), show ((xs.length - 1 - i : Nat) : Int) - 1 = (xs.length : Int) - 1 - ((i + 1 : Nat) : Int) by omega]
  rfl
 ·have hge : ¬ (i : Int) < (xs.length : Int) - 1 - i := of_decide_eq_false hc
  refine VW.exit ?_
  refine ⟨.inr rfl, _, _, _, _, rfl, ⟨0, _, rfl⟩, ?_, rfl, ?_⟩
  ·show some [Value.slice (some ⟨n, 0, none⟩) (revTo xs i).length cp] = some [Value.slice (some ⟨n, 0, none⟩) xs.length cp]
   rw [hrl]
  ·show PV.root (.val false) sI .own (revTo xs i) = _
   rw [revTo_done (by omega)]
/-- the bridge i steps above -/
def anc (t : List Nd) (k : Int) : Nat → Int
 | 0 => k
 | i + 1 => (t.getD (anc t k i).toNat z).1
/-- a node and all above it, from the root on -/
def pathTo (t : List Nd) (k : Int) : List Int := if (treeOk t && inB k 0 (t.length - 1)) = true then (((List.range t.length).map (anc t k)).filter fun x => decide (0 ≤ x)).reverse else []
theorem anc_lt {t : List Nd} {k : Int} (h : treeOk t = true) (hk : k < t.length) : ∀ i, -1 ≤ k → -1 ≤ anc t k i ∧ anc t k i < t.length ∧ (0 ≤ anc t k i → anc t k i ≤ k - i)
 | 0, h0 => ⟨h0, hk, fun _ => by show k ≤ k - 0; omega⟩
 | i + 1, h0 => by
  have h1 := anc_lt h hk i h0
  have hl := treeOk_len h
  show -1 ≤ (t.getD (anc t k i).toNat z).1 ∧ (t.getD (anc t k i).toNat z).1 < t.length ∧ (0 ≤ (t.getD (anc t k i).toNat z).1 → (t.getD (anc t k i).toNat z).1 ≤ k - ((i + 1 : Nat) : Int))
  rcases Nat.eq_zero_or_pos (anc t k i).toNat with e | e
  ·rw [e, (tree_parts h).2.1]
   exact ⟨by decide, by show (-1 : Int) < _; omega, fun h => absurd h (by decide)⟩
  ·obtain ⟨p, hp, hpl⟩ := par h (j := (anc t k i).toNat) (by omega) (by omega)
   rw [hp]
   omega
theorem anc_out {t : List Nd} {k : Int} (h : treeOk t = true) {i : Nat} (hi : anc t k i < 0) : ∀ j, i ≤ j → anc t k j < 0
 | 0, hj => by
  obtain rfl : i = 0 := by omega
  exact hi
 | j + 1, hj => by
  rcases Nat.lt_or_ge j i with h1 | h1
  ·obtain rfl : i = j + 1 := by omega
   exact hi
  ·have := anc_out h hi j h1
   show (t.getD (anc t k j).toNat z).1 < 0
   rw [show (anc t k j).toNat = 0 by omega, (tree_parts h).2.1]
   decide
/-- the first i -/
def accTo (t : List Nd) (k : Int) (i : Nat) : List Int := (List.range i).map (anc t k)
theorem accTo_succ (t : List Nd) (k : Int) (i : Nat) : accTo t k (i + 1) = accTo t k i ++ [anc t k i] := by simp [accTo, List.range_succ]
theorem accTo_all {t : List Nd} {k : Int} (h : treeOk t = true) {i : Nat} (hi : anc t k i < 0) (hj : ∀ j, j < i → 0 ≤ anc t k j) : ∀ n, i ≤ n → (((List.range n).map (anc t k)).filter fun x => decide (0 ≤ x)) = accTo t k i
 | 0, hn => by
  obtain rfl : i = 0 := by omega
  rfl
 | n + 1, hn => by
  rcases Nat.lt_or_ge n i with h1 | h1
  ·obtain rfl : i = n + 1 := by omega
   unfold accTo
   rw [List.filter_eq_self]
   intro x hx
   obtain ⟨j, h2, rfl⟩ := List.mem_map.1 hx
   exact decide_eq_true (hj j (List.mem_range.1 h2))
  ·rw [List.range_succ, List.map_append, List.filter_append, accTo_all h hi hj n h1]
   have := anc_out h hi n h1
   simp only [List.map_cons, List.map_nil, List.filter_cons, List.filter_nil]
   rw [if_neg (by rw [decide_eq_true_iff]; omega), List.append_nil]
set_option maxRecDepth 20000 in
theorem pathTo_vc (t : List Nd) (k : Int) (hl : t.length ≤ 2000000) : VC Tryz.prog 126 [.v false sNS t, .v false (.int .i64) (k)] (· = .root (.val false) sI .own (pathTo t k)) := by
 refine VC.of_body hT Tryz.func126 rfl (by kernel_rfl) [(.tmp 4, false, sI)] (by kernel_rfl) ?_
 show VW _ _ ([.v false sNS t, .v false (.int .i64) (k), D, D, D, D, D, D, D, D, D, D, D, D, D, D, D, D, D, D, D, D, D, D, D, D]) _
 repeat refine VW.seq ?_
 refine VW.regl hT fun K hK => ?_
 simp only [wq, simprocAttr]
 refine hK _ ?_
 clear hK K
 try refine vthen_n ?_
 repeat refine VW.seq ?_
 refine VW.regl hT fun K hK => ?_
 simp only [wq, simprocAttr]
 refine hK _ ?_
 clear hK K
 try refine vthen_n ?_
 repeat refine VW.seq ?_
 refine VW.regl hT fun K hK => ?_
 simp only [wq, simprocAttr]
 refine vcall_of (isNode_vc t k hl) ?_
 simp only [wq, simprocAttr]
 refine hK _ ?_
 clear hK K
 try refine vthen_n ?_
 repeat refine VW.seq ?_
 refine VW.cond rfl (fun hc => ?_) (fun hc => ?_)
 ·repeat refine VW.seq ?_
  refine VW.regl hT fun K hK => ?_
  simp only [wq, simprocAttr]
  refine hK _ ?_
  clear hK K
  try refine vthen_n ?_
  refine VW.ret ⟨.inl rfl, _, rfl, ?_⟩
  have h' : (treeOk t && inB k 0 (t.length - 1)) = false := (Bool.not_eq_true' _).mp hc
  rw [pathTo, h']
  rfl
 have hok : (treeOk t && inB k 0 (t.length - 1)) = true := by
  have := hc
  rwa [Bool.not_eq_false'] at this
 have hk := hok
 simp only [Bool.and_eq_true] at hk
 have htr := hk.1
 have hk := inB_iff.1 hk.2
 have htl := treeOk_len htr
 refine VW.skip ?_
 show vthen _ _ _ .normal _
 refine vthen_n ?_
 repeat refine VW.seq ?_
 refine VW.block ?_
 refine VW.loop (α := Nat) [(0, none), (1, none), (5, some (3, .int .i64))] (fun i => [.v false sNS t, .v false (.int .i64) (anc t k i), D, D, D, .root (.val false) sI .own (accTo t k i), D, D, D, D, D, D, D, D, D, D, D, D, D, D, D, D, D, D, D, D]) (fun i => i ≤ t.length ∧ ∀ j, j < i → 0 ≤ anc t k j) (fun i => t.length - i) ⟨0, ⟨by omega, fun j hj => by omega⟩, ?_⟩ fun i ⟨hi, hj⟩ => ?_
 ·simp only [wn, wq, simprocAttr]
  try rfl
 have ha := anc_lt htr (show k < t.length by omega) i (by omega)
 have hal : (accTo t k i).length = i := by simp [accTo]
 repeat refine VW.seq ?_
 refine VW.regl hT fun K hK => ?_
 simp only [wq, simprocAttr]
 refine hK _ ?_
 clear hK K
 try refine vthen_n ?_
 repeat refine VW.seq ?_
 refine VW.cond rfl (fun hc => ?_) (fun hc => ?_)
 ·have hge : 0 ≤ anc t k i := of_decide_eq_true hc
  have := ha.2.2 hge
  refine VW.skip (vthen_n ?_)
  repeat refine VW.seq ?_
  refine VW.block ?_
  repeat refine VW.seq ?_
  refine VW.regl hT fun K hK => ?_
  simp only [wq, simprocAttr]
  refine ⟨by simp [limOk]; omega, ?_⟩
  refine hK _ ?_
  clear hK K
  try refine vthen_n ?_
  repeat refine VW.seq ?_
  refine VW.regl hT fun K hK => ?_
  simp only [wq, simprocAttr]
  refine ⟨decide_eq_true ⟨hge, ha.2.1⟩, ?_⟩
  refine hK _ ?_
  clear hK K
  try refine vthen_n ?_
  refine ⟨i + 1, ⟨by omega, fun j h => ?_⟩, ?_, by show t.length - (i + 1) < t.length - i; omega⟩
  ·rcases Nat.lt_or_ge j i with h1 | h1
   ·exact hj j h1
   ·obtain rfl : j = i := by omega
    exact hge
  ·simp only [wn, wq, simprocAttr]
   rw [accTo_succ]
   rfl
 ·have hlt : anc t k i < 0 := by
   have : ¬ 0 ≤ anc t k i := of_decide_eq_false hc
   omega
  refine VW.exit ?_
  show vthen _ _ _ .normal _
  refine vthen_n ?_
  have h0 : 0 < (accTo t k i).length := by
   rcases Nat.eq_zero_or_pos i with rfl | h
   ·exact absurd hk.1 (by show ¬ 0 ≤ k; exact (by have : anc t k 0 = k := rfl; omega))
   ·omega
  repeat refine VW.seq ?_
  refine VW.regl hT fun K hK => ?_
  simp only [wq, simprocAttr]
  refine vcall_io 0 ?_
  simp only [wq, simprocAttr]
  refine vxcall_of (reverse_vx _ h0 (by omega)) ?_
  simp only [wq, simprocAttr]
  refine hK _ ?_
  clear hK K
  try refine vthen_n ?_
  repeat refine VW.seq ?_
  refine VW.regl hT fun K hK => ?_
  simp only [wq, simprocAttr]
  refine hK _ ?_
  clear hK K
  try refine vthen_n ?_
  refine VW.ret ⟨.inl rfl, _, rfl, ?_⟩
  rw [pathTo, if_pos hok, accTo_all htr hlt hj _ hi]
end Go.Proofs.YtmechjnfeidnkaaGreat.V.W
end
section
namespace Go.Proofs.YtmechjnfeidnkaaGreat.V
open Go Go.RowKit
theorem getD_setL {α : Type} (xs : List α) (i j : Nat) (y z : α) (hi : i < xs.length) : (xs.set i y).getD j z = if j = i then y else xs.getD j z := by
 rw [List.getD_eq_getElem?_getD, List.getD_eq_getElem?_getD, List.getElem?_set]
 by_cases h : i = j
 ·subst h; simp [hi]
 ·rw [if_neg h, if_neg (fun e => h e.symm)]
/-- a row's own element taken out and put back -/
theorem own_el {w : World} {Z : Nat → Prop} {e e2 : TypeId} {s2 : Sh} {xs : List (List s2.ty)} {v : Value} {B : Nat → Prop} {i : Nat} (hi : i < xs.length) (hB : ∀ b, B b → b < w.heap.size) (hR : OwnR w e 1 (fun x c B' => Rep w Z (.sl e2 s2) .own x c B') [] xs [v] B) :
  ∃ A c u, ∃ Bi : Nat → Prop, v = .slice (some A) xs.length c ∧ rowCells w (A.add (i * 1)) 1 = [u] ∧ (∀ b, Bi b → B b) ∧ Rep w Z (.sl e2 s2) .own (xs.getD i []) [u] Bi ∧
   ∀ (w' : World) (y : List s2.ty) (Bo : Nat → Prop), ExtF w w' Bi → Rep w' Z (.sl e2 s2) .own y [u] Bo → (∀ b, Bo b → Bi b ∨ w.heap.size ≤ b) → (∀ b, Z b → b < w.heap.size ∧ ¬ B b) →
    OwnR w' e 1 (fun x c B' => Rep w' Z (.sl e2 s2) .own x c B') [] (xs.set i y) [v] (fun b => (B b ∧ ¬ Bi b) ∨ Bo b) := by
 rcases hR with ⟨A, _, rfl⟩ | ⟨g, cap, cur, rows, Bs, hA, q2, q3, q4, q5, q6, q7, q8⟩
 ·have : ([] : List (List s2.ty)).length = 0 := rfl
  omega
 have hv : v = .slice (some ⟨g, 0, none⟩) xs.length cap := by simpa using hA
 obtain ⟨p1, p2, p3, p4⟩ := q7 i hi
 obtain ⟨u, hu⟩ : ∃ u, rows i = [u] := by
  match h : rows i, p1 with
  | [u], _ => exact ⟨u, rfl⟩
 have hadd : (⟨g, 0, none⟩ : Addr).add (i * 1) = ⟨g, i * 1, none⟩ := by unfold Addr.add; split <;> simp_all
 refine ⟨⟨g, 0, none⟩, cap, u, Bs i, hv, ?_, fun b hb => (p3 b hb).1, by rw [hu] at p4; exact p4, ?_⟩
 ·refine rowCells_eq rfl fun j hj => ?_
  rw [add_add, cell_at rfl q2, ← hu, ← p2 j hj]
  show cur[0 + (i * 1 + j)]? = _
  rw [Nat.zero_add]
 ·intro w' y Bo hx hy hBo hZ
  have hgB : ¬ Bs i g := fun h => (p3 g h).2 rfl
  have hg' : w'.heap[g]? = some (.cells cur e (0, 0)) := by rw [hx.block g (hB g q6) hgB]; exact q2
  refine .inr ⟨g, cap, cur, rows, fun j => if j = i then Bo else Bs j, by rw [hv, List.length_set], hg', by rw [List.length_set]; exact q3, q4, q5, .inl ⟨q6, hgB⟩, fun j hj => ?_, fun j k b hj hk hne h1 h2 => ?_⟩
  ·rw [List.length_set] at hj
   obtain ⟨r1, r2, r3, r4⟩ := q7 j hj
   by_cases e : j = i
   ·subst e
    refine ⟨r1, r2, fun b hb => ?_, ?_⟩
    ·have hb : Bo b := by
      have hb : (if j = j then Bo else Bs j) b := hb
      rwa [if_pos rfl] at hb
     refine ⟨.inr hb, ?_⟩
     rintro rfl
     rcases hBo _ hb with h | h
     ·exact hgB h
     ·have := hB _ q6
      omega
    ·simp only [if_true]
     rw [getD_setL _ _ _ _ _ hi, if_pos rfl, hu]
     exact hy
   ·refine ⟨r1, r2, fun b hb => ?_, ?_⟩
    ·have hb : (if j = i then Bo else Bs j) b := hb
     rw [if_neg e] at hb
     have := r3 b hb
     exact ⟨.inl ⟨this.1, fun h => q8 j i b hj hi e hb h⟩, this.2⟩
    ·simp only [if_neg e]
     rw [getD_setL _ _ _ _ _ hi, if_neg e]
     exact r4.frame (fun _ h => h) (fun b hb => by
      rcases hb with hb | hb
      ·exact hx.block b (hZ b hb).1 (fun h => (hZ b hb).2 (p3 b h).1)
      ·exact hx.block b (hB b (r3 b hb).1) (fun h => q8 j i b hj hi e hb h))
  ·rw [List.length_set] at hj hk
   have h1 : (if j = i then Bo else Bs j) b := h1
   have h2 : (if k = i then Bo else Bs k) b := h2
   by_cases e1 : j = i
   ·subst e1
    have e2 : ¬ k = j := fun e => hne e.symm
    simp only [if_true] at h1
    rw [if_neg e2] at h2
    rcases hBo _ h1 with h | h
    ·exact q8 j k b hj hk hne h h2
    ·have := hB _ ((q7 k hk).2.2.1 b h2).1
     omega
   ·by_cases e2 : k = i
    ·subst e2
     rw [if_neg e1] at h1
     simp only [if_true] at h2
     rcases hBo _ h2 with h | h
     ·exact q8 j k b hj hk hne h1 h
     ·have := hB _ ((q7 j hj).2.2.1 b h1).1
      omega
    ·rw [if_neg e1] at h1
     rw [if_neg e2] at h2
     exact q8 j k b hj hk hne h1 h2
section
variable {P : Program} {T : List (Nat × TI)} {o : Oper} {st st1 st2 : St}
variable {ops : Array Oper}
end
end Go.Proofs.YtmechjnfeidnkaaGreat.V
end
section
namespace Go.Proofs.YtmechjnfeidnkaaGreat.V
open Go Go.RowKit
section
variable {L : Lay} {st : St} {a : Act} {w : World} {R : Nat → Prop}
variable {P : Program} {T : List (Nat × TI)} {o : Oper} {K : St → Prop}
end
end Go.Proofs.YtmechjnfeidnkaaGreat.V
end
section
namespace Go.Proofs.YtmechjnfeidnkaaGreat.V.W
open Go Go.RowKit
end Go.Proofs.YtmechjnfeidnkaaGreat.V.W
end
section
namespace Go.Proofs.YtmechjnfeidnkaaGreat.V
open Go Go.RowKit
/-- what holds nothing frozen -/
def clean1 : PV → PV
 | .v agg s x => if s.plain = true then .v agg s x else .dead
 | .root k s f x => if Fl.nofz s f = true then .root k s f x else .dead
 | .emp => .emp
 | _ => .dead
def clean (st : St) : St := st.map clean1
theorem clean_len (st : St) : (clean st).length = st.length := by simp [clean]
theorem clean_at (st : St) (t : Nat) : (clean st).at t = clean1 (st.at t) := by
 unfold clean St.at
 rw [List.getD_eq_getElem?_getD, List.getD_eq_getElem?_getD, List.getElem?_map]
 cases st[t]? <;> rfl
section
variable {L : Lay} {st : St} {a : Act} {w : World} {R : Nat → Prop}
/-- what is let go is frozen from then on -/
theorem Rel.frozen (h : Rel L st a w R) : Rel ⟨fun b => L.Z b ∨ R b, L.F, L.C, L.D⟩ st a w Free where
 size := h.size
 defers := h.defers
 zlt := fun b hb => hb.elim (h.zlt b) fun q => (h.rlt b q).1
 flt := fun t b hb => ⟨(h.flt t b hb).1, fun q => q.elim (h.flt t b hb).2 (h.rdj t b hb)⟩
 dj := h.dj
 rlt := fun b hb => hb.elim
 rdj := fun t b _ hb => hb.elim
 tmp := fun t ht => by
  have := h.tmp t ht
  rcases PV.root_or (st.at t) with ⟨k, s, f, x, e⟩ | e
  ·rw [e] at this ⊢
   obtain ⟨q1, B, q2, q3, q4⟩ := this
   exact ⟨q1, B, q2, q3, q4.frame (fun b hb => .inl hb) (fun _ _ => rfl)⟩
  ·rw [PVRep.of e] at this ⊢
   exact ORep.places (L' := ⟨fun b => L.Z b ∨ R b, L.F, L.C, L.D⟩) (fun b hb => Or.inl hb) (fun _ _ => rfl) (fun agg g p _ s1 cs1 ad1 h1 h2 h3 => ⟨s1, cs1, ad1, h1, h2, h3⟩) (fun g p _ s1 cs1 A h1 => ⟨cs1, h1⟩) this
theorem put_same {g : Nat} : a.put (some g) (a.tmps.getD g undef) = a := by
 show ({ a with tmps := a.tmps.setIfInBounds g (a.tmps.getD g undef) } : Act) = a
 have : a.tmps.setIfInBounds g (a.tmps.getD g undef) = a.tmps := by
  apply Array.ext
  ·simp
  ·intro j h1 h2
   rw [Array.getElem_setIfInBounds h2]
   split
   ·rename_i e
    subst e
    simp [Array.getD, h2]
   ·rfl
 rw [this]
theorem Rel.clean (h : Rel L st a w Free) {Z : Nat → Prop} (hZ : ∀ b, Z b → L.Z b) : Rel ⟨Z, L.F, L.C, L.D⟩ (V.clean st) a w Free where
 size := by rw [clean_len]; exact h.size
 defers := h.defers
 zlt := fun b hb => h.zlt b (hZ b hb)
 flt := fun t b hb => ⟨(h.flt t b hb).1, fun q => (h.flt t b hb).2 (hZ b q)⟩
 dj := h.dj
 rlt := fun b hb => hb.elim
 rdj := fun t b _ hb => hb.elim
 tmp := fun t ht => by
  rw [clean_len] at ht
  have := h.tmp t ht
  rw [clean_at]
  generalize a.tmps.getD t undef = v at this ⊢
  cases hp : st.at t with
  | v agg s x =>
   rw [hp] at this
   simp only [clean1]
   split
   ·rename_i hs
    obtain ⟨cs, q1, q2⟩ := this
    exact ⟨cs, q1, q2.plain hs⟩
   ·trivial
  | root k s f x =>
   rw [hp] at this
   simp only [clean1]
   split
   ·rename_i hs
    obtain ⟨q1, B, q2, q3, q4⟩ := this
    exact ⟨q1, B, q2, q3, q4.nofz hs⟩
   ·trivial
  | emp =>
   rw [hp] at this
   exact this
  | dead => trivial
  | h => trivial
  | adr => trivial
  | fadr => trivial
  | fn => trivial
end
/-- one's own memory that is read alone till the end: it counts as frozen -/
theorem VW.giveup {P : Program} {c : Code} {st : St} {Q : Exit → St → Prop} (g : Nat) {s : Sh} {fl : Fl} {x : s.ty} (hg : st.at g = .root (.val false) s fl x) (hs : Fl.sound s fl = true) (h : VW P c ((st.map (V.drop g)).set g (.v false s x)) (fun e st2 => Q e (clean st2))) : VW P c st Q := by
 intro L a w hr
 obtain ⟨B, r1, r2, r3⟩ := hr.gone hg
 have r4 := r1.frozen
 have hroot := (hr.root hg).1
 have hgl : g < st.length := root_lt hg
 have hdead : (St.at ((st.map (V.drop g)).set g .dead) g).isRoot = false := by
  rw [St.at_set, if_pos ⟨rfl, by rw [List.length_map]; exact hgl⟩]
  rfl
 have r5 := r4.setO (d := g) (v := a.tmps.getD g undef) hdead (pv := .v false s x) rfl ⟨L.C g, hroot.1, r3.freeze (fun b hb => .inl hb) hs (fun b hb => .inr (.inr (r2 b hb)))⟩
 rw [put_same, List.set_set] at r5
 refine wp_mono (h _ a w r5) fun e a' w' ⟨L', st', s', r', q⟩ => ⟨⟨L.Z, L'.F, L'.C, L'.D⟩, _, ?_, r'.clean (fun b hb => by rw [s'.Z]; exact .inl hb), q⟩
 refine ⟨s'.os, s'.tape, s'.output, s'.size, fun n hn hL => s'.block n hn fun t ht => ?_, rfl, fun t n hn => ?_⟩
 ·simp only at ht
  split at ht
  ·exact ht
  ·exact hL t ht
 ·rcases s'.F t n hn with ⟨t', ht⟩ | hn
  ·simp only at ht
   split at ht
   ·exact ht.elim
   ·exact .inl ⟨t', ht⟩
  ·exact .inr hn
end Go.Proofs.YtmechjnfeidnkaaGreat.V
end
section
namespace Go.Proofs.YtmechjnfeidnkaaGreat.V.W
open Go Go.RowKit
/-- how long two rows agree -/
def cpl : List Int → List Int → Nat
 | a :: x, b :: y => if a = b then cpl x y + 1 else 0
 | _, _ => 0
theorem cpl_eq : ∀ (x y : List Int) (n : Nat), n ≤ x.length → n ≤ y.length → (∀ j, j < n → x.getD j 0 = y.getD j 0) → (n = x.length ∨ n = y.length ∨ x.getD n 0 ≠ y.getD n 0) → cpl x y = n
 | [], y, n, h1, h2, h3, h4 => by
  obtain rfl : n = 0 := by simpa using h1
  simp [cpl]
 | a :: x, [], n, h1, h2, h3, h4 => by
  obtain rfl : n = 0 := by simpa using h2
  simp [cpl]
 | a :: x, b :: y, 0, h1, h2, h3, h4 => by
  have : a ≠ b := by
   rcases h4 with h | h | h
   ·simp at h
   ·simp at h
   ·simpa using h
  simp [cpl, this]
 | a :: x, b :: y, n + 1, h1, h2, h3, h4 => by
  have h0 : a = b := by simpa using h3 0 (by omega)
  have ih := cpl_eq x y n (by simpa using h1) (by simpa using h2) (fun j hj => by simpa using h3 (j + 1) (by omega)) (by simpa using h4)
  simp [cpl, h0, ih]
theorem cpl_pos {x y : List Int} (h1 : 0 < x.length) (h2 : 0 < y.length) (h : x.getD 0 0 = y.getD 0 0) : 1 ≤ cpl x y := by
 match x, y, h1, h2 with
 | a :: x, b :: y, _, _ =>
  have : a = b := by simpa using h
  simp [cpl, this]
theorem path_head {t : List Nd} {k : Int} (h : (treeOk t && inB k 0 (t.length - 1)) = true) : 0 < (pathTo t k).length ∧ (pathTo t k).getD 0 0 = 0 ∧ (pathTo t k).length ≤ 12 := by
 have hok : treeOk t = true := by
  rw [Bool.and_eq_true] at h
  exact h.1
 have hk := inB_iff.1 (by rw [Bool.and_eq_true] at h; exact h.2 : inB k 0 (t.length - 1) = true)
 have htl := treeOk_len hok
 have hneg : ∃ i, i ≤ t.length ∧ anc t k i < 0 ∧ ∀ j, j < i → 0 ≤ anc t k j := by
  have hend : anc t k t.length < 0 := by
   have := anc_lt hok (k := k) (by omega) t.length (by omega)
   omega
  have : ∀ n, anc t k n < 0 → ∃ i, i ≤ n ∧ anc t k i < 0 ∧ ∀ j, j < i → 0 ≤ anc t k j := by
   intro n
   induction n using Nat.strongRecOn with
   | _ n ih =>
    intro hn
    by_cases hex : ∃ j, j < n ∧ anc t k j < 0
    ·obtain ⟨j, h1, h2⟩ := hex
     obtain ⟨i, q1, q2, q3⟩ := ih j h1 h2
     exact ⟨i, by omega, q2, q3⟩
    ·refine ⟨n, Nat.le_refl _, hn, fun j hj => ?_⟩
     have : ¬ anc t k j < 0 := fun q => hex ⟨j, hj, q⟩
     omega
  exact this _ hend
 obtain ⟨i, hi, h1, h2⟩ := hneg
 rw [pathTo, if_pos h, accTo_all hok h1 h2 _ hi]
 have hi0 : i ≠ 0 := by
  rintro rfl
  have h1 : k < 0 := h1
  omega
 obtain ⟨m, rfl⟩ : ∃ m, i = m + 1 := ⟨i - 1, by omega⟩
 have hm : anc t k m = 0 := by
  have h3 := h2 m (by omega)
  have h1 : (t.getD (anc t k m).toNat z).1 < 0 := h1
  have h4 := anc_lt hok (k := k) (by omega) m (by omega)
  rcases Nat.eq_zero_or_pos (anc t k m).toNat with e | e
  ·omega
  ·obtain ⟨p, hp, _⟩ := par hok (j := (anc t k m).toNat) (by omega) (by omega)
   omega
 rw [accTo_succ, hm, List.reverse_append]
 refine ⟨by simp, by simp, ?_⟩
 simp [accTo]
 omega
def isNd (t : List Nd) (k : Int) : Bool := treeOk t && inB k 0 (t.length - 1)
/-- the nodes from one node to another -/
def between (t : List Nd) (a b : Int) : List Int := if (isNd t a && isNd t b) = true then ((pathTo t a).drop (cpl (pathTo t a) (pathTo t b) - 1)).reverse ++ (pathTo t b).drop (cpl (pathTo t a) (pathTo t b)) else []
set_option maxRecDepth 20000 in
set_option maxHeartbeats 1000000 in
theorem between_vc (t : List Nd) (a b : Int) (hl : t.length ≤ 2000000) : VC Tryz.prog 66 [.v false sNS t, .v false (.int .i64) (a), .v false (.int .i64) (b)] (· = .root (.val false) sI .own (between t a b)) := by
 refine VC.of_body hT Tryz.func66 rfl (by kernel_rfl) [(.tmp 6, false, sI)] (by kernel_rfl) ?_
 show VW _ _ ([.v false sNS t, .v false (.int .i64) (a), .v false (.int .i64) (b), D, D, D, D, D, D, D, D, D, D, D, D, D, D, D, D, D, D, D, D, D, D, D, D, D, D, D, D, D, D, D, D, D, D, D, D, D, D, D, D, D, D, D, D, D, D, D, D, D, D, D, D, D, D, D, D]) _
 repeat refine VW.seq ?_
 refine VW.regl hT fun K hK => ?_
 simp only [wq, simprocAttr]
 refine hK _ ?_
 clear hK K
 try refine vthen_n ?_
 repeat refine VW.seq ?_
 refine VW.regl hT fun K hK => ?_
 simp only [wq, simprocAttr]
 refine vcall_of (isNode_vc t a hl) ?_
 simp only [wq, simprocAttr]
 refine vbr (fun h => ?_) (fun h => ?_) <;> simp only [wq, simprocAttr]
 case refine_2 =>
  have h : isNd t a = false := (Bool.not_eq_true' _).mp h
  refine hK _ ?_
  clear hK K
  try refine vthen_n ?_
  repeat refine VW.seq ?_
  refine VW.cond rfl (fun hc => ?_) (fun hc => ?_)
  ·repeat refine VW.seq ?_
   refine VW.regl hT fun K hK => ?_
   simp only [wq, simprocAttr]
   refine hK _ ?_
   clear hK K
   try refine vthen_n ?_
   refine VW.ret ⟨.inl rfl, _, rfl, ?_⟩
   rw [between, if_neg (by rw [h, Bool.false_and]; decide)]
   rfl
  ·cases hc
 have ha : isNd t a = true := by
  have := h
  rwa [Bool.not_eq_false'] at this
 refine vcall_of (isNode_vc t b hl) ?_
 simp only [wq, simprocAttr]
 refine hK _ ?_
 clear hK K
 try refine vthen_n ?_
 repeat refine VW.seq ?_
 refine VW.cond rfl (fun hc => ?_) (fun hc => ?_)
 ·have hc : isNd t b = false := (Bool.not_eq_true' _).mp hc
  repeat refine VW.seq ?_
  refine VW.regl hT fun K hK => ?_
  simp only [wq, simprocAttr]
  refine hK _ ?_
  clear hK K
  try refine vthen_n ?_
  refine VW.ret ⟨.inl rfl, _, rfl, ?_⟩
  rw [between, if_neg (by rw [ha, hc]; decide)]
  rfl
 have hb : isNd t b = true := by
  have := hc
  rwa [Bool.not_eq_false'] at this
 have hpa := path_head ha
 have hpb := path_head hb
 have hbt : between t a b = ((pathTo t a).drop (cpl (pathTo t a) (pathTo t b) - 1)).reverse ++ (pathTo t b).drop (cpl (pathTo t a) (pathTo t b)) := by rw [between, if_pos (by rw [ha, hb]; rfl)]
 rw [hbt]
 refine VW.skip (vthen_n ?_)
 repeat refine VW.seq ?_
 refine VW.regl hT fun K hK => ?_
 simp only [wq, simprocAttr]
 refine vcall_of (pathTo_vc t a hl) ?_
 simp only [wq, simprocAttr]
 refine vcall_of (pathTo_vc t b hl) ?_
 simp only [wq, simprocAttr]
 refine hK _ ?_
 clear hK K
 try refine vthen_n ?_
 generalize pathTo t a = x at *
 generalize pathTo t b = y at *
 refine VW.weak (weak_norm [(7, none), (8, none)] _) ?_
 simp only [wn, wq, simprocAttr]
 refine VW.giveup 7 rfl rfl ?_
 refine VW.giveup 8 rfl rfl ?_
 simp only [V.drop, usesG, wq, simprocAttr]
 obtain ⟨px1, px2, px3⟩ := hpa
 obtain ⟨py1, py2, py3⟩ := hpb
 have hcp := cpl_pos px1 py1 (by rw [px2, py2])
 repeat refine VW.seq ?_
 refine VW.regl hT fun K hK => ?_
 simp only [wq, simprocAttr]
 refine hK _ ?_
 clear hK K
 try refine vthen_n ?_
 repeat refine VW.seq ?_
 refine VW.block ?_
 refine VW.loop (α := Nat) [(7, none), (8, none), (9, none)] (fun i => [D, D, D, D, D, D, D, .v false sI x, .v false sI y, .v false (.int .i64) ((i : Nat)), D, D, D, D, D, D, D, D, D, D, D, D, D, D, D, D, D, D, D, D, D, D, D, D, D, D, D, D, D, D, D, D, D, D, D, D, D, D, D, D, D, D, D, D, D, D, D, D, D]) (fun i => i ≤ x.length ∧ i ≤ y.length ∧ ∀ j, j < i → x.getD j 0 = y.getD j 0) (fun i => x.length - i) ⟨0, ⟨by omega, by omega, fun j h => by omega⟩, ?_⟩ fun i ⟨hx, hy, hj⟩ => ?_
 ·simp only [wn, wq, simprocAttr]
  try rfl
 apply cutl
 ·intro tail
  repeat refine VW.seq ?_
  refine VW.drawl hT hm (by kernel_rfl) fun K hK => ?_
  simp only [wq, simprocAttr]
  refine vbr (fun h => ?_) (fun h => ?_) <;> simp only [wq, simprocAttr]
  case refine_2 =>
   have h : decide ((i : Int) < if (y.length : Int) < (x.length : Int) then (y.length : Int) else (x.length : Int)) = false := h
   have h := of_decide_eq_false h
   have hend : i = x.length ∨ i = y.length ∨ x.getD i 0 ≠ y.getD i 0 := by
    split at h
    ·exact .inr (.inl (by omega))
    ·exact .inl (by omega)
   refine hK _ ?_
   try refine vthen_n ?_
   refine VW.cond rfl (fun hc => by cases hc) (fun hc => ?_)
   refine VW.exit ?_
   show vthen _ _ _ .normal _
   refine vthen_n ?_
   refine VW.weak (weak_norm [(7, none), (8, none), (9, none)] _) ?_
   simp only [wn, wq, simprocAttr]
   revert hend
   exact tail.h
  have h : decide ((i : Int) < if (y.length : Int) < (x.length : Int) then (y.length : Int) else (x.length : Int)) = true := h
  have h := of_decide_eq_true h
  have hlx : i < x.length := by split at h <;> omega
  have hly : i < y.length := by split at h <;> omega
  refine ⟨decide_eq_true ⟨Int.natCast_nonneg _, by show (i : Int) < (x.length : Int); omega⟩, decide_eq_true ⟨Int.natCast_nonneg _, by show (i : Int) < (y.length : Int); omega⟩, ?_⟩
  refine hK _ ?_
  try refine vthen_n ?_
  refine VW.cond rfl (fun hc => ?_) (fun hc => ?_)
  ·have hc : (x.getD i 0 == y.getD i 0) = true := hc
   refine VW.skip (vthen_n ?_)
   repeat refine VW.seq ?_
   refine VW.block ?_
   repeat refine VW.seq ?_
   refine VW.regl hT fun K hK => ?_
   simp only [wq, simprocAttr]
   refine hK _ ?_
   clear hK K
   try refine vthen_n ?_
   refine ⟨i + 1, ⟨hlx, hly, fun j hj2 => ?_⟩, ?_, by show x.length - (i + 1) < x.length - i; omega⟩
   ·rcases Nat.lt_or_ge j i with h1 | h1
    ·exact hj j h1
    ·obtain rfl : j = i := by omega
     simpa using hc
   simp only [wn, wq, simprocAttr]
   rw [wrap64 (by omega) (by omega)]
   rfl
  ·have hc : (x.getD i 0 == y.getD i 0) = false := hc
   have hend : i = x.length ∨ i = y.length ∨ x.getD i 0 ≠ y.getD i 0 := .inr (.inr (by simpa using hc))
   refine VW.exit ?_
   show vthen _ _ _ .normal _
   refine vthen_n ?_
   refine VW.weak (weak_norm [(7, none), (8, none), (9, none)] _) ?_
   simp only [wn, wq, simprocAttr]
   revert hend
   exact tail.h
 ·intro hend
  have hi := cpl_eq x y i hx hy hj hend
  rw [hi] at hcp
  rw [hi]
  obtain ⟨m, hm1⟩ : ∃ m, i = m + 1 := ⟨i - 1, by omega⟩
  have hdl : (x.drop m).length = x.length - m := List.length_drop ..
  rw [show i - 1 = m by omega]
  repeat refine VW.seq ?_
  refine VW.regl hT fun K hK => ?_
  simp only [wq, simprocAttr]
  rw [wrap64 (by omega) (by omega), show (i : Int) - 1 = (m : Int) by omega, Int.toNat_natCast, List.take_length]
  refine ⟨decide_eq_true ⟨by omega, by omega, by omega⟩, ?_⟩
  refine vcall_of (cloneI_vc (x.drop m) (by omega)) ?_
  simp only [wq, simprocAttr]
  refine hK _ ?_
  clear hK K
  try refine vthen_n ?_
  repeat refine VW.seq ?_
  refine VW.regl hT fun K hK => ?_
  simp only [wq, simprocAttr]
  refine vcall_io 0 ?_
  simp only [wq, simprocAttr]
  refine vxcall_of (reverse_vx (x.drop m) (by omega) (by omega)) ?_
  simp only [wq, simprocAttr]
  refine hK _ ?_
  clear hK K
  try refine vthen_n ?_
  repeat refine VW.seq ?_
  refine VW.regl hT fun K hK => ?_
  simp only [wq, simprocAttr]
  rw [List.take_length]
  refine ⟨decide_eq_true ⟨by omega, by omega, by omega⟩, ?_, ?_⟩
  ·have e1 : (x.drop m).reverse.length + (y.drop i).length ≤ 24 := by
    rw [List.length_reverse, List.length_drop, List.length_drop]
    omega
   generalize (x.drop m).reverse.length + (y.drop i).length = q at *
   simp [limOk]
   omega
  refine hK _ ?_
  clear hK K
  try refine vthen_n ?_
  refine VW.weak (weak_norm [(6, none)] _) ?_
  simp only [wn, wq, simprocAttr]
  exact VW.ret ⟨.inl rfl, _, rfl, rfl⟩
end Go.Proofs.YtmechjnfeidnkaaGreat.V.W
end
section
namespace Go.Proofs.YtmechjnfeidnkaaGreat.V.W
open Go Go.RowKit
end Go.Proofs.YtmechjnfeidnkaaGreat.V.W
end
section
namespace Go.Proofs.YtmechjnfeidnkaaGreat.V.W
open Go Go.RowKit
/-- a window covers an address -/
def covB (b : Int × Int) (a : Int) : Bool := decide (b.1 > 0) && (decide (a ≥ b.2) && decide (IntKind.u64.wrap (IntKind.u64.wrap a - IntKind.u64.wrap b.2) < IntKind.u64.wrap b.1))
theorem covers_vc (b : Int × Int) (a : Int) : VC Tryz.prog 148 [.v true sBr b, .v false (.int .i64) (a)] (· = .v false .bool (covB b a)) := by
 refine VC.of_body hT Tryz.func148 rfl (by kernel_rfl) [(.tmp 4, false, .bool)] (by kernel_rfl) ?_
 show VW _ _ ([.v true sBr b, .v false (.int .i64) (a), D, D, D, D, D, D, D, D, D, D, D, D, D, D, D, D, D, D, D, D, D, D, D, D]) _
 repeat refine VW.seq ?_
 refine VW.regl hT fun K hK => ?_
 simp only [wq, simprocAttr]
 refine hK _ ?_
 clear hK K
 try refine vthen_n ?_
 repeat refine VW.seq ?_
 refine VW.regl hT fun K hK => ?_
 simp only [wq, simprocAttr]
 refine vbr (fun h => ?_) (fun h => ?_) <;> simp only [wq, simprocAttr]
 case refine_2 =>
  refine hK _ ?_
  clear hK K
  try refine vthen_n ?_
  refine VW.ret ⟨.inl rfl, _, rfl, ?_⟩
  have h : decide (b.1 > 0) = false := h
  rw [covB, h]
  rfl
 have h : decide (b.1 > 0) = true := h
 refine vbr (fun h2 => ?_) (fun h2 => ?_) <;> simp only [wq, simprocAttr]
 case refine_2 =>
  refine hK _ ?_
  clear hK K
  try refine vthen_n ?_
  refine VW.ret ⟨.inl rfl, _, rfl, ?_⟩
  have h2 : decide (a ≥ b.2) = false := h2
  rw [covB, h, h2]
  rfl
 have h2 : decide (a ≥ b.2) = true := h2
 refine hK _ ?_
 clear hK K
 try refine vthen_n ?_
 refine VW.ret ⟨.inl rfl, _, rfl, ?_⟩
 rw [covB, h, h2]
 rfl
def winsOk (t : List Nd) (b : List (Int × Int)) : Bool := treeOk t && (b.length == t.length)
theorem areWindows_vc (t : List Nd) (b : List (Int × Int)) (hl : t.length ≤ 2000000) : VC Tryz.prog 146 [.v false sNS t, .v false sBS b] (· = .v false .bool (winsOk t b)) := by
 refine VC.of_body hT Tryz.func146 rfl (by kernel_rfl) [(.tmp 4, false, .bool)] (by kernel_rfl) ?_
 show VW _ _ ([.v false sNS t, .v false sBS b, D, D, D, D, D, D, D, D, D, D, D, D]) _
 repeat refine VW.seq ?_
 refine VW.regl hT fun K hK => ?_
 simp only [wq, simprocAttr]
 refine hK _ ?_
 clear hK K
 try refine vthen_n ?_
 repeat refine VW.seq ?_
 refine VW.regl hT fun K hK => ?_
 simp only [wq, simprocAttr]
 refine vcall_of (treeOk_vc t hl) ?_
 simp only [wq, simprocAttr]
 refine vbr (fun h => ?_) (fun h => ?_) <;> simp only [wq, simprocAttr]
 case refine_2 =>
  refine hK _ ?_
  clear hK K
  try refine vthen_n ?_
  refine VW.ret ⟨.inl rfl, _, rfl, ?_⟩
  have h : treeOk t = false := h
  rw [winsOk, h]
  rfl
 have h : treeOk t = true := h
 refine hK _ ?_
 clear hK K
 try refine vthen_n ?_
 refine VW.ret ⟨.inl rfl, _, rfl, ?_⟩
 rw [winsOk, h, ← lenEq]
 rfl
/-- the node of which k is asked -/
def owns (t : List Nd) (b : List (Int × Int)) (a : Int) (k : Nat) : Bool := !((t.getD k z).2.2 == 0) && covB (b.getD k zb) a
/-- the first node that owns an address, -1 if there is none -/
def ownGo (t : List Nd) (b : List (Int × Int)) (a : Int) : Nat → Nat → Int
 | 0, _ => -1
 | f + 1, k => if owns t b a k = true then (k : Int) else ownGo t b a f (k + 1)
def ownerOf (t : List Nd) (b : List (Int × Int)) (a : Int) : Int := if winsOk t b = true then ownGo t b a t.length 0 else -1
set_option maxRecDepth 20000 in
theorem owner_vc (t : List Nd) (b : List (Int × Int)) (a : Int) (hl : t.length ≤ 2000000) : VC Tryz.prog 119 [.v false sNS t, .v false sBS b, .v false (.int .i64) (a)] (· = .v false (.int .i64) (ownerOf t b a)) := by
 refine VC.of_body hT Tryz.func119 rfl (by kernel_rfl) [(.tmp 6, false, .int .i64)] (by kernel_rfl) ?_
 show VW _ _ ([.v false sNS t, .v false sBS b, .v false (.int .i64) (a), D, D, D, D, D, D, D, D, D, D, D, D, D, D, D, D, D, D, D, D, D, D, D, D, D, D, D, D]) _
 repeat refine VW.seq ?_
 refine VW.regl hT fun K hK => ?_
 simp only [wq, simprocAttr]
 refine hK _ ?_
 clear hK K
 try refine vthen_n ?_
 repeat refine VW.seq ?_
 refine VW.regl hT fun K hK => ?_
 simp only [wq, simprocAttr]
 refine vcall_of (areWindows_vc t b hl) ?_
 simp only [wq, simprocAttr]
 refine hK _ ?_
 clear hK K
 try refine vthen_n ?_
 repeat refine VW.seq ?_
 refine VW.cond rfl (fun hc => ?_) (fun hc => ?_)
 ·repeat refine VW.seq ?_
  refine VW.regl hT fun K hK => ?_
  simp only [wq, simprocAttr]
  refine hK _ ?_
  clear hK K
  try refine vthen_n ?_
  refine VW.ret ⟨.inl rfl, _, rfl, ?_⟩
  have hc : winsOk t b = false := (Bool.not_eq_true' _).mp hc
  rw [ownerOf, hc]
  rfl
 have hw : winsOk t b = true := by
  have := hc
  rwa [Bool.not_eq_false'] at this
 have hw2 := hw
 rw [winsOk, Bool.and_eq_true, beq_iff_eq] at hw2
 obtain ⟨hok, hbl⟩ := hw2
 refine VW.skip (vthen_n ?_)
 repeat refine VW.seq ?_
 refine VW.regl hT fun K hK => ?_
 simp only [wq, simprocAttr]
 refine hK _ ?_
 clear hK K
 try refine vthen_n ?_
 repeat refine VW.seq ?_
 refine VW.block ?_
 refine VW.loop (α := Nat) [(0, none), (1, none), (2, none), (13, none), (14, none)] (fun i => [.v false sNS t, .v false sBS b, .v false (.int .i64) (a), D, D, D, D, D, D, D, D, D, D, .v false (.int .i64) ((t.length : Nat)), .v false (.int .i64) ((i : Nat)), D, D, D, D, D, D, D, D, D, D, D, D, D, D, D, D]) (fun i => i ≤ t.length ∧ ownerOf t b a = ownGo t b a (t.length - i) i) (fun i => t.length - i) ⟨0, ⟨by omega, by rw [ownerOf, if_pos hw]; rfl⟩, ?_⟩ fun i ⟨hi, hgo⟩ => ?_
 ·simp only [wn, wq, simprocAttr]
  try rfl
 repeat refine VW.seq ?_
 refine VW.regl hT fun K hK => ?_
 simp only [wq, simprocAttr]
 refine hK _ ?_
 clear hK K
 try refine vthen_n ?_
 repeat refine VW.seq ?_
 refine VW.cond rfl (fun hc => ?_) (fun hc => ?_)
 ·have hlt : i < t.length := by simpa using hc
  obtain ⟨f, hf⟩ : ∃ f, t.length - i = f + 1 := ⟨t.length - i - 1, by omega⟩
  rw [hf, ownGo] at hgo
  refine VW.skip (vthen_n ?_)
  repeat refine VW.seq ?_
  refine VW.block ?_
  repeat refine VW.seq ?_
  refine VW.regl hT fun K hK => ?_
  simp only [wq, simprocAttr]
  refine hK _ ?_
  clear hK K
  try refine vthen_n ?_
  apply cutl
  ·intro tail
   repeat refine VW.seq ?_
   refine VW.regl hT fun K hK => ?_
   simp only [wq, simprocAttr]
   refine vcall_of (isBridge_vc t i (by omega) (by omega)) ?_
   simp only [wq, simprocAttr]
   refine vbr (fun h => ?_) (fun h => ?_) <;> simp only [wq, simprocAttr]
   case refine_2 =>
    have h : (!((t.getD i z).2.2 == 0)) = false := h
    have ho : owns t b a i = false := by rw [owns, h, Bool.false_and]
    refine hK _ ?_
    try refine vthen_n ?_
    refine VW.cond rfl (fun hc => by cases hc) (fun hc => ?_)
    refine VW.skip ?_
    show vthen _ _ _ .normal _
    refine vthen_n ?_
    refine VW.weak (weak_norm [(0, none), (1, none), (2, none), (13, none), (14, none)] _) ?_
    simp only [wn, wq, simprocAttr]
    revert ho
    exact tail.h
   have h : (!((t.getD i z).2.2 == 0)) = true := h
   refine ⟨decide_eq_true ⟨Int.natCast_nonneg _, by show (i : Int) < (b.length : Int); omega⟩, ?_⟩
   refine vcall_of (covers_vc _ _) ?_
   simp only [wq, simprocAttr]
   refine hK _ ?_
   try refine vthen_n ?_
   refine VW.cond rfl (fun hc => ?_) (fun hc => ?_)
   ·have hc : covB (b.getD i zb) a = true := hc
    have ho : owns t b a i = true := by rw [owns, h, hc]; rfl
    rw [if_pos ho] at hgo
    repeat refine VW.seq ?_
    refine VW.regl hT fun K hK => ?_
    simp only [wq, simprocAttr]
    refine hK _ ?_
    clear hK K
    try refine vthen_n ?_
    refine VW.ret ⟨.inl rfl, _, rfl, ?_⟩
    rw [hgo]
   ·have hc : covB (b.getD i zb) a = false := hc
    have ho : owns t b a i = false := by rw [owns, h, hc]; rfl
    refine VW.skip ?_
    show vthen _ _ _ .normal _
    refine vthen_n ?_
    refine VW.weak (weak_norm [(0, none), (1, none), (2, none), (13, none), (14, none)] _) ?_
    simp only [wn, wq, simprocAttr]
    revert ho
    exact tail.h
  ·intro ho
   rw [if_neg (by rw [ho]; decide)] at hgo
   repeat refine VW.seq ?_
   refine VW.regl hT fun K hK => ?_
   simp only [wq, simprocAttr]
   refine hK _ ?_
   clear hK K
   try refine vthen_n ?_
   refine ⟨i + 1, ⟨hlt, by rw [hgo, show t.length - (i + 1) = f by omega]⟩, ?_, by show t.length - (i + 1) < t.length - i; omega⟩
   simp only [wn, wq, simprocAttr]
   rw [wrap64 (by omega) (by omega)]
   rfl
 ·have hge : i = t.length := by
   have : t.length ≤ i := by simpa using hc
   omega
  subst hge
  refine VW.exit ?_
  show vthen _ _ _ .normal _
  refine vthen_n ?_
  repeat refine VW.seq ?_
  refine VW.regl hT fun K hK => ?_
  simp only [wq, simprocAttr]
  refine hK _ ?_
  clear hK K
  try refine vthen_n ?_
  refine VW.ret ⟨.inl rfl, _, rfl, ?_⟩
  rw [hgo, Nat.sub_self]
  rfl
end Go.Proofs.YtmechjnfeidnkaaGreat.V.W
end
section
namespace Go.Proofs.YtmechjnfeidnkaaGreat.V.W
open Go Go.RowKit
def words (xs : List Int) : Bool := !xs.any fun x => !inB x 0 65535
theorem isWord_vc (x : Int) : VC Tryz.prog 117 [.v false (.int .i64) (x)] (· = .v false .bool (inB x 0 65535)) := by
 refine VC.of_body hT Tryz.func117 rfl (by kernel_rfl) [(.tmp 2, false, .bool)] (by kernel_rfl) ?_
 show VW _ _ ([.v false (.int .i64) (x), D, D, D, D]) _
 repeat refine VW.seq ?_
 refine VW.regl hT fun K hK => ?_
 simp only [wq, simprocAttr]
 refine hK _ ?_
 clear hK K
 try refine vthen_n ?_
 repeat refine VW.seq ?_
 refine VW.regl hT fun K hK => ?_
 simp only [wq, simprocAttr]
 refine vcall_of (within_vc x 0 65535) ?_
 simp only [wq, simprocAttr]
 refine hK _ ?_
 clear hK K
 try refine vthen_n ?_
 exact VW.ret ⟨.inl rfl, _, rfl, rfl⟩
theorem areWords1_vc (x : Int) : VC Tryz.prog 116 [.v false (.int .i64) (x)] (· = .v false .bool (!inB x 0 65535)) := by
 refine VC.of_body hT Tryz.func116 rfl (by kernel_rfl) [(.tmp 2, false, .bool)] (by kernel_rfl) ?_
 show VW _ _ ([.v false (.int .i64) (x), D, D, D, D, D]) _
 repeat refine VW.seq ?_
 refine VW.regl hT fun K hK => ?_
 simp only [wq, simprocAttr]
 refine hK _ ?_
 clear hK K
 try refine vthen_n ?_
 repeat refine VW.seq ?_
 refine VW.regl hT fun K hK => ?_
 simp only [wq, simprocAttr]
 refine vcall_of (isWord_vc x) ?_
 simp only [wq, simprocAttr]
 refine hK _ ?_
 clear hK K
 try refine vthen_n ?_
 exact VW.ret ⟨.inl rfl, _, rfl, rfl⟩
theorem areWords_vc (xs : List Int) (hl : xs.length ≤ 2000000) : VC Tryz.prog 56 [.v false sI xs] (· = .v false .bool (words xs)) := by
 refine VC.of_body hT Tryz.func56 rfl (by kernel_rfl) [(.tmp 2, false, .bool)] (by kernel_rfl) ?_
 show VW _ _ ([.v false sI xs, D, D, D, D, D]) _
 repeat refine VW.seq ?_
 refine VW.regl hT fun K hK => ?_
 simp only [wq, simprocAttr]
 refine hK _ ?_
 clear hK K
 try refine vthen_n ?_
 repeat refine VW.seq ?_
 refine VW.regl hT fun K hK => ?_
 simp only [wq, simprocAttr]
 refine vcall_of (containsI_vc xs 116 [] (fun x => !inB x 0 65535) rfl areWords1_vc hl) ?_
 simp only [wq, simprocAttr]
 refine hK _ ?_
 clear hK K
 try refine vthen_n ?_
 exact VW.ret ⟨.inl rfl, _, rfl, rfl⟩
def guardOk (t : List Nd) (g : List Bool) : Bool := treeOk t && ((g.length == t.length) && g.getD 0 false)
theorem guardOk_vc (t : List Nd) (g : List Bool) (hl : t.length ≤ 2000000) : VC Tryz.prog 60 [.v false sNS t, .v true sG g] (· = .v false .bool (guardOk t g)) := by
 refine VC.of_body hT Tryz.func60 rfl (by kernel_rfl) [(.tmp 4, false, .bool)] (by kernel_rfl) ?_
 show VW _ _ ([.v false sNS t, .v true sG g, D, D, D, D, D, D, D, D, D, D, D, D, D, D, D, D, D, D, D]) _
 repeat refine VW.seq ?_
 refine VW.regl hT fun K hK => ?_
 simp only [wq, Nat.reduceMul, reduceCtorEq, Nat.reduceBEq, Nat.reduceAdd, Nat.reduceLT, Nat.reduceLeDiff, Nat.reduceSub, Nat.reduceEqDiff]
 refine hK _ ?_
 clear hK K
 try refine vthen_n ?_
 repeat refine VW.seq ?_
 refine VW.regl hT fun K hK => ?_
 simp only [wq, Nat.reduceMul, reduceCtorEq, Nat.reduceBEq, Nat.reduceAdd, Nat.reduceLT, Nat.reduceLeDiff, Nat.reduceSub, Nat.reduceEqDiff]
 refine vcall_of (treeOk_vc t hl) ?_
 simp only [wq, Nat.reduceMul, reduceCtorEq, Nat.reduceBEq, Nat.reduceAdd, Nat.reduceLT, Nat.reduceLeDiff, Nat.reduceSub, Nat.reduceEqDiff]
 refine vbr (fun h => ?_) (fun h => ?_) <;> simp only [wq, Nat.reduceMul, reduceCtorEq, Nat.reduceBEq, Nat.reduceAdd, Nat.reduceLT, Nat.reduceLeDiff, Nat.reduceSub, Nat.reduceEqDiff]
 case refine_2 =>
  refine hK _ ?_
  clear hK K
  try refine vthen_n ?_
  refine VW.ret ⟨.inl rfl, _, rfl, ?_⟩
  have h : treeOk t = false := h
  rw [guardOk, h]
  try rfl
 have h : treeOk t = true := h
 have htl := treeOk_len h
 refine vbr (fun h2 => ?_) (fun h2 => ?_) <;> simp only [wq, Nat.reduceMul, reduceCtorEq, Nat.reduceBEq, Nat.reduceAdd, Nat.reduceLT, Nat.reduceLeDiff, Nat.reduceSub, Nat.reduceEqDiff]
 case refine_2 =>
  refine hK _ ?_
  clear hK K
  try refine vthen_n ?_
  refine VW.ret ⟨.inl rfl, _, rfl, ?_⟩
  have h2 : ((g.length : Int) == (t.length : Int)) = false := h2
  rw [guardOk, h, ← lenEq, h2]
  try rfl
 have h2 : ((g.length : Int) == (t.length : Int)) = true := h2
 have h3 : (g.length : Int) = (t.length : Int) := by simpa using h2
 refine ⟨decide_eq_true ⟨by decide, by show (0 : Int) < (g.length : Int); omega⟩, ?_⟩
 refine hK _ ?_
 clear hK K
 try refine vthen_n ?_
 refine VW.ret ⟨.inl rfl, _, rfl, ?_⟩
 rw [guardOk, h, ← lenEq, h2]
 try rfl
end Go.Proofs.YtmechjnfeidnkaaGreat.V.W
end
section
namespace Go.Proofs.YtmechjnfeidnkaaGreat.V.W
open Go Go.RowKit
theorem path_mem {t : List Nd} {k x : Int} (h : isNd t k = true) (hx : x ∈ pathTo t k) : 0 ≤ x ∧ x < t.length := by
 have hok : treeOk t = true := by
  rw [isNd, Bool.and_eq_true] at h
  exact h.1
 have hk := inB_iff.1 (by rw [isNd, Bool.and_eq_true] at h; exact h.2 : inB k 0 (t.length - 1) = true)
 rw [pathTo, if_pos (show (treeOk t && inB k 0 (t.length - 1)) = true from h), List.mem_reverse, List.mem_filter] at hx
 obtain ⟨h1, h2⟩ := hx
 obtain ⟨j, _, rfl⟩ := List.mem_map.1 h1
 have := anc_lt hok (k := k) (by omega) j (by omega)
 exact ⟨by simpa using h2, this.2.1⟩
theorem between_mem {t : List Nd} {a b x : Int} (hx : x ∈ between t a b) : 0 ≤ x ∧ x < t.length := by
 rw [between] at hx
 split at hx
 ·rename_i h
  rw [Bool.and_eq_true] at h
  rcases List.mem_append.1 hx with hx | hx
  ·exact path_mem h.1 (List.mem_of_mem_drop (List.mem_reverse.1 hx))
  ·exact path_mem h.2 (List.mem_of_mem_drop hx)
 ·cases hx
theorem between_len (t : List Nd) (a b : Int) : (between t a b).length ≤ 24 := by
 rw [between]
 split
 ·rename_i h
  rw [Bool.and_eq_true] at h
  have h1 := path_head h.1
  have h2 := path_head h.2
  rw [List.length_append, List.length_reverse, List.length_drop, List.length_drop]
  omega
 ·simp
/-- the lower of two neighbours on a path -/
def lowAt (t : List Nd) (p : List Int) (i : Nat) : Int := if (t.getD (p.getD (i - 1) 0).toNat z).1 == p.getD i 0 then p.getD (i - 1) 0 else p.getD i 0
def passes (t : List Nd) (g : List Bool) (p : List Int) : Bool := (List.range p.length).all fun i => i == 0 || g.getD (lowAt t p i).toNat false
def canReach (t : List Nd) (g : List Bool) (a b : Int) : Bool := guardOk t g && (!((between t a b).length == 0) && passes t g (between t a b))
set_option maxRecDepth 20000 in
set_option maxHeartbeats 1000000 in
theorem canReach_vc (t : List Nd) (g : List Bool) (a b : Int) (hl : t.length ≤ 2000000) : VC Tryz.prog 22 [.v false sNS t, .v true sG g, .v false (.int .i64) (a), .v false (.int .i64) (b)] (· = .v false .bool (canReach t g a b)) := by
 refine VC.of_body hT Tryz.func22 rfl (by kernel_rfl) [(.tmp 8, false, .bool)] (by kernel_rfl) ?_
 show VW _ _ ([.v false sNS t, .v true sG g, .v false (.int .i64) (a), .v false (.int .i64) (b), D, D, D, D, D, D, D, D, D, D, D, D, D, D, D, D, D, D, D, D, D, D, D, D, D, D, D, D, D, D, D, D, D, D, D, D, D, D, D, D, D, D, D, D, D, D, D, D, D, D, D, D, D, D, D, D]) _
 have hmem := fun x (hx : x ∈ between t a b) => between_mem hx
 have hpl := between_len t a b
 rw [canReach]
 repeat refine VW.seq ?_
 refine VW.regl hT fun K hK => ?_
 simp only [wq, simprocAttr]
 refine hK _ ?_
 clear hK K
 try refine vthen_n ?_
 repeat refine VW.seq ?_
 refine VW.regl hT fun K hK => ?_
 simp only [wq, simprocAttr]
 refine vcall_of (between_vc t a b hl) ?_
 simp only [wq, simprocAttr]
 refine hK _ ?_
 clear hK K
 try refine vthen_n ?_
 generalize between t a b = p at *
 repeat refine VW.seq ?_
 refine VW.regl hT fun K hK => ?_
 simp only [wq, simprocAttr]
 refine vcall_of (guardOk_vc t g hl) ?_
 simp only [wq, simprocAttr]
 refine vbr (fun h => ?_) (fun h => ?_) <;> simp only [wq, simprocAttr]
 case refine_2 =>
  have h : guardOk t g = false := (Bool.not_eq_true' _).mp h
  refine hK _ ?_
  clear hK K
  try refine vthen_n ?_
  repeat refine VW.seq ?_
  refine VW.cond rfl (fun hc => ?_) (fun hc => ?_)
  ·repeat refine VW.seq ?_
   refine VW.regl hT fun K hK => ?_
   simp only [wq, simprocAttr]
   refine hK _ ?_
   clear hK K
   try refine vthen_n ?_
   refine VW.ret ⟨.inl rfl, _, rfl, ?_⟩
   rw [h]
   rfl
  ·cases hc
 have hg : guardOk t g = true := by
  have := h
  rwa [Bool.not_eq_false'] at this
 have hg2 := hg
 rw [guardOk, Bool.and_eq_true, Bool.and_eq_true, beq_iff_eq] at hg2
 obtain ⟨hok, hgl, _⟩ := hg2
 refine hK _ ?_
 clear hK K
 try refine vthen_n ?_
 repeat refine VW.seq ?_
 refine VW.cond rfl (fun hc => ?_) (fun hc => ?_)
 ·have hc : ((p.length : Int) == 0) = true := hc
  have h0 : p.length = 0 := by
   have : (p.length : Int) = 0 := by simpa using hc
   omega
  repeat refine VW.seq ?_
  refine VW.regl hT fun K hK => ?_
  simp only [wq, simprocAttr]
  refine hK _ ?_
  clear hK K
  try refine vthen_n ?_
  refine VW.ret ⟨.inl rfl, _, rfl, ?_⟩
  rw [h0, hg]
  rfl
 have h0 : (!(p.length == 0)) = true := by
  have hc : ((p.length : Int) == 0) = false := hc
  have : ¬ (p.length : Int) = 0 := by simpa using hc
  have : p.length ≠ 0 := by omega
  simpa using this
 rw [hg, h0, Bool.true_and, Bool.true_and]
 refine VW.skip (vthen_n ?_)
 repeat refine VW.seq ?_
 refine VW.regl hT fun K hK => ?_
 simp only [wq, simprocAttr]
 refine hK _ ?_
 clear hK K
 try refine vthen_n ?_
 repeat refine VW.seq ?_
 refine VW.block ?_
 refine VW.loop (α := Nat) [(0, none), (5, none), (9, none), (10, none)] (fun i => [.v false sNS t, D, D, D, D, .root (.box 30) sG .fz g, D, D, D, .root (.val false) sI .own p, .v false (.int .i64) ((i : Nat)), D, D, D, D, D, D, D, D, D, D, D, D, D, D, D, D, D, D, D, D, D, D, D, D, D, D, D, D, D, D, D, D, D, D, D, D, D, D, D, D, D, D, D, D, D, D, D, D, D]) (fun i => 1 ≤ i ∧ i ≤ p.length ∧ ∀ j, j < i → (j == 0 || g.getD (lowAt t p j).toNat false) = true) (fun i => p.length - i) ⟨1, ⟨by omega, ?_, fun j h => ?_⟩, ?_⟩ fun i ⟨hi1, hi, hj⟩ => ?_
 ·have : p.length ≠ 0 := by simpa using h0
  omega
 ·obtain rfl : j = 0 := by omega
  rfl
 ·simp only [wn, wq, simprocAttr]
  try rfl
 repeat refine VW.seq ?_
 refine VW.regl hT fun K hK => ?_
 simp only [wq, simprocAttr]
 refine hK _ ?_
 clear hK K
 try refine vthen_n ?_
 repeat refine VW.seq ?_
 refine VW.cond rfl (fun hc => ?_) (fun hc => ?_)
 ·have hlt : i < p.length := by simpa using hc
  have m1 := hmem _ (getD_mem hlt)
  have m2 := hmem _ (getD_mem (i := i - 1) (by omega))
  have hlow : lowAt t p i = if (t.getD (p.getD (i - 1) 0).toNat z).1 == p.getD i 0 then p.getD (i - 1) 0 else p.getD i 0 := rfl
  refine VW.skip (vthen_n ?_)
  repeat refine VW.seq ?_
  refine VW.block ?_
  repeat refine VW.seq ?_
  refine VW.regl hT fun K hK => ?_
  simp only [wq, simprocAttr]
  refine ⟨decide_eq_true ⟨Int.natCast_nonneg _, by show (i : Int) < (p.length : Int); omega⟩, ?_⟩
  refine hK _ ?_
  clear hK K
  try refine vthen_n ?_
  repeat refine VW.seq ?_
  refine VW.drawl hT hm (by kernel_rfl) fun K hK => ?_
  simp only [wq, simprocAttr]
  rw [wrap64 (by omega) (by omega), show (i : Int) - 1 = ((i - 1 : Nat) : Int) by omega, Int.toNat_natCast]
  refine ⟨by kernel_rfl, by kernel_rfl, decide_eq_true ⟨Int.natCast_nonneg _, by show ((i - 1 : Nat) : Int) < (p.length : Int); omega⟩, by kernel_rfl, decide_eq_true m2, by kernel_rfl, by kernel_rfl, decide_eq_true ⟨Int.natCast_nonneg _, by show (i : Int) < (p.length : Int); omega⟩, by kernel_rfl, ?_⟩
  refine hK _ ?_
  clear hK K
  try refine vthen_n ?_
  apply cutl
  ·intro tail
   repeat refine VW.seq ?_
   refine VW.cond rfl (fun hc => ?_) (fun hc => ?_)
   ·have hc : ((t.getD (p.getD (i - 1) 0).toNat z).1 == p.getD i 0) = true := hc
    rw [if_pos hc] at hlow
    repeat refine VW.seq ?_
    refine VW.regl hT fun K hK => ?_
    simp only [wq, simprocAttr]
    rw [wrap64 (by omega) (by omega), show (i : Int) - 1 = ((i - 1 : Nat) : Int) by omega, Int.toNat_natCast]
    refine ⟨decide_eq_true ⟨Int.natCast_nonneg _, by show ((i - 1 : Nat) : Int) < (p.length : Int); omega⟩, ?_⟩
    refine hK _ ?_
    try refine vthen_n ?_
    refine VW.weak (weak_norm [(0, none), (5, none), (9, none), (10, none), (11, none)] _) ?_
    simp only [wn, wq, simprocAttr]
    rw [← hlow]
    exact tail.h
   ·have hc : ((t.getD (p.getD (i - 1) 0).toNat z).1 == p.getD i 0) = false := hc
    rw [if_neg (by rw [hc]; decide)] at hlow
    refine VW.skip ?_
    show vthen _ _ _ .normal _
    refine vthen_n ?_
    refine VW.weak (weak_norm [(0, none), (5, none), (9, none), (10, none), (11, none)] _) ?_
    simp only [wn, wq, simprocAttr]
    rw [← hlow]
    exact tail.h
  have m3 : 0 ≤ lowAt t p i ∧ lowAt t p i < t.length := by
   rw [hlow]
   split
   ·exact m2
   ·exact m1
  clear hlow
  repeat refine VW.seq ?_
  refine VW.regl hT fun K hK => ?_
  simp only [wq, simprocAttr]
  refine ⟨decide_eq_true ⟨m3.1, by show lowAt t p i < (g.length : Int); omega⟩, ?_⟩
  refine hK _ ?_
  clear hK K
  try refine vthen_n ?_
  repeat refine VW.seq ?_
  refine VW.cond rfl (fun hc => ?_) (fun hc => ?_)
  ·have hc : g.getD (lowAt t p i).toNat false = false := (Bool.not_eq_true' _).mp hc
   have hno : passes t g p = false := by
    rw [passes, List.all_eq_false]
    refine ⟨i, List.mem_range.2 hlt, ?_⟩
    rw [hc, Bool.or_false]
    simp
    omega
   repeat refine VW.seq ?_
   refine VW.regl hT fun K hK => ?_
   simp only [wq, simprocAttr]
   refine hK _ ?_
   clear hK K
   try refine vthen_n ?_
   refine VW.ret ⟨.inl rfl, _, rfl, ?_⟩
   rw [hno]
  ·have hc : g.getD (lowAt t p i).toNat false = true := by
    have := hc
    rwa [Bool.not_eq_false'] at this
   refine VW.skip ?_
   show vthen _ _ _ .normal _
   refine vthen_n ?_
   repeat refine VW.seq ?_
   refine VW.regl hT fun K hK => ?_
   simp only [wq, simprocAttr]
   refine hK _ ?_
   clear hK K
   try refine vthen_n ?_
   refine ⟨i + 1, ⟨by omega, hlt, fun j h => ?_⟩, ?_, by show p.length - (i + 1) < p.length - i; omega⟩
   ·rcases Nat.lt_or_ge j i with h1 | h1
    ·exact hj j h1
    ·obtain rfl : j = i := by omega
     rw [hc, Bool.or_true]
   simp only [wn, wq, simprocAttr]
   rw [wrap64 (by omega) (by omega)]
   rfl
 ·have hge : i = p.length := by
   have : p.length ≤ i := by simpa using hc
   omega
  subst hge
  refine VW.exit ?_
  show vthen _ _ _ .normal _
  refine vthen_n ?_
  repeat refine VW.seq ?_
  refine VW.regl hT fun K hK => ?_
  simp only [wq, simprocAttr]
  refine hK _ ?_
  clear hK K
  try refine vthen_n ?_
  refine VW.ret ⟨.inl rfl, _, rfl, ?_⟩
  have hyes : passes t g p = true := by
   rw [passes, List.all_eq_true]
   intro j h
   exact hj j (List.mem_range.1 h)
  rw [hyes]
end Go.Proofs.YtmechjnfeidnkaaGreat.V.W
end
section
namespace Go.Proofs.YtmechjnfeidnkaaGreat.V.W
open Go Go.RowKit
end Go.Proofs.YtmechjnfeidnkaaGreat.V.W
end
section
namespace Go.Proofs.YtmechjnfeidnkaaGreat.V.W
open Go Go.RowKit
end Go.Proofs.YtmechjnfeidnkaaGreat.V.W
end
section
namespace Go.Proofs.YtmechjnfeidnkaaGreat.V.W
open Go Go.RowKit
set_option maxRecDepth 20000 in
theorem libBarEq_vc (xs ys : List (Int × Int)) (hl : xs.length * 16 ≤ 140737488351232) : VC Tryz.prog 59 [.v false (.sl 51 sBr) xs, .v false (.sl 51 sBr) ys] (· = .v false .bool (decide (xs = ys))) := by
 refine VC.of_body hT Tryz.func59 rfl (by kernel_rfl) [(.tmp 4, false, .bool)] (by kernel_rfl) ?_
 show VW _ _ ([.v false (.sl 51 sBr) xs, .v false (.sl 51 sBr) ys, D, D, D, D, D, D, D, D, D, D, D, D, D, D, D, D, D, D, D, D, D, D, D, D]) _
 repeat refine VW.seq ?_
 refine VW.regl hT fun K hK => ?_
 simp only [wq, simprocAttr]
 refine hK _ ?_
 clear hK K
 try refine vthen_n ?_
 repeat refine VW.seq ?_
 refine VW.regl hT fun K hK => ?_
 simp only [wq, simprocAttr]
 refine hK _ ?_
 clear hK K
 try refine vthen_n ?_
 repeat refine VW.seq ?_
 refine VW.cond rfl (fun hc => ?_) (fun hc => ?_)
 ·repeat refine VW.seq ?_
  refine VW.regl hT fun K hK => ?_
  simp only [wq, simprocAttr]
  refine hK _ ?_
  clear hK K
  try refine vthen_n ?_
  refine VW.ret ⟨.inl rfl, _, rfl, ?_⟩
  have : xs ≠ ys := fun e => by subst e; simp at hc
  simp [this]
 have hlen : xs.length = ys.length := by simp at hc; omega
 refine VW.skip (vthen_n ?_)
 repeat refine VW.seq ?_
 refine VW.regl hT fun K hK => ?_
 simp only [wq, simprocAttr]
 refine hK _ ?_
 clear hK K
 try refine vthen_n ?_
 repeat refine VW.seq ?_
 refine VW.block ?_
 refine VW.loop (α := Nat) [(0, none), (1, none), (12, none), (13, none)] (fun i => [.v false (.sl 51 sBr) xs, .v false (.sl 51 sBr) ys, D, D, D, D, D, D, D, D, D, D, .v false (.int .i64) (xs.length : Int), .v false (.int .i64) (i : Int), D, D, D, D, D, D, D, D, D, D, D, D]) (fun i => i ≤ xs.length ∧ ∀ k, k < i → xs.getD k (0, 0) = ys.getD k (0, 0)) (fun i => xs.length - i) ⟨0, ⟨by omega, fun k hk => by omega⟩, ?_⟩ fun i ⟨hi, hk⟩ => ?_
 ·simp only [wn, wq, simprocAttr]
  try rfl
 repeat refine VW.seq ?_
 refine VW.regl hT fun K hK => ?_
 simp only [wq, simprocAttr]
 refine hK _ ?_
 clear hK K
 try refine vthen_n ?_
 repeat refine VW.seq ?_
 refine VW.cond rfl (fun hc => ?_) (fun hc => ?_)
 ·have hlt : i < xs.length := by simpa using hc
  refine VW.skip (vthen_n ?_)
  repeat refine VW.seq ?_
  refine VW.block ?_
  repeat refine VW.seq ?_
  refine VW.regl hT fun K hK => ?_
  simp only [wq, simprocAttr]
  refine hK _ ?_
  clear hK K
  try refine vthen_n ?_
  repeat refine VW.seq ?_
  refine VW.drawl hT hm (by kernel_rfl) fun K hK => ?_
  simp only [wq, simprocAttr]
  refine ⟨by simp; omega, by simp; omega, ?_⟩
  refine hK _ ?_
  clear hK K
  try refine vthen_n ?_
  repeat refine VW.seq ?_
  refine VW.cond rfl (fun hc => ?_) (fun hc => ?_)
  ·repeat refine VW.seq ?_
   refine VW.regl hT fun K hK => ?_
   simp only [wq, simprocAttr]
   refine hK _ ?_
   clear hK K
   try refine vthen_n ?_
   refine VW.ret ⟨.inl rfl, _, rfl, ?_⟩
   have : xs ≠ ys := fun e => by subst e; simp [eqv] at hc
   simp [this]
  ·have hxy : xs.getD i (0, 0) = ys.getD i (0, 0) := by
    have hc2 := hc
    rw [Bool.not_eq_false'] at hc2
    exact (eqv_eq rfl).1 hc2
   refine VW.skip ?_
   show vthen _ _ _ .normal _
   refine vthen_n ?_
   repeat refine VW.seq ?_
   refine VW.regl hT fun K hK => ?_
   simp only [wq, simprocAttr]
   refine hK _ ?_
   clear hK K
   try refine vthen_n ?_
   refine ⟨i + 1, ⟨hlt, fun k h => ?_⟩, ?_, by show xs.length - (i + 1) < xs.length - i; omega⟩
   ·rcases Nat.lt_or_ge k i with h1 | h1
    ·exact hk k h1
    ·obtain rfl : k = i := by omega
     exact hxy
   ·simp only [wn, wq, simprocAttr]
    rw [wrap64 (by omega) (by omega)]
    rfl
 ·have hc : xs.length ≤ i := by simpa using hc
  refine VW.exit ?_
  show vthen _ _ _ .normal _
  refine vthen_n ?_
  repeat refine VW.seq ?_
  refine VW.regl hT fun K hK => ?_
  simp only [wq, simprocAttr]
  refine hK _ ?_
  clear hK K
  try refine vthen_n ?_
  refine VW.ret ⟨.inl rfl, _, rfl, ?_⟩
  rw [row_eq (0, 0) hlen fun k h => hk k (by omega)]
  simp
end Go.Proofs.YtmechjnfeidnkaaGreat.V.W
end
section
namespace Go.Proofs.YtmechjnfeidnkaaGreat.V.W
open Go Go.RowKit
end Go.Proofs.YtmechjnfeidnkaaGreat.V.W
end
section
namespace Go.Proofs.YtmechjnfeidnkaaGreat.V.W
open Go Go.RowKit
/-- a row of memory that does not fit -/
def memBad (m : List (List Int)) (s : List Int) (k : Nat) : Bool := !(((m.getD k []).length : Int) == s.getD k 0) || !words (m.getD k [])
def memOk (m : List (List Int)) (s : List Int) : Bool := (List.range m.length).all fun k => !memBad m s k
theorem memOk_false {m : List (List Int)} {s : List Int} {k : Nat} (hk : k < m.length) (h : memBad m s k = true) : memOk m s = false := by
 rw [memOk, List.all_eq_false]
 exact ⟨k, List.mem_range.2 hk, by rw [h]; simp⟩
theorem memOk_true {m : List (List Int)} {s : List Int} (h : ∀ k, k < m.length → memBad m s k = false) : memOk m s = true := by
 rw [memOk, List.all_eq_true]
 intro k hk
 rw [h k (List.mem_range.1 hk)]
 rfl
/-- a fabric that may be -/
def fabOk (x : Fab) : Bool := newOk x.1 x.2.1 && (decide (allBars x.1 x.2.1 = x.2.2.1) && (((x.2.2.2.1.length : Int) == (x.2.1.length : Int)) && (guardOk x.1 x.2.2.2.2 && memOk x.2.2.2.1 x.2.1)))
structure FabL (x : Fab) : Prop where
 a : x.1.length ≤ 2000000
 b : x.2.1.length ≤ 2000000
 c : x.2.2.1.length ≤ 2000000
 d : x.2.2.2.1.length ≤ 2000000
 e : ∀ k, (x.2.2.2.1.getD k []).length ≤ 2000000
set_option maxRecDepth 20000 in
set_option maxHeartbeats 2000000 in
theorem fabricOk_vc (x : Fab) (hx : FabL x) : VC Tryz.prog 19 [.v true sFi x] (· = .v false .bool (fabOk x)) := by
 obtain ⟨t, s, b, m, g⟩ := x
 have hla : t.length ≤ 2000000 := hx.a
 have hlb : s.length ≤ 2000000 := hx.b
 have hlc : b.length ≤ 2000000 := hx.c
 have hld : m.length ≤ 2000000 := hx.d
 have hle : ∀ k, (m.getD k []).length ≤ 2000000 := hx.e
 refine VC.of_body hT Tryz.func19 rfl (by kernel_rfl) [(.tmp 2, false, .bool)] (by kernel_rfl) ?_
 show VW _ _ ([.v true sFi (t, s, b, m, g), D, D, D, D, D, D, D, D, D, D, D, D, D, D, D, D, D, D, D, D, D, D, D, D, D, D, D, D, D, D, D, D, D, D, D, D, D, D, D, D, D, D, D, D, D, D, D, D, D, D, D, D, D, D, D, D, D, D, D, D, D, D, D]) _
 repeat refine VW.seq ?_
 refine VW.regl hT fun K hK => ?_
 simp only [wq, simprocAttr]
 refine hK _ ?_
 clear hK K
 try refine vthen_n ?_
 repeat refine VW.seq ?_
 refine VW.regl hT fun K hK => ?_
 simp only [wq, simprocAttr]
 refine vcall_ex (newFabric_vc t s hla hlb) ?_
 intro pv hpv
 by_cases hn : newOk t s = true
 case neg =>
  have hn0 : newOk t s = false := by simpa using hn
  rw [if_neg hn] at hpv
  subst hpv
  simp only [wq, simprocAttr]
  refine hK _ ?_
  clear hK K
  try refine vthen_n ?_
  repeat refine VW.seq ?_
  refine VW.regl hT fun K hK => ?_
  simp only [wq, simprocAttr]
  refine hK _ ?_
  clear hK K
  try refine vthen_n ?_
  repeat refine VW.seq ?_
  refine VW.cond rfl (fun hc => ?_) (fun hc => ?_)
  ·repeat refine VW.seq ?_
   refine VW.regl hT fun K hK => ?_
   simp only [wq, simprocAttr]
   refine hK _ ?_
   clear hK K
   try refine vthen_n ?_
   refine VW.ret ⟨.inl rfl, _, rfl, ?_⟩
   rw [fabOk, hn0]
   rfl
  ·cases hc
 rw [if_pos hn] at hpv
 subst hpv
 simp only [wq, simprocAttr]
 refine hK _ ?_
 clear hK K
 try refine vthen_n ?_
 have hok0 : sizesOk t s = true := by
  have := hn
  rw [newOk, fits, Bool.and_eq_true, Bool.and_eq_true] at this
  exact this.1.1
 have hok := (sizesOk_iff.1 hok0).1
 have hsl := (sizesOk_iff.1 hok0).2.1
 have htl := treeOk_len hok
 repeat refine VW.seq ?_
 refine VW.regl hT fun K hK => ?_
 simp only [wq, simprocAttr]
 refine vcall_of (libBarEq_vc (allBars t s) b (by rw [show (allBars t s).length = t.length from bars_len _ _ _]; omega)) ?_
 simp only [wq, simprocAttr]
 refine vbr (fun h => ?_) (fun h => ?_) <;> simp only [wq, simprocAttr]
 case refine_2 =>
  have h : decide (allBars t s = b) = false := (Bool.not_eq_true' _).mp h
  refine hK _ ?_
  clear hK K
  try refine vthen_n ?_
  repeat refine VW.seq ?_
  refine VW.cond rfl (fun hc => ?_) (fun hc => ?_)
  ·repeat refine VW.seq ?_
   refine VW.regl hT fun K hK => ?_
   simp only [wq, simprocAttr]
   refine hK _ ?_
   clear hK K
   try refine vthen_n ?_
   refine VW.ret ⟨.inl rfl, _, rfl, ?_⟩
   rw [fabOk, hn, Bool.true_and, h]
   rfl
  ·cases hc
 have h1 : decide (allBars t s = b) = true := by
  have := h
  rwa [Bool.not_eq_false'] at this
 clear h
 refine vbr (fun h => ?_) (fun h => ?_) <;> simp only [wq, simprocAttr]
 case refine_2 =>
  have h : ((m.length : Int) == (s.length : Int)) = false := (Bool.not_eq_true' _).mp h
  refine hK _ ?_
  clear hK K
  try refine vthen_n ?_
  repeat refine VW.seq ?_
  refine VW.cond rfl (fun hc => ?_) (fun hc => ?_)
  ·repeat refine VW.seq ?_
   refine VW.regl hT fun K hK => ?_
   simp only [wq, simprocAttr]
   refine hK _ ?_
   clear hK K
   try refine vthen_n ?_
   refine VW.ret ⟨.inl rfl, _, rfl, ?_⟩
   rw [fabOk, hn, h1, Bool.true_and, Bool.true_and, h]
   rfl
  ·cases hc
 have h2 : ((m.length : Int) == (s.length : Int)) = true := by
  have := h
  rwa [Bool.not_eq_false'] at this
 clear h
 refine vcall_of (guardOk_vc t g hla) ?_
 simp only [wq, simprocAttr]
 refine hK _ ?_
 clear hK K
 try refine vthen_n ?_
 repeat refine VW.seq ?_
 refine VW.cond rfl (fun hc => ?_) (fun hc => ?_)
 ·have h : guardOk t g = false := (Bool.not_eq_true' _).mp hc
  repeat refine VW.seq ?_
  refine VW.regl hT fun K hK => ?_
  simp only [wq, simprocAttr]
  refine hK _ ?_
  clear hK K
  try refine vthen_n ?_
  refine VW.ret ⟨.inl rfl, _, rfl, ?_⟩
  rw [fabOk, hn, h1, h2, h]
  rfl
 have h3 : guardOk t g = true := by
  have := hc
  rwa [Bool.not_eq_false'] at this
 have hfin : fabOk (t, s, b, m, g) = memOk m s := by rw [fabOk, hn, h1, h2, h3]; rfl
 have hms : m.length = s.length := by
  have : (m.length : Int) = (s.length : Int) := by simpa using h2
  omega
 refine VW.skip (vthen_n ?_)
 repeat refine VW.seq ?_
 refine VW.regl hT fun K hK => ?_
 simp only [wq, simprocAttr]
 refine hK _ ?_
 clear hK K
 try refine vthen_n ?_
 repeat refine VW.seq ?_
 refine VW.block ?_
 refine VW.loop (α := Nat) [(1, none), (43, none), (44, none), (45, none)] (fun i => [D, .root (.box 32) sFi .fz (t, s, b, m, g), D, D, D, D, D, D, D, D, D, D, D, D, D, D, D, D, D, D, D, D, D, D, D, D, D, D, D, D, D, D, D, D, D, D, D, D, D, D, D, D, D, .v false sII m, .v false (.int .i64) ((m.length : Nat)), .v false (.int .i64) ((i : Nat)), D, D, D, D, D, D, D, D, D, D, D, D, D, D, D, D, D, D]) (fun i => i ≤ m.length ∧ ∀ k, k < i → memBad m s k = false) (fun i => m.length - i) ⟨0, ⟨by omega, fun k h => by omega⟩, ?_⟩ fun i ⟨hi, hk⟩ => ?_
 ·simp only [wn, wq, simprocAttr]
  try rfl
 repeat refine VW.seq ?_
 refine VW.regl hT fun K hK => ?_
 simp only [wq, simprocAttr]
 refine hK _ ?_
 clear hK K
 try refine vthen_n ?_
 repeat refine VW.seq ?_
 refine VW.cond rfl (fun hc => ?_) (fun hc => ?_)
 ·have hlt : i < m.length := by simpa using hc
  refine VW.skip (vthen_n ?_)
  repeat refine VW.seq ?_
  refine VW.block ?_
  repeat refine VW.seq ?_
  refine VW.regl hT fun K hK => ?_
  simp only [wq, simprocAttr]
  refine ⟨decide_eq_true ⟨Int.natCast_nonneg _, by show (i : Int) < (m.length : Int); omega⟩, ?_⟩
  refine hK _ ?_
  clear hK K
  try refine vthen_n ?_
  repeat refine VW.seq ?_
  refine VW.regl hT fun K hK => ?_
  simp only [wq, simprocAttr]
  refine ⟨decide_eq_true ⟨Int.natCast_nonneg _, by show (i : Int) < (s.length : Int); omega⟩, ?_⟩
  refine vbr (fun h => ?_) (fun h => ?_) <;> simp only [wq, simprocAttr]
  case refine_2 =>
   have h : (!(((m.getD i []).length : Int) == s.getD i 0)) = true := h
   refine hK _ ?_
   clear hK K
   try refine vthen_n ?_
   repeat refine VW.seq ?_
   refine VW.cond rfl (fun hc => ?_) (fun hc => ?_)
   ·repeat refine VW.seq ?_
    refine VW.regl hT fun K hK => ?_
    simp only [wq, simprocAttr]
    refine hK _ ?_
    clear hK K
    try refine vthen_n ?_
    refine VW.ret ⟨.inl rfl, _, rfl, ?_⟩
    rw [hfin, memOk_false hlt (by rw [memBad, h]; rfl)]
   ·cases hc
  have h : (!(((m.getD i []).length : Int) == s.getD i 0)) = false := h
  refine vcall_of (areWords_vc _ (hle i)) ?_
  simp only [wq, simprocAttr]
  refine hK _ ?_
  clear hK K
  try refine vthen_n ?_
  repeat refine VW.seq ?_
  refine VW.cond rfl (fun hc => ?_) (fun hc => ?_)
  ·have hc : (!words (m.getD i [])) = true := hc
   repeat refine VW.seq ?_
   refine VW.regl hT fun K hK => ?_
   simp only [wq, simprocAttr]
   refine hK _ ?_
   clear hK K
   try refine vthen_n ?_
   refine VW.ret ⟨.inl rfl, _, rfl, ?_⟩
   rw [hfin, memOk_false hlt (by rw [memBad, h, hc]; rfl)]
  ·have hc : (!words (m.getD i [])) = false := hc
   refine VW.skip ?_
   show vthen _ _ _ .normal _
   refine vthen_n ?_
   repeat refine VW.seq ?_
   refine VW.regl hT fun K hK => ?_
   simp only [wq, simprocAttr]
   refine hK _ ?_
   clear hK K
   try refine vthen_n ?_
   refine ⟨i + 1, ⟨hlt, fun k h4 => ?_⟩, ?_, by show m.length - (i + 1) < m.length - i; omega⟩
   ·rcases Nat.lt_or_ge k i with h5 | h5
    ·exact hk k h5
    ·obtain rfl : k = i := by omega
     rw [memBad, h, hc]
     rfl
   simp only [wn, wq, simprocAttr]
   rw [wrap64 (by omega) (by omega)]
   rfl
 ·have hge : i = m.length := by
   have : m.length ≤ i := by simpa using hc
   omega
  subst hge
  refine VW.exit ?_
  show vthen _ _ _ .normal _
  refine vthen_n ?_
  repeat refine VW.seq ?_
  refine VW.regl hT fun K hK => ?_
  simp only [wq, simprocAttr]
  refine hK _ ?_
  clear hK K
  try refine vthen_n ?_
  refine VW.ret ⟨.inl rfl, _, rfl, ?_⟩
  rw [hfin, memOk_true hk]
end Go.Proofs.YtmechjnfeidnkaaGreat.V.W
end
section
namespace Go.Proofs.YtmechjnfeidnkaaGreat.V.W
open Go Go.RowKit
theorem ownGo_lt (t : List Nd) (b : List (Int × Int)) (a : Int) : ∀ f k, ownGo t b a f k = -1 ∨ ∃ j : Nat, ownGo t b a f k = (j : Int) ∧ k ≤ j ∧ j < k + f ∧ owns t b a j = true
 | 0, k => .inl rfl
 | f + 1, k => by
  rw [ownGo]
  split
  ·rename_i h
   exact .inr ⟨k, rfl, by omega, by omega, h⟩
  ·rcases ownGo_lt t b a f (k + 1) with h | ⟨j, h1, h2, h3, h4⟩
   ·exact .inl h
   ·exact .inr ⟨j, h1, by omega, by omega, h4⟩
theorem owner_lt (t : List Nd) (b : List (Int × Int)) (a : Int) : ownerOf t b a = -1 ∨ ∃ j : Nat, ownerOf t b a = (j : Int) ∧ j < t.length ∧ b.length = t.length ∧ owns t b a j = true := by
 rw [ownerOf]
 split
 ·rename_i h
  rw [winsOk, Bool.and_eq_true, beq_iff_eq] at h
  rcases ownGo_lt t b a t.length 0 with h2 | ⟨j, h1, _, h3, h4⟩
  ·exact .inl h2
  ·exact .inr ⟨j, h1, by omega, h.2, h4⟩
 ·exact .inl rfl
/-- the room that is left behind an address in a window -/
def room (w : Int × Int) (a : Int) : Int := IntKind.i64.wrap (w.1 - IntKind.i64.wrap (a - w.2))
def target (x : Fab) (fr a l : Int) : Int × Int :=
 if (inB fr 0 (x.1.length - 1) && inB l 1 64) = true then
  if ownerOf x.1 x.2.2.1 a < 0 then (0, 1)
  else if l > room (x.2.2.1.getD (ownerOf x.1 x.2.2.1 a).toNat zb) a then (ownerOf x.1 x.2.2.1 a, 3)
  else if canReach x.1 x.2.2.2.2 fr (ownerOf x.1 x.2.2.1 a) = true then (ownerOf x.1 x.2.2.1 a, 0) else (ownerOf x.1 x.2.2.1 a, 2)
 else (0, 1)
abbrev r2 (p : Int × Int) : PV := .root (.tup [false, false]) (.pr (.int .i64) (.int .i64)) (.pr .fz .fz) p
set_option maxRecDepth 20000 in
set_option maxHeartbeats 1000000 in
theorem target_vc (x : Fab) (fr a l : Int) (hx : FabL x) : VC Tryz.prog 57 [.v true sFi x, .v false (.int .i64) (fr), .v false (.int .i64) (a), .v false (.int .i64) (l)] (· = r2 (target x fr a l)) := by
 obtain ⟨t, s, b, m, g⟩ := x
 have hla : t.length ≤ 2000000 := hx.a
 have htg : target (t, s, b, m, g) fr a l = if (inB fr 0 (t.length - 1) && inB l 1 64) = true then if ownerOf t b a < 0 then (0, 1) else if l > room (b.getD (ownerOf t b a).toNat zb) a then (ownerOf t b a, 3) else if canReach t g fr (ownerOf t b a) = true then (ownerOf t b a, 0) else (ownerOf t b a, 2) else (0, 1) := rfl
 rw [htg]
 refine VC.of_body hT Tryz.func57 rfl (by kernel_rfl) [(.tmp 8, false, .int .i64), (.tmp 9, false, .int .i64)] (by kernel_rfl) ?_
 show VW _ _ ([.v true sFi (t, s, b, m, g), .v false (.int .i64) (fr), .v false (.int .i64) (a), .v false (.int .i64) (l), D, D, D, D, D, D, D, D, D, D, D, D, D, D, D, D, D, D, D, D, D, D, D, D, D, D, D, D, D, D, D, D, D, D, D, D, D, D, D, D, D, D, D, D, D, D, D, D, D, D, D, D, D, D, D, D, D, D]) _
 repeat refine VW.seq ?_
 refine VW.regl hT fun K hK => ?_
 simp only [wq, simprocAttr]
 refine hK _ ?_
 clear hK K
 try refine vthen_n ?_
 repeat refine VW.seq ?_
 refine VW.regl hT fun K hK => ?_
 simp only [wq, simprocAttr]
 rw [wrap64 (by omega) (by omega)]
 refine vcall_of (within_vc fr 0 (t.length - 1)) ?_
 simp only [wq, simprocAttr]
 refine vbr (fun h => ?_) (fun h => ?_) <;> simp only [wq, simprocAttr]
 case refine_2 =>
  have h : inB fr 0 (t.length - 1) = false := (Bool.not_eq_true' _).mp h
  refine hK _ ?_
  clear hK K
  try refine vthen_n ?_
  repeat refine VW.seq ?_
  refine VW.cond rfl (fun hc => ?_) (fun hc => ?_)
  ·repeat refine VW.seq ?_
   refine VW.regl hT fun K hK => ?_
   simp only [wq, simprocAttr]
   refine hK _ ?_
   clear hK K
   try refine vthen_n ?_
   refine VW.ret ⟨.inl rfl, _, rfl, ?_⟩
   rw [h, if_neg (by simp)]
  ·cases hc
 have h1 : inB fr 0 (t.length - 1) = true := by
  have := h
  rwa [Bool.not_eq_false'] at this
 refine vcall_of (within_vc l 1 64) ?_
 simp only [wq, simprocAttr]
 refine hK _ ?_
 clear hK K
 try refine vthen_n ?_
 repeat refine VW.seq ?_
 refine VW.cond rfl (fun hc => ?_) (fun hc => ?_)
 ·have hc : inB l 1 64 = false := (Bool.not_eq_true' _).mp hc
  repeat refine VW.seq ?_
  refine VW.regl hT fun K hK => ?_
  simp only [wq, simprocAttr]
  refine hK _ ?_
  clear hK K
  try refine vthen_n ?_
  refine VW.ret ⟨.inl rfl, _, rfl, ?_⟩
  rw [hc, if_neg (by simp)]
 have h2 : inB l 1 64 = true := by
  have := hc
  rwa [Bool.not_eq_false'] at this
 rw [if_pos (by rw [h1, h2]; rfl)]
 have how := owner_lt t b a
 refine VW.skip (vthen_n ?_)
 repeat refine VW.seq ?_
 refine VW.regl hT fun K hK => ?_
 simp only [wq, simprocAttr]
 refine vcall_of (owner_vc t b a hla) ?_
 simp only [wq, simprocAttr]
 refine hK _ ?_
 clear hK K
 try refine vthen_n ?_
 generalize ownerOf t b a = k at *
 repeat refine VW.seq ?_
 refine VW.block ?_
 repeat refine VW.seq ?_
 refine VW.regl hT fun K hK => ?_
 simp only [wq, simprocAttr]
 refine hK _ ?_
 clear hK K
 try refine vthen_n ?_
 repeat refine VW.seq ?_
 refine VW.cond rfl (fun hc => ?_) (fun hc => ?_)
 ·have hc : k < 0 := of_decide_eq_true hc
  repeat refine VW.seq ?_
  refine VW.regl hT fun K hK => ?_
  simp only [wq, simprocAttr]
  refine hK _ ?_
  clear hK K
  try refine vthen_n ?_
  refine VW.ret ⟨.inl rfl, _, rfl, ?_⟩
  rw [if_pos hc]
 have hk : ¬ k < 0 := of_decide_eq_false hc
 obtain ⟨j, rfl, hjl, hbl, -⟩ := how.resolve_left (by omega)
 rw [if_neg hk, Int.toNat_natCast]
 repeat refine VW.seq ?_
 refine VW.drawl hT hm (by kernel_rfl) fun K hK => ?_
 simp only [wq, simprocAttr]
 have hidx : decide (0 ≤ (j : Int) ∧ (j : Int) < (b.length : Int)) = true := decide_eq_true ⟨Int.natCast_nonneg _, by omega⟩
 refine ⟨by kernel_rfl, by kernel_rfl, hidx, by kernel_rfl, by kernel_rfl, hidx, ?_⟩
 refine hK _ ?_
 clear hK K
 try refine vthen_n ?_
 have hroom : room (b.getD j zb) a = IntKind.i64.wrap ((b.getD j (0, 0)).1 - IntKind.i64.wrap (a - (b.getD j (0, 0)).2)) := rfl
 rw [hroom]
 generalize IntKind.i64.wrap ((b.getD j (0, 0)).1 - IntKind.i64.wrap (a - (b.getD j (0, 0)).2)) = q
 repeat refine VW.seq ?_
 refine VW.cond rfl (fun hc => ?_) (fun hc => ?_)
 ·have hc : l > q := of_decide_eq_true hc
  repeat refine VW.seq ?_
  refine VW.regl hT fun K hK => ?_
  simp only [wq, simprocAttr]
  refine hK _ ?_
  clear hK K
  try refine vthen_n ?_
  refine VW.ret ⟨.inl rfl, _, rfl, ?_⟩
  rw [if_pos hc]
 have hq : ¬ l > q := of_decide_eq_false hc
 rw [if_neg hq]
 repeat refine VW.seq ?_
 refine VW.regl hT fun K hK => ?_
 simp only [wq, simprocAttr]
 refine vcall_of (canReach_vc t g fr j hla) ?_
 simp only [wq, simprocAttr]
 refine hK _ ?_
 clear hK K
 try refine vthen_n ?_
 repeat refine VW.seq ?_
 refine VW.cond rfl (fun hc => ?_) (fun hc => ?_)
 ·have hc : canReach t g fr j = false := (Bool.not_eq_true' _).mp hc
  repeat refine VW.seq ?_
  refine VW.regl hT fun K hK => ?_
  simp only [wq, simprocAttr]
  refine hK _ ?_
  clear hK K
  try refine vthen_n ?_
  refine VW.ret ⟨.inl rfl, _, rfl, ?_⟩
  rw [if_neg (by rw [hc]; decide)]
 have hr : canReach t g fr j = true := by
  have := hc
  rwa [Bool.not_eq_false'] at this
 rw [if_pos hr]
 refine VW.skip ?_
 show vthen _ _ _ .normal _
 refine vthen_n ?_
 repeat refine VW.seq ?_
 refine VW.regl hT fun K hK => ?_
 simp only [wq, simprocAttr]
 refine hK _ ?_
 clear hK K
 try refine vthen_n ?_
 exact VW.ret ⟨.inl rfl, _, rfl, rfl⟩
def targetOf (x : Fab) (fr a l : Int) : Int × Int := if fabOk x = true then target x fr a l else (0, 1)
set_option maxRecDepth 20000 in
theorem targetOf_vc (x : Fab) (fr a l : Int) (hx : FabL x) : VC Tryz.prog 18 [.v true sFi x, .v false (.int .i64) (fr), .v false (.int .i64) (a), .v false (.int .i64) (l)] (· = r2 (targetOf x fr a l)) := by
 refine VC.of_body hT Tryz.func18 rfl (by kernel_rfl) [(.tmp 8, false, .int .i64), (.tmp 9, false, .int .i64)] (by kernel_rfl) ?_
 show VW _ _ ([.v true sFi x, .v false (.int .i64) (fr), .v false (.int .i64) (a), .v false (.int .i64) (l), D, D, D, D, D, D, D, D, D, D, D, D, D, D, D, D]) _
 repeat refine VW.seq ?_
 refine VW.regl hT fun K hK => ?_
 simp only [wq, simprocAttr]
 refine hK _ ?_
 clear hK K
 try refine vthen_n ?_
 repeat refine VW.seq ?_
 refine VW.regl hT fun K hK => ?_
 simp only [wq, simprocAttr]
 refine vcall_of (fabricOk_vc x hx) ?_
 simp only [wq, simprocAttr]
 refine hK _ ?_
 clear hK K
 try refine vthen_n ?_
 repeat refine VW.seq ?_
 refine VW.cond rfl (fun hc => ?_) (fun hc => ?_)
 ·have hc : fabOk x = false := (Bool.not_eq_true' _).mp hc
  repeat refine VW.seq ?_
  refine VW.regl hT fun K hK => ?_
  simp only [wq, simprocAttr]
  refine hK _ ?_
  clear hK K
  try refine vthen_n ?_
  refine VW.ret ⟨.inl rfl, _, rfl, ?_⟩
  rw [targetOf, if_neg (by rw [hc]; decide)]
 have hf : fabOk x = true := by
  have := hc
  rwa [Bool.not_eq_false'] at this
 rw [targetOf, if_pos hf]
 refine VW.skip (vthen_n ?_)
 repeat refine VW.seq ?_
 refine VW.regl hT fun K hK => ?_
 simp only [wq, simprocAttr]
 refine vcall_of (target_vc x fr a l hx) ?_
 simp only [wq, simprocAttr]
 refine hK _ ?_
 clear hK K
 try refine vthen_n ?_
 exact VW.ret ⟨.inl rfl, _, rfl, rfl⟩
end Go.Proofs.YtmechjnfeidnkaaGreat.V.W
end
section
namespace Go.Proofs.YtmechjnfeidnkaaGreat.V.W
open Go Go.RowKit
end Go.Proofs.YtmechjnfeidnkaaGreat.V.W
end
section
namespace Go.Proofs.YtmechjnfeidnkaaGreat.V.W
open Go Go.RowKit
theorem fab_win {x : Fab} (h : fabOk x = true) {a : Int} {j : Nat} (hj : j < x.1.length) : 0 ≤ (x.2.2.1.getD j zb).1 ∧ (x.2.2.1.getD j zb).1 ≤ 65536 ∧ 0 ≤ (x.2.2.1.getD j zb).2 ∧ (x.2.2.1.getD j zb).2 ≤ 65536 := by
 obtain ⟨t, s, b, m, g⟩ := x
 rw [fabOk, Bool.and_eq_true, Bool.and_eq_true] at h
 obtain ⟨h1, h2, -⟩ := h
 have h1 : newOk t s = true := h1
 have h2 : allBars t s = b := of_decide_eq_true h2
 have hj : j < t.length := hj
 rw [newOk, fits, Bool.and_eq_true, Bool.and_eq_true] at h1
 have hs := h1.1.1
 have h65 : win t s 0 ≤ 65536 := of_decide_eq_true h1.1.2
 have hok : treeOk t = true := (sizesOk_iff.1 hs).1
 have := pos_bd hok s j j (Nat.le_refl _) hj
 show 0 ≤ (b.getD j zb).1 ∧ (b.getD j zb).1 ≤ 65536 ∧ 0 ≤ (b.getD j zb).2 ∧ (b.getD j zb).2 ≤ 65536
 rw [← h2, allBars, bars_get _ _ _ hj]
 refine ⟨Int.natCast_nonneg _, ?_, ?_, ?_⟩
 ·show (win t s j : Int) ≤ 65536
  omega
 ·show 0 ≤ (if true = true then (pos t s j : Int) else 0)
  rw [if_pos rfl]
  omega
 ·show (if true = true then (pos t s j : Int) else 0) ≤ 65536
  rw [if_pos rfl]
  omega
end Go.Proofs.YtmechjnfeidnkaaGreat.V.W
end
section
namespace Go.Proofs.YtmechjnfeidnkaaGreat.V.W
open Go Go.RowKit
end Go.Proofs.YtmechjnfeidnkaaGreat.V.W
end
section
namespace Go.Proofs.YtmechjnfeidnkaaGreat.V.W
open Go Go.RowKit
/-- a fabric's parts, if it is valid -/
theorem fab_parts {t : List Nd} {s : List Int} {b : List (Int × Int)} {m : List (List Int)} {g : List Bool} (h : fabOk (t, s, b, m, g) = true) : newOk t s = true ∧ allBars t s = b ∧ m.length = s.length ∧ guardOk t g = true ∧ (∀ k, k < m.length → ((m.getD k []).length : Int) = s.getD k 0 ∧ words (m.getD k []) = true) := by
 rw [fabOk, Bool.and_eq_true, Bool.and_eq_true, Bool.and_eq_true, Bool.and_eq_true] at h
 obtain ⟨h1, h2, h3, h4, h5⟩ := h
 have h5 : ((List.range m.length).all fun k => !memBad m s k) = true := h5
 refine ⟨h1, of_decide_eq_true h2, ?_, h4, fun k hk => ?_⟩
 ·have h3 : ((m.length : Int) == (s.length : Int)) = true := h3
  have := eq_of_beq h3
  omega
 ·have := List.all_eq_true.1 h5 k (List.mem_range.2 hk)
  rw [Bool.not_eq_true', memBad, Bool.or_eq_false_iff, Bool.not_eq_false', Bool.not_eq_false'] at this
  exact ⟨eq_of_beq this.1, this.2⟩
/-- an access that goes well lies in one row of memory -/
theorem target_good {t : List Nd} {s : List Int} {b : List (Int × Int)} {m : List (List Int)} {g : List Bool} {fr a l k : Int} (ht : targetOf (t, s, b, m, g) fr a l = (k, 0)) (ha : a ≤ 9223372036854775807) : ∃ j lo n : Nat, k = (j : Int) ∧ l = (n : Int) ∧ j < m.length ∧ j < b.length ∧ IntKind.i64.wrap (a - (b.getD j zb).2) = (lo : Int) ∧ 1 ≤ n ∧ lo + n ≤ (m.getD j []).length ∧ (m.getD j []).length ≤ 64 ∧ fabOk (t, s, b, m, g) = true := by
 by_cases hf : fabOk (t, s, b, m, g) = true
 case neg =>
  rw [targetOf, if_neg hf] at ht
  cases ht
 rw [targetOf, if_pos hf] at ht
 have htg : target (t, s, b, m, g) fr a l = if (inB fr 0 (t.length - 1) && inB l 1 64) = true then if ownerOf t b a < 0 then (0, 1) else if l > room (b.getD (ownerOf t b a).toNat zb) a then (ownerOf t b a, 3) else if canReach t g fr (ownerOf t b a) = true then (ownerOf t b a, 0) else (ownerOf t b a, 2) else (0, 1) := rfl
 rw [htg] at ht
 split at ht
 case isFalse => cases ht
 rename_i hin
 split at ht
 ·cases ht
 rename_i hk0
 split at ht
 ·cases ht
 rename_i hroom
 split at ht
 case isFalse => cases ht
 obtain rfl := (Prod.mk.inj ht).1
 rw [Bool.and_eq_true] at hin
 have h64 := inB_iff.1 hin.2
 obtain ⟨h1, h2, h3, h4, h5⟩ := fab_parts hf
 obtain ⟨j, e1, e2, e3, e4⟩ := (owner_lt t b a).resolve_left (by omega)
 obtain ⟨w1, w2, w3, w4⟩ := fab_win hf (a := a) e2
 have w1 : 0 ≤ (b.getD j zb).1 := w1
 have w2 : (b.getD j zb).1 ≤ 65536 := w2
 have w3 : 0 ≤ (b.getD j zb).2 := w3
 have w4 : (b.getD j zb).2 ≤ 65536 := w4
 rw [e1, Int.toNat_natCast] at hroom
 rw [owns, Bool.and_eq_true, covB, Bool.and_eq_true, Bool.and_eq_true] at e4
 have hdev : ¬ (t.getD j z).2.2 = 0 := by simpa using e4.1
 have hge : a ≥ (b.getD j zb).2 := of_decide_eq_true e4.2.2.1
 have hn := h1
 rw [newOk, fits, Bool.and_eq_true, Bool.and_eq_true] at hn
 have hok : treeOk t = true := (sizesOk_iff.1 hn.1.1).1
 have hsl := (sizesOk_iff.1 hn.1.1).2.1
 have hs64 : s.getD j 0 ≤ 64 := by
  have h2 : (s.any fun x => decide (x > 64)) = false := by simpa using hn.2
  rw [List.any_eq_false] at h2
  have := h2 _ (getD_mem (show j < s.length by omega))
  simpa using this
 have hw : (b.getD j zb).1 = ((s.getD j 0).toNat : Int) := by
  rw [← h2, allBars, bars_get _ _ _ e2]
  show ((win t s j : Nat) : Int) = _
  rw [win_eq hok s e2, if_neg hdev]
 have hml := (h5 j (by omega)).1
 have e5 : IntKind.i64.wrap (a - (b.getD j zb).2) = a - (b.getD j zb).2 := wrap64 (by omega) (by omega)
 have e6 : room (b.getD j zb) a = (b.getD j zb).1 - (a - (b.getD j zb).2) := by
  show IntKind.i64.wrap ((b.getD j zb).1 - IntKind.i64.wrap (a - (b.getD j zb).2)) = _
  rw [e5]
  exact wrap64 (by omega) (by omega)
 rw [e6] at hroom
 exact ⟨j, (a - (b.getD j zb).2).toNat, l.toNat, e1, by omega, by omega, by omega, by omega, by omega, by omega, by omega, hf⟩
/-- what is loaded -/
def loadW (x : Fab) (fr a l : Int) : List Int × Int :=
 if (targetOf x fr a l).2 = 0 then (((x.2.2.2.1.getD (targetOf x fr a l).1.toNat []).drop (IntKind.i64.wrap (a - (x.2.2.1.getD (targetOf x fr a l).1.toNat zb).2)).toNat).take l.toNat, 0) else ([], (targetOf x fr a l).2)
end Go.Proofs.YtmechjnfeidnkaaGreat.V.W
end
section
namespace Go.Proofs.YtmechjnfeidnkaaGreat.V.W
open Go Go.RowKit
theorem words_iff {xs : List Int} : words xs = true ↔ ∀ x, x ∈ xs → inB x 0 65535 = true := by
 rw [words, Bool.not_eq_true', List.any_eq_false]
 refine ⟨fun h x hx => ?_, fun h x hx => ?_⟩
 ·have := h x hx
  simpa using this
 ·rw [h x hx]; decide
theorem words_set {xs : List Int} (h : words xs = true) (i : Nat) {v : Int} (h0 : 0 ≤ v) (h1 : v ≤ 65535) : words (xs.set i v) = true := by
 rw [words_iff] at h ⊢
 intro x hx
 rcases List.mem_or_eq_of_mem_set hx with h2 | rfl
 ·exact h x h2
 ·exact inB_iff.2 ⟨h0, h1⟩
/-- rows of memory that go with sizes -/
structure MemR (s : List Int) (m : List (List Int)) : Prop where
 len : m.length = s.length
 row : ∀ k, k < m.length → ((m.getD k []).length : Int) = s.getD k 0 ∧ words (m.getD k []) = true
theorem memR_new {s : List Int} (h : ∀ k, k < s.length → 0 ≤ s.getD k 0) : MemR s (memTo s s.length) := by
 have hl : (memTo s s.length).length = s.length := memTo_len (Nat.le_refl _)
 refine ⟨hl, fun k hk => ?_⟩
 have e : (memTo s s.length).getD k [] = List.replicate (s.getD k 0).toNat 0 := by
  unfold memTo
  rw [List.getD_eq_getElem?_getD, List.getElem?_map, List.getElem?_take_of_lt (by omega), List.getElem?_eq_getElem (by omega), List.getD_eq_getElem?_getD, List.getElem?_eq_getElem (by omega)]
  rfl
 rw [e]
 have h0 := h k (by omega)
 refine ⟨by rw [List.length_replicate]; omega, words_iff.2 fun x hx => ?_⟩
 rw [(List.mem_replicate.1 hx).2]
 rfl
theorem memR_set {s : List Int} {m : List (List Int)} (h : MemR s m) {k : Nat} (hk : k < m.length) {i : Nat} {v : Int} (h0 : 0 ≤ v) (h1 : v ≤ 65535) : MemR s (m.set k ((m.getD k []).set i v)) := by
 refine ⟨by rw [List.length_set]; exact h.len, fun j hj => ?_⟩
 rw [List.length_set] at hj
 rw [List.getD_eq_getElem?_getD, List.getElem?_set]
 by_cases e : k = j
 ·subst e
  rw [if_pos rfl, if_pos hk]
  exact ⟨by show (((m.getD k []).set i v).length : Int) = _; rw [List.length_set]; exact (h.row k hk).1, words_set (h.row k hk).2 i h0 h1⟩
 ·rw [if_neg e, ← List.getD_eq_getElem?_getD]
  exact h.row j hj
theorem fab_mk {t : List Nd} {s : List Int} {m : List (List Int)} {g : List Bool} (hn : newOk t s = true) (hm : MemR s m) (hl : g.length = t.length) (h0 : 0 < t.length → g.getD 0 false = true) : fabOk (t, s, allBars t s, m, g) = true := by
 have hok : treeOk t = true := by
  have := hn
  rw [newOk, fits, Bool.and_eq_true, Bool.and_eq_true] at this
  exact (sizesOk_iff.1 this.1.1).1
 have htl := treeOk_len hok
 rw [fabOk, Bool.and_eq_true, Bool.and_eq_true, Bool.and_eq_true, Bool.and_eq_true]
 refine ⟨hn, decide_eq_true rfl, ?_, ?_, ?_⟩
 ·show ((m.length : Int) == (s.length : Int)) = true
  rw [hm.len]
  exact beq_self_eq_true _
 ·show guardOk t g = true
  rw [guardOk, hok, hl, h0 (by omega), beq_self_eq_true]
  rfl
 ·show ((List.range m.length).all fun k => !memBad m s k) = true
  rw [List.all_eq_true]
  intro k hk
  obtain ⟨e1, e2⟩ := hm.row k (List.mem_range.1 hk)
  rw [memBad, e1, e2, beq_self_eq_true]
  rfl
def fabR (A : Option Addr) (c : Nat) (b : List Int) (pv ot : PV) : Prop := ∃ (x : Fab) (i h : Int) (r : Fl), pv = .root (.val true) sFi fFab x ∧ fabOk x = true ∧ 0 ≤ i ∧ ot = .root bC sC (.pr (.kz A c) r) (b, i, h)
set_option maxRecDepth 20000 in
set_option maxHeartbeats 8000000 in
theorem fabD_vx (A : Option Addr) (c : Nat) (r : Fl) (b : List Int) (i h : Int) (hi : 0 ≤ i) (hl : b.length ≤ 1048576) :
  VX Tryz.prog 50 [.root bC sC (.pr (.kz A c) r) (b, i, h)] 0 (fabR A c b) := by
 refine VX.of_box hT Tryz.func50 rfl (by kernel_rfl) [(.cell 2 32, true, sFi)] (by kernel_rfl) rfl fun bb => ?_
 show VW _ _ ([.root (.ibox 127 bb) sC (.pr (.kz A c) r) (b, i, h), D, D, D, D, D, D, D, D, D, D, D, D, D, D, D, D, D, D, D, D, D, D, D, D, D, D, D, D, D, D, D, D, D, D, D, D, D, D, D, D, D, D, D, D, D, D, D, D, D, D, D, D, D, D, D, D, D, D, D, D, D, D, D, D, D, D, D, D, D, D, D, D, D, D, D, D, D, D, D]) _
 repeat refine VW.seq ?_
 refine VW.regl hT fun K hK => ?_
 simp only [wq, simprocAttr]
 refine hK _ ?_
 clear hK K
 try refine vthen_n ?_
 repeat refine VW.seq ?_
 refine VW.regl hT fun K hK => ?_
 simp only [wq, simprocAttr]
 refine vcall_io 0 ?_
 simp only [wq, simprocAttr]
 refine vxcall_ex (tree_vx A c r b i h hi hl) ?_
 rintro pv ot ⟨t, i, h, r, rfl, hok, hi, rfl⟩
 have htl := treeOk_len hok
 simp only [wq, simprocAttr]
 refine hK _ ?_
 clear hK K
 try refine vthen_n ?_
 repeat refine VW.seq ?_
 refine VW.regl hT fun K hK => ?_
 simp only [wq, simprocAttr]
 refine hK _ ?_
 clear hK K
 try refine vthen_n ?_
 repeat refine VW.seq ?_
 refine VW.regl hT fun K hK => ?_
 simp only [wq, simprocAttr]
 refine hK _ ?_
 clear hK K
 try refine vthen_n ?_
 repeat refine VW.seq ?_
 refine VW.block ?_
 refine VW.loop (α := List Int × Int × Int × Fl) [(0, none), (2, none), (3, none), (4, some (3, .int .i64)), (5, none)] (fun q => [.root (.ibox 127 bb) sC (.pr (.kz A c) q.2.2.2) (b, q.2.1, q.2.2.1), D, .root (.box 32) sFi .own ([], [], [], [], []), .root (.val false) sNS .own t, .root (.val false) sI .own q.1, .v false (.int .i64) (q.1.length), D, D, D, D, D, D, D, D, D, D, D, D, D, D, D, D, D, D, D, D, D, D, D, D, D, D, D, D, D, D, D, D, D, D, D, D, D, D, D, D, D, D, D, D, D, D, D, D, D, D, D, D, D, D, D, D, D, D, D, D, D, D, D, D, D, D, D, D, D, D, D, D, D, D]) (fun q => q.1.length ≤ t.length ∧ (∀ j, j < q.1.length → (q.1.getD j 0 = 0 ∨ q.1.getD j 0 = 16 ∨ q.1.getD j 0 = 32 ∨ q.1.getD j 0 = 64) ∧ ((t.getD j z).2.2 = 0 → q.1.getD j 0 = 0)) ∧ 0 ≤ q.2.1) (fun q => t.length - q.1.length) ⟨([], i, h, r), ⟨Nat.zero_le _, fun j h => absurd h (Nat.not_lt_zero _), hi⟩, ?_⟩ fun q hq => ?_
 ·simp only [wn, wq, simprocAttr]
  try rfl
 clear hi
 clear i h r
 obtain ⟨s, i, h, r⟩ := q
 obtain ⟨hk, hs, hi⟩ := hq
 simp only at hk hs hi ⊢
 repeat refine VW.seq ?_
 refine VW.regl hT fun K hK => ?_
 simp only [wq, simprocAttr]
 refine hK _ ?_
 clear hK K
 try refine vthen_n ?_
 repeat refine VW.seq ?_
 refine VW.cond rfl (fun hc => ?_) (fun hc => ?_)
 ·have hlt : s.length < t.length := by simpa using hc
  have hsn : ∀ v : Int, (v = 0 ∨ v = 16 ∨ v = 32 ∨ v = 64) → ((t.getD s.length z).2.2 = 0 → v = 0) → ∀ j, j < (s ++ [v]).length → ((s ++ [v]).getD j 0 = 0 ∨ (s ++ [v]).getD j 0 = 16 ∨ (s ++ [v]).getD j 0 = 32 ∨ (s ++ [v]).getD j 0 = 64) ∧ ((t.getD j z).2.2 = 0 → (s ++ [v]).getD j 0 = 0) := fun v h1 h2 j hj => by
   rw [List.length_append, List.length_singleton] at hj
   rcases Nat.lt_or_ge j s.length with h3 | h3
   ·rw [List.getD_eq_getElem?_getD, List.getElem?_append_left h3, ← List.getD_eq_getElem?_getD]
    exact hs j h3
   ·obtain rfl : j = s.length := by omega
    have e : (s ++ [v]).getD s.length 0 = v := by rw [List.getD_eq_getElem?_getD, List.getElem?_append_right (Nat.le_refl _), Nat.sub_self]; rfl
    rw [e]
    exact ⟨h1, h2⟩
  have hnl : ∀ v : Int, (s ++ [v]).length = s.length + 1 := fun v => by rw [List.length_append, List.length_singleton]
  have hL : limOk (s.length + 1) 8 = true := by simp only [limOk]; exact decide_eq_true (by omega)
  refine VW.skip (vthen_n ?_)
  repeat refine VW.seq ?_
  refine VW.block ?_
  repeat refine VW.seq ?_
  refine VW.regl hT fun K hK => ?_
  simp only [wq, simprocAttr]
  refine vcall_io 0 ?_
  simp only [wq, simprocAttr]
  refine vxcall_ex (pick_vx A c r b i h [16, 64, 32, 16, 0] hi hl (by decide) (by decide)) ?_
  rintro pv ot ⟨m1, i1, h1, r1, rfl, ha1, hi1, rfl⟩
  have hm1 : m1 = 0 ∨ m1 = 16 ∨ m1 = 32 ∨ m1 = 64 := by
   simp only [List.mem_cons, List.not_mem_nil, or_false] at ha1
   omega
  simp only [wq, simprocAttr]
  refine hK _ ?_
  clear hK K
  try refine vthen_n ?_
  repeat refine VW.seq ?_
  refine VW.regl hT fun K hK => ?_
  simp only [wq, simprocAttr]
  refine ⟨decide_eq_true ⟨Int.natCast_nonneg _, by show (s.length : Int) < (t.length : Int); omega⟩, ?_⟩
  refine hK _ ?_
  clear hK K
  try refine vthen_n ?_
  repeat refine VW.seq ?_
  refine VW.cond rfl (fun hc => ?_) (fun hc => ?_)
  ·have hc : (t.getD s.length z).2.2 = 0 := eq_of_beq hc
   repeat refine VW.seq ?_
   refine VW.regl hT fun K hK => ?_
   simp only [wq, simprocAttr]
   refine hK _ ?_
   clear hK K
   try refine vthen_n ?_
   show vthen _ _ _ .normal _
   refine vthen_n ?_
   repeat refine VW.seq ?_
   refine VW.regl hT fun K hK => ?_
   simp only [wq, simprocAttr]
   refine ⟨hL, ?_⟩
   refine hK _ ?_
   clear hK K
   try refine vthen_n ?_
   show vthen _ _ _ .normal _
   refine vthen_n ?_
   repeat refine VW.seq ?_
   refine VW.regl hT fun K hK => ?_
   simp only [wq, simprocAttr]
   refine hK _ ?_
   clear hK K
   try refine vthen_n ?_
   refine ⟨(s ++ [0], i1, h1, r1), ⟨by show (s ++ [0]).length ≤ _; rw [hnl]; exact hlt, hsn 0 (.inl rfl) (fun _ => rfl), hi1⟩, ?_, by show t.length - (s ++ [0]).length < t.length - s.length; rw [hnl]; omega⟩
   simp only [wn, wq, simprocAttr]
   rw [hnl, wrap64 (by omega) (by omega), show (s.length : Int) + 1 = ((s.length + 1 : Nat) : Int) by omega]
  ·have hc : ¬ (t.getD s.length z).2.2 = 0 := fun e => by
    have hc : ((t.getD s.length z).2.2 == 0) = false := hc
    rw [e] at hc; cases hc
   refine VW.skip (vthen_n ?_)
   repeat refine VW.seq ?_
   refine VW.regl hT fun K hK => ?_
   simp only [wq, simprocAttr]
   refine ⟨hL, ?_⟩
   refine hK _ ?_
   clear hK K
   try refine vthen_n ?_
   show vthen _ _ _ .normal _
   refine vthen_n ?_
   repeat refine VW.seq ?_
   refine VW.regl hT fun K hK => ?_
   simp only [wq, simprocAttr]
   refine hK _ ?_
   clear hK K
   try refine vthen_n ?_
   refine ⟨(s ++ [m1], i1, h1, r1), ⟨by show (s ++ [m1]).length ≤ _; rw [hnl]; exact hlt, hsn m1 hm1 (fun e => absurd e hc), hi1⟩, ?_, by show t.length - (s ++ [m1]).length < t.length - s.length; rw [hnl]; omega⟩
   simp only [wn, wq, simprocAttr]
   rw [hnl, wrap64 (by omega) (by omega), show (s.length : Int) + 1 = ((s.length + 1 : Nat) : Int) by omega]
 have hsl : s.length = t.length := by
  have hc : ¬ (s.length : Int) < (t.length : Int) := of_decide_eq_false hc
  omega
 have hno : newOk t s = true := small_fits hok hsl fun j hj => hs j (by omega)
 have hs0 : ∀ k, k < s.length → 0 ≤ s.getD k 0 := fun k hk => by
  have := (hs k hk).1
  omega
 have hmem := memR_new hs0
 refine VW.exit ?_
 show vthen _ _ _ .normal _
 refine vthen_n ?_
 repeat refine VW.seq ?_
 refine VW.regl hT fun K hK => ?_
 simp only [wq, simprocAttr]
 refine vcall_ex (specNew_vc t s (by omega) (by omega)) ?_
 intro pv hpv
 rw [if_pos hno] at hpv
 subst hpv
 have hnf : newFab t s = (t, s, allBars t s, memTo s s.length, List.replicate s.length true) := rfl
 rw [hnf]
 clear hnf
 have hg0 : (List.replicate s.length true).length = t.length := by rw [List.length_replicate]; exact hsl
 have hg1 : 0 < t.length → (List.replicate s.length true).getD 0 false = true := fun h => by
  rw [List.getD_eq_getElem?_getD, List.getElem?_replicate_of_lt (by omega)]
  rfl
 generalize memTo s s.length = m at *
 generalize List.replicate s.length true = g at *
 have hfm : ∀ (m : List (List Int)) (g : List Bool), MemR s m → g.length = t.length → (0 < t.length → g.getD 0 false = true) → fabOk (t, s, allBars t s, m, g) = true := fun m g h1 h2 h3 => fab_mk hno h1 h2 h3
 generalize allBars t s = w at *
 simp only [wq, simprocAttr]
 refine hK _ ?_
 clear hK K
 try refine vthen_n ?_
 repeat refine VW.seq ?_
 refine VW.regl hT fun K hK => ?_
 simp only [wq, simprocAttr]
 refine hK _ ?_
 clear hK K
 try refine vthen_n ?_
 repeat refine VW.seq ?_
 refine VW.block ?_
 refine VW.loop (α := Nat × List (List Int) × Int × Int × Fl) [(0, none), (2, none), (3, none), (7, none), (9, none)] (fun q => [.root (.ibox 127 bb) sC (.pr (.kz A c) q.2.2.2.2) (b, q.2.2.1, q.2.2.2.1), D, .root (.box 32) sFi .own ([], [], [], [], []), .root (.val false) sNS .own t, D, D, D, .root (.box 32) sFi fFab (t, s, w, q.2.1, g), D, .v false (.int .i64) (q.1), D, D, D, D, D, D, D, D, D, D, D, D, D, D, D, D, D, D, D, D, D, D, D, D, D, D, D, D, D, D, D, D, D, D, D, D, D, D, D, D, D, D, D, D, D, D, D, D, D, D, D, D, D, D, D, D, D, D, D, D, D, D, D, D, D, D, D, D, D, D]) (fun q => q.1 ≤ s.length ∧ MemR s q.2.1 ∧ 0 ≤ q.2.2.1) (fun q => s.length - q.1) ⟨(0, m, i, h, r), ⟨Nat.zero_le _, hmem, hi⟩, ?_⟩ fun q hq => ?_
 ·simp only [wn, wq, simprocAttr]
  try rfl
 clear hi hmem
 clear i h r m
 obtain ⟨k, M, i, h, r⟩ := q
 obtain ⟨hk, hM, hi⟩ := hq
 simp only at hk hM hi ⊢
 have hMl := hM.len
 repeat refine VW.seq ?_
 refine VW.regl hT fun K hK => ?_
 simp only [wq, simprocAttr]
 refine hK _ ?_
 clear hK K
 try refine vthen_n ?_
 repeat refine VW.seq ?_
 refine VW.cond rfl (fun hc => ?_) (fun hc => ?_)
 ·have hlt : k < M.length := by simpa using hc
  have hJ : decide (0 ≤ (k : Int) ∧ (k : Int) < (M.length : Int)) = true := decide_eq_true ⟨Int.natCast_nonneg _, by omega⟩
  have hrow := (hM.row k hlt).1
  refine VW.skip (vthen_n ?_)
  repeat refine VW.seq ?_
  refine VW.block ?_
  repeat refine VW.seq ?_
  refine VW.regl hT fun K hK => ?_
  simp only [wq, simprocAttr]
  refine ⟨hJ, ?_⟩
  refine vbr (fun hp => ?_) (fun hp => ?_) <;> simp only [wq, simprocAttr]
  ·have hp : ((M.getD k []).length : Int) > 0 := of_decide_eq_true hp
   refine vcall_io 0 ?_
   simp only [wq, simprocAttr]
   refine vxcall_ex (once_vx A c r b i h 2 hi hl (by omega)) ?_
   rintro pv ot ⟨d, i0, h0, r0, rfl, hi0, rfl⟩
   simp only [wq, simprocAttr]
   refine hK _ ?_
   clear hK K
   try refine vthen_n ?_
   repeat refine VW.seq ?_
   refine VW.cond rfl (fun hc => ?_) (fun hc => ?_)
   ·skip
    repeat refine VW.seq ?_
    refine VW.any hT hm fun K hK W hW => ?_
    apply cutl; intro tK
    apply cutl; intro t262143
    apply cutl; intro t131071
    apply cutl; intro t65535
    apply cutl; intro t65519
    apply cutl; intro t32767
    apply cutl; intro t65511
    apply cutl; intro t32751
    apply cutl; intro t16383
    apply cutl; intro t65509
    apply cutl; intro t32743
    apply cutl; intro t16367
    apply cutl; intro t12287
    apply cutl; intro t32741
    apply cutl; intro t16359
    apply cutl; intro t12271
    apply cutl; intro t10239
    apply cutl; intro t16357
    apply cutl; intro t12263
    apply cutl; intro t10223
    apply cutl; intro t9215
    apply cutl; intro t12261
    apply cutl; intro t10215
    apply cutl; intro t9199
    apply cutl; intro t8703
    apply cutl; intro t10213
    apply cutl; intro t9191
    apply cutl; intro t8687
    apply cutl; intro t8575
    apply cutl; intro t9189
    apply cutl; intro t8679
    apply cutl; intro t8559
    apply cutl; intro t8677
    apply cutl; intro t8551
    ·refine hW.takeF 0 0 1 _ (by kernel_rfl) ?_
     simp only [wy, wq, simprocAttr]
     refine hW.take 1 2 5 _ (by kernel_rfl) ?_
     simp only [wy, wq, simprocAttr]
     refine hW.take 5 5 37 _ (by kernel_rfl) ?_
     simp only [wy, wq, simprocAttr]
     refine hW.takeF 37 6 101 _ (by kernel_rfl) ?_
     simp only [wy, wq, simprocAttr]
     refine hW.take 101 8 357 _ (by kernel_rfl) ?_
     simp only [wy, wq, simprocAttr]
     refine hW.take 357 13 8549 _ (by kernel_rfl) ?_
     simp only [wy, wq, simprocAttr]
     refine hW.all 8549 [(1, 8551), (7, 8677)] _ (by kernel_rfl) (by simp) ?_
     simp only [wy, wq, simprocAttr]
     exact ⟨t8551.h, t8677.h⟩
    ·refine hW.all 8551 [(3, 8559), (7, 8679)] _ (by kernel_rfl) (by simp) ?_
     simp only [wy, wq, simprocAttr]
     exact ⟨⟨hJ, t8559.h⟩, t8679.h⟩
    ·refine hW.all 8677 [(1, 8679), (9, 9189)] _ (by kernel_rfl) (by simp) ?_
     simp only [wy, wq, simprocAttr]
     exact ⟨t8679.h, ⟨hJ, t9189.h⟩⟩
    ·refine hW.all 8559 [(4, 8575), (7, 8687)] _ (by kernel_rfl) (by simp) ?_
     simp only [wy, wq, simprocAttr]
     exact ⟨t8575.h, t8687.h⟩
    ·refine hW.all 8679 [(3, 8687), (9, 9191)] _ (by kernel_rfl) (by simp) ?_
     simp only [wy, wq, simprocAttr]
     exact ⟨⟨hJ, t8687.h⟩, ⟨hJ, t9191.h⟩⟩
    ·refine hW.all 9189 [(1, 9191), (10, 10213)] _ (by kernel_rfl) (by simp) ?_
     simp only [wy, wq, simprocAttr]
     exact ⟨t9191.h, t10213.h⟩
    ·refine hW.all 8575 [(7, 8703)] _ (by kernel_rfl) (by simp) ?_
     simp only [wy, wq, simprocAttr]
     exact t8703.h
    ·refine hW.all 8687 [(4, 8703), (9, 9199)] _ (by kernel_rfl) (by simp) ?_
     simp only [wy, wq, simprocAttr]
     exact ⟨t8703.h, ⟨hJ, t9199.h⟩⟩
    ·refine hW.all 9191 [(3, 9199), (10, 10215)] _ (by kernel_rfl) (by simp) ?_
     simp only [wy, wq, simprocAttr]
     exact ⟨⟨hJ, t9199.h⟩, t10215.h⟩
    ·refine hW.all 10213 [(1, 10215), (11, 12261)] _ (by kernel_rfl) (by simp) ?_
     simp only [wy, wq, simprocAttr]
     exact ⟨t10215.h, t12261.h⟩
    ·refine hW.all 8703 [(9, 9215)] _ (by kernel_rfl) (by simp) ?_
     simp only [wy, wq, simprocAttr]
     exact ⟨hJ, t9215.h⟩
    ·refine hW.all 9199 [(4, 9215), (10, 10223)] _ (by kernel_rfl) (by simp) ?_
     simp only [wy, wq, simprocAttr]
     exact ⟨t9215.h, t10223.h⟩
    ·refine hW.all 10215 [(3, 10223), (11, 12263)] _ (by kernel_rfl) (by simp) ?_
     simp only [wy, wq, simprocAttr]
     exact ⟨⟨hJ, t10223.h⟩, t12263.h⟩
    ·refine hW.all 12261 [(1, 12263), (12, 16357)] _ (by kernel_rfl) (by simp) ?_
     simp only [wy, wq, simprocAttr]
     refine ⟨?_, ?_⟩
     ·exact t12263.h
     ·refine vcall_io 0 ?_
      simp only [wq, simprocAttr]
      refine vxcall_ex (below_vx A c r0 b i0 h0 ((M.getD k []).length : Nat) hi0 hl (by omega)) ?_
      rintro pv ot ⟨m1, i1, h1, r1, rfl, ha1, hb1, hi1, rfl⟩
      simp only [wq, simprocAttr]
      revert m1 i1 h1 r1 ha1 hb1 hi1
      exact t16357.h
    ·refine hW.all 9215 [(10, 10239)] _ (by kernel_rfl) (by simp) ?_
     simp only [wy, wq, simprocAttr]
     exact t10239.h
    ·refine hW.all 10223 [(4, 10239), (11, 12271)] _ (by kernel_rfl) (by simp) ?_
     simp only [wy, wq, simprocAttr]
     exact ⟨t10239.h, t12271.h⟩
    ·refine hW.all 12263 [(3, 12271), (12, 16359)] _ (by kernel_rfl) (by simp) ?_
     simp only [wy, wq, simprocAttr]
     refine ⟨?_, ?_⟩
     ·refine ⟨hJ, ?_⟩
      exact t12271.h
     ·refine vcall_io 0 ?_
      simp only [wq, simprocAttr]
      refine vxcall_ex (below_vx A c r0 b i0 h0 ((M.getD k []).length : Nat) hi0 hl (by omega)) ?_
      rintro pv ot ⟨m1, i1, h1, r1, rfl, ha1, hb1, hi1, rfl⟩
      simp only [wq, simprocAttr]
      revert m1 i1 h1 r1 ha1 hb1 hi1
      exact t16359.h
    ·intro m1 i1 h1 r1 ha1 hb1 hi1
     refine hW.all 16357 [(1, 16359), (14, 32741)] _ (by kernel_rfl) (by simp) ?_
     simp only [wy, wq, simprocAttr]
     refine ⟨?_, ?_⟩
     ·revert m1 i1 h1 r1 ha1 hb1 hi1
      exact t16359.h
     ·refine vcall_io 0 ?_
      simp only [wq, simprocAttr]
      refine vxcall_ex (below_vx A c r1 b i1 h1 9 hi1 hl (by omega)) ?_
      rintro pv ot ⟨m2, i2, h2, r2, rfl, ha2, hb2, hi2, rfl⟩
      simp only [wq, simprocAttr]
      revert m1 i1 h1 r1 ha1 hb1 hi1 m2 i2 h2 r2 ha2 hb2 hi2
      exact t32741.h
    ·refine hW.all 10239 [(11, 12287)] _ (by kernel_rfl) (by simp) ?_
     simp only [wy, wq, simprocAttr]
     exact t12287.h
    ·refine hW.all 12271 [(4, 12287), (12, 16367)] _ (by kernel_rfl) (by simp) ?_
     simp only [wy, wq, simprocAttr]
     refine ⟨?_, ?_⟩
     ·exact t12287.h
     ·refine vcall_io 0 ?_
      simp only [wq, simprocAttr]
      refine vxcall_ex (below_vx A c r0 b i0 h0 ((M.getD k []).length : Nat) hi0 hl (by omega)) ?_
      rintro pv ot ⟨m1, i1, h1, r1, rfl, ha1, hb1, hi1, rfl⟩
      simp only [wq, simprocAttr]
      revert m1 i1 h1 r1 ha1 hb1 hi1
      exact t16367.h
    ·intro m1 i1 h1 r1 ha1 hb1 hi1
     refine hW.all 16359 [(3, 16367), (14, 32743)] _ (by kernel_rfl) (by simp) ?_
     simp only [wy, wq, simprocAttr]
     refine ⟨?_, ?_⟩
     ·refine ⟨hJ, ?_⟩
      revert m1 i1 h1 r1 ha1 hb1 hi1
      exact t16367.h
     ·refine vcall_io 0 ?_
      simp only [wq, simprocAttr]
      refine vxcall_ex (below_vx A c r1 b i1 h1 9 hi1 hl (by omega)) ?_
      rintro pv ot ⟨m2, i2, h2, r2, rfl, ha2, hb2, hi2, rfl⟩
      simp only [wq, simprocAttr]
      revert m1 i1 h1 r1 ha1 hb1 hi1 m2 i2 h2 r2 ha2 hb2 hi2
      exact t32743.h
    ·intro m1 i1 h1 r1 ha1 hb1 hi1 m2 i2 h2 r2 ha2 hb2 hi2
     refine hW.all 32741 [(1, 32743), (15, 65509)] _ (by kernel_rfl) (by simp) ?_
     simp only [wy, wq, simprocAttr]
     refine ⟨?_, ?_⟩
     ·revert m1 i1 h1 r1 ha1 hb1 hi1 m2 i2 h2 r2 ha2 hb2 hi2
      exact t32743.h
     ·revert m1 i1 h1 r1 ha1 hb1 hi1 m2 i2 h2 r2 ha2 hb2 hi2
      exact t65509.h
    ·refine hW.all 12287 [(12, 16383)] _ (by kernel_rfl) (by simp) ?_
     simp only [wy, wq, simprocAttr]
     skip
     refine vcall_io 0 ?_
     simp only [wq, simprocAttr]
     refine vxcall_ex (below_vx A c r0 b i0 h0 ((M.getD k []).length : Nat) hi0 hl (by omega)) ?_
     rintro pv ot ⟨m1, i1, h1, r1, rfl, ha1, hb1, hi1, rfl⟩
     simp only [wq, simprocAttr]
     revert m1 i1 h1 r1 ha1 hb1 hi1
     exact t16383.h
    ·intro m1 i1 h1 r1 ha1 hb1 hi1
     refine hW.all 16367 [(4, 16383), (14, 32751)] _ (by kernel_rfl) (by simp) ?_
     simp only [wy, wq, simprocAttr]
     refine ⟨?_, ?_⟩
     ·revert m1 i1 h1 r1 ha1 hb1 hi1
      exact t16383.h
     ·refine vcall_io 0 ?_
      simp only [wq, simprocAttr]
      refine vxcall_ex (below_vx A c r1 b i1 h1 9 hi1 hl (by omega)) ?_
      rintro pv ot ⟨m2, i2, h2, r2, rfl, ha2, hb2, hi2, rfl⟩
      simp only [wq, simprocAttr]
      revert m1 i1 h1 r1 ha1 hb1 hi1 m2 i2 h2 r2 ha2 hb2 hi2
      exact t32751.h
    ·intro m1 i1 h1 r1 ha1 hb1 hi1 m2 i2 h2 r2 ha2 hb2 hi2
     refine hW.all 32743 [(3, 32751), (15, 65511)] _ (by kernel_rfl) (by simp) ?_
     simp only [wy, wq, simprocAttr]
     refine ⟨?_, ?_⟩
     ·refine ⟨hJ, ?_⟩
      revert m1 i1 h1 r1 ha1 hb1 hi1 m2 i2 h2 r2 ha2 hb2 hi2
      exact t32751.h
     ·revert m1 i1 h1 r1 ha1 hb1 hi1 m2 i2 h2 r2 ha2 hb2 hi2
      exact t65511.h
    ·intro m1 i1 h1 r1 ha1 hb1 hi1 m2 i2 h2 r2 ha2 hb2 hi2
     refine hW.all 65509 [(1, 65511)] _ (by kernel_rfl) (by simp) ?_
     simp only [wy, wq, simprocAttr]
     skip
     revert m1 i1 h1 r1 ha1 hb1 hi1 m2 i2 h2 r2 ha2 hb2 hi2
     exact t65511.h
    ·intro m1 i1 h1 r1 ha1 hb1 hi1
     refine hW.all 16383 [(14, 32767)] _ (by kernel_rfl) (by simp) ?_
     simp only [wy, wq, simprocAttr]
     skip
     refine vcall_io 0 ?_
     simp only [wq, simprocAttr]
     refine vxcall_ex (below_vx A c r1 b i1 h1 9 hi1 hl (by omega)) ?_
     rintro pv ot ⟨m2, i2, h2, r2, rfl, ha2, hb2, hi2, rfl⟩
     simp only [wq, simprocAttr]
     revert m1 i1 h1 r1 ha1 hb1 hi1 m2 i2 h2 r2 ha2 hb2 hi2
     exact t32767.h
    ·intro m1 i1 h1 r1 ha1 hb1 hi1 m2 i2 h2 r2 ha2 hb2 hi2
     refine hW.all 32751 [(4, 32767), (15, 65519)] _ (by kernel_rfl) (by simp) ?_
     simp only [wy, wq, simprocAttr]
     refine ⟨?_, ?_⟩
     ·revert m1 i1 h1 r1 ha1 hb1 hi1 m2 i2 h2 r2 ha2 hb2 hi2
      exact t32767.h
     ·revert m1 i1 h1 r1 ha1 hb1 hi1 m2 i2 h2 r2 ha2 hb2 hi2
      exact t65519.h
    ·intro m1 i1 h1 r1 ha1 hb1 hi1 m2 i2 h2 r2 ha2 hb2 hi2
     refine hW.all 65511 [(3, 65519)] _ (by kernel_rfl) (by simp) ?_
     simp only [wy, wq, simprocAttr]
     skip
     refine ⟨hJ, ?_⟩
     revert m1 i1 h1 r1 ha1 hb1 hi1 m2 i2 h2 r2 ha2 hb2 hi2
     exact t65519.h
    ·intro m1 i1 h1 r1 ha1 hb1 hi1 m2 i2 h2 r2 ha2 hb2 hi2
     refine hW.all 32767 [(15, 65535)] _ (by kernel_rfl) (by simp) ?_
     simp only [wy, wq, simprocAttr]
     skip
     revert m1 i1 h1 r1 ha1 hb1 hi1 m2 i2 h2 r2 ha2 hb2 hi2
     exact t65535.h
    ·intro m1 i1 h1 r1 ha1 hb1 hi1 m2 i2 h2 r2 ha2 hb2 hi2
     refine hW.all 65519 [(4, 65535)] _ (by kernel_rfl) (by simp) ?_
     simp only [wy, wq, simprocAttr]
     skip
     revert m1 i1 h1 r1 ha1 hb1 hi1 m2 i2 h2 r2 ha2 hb2 hi2
     exact t65535.h
    ·intro m1 i1 h1 r1 ha1 hb1 hi1 m2 i2 h2 r2 ha2 hb2 hi2
     refine hW.all 65535 [(16, 131071)] _ (by kernel_rfl) (by simp) ?_
     simp only [wy, wq, simprocAttr]
     skip
     refine ⟨decide_eq_true ⟨ha1, hb1⟩, ?_⟩
     revert m1 i1 h1 r1 ha1 hb1 hi1 m2 i2 h2 r2 ha2 hb2 hi2
     exact t131071.h
    ·intro m1 i1 h1 r1 ha1 hb1 hi1 m2 i2 h2 r2 ha2 hb2 hi2
     refine hW.all 131071 [(17, 262143)] _ (by kernel_rfl) (by simp) ?_
     simp only [wy, wq, simprocAttr]
     skip
     revert m1 i1 h1 r1 ha1 hb1 hi1 m2 i2 h2 r2 ha2 hb2 hi2
     exact t262143.h
    ·intro m1 i1 h1 r1 ha1 hb1 hi1 m2 i2 h2 r2 ha2 hb2 hi2
     refine hW.done 262143 _ (by kernel_rfl) ?_
     revert m1 i1 h1 r1 ha1 hb1 hi1 m2 i2 h2 r2 ha2 hb2 hi2
     exact tK.h
    intro m1 i1 h1 r1 ha1 hb1 hi1 m2 i2 h2 r2 ha2 hb2 hi2
    refine hK _ ?_
    clear hW W hK K
    show vthen _ _ _ .normal _
    refine vthen_n ?_
    repeat refine VW.seq ?_
    refine VW.regl hT fun K hK => ?_
    simp only [wq, simprocAttr]
    refine hK _ ?_
    clear hK K
    try refine vthen_n ?_
    refine ⟨(k + 1, M.set k ((M.getD k []).set m1.toNat (IntKind.i64.wrap (1 + m2))), i2, h2, r2), ⟨by show k + 1 ≤ _; omega, memR_set hM hlt (by rw [wrap64 (by omega) (by omega)]; omega) (by rw [wrap64 (by omega) (by omega)]; omega), hi2⟩, ?_, by show s.length - (k + 1) < s.length - k; omega⟩
    simp only [wn, wq, simprocAttr]
    rw [wrap64 (x := 1 + m2) (by omega) (by omega), wrap64 (by omega) (by omega), show (k : Int) + 1 = ((k + 1 : Nat) : Int) by omega]
   ·refine VW.skip ?_
    show vthen _ _ _ .normal _
    refine vthen_n ?_
    repeat refine VW.seq ?_
    refine VW.regl hT fun K hK => ?_
    simp only [wq, simprocAttr]
    refine hK _ ?_
    clear hK K
    try refine vthen_n ?_
    refine ⟨(k + 1, M, i0, h0, r0), ⟨by show k + 1 ≤ _; omega, hM, hi0⟩, ?_, by show s.length - (k + 1) < s.length - k; omega⟩
    simp only [wn, wq, simprocAttr]
    rw [wrap64 (by omega) (by omega), show (k : Int) + 1 = ((k + 1 : Nat) : Int) by omega]
  ·refine hK _ ?_
   clear hK K
   try refine vthen_n ?_
   repeat refine VW.seq ?_
   refine VW.cond rfl (fun hc => ?_) (fun hc => ?_)
   ·cases hc
   ·refine VW.skip ?_
    show vthen _ _ _ .normal _
    refine vthen_n ?_
    repeat refine VW.seq ?_
    refine VW.regl hT fun K hK => ?_
    simp only [wq, simprocAttr]
    refine hK _ ?_
    clear hK K
    try refine vthen_n ?_
    refine ⟨(k + 1, M, i, h, r), ⟨by show k + 1 ≤ _; omega, hM, hi⟩, ?_, by show s.length - (k + 1) < s.length - k; omega⟩
    simp only [wn, wq, simprocAttr]
    rw [wrap64 (by omega) (by omega), show (k : Int) + 1 = ((k + 1 : Nat) : Int) by omega]
 have hfx := fun g h1 h2 => hfm M g hM h1 h2
 refine VW.exit ?_
 show vthen _ _ _ .normal _
 refine vthen_n ?_
 repeat refine VW.seq ?_
 refine VW.regl hT fun K hK => ?_
 simp only [wq, simprocAttr]
 refine vcall_io 0 ?_
 simp only [wq, simprocAttr]
 refine vxcall_ex (once_vx A c r b i h 3 hi hl (by omega)) ?_
 rintro pv ot ⟨d, i0, h0, r0, rfl, hi0, rfl⟩
 simp only [wq, simprocAttr]
 refine hK _ ?_
 clear hK K
 try refine vthen_n ?_
 repeat refine VW.seq ?_
 refine VW.cond rfl (fun hc => ?_) (fun hc => ?_)
 ·repeat refine VW.seq ?_
  refine VW.regl hT fun K hK => ?_
  simp only [wq, simprocAttr]
  refine vcall_io 0 ?_
  simp only [wq, simprocAttr]
  refine vxcall_ex (guardD_vx A c r0 b i0 h0 t hi0 hl (by omega)) ?_
  rintro pv ot ⟨g2, i1, h1, r1, rfl, hg2, hg3, hi1, rfl⟩
  simp only [wq, simprocAttr]
  refine hK _ ?_
  clear hK K
  try refine vthen_n ?_
  show vthen _ _ _ .normal _
  refine vthen_n ?_
  repeat refine VW.seq ?_
  refine VW.regl hT fun K hK => ?_
  simp only [wq, simprocAttr]
  refine hK _ ?_
  clear hK K
  try refine vthen_n ?_
  exact VW.ret ⟨.inl rfl, _, _, _, _, rfl, ⟨0, rfl⟩, _, i1, h1, r1, rfl, hfx g2 hg2 hg3, hi1, rfl⟩
 ·refine VW.skip (vthen_n ?_)
  repeat refine VW.seq ?_
  refine VW.regl hT fun K hK => ?_
  simp only [wq, simprocAttr]
  refine hK _ ?_
  clear hK K
  try refine vthen_n ?_
  exact VW.ret ⟨.inl rfl, _, _, _, _, rfl, ⟨0, rfl⟩, _, i0, h0, r0, rfl, hfx g hg0 hg1, hi0, rfl⟩
end Go.Proofs.YtmechjnfeidnkaaGreat.V.W
end
section
namespace Go.Proofs.YtmechjnfeidnkaaGreat.V.W
open Go Go.RowKit
theorem guard_sz {t : List Nd} {g : List Bool} (h : guardOk t g = true) : g.length = t.length ∧ treeOk t = true := by
 rw [guardOk, Bool.and_eq_true, Bool.and_eq_true] at h
 exact ⟨eq_of_beq h.2.1, h.1⟩
theorem fab_szs {t : List Nd} {s : List Int} {w : List (Int × Int)} {m : List (List Int)} {g : List Bool} (h : fabOk (t, s, w, m, g) = true) : 1 ≤ t.length ∧ t.length ≤ 12 ∧ w.length = t.length ∧ s.length = t.length ∧ m.length = t.length ∧ g.length = t.length := by
 obtain ⟨h1, h2, h3, h4, h5⟩ := fab_parts h
 have hn := h1
 rw [newOk, fits, Bool.and_eq_true, Bool.and_eq_true] at hn
 have hok := sizesOk_iff.1 hn.1.1
 have htl := treeOk_len hok.1
 have hg := guard_sz h4
 refine ⟨htl.1, htl.2, ?_, hok.2.1, by omega, hg.1⟩
 rw [← h2, allBars, bars_len]
theorem fab_L {x : Fab} (h : fabOk x = true) : FabL x ∧ x.2.2.2.2.length ≤ 12 := by
 obtain ⟨t, s, w, m, g⟩ := x
 obtain ⟨z1, z2, z3, z4, z5, z6⟩ := fab_szs h
 obtain ⟨h1, h2, h3, h4, h5⟩ := fab_parts h
 refine ⟨⟨by show t.length ≤ _; omega, by show s.length ≤ _; omega, by show w.length ≤ _; omega, by show m.length ≤ _; omega, fun k => ?_⟩, by show g.length ≤ _; omega⟩
 show (m.getD k []).length ≤ _
 rcases Nat.lt_or_ge k m.length with hk | hk
 ·have hr := (h5 k hk).1
  have h64 : s.getD k 0 ≤ 64 := by
   rw [newOk, Bool.and_eq_true] at h1
   have h2 : (s.any fun x => decide (x > 64)) = false := by simpa using h1.2
   rw [List.any_eq_false] at h2
   have := h2 _ (getD_mem (show k < s.length by omega))
   simpa using this
  omega
 ·rw [List.getD_eq_getElem?_getD, List.getElem?_eq_none hk]
  exact Nat.zero_le _
theorem guard_zero {t : List Nd} {g : List Bool} (h : guardOk t g = true) : g.getD 0 false = true := by
 rw [guardOk, Bool.and_eq_true, Bool.and_eq_true] at h
 exact h.2.2
end Go.Proofs.YtmechjnfeidnkaaGreat.V.W
end
section
namespace Go.Proofs.YtmechjnfeidnkaaGreat.V.W
open Go Go.RowKit
abbrev rIW (p : List Int × Int) : PV := .root (.tup [false, false]) (.pr sI (.int .i64)) (.pr .own .fz) p
set_option maxRecDepth 20000 in
set_option maxHeartbeats 1000000 in
theorem loadWords_vc (x : Fab) (fr a l : Int) (hx : FabL x) (ha : a ≤ 9223372036854775807) : VC Tryz.prog 21 [.v true sFi x, .v false (.int .i64) (fr), .v false (.int .i64) (a), .v false (.int .i64) (l)] (· = rIW (loadW x fr a l)) := by
 refine VC.of_body hT Tryz.func21 rfl (by kernel_rfl) [(.tmp 8, false, sI), (.tmp 9, false, .int .i64)] (by kernel_rfl) ?_
 have htv := targetOf_vc x fr a l hx
 generalize hr : loadW x fr a l = r
 rw [loadW] at hr
 obtain ⟨t, s, b, m, g⟩ := x
 have hg : ∀ k : Int, targetOf (t, s, b, m, g) fr a l = (k, 0) → _ := fun k h => target_good h ha
 generalize targetOf (t, s, b, m, g) fr a l = p at *
 obtain ⟨k, c⟩ := p
 show VW _ _ ([.v true sFi (t, s, b, m, g), .v false (.int .i64) (fr), .v false (.int .i64) (a), .v false (.int .i64) (l), D, D, D, D, D, D, D, D, D, D, D, D, D, D, D, D, D, D, D, D, D, D, D, D, D, D, D, D, D, D, D, D, D, D, D, D, D, D, D]) _
 repeat refine VW.seq ?_
 refine VW.regl hT fun K hK => ?_
 simp only [wq, simprocAttr]
 refine hK _ ?_
 clear hK K
 try refine vthen_n ?_
 repeat refine VW.seq ?_
 refine VW.regl hT fun K hK => ?_
 simp only [wq, simprocAttr]
 refine vcall_of htv ?_
 simp only [wq, simprocAttr]
 refine hK _ ?_
 clear hK K
 try refine vthen_n ?_
 repeat refine VW.seq ?_
 refine VW.regl hT fun K hK => ?_
 simp only [wq, simprocAttr]
 refine hK _ ?_
 clear hK K
 try refine vthen_n ?_
 repeat refine VW.seq ?_
 refine VW.cond rfl (fun hc => ?_) (fun hc => ?_)
 ·repeat refine VW.seq ?_
  refine VW.regl hT fun K hK => ?_
  simp only [wq, simprocAttr]
  refine hK _ ?_
  clear hK K
  try refine vthen_n ?_
  refine VW.ret ⟨.inl rfl, _, rfl, ?_⟩
  rw [← hr, if_neg (by simpa using hc)]
  rfl
 have hc : c = 0 := by simpa using hc
 subst hc
 obtain ⟨j, lo, n, rfl, rfl, h1, h2, h3, h4, h5, h6, hf⟩ := hg k rfl
 rw [if_pos rfl] at hr
 have hr : (((m.getD ((j : Int)).toNat []).drop (IntKind.i64.wrap (a - (b.getD ((j : Int)).toNat zb).2)).toNat).take ((n : Int)).toNat, (0 : Int)) = r := hr
 rw [Int.toNat_natCast, Int.toNat_natCast, h3, Int.toNat_natCast] at hr
 refine VW.skip (vthen_n ?_)
 repeat refine VW.seq ?_
 refine VW.regl hT fun K hK => ?_
 simp only [wq, simprocAttr]
 refine ⟨decide_eq_true ⟨Int.natCast_nonneg _, by show (j : Int) < (b.length : Int); omega⟩, ?_⟩
 refine hK _ ?_
 clear hK K
 try refine vthen_n ?_
 rw [show IntKind.i64.wrap (a - (b.getD j zb).2) = (lo : Int) from h3]
 repeat refine VW.seq ?_
 refine VW.regl hT fun K hK => ?_
 simp only [wq, simprocAttr]
 rw [show IntKind.i64.wrap ((lo : Int) + (n : Int)) = ((lo + n : Nat) : Int) from by rw [wrap64 (by omega) (by omega)]; omega]
 refine ⟨decide_eq_true ⟨Int.natCast_nonneg _, by show (j : Int) < (m.length : Int); omega⟩, decide_eq_true ⟨Int.natCast_nonneg _, by omega, by show ((lo + n : Nat) : Int) ≤ ((m.getD j []).length : Int); omega⟩, ?_⟩
 rw [show (List.drop lo (List.take (((lo + n : Nat) : Int)).toNat (m.getD j []))) = ((m.getD j []).drop lo).take n from by rw [Int.toNat_natCast, List.drop_take]; congr 1; omega]
 refine vcall_of (cloneI_vc _ (by rw [List.length_take]; omega)) ?_
 simp only [wq, simprocAttr]
 refine hK _ ?_
 clear hK K
 try refine vthen_n ?_
 refine VW.ret ⟨.inl rfl, _, rfl, ?_⟩
 rw [← hr]
end Go.Proofs.YtmechjnfeidnkaaGreat.V.W
end
section
namespace Go.Proofs.YtmechjnfeidnkaaGreat.V.W
open Go Go.RowKit
theorem nil_of {α : Type} {t : List α} {b : Bool} (hb : 0 < t.length → b = false) (hc : b = true) : t = [] := by
 rcases Nat.eq_zero_or_pos t.length with h | h
 ·exact List.eq_nil_of_length_eq_zero h
 ·have := hb h; rw [this] at hc; cases hc
theorem cloneBo_vc (t : List Bool) (hl : t.length ≤ 2000000) : VC Tryz.prog 114 [.v false sG t] (· = .root (.val false) sG .own t) := by
 refine VC.of_body hT Tryz.func114 rfl (by kernel_rfl) [(.tmp 2, false, sG)] (by kernel_rfl) ?_
 show VW _ _ ([.v false sG t, D, D, D, D, D, D, D]) _
 repeat refine VW.seq ?_
 refine VW.regl hT fun K hK => ?_
 simp only [wq, simprocAttr]
 refine hK _ ?_
 clear hK K
 try refine vthen_n ?_
 repeat refine VW.seq ?_
 refine VW.regl hT fun K hK => ?_
 simp only [wq, simprocAttr]
 intro b hb
 refine hK _ ?_
 clear hK K
 try refine vthen_n ?_
 repeat refine VW.seq ?_
 refine VW.cond rfl (fun hc => ?_) (fun hc => ?_)
 ·repeat refine VW.seq ?_
  refine VW.regl hT fun K hK => ?_
  simp only [wq, simprocAttr]
  refine hK _ ?_
  clear hK K
  try refine vthen_n ?_
  refine VW.ret ⟨.inl rfl, _, rfl, ?_⟩
  obtain rfl := nil_of hb hc
  rfl
 ·refine VW.skip (vthen_n ?_)
  repeat refine VW.seq ?_
  refine VW.regl hT fun K hK => ?_
  simp only [wq, simprocAttr]
  refine ⟨by simp [limOk]; omega, ?_⟩
  refine hK _ ?_
  clear hK K
  try refine vthen_n ?_
  exact VW.ret ⟨.inl rfl, _, rfl, rfl⟩
theorem cloneBa_vc (t : List (Int × Int)) (hl : t.length ≤ 2000000) : VC Tryz.prog 112 [.v false sBS t] (· = .root (.val false) sBS .own t) := by
 refine VC.of_body hT Tryz.func112 rfl (by kernel_rfl) [(.tmp 2, false, sBS)] (by kernel_rfl) ?_
 show VW _ _ ([.v false sBS t, D, D, D, D, D, D, D]) _
 repeat refine VW.seq ?_
 refine VW.regl hT fun K hK => ?_
 simp only [wq, simprocAttr]
 refine hK _ ?_
 clear hK K
 try refine vthen_n ?_
 repeat refine VW.seq ?_
 refine VW.regl hT fun K hK => ?_
 simp only [wq, simprocAttr]
 intro b hb
 refine hK _ ?_
 clear hK K
 try refine vthen_n ?_
 repeat refine VW.seq ?_
 refine VW.cond rfl (fun hc => ?_) (fun hc => ?_)
 ·repeat refine VW.seq ?_
  refine VW.regl hT fun K hK => ?_
  simp only [wq, simprocAttr]
  refine hK _ ?_
  clear hK K
  try refine vthen_n ?_
  refine VW.ret ⟨.inl rfl, _, rfl, ?_⟩
  obtain rfl := nil_of hb hc
  rfl
 ·refine VW.skip (vthen_n ?_)
  repeat refine VW.seq ?_
  refine VW.regl hT fun K hK => ?_
  simp only [wq, simprocAttr]
  refine ⟨by simp [limOk]; omega, ?_⟩
  refine hK _ ?_
  clear hK K
  try refine vthen_n ?_
  exact VW.ret ⟨.inl rfl, _, rfl, rfl⟩
set_option maxRecDepth 20000 in
theorem copyLists_vc (m : List (List Int)) (hl : m.length ≤ 2000000) (hr : ∀ k, (m.getD k []).length ≤ 2000000) : VC Tryz.prog 113 [.v false sII m] (· = .root (.val false) sII .own m) := by
 refine VC.of_body hT Tryz.func113 rfl (by kernel_rfl) [(.tmp 2, false, sII)] (by kernel_rfl) ?_
 show VW _ _ ([.v false sII m, D, D, D, D, D, D, D, D, D, D, D, D, D, D, D, D, D, D, D]) _
 repeat refine VW.seq ?_
 refine VW.regl hT fun K hK => ?_
 simp only [wq, simprocAttr]
 refine hK _ ?_
 clear hK K
 try refine vthen_n ?_
 repeat refine VW.seq ?_
 refine VW.regl hT fun K hK => ?_
 simp only [wq, simprocAttr]
 refine hK _ ?_
 clear hK K
 try refine vthen_n ?_
 repeat refine VW.seq ?_
 refine VW.regl hT fun K hK => ?_
 simp only [wq, simprocAttr]
 refine hK _ ?_
 clear hK K
 try refine vthen_n ?_
 repeat refine VW.seq ?_
 refine VW.block ?_
 refine VW.loop (α := Nat) [(3, some (25, sI)), (7, none), (8, none), (9, none)] (fun i => [D, D, D, .root (.val false) sII .own (m.take i), D, D, D, .v false sII m, .v false (.int .i64) ((m.length : Nat)), .v false (.int .i64) ((i : Nat)), D, D, D, D, D, D, D, D, D, D]) (fun i => i ≤ m.length) (fun i => m.length - i) ⟨0, by omega, ?_⟩ fun i hi => ?_
 ·simp only [wn, wq, simprocAttr]
  try rfl
 repeat refine VW.seq ?_
 refine VW.regl hT fun K hK => ?_
 simp only [wq, simprocAttr]
 refine hK _ ?_
 clear hK K
 try refine vthen_n ?_
 repeat refine VW.seq ?_
 refine VW.cond rfl (fun hc => ?_) (fun hc => ?_)
 ·have hlt : i < m.length := by simpa using hc
  refine VW.skip (vthen_n ?_)
  repeat refine VW.seq ?_
  refine VW.block ?_
  repeat refine VW.seq ?_
  refine VW.regl hT fun K hK => ?_
  simp only [wq, simprocAttr]
  refine ⟨decide_eq_true ⟨Int.natCast_nonneg _, by show (i : Int) < (m.length : Int); omega⟩, ?_⟩
  refine hK _ ?_
  clear hK K
  try refine vthen_n ?_
  repeat refine VW.seq ?_
  refine VW.regl hT fun K hK => ?_
  simp only [wq, simprocAttr]
  refine vcall_of (cloneI_vc _ (hr i)) ?_
  simp only [wq, simprocAttr]
  refine ⟨by simp only [limOk, List.length_take]; exact decide_eq_true (by omega), ?_⟩
  refine hK _ ?_
  clear hK K
  try refine vthen_n ?_
  show vthen _ _ _ .normal _
  refine vthen_n ?_
  repeat refine VW.seq ?_
  refine VW.regl hT fun K hK => ?_
  simp only [wq, simprocAttr]
  refine hK _ ?_
  clear hK K
  try refine vthen_n ?_
  refine ⟨i + 1, hlt, ?_, by show m.length - (i + 1) < m.length - i; omega⟩
  simp only [wn, wq, simprocAttr]
  rw [wrap64 (by omega) (by omega), show m.take (i + 1) = m.take i ++ [m.getD i []] from by rw [List.take_add_one, List.getElem?_eq_getElem hlt, List.getD_eq_getElem?_getD, List.getElem?_eq_getElem hlt]; rfl, show (i : Int) + 1 = ((i + 1 : Nat) : Int) by omega]
 ·have hge : i = m.length := by
   have hc : ¬ (i : Int) < (m.length : Int) := of_decide_eq_false hc
   omega
  subst hge
  rw [List.take_length]
  refine VW.exit ?_
  show vthen _ _ _ .normal _
  refine vthen_n ?_
  repeat refine VW.seq ?_
  refine VW.regl hT fun K hK => ?_
  simp only [wq, simprocAttr]
  refine hK _ ?_
  clear hK K
  try refine vthen_n ?_
  exact VW.ret ⟨.inl rfl, _, rfl, rfl⟩
set_option maxRecDepth 20000 in
set_option maxHeartbeats 1000000 in
theorem copyFabric_vc (x : Fab) (hx : FabL x) (hg : x.2.2.2.2.length ≤ 2000000) : VC Tryz.prog 55 [.v true sFi x] (· = .root (.val true) sFi fFab x) := by
 obtain ⟨t, s, b, m, g⟩ := x
 refine VC.of_body hT Tryz.func55 rfl (by kernel_rfl) [(.cell 2 32, true, sFi)] (by kernel_rfl) ?_
 show VW _ _ ([.v true sFi (t, s, b, m, g), D, D, D, D, D, D, D, D, D, D, D, D, D, D, D, D, D, D, D, D]) _
 repeat refine VW.seq ?_
 refine VW.regl hT fun K hK => ?_
 simp only [wq, simprocAttr]
 refine hK _ ?_
 clear hK K
 try refine vthen_n ?_
 repeat refine VW.seq ?_
 refine VW.mixl hT hm 0 16 (by kernel_rfl) fun K hK => ?_
 simp only [wq, simprocAttr]
 repeat refine ⟨by kernel_rfl, ?_⟩
 refine vcallD_of (clone_vc t hx.a) ?_
 simp only [wq, simprocAttr]
 repeat refine ⟨by kernel_rfl, ?_⟩
 refine vcallD_of (cloneI_vc s hx.b) ?_
 simp only [wq, simprocAttr]
 repeat refine ⟨by kernel_rfl, ?_⟩
 refine vcallD_of (cloneBa_vc b hx.c) ?_
 simp only [wq, simprocAttr]
 repeat refine ⟨by kernel_rfl, ?_⟩
 refine vcallD_of (copyLists_vc m hx.d hx.e) ?_
 simp only [wq, simprocAttr]
 repeat refine ⟨by kernel_rfl, ?_⟩
 refine vcallD_of (cloneBo_vc g hg) ?_
 simp only [wq, simprocAttr]
 trace_state
 refine hK _ ?_
 clear hK K
 try refine vthen_n ?_
 refine VW.ret ⟨.inl rfl, _, rfl, rfl⟩
end Go.Proofs.YtmechjnfeidnkaaGreat.V.W
end
section
namespace Go.Proofs.YtmechjnfeidnkaaGreat.V
open Go Go.RowKit
/-- what lies at a place is changed by what the code does there -/
theorem Rel.turnP {L : Lay} {st : St} {a : Act} {w w' : World} (h : Rel L st a w Free) {g : Nat} {p : Path} {s : Sh} {cs1 : List Value} {ad1 : Option Addr} {fl f' : Fl} {x x' : s.ty} (hP : Place L st w g p s cs1 ad1) (hl : look st g p = some ⟨s, fl, x⟩) {st1 st2 : St} (hj : V.put st g p s .junk x hitS = some st1) (hput : V.put st1 g p s f' x' hitS = some st2)
  (hw : ∀ B : Nat → Prop, Rep w L.Z s fl x cs1 B → (∀ b, B b → L.F g b) → ExtF w w' B ∧ Rep w' L.Z s f' x' cs1 B) : ∃ L', Stp L L' w w' ∧ Rel L' st2 a w' Free := by
 obtain ⟨k, s0, f0, x0, hg, hOk, hget, hsub⟩ := id hP
 obtain ⟨f1, x1, e1, B1, e2, e3, e4, e5, e6⟩ := h.put hg hP
 have hl' : get s0 f0 x0 p = some ⟨s, fl, x⟩ := by unfold look at hl; rw [hg] at hl; exact hl
 rw [hl'] at e1
 cases Option.some.inj e1
 obtain ⟨hx, hR⟩ := hw B1 e3 e2
 obtain ⟨f3, x3, hu, hst1⟩ := put_spec hg hj
 have r1 := e6 w cs1 .junk x (fun _ => False) B1 f3 x3 hitS (.inl ⟨rfl, rfl⟩) rfl e3.tojunk (fun _ h => h.elim) (fun b hb => ⟨.inr hb, id⟩) hu (.inr ⟨rfl, rfl⟩)
 rw [← hst1] at r1
 generalize hL1 : (⟨L.Z, fun t b => if t = g then (L.F g b ∧ ¬ B1 b) ∨ False else L.F t b, fun t => if t = g then csub s0 (L.C g) p cs1 else L.C t, L.D⟩ : Lay) = L1 at r1
 have hL1F : ∀ t n, L1.F t n → L.F t n := by
  intro t n hn
  rw [← hL1] at hn
  simp only at hn
  split at hn
  ·rename_i e; subst e; exact hn.elim (fun q => q.1) False.elim
  ·exact hn
 have hL1Z : L1.Z = L.Z := by rw [← hL1]
 have hg1 : st1.at g = .root k s0 f3 x3 := by
  rw [hst1, St.at_set, if_pos ⟨rfl, by rw [List.length_map]; exact root_lt hg⟩]
 obtain ⟨w1, f4, x4, w2⟩ := upd_other p p hu (below_self p) hOk hl'
 have hP1 : Place L1 st1 w g p s cs1 ad1 := by
  refine ⟨k, s0, f3, x3, hg1, w1, ⟨f4, x4, w2⟩, ?_⟩
  rw [← hL1]
  simp only [if_true]
  rw [csub_self p hsub]
  exact hsub
 have hnF : ∀ n, B1 n → ¬ L1.Z n ∧ ∀ t, ¬ L1.F t n := fun n hn => ⟨(r1.rlt n hn).2, fun t ht => r1.rdj t n ht hn⟩
 have r2 : Rel L1 st1 a w' B1 := r1.extF hx hnF
 have hP2 : Place L1 st1 w' g p s cs1 ad1 := hP1.ext r1 (fun n hn => hx.block n (by
  rcases hn with hn | ⟨t, hn⟩
  ·exact r1.zlt n hn
  ·exact (r1.flt t n hn).1) (fun hB => by
  rcases hn with hn | ⟨t, hn⟩
  ·exact (hnF n hB).1 hn
  ·exact (hnF n hB).2 t hn))
 obtain ⟨f5, x5, d1, B5, d2, d3, d4, d5, d6⟩ := r2.put hg1 hP2
 obtain ⟨f6, x6, hu2, hst2⟩ := put_spec hg1 hput
 have r3 := d6 w' cs1 f' x' B1 Free f6 x6 hitS (.inl ⟨rfl, rfl⟩) rfl (by rw [hL1Z]; exact hR) (fun n hn => .inl hn) (fun n hn => hn.elim) hu2 (.inr ⟨rfl, rfl⟩)
 rw [← hst2] at r3
 refine ⟨_, ?_, r3⟩
 refine ⟨hx.os, hx.tape, hx.output, hx.size, fun n hn hL => hx.block n hn (fun hB => hL g (e2 n hB)), hL1Z, fun t n hn => ?_⟩
 simp only at hn
 split at hn
 ·rcases hn with hn | hn
  ·exact .inl ⟨g, hL1F g n hn.1⟩
  ·exact .inl ⟨g, e2 n hn⟩
 ·exact .inl ⟨t, hL1F t n hn⟩
theorem sub_at {w : World} (r : Path) : ∀ (q : Path) {s : Sh} {cs : List Value} {ad : Option Addr} {f : Fl} {x : s.ty} {s1 : Sh} {f1 : Fl} {x1 : s1.ty} {cs1 : List Value} {ad1 : Option Addr}, get s f x q = some ⟨s1, f1, x1⟩ → sub w s cs ad q = some (cs1, ad1) → sub w s cs ad (q ++ r) = sub w s1 cs1 ad1 r := by
 intro q
 induction q with
 | nil =>
  intro s cs ad f x s1 f1 x1 cs1 ad1 h1 h2
  rw [get_nil] at h1
  rw [sub_nil] at h2
  cases Option.some.inj h1
  cases Option.some.inj h2
  rfl
 | cons t q ih =>
  intro s cs ad f x s1 f1 x1 cs1 ad1 h1 h2
  cases s with
  | pr a b => cases t with
   | l => simp only [get] at h1; simp only [sub] at h2; exact ih h1 h2
   | r => simp only [get] at h1; simp only [sub] at h2; exact ih h1 h2
   | el i => simp [get] at h1
  | sl e s => cases t with
   | l => simp [get] at h1
   | r => simp [get] at h1
   | el i =>
    simp only [sub] at h2
    split at h2
    ·rename_i ad2 n c
     show sub w s _ _ (q ++ r) = _
     cases f with
     | own => exact ih h1 h2
     | ownf => exact ih h1 h2
     | io n c => exact ih h1 h2
     | _ => simp [get] at h1
    ·cases h2
  | _ => cases t <;> simp [get] at h1
section
variable {P : Program} {T : List (Nat × TI)}
/-- a[lo:] of a row of a row of rows, numbers copied into it -/
theorem does2_copy (hT : TabOk P T) {o1 o2 : Oper} {t e e2 : TypeId} {bb nf : Nat} {fs : List (Bool × Sh)} {cm : Bool} {ats : Array TypeId} {st st1 st2 : St} {g j lo rs es ls dr d1 d2 : Nat} {q : Path} {m : List (List Int)} {ys : List Int}
  (ht : tget T t = some ⟨.sl e (.int .i64), false, bb, nf, fs, cm⟩) (e1 : o1.op = .slice t (.tmp es) (some (.tmp ls)) none none) (k1 : o1.dst = some d1) (e2' : o2.op = .call ⟨.builtin .copy, #[.tmp d1, .tmp dr], ats⟩) (e3 : ats = #[t, t]) (k2 : o2.dst = some d2)
  (hr : ref st (.tmp rs) = .h false g q) (he : ref st (.tmp es) = .h false g (q ++ [.el j])) (hl : ref st (.tmp ls) = .v false (.int .i64) (lo : Int)) (hd : ref st (.tmp dr) = .v false (.sl e (.int .i64)) ys)
  (hlook : look st g q = some ⟨.sl e2 (.sl e (.int .i64)), .own, m⟩) (hj : j < m.length) (hy1 : 1 ≤ ys.length) (hy : lo + ys.length ≤ (m.getD j []).length)
  (h1 : put st g q (.sl e2 (.sl e (.int .i64))) .junk m hitS = some st1) (h2 : put st1 g q (.sl e2 (.sl e (.int .i64))) .own (m.set j ((m.getD j []).take lo ++ ys ++ (m.getD j []).drop (lo + ys.length))) hitS = some st2)
  (s1 : st.set d1 .dead = st) (s2 : st2.set d2 .dead = st2) (hn1 : st.at d1 = .dead) (hn2 : st2.at d2 = .dead) (hd12 : dr ≠ d1) (hdl : d1 < st.length) : Does2 P o1 o2 st st2 := by
 intro L a w next Q h hk
 obtain ⟨hu, ti, z, i1, i2, i3, i4, hpos⟩ := (hT t _ ht).sl e (.int .i64) rfl rfl
 have i2 : ti.size = 1 := i2
 have hz : ∀ w, (sizeOf e).run P w = .ok 1 w := fun w => by rw [run_size i1, i2]
 have vr := h.opnd (.tmp rs)
 rw [hr] at vr
 obtain ⟨sq, cs1, ad1, hP, hm1, _⟩ := vr
 obtain rfl := hP.shape hlook
 have hcs1 : cs1 = [a.eval (.tmp rs)] := by simpa [mkV] using hm1
 have ve := h.opnd (.tmp es)
 rw [he] at ve
 obtain ⟨s9, cs9, ad9, hP9, hm9, _⟩ := ve
 have hcs9 : cs9 = [a.eval (.tmp es)] := by simpa [mkV] using hm9
 have vl : a.eval (.tmp ls) = .int .i64 (lo : Int) := by
  have := h.opnd (.tmp ls)
  rw [hl] at this
  exact this.int
 obtain ⟨csd, md, rd⟩ : ∃ cs, mkV false cs (a.eval (.tmp dr)) ∧ Rep w L.Z (.sl e (.int .i64)) .fz ys cs (fun _ => False) := by
  have := h.opnd (.tmp dr)
  rw [hd] at this
  exact this
 obtain rfl : csd = [a.eval (.tmp dr)] := by simpa [mkV] using md
 obtain ⟨k, s0, f0, x0, hg, hOk, hget, hsub⟩ := id hP
 obtain ⟨k', s0', f0', x0', hg', hOk', hget', hsub'⟩ := id hP9
 rw [hg] at hg'
 cases hg'
 have hl' : get s0 f0 x0 q = some ⟨.sl e2 (.sl e (.int .i64)), .own, m⟩ := by unfold look at hlook; rw [hg] at hlook; exact hlook
 rw [sub_at [.el j] q hl' hsub, hcs1, hcs9] at hsub'
 obtain ⟨f1, x1, b1, B1, b2, b3, _⟩ := h.put hg hP
 rw [hl'] at b1
 cases Option.some.inj b1
 have hF : ∀ b, L.F g b → b < w.heap.size := fun b hb => (h.flt g b hb).1
 have el : ∀ B : Nat → Prop, Rep w L.Z (.sl e2 (.sl e (.int .i64))) .own m cs1 B → (∀ b, B b → L.F g b) → ∃ Bi : Nat → Prop, (∀ b, Bi b → B b) ∧ Rep w L.Z (.sl e (.int .i64)) .own (m.getD j []) [a.eval (.tmp es)] Bi ∧
   ∀ (w' : World) (y : List Int), ExtF w w' Bi → Rep w' L.Z (.sl e (.int .i64)) .own y [a.eval (.tmp es)] Bi → Rep w' L.Z (.sl e2 (.sl e (.int .i64))) .own (m.set j y) cs1 B := fun B hB hBF => by
  rw [hcs1] at hB ⊢
  obtain ⟨A, c, u, Bi, u1, u2, u3, u4, u5⟩ := own_el (e := e2) (e2 := e) (s2 := .int .i64) hj (fun b hb => hF b (hBF b hb)) hB
  have hu' : [u] = [a.eval (.tmp es)] := by
   rw [u1] at hsub'
   simp only [sub] at hsub'
   have h9 : rowCells w (A.add (j * (Sh.sl e (.int .i64)).size)) (Sh.sl e (.int .i64)).size = [u] := u2
   rw [h9] at hsub'
   exact (Prod.mk.inj (Option.some.inj hsub')).1
  rw [hu'] at u4 u5
  refine ⟨Bi, u3, u4, fun w' y hx hy => ?_⟩
  have := u5 w' y Bi hx hy (fun b hb => .inl hb) (fun b hb => ⟨h.zlt b hb, fun hB' => (h.flt g b (hBF b hB')).2 hb⟩)
  have hp : (fun b => (B b ∧ ¬ Bi b) ∨ Bi b) = B := by
   funext b
   exact propext ⟨fun q => q.elim (fun q => q.1) (u3 b), fun q => (Classical.em (Bi b)).elim .inr fun k => .inl ⟨q, k⟩⟩
  rw [hp] at this
  exact this
 obtain ⟨Bi, _, v2, _⟩ := el B1 b3 b2
 obtain ⟨A, c, hval, hcap, _⟩ := OwnR.take v2
 have hcap : (m.getD j []).length ≤ c := hcap
 refine ⟨sliced A lo (m.getD j []).length c 1, ?_, ?_⟩
 ·have hlo : lo ≤ (m.getD j []).length := by omega
  generalize (m.getD j []).length = N at *
  simp [execOp, e1, vl, hval, run_slice_gen (P := P) hu hz A N c (some (.int .i64 (lo : Int))) none lo N (.inr ⟨_, rfl⟩) (.inl ⟨rfl, rfl⟩) hlo hcap]
 have r0 := h.setO (d := d1) (v := sliced A lo (m.getD j []).length c 1) (by rw [hn1]; rfl) (pv := .dead) rfl trivial
 rw [s1] at r0
 have hsz : d1 < a.tmps.size := by rw [h.size]; exact hdl
 have y1 : (a.put (some d1) (sliced A lo (m.getD j []).length c 1)).eval (.tmp d1) = sliced A lo (m.getD j []).length c 1 := by
  have := getD_put (t := d1) (v := sliced A lo (m.getD j []).length c 1) hsz
  rw [if_pos rfl] at this
  exact this
 have y2 : (a.put (some d1) (sliced A lo (m.getD j []).length c 1)).eval (.tmp dr) = a.eval (.tmp dr) := by
  have := getD_put (t := dr) (v := sliced A lo (m.getD j []).length c 1) hsz
  rw [if_neg hd12] at this
  exact this
 rw [k1]
 generalize a.put (some d1) (sliced A lo (m.getD j []).length c 1) = a1 at r0 y1 y2 ⊢
 obtain ⟨g1, g2⟩ := run_headFz (P := P) hy1 (Nat.le_refl _) rd
 rw [List.take_length] at g2
 have go : ∀ B : Nat → Prop, Rep w L.Z (.sl e2 (.sl e (.int .i64))) .own m cs1 B → (∀ b, B b → L.F g b) → ∃ w', (Builtin.copy_ ats o2.type #[sliced A lo (m.getD j []).length c 1, a.eval (.tmp dr)]).run P w = .ok (goInt ys.length) w' ∧ ExtF w w' B ∧ Rep w' L.Z (.sl e2 (.sl e (.int .i64))) .own (m.set j ((m.getD j []).take lo ++ ys ++ (m.getD j []).drop (lo + ys.length))) cs1 B := fun B hB hBF => by
  obtain ⟨Bi, w1, w2, w3⟩ := el B hB hBF
  obtain ⟨w', c1, c2, c3, c4⟩ := run_copyInts (P := P) (ats := ats) (ty := o2.type) (ys := ys) (i := lo) hu (by rw [e3]; rfl) i1 i2 w2 hval hy hy1 (by show min ys.length ((m.getD j []).length - lo) = ys.length; omega) g1 g2
  exact ⟨w', c1, ⟨c2.os, c2.tape, c2.output, c2.size, fun b hb hn => c2.block b hb (fun k => hn (w1 b k))⟩, w3 w' _ c2 c4⟩
 obtain ⟨w', c1, c2, c3⟩ := go B1 b3 b2
 have x2 : (execOp a1.eval o2).run P w = .ok (.value (goInt ys.length)) w' := by
  have hb : ∀ cs u v, builtin .copy ats o2.type cs #[u, v] = (do pure (.value (← Builtin.copy_ ats o2.type #[u, v]))) := fun cs u v => rfl
  generalize sliced A lo (m.getD j []).length c 1 = V at y1 c1
  simp [execOp, e2', resolve, invoke, y1, y2, hb, c1]
 obtain ⟨L', z1, z2⟩ := r0.turnP hP hlook h1 h2 (w' := w') fun B hB hBF => by
  obtain ⟨w9, y1, y2, y3⟩ := go B hB hBF
  rw [c1] at y1
  obtain rfl : w' = w9 := by injection y1
  exact ⟨y2, y3⟩
 unfold Oper.wp
 rw [x2, Oper.upon_value, k2]
 have z3 := z2.setO (d := d2) (v := goInt ys.length) (by rw [hn2]; rfl) (pv := .dead) rfl trivial
 rw [s2] at z3
 exact hk L' _ w' z1 z3
end
end Go.Proofs.YtmechjnfeidnkaaGreat.V
end
section
namespace Go.Proofs.YtmechjnfeidnkaaGreat.V.W
open Go Go.RowKit
/-- a row with words laid over it -/
def over (row : List Int) (lo : Nat) (d : List Int) : List Int := row.take lo ++ d ++ row.drop (lo + d.length)
/-- what is stored -/
def storeW (x : Fab) (fr a : Int) (d : List Int) : Fab × Int :=
 if words d = true then
  if (targetOf x fr a d.length).2 = 0 then
   ((x.1, x.2.1, x.2.2.1, x.2.2.2.1.set (targetOf x fr a d.length).1.toNat (over (x.2.2.2.1.getD (targetOf x fr a d.length).1.toNat []) (IntKind.i64.wrap (a - (x.2.2.1.getD (targetOf x fr a d.length).1.toNat zb).2)).toNat d), x.2.2.2.2), 0)
  else (x, (targetOf x fr a d.length).2)
 else (x, 1)
abbrev rFI (p : Fab × Int) : PV := .root (.tup [true, false]) (.pr sFi (.int .i64)) (.pr fFab .fz) p
set_option maxRecDepth 20000 in
set_option maxHeartbeats 4000000 in
theorem storeWords_vc (x : Fab) (fr a : Int) (d : List Int) (hx : FabL x) (hgl : x.2.2.2.2.length ≤ 2000000) (ha : a ≤ 9223372036854775807) (hd : d.length ≤ 2000000) : VC Tryz.prog 17 [.v true sFi x, .v false (.int .i64) (fr), .v false (.int .i64) (a), .v false sI d] (· = rFI (storeW x fr a d)) := by
 refine VC.of_body hT Tryz.func17 rfl (by kernel_rfl) [(.cell 8 32, true, sFi), (.tmp 9, false, .int .i64)] (by kernel_rfl) ?_
 have htv := targetOf_vc x fr a d.length hx
 have hcp := copyFabric_vc x hx hgl
 generalize hr : storeW x fr a d = r
 rw [storeW] at hr
 obtain ⟨t, s, b, m, g⟩ := x
 have hg : ∀ k : Int, targetOf (t, s, b, m, g) fr a d.length = (k, 0) → _ := fun k h => target_good h ha
 generalize targetOf (t, s, b, m, g) fr a d.length = p at *
 obtain ⟨k, c⟩ := p
 show VW _ _ ([.v true sFi (t, s, b, m, g), .v false (.int .i64) (fr), .v false (.int .i64) (a), .v false sI d, D, D, D, D, D, D, D, D, D, D, D, D, D, D, D, D, D, D, D, D, D, D, D, D, D, D, D, D, D, D, D, D, D, D, D, D, D, D, D, D, D, D, D, D]) _
 repeat refine VW.seq ?_
 refine VW.regl hT fun K hK => ?_
 simp only [wq, simprocAttr]
 refine hK _ ?_
 clear hK K
 try refine vthen_n ?_
 repeat refine VW.seq ?_
 refine VW.regl hT fun K hK => ?_
 simp only [wq, simprocAttr]
 refine vcall_of hcp ?_
 simp only [wq, simprocAttr]
 refine hK _ ?_
 clear hK K
 try refine vthen_n ?_
 repeat refine VW.seq ?_
 refine VW.regl hT fun K hK => ?_
 simp only [wq, simprocAttr]
 refine vcall_of (areWords_vc d hd) ?_
 simp only [wq, simprocAttr]
 refine hK _ ?_
 clear hK K
 try refine vthen_n ?_
 repeat refine VW.seq ?_
 refine VW.cond rfl (fun hc => ?_) (fun hc => ?_)
 ·have hc : words d = false := (Bool.not_eq_true' _).mp hc
  repeat refine VW.seq ?_
  refine VW.regl hT fun K hK => ?_
  simp only [wq, simprocAttr]
  refine hK _ ?_
  clear hK K
  try refine vthen_n ?_
  refine VW.ret ⟨.inl rfl, _, rfl, ?_⟩
  rw [← hr, if_neg (by rw [hc]; decide)]
 have hc : words d = true := by
  have := hc
  rwa [Bool.not_eq_false'] at this
 rw [if_pos hc] at hr
 refine VW.skip (vthen_n ?_)
 repeat refine VW.seq ?_
 refine VW.regl hT fun K hK => ?_
 simp only [wq, simprocAttr]
 refine vcall_of htv ?_
 simp only [wq, simprocAttr]
 refine hK _ ?_
 clear hK K
 try refine vthen_n ?_
 repeat refine VW.seq ?_
 refine VW.regl hT fun K hK => ?_
 simp only [wq, simprocAttr]
 refine hK _ ?_
 clear hK K
 try refine vthen_n ?_
 repeat refine VW.seq ?_
 refine VW.cond rfl (fun hc => ?_) (fun hc => ?_)
 case refine_2 =>
  rw [if_neg (by simpa using hc)] at hr
  refine VW.skip ?_
  show vthen _ _ _ .normal _
  refine vthen_n ?_
  repeat refine VW.seq ?_
  refine VW.regl hT fun K hK => ?_
  simp only [wq, simprocAttr]
  refine hK _ ?_
  clear hK K
  try refine vthen_n ?_
  refine VW.ret ⟨.inl rfl, _, rfl, ?_⟩
  rw [← hr]
 have hc : c = 0 := by simpa using hc
 subst hc
 rw [if_pos rfl] at hr
 obtain ⟨j, lo, n, rfl, hdn, h1, h2, h3, h4, h5, h6, hf⟩ := hg k rfl
 obtain rfl : d.length = n := by omega
 have hr : ((t, s, b, m.set ((j : Int)).toNat (over (m.getD ((j : Int)).toNat []) (IntKind.i64.wrap (a - (b.getD ((j : Int)).toNat zb).2)).toNat d), g), (0 : Int)) = r := hr
 rw [Int.toNat_natCast, h3, Int.toNat_natCast] at hr
 have hJ : decide (0 ≤ (j : Int) ∧ (j : Int) < (m.length : Int)) = true := decide_eq_true ⟨Int.natCast_nonneg _, by omega⟩
 have hJb : decide (0 ≤ (j : Int) ∧ (j : Int) < (b.length : Int)) = true := decide_eq_true ⟨Int.natCast_nonneg _, by omega⟩
 repeat refine VW.seq ?_
 refine VW.any hT hm fun K hK W hW => ?_
 apply cutl; intro tK
 apply cutl; intro t65535
 apply cutl; intro t24575
 apply cutl; intro t24559
 apply cutl; intro t20479
 apply cutl; intro t24551
 apply cutl; intro t20463
 apply cutl; intro t18431
 apply cutl; intro t24549
 apply cutl; intro t20455
 apply cutl; intro t18415
 apply cutl; intro t17407
 apply cutl; intro t20453
 apply cutl; intro t18407
 apply cutl; intro t17391
 apply cutl; intro t16895
 apply cutl; intro t18405
 apply cutl; intro t17383
 apply cutl; intro t16879
 apply cutl; intro t16767
 apply cutl; intro t17381
 apply cutl; intro t16871
 apply cutl; intro t16751
 apply cutl; intro t16869
 apply cutl; intro t16743
 ·refine hW.takeF 0 0 1 _ (by kernel_rfl) ?_
  simp only [wy, wq, simprocAttr]
  refine hW.take 1 2 5 _ (by kernel_rfl) ?_
  simp only [wy, wq, simprocAttr]
  refine hW.take 5 5 37 _ (by kernel_rfl) ?_
  simp only [wy, wq, simprocAttr]
  refine hW.takeF 37 6 101 _ (by kernel_rfl) ?_
  simp only [wy, wq, simprocAttr]
  refine hW.take 101 8 357 _ (by kernel_rfl) ?_
  simp only [wy, wq, simprocAttr]
  refine hW.take 357 14 16741 _ (by kernel_rfl) ?_
  simp only [wy, wq, simprocAttr]
  refine hW.all 16741 [(1, 16743), (7, 16869)] _ (by kernel_rfl) (by simp) ?_
  simp only [wy, wq, simprocAttr]
  exact ⟨t16743.h, t16869.h⟩
 ·refine hW.all 16743 [(3, 16751), (7, 16871)] _ (by kernel_rfl) (by simp) ?_
  simp only [wy, wq, simprocAttr]
  exact ⟨⟨hJ, t16751.h⟩, t16871.h⟩
 ·refine hW.all 16869 [(1, 16871), (9, 17381)] _ (by kernel_rfl) (by simp) ?_
  simp only [wy, wq, simprocAttr]
  exact ⟨t16871.h, ⟨hJb, t17381.h⟩⟩
 ·refine hW.all 16751 [(4, 16767), (7, 16879)] _ (by kernel_rfl) (by simp) ?_
  simp only [wy, wq, simprocAttr]
  exact ⟨t16767.h, t16879.h⟩
 ·refine hW.all 16871 [(3, 16879), (9, 17383)] _ (by kernel_rfl) (by simp) ?_
  simp only [wy, wq, simprocAttr]
  exact ⟨⟨hJ, t16879.h⟩, ⟨hJb, t17383.h⟩⟩
 ·refine hW.all 17381 [(1, 17383), (10, 18405)] _ (by kernel_rfl) (by simp) ?_
  simp only [wy, wq, simprocAttr]
  exact ⟨t17383.h, t18405.h⟩
 ·refine hW.all 16767 [(7, 16895)] _ (by kernel_rfl) (by simp) ?_
  simp only [wy, wq, simprocAttr]
  exact t16895.h
 ·refine hW.all 16879 [(4, 16895), (9, 17391)] _ (by kernel_rfl) (by simp) ?_
  simp only [wy, wq, simprocAttr]
  exact ⟨t16895.h, ⟨hJb, t17391.h⟩⟩
 ·refine hW.all 17383 [(3, 17391), (10, 18407)] _ (by kernel_rfl) (by simp) ?_
  simp only [wy, wq, simprocAttr]
  exact ⟨⟨hJ, t17391.h⟩, t18407.h⟩
 ·refine hW.all 18405 [(1, 18407), (11, 20453)] _ (by kernel_rfl) (by simp) ?_
  simp only [wy, wq, simprocAttr]
  exact ⟨t18407.h, t20453.h⟩
 ·refine hW.all 16895 [(9, 17407)] _ (by kernel_rfl) (by simp) ?_
  simp only [wy, wq, simprocAttr]
  exact ⟨hJb, t17407.h⟩
 ·refine hW.all 17391 [(4, 17407), (10, 18415)] _ (by kernel_rfl) (by simp) ?_
  simp only [wy, wq, simprocAttr]
  exact ⟨t17407.h, t18415.h⟩
 ·refine hW.all 18407 [(3, 18415), (11, 20455)] _ (by kernel_rfl) (by simp) ?_
  simp only [wy, wq, simprocAttr]
  exact ⟨⟨hJ, t18415.h⟩, t20455.h⟩
 ·refine hW.all 20453 [(1, 20455), (12, 24549)] _ (by kernel_rfl) (by simp) ?_
  simp only [wy, wq, simprocAttr]
  exact ⟨t20455.h, t24549.h⟩
 ·refine hW.all 17407 [(10, 18431)] _ (by kernel_rfl) (by simp) ?_
  simp only [wy, wq, simprocAttr]
  exact t18431.h
 ·refine hW.all 18415 [(4, 18431), (11, 20463)] _ (by kernel_rfl) (by simp) ?_
  simp only [wy, wq, simprocAttr]
  exact ⟨t18431.h, t20463.h⟩
 ·refine hW.all 20455 [(3, 20463), (12, 24551)] _ (by kernel_rfl) (by simp) ?_
  simp only [wy, wq, simprocAttr]
  exact ⟨⟨hJ, t20463.h⟩, t24551.h⟩
 ·refine hW.all 24549 [(1, 24551)] _ (by kernel_rfl) (by simp) ?_
  simp only [wy, wq, simprocAttr]
  exact t24551.h
 ·refine hW.all 18431 [(11, 20479)] _ (by kernel_rfl) (by simp) ?_
  simp only [wy, wq, simprocAttr]
  exact t20479.h
 ·refine hW.all 20463 [(4, 20479), (12, 24559)] _ (by kernel_rfl) (by simp) ?_
  simp only [wy, wq, simprocAttr]
  exact ⟨t20479.h, t24559.h⟩
 ·refine hW.all 24551 [(3, 24559)] _ (by kernel_rfl) (by simp) ?_
  simp only [wy, wq, simprocAttr]
  exact ⟨hJ, t24559.h⟩
 ·refine hW.all 20479 [(12, 24575)] _ (by kernel_rfl) (by simp) ?_
  simp only [wy, wq, simprocAttr]
  exact t24575.h
 ·refine hW.all 24559 [(4, 24575)] _ (by kernel_rfl) (by simp) ?_
  simp only [wy, wq, simprocAttr]
  exact t24575.h
 ·refine hW.two 24575 13 15 65535 _ ?s2 _ _ rfl rfl rfl rfl (by kernel_rfl) (does2_copy hT (st1 := ?s1) (st2 := ?s2) (g := 10) (j := j) (lo := lo) (rs := 31) (es := 34) (ls := 42) (dr := 44) (d1 := 43) (d2 := 45) (q := [.r, .r, .r, .l]) (m := m) (ys := d) rfl rfl rfl rfl rfl rfl rfl rfl ?hl rfl rfl h1 h4 h5 ?h1 ?h2 rfl ?hs rfl ?hn (by decide) (Nat.le_of_ble_eq_true rfl)) ?hk
  case hl =>
   show PV.v false (.int .i64) (IntKind.i64.wrap (a - (b.getD j zb).2)) = _
   rw [h3]
  case h1 =>
   simp only [wq, simprocAttr]
   rfl
  case h2 =>
   simp only [wq, simprocAttr]
   rfl
  case hs => rfl
  case hn => rfl
  exact t65535.h
 ·refine hW.done 65535 _ (by kernel_rfl) ?_
  exact tK.h
 refine hK _ ?_
 clear hW W hK K
 show vthen _ _ _ .normal _
 refine vthen_n ?_
 repeat refine VW.seq ?_
 refine VW.regl hT fun K hK => ?_
 simp only [wq, simprocAttr]
 refine hK _ ?_
 clear hK K
 try refine vthen_n ?_
 refine VW.ret ⟨.inl rfl, _, rfl, ?_⟩
 rw [← hr]
 rfl
end Go.Proofs.YtmechjnfeidnkaaGreat.V.W
end
section
namespace Go.Proofs.YtmechjnfeidnkaaGreat.V.W
open Go Go.RowKit
end Go.Proofs.YtmechjnfeidnkaaGreat.V.W
end
section
namespace Go.Proofs.YtmechjnfeidnkaaGreat.V.W
open Go Go.RowKit
theorem over_len {row d : List Int} {lo : Nat} (h : lo + d.length ≤ row.length) : (over row lo d).length = row.length := by
 simp only [over, List.length_append, List.length_take, List.length_drop]; omega
end Go.Proofs.YtmechjnfeidnkaaGreat.V.W
end
section
namespace Go.Proofs.YtmechjnfeidnkaaGreat.V.W
open Go Go.RowKit
/-- a guard with a node set -/
def setG (t : List Nd) (g : List Bool) (k : Int) (o : Bool) : List Bool × Bool := if (guardOk t g && (inB k 1 (t.length - 1) && !(g.getD k.toNat false == o))) = true then (g.set k.toNat o, true) else (g, false)
theorem setG_len (t : List Nd) (g : List Bool) (k : Int) (o : Bool) : (setG t g k o).1.length = g.length := by
 rw [setG]
 split
 ·exact List.length_set
 ·rfl
theorem guard_len {t : List Nd} {g : List Bool} (h : guardOk t g = true) : g.length = t.length ∧ treeOk t = true := by
 rw [guardOk, Bool.and_eq_true, Bool.and_eq_true] at h
 exact ⟨eq_of_beq h.2.1, h.1⟩
abbrev rG (p : List Bool × Bool) : PV := .root (.tup [true, false]) (.pr sG .bool) (.pr .own .fz) p
set_option maxRecDepth 20000 in
set_option maxHeartbeats 1000000 in
theorem setNode_vc (t : List Nd) (g : List Bool) (k : Int) (o : Bool) (hl : t.length ≤ 2000000) (hg : g.length ≤ 2000000) : VC Tryz.prog 142 [.v false sNS t, .v true sG g, .v false (.int .i64) (k), .v false .bool (o)] (· = rG (setG t g k o)) := by
 refine VC.of_body hT Tryz.func142 rfl (by kernel_rfl) [(.cell 8 30, true, sG), (.tmp 9, false, .bool)] (by kernel_rfl) ?_
 generalize hr : setG t g k o = r
 rw [setG] at hr
 show VW _ _ ([.v false sNS t, .v true sG g, .v false (.int .i64) (k), .v false .bool (o), D, D, D, D, D, D, D, D, D, D, D, D, D, D, D, D, D, D, D, D, D, D, D, D, D, D, D, D, D, D, D, D, D, D, D, D, D, D, D]) _
 repeat refine VW.seq ?_
 refine VW.regl hT fun K hK => ?_
 simp only [wq, simprocAttr]
 refine hK _ ?_
 clear hK K
 try refine vthen_n ?_
 repeat refine VW.seq ?_
 refine VW.regl hT fun K hK => ?_
 simp only [wq, simprocAttr]
 refine vcall_of (cloneBo_vc g hg) ?_
 simp only [wq, simprocAttr]
 refine hK _ ?_
 clear hK K
 try refine vthen_n ?_
 repeat refine VW.seq ?_
 refine VW.regl hT fun K hK => ?_
 simp only [wq, simprocAttr]
 refine vcall_of (guardOk_vc t g hl) ?_
 simp only [wq, simprocAttr]
 refine vbr (fun h => ?_) (fun h => ?_) <;> simp only [wq, simprocAttr]
 case refine_2 =>
  have h : guardOk t g = false := (Bool.not_eq_true' _).mp h
  refine hK _ ?_
  clear hK K
  try refine vthen_n ?_
  repeat refine VW.seq ?_
  refine VW.cond rfl (fun hc => ?_) (fun hc => ?_)
  ·repeat refine VW.seq ?_
   refine VW.regl hT fun K hK => ?_
   simp only [wq, simprocAttr]
   refine hK _ ?_
   clear hK K
   try refine vthen_n ?_
   refine VW.ret ⟨.inl rfl, _, rfl, ?_⟩
   rw [← hr, if_neg (by rw [h]; simp)]
  ·cases hc
 have hgo : guardOk t g = true := by
  have := h
  rwa [Bool.not_eq_false'] at this
 obtain ⟨hgl, hok⟩ := guard_len hgo
 have htl := treeOk_len hok
 rw [wrap64 (by omega) (by omega)]
 refine vcall_of (within_vc k 1 (t.length - 1)) ?_
 simp only [wq, simprocAttr]
 refine vbr (fun h => ?_) (fun h => ?_) <;> simp only [wq, simprocAttr]
 case refine_2 =>
  have h : inB k 1 (t.length - 1) = false := (Bool.not_eq_true' _).mp h
  refine hK _ ?_
  clear hK K
  try refine vthen_n ?_
  repeat refine VW.seq ?_
  refine VW.cond rfl (fun hc => ?_) (fun hc => ?_)
  ·repeat refine VW.seq ?_
   refine VW.regl hT fun K hK => ?_
   simp only [wq, simprocAttr]
   refine hK _ ?_
   clear hK K
   try refine vthen_n ?_
   refine VW.ret ⟨.inl rfl, _, rfl, ?_⟩
   rw [← hr, if_neg (by rw [h]; simp)]
  ·cases hc
 have hin : inB k 1 (t.length - 1) = true := by
  have := h
  rwa [Bool.not_eq_false'] at this
 have hk := inB_iff.1 hin
 have hkg : decide (0 ≤ k ∧ k < (g.length : Int)) = true := decide_eq_true ⟨by omega, by omega⟩
 refine ⟨hkg, ?_⟩
 refine hK _ ?_
 clear hK K
 try refine vthen_n ?_
 repeat refine VW.seq ?_
 refine VW.cond rfl (fun hc => ?_) (fun hc => ?_)
 ·have hc : (g.getD k.toNat false == o) = true := hc
  repeat refine VW.seq ?_
  refine VW.regl hT fun K hK => ?_
  simp only [wq, simprocAttr]
  refine hK _ ?_
  clear hK K
  try refine vthen_n ?_
  refine VW.ret ⟨.inl rfl, _, rfl, ?_⟩
  rw [← hr, if_neg (by rw [hc]; simp)]
 have hc : (g.getD k.toNat false == o) = false := hc
 refine VW.skip (vthen_n ?_)
 repeat refine VW.seq ?_
 refine VW.regl hT fun K hK => ?_
 simp only [wq, simprocAttr]
 refine ⟨hkg, ?_⟩
 refine hK _ ?_
 clear hK K
 try refine vthen_n ?_
 repeat refine VW.seq ?_
 refine VW.regl hT fun K hK => ?_
 simp only [wq, simprocAttr]
 refine hK _ ?_
 clear hK K
 try refine vthen_n ?_
 refine VW.ret ⟨.inl rfl, _, rfl, ?_⟩
 rw [← hr, if_pos (by rw [hgo, hin, hc]; rfl)]
theorem cutNode_vc (t : List Nd) (g : List Bool) (k : Int) (hl : t.length ≤ 2000000) (hg : g.length ≤ 2000000) : VC Tryz.prog 102 [.v false sNS t, .v true sG g, .v false (.int .i64) (k)] (· = rG (setG t g k false)) := by
 refine VC.of_body hT Tryz.func102 rfl (by kernel_rfl) [(.cell 6 30, true, sG), (.tmp 7, false, .bool)] (by kernel_rfl) ?_
 show VW _ _ ([.v false sNS t, .v true sG g, .v false (.int .i64) (k), D, D, D, D, D, D, D, D, D, D, D]) _
 repeat refine VW.seq ?_
 refine VW.regl hT fun K hK => ?_
 simp only [wq, simprocAttr]
 refine hK _ ?_
 clear hK K
 try refine vthen_n ?_
 repeat refine VW.seq ?_
 refine VW.regl hT fun K hK => ?_
 simp only [wq, simprocAttr]
 refine vcall_of (setNode_vc t g k false hl hg) ?_
 simp only [wq, simprocAttr]
 refine hK _ ?_
 clear hK K
 try refine vthen_n ?_
 exact VW.ret ⟨.inl rfl, _, rfl, rfl⟩
theorem openNode_vc (t : List Nd) (g : List Bool) (k : Int) (hl : t.length ≤ 2000000) (hg : g.length ≤ 2000000) : VC Tryz.prog 103 [.v false sNS t, .v true sG g, .v false (.int .i64) (k)] (· = rG (setG t g k true)) := by
 refine VC.of_body hT Tryz.func103 rfl (by kernel_rfl) [(.cell 6 30, true, sG), (.tmp 7, false, .bool)] (by kernel_rfl) ?_
 show VW _ _ ([.v false sNS t, .v true sG g, .v false (.int .i64) (k), D, D, D, D, D, D, D, D, D, D, D]) _
 repeat refine VW.seq ?_
 refine VW.regl hT fun K hK => ?_
 simp only [wq, simprocAttr]
 refine hK _ ?_
 clear hK K
 try refine vthen_n ?_
 repeat refine VW.seq ?_
 refine VW.regl hT fun K hK => ?_
 simp only [wq, simprocAttr]
 refine vcall_of (setNode_vc t g k true hl hg) ?_
 simp only [wq, simprocAttr]
 refine hK _ ?_
 clear hK K
 try refine vthen_n ?_
 exact VW.ret ⟨.inl rfl, _, rfl, rfl⟩
theorem one_vc (b : Bool) : VC Tryz.prog 104 [.v false .bool (b)] (· = .v false (.int .i64) (if b = true then 1 else 0)) := by
 refine VC.of_body hT Tryz.func104 rfl (by kernel_rfl) [(.tmp 2, false, .int .i64)] (by kernel_rfl) ?_
 show VW _ _ ([.v false .bool (b), D, D, D]) _
 repeat refine VW.seq ?_
 refine VW.regl hT fun K hK => ?_
 simp only [wq, simprocAttr]
 refine hK _ ?_
 clear hK K
 try refine vthen_n ?_
 repeat refine VW.seq ?_
 refine VW.regl hT fun K hK => ?_
 simp only [wq, simprocAttr]
 refine hK _ ?_
 clear hK K
 try refine vthen_n ?_
 repeat refine VW.seq ?_
 refine VW.cond rfl (fun hc => ?_) (fun hc => ?_)
 ·have hc : b = true := hc
  subst hc
  repeat refine VW.seq ?_
  refine VW.regl hT fun K hK => ?_
  simp only [wq, simprocAttr]
  refine hK _ ?_
  clear hK K
  try refine vthen_n ?_
  exact VW.ret ⟨.inl rfl, _, rfl, rfl⟩
 have hc : b = false := hc
 subst hc
 refine VW.skip (vthen_n ?_)
 repeat refine VW.seq ?_
 refine VW.regl hT fun K hK => ?_
 simp only [wq, simprocAttr]
 refine hK _ ?_
 clear hK K
 try refine vthen_n ?_
 exact VW.ret ⟨.inl rfl, _, rfl, rfl⟩
abbrev sAct : Sh := .pr (.int .i64) (.pr (.int .i64) (.pr (.int .i64) (.int .i64)))
abbrev Ac : Type := Int × Int × Int × Int
/-- an act that may be -/
def actOk (a : Ac) : Bool := inB a.2.1 0 11 && (if a.1 = 1 then inB a.2.2.1 0 65535 && inB a.2.2.2 0 65535 else if a.1 = 2 then inB a.2.2.1 0 65535 && a.2.2.2 == 0 else if a.1 = 3 ∨ a.1 = 4 then a.2.2.1 == 0 && a.2.2.2 == 0 else false)
set_option maxRecDepth 20000 in
set_option maxHeartbeats 1000000 in
theorem actOk_vc (a : Ac) : VC Tryz.prog 101 [.v true sAct a] (· = .v false .bool (actOk a)) := by
 refine VC.of_body hT Tryz.func101 rfl (by kernel_rfl) [(.tmp 2, false, .bool)] (by kernel_rfl) ?_
 generalize hr : actOk a = r
 obtain ⟨kd, nd, x, y⟩ := a
 have hr : (inB nd 0 11 && (if kd = 1 then inB x 0 65535 && inB y 0 65535 else if kd = 2 then inB x 0 65535 && y == 0 else if kd = 3 ∨ kd = 4 then x == 0 && y == 0 else false)) = r := hr
 show VW _ _ ([.v true sAct (kd, nd, x, y), D, D, D, D, D, D, D, D, D, D, D, D, D, D, D, D, D, D, D, D, D, D, D, D, D, D, D, D, D, D, D, D, D, D, D, D, D, D, D]) _
 repeat refine VW.seq ?_
 refine VW.regl hT fun K hK => ?_
 simp only [wq, simprocAttr]
 refine hK _ ?_
 clear hK K
 try refine vthen_n ?_
 repeat refine VW.seq ?_
 refine VW.regl hT fun K hK => ?_
 simp only [wq, simprocAttr]
 refine vcall_of (within_vc nd 0 11) ?_
 simp only [wq, simprocAttr]
 refine hK _ ?_
 clear hK K
 try refine vthen_n ?_
 repeat refine VW.seq ?_
 refine VW.cond rfl (fun hc => ?_) (fun hc => ?_)
 ·have hc : inB nd 0 11 = false := (Bool.not_eq_true' _).mp hc
  repeat refine VW.seq ?_
  refine VW.regl hT fun K hK => ?_
  simp only [wq, simprocAttr]
  refine hK _ ?_
  clear hK K
  try refine vthen_n ?_
  refine VW.ret ⟨.inl rfl, _, rfl, ?_⟩
  rw [← hr, hc, Bool.false_and]
 have hc : inB nd 0 11 = true := by
  have := hc
  rwa [Bool.not_eq_false'] at this
 rw [hc, Bool.true_and] at hr
 refine VW.skip (vthen_n ?_)
 repeat refine VW.seq ?_
 refine VW.regl hT fun K hK => ?_
 simp only [wq, simprocAttr]
 refine hK _ ?_
 clear hK K
 try refine vthen_n ?_
 repeat refine VW.seq ?_
 refine VW.block ?_
 repeat refine VW.seq ?_
 refine VW.regl hT fun K hK => ?_
 simp only [wq, simprocAttr]
 refine hK _ ?_
 clear hK K
 try refine vthen_n ?_
 repeat refine VW.seq ?_
 refine VW.cond rfl (fun hc => ?_) (fun hc => ?_)
 ·have hc : kd = 1 := eq_of_beq hc
  rw [if_pos hc] at hr
  repeat refine VW.seq ?_
  refine VW.regl hT fun K hK => ?_
  simp only [wq, simprocAttr]
  refine vcall_of (within_vc x 0 65535) ?_
  simp only [wq, simprocAttr]
  refine vbr (fun h => ?_) (fun h => ?_) <;> simp only [wq, simprocAttr]
  ·have h : inB x 0 65535 = true := h
   refine vcall_of (isWord_vc y) ?_
   simp only [wq, simprocAttr]
   refine hK _ ?_
   clear hK K
   try refine vthen_n ?_
   refine VW.ret ⟨.inl rfl, _, rfl, ?_⟩
   rw [← hr, h, Bool.true_and]
  ·have h : inB x 0 65535 = false := h
   refine hK _ ?_
   clear hK K
   try refine vthen_n ?_
   refine VW.ret ⟨.inl rfl, _, rfl, ?_⟩
   rw [← hr, h, Bool.false_and]
 have hc : ¬ kd = 1 := fun e => by rw [e] at hc; cases hc
 rw [if_neg hc] at hr
 repeat refine VW.seq ?_
 refine VW.regl hT fun K hK => ?_
 simp only [wq, simprocAttr]
 refine hK _ ?_
 clear hK K
 try refine vthen_n ?_
 repeat refine VW.seq ?_
 refine VW.cond rfl (fun hc => ?_) (fun hc => ?_)
 ·have hc : kd = 2 := eq_of_beq hc
  rw [if_pos hc] at hr
  repeat refine VW.seq ?_
  refine VW.regl hT fun K hK => ?_
  simp only [wq, simprocAttr]
  refine vcall_of (within_vc x 0 65535) ?_
  simp only [wq, simprocAttr]
  refine vbr (fun h => ?_) (fun h => ?_) <;> simp only [wq, simprocAttr]
  ·have h : inB x 0 65535 = true := h
   refine hK _ ?_
   clear hK K
   try refine vthen_n ?_
   refine VW.ret ⟨.inl rfl, _, rfl, ?_⟩
   rw [← hr, h, Bool.true_and]
  ·have h : inB x 0 65535 = false := h
   refine hK _ ?_
   clear hK K
   try refine vthen_n ?_
   refine VW.ret ⟨.inl rfl, _, rfl, ?_⟩
   rw [← hr, h, Bool.false_and]
 have hc : ¬ kd = 2 := fun e => by rw [e] at hc; cases hc
 rw [if_neg hc] at hr
 repeat refine VW.seq ?_
 refine VW.regl hT fun K hK => ?_
 simp only [wq, simprocAttr]
 refine hK _ ?_
 clear hK K
 try refine vthen_n ?_
 repeat refine VW.seq ?_
 refine VW.cond rfl (fun hc => ?_) (fun hc => ?_)
 ·have e3 : kd = 3 := eq_of_beq hc
  refine VW.skip (vthen_n ?_)
  repeat refine VW.seq ?_
  refine VW.cond rfl (fun hc => ?_) (fun hc => ?_)
  ·skip
   rw [if_pos (by omega)] at hr
   repeat refine VW.seq ?_
   refine VW.regl hT fun K hK => ?_
   simp only [wq, simprocAttr]
   refine vbr (fun h => ?_) (fun h => ?_) <;> simp only [wq, simprocAttr]
   ·have h : (x == 0) = true := h
    refine hK _ ?_
    clear hK K
    try refine vthen_n ?_
    refine VW.ret ⟨.inl rfl, _, rfl, ?_⟩
    rw [← hr, h, Bool.true_and]
   ·have h : (x == 0) = false := h
    refine hK _ ?_
    clear hK K
    try refine vthen_n ?_
    refine VW.ret ⟨.inl rfl, _, rfl, ?_⟩
    rw [← hr, h, Bool.false_and]
  exact absurd hc (by rw [e3]; decide)
 have h3 : ¬ kd = 3 := fun e => by rw [e] at hc; cases hc
 repeat refine VW.seq ?_
 refine VW.regl hT fun K hK => ?_
 simp only [wq, simprocAttr]
 refine hK _ ?_
 clear hK K
 try refine vthen_n ?_
 repeat refine VW.seq ?_
 refine VW.cond rfl (fun hc => ?_) (fun hc => ?_)
 ·have hc : kd = 4 := eq_of_beq hc
  rw [if_pos (by omega)] at hr
  repeat refine VW.seq ?_
  refine VW.regl hT fun K hK => ?_
  simp only [wq, simprocAttr]
  refine vbr (fun h => ?_) (fun h => ?_) <;> simp only [wq, simprocAttr]
  ·have h : (x == 0) = true := h
   refine hK _ ?_
   clear hK K
   try refine vthen_n ?_
   refine VW.ret ⟨.inl rfl, _, rfl, ?_⟩
   rw [← hr, h, Bool.true_and]
  ·have h : (x == 0) = false := h
   refine hK _ ?_
   clear hK K
   try refine vthen_n ?_
   refine VW.ret ⟨.inl rfl, _, rfl, ?_⟩
   rw [← hr, h, Bool.false_and]
 have h4 : ¬ kd = 4 := fun e => by rw [e] at hc; cases hc
 rw [if_neg (by omega)] at hr
 refine VW.skip ?_
 show vthen _ _ _ .normal _
 refine vthen_n ?_
 repeat refine VW.seq ?_
 refine VW.regl hT fun K hK => ?_
 simp only [wq, simprocAttr]
 refine hK _ ?_
 clear hK K
 try refine vthen_n ?_
 refine VW.ret ⟨.inl rfl, _, rfl, ?_⟩
 rw [← hr]
end Go.Proofs.YtmechjnfeidnkaaGreat.V.W
end
section
namespace Go.Proofs.YtmechjnfeidnkaaGreat.V.W
open Go Go.RowKit
/-- an act done -/
def doAct (x : Fab) (a : Ac) : Fab × Int :=
 if (fabOk x && actOk a) = true then
  if a.1 = 1 then storeW x a.2.1 a.2.2.1 [a.2.2.2]
  else if a.1 = 2 then (x, if (loadW x a.2.1 a.2.2.1 1).2 = 0 then (loadW x a.2.1 a.2.2.1 1).1.getD 0 0 else IntKind.i64.wrap (0 - (loadW x a.2.1 a.2.2.1 1).2))
  else ((x.1, x.2.1, x.2.2.1, x.2.2.2.1, (setG x.1 x.2.2.2.2 a.2.1 (a.1 == 4)).1), if (setG x.1 x.2.2.2.2 a.2.1 (a.1 == 4)).2 = true then 1 else 0)
 else (x, -9)
theorem act_addr {a : Ac} (h : actOk a = true) : a.2.2.1 ≤ 65535 := by
 rw [actOk, Bool.and_eq_true] at h
 have h := h.2
 split at h
 ·rw [Bool.and_eq_true] at h
  exact (inB_iff.1 h.1).2
 ·split at h
  ·rw [Bool.and_eq_true] at h
   exact (inB_iff.1 h.1).2
  ·split at h
   ·rw [Bool.and_eq_true] at h
    have := eq_of_beq h.1
    omega
   ·cases h
theorem act_kind {a : Ac} (h : actOk a = true) (h1 : ¬ a.1 = 1) (h2 : ¬ a.1 = 2) : a.1 = 3 ∨ a.1 = 4 := by
 rw [actOk, Bool.and_eq_true] at h
 have h := h.2
 rw [if_neg h1, if_neg h2] at h
 split at h
 ·assumption
 ·cases h
theorem loadW_one (x : Fab) (fr a : Int) (ha : a ≤ 9223372036854775807) (h : (loadW x fr a 1).2 = 0) : (loadW x fr a 1).1.length = 1 := by
 by_cases h0 : (targetOf x fr a 1).2 = 0
 case neg =>
  rw [loadW, if_neg h0] at h
  exact absurd h h0
 rw [loadW, if_pos h0]
 obtain ⟨t, s, b, m, g⟩ := x
 obtain ⟨j, lo, n, e0, h1, h2, h3, h4, h5, h6, h7, h8⟩ := target_good (t := t) (s := s) (b := b) (m := m) (g := g) (fr := fr) (a := a) (l := 1) (k := (targetOf (t, s, b, m, g) fr a 1).1) (Prod.ext rfl h0) ha
 rw [e0, Int.toNat_natCast]
 have h4 : (IntKind.i64.wrap (a - (b.getD j zb).2)).toNat = lo := by rw [h4, Int.toNat_natCast]
 show (List.take 1 (List.drop (IntKind.i64.wrap (a - (b.getD j zb).2)).toNat (m.getD j []))).length = 1
 rw [h4, List.length_take, List.length_drop]
 omega
set_option maxRecDepth 20000 in
set_option maxHeartbeats 4000000 in
theorem doAct_vc (x : Fab) (a : Ac) (hx : FabL x) (hgl : x.2.2.2.2.length ≤ 2000000) : VC Tryz.prog 46 [.v true sFi x, .v true sAct a] (· = rFI (doAct x a)) := by
 refine VC.of_body hT Tryz.func46 rfl (by kernel_rfl) [(.cell 4 32, true, sFi), (.tmp 5, false, .int .i64)] (by kernel_rfl) ?_
 have hcp := copyFabric_vc x hx hgl
 have hfo := fabricOk_vc x hx
 have hao := actOk_vc a
 have haddr := fun h : actOk a = true => act_addr h
 have hkind := fun h : actOk a = true => act_kind h
 generalize hr : doAct x a = r
 rw [doAct] at hr
 have hld := fun h : actOk a = true => loadWords_vc x a.2.1 a.2.2.1 1 hx (by have := haddr h; omega)
 have hlo := fun h : actOk a = true => loadW_one x a.2.1 a.2.2.1 (by have := haddr h; omega)
 have hst := fun h : actOk a = true => storeWords_vc x a.2.1 a.2.2.1 [a.2.2.2] hx hgl (by have := haddr h; omega) (by simp)
 obtain ⟨t, s, b, m, g⟩ := x
 obtain ⟨kd, nd, ax, ay⟩ := a
 have hlt : t.length ≤ 2000000 := hx.a
 have hgl : g.length ≤ 2000000 := hgl
 show VW _ _ ([.v true sFi (t, s, b, m, g), .v true sAct (kd, nd, ax, ay), D, D, D, D, D, D, D, D, D, D, D, D, D, D, D, D, D, D, D, D, D, D, D, D, D, D, D, D, D, D, D, D, D, D, D, D, D, D, D, D, D, D, D, D, D, D, D, D, D, D, D, D, D, D, D, D, D, D, D, D, D, D, D, D, D, D, D, D, D, D, D, D, D, D, D, D, D, D, D, D, D]) _
 repeat refine VW.seq ?_
 refine VW.regl hT fun K hK => ?_
 simp only [wq, simprocAttr]
 refine hK _ ?_
 clear hK K
 try refine vthen_n ?_
 repeat refine VW.seq ?_
 refine VW.regl hT fun K hK => ?_
 simp only [wq, simprocAttr]
 refine vcall_of hcp ?_
 simp only [wq, simprocAttr]
 refine hK _ ?_
 clear hK K
 try refine vthen_n ?_
 repeat refine VW.seq ?_
 refine VW.regl hT fun K hK => ?_
 simp only [wq, simprocAttr]
 refine vcall_of hfo ?_
 simp only [wq, simprocAttr]
 refine vbr (fun h => ?_) (fun h => ?_) <;> simp only [wq, simprocAttr]
 case refine_2 =>
  have h : fabOk (t, s, b, m, g) = false := (Bool.not_eq_true' _).mp h
  refine hK _ ?_
  clear hK K
  try refine vthen_n ?_
  repeat refine VW.seq ?_
  refine VW.cond rfl (fun hc => ?_) (fun hc => ?_)
  ·repeat refine VW.seq ?_
   refine VW.regl hT fun K hK => ?_
   simp only [wq, simprocAttr]
   refine hK _ ?_
   clear hK K
   try refine vthen_n ?_
   refine VW.ret ⟨.inl rfl, _, rfl, ?_⟩
   rw [← hr, if_neg (by rw [h]; simp)]
   try rfl
  ·cases hc
 have hf : fabOk (t, s, b, m, g) = true := by
  have := h
  rwa [Bool.not_eq_false'] at this
 refine vcall_of hao ?_
 simp only [wq, simprocAttr]
 refine hK _ ?_
 clear hK K
 try refine vthen_n ?_
 repeat refine VW.seq ?_
 refine VW.cond rfl (fun hc => ?_) (fun hc => ?_)
 ·have hc : actOk (kd, nd, ax, ay) = false := (Bool.not_eq_true' _).mp hc
  repeat refine VW.seq ?_
  refine VW.regl hT fun K hK => ?_
  simp only [wq, simprocAttr]
  refine hK _ ?_
  clear hK K
  try refine vthen_n ?_
  refine VW.ret ⟨.inl rfl, _, rfl, ?_⟩
  rw [← hr, if_neg (by rw [hc]; simp)]
  try rfl
 have ha : actOk (kd, nd, ax, ay) = true := by
  have := hc
  rwa [Bool.not_eq_false'] at this
 have hld := hld ha
 have hlo := hlo ha
 have hst := hst ha
 have hkind : ¬ kd = 1 → ¬ kd = 2 → kd = 3 ∨ kd = 4 := hkind ha
 rw [if_pos (by rw [hf, ha]; rfl)] at hr
 have hr : (if kd = 1 then storeW (t, s, b, m, g) nd ax [ay] else if kd = 2 then ((t, s, b, m, g), if (loadW (t, s, b, m, g) nd ax 1).2 = 0 then (loadW (t, s, b, m, g) nd ax 1).1.getD 0 0 else IntKind.i64.wrap (0 - (loadW (t, s, b, m, g) nd ax 1).2)) else ((t, s, b, m, (setG t g nd (kd == 4)).1), if (setG t g nd (kd == 4)).2 = true then 1 else 0)) = r := hr
 have hld : VC Tryz.prog 21 [.v true sFi (t, s, b, m, g), .v false (.int .i64) (nd), .v false (.int .i64) (ax), .v false (.int .i64) (1)] (· = rIW (loadW (t, s, b, m, g) nd ax 1)) := hld
 have hlo : (loadW (t, s, b, m, g) nd ax 1).2 = 0 → (loadW (t, s, b, m, g) nd ax 1).1.length = 1 := hlo
 have hst : VC Tryz.prog 17 [.v true sFi (t, s, b, m, g), .v false (.int .i64) (nd), .v false (.int .i64) (ax), .v false sI [ay]] (· = rFI (storeW (t, s, b, m, g) nd ax [ay])) := hst
 clear hcp hfo hao haddr
 refine VW.skip (vthen_n ?_)
 repeat refine VW.seq ?_
 refine VW.regl hT fun K hK => ?_
 simp only [wq, simprocAttr]
 refine hK _ ?_
 clear hK K
 try refine vthen_n ?_
 repeat refine VW.seq ?_
 refine VW.regl hT fun K hK => ?_
 simp only [wq, simprocAttr]
 refine hK _ ?_
 clear hK K
 try refine vthen_n ?_
 repeat refine VW.seq ?_
 refine VW.block ?_
 repeat refine VW.seq ?_
 refine VW.regl hT fun K hK => ?_
 simp only [wq, simprocAttr]
 refine hK _ ?_
 clear hK K
 try refine vthen_n ?_
 repeat refine VW.seq ?_
 refine VW.cond rfl (fun hc => ?_) (fun hc => ?_)
 ·have hc : kd = 1 := eq_of_beq hc
  rw [if_pos hc] at hr
  repeat refine VW.seq ?_
  refine VW.regl hT fun K hK => ?_
  simp only [wq, simprocAttr]
  refine vcall_of hst ?_
  simp only [wq, simprocAttr]
  refine hK _ ?_
  clear hK K
  try refine vthen_n ?_
  refine VW.ret ⟨.inl rfl, _, rfl, ?_⟩
  rw [← hr]
 have h1 : ¬ kd = 1 := fun e => by rw [e] at hc; cases hc
 rw [if_neg h1] at hr
 repeat refine VW.seq ?_
 refine VW.regl hT fun K hK => ?_
 simp only [wq, simprocAttr]
 refine hK _ ?_
 clear hK K
 try refine vthen_n ?_
 repeat refine VW.seq ?_
 refine VW.cond rfl (fun hc => ?_) (fun hc => ?_)
 ·have hc : kd = 2 := eq_of_beq hc
  rw [if_pos hc] at hr
  generalize loadW (t, s, b, m, g) nd ax 1 = q at *
  obtain ⟨ws, c⟩ := q
  repeat refine VW.seq ?_
  refine VW.regl hT fun K hK => ?_
  simp only [wq, simprocAttr]
  refine vcall_of hld ?_
  simp only [wq, simprocAttr]
  refine hK _ ?_
  clear hK K
  try refine vthen_n ?_
  repeat refine VW.seq ?_
  refine VW.regl hT fun K hK => ?_
  simp only [wq, simprocAttr]
  refine hK _ ?_
  clear hK K
  try refine vthen_n ?_
  repeat refine VW.seq ?_
  refine VW.cond rfl (fun hc => ?_) (fun hc => ?_)
  ·repeat refine VW.seq ?_
   refine VW.regl hT fun K hK => ?_
   simp only [wq, simprocAttr]
   refine hK _ ?_
   clear hK K
   try refine vthen_n ?_
   refine VW.ret ⟨.inl rfl, _, rfl, ?_⟩
   rw [← hr, if_neg (by simpa using hc)]
   try rfl
  ·have hc : c = 0 := by simpa using hc
   subst hc
   have hl1 : ws.length = 1 := hlo rfl
   have hr : ((t, s, b, m, g), ws.getD 0 0) = r := hr
   have hW1 : decide ((0 : Int) < (ws.length : Int)) = true := decide_eq_true (by omega)
   refine VW.skip (vthen_n ?_)
   repeat refine VW.seq ?_
   refine VW.any hT hm fun K hK W hW => ?_
   apply cutl; intro tK
   apply cutl; intro t63
   apply cutl; intro t31
   apply cutl; intro t15
   apply cutl; intro t23
   apply cutl; intro t14
   apply cutl; intro t7
   apply cutl; intro t19
   apply cutl; intro t6
   apply cutl; intro t3
   ·refine hW.take 0 1 2 _ (by kernel_rfl) ?_
    simp only [wy, wq, simprocAttr]
    refine hW.all 2 [(0, 3), (2, 6)] _ (by kernel_rfl) (by simp) ?_
    simp only [wy, wq, simprocAttr]
    exact ⟨t3.h, ⟨hW1, t6.h⟩⟩
   ·refine hW.all 3 [(2, 7), (4, 19)] _ (by kernel_rfl) (by simp) ?_
    simp only [wy, wq, simprocAttr]
    exact ⟨⟨hW1, t7.h⟩, t19.h⟩
   ·refine hW.all 6 [(0, 7), (3, 14)] _ (by kernel_rfl) (by simp) ?_
    simp only [wy, wq, simprocAttr]
    exact ⟨t7.h, t14.h⟩
   ·refine hW.all 19 [(2, 23)] _ (by kernel_rfl) (by simp) ?_
    simp only [wy, wq, simprocAttr]
    exact ⟨hW1, t23.h⟩
   ·refine hW.all 7 [(3, 15), (4, 23)] _ (by kernel_rfl) (by simp) ?_
    simp only [wy, wq, simprocAttr]
    exact ⟨t15.h, t23.h⟩
   ·refine hW.all 14 [(0, 15)] _ (by kernel_rfl) (by simp) ?_
    simp only [wy, wq, simprocAttr]
    exact t15.h
   ·refine hW.all 23 [(3, 31)] _ (by kernel_rfl) (by simp) ?_
    simp only [wy, wq, simprocAttr]
    exact t31.h
   ·refine hW.all 15 [(4, 31)] _ (by kernel_rfl) (by simp) ?_
    simp only [wy, wq, simprocAttr]
    exact t31.h
   ·refine hW.all 31 [(5, 63)] _ (by kernel_rfl) (by simp) ?_
    simp only [wy, wq, simprocAttr]
    exact t63.h
   ·refine hW.done 63 _ (by kernel_rfl) ?_
    exact tK.h
   refine hK _ ?_
   clear hW W hK K
   show vthen _ _ _ .normal _
   refine vthen_n ?_
   refine VW.ret ⟨.inl rfl, _, rfl, ?_⟩
   rw [← hr]
   try rfl
 have h2 : ¬ kd = 2 := fun e => by rw [e] at hc; cases hc
 rw [if_neg h2] at hr
 have hk34 := hkind h1 h2
 generalize hp : setG t g nd (kd == 4) = p at *
 repeat refine VW.seq ?_
 refine VW.regl hT fun K hK => ?_
 simp only [wq, simprocAttr]
 refine hK _ ?_
 clear hK K
 try refine vthen_n ?_
 apply cutl
 ·intro tail
  repeat refine VW.seq ?_
  refine VW.cond rfl (fun hc => ?_) (fun hc => ?_)
  ·have hc : kd = 3 := eq_of_beq hc
   have hcn := cutNode_vc t g nd hlt hgl
   rw [show setG t g nd false = p from by rw [← hp, hc]; rfl] at hcn
   repeat refine VW.seq ?_
   refine VW.regl hT fun K hK => ?_
   simp only [wq, simprocAttr]
   refine vcall_of hcn ?_
   simp only [wq, simprocAttr]
   refine hK _ ?_
   clear hK K
   try refine vthen_n ?_
   show vthen _ _ _ .normal _
   refine vthen_n ?_
   refine VW.weak (weak_norm [(4, none), (6, none), (7, none)] _) ?_
   simp only [wn, wq, simprocAttr]
   exact tail.h
  ·have hc : ¬ kd = 3 := fun e => by rw [e] at hc; cases hc
   have hc : kd = 4 := hk34.resolve_left hc
   have hcn := openNode_vc t g nd hlt hgl
   rw [show setG t g nd true = p from by rw [← hp, hc]; rfl] at hcn
   repeat refine VW.seq ?_
   refine VW.regl hT fun K hK => ?_
   simp only [wq, simprocAttr]
   refine vcall_of hcn ?_
   simp only [wq, simprocAttr]
   refine hK _ ?_
   clear hK K
   try refine vthen_n ?_
   show vthen _ _ _ .normal _
   refine vthen_n ?_
   refine VW.weak (weak_norm [(4, none), (6, none), (7, none)] _) ?_
   simp only [wn, wq, simprocAttr]
   exact tail.h
 repeat refine VW.seq ?_
 refine VW.any hT hm fun K hK W hW => ?_
 apply cutl; intro tK
 apply cutl; intro t31
 apply cutl; intro t15
 apply cutl; intro t7
 apply cutl; intro t6
 apply cutl; intro t3
 ·refine hW.take 0 1 2 _ (by kernel_rfl) ?_
  simp only [wy, wq, simprocAttr]
  refine hW.all 2 [(0, 3), (2, 6)] _ (by kernel_rfl) (by simp) ?_
  simp only [wy, wq, simprocAttr]
  refine ⟨?_, ?_⟩
  ·exact t3.h
  ·refine vcall_of (one_vc _) ?_
   simp only [wq, simprocAttr]
   exact t6.h
 ·refine hW.all 3 [(2, 7)] _ (by kernel_rfl) (by simp) ?_
  simp only [wy, wq, simprocAttr]
  skip
  refine vcall_of (one_vc _) ?_
  simp only [wq, simprocAttr]
  exact t7.h
 ·refine hW.all 6 [(0, 7)] _ (by kernel_rfl) (by simp) ?_
  simp only [wy, wq, simprocAttr]
  exact t7.h
 ·refine hW.all 7 [(3, 15)] _ (by kernel_rfl) (by simp) ?_
  simp only [wy, wq, simprocAttr]
  exact t15.h
 ·refine hW.all 15 [(4, 31)] _ (by kernel_rfl) (by simp) ?_
  simp only [wy, wq, simprocAttr]
  exact t31.h
 ·refine hW.done 31 _ (by kernel_rfl) ?_
  exact tK.h
 refine hK _ ?_
 clear hW W hK K
 show vthen _ _ _ .normal _
 refine vthen_n ?_
 refine VW.ret ⟨.inl rfl, _, rfl, ?_⟩
 rw [← hr]
 try rfl
end Go.Proofs.YtmechjnfeidnkaaGreat.V.W
end
section
namespace Go.Proofs.YtmechjnfeidnkaaGreat.V.W
open Go Go.RowKit
end Go.Proofs.YtmechjnfeidnkaaGreat.V.W
end
section
namespace Go.Proofs.YtmechjnfeidnkaaGreat.V.W
open Go Go.RowKit
end Go.Proofs.YtmechjnfeidnkaaGreat.V.W
end
section
namespace Go.Proofs.YtmechjnfeidnkaaGreat.V.W
open Go Go.RowKit
structure FabS (x : Fab) : Prop where
 a : x.1.length ≤ 2000000
 b : x.2.1.length ≤ 2000000
 c : x.2.2.1.length ≤ 2000000
 d : x.2.2.2.1.length ≤ 2000000
 e : tot x.2.2.2.1 x.2.2.2.1.length ≤ 2000000
 f : x.2.2.2.2.length ≤ 2000000
end Go.Proofs.YtmechjnfeidnkaaGreat.V.W
end
section
namespace Go.Proofs.YtmechjnfeidnkaaGreat.V.W
open Go Go.RowKit
end Go.Proofs.YtmechjnfeidnkaaGreat.V.W
end
section
namespace Go.Proofs.YtmechjnfeidnkaaGreat.V
open Go Go.RowKit
end Go.Proofs.YtmechjnfeidnkaaGreat.V
namespace Go.Proofs.YtmechjnfeidnkaaGreat.V.W
open Go Go.RowKit
end Go.Proofs.YtmechjnfeidnkaaGreat.V.W
end
section
namespace Go.Proofs.YtmechjnfeidnkaaGreat.V
open Go Go.RowKit
/-- a row's flag, its header known -/
def Tg (f : Fl) (n : Nat) (v : Value) : Prop := (∃ g c, f = .io g c ∧ v = .slice (some ⟨g, 0, none⟩) n c) ∨ ∃ A, f = .kz A 0 ∧ n = 0 ∧ v = .slice A 0 0
def TgS : (s : Sh) → Fl → s.ty → List Value → Prop
 | .pr a b, f, x, l => ∃ f1 f2 l1 l2, f = .pr f1 f2 ∧ l = l1 ++ l2 ∧ TgS a f1 x.1 l1 ∧ TgS b f2 x.2 l2
 | .sl _ s, f, xs, l => ∃ v, l = [v] ∧ Tg f (List.length (α := s.ty) xs) v
 | s, f, x, l => encI s f x = some l
theorem TgS.enc : ∀ {s : Sh} {f : Fl} {x : s.ty} {l : List Value}, TgS s f x l → encI s f x = some l
 | .unit, _, _, _, h => h
 | .int _, _, _, _, h => h
 | .bool, _, _, _, h => h
 | .str, _, _, _, h => h
 | .pr a b, f, x, l, ⟨f1, f2, l1, l2, e1, e2, h1, h2⟩ => by
  subst e1; subst e2
  simp only [encI, Fl.l, Fl.r, h1.enc, h2.enc]
 | .sl e s, f, xs, l, ⟨v, e1, h⟩ => by
  subst e1
  rcases h with ⟨g, c, rfl, rfl⟩ | ⟨A, rfl, h0, rfl⟩
  ·rfl
  ·show some [Value.slice A (List.length (α := s.ty) xs) 0] = _
   rw [h0]
theorem Rep.tagE {w : World} {Z : Nat → Prop} : ∀ {s : Sh} {f : Fl} {x : s.ty} {cs : List Value} {B : Nat → Prop}, Fl.allown s f = true → Rep w Z s f x cs B → ∃ fi, TgS s fi x cs ∧ Rep w Z s fi x cs B
 | .unit, f, _, _, _, _, h => ⟨f, by have h : _ = [] := h; rw [h]; rfl, h⟩
 | .int _, f, _, _, _, _, h => ⟨f, by have h : _ = [_] := h; rw [h]; rfl, h⟩
 | .bool, f, _, _, _, _, h => ⟨f, by have h : _ = [_] := h; rw [h]; rfl, h⟩
 | .str, f, _, _, _, _, h => ⟨f, by have h : _ = [_] := h; rw [h]; rfl, h⟩
 | .pr a b, f, x, cs, B, k, ⟨c1, c2, B1, B2, h0, h1, h2, h3, h4, h5⟩ => by
  simp only [Fl.allown, Bool.and_eq_true] at k
  obtain ⟨g1, m1, m2⟩ := h4.tagE k.1
  obtain ⟨g2, m3, m4⟩ := h5.tagE k.2
  exact ⟨.pr g1 g2, ⟨g1, g2, c1, c2, rfl, h0, m1, m3⟩, c1, c2, B1, B2, h0, h1, h2, h3, m2, m4⟩
 | .sl e s, f, xs, cs, B, k, h => by
  cases f with
  | own =>
   rcases id h with ⟨A, hc, hx⟩ | ⟨g, cap, cur, rows, Bs, hc, _⟩
   ·have hx : (xs : List s.ty) = [] := hx
    subst hx
    refine ⟨.kz A 0, ⟨_, hc, .inr ⟨A, rfl, rfl, rfl⟩⟩, ⟨A, 0, hc, Nat.le_refl _, Nat.zero_le _, fun hp => by simp at hp⟩, hc⟩
   ·exact ⟨.io g cap, ⟨_, hc, .inl ⟨g, cap, rfl, rfl⟩⟩, h, hc⟩
  | _ => simp [Fl.allown] at k
section
variable {P : Program} {T : List (Nat × TI)}
end
end Go.Proofs.YtmechjnfeidnkaaGreat.V
end
section
namespace Go.Proofs.YtmechjnfeidnkaaGreat.V.W
open Go Go.RowKit
end Go.Proofs.YtmechjnfeidnkaaGreat.V.W
end
section
namespace Go.Proofs.YtmechjnfeidnkaaGreat.V.W
open Go Go.RowKit
/-- two fabrics of the same sizes -/
structure FabSh (x y : Fab) : Prop where
 a : y.1.length = x.1.length
 b : y.2.1.length = x.2.1.length
 c : y.2.2.1.length = x.2.2.1.length
 d : y.2.2.2.1.length = x.2.2.2.1.length
 e : ∀ k, (y.2.2.2.1.getD k []).length = (x.2.2.2.1.getD k []).length
 f : y.2.2.2.2.length = x.2.2.2.2.length
theorem FabSh.refl (x : Fab) : FabSh x x := ⟨rfl, rfl, rfl, rfl, fun _ => rfl, rfl⟩
theorem FabSh.trans {x y z : Fab} (h : FabSh x y) (k : FabSh y z) : FabSh x z := ⟨k.a.trans h.a, k.b.trans h.b, k.c.trans h.c, k.d.trans h.d, fun i => (k.e i).trans (h.e i), k.f.trans h.f⟩
theorem FabSh.toL {x y : Fab} (h : FabSh x y) (k : FabL x) : FabL y := ⟨by rw [h.a]; exact k.a, by rw [h.b]; exact k.b, by rw [h.c]; exact k.c, by rw [h.d]; exact k.d, fun i => by rw [h.e]; exact k.e i⟩
theorem storeW_sh (x : Fab) (fr a : Int) (d : List Int) (ha : a ≤ 9223372036854775807) : FabSh x (storeW x fr a d).1 := by
 rw [storeW]
 split
 ·split
  ·rename_i h
   obtain ⟨t, s, b, m, g⟩ := x
   obtain ⟨j, lo, n, h0, h1, h2, h3, h4, h5, h6, h7, h8⟩ := target_good (t := t) (s := s) (b := b) (m := m) (g := g) (fr := fr) (a := a) (l := d.length) (k := (targetOf (t, s, b, m, g) fr a d.length).1) (Prod.ext rfl h) ha
   obtain rfl : d.length = n := by omega
   have h4 : (IntKind.i64.wrap (a - (b.getD j zb).2)).toNat = lo := by rw [h4, Int.toNat_natCast]
   rw [h0, Int.toNat_natCast]
   refine ⟨rfl, rfl, rfl, List.length_set, fun k => ?_, rfl⟩
   show ((m.set j (over (m.getD j []) (IntKind.i64.wrap (a - (b.getD j zb).2)).toNat d)).getD k []).length = (m.getD k []).length
   rw [h4, getD_setL _ _ _ _ _ h2]
   split
   ·rename_i e
    rw [e, over_len h6]
   ·rfl
  ·exact FabSh.refl x
 ·exact FabSh.refl x
end Go.Proofs.YtmechjnfeidnkaaGreat.V.W
end
section
namespace Go.Proofs.YtmechjnfeidnkaaGreat.V.W
open Go Go.RowKit
abbrev zA : Ac := (0, 0, 0, 0)
abbrev sAS : Sh := .sl 79 sAct
theorem doAct_sh (x : Fab) (a : Ac) : FabSh x (doAct x a).1 := by
 rw [doAct]
 split
 ·rename_i h
  rw [Bool.and_eq_true] at h
  have := act_addr h.2
  split
  ·exact storeW_sh x _ _ _ (by omega)
  ·split
   ·exact FabSh.refl x
   ·exact ⟨rfl, rfl, rfl, rfl, fun _ => rfl, setG_len _ _ _ _⟩
 ·exact FabSh.refl x
/-- acts done one behind the other -/
def runTo (x : Fab) (ks : List Ac) : Fab × List Int := ks.foldl (fun p a => ((doAct p.1 a).1, p.2 ++ [(doAct p.1 a).2])) (x, [])
theorem runTo_succ (x : Fab) {ks : List Ac} {i : Nat} (h : i < ks.length) : runTo x (ks.take (i + 1)) = ((doAct (runTo x (ks.take i)).1 (ks.getD i zA)).1, (runTo x (ks.take i)).2 ++ [(doAct (runTo x (ks.take i)).1 (ks.getD i zA)).2]) := by
 have e : ks.take (i + 1) = ks.take i ++ [ks.getD i zA] := by
  rw [List.take_add_one, List.getElem?_eq_getElem h, List.getD_eq_getElem?_getD, List.getElem?_eq_getElem h]
  rfl
 rw [e, runTo, List.foldl_append]
 rfl
theorem runTo_sh (x : Fab) (ks : List Ac) : ∀ i, i ≤ ks.length → FabSh x (runTo x (ks.take i)).1 ∧ (runTo x (ks.take i)).2.length = i
 | 0, _ => ⟨FabSh.refl x, rfl⟩
 | i + 1, h => by
  obtain ⟨h1, h2⟩ := runTo_sh x ks i (by omega)
  rw [runTo_succ x (by omega)]
  exact ⟨h1.trans (doAct_sh _ _), by show (_ ++ [_]).length = _; rw [List.length_append, h2]; rfl⟩
def runActs (x : Fab) (ks : List Ac) : Fab × List Int := if (fabOk x && decide (ks.length ≤ 40)) = true then runTo x ks else (x, [])
abbrev rFL (p : Fab × List Int) : PV := .root (.tup [true, false]) (.pr sFi sI) (.pr fFab .own) p
set_option maxRecDepth 20000 in
set_option maxHeartbeats 4000000 in
theorem runActs_vc (x : Fab) (ks : List Ac) (hx : FabL x) (hgl : x.2.2.2.2.length ≤ 2000000) (hal : ks.length ≤ 2000000) : VC Tryz.prog 25 [.v true sFi x, .v false sAS ks] (· = rFL (runActs x ks)) := by
 refine VC.of_body hT Tryz.func25 rfl (by kernel_rfl) [(.cell 4 32, true, sFi), (.tmp 5, false, sI)] (by kernel_rfl) ?_
 have hcp := copyFabric_vc x hx hgl
 have hfo := fabricOk_vc x hx
 have hda := fun (i : Nat) (h : i ≤ ks.length) => doAct_vc (runTo x (ks.take i)).1 (ks.getD i zA) ((runTo_sh x ks i h).1.toL hx) (by rw [(runTo_sh x ks i h).1.f]; exact hgl)
 have hrl := fun (i : Nat) (h : i ≤ ks.length) => (runTo_sh x ks i h).2
 have hrs := fun (i : Nat) (h : i < ks.length) => runTo_succ x h
 have hr0 : runTo x (ks.take 0) = (x, []) := rfl
 generalize hr : runActs x ks = r
 rw [runActs] at hr
 show VW _ _ ([.v true sFi x, .v false sAS ks, D, D, D, D, D, D, D, D, D, D, D, D, D, D, D, D, D, D, D, D, D, D, D, D, D, D, D, D, D, D, D, D, D, D, D, D, D, D, D, D, D, D]) _
 repeat refine VW.seq ?_
 refine VW.regl hT fun K hK => ?_
 simp only [wq, simprocAttr]
 refine hK _ ?_
 clear hK K
 try refine vthen_n ?_
 repeat refine VW.seq ?_
 refine VW.regl hT fun K hK => ?_
 simp only [wq, simprocAttr]
 refine vcall_of hcp ?_
 simp only [wq, simprocAttr]
 refine hK _ ?_
 clear hK K
 try refine vthen_n ?_
 repeat refine VW.seq ?_
 refine VW.regl hT fun K hK => ?_
 simp only [wq, simprocAttr]
 refine vcall_of hfo ?_
 simp only [wq, simprocAttr]
 refine vbr (fun h => ?_) (fun h => ?_) <;> simp only [wq, simprocAttr]
 case refine_2 =>
  have h : fabOk x = false := (Bool.not_eq_true' _).mp h
  refine hK _ ?_
  clear hK K
  try refine vthen_n ?_
  repeat refine VW.seq ?_
  refine VW.cond rfl (fun hc => ?_) (fun hc => ?_)
  ·repeat refine VW.seq ?_
   refine VW.regl hT fun K hK => ?_
   simp only [wq, simprocAttr]
   refine hK _ ?_
   clear hK K
   try refine vthen_n ?_
   refine VW.ret ⟨.inl rfl, _, rfl, ?_⟩
   rw [← hr, if_neg (by rw [h]; simp)]
   rfl
  ·cases hc
 have hf : fabOk x = true := by
  have := h
  rwa [Bool.not_eq_false'] at this
 refine hK _ ?_
 clear hK K
 try refine vthen_n ?_
 repeat refine VW.seq ?_
 refine VW.cond rfl (fun hc => ?_) (fun hc => ?_)
 ·have hc : (ks.length : Int) > 40 := of_decide_eq_true hc
  repeat refine VW.seq ?_
  refine VW.regl hT fun K hK => ?_
  simp only [wq, simprocAttr]
  refine hK _ ?_
  clear hK K
  try refine vthen_n ?_
  refine VW.ret ⟨.inl rfl, _, rfl, ?_⟩
  rw [← hr, if_neg (by rw [decide_eq_false (by omega), Bool.and_false]; decide)]
  rfl
 have hc : ¬ (ks.length : Int) > 40 := of_decide_eq_false hc
 rw [if_pos (by rw [hf, decide_eq_true (by omega)]; rfl)] at hr
 refine VW.skip (vthen_n ?_)
 repeat refine VW.seq ?_
 refine VW.regl hT fun K hK => ?_
 simp only [wq, simprocAttr]
 refine hK _ ?_
 clear hK K
 try refine vthen_n ?_
 repeat refine VW.seq ?_
 refine VW.block ?_
 refine VW.loop (α := Nat) [(4, none), (6, none), (7, some (3, .int .i64)), (24, none), (25, none), (26, none)] (fun i => [D, D, D, D, .root (.box 32) sFi .own ([], [], [], [], []), D, .root (.box 32) sFi fFab (runTo x (ks.take i)).1, .root (.val false) sI .own (runTo x (ks.take i)).2, D, D, D, D, D, D, D, D, D, D, D, D, D, D, D, D, .v false sAS ks, .v false (.int .i64) ((ks.length : Nat)), .v false (.int .i64) ((i : Nat)), D, D, D, D, D, D, D, D, D, D, D, D, D, D, D, D, D]) (fun i => i ≤ ks.length) (fun i => ks.length - i) ⟨0, by omega, ?_⟩ fun i hi => ?_
 ·simp only [wn, wq, simprocAttr]
  rw [hr0]
 repeat refine VW.seq ?_
 refine VW.regl hT fun K hK => ?_
 simp only [wq, simprocAttr]
 refine hK _ ?_
 clear hK K
 try refine vthen_n ?_
 repeat refine VW.seq ?_
 refine VW.cond rfl (fun hc => ?_) (fun hc => ?_)
 ·have hlt : i < ks.length := by simpa using hc
  have hda := hda i hi
  have hrl := hrl i hi
  have hrs := hrs i hlt
  generalize runTo x (ks.take i) = p at *
  obtain ⟨y, ns⟩ := p
  have hrl : ns.length = i := hrl
  have hda : VC Tryz.prog 46 [.v true sFi y, .v true sAct (ks.getD i zA)] (· = rFI (doAct y (ks.getD i zA))) := hda
  have hrs : runTo x (ks.take (i + 1)) = ((doAct y (ks.getD i zA)).1, ns ++ [(doAct y (ks.getD i zA)).2]) := hrs
  generalize doAct y (ks.getD i zA) = q at *
  obtain ⟨y', c⟩ := q
  refine VW.skip (vthen_n ?_)
  repeat refine VW.seq ?_
  refine VW.block ?_
  repeat refine VW.seq ?_
  refine VW.regl hT fun K hK => ?_
  simp only [wq, simprocAttr]
  refine ⟨decide_eq_true ⟨Int.natCast_nonneg _, by show (i : Int) < (ks.length : Int); omega⟩, ?_⟩
  refine hK _ ?_
  clear hK K
  try refine vthen_n ?_
  repeat refine VW.seq ?_
  refine VW.regl hT fun K hK => ?_
  simp only [wq, simprocAttr]
  refine vcall_of hda ?_
  simp only [wq, simprocAttr]
  refine hK _ ?_
  clear hK K
  try refine vthen_n ?_
  have hN : limOk (ns.length + 1) 8 = true := by simp only [limOk]; exact decide_eq_true (by omega)
  repeat refine VW.seq ?_
  refine VW.any hT hm fun K hK W hW => ?_
  apply cutl; intro tK
  apply cutl; intro t127
  apply cutl; intro t63
  apply cutl; intro t31
  apply cutl; intro t30
  apply cutl; intro t15
  apply cutl; intro t14
  apply cutl; intro t7
  ·refine hW.take 0 1 2 _ (by kernel_rfl) ?_
   simp only [wy, wq, simprocAttr]
   refine hW.take 2 2 6 _ (by kernel_rfl) ?_
   simp only [wy, wq, simprocAttr]
   refine hW.all 6 [(0, 7), (3, 14)] _ (by kernel_rfl) (by simp) ?_
   simp only [wy, wq, simprocAttr]
   exact ⟨t7.h, t14.h⟩
  ·refine hW.all 7 [(3, 15)] _ (by kernel_rfl) (by simp) ?_
   simp only [wy, wq, simprocAttr]
   exact t15.h
  ·refine hW.all 14 [(0, 15), (4, 30)] _ (by kernel_rfl) (by simp) ?_
   simp only [wy, wq, simprocAttr]
   exact ⟨t15.h, ⟨hN, t30.h⟩⟩
  ·refine hW.all 15 [(4, 31)] _ (by kernel_rfl) (by simp) ?_
   simp only [wy, wq, simprocAttr]
   exact ⟨hN, t31.h⟩
  ·refine hW.all 30 [(0, 31)] _ (by kernel_rfl) (by simp) ?_
   simp only [wy, wq, simprocAttr]
   exact t31.h
  ·refine hW.all 31 [(5, 63)] _ (by kernel_rfl) (by simp) ?_
   simp only [wy, wq, simprocAttr]
   exact t63.h
  ·refine hW.all 63 [(6, 127)] _ (by kernel_rfl) (by simp) ?_
   simp only [wy, wq, simprocAttr]
   exact t127.h
  ·refine hW.done 127 _ (by kernel_rfl) ?_
   exact tK.h
  refine hK _ ?_
  clear hW W hK K
  show vthen _ _ _ .normal _
  refine vthen_n ?_
  repeat refine VW.seq ?_
  refine VW.regl hT fun K hK => ?_
  simp only [wq, simprocAttr]
  refine hK _ ?_
  clear hK K
  try refine vthen_n ?_
  refine ⟨i + 1, hlt, ?_, by show ks.length - (i + 1) < ks.length - i; omega⟩
  simp only [wn, wq, simprocAttr]
  rw [hrs, wrap64 (by omega) (by omega), show (i : Int) + 1 = ((i + 1 : Nat) : Int) by omega]
 ·have hge : i = ks.length := by
   have hc : ¬ (i : Int) < (ks.length : Int) := of_decide_eq_false hc
   omega
  subst hge
  rw [List.take_length, hr]
  refine VW.exit ?_
  show vthen _ _ _ .normal _
  refine vthen_n ?_
  repeat refine VW.seq ?_
  refine VW.regl hT fun K hK => ?_
  simp only [wq, simprocAttr]
  refine hK _ ?_
  clear hK K
  try refine vthen_n ?_
  exact VW.ret ⟨.inl rfl, _, rfl, rfl⟩
end Go.Proofs.YtmechjnfeidnkaaGreat.V.W
end
section
namespace Go.Proofs.YtmechjnfeidnkaaGreat.V.W
open Go Go.RowKit
def intR (A : Option Addr) (c : Nat) (b : List Int) (pv ot : PV) : Prop := ∃ (m i h : Int) (r : Fl), pv = .v false (.int .i64) (m) ∧ m ≤ 9223372036854775807 ∧ 0 ≤ i ∧ ot = .root bC sC (.pr (.kz A c) r) (b, i, h)
theorem wrap_le (x : Int) : IntKind.i64.wrap x ≤ 9223372036854775807 := by
 simp [IntKind.wrap, IntKind.bits, IntKind.signed]
 omega
set_option maxRecDepth 20000 in
set_option maxHeartbeats 4000000 in
theorem addrD_vx (A : Option Addr) (c : Nat) (r : Fl) (b : List Int) (i h : Int) (x : Fab) (hx : fabOk x = true) (hi : 0 ≤ i) (hl : b.length ≤ 1048576) :
  VX Tryz.prog 52 [.root bC sC (.pr (.kz A c) r) (b, i, h), .v true sFi x] 0 (intR A c b) := by
 obtain ⟨t, s, w, m, g⟩ := x
 obtain ⟨z1, z2, z3, -, -, -⟩ := fab_szs hx
 refine VX.of_box hT Tryz.func52 rfl (by kernel_rfl) [(.tmp 4, false, .int .i64)] (by kernel_rfl) rfl fun bb => ?_
 show VW _ _ ([.root (.ibox 127 bb) sC (.pr (.kz A c) r) (b, i, h), .v true sFi (t, s, w, m, g), D, D, D, D, D, D, D, D, D, D, D, D, D, D, D, D, D, D, D, D, D, D, D, D, D, D, D, D, D, D, D, D, D, D, D, D, D, D, D, D, D, D, D, D, D, D, D, D, D, D, D, D]) _
 repeat refine VW.seq ?_
 refine VW.regl hT fun K hK => ?_
 simp only [wq, simprocAttr]
 refine hK _ ?_
 clear hK K
 try refine vthen_n ?_
 repeat refine VW.seq ?_
 refine VW.regl hT fun K hK => ?_
 simp only [wq, simprocAttr]
 refine vcall_io 0 ?_
 simp only [wq, simprocAttr]
 refine vxcall_ex (below_vx A c r b i h 300 hi hl (by omega)) ?_
 rintro pv ot ⟨m0, i0, h0, r0, rfl, ha0, hb0, hi0, rfl⟩
 simp only [wq, simprocAttr]
 refine vcall_io 0 ?_
 simp only [wq, simprocAttr]
 refine vxcall_ex (pick_vx A c r0 b i0 h0 [0, -1, 1000, 65535, m0] hi0 hl (by simp) (by simp)) ?_
 rintro pv ot ⟨m1, i1, h1, r1, rfl, ha1, hi1, rfl⟩
 have hm1 : m1 ≤ 9223372036854775807 := by
  simp only [List.mem_cons, List.not_mem_nil, or_false] at ha1
  omega
 simp only [wq, simprocAttr]
 refine hK _ ?_
 clear hK K
 try refine vthen_n ?_
 repeat refine VW.seq ?_
 refine VW.regl hT fun K hK => ?_
 simp only [wq, simprocAttr]
 refine hK _ ?_
 clear hK K
 try refine vthen_n ?_
 repeat refine VW.seq ?_
 refine VW.block ?_
 refine VW.loop (α := Nat × Int × Int × Int × Fl) [(0, none), (3, none), (5, none), (6, none)] (fun q => [.root (.ibox 127 bb) sC (.pr (.kz A c) q.2.2.2.2) (b, q.2.2.1, q.2.2.2.1), D, D, .root (.box 32) sFi .fz (t, s, w, m, g), D, .v false (.int .i64) (q.2.1), .v false (.int .i64) (q.1), D, D, D, D, D, D, D, D, D, D, D, D, D, D, D, D, D, D, D, D, D, D, D, D, D, D, D, D, D, D, D, D, D, D, D, D, D, D, D, D, D, D, D, D, D, D, D]) (fun q => q.1 ≤ 3 ∧ q.2.1 ≤ 9223372036854775807 ∧ 0 ≤ q.2.2.1) (fun q => 3 - q.1) ⟨(0, m1, i1, h1, r1), ⟨Nat.zero_le _, hm1, hi1⟩, ?_⟩ fun q hq => ?_
 ·simp only [wn, wq, simprocAttr]
  try rfl
 obtain ⟨k, v, i, h, r⟩ := q
 obtain ⟨hk, hv, hi⟩ := hq
 simp only at hk hv hi ⊢
 repeat refine VW.seq ?_
 refine VW.regl hT fun K hK => ?_
 simp only [wq, simprocAttr]
 refine hK _ ?_
 clear hK K
 try refine vthen_n ?_
 repeat refine VW.seq ?_
 refine VW.cond rfl (fun hc => ?_) (fun hc => ?_)
 ·have hlt : k < 3 := by
   have : (k : Int) < 3 := of_decide_eq_true hc
   omega
  refine VW.skip (vthen_n ?_)
  repeat refine VW.seq ?_
  refine VW.block ?_
  repeat refine VW.seq ?_
  refine VW.regl hT fun K hK => ?_
  simp only [wq, simprocAttr]
  refine vcall_io 0 ?_
  simp only [wq, simprocAttr]
  refine vxcall_ex (below_vx A c r b i h (w.length : Nat) hi hl (by omega)) ?_
  rintro pv ot ⟨m1, i1, h1, r1, rfl, ha1, hb1, hi1, rfl⟩
  simp only [wq, simprocAttr]
  refine hK _ ?_
  clear hK K
  try refine vthen_n ?_
  have hJ : decide (0 ≤ m1 ∧ m1 < (w.length : Int)) = true := decide_eq_true ⟨ha1, hb1⟩
  have hJt : decide (0 ≤ m1 ∧ m1 < (t.length : Int)) = true := decide_eq_true ⟨ha1, by omega⟩
  repeat refine VW.seq ?_
  refine VW.regl hT fun K hK => ?_
  simp only [wq, simprocAttr]
  refine ⟨hJ, ?_⟩
  refine vbr (fun hp => ?_) (fun hp => ?_) <;> simp only [wq, simprocAttr]
  ·have hp : (w.getD m1.toNat (0, 0)).1 > 0 := of_decide_eq_true hp
   refine ⟨hJt, ?_⟩
   refine hK _ ?_
   clear hK K
   try refine vthen_n ?_
   repeat refine VW.seq ?_
   refine VW.cond rfl (fun hc => ?_) (fun hc => ?_)
   ·skip
    repeat refine VW.seq ?_
    refine VW.any hT hm fun K hK W hW => ?_
    apply cutl; intro tK
    apply cutl; intro t65535
    apply cutl; intro t32767
    apply cutl; intro t16383
    apply cutl; intro t16351
    apply cutl; intro t8191
    apply cutl; intro t16335
    apply cutl; intro t8159
    apply cutl; intro t4095
    apply cutl; intro t16327
    apply cutl; intro t8143
    apply cutl; intro t4063
    apply cutl; intro t2047
    apply cutl; intro t16325
    apply cutl; intro t8135
    apply cutl; intro t4047
    apply cutl; intro t2015
    apply cutl; intro t1023
    apply cutl; intro t8133
    apply cutl; intro t4039
    apply cutl; intro t1999
    apply cutl; intro t991
    apply cutl; intro t767
    apply cutl; intro t4037
    apply cutl; intro t1991
    apply cutl; intro t975
    apply cutl; intro t735
    apply cutl; intro t1989
    apply cutl; intro t967
    apply cutl; intro t719
    apply cutl; intro t965
    apply cutl; intro t711
    ·refine hW.takeF 0 0 1 _ (by kernel_rfl) ?_
     simp only [wy, wq, simprocAttr]
     refine hW.take 1 2 5 _ (by kernel_rfl) ?_
     simp only [wy, wq, simprocAttr]
     refine hW.take 5 6 69 _ (by kernel_rfl) ?_
     simp only [wy, wq, simprocAttr]
     refine hW.takeF 69 7 197 _ (by kernel_rfl) ?_
     simp only [wy, wq, simprocAttr]
     refine hW.take 197 9 709 _ (by kernel_rfl) ?_
     simp only [wy, wq, simprocAttr]
     refine hW.all 709 [(1, 711), (8, 965)] _ (by kernel_rfl) (by simp) ?_
     simp only [wy, wq, simprocAttr]
     exact ⟨t711.h, t965.h⟩
    ·refine hW.all 711 [(3, 719), (8, 967)] _ (by kernel_rfl) (by simp) ?_
     simp only [wy, wq, simprocAttr]
     exact ⟨⟨hJ, t719.h⟩, t967.h⟩
    ·refine hW.all 965 [(1, 967), (10, 1989)] _ (by kernel_rfl) (by simp) ?_
     simp only [wy, wq, simprocAttr]
     exact ⟨t967.h, ⟨hJ, t1989.h⟩⟩
    ·refine hW.all 719 [(4, 735), (8, 975)] _ (by kernel_rfl) (by simp) ?_
     simp only [wy, wq, simprocAttr]
     exact ⟨t735.h, t975.h⟩
    ·refine hW.all 967 [(3, 975), (10, 1991)] _ (by kernel_rfl) (by simp) ?_
     simp only [wy, wq, simprocAttr]
     exact ⟨⟨hJ, t975.h⟩, ⟨hJ, t1991.h⟩⟩
    ·refine hW.all 1989 [(1, 1991), (11, 4037)] _ (by kernel_rfl) (by simp) ?_
     simp only [wy, wq, simprocAttr]
     exact ⟨t1991.h, t4037.h⟩
    ·refine hW.all 735 [(5, 767), (8, 991)] _ (by kernel_rfl) (by simp) ?_
     simp only [wy, wq, simprocAttr]
     exact ⟨t767.h, t991.h⟩
    ·refine hW.all 975 [(4, 991), (10, 1999)] _ (by kernel_rfl) (by simp) ?_
     simp only [wy, wq, simprocAttr]
     exact ⟨t991.h, ⟨hJ, t1999.h⟩⟩
    ·refine hW.all 1991 [(3, 1999), (11, 4039)] _ (by kernel_rfl) (by simp) ?_
     simp only [wy, wq, simprocAttr]
     exact ⟨⟨hJ, t1999.h⟩, t4039.h⟩
    ·refine hW.all 4037 [(1, 4039), (12, 8133)] _ (by kernel_rfl) (by simp) ?_
     simp only [wy, wq, simprocAttr]
     exact ⟨t4039.h, t8133.h⟩
    ·refine hW.all 767 [(8, 1023)] _ (by kernel_rfl) (by simp) ?_
     simp only [wy, wq, simprocAttr]
     exact t1023.h
    ·refine hW.all 991 [(5, 1023), (10, 2015)] _ (by kernel_rfl) (by simp) ?_
     simp only [wy, wq, simprocAttr]
     exact ⟨t1023.h, ⟨hJ, t2015.h⟩⟩
    ·refine hW.all 1999 [(4, 2015), (11, 4047)] _ (by kernel_rfl) (by simp) ?_
     simp only [wy, wq, simprocAttr]
     exact ⟨t2015.h, t4047.h⟩
    ·refine hW.all 4039 [(3, 4047), (12, 8135)] _ (by kernel_rfl) (by simp) ?_
     simp only [wy, wq, simprocAttr]
     exact ⟨⟨hJ, t4047.h⟩, t8135.h⟩
    ·refine hW.all 8133 [(1, 8135), (13, 16325)] _ (by kernel_rfl) (by simp) ?_
     simp only [wy, wq, simprocAttr]
     refine ⟨?_, ?_⟩
     ·exact t8135.h
     ·refine vcall_io 0 ?_
      simp only [wq, simprocAttr]
      refine vxcall_ex (below_vx A c r1 b i1 h1 (w.getD m1.toNat (0, 0)).1 hi1 hl (by omega)) ?_
      rintro pv ot ⟨m2, i2, h2, r2, rfl, ha2, hb2, hi2, rfl⟩
      simp only [wq, simprocAttr]
      revert m2 i2 h2 r2 ha2 hb2 hi2
      exact t16325.h
    ·refine hW.all 1023 [(10, 2047)] _ (by kernel_rfl) (by simp) ?_
     simp only [wy, wq, simprocAttr]
     exact ⟨hJ, t2047.h⟩
    ·refine hW.all 2015 [(5, 2047), (11, 4063)] _ (by kernel_rfl) (by simp) ?_
     simp only [wy, wq, simprocAttr]
     exact ⟨t2047.h, t4063.h⟩
    ·refine hW.all 4047 [(4, 4063), (12, 8143)] _ (by kernel_rfl) (by simp) ?_
     simp only [wy, wq, simprocAttr]
     exact ⟨t4063.h, t8143.h⟩
    ·refine hW.all 8135 [(3, 8143), (13, 16327)] _ (by kernel_rfl) (by simp) ?_
     simp only [wy, wq, simprocAttr]
     refine ⟨?_, ?_⟩
     ·refine ⟨hJ, ?_⟩
      exact t8143.h
     ·refine vcall_io 0 ?_
      simp only [wq, simprocAttr]
      refine vxcall_ex (below_vx A c r1 b i1 h1 (w.getD m1.toNat (0, 0)).1 hi1 hl (by omega)) ?_
      rintro pv ot ⟨m2, i2, h2, r2, rfl, ha2, hb2, hi2, rfl⟩
      simp only [wq, simprocAttr]
      revert m2 i2 h2 r2 ha2 hb2 hi2
      exact t16327.h
    ·intro m2 i2 h2 r2 ha2 hb2 hi2
     refine hW.all 16325 [(1, 16327)] _ (by kernel_rfl) (by simp) ?_
     simp only [wy, wq, simprocAttr]
     skip
     revert m2 i2 h2 r2 ha2 hb2 hi2
     exact t16327.h
    ·refine hW.all 2047 [(11, 4095)] _ (by kernel_rfl) (by simp) ?_
     simp only [wy, wq, simprocAttr]
     exact t4095.h
    ·refine hW.all 4063 [(5, 4095), (12, 8159)] _ (by kernel_rfl) (by simp) ?_
     simp only [wy, wq, simprocAttr]
     exact ⟨t4095.h, t8159.h⟩
    ·refine hW.all 8143 [(4, 8159), (13, 16335)] _ (by kernel_rfl) (by simp) ?_
     simp only [wy, wq, simprocAttr]
     refine ⟨?_, ?_⟩
     ·exact t8159.h
     ·refine vcall_io 0 ?_
      simp only [wq, simprocAttr]
      refine vxcall_ex (below_vx A c r1 b i1 h1 (w.getD m1.toNat (0, 0)).1 hi1 hl (by omega)) ?_
      rintro pv ot ⟨m2, i2, h2, r2, rfl, ha2, hb2, hi2, rfl⟩
      simp only [wq, simprocAttr]
      revert m2 i2 h2 r2 ha2 hb2 hi2
      exact t16335.h
    ·intro m2 i2 h2 r2 ha2 hb2 hi2
     refine hW.all 16327 [(3, 16335)] _ (by kernel_rfl) (by simp) ?_
     simp only [wy, wq, simprocAttr]
     skip
     refine ⟨hJ, ?_⟩
     revert m2 i2 h2 r2 ha2 hb2 hi2
     exact t16335.h
    ·refine hW.all 4095 [(12, 8191)] _ (by kernel_rfl) (by simp) ?_
     simp only [wy, wq, simprocAttr]
     exact t8191.h
    ·refine hW.all 8159 [(5, 8191), (13, 16351)] _ (by kernel_rfl) (by simp) ?_
     simp only [wy, wq, simprocAttr]
     refine ⟨?_, ?_⟩
     ·exact t8191.h
     ·refine vcall_io 0 ?_
      simp only [wq, simprocAttr]
      refine vxcall_ex (below_vx A c r1 b i1 h1 (w.getD m1.toNat (0, 0)).1 hi1 hl (by omega)) ?_
      rintro pv ot ⟨m2, i2, h2, r2, rfl, ha2, hb2, hi2, rfl⟩
      simp only [wq, simprocAttr]
      revert m2 i2 h2 r2 ha2 hb2 hi2
      exact t16351.h
    ·intro m2 i2 h2 r2 ha2 hb2 hi2
     refine hW.all 16335 [(4, 16351)] _ (by kernel_rfl) (by simp) ?_
     simp only [wy, wq, simprocAttr]
     skip
     revert m2 i2 h2 r2 ha2 hb2 hi2
     exact t16351.h
    ·refine hW.all 8191 [(13, 16383)] _ (by kernel_rfl) (by simp) ?_
     simp only [wy, wq, simprocAttr]
     skip
     refine vcall_io 0 ?_
     simp only [wq, simprocAttr]
     refine vxcall_ex (below_vx A c r1 b i1 h1 (w.getD m1.toNat (0, 0)).1 hi1 hl (by omega)) ?_
     rintro pv ot ⟨m2, i2, h2, r2, rfl, ha2, hb2, hi2, rfl⟩
     simp only [wq, simprocAttr]
     revert m2 i2 h2 r2 ha2 hb2 hi2
     exact t16383.h
    ·intro m2 i2 h2 r2 ha2 hb2 hi2
     refine hW.all 16351 [(5, 16383)] _ (by kernel_rfl) (by simp) ?_
     simp only [wy, wq, simprocAttr]
     skip
     revert m2 i2 h2 r2 ha2 hb2 hi2
     exact t16383.h
    ·intro m2 i2 h2 r2 ha2 hb2 hi2
     refine hW.all 16383 [(14, 32767)] _ (by kernel_rfl) (by simp) ?_
     simp only [wy, wq, simprocAttr]
     skip
     revert m2 i2 h2 r2 ha2 hb2 hi2
     exact t32767.h
    ·intro m2 i2 h2 r2 ha2 hb2 hi2
     refine hW.all 32767 [(15, 65535)] _ (by kernel_rfl) (by simp) ?_
     simp only [wy, wq, simprocAttr]
     skip
     revert m2 i2 h2 r2 ha2 hb2 hi2
     exact t65535.h
    ·intro m2 i2 h2 r2 ha2 hb2 hi2
     refine hW.done 65535 _ (by kernel_rfl) ?_
     revert m2 i2 h2 r2 ha2 hb2 hi2
     exact tK.h
    intro m2 i2 h2 r2 ha2 hb2 hi2
    refine hK _ ?_
    clear hW W hK K
    show vthen _ _ _ .normal _
    refine vthen_n ?_
    repeat refine VW.seq ?_
    refine VW.regl hT fun K hK => ?_
    simp only [wq, simprocAttr]
    refine hK _ ?_
    clear hK K
    try refine vthen_n ?_
    refine ⟨(k + 1, IntKind.i64.wrap ((w.getD m1.toNat (0, 0)).2 + m2), i2, h2, r2), ⟨hlt, wrap_le _, hi2⟩, ?_, by show 3 - (k + 1) < 3 - k; omega⟩
    simp only [wn, wq, simprocAttr]
    rw [wrap64 (x := (k : Int) + 1) (by omega) (by omega), show (k : Int) + 1 = ((k + 1 : Nat) : Int) by omega]
   ·refine VW.skip ?_
    show vthen _ _ _ .normal _
    refine vthen_n ?_
    repeat refine VW.seq ?_
    refine VW.regl hT fun K hK => ?_
    simp only [wq, simprocAttr]
    refine hK _ ?_
    clear hK K
    try refine vthen_n ?_
    refine ⟨(k + 1, v, i1, h1, r1), ⟨hlt, hv, hi1⟩, ?_, by show 3 - (k + 1) < 3 - k; omega⟩
    simp only [wn, wq, simprocAttr]
    rw [wrap64 (by omega) (by omega), show (k : Int) + 1 = ((k + 1 : Nat) : Int) by omega]
  ·refine hK _ ?_
   clear hK K
   try refine vthen_n ?_
   repeat refine VW.seq ?_
   refine VW.cond rfl (fun hc => ?_) (fun hc => ?_)
   ·cases hc
   ·refine VW.skip ?_
    show vthen _ _ _ .normal _
    refine vthen_n ?_
    repeat refine VW.seq ?_
    refine VW.regl hT fun K hK => ?_
    simp only [wq, simprocAttr]
    refine hK _ ?_
    clear hK K
    try refine vthen_n ?_
    refine ⟨(k + 1, v, i1, h1, r1), ⟨hlt, hv, hi1⟩, ?_, by show 3 - (k + 1) < 3 - k; omega⟩
    simp only [wn, wq, simprocAttr]
    rw [wrap64 (by omega) (by omega), show (k : Int) + 1 = ((k + 1 : Nat) : Int) by omega]
 ·refine VW.exit ?_
  show vthen _ _ _ .normal _
  refine vthen_n ?_
  repeat refine VW.seq ?_
  refine VW.regl hT fun K hK => ?_
  simp only [wq, simprocAttr]
  refine hK _ ?_
  clear hK K
  try refine vthen_n ?_
  exact VW.ret ⟨.inl rfl, _, _, _, _, rfl, ⟨0, rfl⟩, _, i, h, r, rfl, hv, hi, rfl⟩
def actR (A : Option Addr) (c : Nat) (b : List Int) (pv ot : PV) : Prop := ∃ (a : Ac) (i h : Int) (r : Fl), pv = .v true sAct a ∧ 0 ≤ i ∧ ot = .root bC sC (.pr (.kz A c) r) (b, i, h)
set_option maxRecDepth 20000 in
set_option maxHeartbeats 4000000 in
theorem actD_vx (A : Option Addr) (c : Nat) (r : Fl) (b : List Int) (i h : Int) (x : Fab) (hx : fabOk x = true) (hi : 0 ≤ i) (hl : b.length ≤ 1048576) :
  VX Tryz.prog 128 [.root bC sC (.pr (.kz A c) r) (b, i, h), .v true sFi x] 0 (actR A c b) := by
 have had := fun i h r (hi : 0 ≤ i) => addrD_vx A c r b i h x hx hi hl
 obtain ⟨t, s, w, m, g⟩ := x
 obtain ⟨z1, z2, z3, -, -, -⟩ := fab_szs hx
 refine VX.of_box hT Tryz.func128 rfl (by kernel_rfl) [(.cell 4 79, true, sAct)] (by kernel_rfl) rfl fun bb => ?_
 show VW _ _ ([.root (.ibox 127 bb) sC (.pr (.kz A c) r) (b, i, h), .v true sFi (t, s, w, m, g), D, D, D, D, D, D, D, D, D, D, D, D, D, D, D, D, D, D, D, D, D, D, D, D, D, D, D, D, D, D, D, D]) _
 repeat refine VW.seq ?_
 refine VW.regl hT fun K hK => ?_
 simp only [wq, simprocAttr]
 refine hK _ ?_
 clear hK K
 try refine vthen_n ?_
 repeat refine VW.seq ?_
 refine VW.any hT hm fun K hK W hW => ?_
 apply cutl; intro tK
 apply cutl; intro t4095
 apply cutl; intro t2047
 apply cutl; intro t1535
 apply cutl; intro t1023
 apply cutl; intro t1531
 apply cutl; intro t1279
 apply cutl; intro t511
 apply cutl; intro t1275
 apply cutl; intro t1151
 apply cutl; intro t507
 apply cutl; intro t255
 apply cutl; intro t1273
 apply cutl; intro t1147
 apply cutl; intro t1087
 apply cutl; intro t251
 apply cutl; intro t127
 apply cutl; intro t1145
 apply cutl; intro t1083
 apply cutl; intro t1055
 apply cutl; intro t249
 apply cutl; intro t123
 apply cutl; intro t63
 apply cutl; intro t1081
 apply cutl; intro t1051
 apply cutl; intro t121
 apply cutl; intro t59
 apply cutl; intro t31
 apply cutl; intro t1049
 apply cutl; intro t57
 apply cutl; intro t27
 ·refine hW.take 0 0 1 _ (by kernel_rfl) ?_
  simp only [wy, wq, simprocAttr]
  refine hW.take 1 3 9 _ (by kernel_rfl) ?_
  simp only [wy, wq, simprocAttr]
  refine hW.takeF 9 4 25 _ (by kernel_rfl) ?_
  simp only [wy, wq, simprocAttr]
  refine hW.all 25 [(1, 27), (5, 57), (10, 1049)] _ (by kernel_rfl) (by simp) ?_
  simp only [wy, wq, simprocAttr]
  refine ⟨?_, ?_, ?_⟩
  ·refine vcall_io 0 ?_
   simp only [wq, simprocAttr]
   refine vxcall_ex (below_vx A c r b i h 4 hi hl (by omega)) ?_
   rintro pv ot ⟨m1, i1, h1, r1, rfl, ha1, hb1, hi1, rfl⟩
   simp only [wq, simprocAttr]
   revert m1 i1 h1 r1 ha1 hb1 hi1
   exact t27.h
  ·exact t57.h
  ·exact t1049.h
 ·intro m1 i1 h1 r1 ha1 hb1 hi1
  refine hW.all 27 [(2, 31), (5, 59), (10, 1051)] _ (by kernel_rfl) (by simp) ?_
  simp only [wy, wq, simprocAttr]
  refine ⟨?_, ?_, ?_⟩
  ·revert m1 i1 h1 r1 ha1 hb1 hi1
   exact t31.h
  ·revert m1 i1 h1 r1 ha1 hb1 hi1
   exact t59.h
  ·revert m1 i1 h1 r1 ha1 hb1 hi1
   exact t1051.h
 ·refine hW.all 57 [(1, 59), (6, 121), (10, 1081)] _ (by kernel_rfl) (by simp) ?_
  simp only [wy, wq, simprocAttr]
  refine ⟨?_, ?_, ?_⟩
  ·refine vcall_io 0 ?_
   simp only [wq, simprocAttr]
   refine vxcall_ex (below_vx A c r b i h 4 hi hl (by omega)) ?_
   rintro pv ot ⟨m1, i1, h1, r1, rfl, ha1, hb1, hi1, rfl⟩
   simp only [wq, simprocAttr]
   revert m1 i1 h1 r1 ha1 hb1 hi1
   exact t59.h
  ·exact t121.h
  ·exact t1081.h
 ·refine hW.all 1049 [(1, 1051), (5, 1081)] _ (by kernel_rfl) (by simp) ?_
  simp only [wy, wq, simprocAttr]
  refine ⟨?_, ?_⟩
  ·refine vcall_io 0 ?_
   simp only [wq, simprocAttr]
   refine vxcall_ex (below_vx A c r b i h 4 hi hl (by omega)) ?_
   rintro pv ot ⟨m1, i1, h1, r1, rfl, ha1, hb1, hi1, rfl⟩
   simp only [wq, simprocAttr]
   revert m1 i1 h1 r1 ha1 hb1 hi1
   exact t1051.h
  ·exact t1081.h
 ·intro m1 i1 h1 r1 ha1 hb1 hi1
  refine hW.all 31 [(5, 63), (10, 1055)] _ (by kernel_rfl) (by simp) ?_
  simp only [wy, wq, simprocAttr]
  refine ⟨?_, ?_⟩
  ·revert m1 i1 h1 r1 ha1 hb1 hi1
   exact t63.h
  ·revert m1 i1 h1 r1 ha1 hb1 hi1
   exact t1055.h
 ·intro m1 i1 h1 r1 ha1 hb1 hi1
  refine hW.all 59 [(2, 63), (6, 123), (10, 1083)] _ (by kernel_rfl) (by simp) ?_
  simp only [wy, wq, simprocAttr]
  refine ⟨?_, ?_, ?_⟩
  ·revert m1 i1 h1 r1 ha1 hb1 hi1
   exact t63.h
  ·revert m1 i1 h1 r1 ha1 hb1 hi1
   exact t123.h
  ·revert m1 i1 h1 r1 ha1 hb1 hi1
   exact t1083.h
 ·refine hW.all 121 [(1, 123), (7, 249), (10, 1145)] _ (by kernel_rfl) (by simp) ?_
  simp only [wy, wq, simprocAttr]
  refine ⟨?_, ?_, ?_⟩
  ·refine vcall_io 0 ?_
   simp only [wq, simprocAttr]
   refine vxcall_ex (below_vx A c r b i h 4 hi hl (by omega)) ?_
   rintro pv ot ⟨m1, i1, h1, r1, rfl, ha1, hb1, hi1, rfl⟩
   simp only [wq, simprocAttr]
   revert m1 i1 h1 r1 ha1 hb1 hi1
   exact t123.h
  ·exact t249.h
  ·exact t1145.h
 ·intro m1 i1 h1 r1 ha1 hb1 hi1
  refine hW.all 1051 [(2, 1055), (5, 1083)] _ (by kernel_rfl) (by simp) ?_
  simp only [wy, wq, simprocAttr]
  refine ⟨?_, ?_⟩
  ·revert m1 i1 h1 r1 ha1 hb1 hi1
   exact t1055.h
  ·revert m1 i1 h1 r1 ha1 hb1 hi1
   exact t1083.h
 ·refine hW.all 1081 [(1, 1083), (6, 1145)] _ (by kernel_rfl) (by simp) ?_
  simp only [wy, wq, simprocAttr]
  refine ⟨?_, ?_⟩
  ·refine vcall_io 0 ?_
   simp only [wq, simprocAttr]
   refine vxcall_ex (below_vx A c r b i h 4 hi hl (by omega)) ?_
   rintro pv ot ⟨m1, i1, h1, r1, rfl, ha1, hb1, hi1, rfl⟩
   simp only [wq, simprocAttr]
   revert m1 i1 h1 r1 ha1 hb1 hi1
   exact t1083.h
  ·exact t1145.h
 ·intro m1 i1 h1 r1 ha1 hb1 hi1
  refine hW.all 63 [(6, 127), (10, 1087)] _ (by kernel_rfl) (by simp) ?_
  simp only [wy, wq, simprocAttr]
  refine ⟨?_, ?_⟩
  ·revert m1 i1 h1 r1 ha1 hb1 hi1
   exact t127.h
  ·revert m1 i1 h1 r1 ha1 hb1 hi1
   exact t1087.h
 ·intro m1 i1 h1 r1 ha1 hb1 hi1
  refine hW.all 123 [(2, 127), (7, 251), (10, 1147)] _ (by kernel_rfl) (by simp) ?_
  simp only [wy, wq, simprocAttr]
  refine ⟨?_, ?_, ?_⟩
  ·revert m1 i1 h1 r1 ha1 hb1 hi1
   exact t127.h
  ·revert m1 i1 h1 r1 ha1 hb1 hi1
   exact t251.h
  ·revert m1 i1 h1 r1 ha1 hb1 hi1
   exact t1147.h
 ·refine hW.all 249 [(1, 251), (10, 1273)] _ (by kernel_rfl) (by simp) ?_
  simp only [wy, wq, simprocAttr]
  refine ⟨?_, ?_⟩
  ·refine vcall_io 0 ?_
   simp only [wq, simprocAttr]
   refine vxcall_ex (below_vx A c r b i h 4 hi hl (by omega)) ?_
   rintro pv ot ⟨m1, i1, h1, r1, rfl, ha1, hb1, hi1, rfl⟩
   simp only [wq, simprocAttr]
   revert m1 i1 h1 r1 ha1 hb1 hi1
   exact t251.h
  ·exact t1273.h
 ·intro m1 i1 h1 r1 ha1 hb1 hi1
  refine hW.all 1055 [(5, 1087)] _ (by kernel_rfl) (by simp) ?_
  simp only [wy, wq, simprocAttr]
  skip
  revert m1 i1 h1 r1 ha1 hb1 hi1
  exact t1087.h
 ·intro m1 i1 h1 r1 ha1 hb1 hi1
  refine hW.all 1083 [(2, 1087), (6, 1147)] _ (by kernel_rfl) (by simp) ?_
  simp only [wy, wq, simprocAttr]
  refine ⟨?_, ?_⟩
  ·revert m1 i1 h1 r1 ha1 hb1 hi1
   exact t1087.h
  ·revert m1 i1 h1 r1 ha1 hb1 hi1
   exact t1147.h
 ·refine hW.all 1145 [(1, 1147), (7, 1273)] _ (by kernel_rfl) (by simp) ?_
  simp only [wy, wq, simprocAttr]
  refine ⟨?_, ?_⟩
  ·refine vcall_io 0 ?_
   simp only [wq, simprocAttr]
   refine vxcall_ex (below_vx A c r b i h 4 hi hl (by omega)) ?_
   rintro pv ot ⟨m1, i1, h1, r1, rfl, ha1, hb1, hi1, rfl⟩
   simp only [wq, simprocAttr]
   revert m1 i1 h1 r1 ha1 hb1 hi1
   exact t1147.h
  ·exact t1273.h
 ·intro m1 i1 h1 r1 ha1 hb1 hi1
  refine hW.all 127 [(7, 255), (10, 1151)] _ (by kernel_rfl) (by simp) ?_
  simp only [wy, wq, simprocAttr]
  refine ⟨?_, ?_⟩
  ·revert m1 i1 h1 r1 ha1 hb1 hi1
   exact t255.h
  ·revert m1 i1 h1 r1 ha1 hb1 hi1
   exact t1151.h
 ·intro m1 i1 h1 r1 ha1 hb1 hi1
  refine hW.all 251 [(2, 255), (8, 507), (10, 1275)] _ (by kernel_rfl) (by simp) ?_
  simp only [wy, wq, simprocAttr]
  refine ⟨?_, ?_, ?_⟩
  ·revert m1 i1 h1 r1 ha1 hb1 hi1
   exact t255.h
  ·rw [wrap64 (by omega) (by omega)]
   refine vcall_io 0 ?_
   simp only [wq, simprocAttr]
   refine vxcall_ex (below_vx A c r1 b i1 h1 ((t.length : Int) + 1) hi1 hl (by omega)) ?_
   rintro pv ot ⟨m2, i2, h2, r2, rfl, ha2, hb2, hi2, rfl⟩
   simp only [wq, simprocAttr]
   revert m1 i1 h1 r1 ha1 hb1 hi1 m2 i2 h2 r2 ha2 hb2 hi2
   exact t507.h
  ·revert m1 i1 h1 r1 ha1 hb1 hi1
   exact t1275.h
 ·intro m1 i1 h1 r1 ha1 hb1 hi1
  refine hW.all 1087 [(6, 1151)] _ (by kernel_rfl) (by simp) ?_
  simp only [wy, wq, simprocAttr]
  skip
  revert m1 i1 h1 r1 ha1 hb1 hi1
  exact t1151.h
 ·intro m1 i1 h1 r1 ha1 hb1 hi1
  refine hW.all 1147 [(2, 1151), (7, 1275)] _ (by kernel_rfl) (by simp) ?_
  simp only [wy, wq, simprocAttr]
  refine ⟨?_, ?_⟩
  ·revert m1 i1 h1 r1 ha1 hb1 hi1
   exact t1151.h
  ·revert m1 i1 h1 r1 ha1 hb1 hi1
   exact t1275.h
 ·refine hW.all 1273 [(1, 1275)] _ (by kernel_rfl) (by simp) ?_
  simp only [wy, wq, simprocAttr]
  skip
  refine vcall_io 0 ?_
  simp only [wq, simprocAttr]
  refine vxcall_ex (below_vx A c r b i h 4 hi hl (by omega)) ?_
  rintro pv ot ⟨m1, i1, h1, r1, rfl, ha1, hb1, hi1, rfl⟩
  simp only [wq, simprocAttr]
  revert m1 i1 h1 r1 ha1 hb1 hi1
  exact t1275.h
 ·intro m1 i1 h1 r1 ha1 hb1 hi1
  refine hW.all 255 [(8, 511), (10, 1279)] _ (by kernel_rfl) (by simp) ?_
  simp only [wy, wq, simprocAttr]
  refine ⟨?_, ?_⟩
  ·rw [wrap64 (by omega) (by omega)]
   refine vcall_io 0 ?_
   simp only [wq, simprocAttr]
   refine vxcall_ex (below_vx A c r1 b i1 h1 ((t.length : Int) + 1) hi1 hl (by omega)) ?_
   rintro pv ot ⟨m2, i2, h2, r2, rfl, ha2, hb2, hi2, rfl⟩
   simp only [wq, simprocAttr]
   revert m1 i1 h1 r1 ha1 hb1 hi1 m2 i2 h2 r2 ha2 hb2 hi2
   exact t511.h
  ·revert m1 i1 h1 r1 ha1 hb1 hi1
   exact t1279.h
 ·intro m1 i1 h1 r1 ha1 hb1 hi1 m2 i2 h2 r2 ha2 hb2 hi2
  refine hW.all 507 [(2, 511), (10, 1531)] _ (by kernel_rfl) (by simp) ?_
  simp only [wy, wq, simprocAttr]
  refine ⟨?_, ?_⟩
  ·revert m1 i1 h1 r1 ha1 hb1 hi1 m2 i2 h2 r2 ha2 hb2 hi2
   exact t511.h
  ·revert m1 i1 h1 r1 ha1 hb1 hi1 m2 i2 h2 r2 ha2 hb2 hi2
   exact t1531.h
 ·intro m1 i1 h1 r1 ha1 hb1 hi1
  refine hW.all 1151 [(7, 1279)] _ (by kernel_rfl) (by simp) ?_
  simp only [wy, wq, simprocAttr]
  skip
  revert m1 i1 h1 r1 ha1 hb1 hi1
  exact t1279.h
 ·intro m1 i1 h1 r1 ha1 hb1 hi1
  refine hW.all 1275 [(2, 1279), (8, 1531)] _ (by kernel_rfl) (by simp) ?_
  simp only [wy, wq, simprocAttr]
  refine ⟨?_, ?_⟩
  ·revert m1 i1 h1 r1 ha1 hb1 hi1
   exact t1279.h
  ·rw [wrap64 (by omega) (by omega)]
   refine vcall_io 0 ?_
   simp only [wq, simprocAttr]
   refine vxcall_ex (below_vx A c r1 b i1 h1 ((t.length : Int) + 1) hi1 hl (by omega)) ?_
   rintro pv ot ⟨m2, i2, h2, r2, rfl, ha2, hb2, hi2, rfl⟩
   simp only [wq, simprocAttr]
   revert m1 i1 h1 r1 ha1 hb1 hi1 m2 i2 h2 r2 ha2 hb2 hi2
   exact t1531.h
 ·intro m1 i1 h1 r1 ha1 hb1 hi1 m2 i2 h2 r2 ha2 hb2 hi2
  refine hW.all 511 [(9, 1023), (10, 1535)] _ (by kernel_rfl) (by simp) ?_
  simp only [wy, wq, simprocAttr]
  refine ⟨?_, ?_⟩
  ·revert m1 i1 h1 r1 ha1 hb1 hi1 m2 i2 h2 r2 ha2 hb2 hi2
   exact t1023.h
  ·revert m1 i1 h1 r1 ha1 hb1 hi1 m2 i2 h2 r2 ha2 hb2 hi2
   exact t1535.h
 ·intro m1 i1 h1 r1 ha1 hb1 hi1
  refine hW.all 1279 [(8, 1535)] _ (by kernel_rfl) (by simp) ?_
  simp only [wy, wq, simprocAttr]
  skip
  rw [wrap64 (by omega) (by omega)]
  refine vcall_io 0 ?_
  simp only [wq, simprocAttr]
  refine vxcall_ex (below_vx A c r1 b i1 h1 ((t.length : Int) + 1) hi1 hl (by omega)) ?_
  rintro pv ot ⟨m2, i2, h2, r2, rfl, ha2, hb2, hi2, rfl⟩
  simp only [wq, simprocAttr]
  revert m1 i1 h1 r1 ha1 hb1 hi1 m2 i2 h2 r2 ha2 hb2 hi2
  exact t1535.h
 ·intro m1 i1 h1 r1 ha1 hb1 hi1 m2 i2 h2 r2 ha2 hb2 hi2
  refine hW.all 1531 [(2, 1535)] _ (by kernel_rfl) (by simp) ?_
  simp only [wy, wq, simprocAttr]
  skip
  revert m1 i1 h1 r1 ha1 hb1 hi1 m2 i2 h2 r2 ha2 hb2 hi2
  exact t1535.h
 ·intro m1 i1 h1 r1 ha1 hb1 hi1 m2 i2 h2 r2 ha2 hb2 hi2
  refine hW.all 1023 [(10, 2047)] _ (by kernel_rfl) (by simp) ?_
  simp only [wy, wq, simprocAttr]
  skip
  revert m1 i1 h1 r1 ha1 hb1 hi1 m2 i2 h2 r2 ha2 hb2 hi2
  exact t2047.h
 ·intro m1 i1 h1 r1 ha1 hb1 hi1 m2 i2 h2 r2 ha2 hb2 hi2
  refine hW.all 1535 [(9, 2047)] _ (by kernel_rfl) (by simp) ?_
  simp only [wy, wq, simprocAttr]
  skip
  revert m1 i1 h1 r1 ha1 hb1 hi1 m2 i2 h2 r2 ha2 hb2 hi2
  exact t2047.h
 ·intro m1 i1 h1 r1 ha1 hb1 hi1 m2 i2 h2 r2 ha2 hb2 hi2
  refine hW.all 2047 [(11, 4095)] _ (by kernel_rfl) (by simp) ?_
  simp only [wy, wq, simprocAttr]
  skip
  revert m1 i1 h1 r1 ha1 hb1 hi1 m2 i2 h2 r2 ha2 hb2 hi2
  exact t4095.h
 ·intro m1 i1 h1 r1 ha1 hb1 hi1 m2 i2 h2 r2 ha2 hb2 hi2
  refine hW.done 4095 _ (by kernel_rfl) ?_
  revert m1 i1 h1 r1 ha1 hb1 hi1 m2 i2 h2 r2 ha2 hb2 hi2
  exact tK.h
 intro m1 i1 h1 r1 ha1 hb1 hi1 m2 i2 h2 r2 ha2 hb2 hi2
 refine hK _ ?_
 clear hW W hK K
 refine vthen_n ?_
 repeat refine VW.seq ?_
 refine VW.regl hT fun K hK => ?_
 simp only [wq, simprocAttr]
 refine hK _ ?_
 clear hK K
 try refine vthen_n ?_
 repeat refine VW.seq ?_
 refine VW.cond rfl (fun hc => ?_) (fun hc => ?_)
 ·repeat refine VW.seq ?_
  refine VW.regl hT fun K hK => ?_
  simp only [wq, simprocAttr]
  refine vcall_io 0 ?_
  simp only [wq, simprocAttr]
  refine vxcall_ex (had i2 h2 r2 hi2) ?_
  rintro pv ot ⟨m3, i3, h3, r3, rfl, -, hi3, rfl⟩
  simp only [wq, simprocAttr]
  refine hK _ ?_
  clear hK K
  try refine vthen_n ?_
  repeat refine VW.seq ?_
  refine VW.regl hT fun K hK => ?_
  simp only [wq, simprocAttr]
  refine hK _ ?_
  clear hK K
  try refine vthen_n ?_
  repeat refine VW.seq ?_
  refine VW.cond rfl (fun hc => ?_) (fun hc => ?_)
  ·repeat refine VW.seq ?_
   refine VW.regl hT fun K hK => ?_
   simp only [wq, simprocAttr]
   refine vcall_io 0 ?_
   simp only [wq, simprocAttr]
   refine vxcall_ex (below_vx A c r3 b i3 h3 1000 hi3 hl (by omega)) ?_
   rintro pv ot ⟨m4, i4, h4, r4, rfl, ha4, hb4, hi4, rfl⟩
   simp only [wq, simprocAttr]
   refine vcall_io 0 ?_
   simp only [wq, simprocAttr]
   refine vxcall_ex (pick_vx A c r4 b i4 h4 [1, 65535, m4] hi4 hl (by simp) (by simp)) ?_
   rintro pv ot ⟨m5, i5, h5, r5, rfl, ha5, hi5, rfl⟩
   simp only [wq, simprocAttr]
   refine hK _ ?_
   clear hK K
   try refine vthen_n ?_
   show vthen _ _ _ .normal _
   refine vthen_n ?_
   repeat refine VW.seq ?_
   refine VW.regl hT fun K hK => ?_
   simp only [wq, simprocAttr]
   refine hK _ ?_
   clear hK K
   try refine vthen_n ?_
   exact VW.ret ⟨.inl rfl, _, _, _, _, rfl, ⟨0, rfl⟩, _, i5, h5, r5, rfl, hi5, rfl⟩
  ·refine VW.skip ?_
   show vthen _ _ _ .normal _
   refine vthen_n ?_
   repeat refine VW.seq ?_
   refine VW.regl hT fun K hK => ?_
   simp only [wq, simprocAttr]
   refine hK _ ?_
   clear hK K
   try refine vthen_n ?_
   exact VW.ret ⟨.inl rfl, _, _, _, _, rfl, ⟨0, rfl⟩, _, i3, h3, r3, rfl, hi3, rfl⟩
 ·refine VW.skip (vthen_n ?_)
  repeat refine VW.seq ?_
  refine VW.regl hT fun K hK => ?_
  simp only [wq, simprocAttr]
  refine hK _ ?_
  clear hK K
  try refine vthen_n ?_
  exact VW.ret ⟨.inl rfl, _, _, _, _, rfl, ⟨0, rfl⟩, _, i2, h2, r2, rfl, hi2, rfl⟩
def actsR (A : Option Addr) (c : Nat) (b : List Int) (pv ot : PV) : Prop := ∃ (ks : List Ac) (i h : Int) (r : Fl), pv = .root (.val false) sAS .own ks ∧ ks.length ≤ 9 ∧ 0 ≤ i ∧ ot = .root bC sC (.pr (.kz A c) r) (b, i, h)
set_option maxRecDepth 20000 in
set_option maxHeartbeats 4000000 in
theorem actsD_vx (A : Option Addr) (c : Nat) (r : Fl) (b : List Int) (i h : Int) (x : Fab) (hx : fabOk x = true) (hi : 0 ≤ i) (hl : b.length ≤ 1048576) :
  VX Tryz.prog 67 [.root bC sC (.pr (.kz A c) r) (b, i, h), .v true sFi x] 0 (actsR A c b) := by
 have had := fun i h r (hi : 0 ≤ i) => actD_vx A c r b i h x hx hi hl
 refine VX.of_box hT Tryz.func67 rfl (by kernel_rfl) [(.tmp 4, false, sAS)] (by kernel_rfl) rfl fun bb => ?_
 show VW _ _ ([.root (.ibox 127 bb) sC (.pr (.kz A c) r) (b, i, h), .v true sFi x, D, D, D, D, D, D, D, D, D, D, D, D, D, D, D, D, D, D, D]) _
 repeat refine VW.seq ?_
 refine VW.regl hT fun K hK => ?_
 simp only [wq, simprocAttr]
 refine hK _ ?_
 clear hK K
 try refine vthen_n ?_
 repeat refine VW.seq ?_
 refine VW.regl hT fun K hK => ?_
 simp only [wq, simprocAttr]
 refine hK _ ?_
 clear hK K
 try refine vthen_n ?_
 repeat refine VW.seq ?_
 refine VW.regl hT fun K hK => ?_
 simp only [wq, simprocAttr]
 refine hK _ ?_
 clear hK K
 try refine vthen_n ?_
 repeat refine VW.seq ?_
 refine VW.block ?_
 refine VW.loop (α := List Ac × Int × Int × Fl) [(0, none), (3, none), (5, some (79, sAct)), (6, none)] (fun q => [.root (.ibox 127 bb) sC (.pr (.kz A c) q.2.2.2) (b, q.2.1, q.2.2.1), D, D, .root (.box 32) sFi .fz x, D, .root (.val false) sAS .own q.1, .v false (.int .i64) (q.1.length), D, D, D, D, D, D, D, D, D, D, D, D, D, D]) (fun q => q.1.length ≤ 9 ∧ 0 ≤ q.2.1) (fun q => 9 - q.1.length) ⟨([], i, h, r), ⟨Nat.zero_le _, hi⟩, ?_⟩ fun q hq => ?_
 ·simp only [wn, wq, simprocAttr]
  try rfl
 obtain ⟨ks, i, h, r⟩ := q
 obtain ⟨hk, hi⟩ := hq
 simp only at hk hi ⊢
 repeat refine VW.seq ?_
 refine VW.regl hT fun K hK => ?_
 simp only [wq, simprocAttr]
 refine vcall_io 0 ?_
 simp only [wq, simprocAttr]
 refine vxcall_ex (below_vx A c r b i h 9 hi hl (by omega)) ?_
 rintro pv ot ⟨m1, i1, h1, r1, rfl, ha1, hb1, hi1, rfl⟩
 simp only [wq, simprocAttr]
 refine hK _ ?_
 clear hK K
 try refine vthen_n ?_
 repeat refine VW.seq ?_
 refine VW.cond rfl (fun hc => ?_) (fun hc => ?_)
 ·have hlt : ks.length < 9 := by
   have : (ks.length : Int) < m1 := of_decide_eq_true hc
   omega
  refine VW.skip (vthen_n ?_)
  repeat refine VW.seq ?_
  refine VW.block ?_
  repeat refine VW.seq ?_
  refine VW.regl hT fun K hK => ?_
  simp only [wq, simprocAttr]
  refine vcall_io 0 ?_
  simp only [wq, simprocAttr]
  refine vxcall_ex (had i1 h1 r1 hi1) ?_
  rintro pv ot ⟨a, i2, h2, r2, rfl, hi2, rfl⟩
  simp only [wq, simprocAttr]
  refine ⟨by simp only [limOk]; exact decide_eq_true (by omega), ?_⟩
  refine hK _ ?_
  clear hK K
  try refine vthen_n ?_
  show vthen _ _ _ .normal _
  refine vthen_n ?_
  repeat refine VW.seq ?_
  refine VW.regl hT fun K hK => ?_
  simp only [wq, simprocAttr]
  refine hK _ ?_
  clear hK K
  try refine vthen_n ?_
  refine ⟨(ks ++ [a], i2, h2, r2), ⟨by show (ks ++ [a]).length ≤ 9; rw [List.length_append]; exact hlt, hi2⟩, ?_, by show 9 - (ks ++ [a]).length < 9 - ks.length; rw [List.length_append, List.length_singleton]; omega⟩
  simp only [wn, wq, simprocAttr]
  rw [wrap64 (by omega) (by omega), List.length_append, List.length_singleton, show (ks.length : Int) + 1 = ((ks.length + 1 : Nat) : Int) by omega]
 ·refine VW.exit ?_
  show vthen _ _ _ .normal _
  refine vthen_n ?_
  repeat refine VW.seq ?_
  refine VW.regl hT fun K hK => ?_
  simp only [wq, simprocAttr]
  refine hK _ ?_
  clear hK K
  try refine vthen_n ?_
  exact VW.ret ⟨.inl rfl, _, _, _, _, rfl, ⟨0, rfl⟩, ks, i1, h1, r1, rfl, hk, hi1, rfl⟩
abbrev rFA (x : Fab) (ks : List Ac) : PV := .root (.tup [true, false]) (.pr sFi sAS) (.pr fFab .own) (x, ks)
set_option maxRecDepth 20000 in
set_option maxHeartbeats 4000000 in
theorem drawActs_vc (b : List Int) (hl : b.length ≤ 1048576) : VC Tryz.prog 24 [.v false sB b] (fun pv => ∃ (x : Fab) (ks : List Ac), pv = rFA x ks ∧ fabOk x = true ∧ ks.length ≤ 9) := by
 refine VC.of_body hT Tryz.func24 rfl (by kernel_rfl) [(.cell 2 32, true, sFi), (.tmp 3, false, sAS)] (by kernel_rfl) ?_
 show VW _ _ ([.v false sB b, D, D, D, D, D, D, D, D, D, D, D, D, D]) _
 repeat refine VW.seq ?_
 refine VW.regl hT fun K hK => ?_
 simp only [wq, simprocAttr]
 refine hK _ ?_
 clear hK K
 try refine vthen_n ?_
 repeat refine VW.seq ?_
 refine VW.regl hT fun K hK => ?_
 simp only [wq, simprocAttr]
 refine vcall_ex (new_vc b hl) ?_
 rintro pv ⟨A, c, r, h, rfl⟩
 simp only [wq, simprocAttr]
 refine hK _ ?_
 clear hK K
 try refine vthen_n ?_
 repeat refine VW.seq ?_
 refine VW.regl hT fun K hK => ?_
 simp only [wq, simprocAttr]
 refine vcall_io 0 ?_
 simp only [wq, simprocAttr]
 refine vxcall_ex (fabD_vx A c r b 0 h (by decide) hl) ?_
 rintro pv ot ⟨x, i, h, r, rfl, hx, hi, rfl⟩
 simp only [wq, simprocAttr]
 refine hK _ ?_
 clear hK K
 try refine vthen_n ?_
 repeat refine VW.seq ?_
 refine VW.any hT hm fun K hK W hW => ?_
 apply cutl; intro tK
 apply cutl; intro t63
 apply cutl; intro t31
 apply cutl; intro t15
 apply cutl; intro t14
 apply cutl; intro t7
 apply cutl; intro t6
 apply cutl; intro t3
 ·refine hW.take 0 1 2 _ (by kernel_rfl) ?_
  simp only [wy, wq, simprocAttr]
  refine hW.all 2 [(0, 3), (2, 6)] _ (by kernel_rfl) (by simp) ?_
  simp only [wy, wq, simprocAttr]
  exact ⟨t3.h, t6.h⟩
 ·refine hW.all 3 [(2, 7)] _ (by kernel_rfl) (by simp) ?_
  simp only [wy, wq, simprocAttr]
  exact t7.h
 ·refine hW.all 6 [(0, 7), (3, 14)] _ (by kernel_rfl) (by simp) ?_
  simp only [wy, wq, simprocAttr]
  refine ⟨?_, ?_⟩
  ·exact t7.h
  ·refine vcall_io 0 ?_
   simp only [wq, simprocAttr]
   refine vxcall_ex (actsD_vx A c r b i h x hx hi hl) ?_
   rintro pv ot ⟨ks, i1, h1, r1, rfl, hk1, hi1, rfl⟩
   simp only [wq, simprocAttr]
   revert ks i1 h1 r1 hk1 hi1
   exact t14.h
 ·refine hW.all 7 [(3, 15)] _ (by kernel_rfl) (by simp) ?_
  simp only [wy, wq, simprocAttr]
  skip
  refine vcall_io 0 ?_
  simp only [wq, simprocAttr]
  refine vxcall_ex (actsD_vx A c r b i h x hx hi hl) ?_
  rintro pv ot ⟨ks, i1, h1, r1, rfl, hk1, hi1, rfl⟩
  simp only [wq, simprocAttr]
  revert ks i1 h1 r1 hk1 hi1
  exact t15.h
 ·intro ks i1 h1 r1 hk1 hi1
  refine hW.all 14 [(0, 15)] _ (by kernel_rfl) (by simp) ?_
  simp only [wy, wq, simprocAttr]
  skip
  revert ks i1 h1 r1 hk1 hi1
  exact t15.h
 ·intro ks i1 h1 r1 hk1 hi1
  refine hW.all 15 [(4, 31)] _ (by kernel_rfl) (by simp) ?_
  simp only [wy, wq, simprocAttr]
  skip
  revert ks i1 h1 r1 hk1 hi1
  exact t31.h
 ·intro ks i1 h1 r1 hk1 hi1
  refine hW.all 31 [(5, 63)] _ (by kernel_rfl) (by simp) ?_
  simp only [wy, wq, simprocAttr]
  skip
  revert ks i1 h1 r1 hk1 hi1
  exact t63.h
 ·intro ks i1 h1 r1 hk1 hi1
  refine hW.done 63 _ (by kernel_rfl) ?_
  revert ks i1 h1 r1 hk1 hi1
  exact tK.h
 intro ks i1 h1 r1 hk1 hi1
 refine hK _ ?_
 clear hW W hK K
 refine vthen_n ?_
 exact VW.ret ⟨.inl rfl, _, rfl, x, ks, rfl, hx, hk1⟩
end Go.Proofs.YtmechjnfeidnkaaGreat.V.W
end
section
namespace Go.Proofs.YtmechjnfeidnkaaGreat.V.W
open Go Go.RowKit
end Go.Proofs.YtmechjnfeidnkaaGreat.V.W
end
section
namespace Go.Proofs.YtmechjnfeidnkaaGreat.V.W
open Go Go.RowKit
theorem words_over {row d : List Int} (h : words row = true) (hd : words d = true) (lo : Nat) : words (over row lo d) = true := by
 rw [words_iff] at h hd ⊢
 intro x hx
 rw [over, List.mem_append, List.mem_append] at hx
 rcases hx with (hx | hx) | hx
 ·exact h x (List.mem_of_mem_take hx)
 ·exact hd x hx
 ·exact h x (List.mem_of_mem_drop hx)
theorem storeW_ok {x : Fab} {fr a : Int} {d : List Int} (hx : fabOk x = true) (ha : a ≤ 9223372036854775807) : fabOk (storeW x fr a d).1 = true ∧ (storeW x fr a d).1.1 = x.1 := by
 rw [storeW]
 split
 ·rename_i hw
  split
  ·rename_i h
   obtain ⟨t, s, b, m, g⟩ := x
   obtain ⟨j, lo, n, h0, h1, h2, h3, h4, h5, h6, h7, h8⟩ := target_good (t := t) (s := s) (b := b) (m := m) (g := g) (fr := fr) (a := a) (l := d.length) (k := (targetOf (t, s, b, m, g) fr a d.length).1) (Prod.ext rfl h) ha
   obtain rfl : d.length = n := by omega
   have h4 : (IntKind.i64.wrap (a - (b.getD j zb).2)).toNat = lo := by rw [h4, Int.toNat_natCast]
   obtain ⟨p1, p2, p3, p4, p5⟩ := fab_parts hx
   refine ⟨?_, rfl⟩
   rw [h0, Int.toNat_natCast]
   show fabOk (t, s, b, m.set j (over (m.getD j []) (IntKind.i64.wrap (a - (b.getD j zb).2)).toNat d), g) = true
   rw [h4, ← p2]
   refine fab_mk p1 ⟨by rw [List.length_set]; exact p3, fun k hk => ?_⟩ (guard_len p4).1 (fun _ => guard_zero p4)
   rw [List.length_set] at hk
   rw [getD_setL _ _ _ _ _ h2]
   split
   ·rename_i e
    subst e
    exact ⟨by rw [over_len h6]; exact (p5 k hk).1, words_over (p5 k hk).2 hw lo⟩
   ·exact p5 k hk
  ·exact ⟨hx, rfl⟩
 ·exact ⟨hx, rfl⟩
theorem doAct_ok {x : Fab} (a : Ac) (hx : fabOk x = true) : fabOk (doAct x a).1 = true ∧ (doAct x a).1.1 = x.1 := by
 rw [doAct]
 split
 ·rename_i h
  rw [Bool.and_eq_true] at h
  have := act_addr h.2
  split
  ·exact storeW_ok hx (by omega)
  ·split
   ·exact ⟨hx, rfl⟩
   ·refine ⟨?_, rfl⟩
    obtain ⟨t, s, b, m, g⟩ := x
    obtain ⟨p1, p2, p3, p4, p5⟩ := fab_parts hx
    show fabOk (t, s, b, m, (setG t g a.2.1 (a.1 == 4)).1) = true
    rw [← p2]
    refine fab_mk p1 ⟨p3, p5⟩ (by rw [setG_len]; exact (guard_len p4).1) fun _ => ?_
    have h0 := guard_zero p4
    rw [setG]
    split
    ·rename_i hk
     rw [Bool.and_eq_true, Bool.and_eq_true] at hk
     have := inB_iff.1 hk.2.1
     show (g.set a.2.1.toNat (a.1 == 4)).getD 0 false = true
     rw [List.getD_eq_getElem?_getD, List.getElem?_set_ne (by omega), ← List.getD_eq_getElem?_getD]
     exact h0
    ·exact h0
 ·exact ⟨hx, rfl⟩
theorem runTo_ok {x : Fab} (hx : fabOk x = true) (ks : List Ac) : ∀ i, i ≤ ks.length → fabOk (runTo x (ks.take i)).1 = true ∧ (runTo x (ks.take i)).1.1 = x.1
 | 0, _ => ⟨hx, rfl⟩
 | i + 1, h => by
  obtain ⟨h1, h2⟩ := runTo_ok hx ks i (by omega)
  rw [runTo_succ x (by omega)]
  obtain ⟨h3, h4⟩ := doAct_ok (ks.getD i zA) h1
  exact ⟨h3, h4.trans h2⟩
theorem runActs_ok {x : Fab} (hx : fabOk x = true) {ks : List Ac} (hk : ks.length ≤ 40) : runActs x ks = runTo x ks ∧ fabOk (runActs x ks).1 = true ∧ (runActs x ks).1.1 = x.1 ∧ (runActs x ks).2.length = ks.length := by
 have e : runActs x ks = runTo x ks := by rw [runActs, if_pos (by rw [hx, decide_eq_true hk]; rfl)]
 obtain ⟨h1, h2⟩ := runTo_ok hx ks ks.length (Nat.le_refl _)
 have h3 := (runTo_sh x ks ks.length (Nat.le_refl _)).2
 rw [List.take_length] at h1 h2 h3
 rw [e]
 exact ⟨rfl, h1, h2, h3⟩
end Go.Proofs.YtmechjnfeidnkaaGreat.V.W
end

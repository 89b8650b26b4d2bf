/- Texts F16 G1 G2 G3 Y1 F17 F18 F19 N3 E1 E4 N6 N7 N8 W7 Q1 H1 H2 K1 K2 K4 G4 G5 F20 C1 F21 N17 Q2 in one. No condition. -/
import Derived.Test.YtoeblmcibheldaaGreatDoorZFormatFabric4
import Derived.Orders
import Derived.Laws.BytesArg
import Derived.Lib.ItoaNum
import Derived.Lib.ItoaLen
import Derived.Shelf.Strconv.Itoa0
import Derived.Shelf.Strconv.Itoa1
import Derived.Shelf.LaysM
import Derived.Shelf.Strconv.Itoa2
import Derived.Shelf.Strconv.Itoa3
import Derived.Test.YtoeblmcibheldaaGreatDoorProg
import Derived.Lib.AppendIntMem
set_option linter.unnecessarySimpa false
set_option linter.unusedSimpArgs false
set_option linter.unusedVariables false
section
namespace Go.Proofs.YtoeblmcibheldaaGreatDoor.V.W
open Go Go.RowKit
set_option maxRecDepth 20000 in
set_option maxHeartbeats 1000000 in
theorem specEnum_vc (t : List Nd) (hl : t.length ≤ 2000000) : VC Tryz.prog 119 [.v false sNS t] (fun pv => if treeOk t = true then ∃ x, pv = rNum (.pr .own (.pr .own .own)) x true else pv = rNum .own ([], [], []) false) := by
 refine VC.of_body hT Tryz.func119 rfl (by kernel_rfl) [(.cell 2 145, true, sI3), (.tmp 3, false, .bool)] (by kernel_rfl) ?_
 show VW _ _ ([.v false sNS t, D, D, D, D, D, D, D, D, D, D, D, D, D, D, D, D, D, D, D, D, D, D, D, D, D, D, D, D, D, D, D, D, D, D, D, D, D, D, D, D, D, D, D]) _
 repeat refine VW.seq ?_
 refine VW.regl hT fun K hK => ?_
 simp only [wq, Nat.reduceMul, reduceCtorEq, Nat.reduceBEq, Nat.reduceAdd, Nat.reduceLT, Nat.reduceLeDiff, Nat.reduceSub, Nat.reduceEqDiff]
 refine hK _ ?_
 clear hK K
 try refine vthen_n ?_
 repeat refine VW.seq ?_
 refine VW.regl hT fun K hK => ?_
 simp only [wq, Nat.reduceMul, reduceCtorEq, Nat.reduceBEq, Nat.reduceAdd, Nat.reduceLT, Nat.reduceLeDiff, Nat.reduceSub, Nat.reduceEqDiff]
 refine vcall_of (specTreeOk_vc t hl) ?_
 simp only [wq, Nat.reduceMul, reduceCtorEq, Nat.reduceBEq, Nat.reduceAdd, Nat.reduceLT, Nat.reduceLeDiff, Nat.reduceSub, Nat.reduceEqDiff]
 refine hK _ ?_
 clear hK K
 try refine vthen_n ?_
 repeat refine VW.seq ?_
 refine VW.cond rfl (fun hc => ?_) (fun hc => ?_)
 ·repeat refine VW.seq ?_
  refine VW.regl hT fun K hK => ?_
  simp only [wq, Nat.reduceMul, reduceCtorEq, Nat.reduceBEq, Nat.reduceAdd, Nat.reduceLT, Nat.reduceLeDiff, Nat.reduceSub, Nat.reduceEqDiff]
  refine hK _ ?_
  clear hK K
  try refine vthen_n ?_
  refine VW.ret ⟨.inl rfl, _, rfl, ?_⟩
  have h' : treeOk t = false := (Bool.not_eq_true' _).mp hc
  rw [if_neg (by rw [h']; decide)]
 have hok : treeOk t = true := by
  have := hc
  rwa [Bool.not_eq_false'] at this
 have htl := treeOk_len hok
 refine VW.skip (vthen_n ?_)
 repeat refine VW.seq ?_
 refine VW.regl hT fun K hK => ?_
 simp only [wq, Nat.reduceMul, reduceCtorEq, Nat.reduceBEq, Nat.reduceAdd, Nat.reduceLT, Nat.reduceLeDiff, Nat.reduceSub, Nat.reduceEqDiff]
 refine hK _ ?_
 clear hK K
 try refine vthen_n ?_
 repeat refine VW.seq ?_
 refine VW.regl hT fun K hK => ?_
 simp only [wq, Nat.reduceMul, reduceCtorEq, Nat.reduceBEq, Nat.reduceAdd, Nat.reduceLT, Nat.reduceLeDiff, Nat.reduceSub, Nat.reduceEqDiff]
 refine hK _ ?_
 clear hK K
 try refine vthen_n ?_
 refine VW.retag (ι := Unit) (g := 4) (fun _ => fI3) _ rfl (fun w Z cs B h => ⟨(), h⟩) (fun j => by simp only [wq, Nat.reduceMul, reduceCtorEq, Nat.reduceBEq, Nat.reduceAdd, Nat.reduceLT, Nat.reduceLeDiff, Nat.reduceSub, Nat.reduceEqDiff]; rfl) (fun _ => ?_)
 repeat refine VW.seq ?_
 refine VW.block ?_
 refine VW.loop (α := Nat × I3) [(0, none), (2, none), (4, none), (5, none)] (fun p => [.v false sNS t, D, .root (.box 145) sI3 .own ([], [], []), D, .root (.box 145) sI3 fI3 p.2, .v false (.int .i64) ((p.1 : Nat)), D, D, D, D, D, D, D, D, D, D, D, D, D, D, D, D, D, D, D, D, D, D, D, D, D, D, D, D, D, D, D, D, D, D, D, D, D, D]) (fun p => p.1 ≤ t.length ∧ Len3 p.1 p.2) (fun p => t.length - p.1) ⟨(0, [], [], []), ⟨by omega, rfl, rfl, rfl⟩, ?_⟩ fun ⟨i, b, s, l⟩ ⟨hi, hb, hs, hl⟩ => ?_
 ·simp only [wn, wq, Nat.reduceMul, reduceCtorEq, Nat.reduceBEq, Nat.reduceAdd, Nat.reduceLT, Nat.reduceLeDiff, Nat.reduceSub, Nat.reduceEqDiff]
  try rfl
 have hi : i ≤ t.length := hi
 have hb : b.length = i := hb
 have hs : s.length = i := hs
 have hl : l.length = i := hl
 repeat refine VW.seq ?_
 refine VW.regl hT fun K hK => ?_
 simp only [wq, Nat.reduceMul, reduceCtorEq, Nat.reduceBEq, Nat.reduceAdd, Nat.reduceLT, Nat.reduceLeDiff, Nat.reduceSub, Nat.reduceEqDiff]
 refine hK _ ?_
 clear hK K
 try refine vthen_n ?_
 repeat refine VW.seq ?_
 refine VW.cond rfl (fun hc => ?_) (fun hc => ?_)
 ·have hlt : i < t.length := by simpa using hc
  refine VW.skip (vthen_n ?_)
  repeat refine VW.seq ?_
  refine VW.block ?_
  repeat refine VW.seq ?_
  refine VW.regl hT fun K hK => ?_
  simp only [wq, Nat.reduceMul, reduceCtorEq, Nat.reduceBEq, Nat.reduceAdd, Nat.reduceLT, Nat.reduceLeDiff, Nat.reduceSub, Nat.reduceEqDiff]
  refine ⟨by simp [limOk]; omega, ?_⟩
  refine hK _ ?_
  clear hK K
  try refine vthen_n ?_
  repeat refine VW.seq ?_
  refine VW.regl hT fun K hK => ?_
  simp only [wq, Nat.reduceMul, reduceCtorEq, Nat.reduceBEq, Nat.reduceAdd, Nat.reduceLT, Nat.reduceLeDiff, Nat.reduceSub, Nat.reduceEqDiff]
  refine ⟨by simp [limOk]; omega, ?_⟩
  refine hK _ ?_
  clear hK K
  try refine vthen_n ?_
  repeat refine VW.seq ?_
  refine VW.regl hT fun K hK => ?_
  simp only [wq, Nat.reduceMul, reduceCtorEq, Nat.reduceBEq, Nat.reduceAdd, Nat.reduceLT, Nat.reduceLeDiff, Nat.reduceSub, Nat.reduceEqDiff]
  refine ⟨by simp [limOk]; omega, ?_⟩
  refine hK _ ?_
  clear hK K
  try refine vthen_n ?_
  repeat refine VW.seq ?_
  refine VW.regl hT fun K hK => ?_
  simp only [wq, Nat.reduceMul, reduceCtorEq, Nat.reduceBEq, Nat.reduceAdd, Nat.reduceLT, Nat.reduceLeDiff, Nat.reduceSub, Nat.reduceEqDiff]
  refine hK _ ?_
  clear hK K
  try refine vthen_n ?_
  refine ⟨(i + 1, b ++ [0], s ++ [-1], l ++ [-1]), ⟨hlt, by show (b ++ [0]).length = i + 1; simp [hb], by show (s ++ [-1]).length = i + 1; simp [hs], by show (l ++ [-1]).length = i + 1; simp [hl]⟩, ?_, by show t.length - (i + 1) < t.length - i; omega⟩
  simp only [wn, wq, Nat.reduceMul, reduceCtorEq, Nat.reduceBEq, Nat.reduceAdd, Nat.reduceLT, Nat.reduceLeDiff, Nat.reduceSub, Nat.reduceEqDiff]
  rw [wrap64 (by omega) (by omega)]
  try rfl
 ·have hge : i = t.length := by
   have : t.length ≤ i := by simpa using hc
   omega
  subst hge
  have hs0 := subs_root hok
  refine VW.exit ?_
  show vthen _ _ _ .normal _
  refine vthen_n ?_
  repeat refine VW.seq ?_
  refine VW.regl hT fun K hK => ?_
  simp only [wq, Nat.reduceMul, reduceCtorEq, Nat.reduceBEq, Nat.reduceAdd, Nat.reduceLT, Nat.reduceLeDiff, Nat.reduceSub, Nat.reduceEqDiff]
  refine ⟨decide_eq_true ⟨by decide, by show (0 : Int) < (b.length : Int); omega⟩, ?_⟩
  refine hK _ ?_
  clear hK K
  try refine vthen_n ?_
  repeat refine VW.seq ?_
  refine VW.regl hT fun K hK => ?_
  simp only [wq, Nat.reduceMul, reduceCtorEq, Nat.reduceBEq, Nat.reduceAdd, Nat.reduceLT, Nat.reduceLeDiff, Nat.reduceSub, Nat.reduceEqDiff]
  refine ⟨decide_eq_true ⟨by decide, by show (0 : Int) < (s.length : Int); omega⟩, ?_⟩
  refine hK _ ?_
  clear hK K
  try refine vthen_n ?_
  have hb' : (b.set (Int.toNat 0) (-1)).length = t.length := by rw [List.length_set]; exact hb
  have hs' : (s.set (Int.toNat 0) 0).length = t.length := by rw [List.length_set]; exact hs
  generalize b.set (Int.toNat 0) (-1) = b' at hb' ⊢
  generalize s.set (Int.toNat 0) 0 = s' at hs' ⊢
  repeat refine VW.seq ?_
  refine VW.regl hT fun K hK => ?_
  simp only [wq, Nat.reduceMul, reduceCtorEq, Nat.reduceBEq, Nat.reduceAdd, Nat.reduceLT, Nat.reduceLeDiff, Nat.reduceSub, Nat.reduceEqDiff]
  refine vcall_io 1 ?_
  simp only [wq, Nat.reduceMul, reduceCtorEq, Nat.reduceBEq, Nat.reduceAdd, Nat.reduceLT, Nat.reduceLeDiff, Nat.reduceSub, Nat.reduceEqDiff]
  refine vxcall_ex (svisit_vx hok t.length 0 (by omega) (by omega) (b', s', l) 0 ⟨hb', hs', hl⟩ (by omega)) ?_
  rintro pv ot ⟨rfl, x, hx, rfl⟩
  simp only [wq, Nat.reduceMul, reduceCtorEq, Nat.reduceBEq, Nat.reduceAdd, Nat.reduceLT, Nat.reduceLeDiff, Nat.reduceSub, Nat.reduceEqDiff]
  refine hK _ ?_
  clear hK K
  try refine vthen_n ?_
  repeat refine VW.seq ?_
  refine VW.cond rfl (fun hc => ?_) (fun hc => ?_)
  ·have hc : ((subs t 0 : Nat) : Int) > 15 := of_decide_eq_true hc
   omega
  refine VW.skip (vthen_n ?_)
  repeat refine VW.seq ?_
  refine VW.regl hT fun K hK => ?_
  simp only [wq, Nat.reduceMul, reduceCtorEq, Nat.reduceBEq, Nat.reduceAdd, Nat.reduceLT, Nat.reduceLeDiff, Nat.reduceSub, Nat.reduceEqDiff]
  refine hK _ ?_
  clear hK K
  try refine vthen_n ?_
  refine VW.ret ⟨.inl rfl, _, rfl, ?_⟩
  rw [if_pos hok]
  exact ⟨x, rfl⟩
end Go.Proofs.YtoeblmcibheldaaGreatDoor.V.W
end
section
namespace Go.Proofs.YtoeblmcibheldaaGreatDoor.V.W
open Go Go.RowKit
/-- what is left of n when k was taken -/
def Left (n : Int) (r : PV) (k : Nat) : Prop := ∃ m : Int, r = .v false (.int .i64) m ∧ m ≤ n ∧ (0 ≤ m → m + k ≤ n)
theorem row_eq {α : Type} {xs ys : List α} (z : α) (hlen : xs.length = ys.length) (h : ∀ k, k < xs.length → xs.getD k z = ys.getD k z) : xs = ys := by
 apply List.ext_getElem hlen
 intro k h1 h2
 have := h k h1
 simpa [List.getD_eq_getElem?_getD, h1, h2] using this
abbrev sII : Sh := .sl 25 sI
def _root_.Go.Proofs.YtoeblmcibheldaaGreatDoor.V.Sh.scal : Sh → Bool
 | .int _ => true
 | .bool => true
 | .unit => true
 | .pr a b => a.scal && b.scal
 | _ => false
theorem eqv_eq : ∀ {s : Sh} {x y : s.ty}, s.scal = true → (eqv s x y = true ↔ x = y)
 | .unit, _, _, _ => ⟨fun _ => rfl, fun _ => rfl⟩
 | .int _, x, y, _ => by simp [eqv]
 | .bool, x, y, _ => by simp [eqv]
 | .pr a b, x, y, h => by
  simp only [Sh.scal, Bool.and_eq_true] at h
  simp only [eqv, Bool.and_eq_true, eqv_eq h.1, eqv_eq h.2]
  exact ⟨fun ⟨p, q⟩ => Prod.ext p q, fun e => by rw [e]; exact ⟨rfl, rfl⟩⟩
set_option maxRecDepth 20000 in
theorem toIntS_vc (xs : List (Int)) (hl : xs.length * 8 ≤ 140737488351232) : VC Tryz.prog 46 [.v false (.sl 3 (.int .i64)) xs] (· = .root (.val false) (.sl 3 (.int .i64)) .own xs) := by
 refine VC.of_body hT Tryz.func46 rfl (by kernel_rfl) [(.tmp 2, false, .sl 3 (.int .i64))] (by kernel_rfl) ?_
 show VW _ _ ([.v false (.sl 3 (.int .i64)) xs, D, D, D, D, D, D, D, D, D, D, D, D, D, D, D, D, D, D, D, D, D]) _
 repeat refine VW.seq ?_
 refine VW.regl hT fun K hK => ?_
 simp only [wq, Nat.reduceMul, reduceCtorEq, Nat.reduceBEq, Nat.reduceAdd, Nat.reduceLT, Nat.reduceLeDiff, Nat.reduceSub, Nat.reduceEqDiff]
 refine hK _ ?_
 clear hK K
 try refine vthen_n ?_
 repeat refine VW.seq ?_
 refine VW.regl hT fun K hK => ?_
 simp only [wq, Nat.reduceMul, reduceCtorEq, Nat.reduceBEq, Nat.reduceAdd, Nat.reduceLT, Nat.reduceLeDiff, Nat.reduceSub, Nat.reduceEqDiff]
 refine ⟨by simp [limOk]; omega, ?_⟩
 refine hK _ ?_
 clear hK K
 try refine vthen_n ?_
 repeat refine VW.seq ?_
 refine VW.regl hT fun K hK => ?_
 simp only [wq, Nat.reduceMul, reduceCtorEq, Nat.reduceBEq, Nat.reduceAdd, Nat.reduceLT, Nat.reduceLeDiff, Nat.reduceSub, Nat.reduceEqDiff]
 refine hK _ ?_
 clear hK K
 try refine vthen_n ?_
 repeat refine VW.seq ?_
 refine VW.block ?_
 refine VW.loop (α := Nat) [(0, none), (3, none), (4, none)] (fun i => [.v false (.sl 3 (.int .i64)) xs, D, D, .root (.val false) (.sl 3 (.int .i64)) .own (fillTo xs 0 i), .v false (.int .i64) (i : Int), D, D, D, D, D, D, D, D, D, D, D, D, D, D, D, D, D]) (fun i => i ≤ xs.length) (fun i => xs.length - i) ⟨0, by omega, ?_⟩ fun i hi => ?_
 ·simp only [wn, wq, Nat.reduceMul, reduceCtorEq, Nat.reduceBEq, Nat.reduceAdd, Nat.reduceLT, Nat.reduceLeDiff, Nat.reduceSub, Nat.reduceEqDiff]
  rw [fillTo_zero]; rfl
 repeat refine VW.seq ?_
 refine VW.regl hT fun K hK => ?_
 simp only [wq, Nat.reduceMul, reduceCtorEq, Nat.reduceBEq, Nat.reduceAdd, Nat.reduceLT, Nat.reduceLeDiff, Nat.reduceSub, Nat.reduceEqDiff]
 refine hK _ ?_
 clear hK K
 try refine vthen_n ?_
 repeat refine VW.seq ?_
 refine VW.cond rfl (fun hc => ?_) (fun hc => ?_)
 ·have hlt : i < xs.length := by simpa using hc
  refine VW.skip (vthen_n ?_)
  repeat refine VW.seq ?_
  refine VW.block ?_
  repeat refine VW.seq ?_
  refine VW.regl hT fun K hK => ?_
  simp only [wq, Nat.reduceMul, reduceCtorEq, Nat.reduceBEq, Nat.reduceAdd, Nat.reduceLT, Nat.reduceLeDiff, Nat.reduceSub, Nat.reduceEqDiff]
  refine ⟨by simp; omega, by simp [fillTo_len hi]; omega, ?_⟩
  refine hK _ ?_
  clear hK K
  try refine vthen_n ?_
  repeat refine VW.seq ?_
  refine VW.regl hT fun K hK => ?_
  simp only [wq, Nat.reduceMul, reduceCtorEq, Nat.reduceBEq, Nat.reduceAdd, Nat.reduceLT, Nat.reduceLeDiff, Nat.reduceSub, Nat.reduceEqDiff]
  refine hK _ ?_
  clear hK K
  try refine vthen_n ?_
  refine ⟨i + 1, hlt, ?_, by show xs.length - (i + 1) < xs.length - i; omega⟩
  simp only [wn, wq, Nat.reduceMul, reduceCtorEq, Nat.reduceBEq, Nat.reduceAdd, Nat.reduceLT, Nat.reduceLeDiff, Nat.reduceSub, Nat.reduceEqDiff]
  rw [fillTo_set hlt, wrap64 (by omega) (by omega)]
  try rfl
 ·have hc : xs.length ≤ i := by simpa using hc
  refine VW.exit ?_
  show vthen _ _ _ .normal _
  refine vthen_n ?_
  repeat refine VW.seq ?_
  refine VW.regl hT fun K hK => ?_
  simp only [wq, Nat.reduceMul, reduceCtorEq, Nat.reduceBEq, Nat.reduceAdd, Nat.reduceLT, Nat.reduceLeDiff, Nat.reduceSub, Nat.reduceEqDiff]
  refine hK _ ?_
  clear hK K
  try refine vthen_n ?_
  refine VW.ret ⟨.inl rfl, _, rfl, ?_⟩
  rw [fillTo_all xs _ hc]
set_option maxRecDepth 20000 in
theorem eqIntS_vc (xs ys : List (Int)) (hl : xs.length * 8 ≤ 140737488351232) : VC Tryz.prog 51 [.v false (.sl 3 (.int .i64)) xs, .v false (.sl 3 (.int .i64)) ys] (· = .v false .bool (decide (xs = ys))) := by
 refine VC.of_body hT Tryz.func51 rfl (by kernel_rfl) [(.tmp 4, false, .bool)] (by kernel_rfl) ?_
 show VW _ _ ([.v false (.sl 3 (.int .i64)) xs, .v false (.sl 3 (.int .i64)) ys, D, D, D, D, D, D, D, D, D, D, D, D, D, D, D, D, D, D, D, D, D, D, D, D]) _
 repeat refine VW.seq ?_
 refine VW.regl hT fun K hK => ?_
 simp only [wq, simprocAttr]
 refine hK _ ?_
 clear hK K
 try refine vthen_n ?_
 repeat refine VW.seq ?_
 refine VW.regl hT fun K hK => ?_
 simp only [wq, simprocAttr]
 refine hK _ ?_
 clear hK K
 try refine vthen_n ?_
 repeat refine VW.seq ?_
 refine VW.cond rfl (fun hc => ?_) (fun hc => ?_)
 ·repeat refine VW.seq ?_
  refine VW.regl hT fun K hK => ?_
  simp only [wq, simprocAttr]
  refine hK _ ?_
  clear hK K
  try refine vthen_n ?_
  refine VW.ret ⟨.inl rfl, _, rfl, ?_⟩
  have : xs ≠ ys := fun e => by subst e; simp at hc
  simp [this]
 have hlen : xs.length = ys.length := by simp at hc; omega
 refine VW.skip (vthen_n ?_)
 repeat refine VW.seq ?_
 refine VW.regl hT fun K hK => ?_
 simp only [wq, simprocAttr]
 refine hK _ ?_
 clear hK K
 try refine vthen_n ?_
 repeat refine VW.seq ?_
 refine VW.block ?_
 refine VW.loop (α := Nat) [(0, none), (1, none), (5, none)] (fun i => [.v false (.sl 3 (.int .i64)) xs, .v false (.sl 3 (.int .i64)) ys, D, D, D, .v false (.int .i64) (i : Int), D, D, D, D, D, D, D, D, D, D, D, D, D, D, D, D, D, D, D, D]) (fun i => i ≤ xs.length ∧ ∀ k, k < i → xs.getD k 0 = ys.getD k 0) (fun i => xs.length - i) ⟨0, ⟨by omega, fun k hk => by omega⟩, ?_⟩ fun i ⟨hi, hk⟩ => ?_
 ·simp only [wn, wq, simprocAttr]
  try rfl
 repeat refine VW.seq ?_
 refine VW.regl hT fun K hK => ?_
 simp only [wq, simprocAttr]
 refine hK _ ?_
 clear hK K
 try refine vthen_n ?_
 repeat refine VW.seq ?_
 refine VW.cond rfl (fun hc => ?_) (fun hc => ?_)
 ·have hlt : i < xs.length := by simpa using hc
  refine VW.skip (vthen_n ?_)
  repeat refine VW.seq ?_
  refine VW.block ?_
  repeat refine VW.seq ?_
  refine VW.drawl hT hm (by kernel_rfl) fun K hK => ?_
  simp only [wq, simprocAttr]
  refine ⟨by simp; omega, by simp; omega, ?_⟩
  refine hK _ ?_
  clear hK K
  try refine vthen_n ?_
  repeat refine VW.seq ?_
  refine VW.cond rfl (fun hc => ?_) (fun hc => ?_)
  ·repeat refine VW.seq ?_
   refine VW.regl hT fun K hK => ?_
   simp only [wq, simprocAttr]
   refine hK _ ?_
   clear hK K
   try refine vthen_n ?_
   refine VW.ret ⟨.inl rfl, _, rfl, ?_⟩
   have : xs ≠ ys := fun e => by subst e; simp [eqv] at hc
   simp [this]
  ·have hxy : xs.getD i 0 = ys.getD i 0 := by
    have hc2 := hc
    rw [Bool.not_eq_false'] at hc2
    exact eq_of_beq hc2
   refine VW.skip ?_
   show vthen _ _ _ .normal _
   refine vthen_n ?_
   repeat refine VW.seq ?_
   refine VW.regl hT fun K hK => ?_
   simp only [wq, simprocAttr]
   refine hK _ ?_
   clear hK K
   try refine vthen_n ?_
   refine ⟨i + 1, ⟨hlt, fun k h => ?_⟩, ?_, by show xs.length - (i + 1) < xs.length - i; omega⟩
   ·rcases Nat.lt_or_ge k i with h1 | h1
    ·exact hk k h1
    ·obtain rfl : k = i := by omega
     exact hxy
   ·simp only [wn, wq, simprocAttr]
    rw [wrap64 (by omega) (by omega)]
    rfl
 ·have hc : xs.length ≤ i := by simpa using hc
  refine VW.exit ?_
  show vthen _ _ _ .normal _
  refine vthen_n ?_
  repeat refine VW.seq ?_
  refine VW.regl hT fun K hK => ?_
  simp only [wq, simprocAttr]
  refine hK _ ?_
  clear hK K
  try refine vthen_n ?_
  refine VW.ret ⟨.inl rfl, _, rfl, ?_⟩
  rw [row_eq 0 hlen fun k h => hk k (by omega)]
  simp
set_option maxRecDepth 20000 in
theorem eqBoolS_vc (xs ys : List (Bool)) (hl : xs.length * 1 ≤ 140737488351232) : VC Tryz.prog 93 [.v false (.sl 4 .bool) xs, .v false (.sl 4 .bool) ys] (· = .v false .bool (decide (xs = ys))) := by
 refine VC.of_body hT Tryz.func93 rfl (by kernel_rfl) [(.tmp 4, false, .bool)] (by kernel_rfl) ?_
 show VW _ _ ([.v false (.sl 4 .bool) xs, .v false (.sl 4 .bool) ys, D, D, D, D, D, D, D, D, D, D, D, D, D, D, D, D, D, D, D, D, D, D, D, D]) _
 repeat refine VW.seq ?_
 refine VW.regl hT fun K hK => ?_
 simp only [wq, simprocAttr]
 refine hK _ ?_
 clear hK K
 try refine vthen_n ?_
 repeat refine VW.seq ?_
 refine VW.regl hT fun K hK => ?_
 simp only [wq, simprocAttr]
 refine hK _ ?_
 clear hK K
 try refine vthen_n ?_
 repeat refine VW.seq ?_
 refine VW.cond rfl (fun hc => ?_) (fun hc => ?_)
 ·repeat refine VW.seq ?_
  refine VW.regl hT fun K hK => ?_
  simp only [wq, simprocAttr]
  refine hK _ ?_
  clear hK K
  try refine vthen_n ?_
  refine VW.ret ⟨.inl rfl, _, rfl, ?_⟩
  have : xs ≠ ys := fun e => by subst e; simp at hc
  simp [this]
 have hlen : xs.length = ys.length := by simp at hc; omega
 refine VW.skip (vthen_n ?_)
 repeat refine VW.seq ?_
 refine VW.regl hT fun K hK => ?_
 simp only [wq, simprocAttr]
 refine hK _ ?_
 clear hK K
 try refine vthen_n ?_
 repeat refine VW.seq ?_
 refine VW.block ?_
 refine VW.loop (α := Nat) [(0, none), (1, none), (5, none)] (fun i => [.v false (.sl 4 .bool) xs, .v false (.sl 4 .bool) ys, D, D, D, .v false (.int .i64) (i : Int), D, D, D, D, D, D, D, D, D, D, D, D, D, D, D, D, D, D, D, D]) (fun i => i ≤ xs.length ∧ ∀ k, k < i → xs.getD k false = ys.getD k false) (fun i => xs.length - i) ⟨0, ⟨by omega, fun k hk => by omega⟩, ?_⟩ fun i ⟨hi, hk⟩ => ?_
 ·simp only [wn, wq, simprocAttr]
  try rfl
 repeat refine VW.seq ?_
 refine VW.regl hT fun K hK => ?_
 simp only [wq, simprocAttr]
 refine hK _ ?_
 clear hK K
 try refine vthen_n ?_
 repeat refine VW.seq ?_
 refine VW.cond rfl (fun hc => ?_) (fun hc => ?_)
 ·have hlt : i < xs.length := by simpa using hc
  refine VW.skip (vthen_n ?_)
  repeat refine VW.seq ?_
  refine VW.block ?_
  repeat refine VW.seq ?_
  refine VW.drawl hT hm (by kernel_rfl) fun K hK => ?_
  simp only [wq, simprocAttr]
  refine ⟨by simp; omega, by simp; omega, ?_⟩
  refine hK _ ?_
  clear hK K
  try refine vthen_n ?_
  repeat refine VW.seq ?_
  refine VW.cond rfl (fun hc => ?_) (fun hc => ?_)
  ·repeat refine VW.seq ?_
   refine VW.regl hT fun K hK => ?_
   simp only [wq, simprocAttr]
   refine hK _ ?_
   clear hK K
   try refine vthen_n ?_
   refine VW.ret ⟨.inl rfl, _, rfl, ?_⟩
   have : xs ≠ ys := fun e => by subst e; simp [eqv] at hc
   simp [this]
  ·have hxy : xs.getD i false = ys.getD i false := by
    have hc2 := hc
    rw [Bool.not_eq_false'] at hc2
    exact (eqv_eq rfl).1 hc2
   refine VW.skip ?_
   show vthen _ _ _ .normal _
   refine vthen_n ?_
   repeat refine VW.seq ?_
   refine VW.regl hT fun K hK => ?_
   simp only [wq, simprocAttr]
   refine hK _ ?_
   clear hK K
   try refine vthen_n ?_
   refine ⟨i + 1, ⟨hlt, fun k h => ?_⟩, ?_, by show xs.length - (i + 1) < xs.length - i; omega⟩
   ·rcases Nat.lt_or_ge k i with h1 | h1
    ·exact hk k h1
    ·obtain rfl : k = i := by omega
     exact hxy
   ·simp only [wn, wq, simprocAttr]
    rw [wrap64 (by omega) (by omega)]
    rfl
 ·have hc : xs.length ≤ i := by simpa using hc
  refine VW.exit ?_
  show vthen _ _ _ .normal _
  refine vthen_n ?_
  repeat refine VW.seq ?_
  refine VW.regl hT fun K hK => ?_
  simp only [wq, simprocAttr]
  refine hK _ ?_
  clear hK K
  try refine vthen_n ?_
  refine VW.ret ⟨.inl rfl, _, rfl, ?_⟩
  rw [row_eq false hlen fun k h => hk k (by omega)]
  simp
end Go.Proofs.YtoeblmcibheldaaGreatDoor.V.W
end
section
namespace Go.Proofs.YtoeblmcibheldaaGreatDoor.V.W
open Go Go.RowKit
theorem szNodeS_vc (xs : List (Int × Int × Int)) (n : Int) (hl : xs.length * 1 ≤ 140737488351232) (h0 : 0 ≤ n) (h1 : n ≤ 1048576) : VC Tryz.prog 35 [.v false (.sl 117 sN) xs, .v false (.int .i64) n] (Left n · xs.length) := by
 refine VC.of_body hT Tryz.func35 rfl (by kernel_rfl) [(.tmp 4, false, .int .i64)] (by kernel_rfl) ?_
 show VW _ _ ([.v false (.sl 117 sN) xs, .v false (.int .i64) n, D, D, D, D, D, D, D, D, D, D]) _
 repeat refine VW.seq ?_
 refine VW.regl hT fun K hK => ?_
 simp only [wq, simprocAttr]
 refine hK _ ?_
 clear hK K
 try refine vthen_n ?_
 repeat refine VW.seq ?_
 refine VW.regl hT fun K hK => ?_
 simp only [wq, simprocAttr]
 refine hK _ ?_
 clear hK K
 try refine vthen_n ?_
 rw [wrap64 (by omega) (by omega)]
 repeat refine VW.seq ?_
 refine VW.regl hT fun K hK => ?_
 simp only [wq, simprocAttr]
 refine hK _ ?_
 clear hK K
 try refine vthen_n ?_
 repeat refine VW.seq ?_
 refine VW.cond rfl (fun hc => ?_) (fun hc => ?_)
 ·repeat refine VW.seq ?_
  refine VW.regl hT fun K hK => ?_
  simp only [wq, simprocAttr]
  refine hK _ ?_
  clear hK K
  try refine vthen_n ?_
  exact VW.ret ⟨.inl rfl, _, rfl, (-1 : Int), rfl, by omega, fun h => by omega⟩
 ·refine VW.skip (vthen_n ?_)
  repeat refine VW.seq ?_
  refine VW.regl hT fun K hK => ?_
  simp only [wq, simprocAttr]
  refine hK _ ?_
  clear hK K
  try refine vthen_n ?_
  have hc : ¬ ((n : Int) - xs.length < 0) := of_decide_eq_false hc
  exact VW.ret ⟨.inl rfl, _, rfl, (n - xs.length : Int), rfl, by omega, fun h => by omega⟩
set_option maxRecDepth 20000 in
theorem toNode_vc (x : Int × Int × Int) : VC Tryz.prog 88 [.v true sN x] (· = .v true sN x) := by
 refine VC.of_body hT Tryz.func88 rfl (by kernel_rfl) [(.cell 2 68, true, sN)] (by kernel_rfl) ?_
 show VW _ _ ([.v true sN x, D, D, D, D, D, D, D, D, D, D, D, D, D]) _
 repeat refine VW.seq ?_
 refine VW.regl hT fun K hK => ?_
 simp only [wq, simprocAttr]
 refine hK _ ?_
 clear hK K
 try refine vthen_n ?_
 repeat refine VW.seq ?_
 refine VW.regl hT fun K hK => ?_
 simp only [wq, simprocAttr]
 refine hK _ ?_
 clear hK K
 try refine vthen_n ?_
 repeat refine VW.seq ?_
 refine VW.regl hT fun K hK => ?_
 simp only [wq, simprocAttr]
 refine hK _ ?_
 clear hK K
 try refine vthen_n ?_
 repeat refine VW.seq ?_
 refine VW.regl hT fun K hK => ?_
 simp only [wq, simprocAttr]
 refine hK _ ?_
 clear hK K
 try refine vthen_n ?_
 repeat refine VW.seq ?_
 refine VW.regl hT fun K hK => ?_
 simp only [wq, simprocAttr]
 refine hK _ ?_
 clear hK K
 try refine vthen_n ?_
 repeat refine VW.seq ?_
 refine VW.regl hT fun K hK => ?_
 simp only [wq, simprocAttr]
 refine hK _ ?_
 clear hK K
 try refine vthen_n ?_
 exact VW.ret ⟨.inl rfl, _, rfl, rfl⟩
set_option maxRecDepth 20000 in
theorem eqNode_vc (x y : Int × Int × Int) : VC Tryz.prog 91 [.v true sN x, .v true sN y] (· = .v false .bool (decide (x = y))) := by
 refine VC.of_body hT Tryz.func91 rfl (by kernel_rfl) [(.tmp 4, false, .bool)] (by kernel_rfl) ?_
 show VW _ _ ([.v true sN x, .v true sN y, D, D, D, D, D, D, D, D, D, D, D, D, D, D, D, D, D, D]) _
 obtain ⟨x0, x1, x2⟩ := x
 obtain ⟨y0, y1, y2⟩ := y
 repeat refine VW.seq ?_
 refine VW.regl hT fun K hK => ?_
 simp only [wq, simprocAttr]
 refine hK _ ?_
 clear hK K
 try refine vthen_n ?_
 repeat refine VW.seq ?_
 refine VW.regl hT fun K hK => ?_
 simp only [wq, simprocAttr]
 refine hK _ ?_
 clear hK K
 try refine vthen_n ?_
 repeat refine VW.seq ?_
 refine VW.cond rfl (fun hc => ?_) (fun hc => ?_)
 ·repeat refine VW.seq ?_
  refine VW.regl hT fun K hK => ?_
  simp only [wq, simprocAttr]
  refine hK _ ?_
  clear hK K
  try refine vthen_n ?_
  refine VW.ret ⟨.inl rfl, _, rfl, ?_⟩
  simp [eqv] at hc; simp [hc]
 refine VW.skip (vthen_n ?_)
 repeat refine VW.seq ?_
 refine VW.regl hT fun K hK => ?_
 simp only [wq, simprocAttr]
 refine hK _ ?_
 clear hK K
 try refine vthen_n ?_
 repeat refine VW.seq ?_
 refine VW.cond rfl (fun hc => ?_) (fun hc => ?_)
 ·repeat refine VW.seq ?_
  refine VW.regl hT fun K hK => ?_
  simp only [wq, simprocAttr]
  refine hK _ ?_
  clear hK K
  try refine vthen_n ?_
  refine VW.ret ⟨.inl rfl, _, rfl, ?_⟩
  simp [eqv] at hc; simp [hc]
 refine VW.skip (vthen_n ?_)
 repeat refine VW.seq ?_
 refine VW.regl hT fun K hK => ?_
 simp only [wq, simprocAttr]
 refine hK _ ?_
 clear hK K
 try refine vthen_n ?_
 repeat refine VW.seq ?_
 refine VW.cond rfl (fun hc => ?_) (fun hc => ?_)
 ·repeat refine VW.seq ?_
  refine VW.regl hT fun K hK => ?_
  simp only [wq, simprocAttr]
  refine hK _ ?_
  clear hK K
  try refine vthen_n ?_
  refine VW.ret ⟨.inl rfl, _, rfl, ?_⟩
  simp [eqv] at hc; simp [hc]
 refine VW.skip (vthen_n ?_)
 repeat refine VW.seq ?_
 refine VW.regl hT fun K hK => ?_
 simp only [wq, simprocAttr]
 refine hK _ ?_
 clear hK K
 try refine vthen_n ?_
 refine VW.ret ⟨.inl rfl, _, rfl, ?_⟩
 simp_all [eqv]
set_option maxRecDepth 20000 in
theorem eqBar_vc (x y : Int × Int) : VC Tryz.prog 92 [.v true sBr x, .v true sBr y] (· = .v false .bool (decide (x = y))) := by
 refine VC.of_body hT Tryz.func92 rfl (by kernel_rfl) [(.tmp 4, false, .bool)] (by kernel_rfl) ?_
 show VW _ _ ([.v true sBr x, .v true sBr y, D, D, D, D, D, D, D, D, D, D, D, D, D]) _
 obtain ⟨x0, x1⟩ := x
 obtain ⟨y0, y1⟩ := y
 repeat refine VW.seq ?_
 refine VW.regl hT fun K hK => ?_
 simp only [wq, simprocAttr]
 refine hK _ ?_
 clear hK K
 try refine vthen_n ?_
 repeat refine VW.seq ?_
 refine VW.regl hT fun K hK => ?_
 simp only [wq, simprocAttr]
 refine hK _ ?_
 clear hK K
 try refine vthen_n ?_
 repeat refine VW.seq ?_
 refine VW.cond rfl (fun hc => ?_) (fun hc => ?_)
 ·repeat refine VW.seq ?_
  refine VW.regl hT fun K hK => ?_
  simp only [wq, simprocAttr]
  refine hK _ ?_
  clear hK K
  try refine vthen_n ?_
  refine VW.ret ⟨.inl rfl, _, rfl, ?_⟩
  simp [eqv] at hc; simp [hc]
 refine VW.skip (vthen_n ?_)
 repeat refine VW.seq ?_
 refine VW.regl hT fun K hK => ?_
 simp only [wq, simprocAttr]
 refine hK _ ?_
 clear hK K
 try refine vthen_n ?_
 repeat refine VW.seq ?_
 refine VW.cond rfl (fun hc => ?_) (fun hc => ?_)
 ·repeat refine VW.seq ?_
  refine VW.regl hT fun K hK => ?_
  simp only [wq, simprocAttr]
  refine hK _ ?_
  clear hK K
  try refine vthen_n ?_
  refine VW.ret ⟨.inl rfl, _, rfl, ?_⟩
  simp [eqv] at hc; simp [hc]
 refine VW.skip (vthen_n ?_)
 repeat refine VW.seq ?_
 refine VW.regl hT fun K hK => ?_
 simp only [wq, simprocAttr]
 refine hK _ ?_
 clear hK K
 try refine vthen_n ?_
 refine VW.ret ⟨.inl rfl, _, rfl, ?_⟩
 simp_all [eqv]
set_option maxRecDepth 20000 in
theorem toNodeS_vc (xs : List (Int × Int × Int)) (hl : xs.length * 24 ≤ 140737488351232) : VC Tryz.prog 45 [.v false (.sl 117 sN) xs] (· = .root (.val false) (.sl 68 sN) .own xs) := by
 refine VC.of_body hT Tryz.func45 rfl (by kernel_rfl) [(.tmp 2, false, .sl 68 sN)] (by kernel_rfl) ?_
 show VW _ _ ([.v false (.sl 117 sN) xs, D, D, D, D, D, D, D, D, D, D, D, D, D, D, D, D, D, D, D, D, D, D]) _
 repeat refine VW.seq ?_
 refine VW.regl hT fun K hK => ?_
 simp only [wq, Nat.reduceMul, reduceCtorEq, Nat.reduceBEq, Nat.reduceAdd, Nat.reduceLT, Nat.reduceLeDiff, Nat.reduceSub, Nat.reduceEqDiff]
 refine hK _ ?_
 clear hK K
 try refine vthen_n ?_
 repeat refine VW.seq ?_
 refine VW.regl hT fun K hK => ?_
 simp only [wq, Nat.reduceMul, reduceCtorEq, Nat.reduceBEq, Nat.reduceAdd, Nat.reduceLT, Nat.reduceLeDiff, Nat.reduceSub, Nat.reduceEqDiff]
 refine ⟨by simp [limOk]; omega, ?_⟩
 refine hK _ ?_
 clear hK K
 try refine vthen_n ?_
 repeat refine VW.seq ?_
 refine VW.regl hT fun K hK => ?_
 simp only [wq, Nat.reduceMul, reduceCtorEq, Nat.reduceBEq, Nat.reduceAdd, Nat.reduceLT, Nat.reduceLeDiff, Nat.reduceSub, Nat.reduceEqDiff]
 refine hK _ ?_
 clear hK K
 try refine vthen_n ?_
 repeat refine VW.seq ?_
 refine VW.block ?_
 refine VW.loop (α := Nat) [(0, none), (3, none), (4, none)] (fun i => [.v false (.sl 117 sN) xs, D, D, .root (.val false) (.sl 68 sN) .own (fillTo xs (0, 0, 0) i), .v false (.int .i64) (i : Int), D, D, D, D, D, D, D, D, D, D, D, D, D, D, D, D, D, D]) (fun i => i ≤ xs.length) (fun i => xs.length - i) ⟨0, by omega, ?_⟩ fun i hi => ?_
 ·simp only [wn, wq, Nat.reduceMul, reduceCtorEq, Nat.reduceBEq, Nat.reduceAdd, Nat.reduceLT, Nat.reduceLeDiff, Nat.reduceSub, Nat.reduceEqDiff]
  rw [fillTo_zero]; rfl
 repeat refine VW.seq ?_
 refine VW.regl hT fun K hK => ?_
 simp only [wq, Nat.reduceMul, reduceCtorEq, Nat.reduceBEq, Nat.reduceAdd, Nat.reduceLT, Nat.reduceLeDiff, Nat.reduceSub, Nat.reduceEqDiff]
 refine hK _ ?_
 clear hK K
 try refine vthen_n ?_
 repeat refine VW.seq ?_
 refine VW.cond rfl (fun hc => ?_) (fun hc => ?_)
 ·have hlt : i < xs.length := by simpa using hc
  refine VW.skip (vthen_n ?_)
  repeat refine VW.seq ?_
  refine VW.block ?_
  repeat refine VW.seq ?_
  refine VW.regl hT fun K hK => ?_
  simp only [wq, Nat.reduceMul, reduceCtorEq, Nat.reduceBEq, Nat.reduceAdd, Nat.reduceLT, Nat.reduceLeDiff, Nat.reduceSub, Nat.reduceEqDiff]
  refine ⟨by simp; omega, vcall_of (toNode_vc _) ?_⟩
  simp only [wq, Nat.reduceMul, reduceCtorEq, Nat.reduceBEq, Nat.reduceAdd, Nat.reduceLT, Nat.reduceLeDiff, Nat.reduceSub, Nat.reduceEqDiff]
  refine ⟨by simp [fillTo_len hi]; omega, ?_⟩
  refine hK _ ?_
  clear hK K
  try refine vthen_n ?_
  repeat refine VW.seq ?_
  refine VW.regl hT fun K hK => ?_
  simp only [wq, Nat.reduceMul, reduceCtorEq, Nat.reduceBEq, Nat.reduceAdd, Nat.reduceLT, Nat.reduceLeDiff, Nat.reduceSub, Nat.reduceEqDiff]
  refine hK _ ?_
  clear hK K
  try refine vthen_n ?_
  refine ⟨i + 1, hlt, ?_, by show xs.length - (i + 1) < xs.length - i; omega⟩
  simp only [wn, wq, Nat.reduceMul, reduceCtorEq, Nat.reduceBEq, Nat.reduceAdd, Nat.reduceLT, Nat.reduceLeDiff, Nat.reduceSub, Nat.reduceEqDiff]
  rw [fillTo_set hlt, wrap64 (by omega) (by omega)]
  try rfl
 ·have hc : xs.length ≤ i := by simpa using hc
  refine VW.exit ?_
  show vthen _ _ _ .normal _
  refine vthen_n ?_
  repeat refine VW.seq ?_
  refine VW.regl hT fun K hK => ?_
  simp only [wq, Nat.reduceMul, reduceCtorEq, Nat.reduceBEq, Nat.reduceAdd, Nat.reduceLT, Nat.reduceLeDiff, Nat.reduceSub, Nat.reduceEqDiff]
  refine hK _ ?_
  clear hK K
  try refine vthen_n ?_
  refine VW.ret ⟨.inl rfl, _, rfl, ?_⟩
  rw [fillTo_all xs _ hc]
set_option maxRecDepth 20000 in
theorem eqNodeS_vc (xs ys : List (Int × Int × Int)) (hl : xs.length * 24 ≤ 140737488351232) : VC Tryz.prog 50 [.v false (.sl 68 sN) xs, .v false (.sl 68 sN) ys] (· = .v false .bool (decide (xs = ys))) := by
 refine VC.of_body hT Tryz.func50 rfl (by kernel_rfl) [(.tmp 4, false, .bool)] (by kernel_rfl) ?_
 show VW _ _ ([.v false (.sl 68 sN) xs, .v false (.sl 68 sN) ys, D, D, D, D, D, D, D, D, D, D, D, D, D, D, D, D, D, D, D, D, D, D, D, D, D]) _
 repeat refine VW.seq ?_
 refine VW.regl hT fun K hK => ?_
 simp only [wq, simprocAttr]
 refine hK _ ?_
 clear hK K
 try refine vthen_n ?_
 repeat refine VW.seq ?_
 refine VW.regl hT fun K hK => ?_
 simp only [wq, simprocAttr]
 refine hK _ ?_
 clear hK K
 try refine vthen_n ?_
 repeat refine VW.seq ?_
 refine VW.cond rfl (fun hc => ?_) (fun hc => ?_)
 ·repeat refine VW.seq ?_
  refine VW.regl hT fun K hK => ?_
  simp only [wq, simprocAttr]
  refine hK _ ?_
  clear hK K
  try refine vthen_n ?_
  refine VW.ret ⟨.inl rfl, _, rfl, ?_⟩
  have : xs ≠ ys := fun e => by subst e; simp at hc
  simp [this]
 have hlen : xs.length = ys.length := by simp at hc; omega
 refine VW.skip (vthen_n ?_)
 repeat refine VW.seq ?_
 refine VW.regl hT fun K hK => ?_
 simp only [wq, simprocAttr]
 refine hK _ ?_
 clear hK K
 try refine vthen_n ?_
 repeat refine VW.seq ?_
 refine VW.block ?_
 refine VW.loop (α := Nat) [(0, none), (1, none), (5, none)] (fun i => [.v false (.sl 68 sN) xs, .v false (.sl 68 sN) ys, D, D, D, .v false (.int .i64) (i : Int), D, D, D, D, D, D, D, D, D, D, D, D, D, D, D, D, D, D, D, D, D]) (fun i => i ≤ xs.length ∧ ∀ k, k < i → xs.getD k (0, 0, 0) = ys.getD k (0, 0, 0)) (fun i => xs.length - i) ⟨0, ⟨by omega, fun k hk => by omega⟩, ?_⟩ fun i ⟨hi, hk⟩ => ?_
 ·simp only [wn, wq, simprocAttr]
  try rfl
 repeat refine VW.seq ?_
 refine VW.regl hT fun K hK => ?_
 simp only [wq, simprocAttr]
 refine hK _ ?_
 clear hK K
 try refine vthen_n ?_
 repeat refine VW.seq ?_
 refine VW.cond rfl (fun hc => ?_) (fun hc => ?_)
 ·have hlt : i < xs.length := by simpa using hc
  refine VW.skip (vthen_n ?_)
  repeat refine VW.seq ?_
  refine VW.block ?_
  repeat refine VW.seq ?_
  refine VW.drawl hT hm (by kernel_rfl) fun K hK => ?_
  simp only [wq, simprocAttr]
  refine ⟨by simp; omega, by simp; omega, vcallD_of (eqNode_vc _ _) ?_⟩
  simp only [wq, simprocAttr]
  refine hK _ ?_
  clear hK K
  try refine vthen_n ?_
  repeat refine VW.seq ?_
  refine VW.cond rfl (fun hc => ?_) (fun hc => ?_)
  ·repeat refine VW.seq ?_
   refine VW.regl hT fun K hK => ?_
   simp only [wq, simprocAttr]
   refine hK _ ?_
   clear hK K
   try refine vthen_n ?_
   refine VW.ret ⟨.inl rfl, _, rfl, ?_⟩
   have : xs ≠ ys := fun e => by subst e; simp [eqv] at hc
   simp [this]
  ·have hxy : xs.getD i (0, 0, 0) = ys.getD i (0, 0, 0) := by
    have hc2 := hc
    rw [Bool.not_eq_false'] at hc2
    exact of_decide_eq_true hc2
   refine VW.skip ?_
   show vthen _ _ _ .normal _
   refine vthen_n ?_
   repeat refine VW.seq ?_
   refine VW.regl hT fun K hK => ?_
   simp only [wq, simprocAttr]
   refine hK _ ?_
   clear hK K
   try refine vthen_n ?_
   refine ⟨i + 1, ⟨hlt, fun k h => ?_⟩, ?_, by show xs.length - (i + 1) < xs.length - i; omega⟩
   ·rcases Nat.lt_or_ge k i with h1 | h1
    ·exact hk k h1
    ·obtain rfl : k = i := by omega
     exact hxy
   ·simp only [wn, wq, simprocAttr]
    rw [wrap64 (by omega) (by omega)]
    rfl
 ·have hc : xs.length ≤ i := by simpa using hc
  refine VW.exit ?_
  show vthen _ _ _ .normal _
  refine vthen_n ?_
  repeat refine VW.seq ?_
  refine VW.regl hT fun K hK => ?_
  simp only [wq, simprocAttr]
  refine hK _ ?_
  clear hK K
  try refine vthen_n ?_
  refine VW.ret ⟨.inl rfl, _, rfl, ?_⟩
  rw [row_eq (0, 0, 0) hlen fun k h => hk k (by omega)]
  simp
set_option maxRecDepth 20000 in
theorem eqBarS_vc (xs ys : List (Int × Int)) (hl : xs.length * 16 ≤ 140737488351232) : VC Tryz.prog 52 [.v false (.sl 110 sBr) xs, .v false (.sl 110 sBr) ys] (· = .v false .bool (decide (xs = ys))) := by
 refine VC.of_body hT Tryz.func52 rfl (by kernel_rfl) [(.tmp 4, false, .bool)] (by kernel_rfl) ?_
 show VW _ _ ([.v false (.sl 110 sBr) xs, .v false (.sl 110 sBr) ys, D, D, D, D, D, D, D, D, D, D, D, D, D, D, D, D, D, D, D, D, D, D, D, D, D]) _
 repeat refine VW.seq ?_
 refine VW.regl hT fun K hK => ?_
 simp only [wq, simprocAttr]
 refine hK _ ?_
 clear hK K
 try refine vthen_n ?_
 repeat refine VW.seq ?_
 refine VW.regl hT fun K hK => ?_
 simp only [wq, simprocAttr]
 refine hK _ ?_
 clear hK K
 try refine vthen_n ?_
 repeat refine VW.seq ?_
 refine VW.cond rfl (fun hc => ?_) (fun hc => ?_)
 ·repeat refine VW.seq ?_
  refine VW.regl hT fun K hK => ?_
  simp only [wq, simprocAttr]
  refine hK _ ?_
  clear hK K
  try refine vthen_n ?_
  refine VW.ret ⟨.inl rfl, _, rfl, ?_⟩
  have : xs ≠ ys := fun e => by subst e; simp at hc
  simp [this]
 have hlen : xs.length = ys.length := by simp at hc; omega
 refine VW.skip (vthen_n ?_)
 repeat refine VW.seq ?_
 refine VW.regl hT fun K hK => ?_
 simp only [wq, simprocAttr]
 refine hK _ ?_
 clear hK K
 try refine vthen_n ?_
 repeat refine VW.seq ?_
 refine VW.block ?_
 refine VW.loop (α := Nat) [(0, none), (1, none), (5, none)] (fun i => [.v false (.sl 110 sBr) xs, .v false (.sl 110 sBr) ys, D, D, D, .v false (.int .i64) (i : Int), D, D, D, D, D, D, D, D, D, D, D, D, D, D, D, D, D, D, D, D, D]) (fun i => i ≤ xs.length ∧ ∀ k, k < i → xs.getD k (0, 0) = ys.getD k (0, 0)) (fun i => xs.length - i) ⟨0, ⟨by omega, fun k hk => by omega⟩, ?_⟩ fun i ⟨hi, hk⟩ => ?_
 ·simp only [wn, wq, simprocAttr]
  try rfl
 repeat refine VW.seq ?_
 refine VW.regl hT fun K hK => ?_
 simp only [wq, simprocAttr]
 refine hK _ ?_
 clear hK K
 try refine vthen_n ?_
 repeat refine VW.seq ?_
 refine VW.cond rfl (fun hc => ?_) (fun hc => ?_)
 ·have hlt : i < xs.length := by simpa using hc
  refine VW.skip (vthen_n ?_)
  repeat refine VW.seq ?_
  refine VW.block ?_
  repeat refine VW.seq ?_
  refine VW.drawl hT hm (by kernel_rfl) fun K hK => ?_
  simp only [wq, simprocAttr]
  refine ⟨by simp; omega, by simp; omega, vcallD_of (eqBar_vc _ _) ?_⟩
  simp only [wq, simprocAttr]
  refine hK _ ?_
  clear hK K
  try refine vthen_n ?_
  repeat refine VW.seq ?_
  refine VW.cond rfl (fun hc => ?_) (fun hc => ?_)
  ·repeat refine VW.seq ?_
   refine VW.regl hT fun K hK => ?_
   simp only [wq, simprocAttr]
   refine hK _ ?_
   clear hK K
   try refine vthen_n ?_
   refine VW.ret ⟨.inl rfl, _, rfl, ?_⟩
   have : xs ≠ ys := fun e => by subst e; simp [eqv] at hc
   simp [this]
  ·have hxy : xs.getD i (0, 0) = ys.getD i (0, 0) := by
    have hc2 := hc
    rw [Bool.not_eq_false'] at hc2
    exact of_decide_eq_true hc2
   refine VW.skip ?_
   show vthen _ _ _ .normal _
   refine vthen_n ?_
   repeat refine VW.seq ?_
   refine VW.regl hT fun K hK => ?_
   simp only [wq, simprocAttr]
   refine hK _ ?_
   clear hK K
   try refine vthen_n ?_
   refine ⟨i + 1, ⟨hlt, fun k h => ?_⟩, ?_, by show xs.length - (i + 1) < xs.length - i; omega⟩
   ·rcases Nat.lt_or_ge k i with h1 | h1
    ·exact hk k h1
    ·obtain rfl : k = i := by omega
     exact hxy
   ·simp only [wn, wq, simprocAttr]
    rw [wrap64 (by omega) (by omega)]
    rfl
 ·have hc : xs.length ≤ i := by simpa using hc
  refine VW.exit ?_
  show vthen _ _ _ .normal _
  refine vthen_n ?_
  repeat refine VW.seq ?_
  refine VW.regl hT fun K hK => ?_
  simp only [wq, simprocAttr]
  refine hK _ ?_
  clear hK K
  try refine vthen_n ?_
  refine VW.ret ⟨.inl rfl, _, rfl, ?_⟩
  rw [row_eq (0, 0) hlen fun k h => hk k (by omega)]
  simp
set_option maxRecDepth 20000 in
theorem eqIntSS_vc (xs ys : List (List Int)) (hl : xs.length * 24 ≤ 140737488351232) (hin : ∀ k, (xs.getD k []).length * 8 ≤ 140737488351232) : VC Tryz.prog 53 [.v false (.sl 25 sI) xs, .v false (.sl 25 sI) ys] (· = .v false .bool (decide (xs = ys))) := by
 refine VC.of_body hT Tryz.func53 rfl (by kernel_rfl) [(.tmp 4, false, .bool)] (by kernel_rfl) ?_
 show VW _ _ ([.v false (.sl 25 sI) xs, .v false (.sl 25 sI) ys, D, D, D, D, D, D, D, D, D, D, D, D, D, D, D, D, D, D, D, D, D, D, D, D, D]) _
 repeat refine VW.seq ?_
 refine VW.regl hT fun K hK => ?_
 simp only [wq, simprocAttr]
 refine hK _ ?_
 clear hK K
 try refine vthen_n ?_
 repeat refine VW.seq ?_
 refine VW.regl hT fun K hK => ?_
 simp only [wq, simprocAttr]
 refine hK _ ?_
 clear hK K
 try refine vthen_n ?_
 repeat refine VW.seq ?_
 refine VW.cond rfl (fun hc => ?_) (fun hc => ?_)
 ·repeat refine VW.seq ?_
  refine VW.regl hT fun K hK => ?_
  simp only [wq, simprocAttr]
  refine hK _ ?_
  clear hK K
  try refine vthen_n ?_
  refine VW.ret ⟨.inl rfl, _, rfl, ?_⟩
  have : xs ≠ ys := fun e => by subst e; simp at hc
  simp [this]
 have hlen : xs.length = ys.length := by simp at hc; omega
 refine VW.skip (vthen_n ?_)
 repeat refine VW.seq ?_
 refine VW.regl hT fun K hK => ?_
 simp only [wq, simprocAttr]
 refine hK _ ?_
 clear hK K
 try refine vthen_n ?_
 repeat refine VW.seq ?_
 refine VW.block ?_
 refine VW.loop (α := Nat) [(0, none), (1, none), (5, none)] (fun i => [.v false (.sl 25 sI) xs, .v false (.sl 25 sI) ys, D, D, D, .v false (.int .i64) (i : Int), D, D, D, D, D, D, D, D, D, D, D, D, D, D, D, D, D, D, D, D, D]) (fun i => i ≤ xs.length ∧ ∀ k, k < i → xs.getD k [] = ys.getD k []) (fun i => xs.length - i) ⟨0, ⟨by omega, fun k hk => by omega⟩, ?_⟩ fun i ⟨hi, hk⟩ => ?_
 ·simp only [wn, wq, simprocAttr]
  try rfl
 repeat refine VW.seq ?_
 refine VW.regl hT fun K hK => ?_
 simp only [wq, simprocAttr]
 refine hK _ ?_
 clear hK K
 try refine vthen_n ?_
 repeat refine VW.seq ?_
 refine VW.cond rfl (fun hc => ?_) (fun hc => ?_)
 ·have hlt : i < xs.length := by simpa using hc
  refine VW.skip (vthen_n ?_)
  repeat refine VW.seq ?_
  refine VW.block ?_
  repeat refine VW.seq ?_
  refine VW.drawl hT hm (by kernel_rfl) fun K hK => ?_
  simp only [wq, simprocAttr]
  refine ⟨by simp; omega, by simp; omega, vcallD_of (eqIntS_vc _ _ (hin i)) ?_⟩
  simp only [wq, simprocAttr]
  refine hK _ ?_
  clear hK K
  try refine vthen_n ?_
  repeat refine VW.seq ?_
  refine VW.cond rfl (fun hc => ?_) (fun hc => ?_)
  ·repeat refine VW.seq ?_
   refine VW.regl hT fun K hK => ?_
   simp only [wq, simprocAttr]
   refine hK _ ?_
   clear hK K
   try refine vthen_n ?_
   refine VW.ret ⟨.inl rfl, _, rfl, ?_⟩
   have : xs ≠ ys := fun e => by subst e; simp [eqv] at hc
   simp [this]
  ·have hxy : xs.getD i [] = ys.getD i [] := by
    have hc2 := hc
    rw [Bool.not_eq_false'] at hc2
    exact of_decide_eq_true hc2
   refine VW.skip ?_
   show vthen _ _ _ .normal _
   refine vthen_n ?_
   repeat refine VW.seq ?_
   refine VW.regl hT fun K hK => ?_
   simp only [wq, simprocAttr]
   refine hK _ ?_
   clear hK K
   try refine vthen_n ?_
   refine ⟨i + 1, ⟨hlt, fun k h => ?_⟩, ?_, by show xs.length - (i + 1) < xs.length - i; omega⟩
   ·rcases Nat.lt_or_ge k i with h1 | h1
    ·exact hk k h1
    ·obtain rfl : k = i := by omega
     exact hxy
   ·simp only [wn, wq, simprocAttr]
    rw [wrap64 (by omega) (by omega)]
    rfl
 ·have hc : xs.length ≤ i := by simpa using hc
  refine VW.exit ?_
  show vthen _ _ _ .normal _
  refine vthen_n ?_
  repeat refine VW.seq ?_
  refine VW.regl hT fun K hK => ?_
  simp only [wq, simprocAttr]
  refine hK _ ?_
  clear hK K
  try refine vthen_n ?_
  refine VW.ret ⟨.inl rfl, _, rfl, ?_⟩
  rw [row_eq [] hlen fun k h => hk k (by omega)]
  simp
end Go.Proofs.YtoeblmcibheldaaGreatDoor.V.W
end
section
namespace Go.Proofs.YtoeblmcibheldaaGreatDoor.V.W
open Go Go.RowKit
abbrev sG : Sh := .sl 4 .bool
abbrev sFs : Sh := .pr (.sl 117 (.pr (.int .i64) (.pr (.int .i64) (.int .i64)))) (.pr (.sl 3 (.int .i64)) (.pr (.sl 119 (.pr (.int .i64) (.int .i64))) (.pr (.sl 25 (.sl 3 (.int .i64))) sG)))
abbrev sFi : Sh := .pr (.sl 68 (.pr (.int .i64) (.pr (.int .i64) (.int .i64)))) (.pr (.sl 3 (.int .i64)) (.pr (.sl 110 (.pr (.int .i64) (.int .i64))) (.pr (.sl 25 (.sl 3 (.int .i64))) sG)))
abbrev Fab := List (Int × Int × Int) × List Int × List (Int × Int) × List (List Int) × List Bool
structure FabB (x : Fab) : Prop where
 a : x.1.length * 24 ≤ 140737488351232
 b : x.2.1.length * 8 ≤ 140737488351232
 c : x.2.2.1.length * 16 ≤ 140737488351232
 d : x.2.2.2.1.length * 24 ≤ 140737488351232
 e : ∀ k, (x.2.2.2.1.getD k []).length * 8 ≤ 140737488351232
 f : x.2.2.2.2.length * 1 ≤ 140737488351232
set_option maxRecDepth 20000 in
set_option maxRecDepth 20000 in
theorem eqGuard_vc (x y : List Bool) (hl : x.length * 1 ≤ 140737488351232) : VC Tryz.prog 54 [.v true sG x, .v true sG y] (· = .v false .bool (decide (x = y))) := by
 refine VC.of_body hT Tryz.func54 rfl (by kernel_rfl) [(.tmp 4, false, .bool)] (by kernel_rfl) ?_
 show VW _ _ ([.v true sG x, .v true sG y, D, D, D, D, D, D, D, D, D]) _
 repeat refine VW.seq ?_
 refine VW.regl hT fun K hK => ?_
 simp only [wq, simprocAttr]
 refine hK _ ?_
 clear hK K
 try refine vthen_n ?_
 repeat refine VW.seq ?_
 refine VW.regl hT fun K hK => ?_
 simp only [wq, simprocAttr]
 refine vcall_of (eqBoolS_vc x y hl) ?_
 simp only [wq, simprocAttr]
 refine hK _ ?_
 clear hK K
 try refine vthen_n ?_
 repeat refine VW.seq ?_
 refine VW.cond rfl (fun hc => ?_) (fun hc => ?_)
 ·repeat refine VW.seq ?_
  refine VW.regl hT fun K hK => ?_
  simp only [wq, simprocAttr]
  refine hK _ ?_
  clear hK K
  try refine vthen_n ?_
  refine VW.ret ⟨.inl rfl, _, rfl, ?_⟩
  simp at hc; simp [hc]
 ·refine VW.skip (vthen_n ?_)
  repeat refine VW.seq ?_
  refine VW.regl hT fun K hK => ?_
  simp only [wq, simprocAttr]
  refine hK _ ?_
  clear hK K
  try refine vthen_n ?_
  refine VW.ret ⟨.inl rfl, _, rfl, ?_⟩
  simp at hc; simp [hc]
/-- what two levels of rows hold -/
def tot (xs : List (List Int)) (i : Nat) : Nat := ((xs.take i).map List.length).sum
theorem tot_succ {xs : List (List Int)} {i : Nat} (h : i < xs.length) : tot xs (i + 1) = tot xs i + (xs.getD i []).length := by
 unfold tot
 rw [List.take_add_one, List.getElem?_eq_getElem h, List.map_append, List.sum_append_nat, List.getD_eq_getElem?_getD, List.getElem?_eq_getElem h]
 simp
theorem tot_mono (m : List (List Int)) : ∀ i, i ≤ m.length → tot m i ≤ tot m m.length := by
 intro i hi
 obtain ⟨d, hd⟩ : ∃ d, m.length = i + d := ⟨m.length - i, by omega⟩
 have : ∀ d, i + d ≤ m.length → tot m i ≤ tot m (i + d) := by
  intro d
  induction d with
  | zero => intro _; exact Nat.le_refl _
  | succ d ih =>
   intro h
   have h1 := ih (by omega)
   have h2 := tot_succ (xs := m) (i := i + d) (by omega)
   rw [← Nat.add_assoc, h2]
   omega
 have h := this d (by omega)
 rwa [← hd] at h
set_option maxRecDepth 20000 in
def fabSize (x : Fab) : Nat := x.1.length + x.2.1.length + x.2.2.1.length + (x.2.2.2.1.length + tot x.2.2.2.1 x.2.2.2.1.length) + x.2.2.2.2.length
set_option maxRecDepth 20000 in
set_option maxRecDepth 20000 in
set_option maxRecDepth 20000 in
theorem eqFabric_vc (x y : Fab) (hx : FabB x) : VC Tryz.prog 17 [.v true sFi x, .v true sFi y] (· = .v false .bool (decide (x = y))) := by
 refine VC.of_body hT Tryz.func17 rfl (by kernel_rfl) [(.tmp 4, false, .bool)] (by kernel_rfl) ?_
 show VW _ _ ([.v true sFi x, .v true sFi y, D, D, D, D, D, D, D, D, D, D, D, D, D, D, D, D, D, D, D, D, D, D, D, D, D, D, D, D, D, D, D, D, D]) _
 have key : decide (x = y) = (decide (x.1 = y.1) && (decide (x.2.1 = y.2.1) && (decide (x.2.2.1 = y.2.2.1) && (decide (x.2.2.2.1 = y.2.2.2.1) && decide (x.2.2.2.2 = y.2.2.2.2))))) := by
  rw [Bool.eq_iff_iff]
  simp [Prod.ext_iff]
 repeat refine VW.seq ?_
 refine VW.regl hT fun K hK => ?_
 simp only [wq, simprocAttr]
 refine hK _ ?_
 clear hK K
 try refine vthen_n ?_
 repeat refine VW.seq ?_
 refine VW.regl hT fun K hK => ?_
 simp only [wq, simprocAttr]
 refine vcall_of (eqNodeS_vc _ _ hx.a) ?_
 simp only [wq, simprocAttr]
 refine hK _ ?_
 clear hK K
 try refine vthen_n ?_
 repeat refine VW.seq ?_
 refine VW.cond rfl (fun hc => ?_) (fun hc => ?_)
 ·repeat refine VW.seq ?_
  refine VW.regl hT fun K hK => ?_
  simp only [wq, simprocAttr]
  refine hK _ ?_
  clear hK K
  try refine vthen_n ?_
  refine VW.ret ⟨.inl rfl, _, rfl, ?_⟩
  rw [key]; simp at hc; simp [hc]
 refine VW.skip (vthen_n ?_)
 repeat refine VW.seq ?_
 refine VW.regl hT fun K hK => ?_
 simp only [wq, simprocAttr]
 refine vcall_of (eqIntS_vc _ _ hx.b) ?_
 simp only [wq, simprocAttr]
 refine hK _ ?_
 clear hK K
 try refine vthen_n ?_
 repeat refine VW.seq ?_
 refine VW.cond rfl (fun hc => ?_) (fun hc => ?_)
 ·repeat refine VW.seq ?_
  refine VW.regl hT fun K hK => ?_
  simp only [wq, simprocAttr]
  refine hK _ ?_
  clear hK K
  try refine vthen_n ?_
  refine VW.ret ⟨.inl rfl, _, rfl, ?_⟩
  rw [key]; simp at hc; simp [hc]
 refine VW.skip (vthen_n ?_)
 repeat refine VW.seq ?_
 refine VW.regl hT fun K hK => ?_
 simp only [wq, simprocAttr]
 refine vcall_of (eqBarS_vc _ _ hx.c) ?_
 simp only [wq, simprocAttr]
 refine hK _ ?_
 clear hK K
 try refine vthen_n ?_
 repeat refine VW.seq ?_
 refine VW.cond rfl (fun hc => ?_) (fun hc => ?_)
 ·repeat refine VW.seq ?_
  refine VW.regl hT fun K hK => ?_
  simp only [wq, simprocAttr]
  refine hK _ ?_
  clear hK K
  try refine vthen_n ?_
  refine VW.ret ⟨.inl rfl, _, rfl, ?_⟩
  rw [key]; simp at hc; simp [hc]
 refine VW.skip (vthen_n ?_)
 repeat refine VW.seq ?_
 refine VW.regl hT fun K hK => ?_
 simp only [wq, simprocAttr]
 refine vcall_of (eqIntSS_vc _ _ hx.d hx.e) ?_
 simp only [wq, simprocAttr]
 refine hK _ ?_
 clear hK K
 try refine vthen_n ?_
 repeat refine VW.seq ?_
 refine VW.cond rfl (fun hc => ?_) (fun hc => ?_)
 ·repeat refine VW.seq ?_
  refine VW.regl hT fun K hK => ?_
  simp only [wq, simprocAttr]
  refine hK _ ?_
  clear hK K
  try refine vthen_n ?_
  refine VW.ret ⟨.inl rfl, _, rfl, ?_⟩
  rw [key]; simp at hc; simp [hc]
 refine VW.skip (vthen_n ?_)
 repeat refine VW.seq ?_
 refine VW.regl hT fun K hK => ?_
 simp only [wq, simprocAttr]
 refine vcall_of (eqGuard_vc _ _ hx.f) ?_
 simp only [wq, simprocAttr]
 refine hK _ ?_
 clear hK K
 try refine vthen_n ?_
 repeat refine VW.seq ?_
 refine VW.cond rfl (fun hc => ?_) (fun hc => ?_)
 ·repeat refine VW.seq ?_
  refine VW.regl hT fun K hK => ?_
  simp only [wq, simprocAttr]
  refine hK _ ?_
  clear hK K
  try refine vthen_n ?_
  refine VW.ret ⟨.inl rfl, _, rfl, ?_⟩
  rw [key]; simp at hc; simp [hc]
 refine VW.skip (vthen_n ?_)
 repeat refine VW.seq ?_
 refine VW.regl hT fun K hK => ?_
 simp only [wq, simprocAttr]
 refine hK _ ?_
 clear hK K
 try refine vthen_n ?_
 refine VW.ret ⟨.inl rfl, _, rfl, ?_⟩
 rw [key]; simp_all
end Go.Proofs.YtoeblmcibheldaaGreatDoor.V.W
end
section
namespace Go.Proofs.YtoeblmcibheldaaGreatDoor.V
open Go Go.RowKit
/-- what is listed, as a number -/
def arr (n m : Nat) : Array Bool := Array.ofFn (n := n) fun i => m.testBit i
theorem arr_size (n m : Nat) : (arr n m).size = n := by simp [arr]
theorem arr_get (n m j : Nat) : (arr n m).getD j false = (decide (j < n) && m.testBit j) := by
 by_cases h : j < n
 ·simp [arr, Array.getD, h]
 ·simp [arr, Array.getD, h]
theorem arr_el {n m j : Nat} (h : j < (arr n m).size) : (arr n m)[j] = m.testBit j := by simp [arr]
theorem arr_set {n m i : Nat} (hi : i < n) : (arr n m).setIfInBounds i true = arr n (m ||| 2 ^ i) := by
 apply Array.ext
 ·rw [Array.size_setIfInBounds, arr_size, arr_size]
 ·intro j h1 h2
  have h3 : j < (arr n m).size := by rw [arr_size]; rwa [arr_size] at h2
  rw [Array.getElem_setIfInBounds h3, arr_el h2, Nat.testBit_or]
  by_cases e : i = j
  ·subst e; simp
  ·rw [arr_size] at h2
   rw [if_neg e, arr_el (by rw [arr_size]; exact h2), Nat.testBit_two_pow_of_ne e, Bool.or_false]
def chk (ops : Array Oper) (m : Nat) (ps : List (Nat × Nat)) : Bool := (Region.ready .any ops (arr ops.size m) == ps.map (·.1)) && ps.all fun p => (m ||| 2 ^ p.1 == p.2)
def takeChk (ops : Array Oper) (m i m' : Nat) : Bool := Region.noSelect ops && (Region.free .any ops (arr ops.size m) i && ((Region.ready .any ops (arr ops.size m)).contains i && (m ||| 2 ^ i == m')))
def twoChk (ops : Array Oper) (m i j m' : Nat) : Bool := (Region.ready .any ops (arr ops.size m) == [i]) && ((Region.ready .any ops (arr ops.size (m ||| 2 ^ i)) == [j]) && (m ||| 2 ^ i ||| 2 ^ j == m'))
def doneChk (ops : Array Oper) (m : Nat) : Bool := Region.ready .any ops (arr ops.size m) == []
section
variable {P : Program} {T : List (Nat × TI)} {ops : Array Oper}
/-- one operation -/
def vone (P : Program) (T : List (Nat × TI)) (ops : Array Oper) (i : Nat) (st0 : St) (K : St → Prop) : Prop :=
 match ops[i]? with
 | some o => @vguard st0 ops o ⟨fun run st => match run with
  | true => @vread P T st o ⟨fun st1 pv => nonroot st1 o.dst = true ∧ K (setD st1 o.dst pv)⟩
  | false => nonroot st o.dst = true ∧ K (setD st o.dst skipPV)⟩
 | none => True
def vpure (ops : Array Oper) (i : Nat) (st : St) (K : St → Prop) : Prop :=
 match ops[i]? with
 | some o => @vfloat (pureOp st o) ⟨fun pv => nonroot st o.dst = true ∧ K (setD st o.dst pv)⟩
 | none => True
def popped : Option Out → Bool
 | some _ => true
 | none => false
def isFld (st : St) (o : Oper) : Bool := match o.guard with
 | some _ => false
 | none => match o.op with
  | .fieldAddr _ x _ => match ref st x with
   | .adr _ _ => true
   | _ => false
  | _ => false
def vfld (P : Program) (T : List (Nat × TI)) (ops : Array Oper) (i : Nat) (st : St) (K : St → Prop) : Prop :=
 match ops[i]? with
 | some o => isFld st o = true ∧ popped (pop T st st o) = true ∧ @vread P T st o ⟨fun st1 pv => nonroot st1 o.dst = true ∧ K (setD st1 o.dst pv)⟩
 | none => True
def vall (P : Program) (T : List (Nat × TI)) (ops : Array Oper) (W : Nat → St → Prop) (st : St) : List (Nat × Nat) → Prop
 | [] => True
 | p :: r => vone P T ops p.1 st (W p.2) ∧ vall P T ops W st r
/-- two operations, one behind the other, the first without effect -/
def Does2 (P : Program) (o1 o2 : Oper) (st st' : St) : Prop := ∀ (L : Lay) (a : Act) (w : World) (next : Act → World → Prop) (Q : Exit → Act → World → Prop), Rel L st a w Free → (∀ L' a' w', Stp L L' w w' → Rel L' st' a' w' Free → next a' w') → ∃ v, (execOp a.eval o1).run P w = .ok (.value v) w ∧ o2.wp P (a.put o1.dst v) w next Q
/-- how one goes on in a region in any order -/
structure Ruled (P : Program) (T : List (Nat × TI)) (ops : Array Oper) (K : St → Prop) (W : Nat → St → Prop) : Prop where
 done : ∀ (m : Nat) (st : St), doneChk ops m = true → K st → W m st
 all : ∀ (m : Nat) (ps : List (Nat × Nat)) (st : St), chk ops m ps = true → ps ≠ [] → vall P T ops W st ps → W m st
 take : ∀ (m i m' : Nat) (st : St), takeChk ops m i m' = true → vpure ops i st (W m') → W m st
 takeF : ∀ (m i m' : Nat) (st : St), takeChk ops m i m' = true → vfld P T ops i st (W m') → W m st
 two : ∀ (m i j m' : Nat) (st st' : St) (o1 o2 : Oper), ops[i]? = some o1 → ops[j]? = some o2 → o1.guard = none → o2.guard = none → twoChk ops m i j m' = true → Does2 P o1 o2 st st' → W m' st' → W m st
theorem fld_pure (hT : TabOk P T) {L : Lay} {st : St} {a : Act} {w : World} (h : Rel L st a w Free) {o : Oper} {t n : Nat} {x : Operand} {g : Nat} {p : Path} {out : Out} (ho : o.op = .fieldAddr t x n) (hx : ref st x = .adr g p) (hg0 : o.guard = none) (hp : pop T st st o = some out) : ∃ v, Yields P ops o v a ∧ ORep L st w out.pv v ∧ out.pv.isRoot = false ∧ out.st = st := by
 have hw : Region.wanted o (yielded ops a.tmps) = true := by unfold Region.wanted; rw [hg0]
 unfold pop at hp
 rw [ho] at hp
 simp only at hp
 have hv := h.opnd x
 split at hp
 ·rename_i i hi
  have hTt := hT t i hi
  rw [hx] at hp hv
  simp only at hp
  split at hp
  ·rename_i s f y hl
   split at hp
   ·rename_i hc
    obtain ⟨hs, hn, hag⟩ := hc
    obtain rfl := (Option.some.inj hp)
    obtain ⟨s1, cs1, A, q1, q2⟩ := hv
    obtain rfl := q1.shape hl
    subst hs
    obtain ⟨fs, u1, u2, u3⟩ := hTt.str hag
    obtain ⟨fd, agg1, s1, of, fi, v1, v2, v3, v4, v5, v6, v7, v8, v9, v10⟩ := (u3 n hn).ex
    obtain ⟨k1, ⟨f2, x2, k2⟩, k3, k4, k5⟩ := field_at n i.nf v3 f y
    obtain ⟨_, _, B1, _, m4⟩ := h.place q1 hl
    refine ⟨.pointer (some (A.add of)), .inl ⟨hw, fun w' => ?_⟩, ⟨s1, (cs1.drop of).take s1.size, A.add of, q1.app hl k1 k2 (k4 w cs1 (some A) m4.len), rfl⟩, rfl, rfl⟩
    have hne : ¬ s1.size = 0 := by omega
    simp [execOp, ho, Instr.fieldAt, run_underlying u1, v1, Instr.sureAddr, q2, fieldPlace, run_size v5, v6, hne, v4]
   ·cases hp
  ·cases hp
 ·cases hp
theorem vall_mem {W : Nat → St → Prop} {st : St} : ∀ {ps : List (Nat × Nat)} {p : Nat × Nat}, vall P T ops W st ps → p ∈ ps → vone P T ops p.1 st (W p.2)
 | q :: r, p, h, hp => by
  rcases List.mem_cons.1 hp with rfl | hp
  ·exact h.1
  ·exact vall_mem h.2 hp
theorem cnt_set {n m i : Nat} (hi : i < n) (hb : (arr n m).getD i false = false) : cntU n (fun j => !(arr n (m ||| 2 ^ i)).getD j false) + 1 = cntU n (fun j => !(arr n m).getD j false) := by
 refine cntU_flip n (i := i) hi (by simp only [hb]; rfl) ?_ fun j hj => ?_
 ·show (!(arr n (m ||| 2 ^ i)).getD i false) = false
  rw [arr_get, Nat.testBit_or, Nat.testBit_two_pow_self, decide_eq_true hi]
  simp
 ·show (!(arr n (m ||| 2 ^ i)).getD j false) = (!(arr n m).getD j false)
  rw [arr_get, arr_get, Nat.testBit_or, Nat.testBit_two_pow_of_ne (fun e => hj e.symm), Bool.or_false]
theorem cnt_zero {n m : Nat} (h : cntU n (fun j => !(arr n m).getD j false) = 0) {i : Nat} (hi : i < n) : (arr n m).getD i false = true := by
 have := cntU_zero n h i hi
 simpa using this
theorem VW.any (hT : TabOk P T) (hm : P.follows .mixedOrders = true) {id : Nat} {st : St} {Q : Exit → St → Prop} (h : ∀ (K : St → Prop), (∀ s, Q .normal s → K s) → ∀ W : Nat → St → Prop, Ruled P T ops K W → W 0 st) : VW P (.region id ops true) st Q := by
 intro L a w hr
 refine wp_mono (Q := fun e a' w' => match e with | .normal => ∃ L' st', Stp L L' w w' ∧ Rel L' st' a' w' Free ∧ Q .normal st' | _ => False) ?_ (fun e a' w' hq => ?_)
 case refine_2 =>
  cases e with
  | normal => exact hq
  | _ => exact hq.elim
 refine wp_region_any hm ?_
 have hx : Ext w { w with drawn := w.drawn + 1 } := Ext.drew w
 have hr1 := hr.grow hx
 have hst1 := Stp.ext (L := L) hx
 generalize ({ w with drawn := w.drawn + 1 } : World) = w1 at hr1 hst1 ⊢
 have key := h (Q .normal) (fun _ h => h) (fun m st => ∀ (n : Nat), cntU ops.size (fun j => !(arr ops.size m).getD j false) = n → ∀ (L' : Lay) (a : Act) (w' : World), Stp L L' w w' → Rel L' st a w' Free → wpAny P .any ops (fun e a' w' => match e with | .normal => ∃ L' st', Stp L L' w w' ∧ Rel L' st' a' w' Free ∧ Q .normal st' | _ => False) n (arr ops.size m) a w') ?_
 ·have e0 : arr ops.size 0 = Array.replicate ops.size false := by
   apply Array.ext
   ·simp [arr]
   ·intro j h1 h2
    simp [arr]
  have c0 : cntU ops.size (fun j => !(arr ops.size 0).getD j false) = ops.size := by
   have e1 : (fun j => !(arr ops.size 0).getD j false) = fun _ => true := by
    funext j
    rw [arr_get, Nat.zero_testBit, Bool.and_false]
    rfl
   rw [e1]
   exact cntU_all ops.size
  have := key _ c0 L a w1 hst1 hr1
  rwa [e0] at this
 ·refine ⟨fun m st hd hk n hn L' a w' hs hr => ?_, fun m ps st hc hne hv n hn L' a w' hs hr => ?_, fun m i m' st hc hv n hn L' a w' hs hr => ?_, fun m i m' st hc hv n hn L' a w' hs hr => ?_, fun m i j m' st st' o1 o2 hi hj gi gj hc hd hv n hn L' a w' hs hr => ?_⟩
  ·have hd : Region.ready .any ops (arr ops.size m) = [] := by simpa [doneChk] using hd
   exact wpAny_done hd ⟨L', st, hs, hr, hk⟩ n
  ·simp only [chk, Bool.and_eq_true, beq_iff_eq] at hc
   obtain ⟨hrd, hms⟩ := hc
   have hin : ∀ i ∈ Region.ready .any ops (arr ops.size m), ∃ p ∈ ps, p.1 = i ∧ i < ops.size ∧ (arr ops.size m).getD i false = false ∧ ∃ o, ops[i]? = some o := fun i hi => by
    obtain ⟨o, h1, h2, _⟩ := (ready_iff (arr_size _ _)).1 hi
    rw [hrd] at hi
    obtain ⟨p, hp, rfl⟩ := List.mem_map.1 hi
    exact ⟨p, hp, rfl, (Array.getElem?_eq_some_iff.1 h1).1, h2, o, h1⟩
   have hnil : Region.ready .any ops (arr ops.size m) ≠ [] := by
    rw [hrd]
    intro h0
    exact hne (List.map_eq_nil_iff.1 h0)
   cases n with
   | zero =>
    obtain ⟨i, hi⟩ := List.exists_mem_of_ne_nil _ hnil
    obtain ⟨p, _, _, h1, h2, _⟩ := hin i hi
    rw [cnt_zero hn h1] at h2
    cases h2
   | succ n =>
    refine ⟨fun h0 => absurd h0 hnil, fun i hi => ?_⟩
    obtain ⟨p, hp, rfl, h1, h2, o, ho⟩ := hin i hi
    have hm' : m ||| 2 ^ p.1 = p.2 := by
     have := List.all_eq_true.1 hms p hp
     simpa using this
    have hcn := cnt_set h1 h2
    rw [hm'] at hcn
    have hv1 := vall_mem hv hp
    unfold vone at hv1
    rw [ho] at hv1
    have hg := vguard_ok hr hv1
    rw [arr_set h1, hm']
    unfold wpOp
    rw [ho]
    simp only
    cases hw : Region.wanted o (yielded ops a.tmps) with
    | true =>
     rw [hw] at hg
     simp only at hg
     rw [if_pos rfl]
     left
     refine vread_ok hT hg (fun st1 pv hK => hK.1) L' a w' _ _ hr fun st' L2 a2 w2 ⟨st1, pv, hK, e⟩ hs' hr' => ?_
     subst e
     exact hK.2 n (by omega) L2 a2 w2 (hs.trans hs') hr'
    | false =>
     rw [hw] at hg
     simp only at hg
     rw [if_neg (by simp)]
     obtain ⟨L2, s1, s2⟩ := skip_ok hr hg.1
     exact hg.2 n (by omega) L2 _ w' (hs.trans s1) s2
  ·simp only [takeChk, Bool.and_eq_true, beq_iff_eq] at hc
   obtain ⟨c1, c2, c3, c4⟩ := hc
   obtain ⟨o, ho, h2, _⟩ := (ready_iff (arr_size _ _)).1 (show i ∈ Region.ready .any ops (arr ops.size m) by simpa using c3)
   have h1 : i < ops.size := (Array.getElem?_eq_some_iff.1 ho).1
   have hcn := cnt_set h1 h2
   rw [c4] at hcn
   unfold vpure at hv
   rw [ho] at hv
   simp only [vfloat] at hv
   split at hv
   ·rename_i pv hp
    obtain ⟨hnr, hv⟩ := hv
    obtain ⟨v, y1, y2, y3⟩ := pureOp_ok (P := P) (ops := ops) hr hp
    have hr' : Rel L' (setD st o.dst pv) (a.put o.dst v) w' Free := by
     cases hd : o.dst with
     | none => exact hr
     | some d => exact hr.setO (nonroot_spec hnr d hd) y3 y2
    cases n with
    | zero =>
     rw [cnt_zero hn h1] at h2
     cases h2
    | succ n =>
     refine wpAny_take ho c1 c2 c3 (fun c a w hq => hq.elim) y1 ?_
     rw [arr_set h1, c4]
     exact hv n (by omega) L' _ w' hs hr'
   ·exact hv.elim
  ·simp only [takeChk, Bool.and_eq_true, beq_iff_eq] at hc
   obtain ⟨c1, c2, c3, c4⟩ := hc
   obtain ⟨o, ho, h2, _⟩ := (ready_iff (arr_size _ _)).1 (show i ∈ Region.ready .any ops (arr ops.size m) by simpa using c3)
   have h1 : i < ops.size := (Array.getElem?_eq_some_iff.1 ho).1
   have hcn := cnt_set h1 h2
   rw [c4] at hcn
   unfold vfld at hv
   rw [ho] at hv
   obtain ⟨hf, hpp, hv⟩ := hv
   simp only [isFld] at hf
   split at hf
   ·cases hf
   rename_i hg0
   split at hf
   ·rename_i t x k hop
    split at hf
    ·rename_i g p hx
     unfold vread at hv
     rw [hop] at hv
     simp only at hv
     have hnil : nilTest T st o = none := by unfold nilTest; rw [hop]
     rw [hnil] at hv
     simp only at hv
     split at hv
     ·rename_i out hp
      obtain ⟨_, hnr, hv⟩ := hv
      obtain ⟨v, y1, y2, y3, y4⟩ := fld_pure (P := P) (ops := ops) hT hr hop hx hg0 hp
      rw [y4] at hnr hv
      have hr' : Rel L' (setD st o.dst out.pv) (a.put o.dst v) w' Free := by
       cases hd : o.dst with
       | none => exact hr
       | some d => exact hr.setO (nonroot_spec hnr d hd) y3 y2
      cases n with
      | zero =>
       rw [cnt_zero hn h1] at h2
       cases h2
      | succ n =>
       refine wpAny_take ho c1 c2 c3 (fun c a w hq => hq.elim) y1 ?_
       rw [arr_set h1, c4]
       exact hv n (by omega) L' _ w' hs hr'
     ·rename_i hp; rw [hp] at hpp; cases hpp
    ·cases hf
   ·cases hf
  ·simp only [twoChk, Bool.and_eq_true, beq_iff_eq] at hc
   obtain ⟨c1, c2, c3⟩ := hc
   obtain ⟨_, _, b1, _⟩ := (ready_iff (arr_size _ _)).1 (show i ∈ Region.ready .any ops (arr ops.size m) by rw [c1]; exact List.mem_singleton.2 rfl)
   obtain ⟨_, _, b2, _⟩ := (ready_iff (arr_size _ _)).1 (show j ∈ Region.ready .any ops (arr ops.size (m ||| 2 ^ i)) by rw [c2]; exact List.mem_singleton.2 rfl)
   have h1 : i < ops.size := (Array.getElem?_eq_some_iff.1 hi).1
   have h2 : j < ops.size := (Array.getElem?_eq_some_iff.1 hj).1
   have q1 := cnt_set h1 b1
   have q2 := cnt_set h2 b2
   rw [c3] at q2
   obtain ⟨n, rfl⟩ : ∃ k, n = k + 2 := ⟨n - 2, by omega⟩
   refine ⟨fun h0 => (by rw [c1] at h0; cases h0), fun x hx => ?_⟩
   rw [c1] at hx
   obtain rfl := List.mem_singleton.1 hx
   have hw1 : Region.wanted o1 (yielded ops a.tmps) = true := by unfold Region.wanted; rw [gi]
   obtain ⟨v, x1, x2⟩ := hd L' a w' _ _ hr (fun L2 a2 w2 k1 k2 => hv n (by omega) L2 a2 w2 (hs.trans k1) k2)
   rw [arr_set h1]
   unfold wpOp
   rw [hi]
   simp only
   rw [hw1, if_pos rfl]
   left
   unfold Oper.wp
   rw [x1, Oper.upon_value]
   refine ⟨fun h0 => (by rw [c2] at h0; cases h0), fun x hx => ?_⟩
   rw [c2] at hx
   obtain rfl := List.mem_singleton.1 hx
   have hw2 : Region.wanted o2 (yielded ops (a.put o1.dst v).tmps) = true := by unfold Region.wanted; rw [gj]
   rw [arr_set h2, c3]
   unfold wpOp
   rw [hj]
   simp only
   rw [hw2, if_pos rfl]
   left
   exact x2
end
theorem wy : type_of% (And.intro (And.intro @vone.eq_1 (And.intro @vall.eq_1 @vall.eq_2)) (And.intro @vpure.eq_1 (And.intro @vfld.eq_1 (And.intro @isFld.eq_1 (And.intro @popped.eq_1 @popped.eq_2))))) := And.intro (And.intro @vone.eq_1 (And.intro @vall.eq_1 @vall.eq_2)) (And.intro @vpure.eq_1 (And.intro @vfld.eq_1 (And.intro @isFld.eq_1 (And.intro @popped.eq_1 @popped.eq_2))))
end Go.Proofs.YtoeblmcibheldaaGreatDoor.V
end
section
namespace Go.Proofs.YtoeblmcibheldaaGreatDoor.V.W
open Go Go.RowKit
theorem newFab1_vc (x : Int) : VC Tryz.prog 123 [.v false (.int .i64) (x)] (· = .v false .bool (decide (x > 64))) := by
 refine VC.of_body hT Tryz.func123 rfl (by kernel_rfl) [(.tmp 2, false, .bool)] (by kernel_rfl) ?_
 show VW _ _ ([.v false (.int .i64) (x), D, D, D, D]) _
 repeat refine VW.seq ?_
 refine VW.regl hT fun K hK => ?_
 simp only [wq, simprocAttr]
 refine hK _ ?_
 clear hK K
 try refine vthen_n ?_
 repeat refine VW.seq ?_
 refine VW.regl hT fun K hK => ?_
 simp only [wq, simprocAttr]
 refine hK _ ?_
 clear hK K
 try refine vthen_n ?_
 exact VW.ret ⟨.inl rfl, _, rfl, rfl⟩
/-- a new fabric can be made -/
def newOk (t : List Nd) (s : List Int) : Bool := fits t s && !s.any fun x => decide (x > 64)
/-- the first i rows of memory -/
def memTo (s : List Int) (i : Nat) : List (List Int) := (s.take i).map fun n => List.replicate n.toNat 0
theorem memTo_succ {s : List Int} {i : Nat} (h : i < s.length) : memTo s (i + 1) = memTo s i ++ [List.replicate (s.getD i 0).toNat 0] := by
 unfold memTo
 rw [List.take_add_one, List.getElem?_eq_getElem h, List.map_append, List.getD_eq_getElem?_getD, List.getElem?_eq_getElem h]
 rfl
theorem memTo_len {s : List Int} {i : Nat} (h : i ≤ s.length) : (memTo s i).length = i := by
 simp [memTo]; omega
def newFab (t : List Nd) (s : List Int) : Fab := (t, s, allBars t s, memTo s s.length, List.replicate s.length true)
abbrev fFab : Fl := .pr .own (.pr .own (.pr .own (.pr .own .own)))
abbrev rFab (fl : Fl) (x : Fab) (b : Bool) : PV := .root (.tup [true, false]) (.pr sFi .bool) (.pr fl .fz) (x, b)
set_option maxRecDepth 20000 in
set_option maxHeartbeats 2000000 in
theorem newFabric_vc (t : List Nd) (s : List Int) (hl : t.length ≤ 2000000) (hs : s.length ≤ 2000000) : VC Tryz.prog 77 [.v false sNS t, .v false sI s] (fun pv => if newOk t s = true then pv = rFab fFab (newFab t s) true else pv = rFab .own ([], [], [], [], []) false) := by
 refine VC.of_body hT Tryz.func77 rfl (by kernel_rfl) [(.cell 4 32, true, sFi), (.tmp 5, false, .bool)] (by kernel_rfl) ?_
 show VW _ _ ([.v false sNS t, .v false sI s, D, D, D, D, D, D, D, D, D, D, D, D, D, D, D, D, D, D, D, D, D, D, D, D, D, D, D, D, D, D, D, D, D, D, D, D, D, D, D, D, D, D, D, D, D, D, D, D, D, D, D, D, D, D, D, D, D, D, D, D, D, D, D, D, D, D]) _
 repeat refine VW.seq ?_
 refine VW.regl hT fun K hK => ?_
 simp only [wq, simprocAttr]
 refine hK _ ?_
 clear hK K
 try refine vthen_n ?_
 repeat refine VW.seq ?_
 refine VW.regl hT fun K hK => ?_
 simp only [wq, simprocAttr]
 refine vcall_of (sizesOk_vc t s hl hs) ?_
 simp only [wq, simprocAttr]
 refine vbr (fun h => ?_) (fun h => ?_) <;> simp only [wq, simprocAttr]
 case refine_2 =>
  refine hK _ ?_
  clear hK K
  try refine vthen_n ?_
  repeat refine VW.seq ?_
  refine VW.cond rfl (fun hc => ?_) (fun hc => ?_)
  ·repeat refine VW.seq ?_
   refine VW.regl hT fun K hK => ?_
   simp only [wq, simprocAttr]
   refine hK _ ?_
   clear hK K
   try refine vthen_n ?_
   have h' : sizesOk t s = false := (Bool.not_eq_true' _).mp h
   refine VW.ret ⟨.inl rfl, _, rfl, ?_⟩
   rw [if_neg (by rw [newOk, fits, h', Bool.false_and, Bool.false_and]; decide)]
  ·cases hc
 have hok0 : sizesOk t s = true := by
  have := h
  rwa [Bool.not_eq_false'] at this
 have hok := (sizesOk_iff.1 hok0).1
 have hsl := (sizesOk_iff.1 hok0).2.1
 have htl := treeOk_len hok
 refine vcall_of (containsI_vc s 123 [] (fun x => decide (x > 64)) rfl newFab1_vc hs) ?_
 simp only [wq, simprocAttr]
 refine hK _ ?_
 clear hK K
 try refine vthen_n ?_
 repeat refine VW.seq ?_
 refine VW.cond rfl (fun hc => ?_) (fun hc => ?_)
 ·repeat refine VW.seq ?_
  refine VW.regl hT fun K hK => ?_
  simp only [wq, simprocAttr]
  refine hK _ ?_
  clear hK K
  try refine vthen_n ?_
  refine VW.ret ⟨.inl rfl, _, rfl, ?_⟩
  rw [if_neg (by rw [newOk, show (s.any fun x => decide (x > 64)) = true from hc]; simp)]
 have h64 : ∀ i, i < s.length → 0 ≤ s.getD i 0 ∧ s.getD i 0 ≤ 64 := fun i hi => by
  have hc : (s.any fun x => decide (x > 64)) = false := hc
  rw [List.any_eq_false] at hc
  have := hc _ (getD_mem hi)
  refine ⟨?_, by simpa using this⟩
  rcases sizes_node hok0 (k := i) (by omega) with h | ⟨h, _⟩
  ·omega
  ·have := pw_in h
   omega
 refine VW.skip (vthen_n ?_)
 repeat refine VW.seq ?_
 refine VW.regl hT fun K hK => ?_
 simp only [wq, simprocAttr]
 refine vcall_ex (enum_vc t hl) ?_
 intro pv hpv
 rw [if_pos hok] at hpv
 obtain ⟨x3, rfl⟩ := hpv
 simp only [wq, simprocAttr]
 refine hK _ ?_
 clear hK K
 try refine vthen_n ?_
 repeat refine VW.seq ?_
 refine VW.regl hT fun K hK => ?_
 simp only [wq, simprocAttr]
 refine vcall_ex (allocate_vc t s hl hs) ?_
 intro pv hpv
 by_cases hf : fits t s = true
 case neg =>
  rw [if_neg hf] at hpv
  obtain ⟨bs, rfl⟩ := hpv
  simp only [wq, simprocAttr]
  refine hK _ ?_
  clear hK K
  try refine vthen_n ?_
  repeat refine VW.seq ?_
  refine VW.regl hT fun K hK => ?_
  simp only [wq, simprocAttr]
  refine hK _ ?_
  clear hK K
  try refine vthen_n ?_
  repeat refine VW.seq ?_
  refine VW.cond rfl (fun hc => ?_) (fun hc => ?_)
  ·repeat refine VW.seq ?_
   refine VW.regl hT fun K hK => ?_
   simp only [wq, simprocAttr]
   refine hK _ ?_
   clear hK K
   try refine vthen_n ?_
   refine VW.ret ⟨.inl rfl, _, rfl, ?_⟩
   rw [if_neg (by rw [newOk, (by simpa using hf : fits t s = false), Bool.false_and]; decide)]
  ·cases hc
 rw [if_pos hf] at hpv
 subst hpv
 simp only [wq, simprocAttr]
 refine hK _ ?_
 clear hK K
 try refine vthen_n ?_
 repeat refine VW.seq ?_
 refine VW.regl hT fun K hK => ?_
 simp only [wq, simprocAttr]
 refine hK _ ?_
 clear hK K
 try refine vthen_n ?_
 repeat refine VW.seq ?_
 refine VW.cond rfl (fun hc => ?_) (fun hc => ?_)
 ·cases hc
 refine VW.skip (vthen_n ?_)
 repeat refine VW.seq ?_
 refine VW.regl hT fun K hK => ?_
 simp only [wq, simprocAttr]
 refine vcall_of (clone_vc t hl) ?_
 simp only [wq, simprocAttr]
 refine vcall_of (cloneI_vc s hs) ?_
 simp only [wq, simprocAttr]
 refine hK _ ?_
 clear hK K
 try refine vthen_n ?_
 repeat refine VW.seq ?_
 refine VW.regl hT fun K hK => ?_
 simp only [wq, simprocAttr]
 refine hK _ ?_
 clear hK K
 try refine vthen_n ?_
 refine VW.retag (ι := Unit) (g := 10) (fun _ => fFab) _ rfl (fun w Z cs B h => ⟨(), h⟩) (fun j => by simp only [wq, simprocAttr]; rfl) (fun _ => ?_)
 repeat refine VW.seq ?_
 refine VW.block ?_
 refine VW.loop (α := Nat) [(0, none), (4, none), (10, none), (46, none), (47, none), (48, none)] (fun i => [.v false sNS t, D, D, D, .root (.box 32) sFi .own ([], [], [], [], []), D, D, D, D, D, .root (.box 32) sFi fFab (t, s, allBars t s, memTo s i, List.replicate i true), D, D, D, D, D, D, D, D, D, D, D, D, D, D, D, D, D, D, D, D, D, D, D, D, D, D, D, D, D, D, D, D, D, D, D, .v false sI s, .v false (.int .i64) ((s.length : Nat)), .v false (.int .i64) ((i : Nat)), D, D, D, D, D, D, D, D, D, D, D, D, D, D, D, D, D, D, D]) (fun i => i ≤ s.length) (fun i => s.length - i) ⟨0, by omega, ?_⟩ fun i hi => ?_
 ·simp only [wn, wq, simprocAttr]
  try rfl
 repeat refine VW.seq ?_
 refine VW.regl hT fun K hK => ?_
 simp only [wq, simprocAttr]
 refine hK _ ?_
 clear hK K
 try refine vthen_n ?_
 repeat refine VW.seq ?_
 refine VW.cond rfl (fun hc => ?_) (fun hc => ?_)
 ·have hlt : i < s.length := by simpa using hc
  have hml := memTo_len (s := s) (i := i) (by omega)
  have h6 := h64 i hlt
  refine VW.skip (vthen_n ?_)
  repeat refine VW.seq ?_
  refine VW.block ?_
  repeat refine VW.seq ?_
  refine VW.regl hT fun K hK => ?_
  simp only [wq, simprocAttr]
  refine ⟨decide_eq_true ⟨Int.natCast_nonneg _, by show (i : Int) < (s.length : Int); omega⟩, ?_⟩
  refine hK _ ?_
  clear hK K
  try refine vthen_n ?_
  generalize hN : s.getD i 0 = N at *
  refine VW.weak (weak_norm [(0, none), (4, none), (10, none), (12, none), (46, none), (47, none), (48, none)] _) ?_
  simp only [wn, wq, simprocAttr]
  have hrep : true :: List.replicate i true = List.replicate i true ++ [true] := by rw [← List.replicate_succ, List.replicate_succ']
  have sc3 : (decide (0 ≤ N) && limOk N.toNat 8) = true := by simp [limOk]; omega
  refine VW.any hT hm fun K hK W hW => ?_
  apply cutl
  intro tK
  apply cutl
  intro t65535
  apply cutl
  intro t32767
  apply cutl
  intro t4095
  apply cutl
  intro t3071
  apply cutl
  intro t2559
  apply cutl
  intro t991
  apply cutl
  intro t767
  apply cutl
  intro t989
  apply cutl
  intro t975
  apply cutl
  intro t735
  apply cutl
  intro t479
  apply cutl
  intro t255
  apply cutl
  intro t973
  apply cutl
  intro t967
  apply cutl
  intro t733
  apply cutl
  intro t719
  apply cutl
  intro t477
  apply cutl
  intro t463
  apply cutl
  intro t223
  apply cutl
  intro t965
  apply cutl
  intro t717
  apply cutl
  intro t711
  apply cutl
  intro t461
  apply cutl
  intro t455
  apply cutl
  intro t221
  apply cutl
  intro t207
  apply cutl
  intro t709
  apply cutl
  intro t453
  apply cutl
  intro t205
  apply cutl
  intro t199
  ·refine hW.takeF 0 0 1 _ (by kernel_rfl) ?_
   simp only [wy, wq, simprocAttr]
   refine hW.take 1 2 5 _ (by kernel_rfl) ?_
   simp only [wy, wq, simprocAttr]
   refine hW.takeF 5 6 69 _ (by kernel_rfl) ?_
   simp only [wy, wq, simprocAttr]
   refine hW.takeF 69 7 197 _ (by kernel_rfl) ?_
   simp only [wy, wq, simprocAttr]
   refine hW.all 197 [(1, 199), (3, 205), (8, 453), (9, 709)] _ (by kernel_rfl) (by simp) ?_
   simp only [wy, wq, simprocAttr]
   refine ⟨?_, ?_, ?_, ?_⟩
   ·exact t199.h
   ·refine ⟨sc3, ?_⟩
    exact t205.h
   ·exact t453.h
   ·exact t709.h
  ·skip
   refine hW.all 199 [(3, 207), (8, 455), (9, 711)] _ (by kernel_rfl) (by simp) ?_
   simp only [wy, wq, simprocAttr]
   refine ⟨?_, ?_, ?_⟩
   ·refine ⟨sc3, ?_⟩
    exact t207.h
   ·exact t455.h
   ·exact t711.h
  ·skip
   refine hW.all 205 [(1, 207), (4, 221), (8, 461), (9, 717)] _ (by kernel_rfl) (by simp) ?_
   simp only [wy, wq, simprocAttr]
   refine ⟨?_, ?_, ?_, ?_⟩
   ·exact t207.h
   ·exact t221.h
   ·exact t461.h
   ·exact t717.h
  ·skip
   refine hW.all 453 [(1, 455), (3, 461), (9, 965)] _ (by kernel_rfl) (by simp) ?_
   simp only [wy, wq, simprocAttr]
   refine ⟨?_, ?_, ?_⟩
   ·exact t455.h
   ·refine ⟨sc3, ?_⟩
    exact t461.h
   ·exact t965.h
  ·skip
   refine hW.all 709 [(1, 711), (3, 717), (8, 965)] _ (by kernel_rfl) (by simp) ?_
   simp only [wy, wq, simprocAttr]
   refine ⟨?_, ?_, ?_⟩
   ·exact t711.h
   ·refine ⟨sc3, ?_⟩
    exact t717.h
   ·exact t965.h
  ·skip
   refine hW.all 207 [(4, 223), (8, 463), (9, 719)] _ (by kernel_rfl) (by simp) ?_
   simp only [wy, wq, simprocAttr]
   refine ⟨?_, ?_, ?_⟩
   ·exact t223.h
   ·exact t463.h
   ·exact t719.h
  ·skip
   refine hW.all 221 [(1, 223), (8, 477), (9, 733)] _ (by kernel_rfl) (by simp) ?_
   simp only [wy, wq, simprocAttr]
   refine ⟨?_, ?_, ?_⟩
   ·exact t223.h
   ·exact t477.h
   ·exact t733.h
  ·skip
   refine hW.all 455 [(3, 463), (9, 967)] _ (by kernel_rfl) (by simp) ?_
   simp only [wy, wq, simprocAttr]
   refine ⟨?_, ?_⟩
   ·refine ⟨sc3, ?_⟩
    exact t463.h
   ·exact t967.h
  ·skip
   refine hW.all 461 [(1, 463), (4, 477), (9, 973)] _ (by kernel_rfl) (by simp) ?_
   simp only [wy, wq, simprocAttr]
   refine ⟨?_, ?_, ?_⟩
   ·exact t463.h
   ·exact t477.h
   ·exact t973.h
  ·skip
   refine hW.all 711 [(3, 719), (8, 967)] _ (by kernel_rfl) (by simp) ?_
   simp only [wy, wq, simprocAttr]
   refine ⟨?_, ?_⟩
   ·refine ⟨sc3, ?_⟩
    exact t719.h
   ·exact t967.h
  ·skip
   refine hW.all 717 [(1, 719), (4, 733), (8, 973)] _ (by kernel_rfl) (by simp) ?_
   simp only [wy, wq, simprocAttr]
   refine ⟨?_, ?_, ?_⟩
   ·exact t719.h
   ·exact t733.h
   ·exact t973.h
  ·skip
   refine hW.all 965 [(1, 967), (3, 973)] _ (by kernel_rfl) (by simp) ?_
   simp only [wy, wq, simprocAttr]
   refine ⟨?_, ?_⟩
   ·exact t967.h
   ·refine ⟨sc3, ?_⟩
    exact t973.h
  ·skip
   refine hW.all 223 [(5, 255), (8, 479), (9, 735)] _ (by kernel_rfl) (by simp) ?_
   simp only [wy, wq, simprocAttr]
   refine ⟨?_, ?_, ?_⟩
   ·refine ⟨by simp [limOk, hml]; omega, ?_⟩
    exact t255.h
   ·exact t479.h
   ·exact t735.h
  ·skip
   refine hW.all 463 [(4, 479), (9, 975)] _ (by kernel_rfl) (by simp) ?_
   simp only [wy, wq, simprocAttr]
   refine ⟨?_, ?_⟩
   ·exact t479.h
   ·exact t975.h
  ·skip
   refine hW.all 477 [(1, 479), (9, 989)] _ (by kernel_rfl) (by simp) ?_
   simp only [wy, wq, simprocAttr]
   refine ⟨?_, ?_⟩
   ·exact t479.h
   ·exact t989.h
  ·skip
   refine hW.all 719 [(4, 735), (8, 975)] _ (by kernel_rfl) (by simp) ?_
   simp only [wy, wq, simprocAttr]
   refine ⟨?_, ?_⟩
   ·exact t735.h
   ·exact t975.h
  ·skip
   refine hW.all 733 [(1, 735), (8, 989)] _ (by kernel_rfl) (by simp) ?_
   simp only [wy, wq, simprocAttr]
   refine ⟨?_, ?_⟩
   ·exact t735.h
   ·exact t989.h
  ·skip
   refine hW.all 967 [(3, 975)] _ (by kernel_rfl) (by simp) ?_
   simp only [wy, wq, simprocAttr]
   skip
   refine ⟨sc3, ?_⟩
   exact t975.h
  ·skip
   refine hW.all 973 [(1, 975), (4, 989)] _ (by kernel_rfl) (by simp) ?_
   simp only [wy, wq, simprocAttr]
   refine ⟨?_, ?_⟩
   ·exact t975.h
   ·exact t989.h
  ·skip
   refine hW.all 255 [(8, 511), (9, 767)] _ (by kernel_rfl) (by simp) ?_
   simp only [wy, wq, simprocAttr]
   refine ⟨?_, ?_⟩
   ·refine hW.takeF 511 11 2559 _ (by kernel_rfl) ?_
    simp only [wy, wq, simprocAttr]
    exact t2559.h
   ·exact t767.h
  ·skip
   refine hW.all 479 [(5, 511), (9, 991)] _ (by kernel_rfl) (by simp) ?_
   simp only [wy, wq, simprocAttr]
   refine ⟨?_, ?_⟩
   ·refine ⟨by simp [limOk, hml]; omega, ?_⟩
    refine hW.takeF 511 11 2559 _ (by kernel_rfl) ?_
    simp only [wy, wq, simprocAttr]
    exact t2559.h
   ·exact t991.h
  ·skip
   refine hW.all 735 [(5, 767), (8, 991)] _ (by kernel_rfl) (by simp) ?_
   simp only [wy, wq, simprocAttr]
   refine ⟨?_, ?_⟩
   ·refine ⟨by simp [limOk, hml]; omega, ?_⟩
    exact t767.h
   ·exact t991.h
  ·skip
   refine hW.all 975 [(4, 991)] _ (by kernel_rfl) (by simp) ?_
   simp only [wy, wq, simprocAttr]
   skip
   exact t991.h
  ·skip
   refine hW.all 989 [(1, 991)] _ (by kernel_rfl) (by simp) ?_
   simp only [wy, wq, simprocAttr]
   skip
   exact t991.h
  ·skip
   refine hW.all 767 [(8, 1023)] _ (by kernel_rfl) (by simp) ?_
   simp only [wy, wq, simprocAttr]
   skip
   refine hW.takeF 1023 11 3071 _ (by kernel_rfl) ?_
   simp only [wy, wq, simprocAttr]
   exact t3071.h
  ·skip
   refine hW.all 991 [(5, 1023)] _ (by kernel_rfl) (by simp) ?_
   simp only [wy, wq, simprocAttr]
   skip
   refine ⟨by simp [limOk, hml]; omega, ?_⟩
   refine hW.takeF 1023 11 3071 _ (by kernel_rfl) ?_
   simp only [wy, wq, simprocAttr]
   exact t3071.h
  ·skip
   refine hW.all 2559 [(9, 3071)] _ (by kernel_rfl) (by simp) ?_
   simp only [wy, wq, simprocAttr]
   skip
   exact t3071.h
  ·skip
   refine hW.all 3071 [(10, 4095)] _ (by kernel_rfl) (by simp) ?_
   simp only [wy, wq, simprocAttr]
   skip
   refine ⟨by simp [limOk, hml]; omega, ?_⟩
   exact t4095.h
  ·skip
   refine hW.all 4095 [(12, 8191)] _ (by kernel_rfl) (by simp) ?_
   simp only [wy, wq, simprocAttr]
   skip
   refine hW.takeF 8191 13 16383 _ (by kernel_rfl) ?_
   simp only [wy, wq, simprocAttr]
   refine hW.takeF 16383 14 32767 _ (by kernel_rfl) ?_
   simp only [wy, wq, simprocAttr]
   exact t32767.h
  ·skip
   refine hW.all 32767 [(15, 65535)] _ (by kernel_rfl) (by simp) ?_
   simp only [wy, wq, simprocAttr]
   skip
   exact t65535.h
  ·skip
   refine hW.done 65535 _ (by kernel_rfl) ?_
   exact tK.h
  ·refine hK _ ?_
   show vthen _ _ _ .normal _
   refine vthen_n ?_
   repeat refine VW.seq ?_
   refine VW.regl hT fun K hK => ?_
   simp only [wq, simprocAttr]
   refine hK _ ?_
   clear hK K
   try refine vthen_n ?_
   refine ⟨i + 1, hlt, ?_, by show s.length - (i + 1) < s.length - i; omega⟩
   simp only [wn, wq, simprocAttr]
   rw [wrap64 (by omega) (by omega), memTo_succ hlt, hN, hrep]
   rfl
 ·have hge : i = s.length := by
   have : s.length ≤ i := by simpa using hc
   omega
  subst hge
  refine VW.exit ?_
  show vthen _ _ _ .normal _
  refine vthen_n ?_
  repeat refine VW.seq ?_
  refine VW.regl hT fun K hK => ?_
  simp only [wq, simprocAttr]
  refine hK _ ?_
  clear hK K
  try refine vthen_n ?_
  refine VW.ret ⟨.inl rfl, _, rfl, ?_⟩
  have hn : newOk t s = true := by
   rw [newOk, hf, Bool.true_and, Bool.not_eq_true', List.any_eq_false]
   intro x hx
   obtain ⟨j, h1, h2⟩ := List.getElem_of_mem hx
   have := h64 j h1
   rw [List.getD_eq_getElem?_getD, List.getElem?_eq_getElem h1] at this
   have : s[j] ≤ 64 := this.2
   rw [h2] at this
   simpa using this
  rw [if_pos hn]
  rfl
end Go.Proofs.YtoeblmcibheldaaGreatDoor.V.W
end
section
namespace Go.Proofs.YtoeblmcibheldaaGreatDoor.V.W
open Go Go.RowKit
set_option maxRecDepth 20000 in
set_option maxHeartbeats 2000000 in
theorem specNew_vc (t : List Nd) (s : List Int) (hl : t.length ≤ 2000000) (hs : s.length ≤ 2000000) : VC Tryz.prog 73 [.v false sNS t, .v false sI s] (fun pv => if newOk t s = true then pv = rFab fFab (newFab t s) true else pv = rFab .own ([], [], [], [], []) false) := by
 refine VC.of_body hT Tryz.func73 rfl (by kernel_rfl) [(.cell 4 32, true, sFi), (.tmp 5, false, .bool)] (by kernel_rfl) ?_
 show VW _ _ ([.v false sNS t, .v false sI s, D, D, D, D, D, D, D, D, D, D, D, D, D, D, D, D, D, D, D, D, D, D, D, D, D, D, D, D, D, D, D, D, D, D, D, D, D, D, D, D, D, D, D, D, D, D, D, D, D, D, D, D, D, D, D, D, D, D, D, D, D, D, D, D, D, D]) _
 repeat refine VW.seq ?_
 refine VW.regl hT fun K hK => ?_
 simp only [wq, simprocAttr]
 refine hK _ ?_
 clear hK K
 try refine vthen_n ?_
 repeat refine VW.seq ?_
 refine VW.regl hT fun K hK => ?_
 simp only [wq, simprocAttr]
 refine vcall_ex (specAllocate_vc t s hl hs) ?_
 intro pv hpv
 by_cases hf : fits t s = true
 case neg =>
  have hno : newOk t s = false := by rw [newOk, (by simpa using hf : fits t s = false), Bool.false_and]
  rw [if_neg hf] at hpv
  obtain ⟨bs, rfl⟩ := hpv
  simp only [wq, simprocAttr]
  refine hK _ ?_
  clear hK K
  try refine vthen_n ?_
  repeat refine VW.seq ?_
  refine VW.regl hT fun K hK => ?_
  simp only [wq, simprocAttr]
  refine vcall_ex (specEnum_vc t hl) ?_
  intro pv hpv
  by_cases hok : treeOk t = true
  ·rw [if_pos hok] at hpv
   obtain ⟨x3, rfl⟩ := hpv
   simp only [wq, simprocAttr]
   refine hK _ ?_
   clear hK K
   try refine vthen_n ?_
   repeat refine VW.seq ?_
   refine VW.regl hT fun K hK => ?_
   simp only [wq, simprocAttr]
   refine hK _ ?_
   clear hK K
   try refine vthen_n ?_
   repeat refine VW.seq ?_
   refine VW.cond rfl (fun hc => ?_) (fun hc => ?_)
   ·repeat refine VW.seq ?_
    refine VW.regl hT fun K hK => ?_
    simp only [wq, simprocAttr]
    refine hK _ ?_
    clear hK K
    try refine vthen_n ?_
    refine VW.ret ⟨.inl rfl, _, rfl, ?_⟩
    rw [if_neg (by rw [hno]; decide)]
   ·cases hc
  ·rw [if_neg hok] at hpv
   subst hpv
   simp only [wq, simprocAttr]
   refine hK _ ?_
   clear hK K
   try refine vthen_n ?_
   repeat refine VW.seq ?_
   refine VW.regl hT fun K hK => ?_
   simp only [wq, simprocAttr]
   refine hK _ ?_
   clear hK K
   try refine vthen_n ?_
   repeat refine VW.seq ?_
   refine VW.cond rfl (fun hc => ?_) (fun hc => ?_)
   ·repeat refine VW.seq ?_
    refine VW.regl hT fun K hK => ?_
    simp only [wq, simprocAttr]
    refine hK _ ?_
    clear hK K
    try refine vthen_n ?_
    refine VW.ret ⟨.inl rfl, _, rfl, ?_⟩
    rw [if_neg (by rw [hno]; decide)]
   ·cases hc
 rw [if_pos hf] at hpv
 subst hpv
 simp only [wq, simprocAttr]
 refine hK _ ?_
 clear hK K
 try refine vthen_n ?_
 have hok0 : sizesOk t s = true := by
  have := hf
  rw [fits, Bool.and_eq_true] at this
  exact this.1
 have hok := (sizesOk_iff.1 hok0).1
 have hsl := (sizesOk_iff.1 hok0).2.1
 have htl := treeOk_len hok
 have hpos : ∀ i, i < s.length → 0 ≤ s.getD i 0 := fun i hi => by
  rcases sizes_node hok0 (k := i) (by omega) with h | ⟨h, _⟩
  ·omega
  ·have := pw_in h
   omega
 repeat refine VW.seq ?_
 refine VW.regl hT fun K hK => ?_
 simp only [wq, simprocAttr]
 refine vcall_ex (specEnum_vc t hl) ?_
 intro pv hpv
 rw [if_pos hok] at hpv
 obtain ⟨x3, rfl⟩ := hpv
 simp only [wq, simprocAttr]
 refine hK _ ?_
 clear hK K
 try refine vthen_n ?_
 repeat refine VW.seq ?_
 refine VW.regl hT fun K hK => ?_
 simp only [wq, simprocAttr]
 refine hK _ ?_
 clear hK K
 try refine vthen_n ?_
 repeat refine VW.seq ?_
 refine VW.cond rfl (fun hc => ?_) (fun hc => ?_)
 ·cases hc
 refine VW.skip (vthen_n ?_)
 repeat refine VW.seq ?_
 refine VW.regl hT fun K hK => ?_
 simp only [wq, simprocAttr]
 refine ⟨by simp [limOk]; omega, by simp [limOk]; omega, ?_⟩
 refine hK _ ?_
 clear hK K
 try refine vthen_n ?_
 repeat refine VW.seq ?_
 refine VW.regl hT fun K hK => ?_
 simp only [wq, simprocAttr]
 refine hK _ ?_
 clear hK K
 try refine vthen_n ?_
 refine VW.retag (ι := Unit) (g := 10) (fun _ => fFab) _ rfl (fun w Z cs B h => ⟨(), h⟩) (fun j => by simp only [wq, simprocAttr]; rfl) (fun _ => ?_)
 repeat refine VW.seq ?_
 refine VW.block ?_
 refine VW.loop (α := Nat) [(0, none), (1, none), (4, none), (10, none), (11, none)] (fun i => [.v false sNS t, .v false sI s, D, D, .root (.box 32) sFi .own ([], [], [], [], []), D, D, D, D, D, .root (.box 32) sFi fFab (t, s, allBars t s, memTo s i, List.replicate i true), .v false (.int .i64) ((i : Nat)), D, D, D, D, D, D, D, D, D, D, D, D, D, D, D, D, D, D, D, D, D, D, D, D, D, D, D, D, D, D, D, D, D, D, D, D, D, D, D, D, D, D, D, D, D, D, D, D, D, D, D, D, D, D, D, D]) (fun i => i ≤ s.length ∧ ∀ j, j < i → s.getD j 0 ≤ 64) (fun i => s.length - i) ⟨0, ⟨by omega, fun j h => by omega⟩, ?_⟩ fun i ⟨hi, hle⟩ => ?_
 ·simp only [wn, wq, simprocAttr]
  try rfl
 repeat refine VW.seq ?_
 refine VW.regl hT fun K hK => ?_
 simp only [wq, simprocAttr]
 refine hK _ ?_
 clear hK K
 try refine vthen_n ?_
 repeat refine VW.seq ?_
 refine VW.cond rfl (fun hc => ?_) (fun hc => ?_)
 ·have hlt : i < s.length := by
   have : (i : Int) < (t.length : Int) := of_decide_eq_true hc
   omega
  have hml := memTo_len (s := s) (i := i) (by omega)
  have h6 := hpos i hlt
  have hiS : decide (0 ≤ (i : Int) ∧ (i : Int) < (s.length : Int)) = true := decide_eq_true ⟨Int.natCast_nonneg _, by omega⟩
  refine VW.skip (vthen_n ?_)
  repeat refine VW.seq ?_
  refine VW.block ?_
  repeat refine VW.seq ?_
  refine VW.regl hT fun K hK => ?_
  simp only [wq, simprocAttr]
  refine ⟨hiS, ?_⟩
  refine hK _ ?_
  clear hK K
  try refine vthen_n ?_
  repeat refine VW.seq ?_
  refine VW.cond rfl (fun hc => ?_) (fun hc => ?_)
  ·have hc : s.getD i 0 > 64 := of_decide_eq_true hc
   have hno : newOk t s = false := by
    rw [newOk, hf, Bool.true_and, Bool.not_eq_false', List.any_eq_true]
    exact ⟨_, getD_mem hlt, decide_eq_true hc⟩
   repeat refine VW.seq ?_
   refine VW.regl hT fun K hK => ?_
   simp only [wq, simprocAttr]
   refine hK _ ?_
   clear hK K
   try refine vthen_n ?_
   refine VW.ret ⟨.inl rfl, _, rfl, ?_⟩
   rw [if_neg (by rw [hno]; decide)]
  have h7 : ¬ s.getD i 0 > 64 := of_decide_eq_false hc
  refine VW.skip (vthen_n ?_)
  refine VW.weak (weak_norm [(0, none), (1, none), (4, none), (10, none), (11, none)] _) ?_
  simp only [wn, wq, simprocAttr]
  repeat refine VW.seq ?_
  have hrep : true :: List.replicate i true = List.replicate i true ++ [true] := by rw [← List.replicate_succ, List.replicate_succ']
  have sc3 : (decide (0 ≤ s.getD i 0) && limOk (Int.toNat (s.getD i 0)) 8) = true := by
   generalize s.getD i 0 = N at *
   simp [limOk]; omega
  refine VW.any hT hm fun K hK W hW => ?_
  apply cutl
  intro tK
  apply cutl
  intro t2047
  apply cutl
  intro t1023
  apply cutl
  intro t255
  apply cutl
  intro t253
  apply cutl
  intro t127
  apply cutl
  intro t125
  apply cutl
  intro t63
  apply cutl
  intro t61
  apply cutl
  intro t31
  apply cutl
  intro t29
  apply cutl
  intro t15
  ·refine hW.takeF 0 0 1 _ (by kernel_rfl) ?_
   simp only [wy, wq, simprocAttr]
   refine hW.take 1 2 5 _ (by kernel_rfl) ?_
   simp only [wy, wq, simprocAttr]
   refine hW.take 5 3 13 _ (by kernel_rfl) ?_
   simp only [wy, wq, simprocAttr]
   refine hW.all 13 [(1, 15), (4, 29)] _ (by kernel_rfl) (by simp) ?_
   simp only [wy, wq, simprocAttr]
   refine ⟨?_, ?_⟩
   ·exact t15.h
   ·refine ⟨hiS, ?_⟩
    exact t29.h
  ·skip
   refine hW.all 15 [(4, 31)] _ (by kernel_rfl) (by simp) ?_
   simp only [wy, wq, simprocAttr]
   skip
   refine ⟨hiS, ?_⟩
   exact t31.h
  ·skip
   refine hW.all 29 [(1, 31), (5, 61)] _ (by kernel_rfl) (by simp) ?_
   simp only [wy, wq, simprocAttr]
   refine ⟨?_, ?_⟩
   ·exact t31.h
   ·exact t61.h
  ·skip
   refine hW.all 31 [(5, 63)] _ (by kernel_rfl) (by simp) ?_
   simp only [wy, wq, simprocAttr]
   skip
   exact t63.h
  ·skip
   refine hW.all 61 [(1, 63), (6, 125)] _ (by kernel_rfl) (by simp) ?_
   simp only [wy, wq, simprocAttr]
   refine ⟨?_, ?_⟩
   ·exact t63.h
   ·refine ⟨sc3, ?_⟩
    exact t125.h
  ·skip
   refine hW.all 63 [(6, 127)] _ (by kernel_rfl) (by simp) ?_
   simp only [wy, wq, simprocAttr]
   skip
   refine ⟨sc3, ?_⟩
   exact t127.h
  ·skip
   refine hW.all 125 [(1, 127), (7, 253)] _ (by kernel_rfl) (by simp) ?_
   simp only [wy, wq, simprocAttr]
   refine ⟨?_, ?_⟩
   ·exact t127.h
   ·exact t253.h
  ·skip
   refine hW.all 127 [(7, 255)] _ (by kernel_rfl) (by simp) ?_
   simp only [wy, wq, simprocAttr]
   skip
   exact t255.h
  ·skip
   refine hW.all 253 [(1, 255)] _ (by kernel_rfl) (by simp) ?_
   simp only [wy, wq, simprocAttr]
   skip
   exact t255.h
  ·skip
   refine hW.all 255 [(8, 511)] _ (by kernel_rfl) (by simp) ?_
   simp only [wy, wq, simprocAttr]
   skip
   refine ⟨by simp [limOk, hml]; omega, ?_⟩
   refine hW.takeF 511 9 1023 _ (by kernel_rfl) ?_
   simp only [wy, wq, simprocAttr]
   exact t1023.h
  ·skip
   refine hW.all 1023 [(10, 2047)] _ (by kernel_rfl) (by simp) ?_
   simp only [wy, wq, simprocAttr]
   skip
   exact t2047.h
  ·skip
   refine hW.done 2047 _ (by kernel_rfl) ?_
   exact tK.h
  ·refine hK _ ?_
   show vthen _ _ _ .normal _
   refine vthen_n ?_
   repeat refine VW.seq ?_
   refine VW.regl hT fun K hK => ?_
   simp only [wq, simprocAttr]
   refine ⟨by simp [limOk]; omega, ?_⟩
   refine hK _ ?_
   clear hK K
   try refine vthen_n ?_
   show vthen _ _ _ .normal _
   refine vthen_n ?_
   repeat refine VW.seq ?_
   refine VW.regl hT fun K hK => ?_
   simp only [wq, simprocAttr]
   refine hK _ ?_
   clear hK K
   try refine vthen_n ?_
   refine ⟨i + 1, ⟨hlt, fun j h => ?_⟩, ?_, by show s.length - (i + 1) < s.length - i; omega⟩
   ·rcases Nat.lt_or_ge j i with h1 | h1
    ·exact hle j h1
    ·obtain rfl : j = i := by omega
     omega
   simp only [wn, wq, simprocAttr]
   rw [wrap64 (by omega) (by omega), memTo_succ hlt, hrep]
   rfl
 ·have hge : i = s.length := by
   have : ¬ (i : Int) < (t.length : Int) := of_decide_eq_false hc
   omega
  subst hge
  refine VW.exit ?_
  show vthen _ _ _ .normal _
  refine vthen_n ?_
  repeat refine VW.seq ?_
  refine VW.regl hT fun K hK => ?_
  simp only [wq, simprocAttr]
  refine hK _ ?_
  clear hK K
  try refine vthen_n ?_
  refine VW.ret ⟨.inl rfl, _, rfl, ?_⟩
  have hn : newOk t s = true := by
   rw [newOk, hf, Bool.true_and, Bool.not_eq_true', List.any_eq_false]
   intro x hx
   obtain ⟨j, h1, h2⟩ := List.getElem_of_mem hx
   have := hle j h1
   rw [List.getD_eq_getElem?_getD, List.getElem?_eq_getElem h1] at this
   have : s[j] ≤ 64 := this
   rw [h2] at this
   simpa using this
  rw [if_pos hn]
  rfl
end Go.Proofs.YtoeblmcibheldaaGreatDoor.V.W
end
section
namespace Go.Proofs.YtoeblmcibheldaaGreatDoor.V.W
open Go Go.RowKit
def words (xs : List Int) : Bool := !xs.any fun x => !inB x 0 65535
theorem isWord_vc (x : Int) : VC Tryz.prog 127 [.v false (.int .i64) (x)] (· = .v false .bool (inB x 0 65535)) := by
 refine VC.of_body hT Tryz.func127 rfl (by kernel_rfl) [(.tmp 2, false, .bool)] (by kernel_rfl) ?_
 show VW _ _ ([.v false (.int .i64) (x), D, D, D, D]) _
 repeat refine VW.seq ?_
 refine VW.regl hT fun K hK => ?_
 simp only [wq, simprocAttr]
 refine hK _ ?_
 clear hK K
 try refine vthen_n ?_
 repeat refine VW.seq ?_
 refine VW.regl hT fun K hK => ?_
 simp only [wq, simprocAttr]
 refine vcall_of (within_vc x 0 65535) ?_
 simp only [wq, simprocAttr]
 refine hK _ ?_
 clear hK K
 try refine vthen_n ?_
 exact VW.ret ⟨.inl rfl, _, rfl, rfl⟩
theorem areWords1_vc (x : Int) : VC Tryz.prog 126 [.v false (.int .i64) (x)] (· = .v false .bool (!inB x 0 65535)) := by
 refine VC.of_body hT Tryz.func126 rfl (by kernel_rfl) [(.tmp 2, false, .bool)] (by kernel_rfl) ?_
 show VW _ _ ([.v false (.int .i64) (x), D, D, D, D, D]) _
 repeat refine VW.seq ?_
 refine VW.regl hT fun K hK => ?_
 simp only [wq, simprocAttr]
 refine hK _ ?_
 clear hK K
 try refine vthen_n ?_
 repeat refine VW.seq ?_
 refine VW.regl hT fun K hK => ?_
 simp only [wq, simprocAttr]
 refine vcall_of (isWord_vc x) ?_
 simp only [wq, simprocAttr]
 refine hK _ ?_
 clear hK K
 try refine vthen_n ?_
 exact VW.ret ⟨.inl rfl, _, rfl, rfl⟩
theorem areWords_vc (xs : List Int) (hl : xs.length ≤ 2000000) : VC Tryz.prog 79 [.v false sI xs] (· = .v false .bool (words xs)) := by
 refine VC.of_body hT Tryz.func79 rfl (by kernel_rfl) [(.tmp 2, false, .bool)] (by kernel_rfl) ?_
 show VW _ _ ([.v false sI xs, D, D, D, D, D]) _
 repeat refine VW.seq ?_
 refine VW.regl hT fun K hK => ?_
 simp only [wq, simprocAttr]
 refine hK _ ?_
 clear hK K
 try refine vthen_n ?_
 repeat refine VW.seq ?_
 refine VW.regl hT fun K hK => ?_
 simp only [wq, simprocAttr]
 refine vcall_of (containsI_vc xs 126 [] (fun x => !inB x 0 65535) rfl areWords1_vc hl) ?_
 simp only [wq, simprocAttr]
 refine hK _ ?_
 clear hK K
 try refine vthen_n ?_
 exact VW.ret ⟨.inl rfl, _, rfl, rfl⟩
set_option maxRecDepth 20000 in
theorem specWords_vc (xs : List Int) (hl : xs.length ≤ 2000000) : VC Tryz.prog 85 [.v false sI xs] (· = .v false .bool (words xs)) := by
 refine VC.of_body hT Tryz.func85 rfl (by kernel_rfl) [(.tmp 2, false, .bool)] (by kernel_rfl) ?_
 show VW _ _ ([.v false sI xs, D, D, D, D, D, D, D, D, D, D, D, D, D, D, D]) _
 repeat refine VW.seq ?_
 refine VW.regl hT fun K hK => ?_
 simp only [wq, simprocAttr]
 refine hK _ ?_
 clear hK K
 try refine vthen_n ?_
 repeat refine VW.seq ?_
 refine VW.regl hT fun K hK => ?_
 simp only [wq, simprocAttr]
 refine hK _ ?_
 clear hK K
 try refine vthen_n ?_
 repeat refine VW.seq ?_
 refine VW.block ?_
 refine VW.loop (α := Nat) [(0, none), (3, none)] (fun i => [.v false sI xs, D, D, .v false (.int .i64) ((i : Nat)), D, D, D, D, D, D, D, D, D, D, D, D]) (fun i => i ≤ xs.length ∧ ∀ j, j < i → inB (xs.getD j 0) 0 65535 = true) (fun i => xs.length - i) ⟨0, ⟨by omega, fun j h => by omega⟩, ?_⟩ fun i ⟨hi, hj⟩ => ?_
 ·simp only [wn, wq, simprocAttr]
  try rfl
 repeat refine VW.seq ?_
 refine VW.regl hT fun K hK => ?_
 simp only [wq, simprocAttr]
 refine hK _ ?_
 clear hK K
 try refine vthen_n ?_
 repeat refine VW.seq ?_
 refine VW.cond rfl (fun hc => ?_) (fun hc => ?_)
 ·have hlt : i < xs.length := by simpa using hc
  refine VW.skip (vthen_n ?_)
  repeat refine VW.seq ?_
  refine VW.block ?_
  repeat refine VW.seq ?_
  refine VW.regl hT fun K hK => ?_
  simp only [wq, simprocAttr]
  refine ⟨decide_eq_true ⟨Int.natCast_nonneg _, by show (i : Int) < (xs.length : Int); omega⟩, ?_⟩
  refine vcall_of (in_vc _ 0 65535) ?_
  simp only [wq, simprocAttr]
  refine hK _ ?_
  clear hK K
  try refine vthen_n ?_
  repeat refine VW.seq ?_
  refine VW.cond rfl (fun hc => ?_) (fun hc => ?_)
  ·repeat refine VW.seq ?_
   refine VW.regl hT fun K hK => ?_
   simp only [wq, simprocAttr]
   refine hK _ ?_
   clear hK K
   try refine vthen_n ?_
   refine VW.ret ⟨.inl rfl, _, rfl, ?_⟩
   have : words xs = false := by
    rw [words, Bool.not_eq_false', List.any_eq_true]
    exact ⟨_, getD_mem hlt, hc⟩
   rw [this]
  ·refine VW.skip ?_
   show vthen _ _ _ .normal _
   refine vthen_n ?_
   repeat refine VW.seq ?_
   refine VW.regl hT fun K hK => ?_
   simp only [wq, simprocAttr]
   refine hK _ ?_
   clear hK K
   try refine vthen_n ?_
   refine ⟨i + 1, ⟨hlt, fun j h => ?_⟩, ?_, by show xs.length - (i + 1) < xs.length - i; omega⟩
   ·rcases Nat.lt_or_ge j i with h1 | h1
    ·exact hj j h1
    ·obtain rfl : j = i := by omega
     have := hc
     rwa [Bool.not_eq_false'] at this
   simp only [wn, wq, simprocAttr]
   rw [wrap64 (by omega) (by omega)]
   rfl
 ·have hge : i = xs.length := by
   have : xs.length ≤ i := by simpa using hc
   omega
  subst hge
  refine VW.exit ?_
  show vthen _ _ _ .normal _
  refine vthen_n ?_
  repeat refine VW.seq ?_
  refine VW.regl hT fun K hK => ?_
  simp only [wq, simprocAttr]
  refine hK _ ?_
  clear hK K
  try refine vthen_n ?_
  refine VW.ret ⟨.inl rfl, _, rfl, ?_⟩
  have : words xs = true := by
   rw [words, Bool.not_eq_true', List.any_eq_false]
   intro x hx
   obtain ⟨j, h1, h2⟩ := List.getElem_of_mem hx
   have := hj j h1
   rw [List.getD_eq_getElem?_getD, List.getElem?_eq_getElem h1] at this
   have : inB xs[j] 0 65535 = true := this
   rw [h2] at this
   rw [this]
   decide
  rw [this]
def guardOk (t : List Nd) (g : List Bool) : Bool := treeOk t && ((g.length == t.length) && g.getD 0 false)
theorem guardOk_vc (t : List Nd) (g : List Bool) (hl : t.length ≤ 2000000) : VC Tryz.prog 33 [.v false sNS t, .v true sG g] (· = .v false .bool (guardOk t g)) := by
 refine VC.of_body hT Tryz.func33 rfl (by kernel_rfl) [(.tmp 4, false, .bool)] (by kernel_rfl) ?_
 show VW _ _ ([.v false sNS t, .v true sG g, D, D, D, D, D, D, D, D, D, D, D, D, D, D, D, D, D, D, D]) _
 repeat refine VW.seq ?_
 refine VW.regl hT fun K hK => ?_
 simp only [wq, Nat.reduceMul, reduceCtorEq, Nat.reduceBEq, Nat.reduceAdd, Nat.reduceLT, Nat.reduceLeDiff, Nat.reduceSub, Nat.reduceEqDiff]
 refine hK _ ?_
 clear hK K
 try refine vthen_n ?_
 repeat refine VW.seq ?_
 refine VW.regl hT fun K hK => ?_
 simp only [wq, Nat.reduceMul, reduceCtorEq, Nat.reduceBEq, Nat.reduceAdd, Nat.reduceLT, Nat.reduceLeDiff, Nat.reduceSub, Nat.reduceEqDiff]
 refine vcall_of (treeOk_vc t hl) ?_
 simp only [wq, Nat.reduceMul, reduceCtorEq, Nat.reduceBEq, Nat.reduceAdd, Nat.reduceLT, Nat.reduceLeDiff, Nat.reduceSub, Nat.reduceEqDiff]
 refine vbr (fun h => ?_) (fun h => ?_) <;> simp only [wq, Nat.reduceMul, reduceCtorEq, Nat.reduceBEq, Nat.reduceAdd, Nat.reduceLT, Nat.reduceLeDiff, Nat.reduceSub, Nat.reduceEqDiff]
 case refine_2 =>
  refine hK _ ?_
  clear hK K
  try refine vthen_n ?_
  refine VW.ret ⟨.inl rfl, _, rfl, ?_⟩
  have h : treeOk t = false := h
  rw [guardOk, h]
  try rfl
 have h : treeOk t = true := h
 have htl := treeOk_len h
 refine vbr (fun h2 => ?_) (fun h2 => ?_) <;> simp only [wq, Nat.reduceMul, reduceCtorEq, Nat.reduceBEq, Nat.reduceAdd, Nat.reduceLT, Nat.reduceLeDiff, Nat.reduceSub, Nat.reduceEqDiff]
 case refine_2 =>
  refine hK _ ?_
  clear hK K
  try refine vthen_n ?_
  refine VW.ret ⟨.inl rfl, _, rfl, ?_⟩
  have h2 : ((g.length : Int) == (t.length : Int)) = false := h2
  rw [guardOk, h, ← lenEq, h2]
  try rfl
 have h2 : ((g.length : Int) == (t.length : Int)) = true := h2
 have h3 : (g.length : Int) = (t.length : Int) := by simpa using h2
 refine ⟨decide_eq_true ⟨by decide, by show (0 : Int) < (g.length : Int); omega⟩, ?_⟩
 refine hK _ ?_
 clear hK K
 try refine vthen_n ?_
 refine VW.ret ⟨.inl rfl, _, rfl, ?_⟩
 rw [guardOk, h, ← lenEq, h2]
 try rfl
theorem specGuard_vc (t : List Nd) (g : List Bool) (hl : t.length ≤ 2000000) : VC Tryz.prog 84 [.v false sNS t, .v true sG g] (· = .v false .bool (guardOk t g)) := by
 refine VC.of_body hT Tryz.func84 rfl (by kernel_rfl) [(.tmp 4, false, .bool)] (by kernel_rfl) ?_
 show VW _ _ ([.v false sNS t, .v true sG g, D, D, D, D, D, D, D, D, D, D, D, D, D, D, D, D, D, D, D]) _
 repeat refine VW.seq ?_
 refine VW.regl hT fun K hK => ?_
 simp only [wq, Nat.reduceMul, reduceCtorEq, Nat.reduceBEq, Nat.reduceAdd, Nat.reduceLT, Nat.reduceLeDiff, Nat.reduceSub, Nat.reduceEqDiff]
 refine hK _ ?_
 clear hK K
 try refine vthen_n ?_
 repeat refine VW.seq ?_
 refine VW.regl hT fun K hK => ?_
 simp only [wq, Nat.reduceMul, reduceCtorEq, Nat.reduceBEq, Nat.reduceAdd, Nat.reduceLT, Nat.reduceLeDiff, Nat.reduceSub, Nat.reduceEqDiff]
 refine vcall_of (specTreeOk_vc t hl) ?_
 simp only [wq, Nat.reduceMul, reduceCtorEq, Nat.reduceBEq, Nat.reduceAdd, Nat.reduceLT, Nat.reduceLeDiff, Nat.reduceSub, Nat.reduceEqDiff]
 refine vbr (fun h => ?_) (fun h => ?_) <;> simp only [wq, Nat.reduceMul, reduceCtorEq, Nat.reduceBEq, Nat.reduceAdd, Nat.reduceLT, Nat.reduceLeDiff, Nat.reduceSub, Nat.reduceEqDiff]
 case refine_2 =>
  refine hK _ ?_
  clear hK K
  try refine vthen_n ?_
  refine VW.ret ⟨.inl rfl, _, rfl, ?_⟩
  have h : treeOk t = false := h
  rw [guardOk, h]
  try rfl
 have h : treeOk t = true := h
 have htl := treeOk_len h
 refine vbr (fun h2 => ?_) (fun h2 => ?_) <;> simp only [wq, Nat.reduceMul, reduceCtorEq, Nat.reduceBEq, Nat.reduceAdd, Nat.reduceLT, Nat.reduceLeDiff, Nat.reduceSub, Nat.reduceEqDiff]
 case refine_2 =>
  refine hK _ ?_
  clear hK K
  try refine vthen_n ?_
  refine VW.ret ⟨.inl rfl, _, rfl, ?_⟩
  have h2 : ((g.length : Int) == (t.length : Int)) = false := h2
  rw [guardOk, h, ← lenEq, h2]
  try rfl
 have h2 : ((g.length : Int) == (t.length : Int)) = true := h2
 have h3 : (g.length : Int) = (t.length : Int) := by simpa using h2
 refine ⟨decide_eq_true ⟨by decide, by show (0 : Int) < (g.length : Int); omega⟩, ?_⟩
 refine hK _ ?_
 clear hK K
 try refine vthen_n ?_
 refine VW.ret ⟨.inl rfl, _, rfl, ?_⟩
 rw [guardOk, h, ← lenEq, h2]
 try rfl
end Go.Proofs.YtoeblmcibheldaaGreatDoor.V.W
end
section
namespace Go.Proofs.YtoeblmcibheldaaGreatDoor.V.W
open Go Go.RowKit
theorem path_mem {t : List Nd} {k x : Int} (h : isNd t k = true) (hx : x ∈ pathTo t k) : 0 ≤ x ∧ x < t.length := by
 have hok : treeOk t = true := by
  rw [isNd, Bool.and_eq_true] at h
  exact h.1
 have hk := inB_iff.1 (by rw [isNd, Bool.and_eq_true] at h; exact h.2 : inB k 0 (t.length - 1) = true)
 rw [pathTo, if_pos (show (treeOk t && inB k 0 (t.length - 1)) = true from h), List.mem_reverse, List.mem_filter] at hx
 obtain ⟨h1, h2⟩ := hx
 obtain ⟨j, _, rfl⟩ := List.mem_map.1 h1
 have := anc_lt hok (k := k) (by omega) j (by omega)
 exact ⟨by simpa using h2, this.2.1⟩
theorem between_mem {t : List Nd} {a b x : Int} (hx : x ∈ between t a b) : 0 ≤ x ∧ x < t.length := by
 rw [between] at hx
 split at hx
 ·rename_i h
  rw [Bool.and_eq_true] at h
  rcases List.mem_append.1 hx with hx | hx
  ·exact path_mem h.1 (List.mem_of_mem_drop (List.mem_reverse.1 hx))
  ·exact path_mem h.2 (List.mem_of_mem_drop hx)
 ·cases hx
theorem between_len (t : List Nd) (a b : Int) : (between t a b).length ≤ 24 := by
 rw [between]
 split
 ·rename_i h
  rw [Bool.and_eq_true] at h
  have h1 := path_head h.1
  have h2 := path_head h.2
  rw [List.length_append, List.length_reverse, List.length_drop, List.length_drop]
  omega
 ·simp
/-- the lower of two neighbours on a path -/
def lowAt (t : List Nd) (p : List Int) (i : Nat) : Int := if (t.getD (p.getD (i - 1) 0).toNat z).1 == p.getD i 0 then p.getD (i - 1) 0 else p.getD i 0
def passes (t : List Nd) (g : List Bool) (p : List Int) : Bool := (List.range p.length).all fun i => i == 0 || g.getD (lowAt t p i).toNat false
def canReach (t : List Nd) (g : List Bool) (a b : Int) : Bool := guardOk t g && (!((between t a b).length == 0) && passes t g (between t a b))
set_option maxRecDepth 20000 in
set_option maxHeartbeats 1000000 in
theorem canReach_vc (t : List Nd) (g : List Bool) (a b : Int) (hl : t.length ≤ 2000000) : VC Tryz.prog 34 [.v false sNS t, .v true sG g, .v false (.int .i64) (a), .v false (.int .i64) (b)] (· = .v false .bool (canReach t g a b)) := by
 refine VC.of_body hT Tryz.func34 rfl (by kernel_rfl) [(.tmp 8, false, .bool)] (by kernel_rfl) ?_
 show VW _ _ ([.v false sNS t, .v true sG g, .v false (.int .i64) (a), .v false (.int .i64) (b), D, D, D, D, D, D, D, D, D, D, D, D, D, D, D, D, D, D, D, D, D, D, D, D, D, D, D, D, D, D, D, D, D, D, D, D, D, D, D, D, D, D, D, D, D, D, D, D, D, D, D, D, D, D, D, D]) _
 have hmem := fun x (hx : x ∈ between t a b) => between_mem hx
 have hpl := between_len t a b
 rw [canReach]
 repeat refine VW.seq ?_
 refine VW.regl hT fun K hK => ?_
 simp only [wq, simprocAttr]
 refine hK _ ?_
 clear hK K
 try refine vthen_n ?_
 repeat refine VW.seq ?_
 refine VW.regl hT fun K hK => ?_
 simp only [wq, simprocAttr]
 refine vcall_of (between_vc t a b hl) ?_
 simp only [wq, simprocAttr]
 refine hK _ ?_
 clear hK K
 try refine vthen_n ?_
 generalize between t a b = p at *
 repeat refine VW.seq ?_
 refine VW.regl hT fun K hK => ?_
 simp only [wq, simprocAttr]
 refine vcall_of (guardOk_vc t g hl) ?_
 simp only [wq, simprocAttr]
 refine vbr (fun h => ?_) (fun h => ?_) <;> simp only [wq, simprocAttr]
 case refine_2 =>
  have h : guardOk t g = false := (Bool.not_eq_true' _).mp h
  refine hK _ ?_
  clear hK K
  try refine vthen_n ?_
  repeat refine VW.seq ?_
  refine VW.cond rfl (fun hc => ?_) (fun hc => ?_)
  ·repeat refine VW.seq ?_
   refine VW.regl hT fun K hK => ?_
   simp only [wq, simprocAttr]
   refine hK _ ?_
   clear hK K
   try refine vthen_n ?_
   refine VW.ret ⟨.inl rfl, _, rfl, ?_⟩
   rw [h]
   rfl
  ·cases hc
 have hg : guardOk t g = true := by
  have := h
  rwa [Bool.not_eq_false'] at this
 have hg2 := hg
 rw [guardOk, Bool.and_eq_true, Bool.and_eq_true, beq_iff_eq] at hg2
 obtain ⟨hok, hgl, _⟩ := hg2
 refine hK _ ?_
 clear hK K
 try refine vthen_n ?_
 repeat refine VW.seq ?_
 refine VW.cond rfl (fun hc => ?_) (fun hc => ?_)
 ·have hc : ((p.length : Int) == 0) = true := hc
  have h0 : p.length = 0 := by
   have : (p.length : Int) = 0 := by simpa using hc
   omega
  repeat refine VW.seq ?_
  refine VW.regl hT fun K hK => ?_
  simp only [wq, simprocAttr]
  refine hK _ ?_
  clear hK K
  try refine vthen_n ?_
  refine VW.ret ⟨.inl rfl, _, rfl, ?_⟩
  rw [h0, hg]
  rfl
 have h0 : (!(p.length == 0)) = true := by
  have hc : ((p.length : Int) == 0) = false := hc
  have : ¬ (p.length : Int) = 0 := by simpa using hc
  have : p.length ≠ 0 := by omega
  simpa using this
 rw [hg, h0, Bool.true_and, Bool.true_and]
 refine VW.skip (vthen_n ?_)
 repeat refine VW.seq ?_
 refine VW.regl hT fun K hK => ?_
 simp only [wq, simprocAttr]
 refine hK _ ?_
 clear hK K
 try refine vthen_n ?_
 repeat refine VW.seq ?_
 refine VW.block ?_
 refine VW.loop (α := Nat) [(0, none), (5, none), (9, none), (10, none)] (fun i => [.v false sNS t, D, D, D, D, .root (.box 30) sG .fz g, D, D, D, .root (.val false) sI .own p, .v false (.int .i64) ((i : Nat)), D, D, D, D, D, D, D, D, D, D, D, D, D, D, D, D, D, D, D, D, D, D, D, D, D, D, D, D, D, D, D, D, D, D, D, D, D, D, D, D, D, D, D, D, D, D, D, D, D]) (fun i => 1 ≤ i ∧ i ≤ p.length ∧ ∀ j, j < i → (j == 0 || g.getD (lowAt t p j).toNat false) = true) (fun i => p.length - i) ⟨1, ⟨by omega, ?_, fun j h => ?_⟩, ?_⟩ fun i ⟨hi1, hi, hj⟩ => ?_
 ·have : p.length ≠ 0 := by simpa using h0
  omega
 ·obtain rfl : j = 0 := by omega
  rfl
 ·simp only [wn, wq, simprocAttr]
  try rfl
 repeat refine VW.seq ?_
 refine VW.regl hT fun K hK => ?_
 simp only [wq, simprocAttr]
 refine hK _ ?_
 clear hK K
 try refine vthen_n ?_
 repeat refine VW.seq ?_
 refine VW.cond rfl (fun hc => ?_) (fun hc => ?_)
 ·have hlt : i < p.length := by simpa using hc
  have m1 := hmem _ (getD_mem hlt)
  have m2 := hmem _ (getD_mem (i := i - 1) (by omega))
  have hlow : lowAt t p i = if (t.getD (p.getD (i - 1) 0).toNat z).1 == p.getD i 0 then p.getD (i - 1) 0 else p.getD i 0 := rfl
  refine VW.skip (vthen_n ?_)
  repeat refine VW.seq ?_
  refine VW.block ?_
  repeat refine VW.seq ?_
  refine VW.regl hT fun K hK => ?_
  simp only [wq, simprocAttr]
  refine ⟨decide_eq_true ⟨Int.natCast_nonneg _, by show (i : Int) < (p.length : Int); omega⟩, ?_⟩
  refine hK _ ?_
  clear hK K
  try refine vthen_n ?_
  repeat refine VW.seq ?_
  refine VW.drawl hT hm (by kernel_rfl) fun K hK => ?_
  simp only [wq, simprocAttr]
  rw [wrap64 (by omega) (by omega), show (i : Int) - 1 = ((i - 1 : Nat) : Int) by omega, Int.toNat_natCast]
  refine ⟨by kernel_rfl, by kernel_rfl, decide_eq_true ⟨Int.natCast_nonneg _, by show ((i - 1 : Nat) : Int) < (p.length : Int); omega⟩, by kernel_rfl, decide_eq_true m2, by kernel_rfl, by kernel_rfl, decide_eq_true ⟨Int.natCast_nonneg _, by show (i : Int) < (p.length : Int); omega⟩, by kernel_rfl, ?_⟩
  refine hK _ ?_
  clear hK K
  try refine vthen_n ?_
  apply cutl
  ·intro tail
   repeat refine VW.seq ?_
   refine VW.cond rfl (fun hc => ?_) (fun hc => ?_)
   ·have hc : ((t.getD (p.getD (i - 1) 0).toNat z).1 == p.getD i 0) = true := hc
    rw [if_pos hc] at hlow
    repeat refine VW.seq ?_
    refine VW.regl hT fun K hK => ?_
    simp only [wq, simprocAttr]
    rw [wrap64 (by omega) (by omega), show (i : Int) - 1 = ((i - 1 : Nat) : Int) by omega, Int.toNat_natCast]
    refine ⟨decide_eq_true ⟨Int.natCast_nonneg _, by show ((i - 1 : Nat) : Int) < (p.length : Int); omega⟩, ?_⟩
    refine hK _ ?_
    try refine vthen_n ?_
    refine VW.weak (weak_norm [(0, none), (5, none), (9, none), (10, none), (11, none)] _) ?_
    simp only [wn, wq, simprocAttr]
    rw [← hlow]
    exact tail.h
   ·have hc : ((t.getD (p.getD (i - 1) 0).toNat z).1 == p.getD i 0) = false := hc
    rw [if_neg (by rw [hc]; decide)] at hlow
    refine VW.skip ?_
    show vthen _ _ _ .normal _
    refine vthen_n ?_
    refine VW.weak (weak_norm [(0, none), (5, none), (9, none), (10, none), (11, none)] _) ?_
    simp only [wn, wq, simprocAttr]
    rw [← hlow]
    exact tail.h
  have m3 : 0 ≤ lowAt t p i ∧ lowAt t p i < t.length := by
   rw [hlow]
   split
   ·exact m2
   ·exact m1
  clear hlow
  repeat refine VW.seq ?_
  refine VW.regl hT fun K hK => ?_
  simp only [wq, simprocAttr]
  refine ⟨decide_eq_true ⟨m3.1, by show lowAt t p i < (g.length : Int); omega⟩, ?_⟩
  refine hK _ ?_
  clear hK K
  try refine vthen_n ?_
  repeat refine VW.seq ?_
  refine VW.cond rfl (fun hc => ?_) (fun hc => ?_)
  ·have hc : g.getD (lowAt t p i).toNat false = false := (Bool.not_eq_true' _).mp hc
   have hno : passes t g p = false := by
    rw [passes, List.all_eq_false]
    refine ⟨i, List.mem_range.2 hlt, ?_⟩
    rw [hc, Bool.or_false]
    simp
    omega
   repeat refine VW.seq ?_
   refine VW.regl hT fun K hK => ?_
   simp only [wq, simprocAttr]
   refine hK _ ?_
   clear hK K
   try refine vthen_n ?_
   refine VW.ret ⟨.inl rfl, _, rfl, ?_⟩
   rw [hno]
  ·have hc : g.getD (lowAt t p i).toNat false = true := by
    have := hc
    rwa [Bool.not_eq_false'] at this
   refine VW.skip ?_
   show vthen _ _ _ .normal _
   refine vthen_n ?_
   repeat refine VW.seq ?_
   refine VW.regl hT fun K hK => ?_
   simp only [wq, simprocAttr]
   refine hK _ ?_
   clear hK K
   try refine vthen_n ?_
   refine ⟨i + 1, ⟨by omega, hlt, fun j h => ?_⟩, ?_, by show p.length - (i + 1) < p.length - i; omega⟩
   ·rcases Nat.lt_or_ge j i with h1 | h1
    ·exact hj j h1
    ·obtain rfl : j = i := by omega
     rw [hc, Bool.or_true]
   simp only [wn, wq, simprocAttr]
   rw [wrap64 (by omega) (by omega)]
   rfl
 ·have hge : i = p.length := by
   have : p.length ≤ i := by simpa using hc
   omega
  subst hge
  refine VW.exit ?_
  show vthen _ _ _ .normal _
  refine vthen_n ?_
  repeat refine VW.seq ?_
  refine VW.regl hT fun K hK => ?_
  simp only [wq, simprocAttr]
  refine hK _ ?_
  clear hK K
  try refine vthen_n ?_
  refine VW.ret ⟨.inl rfl, _, rfl, ?_⟩
  have hyes : passes t g p = true := by
   rw [passes, List.all_eq_true]
   intro j h
   exact hj j (List.mem_range.1 h)
  rw [hyes]
end Go.Proofs.YtoeblmcibheldaaGreatDoor.V.W
end
section
namespace Go.Proofs.YtoeblmcibheldaaGreatDoor.V
open Go Go.RowKit
theorem getD_setL {α : Type} (xs : List α) (i j : Nat) (y z : α) (hi : i < xs.length) : (xs.set i y).getD j z = if j = i then y else xs.getD j z := by
 rw [List.getD_eq_getElem?_getD, List.getD_eq_getElem?_getD, List.getElem?_set]
 by_cases h : i = j
 ·subst h; simp [hi]
 ·rw [if_neg h, if_neg (fun e => h e.symm)]
/-- a row's own element taken out and put back -/
theorem own_el {w : World} {Z : Nat → Prop} {e e2 : TypeId} {s2 : Sh} {xs : List (List s2.ty)} {v : Value} {B : Nat → Prop} {i : Nat} (hi : i < xs.length) (hB : ∀ b, B b → b < w.heap.size) (hR : OwnR w e 1 (fun x c B' => Rep w Z (.sl e2 s2) .own x c B') [] xs [v] B) :
  ∃ A c u, ∃ Bi : Nat → Prop, v = .slice (some A) xs.length c ∧ rowCells w (A.add (i * 1)) 1 = [u] ∧ (∀ b, Bi b → B b) ∧ Rep w Z (.sl e2 s2) .own (xs.getD i []) [u] Bi ∧
   ∀ (w' : World) (y : List s2.ty) (Bo : Nat → Prop), ExtF w w' Bi → Rep w' Z (.sl e2 s2) .own y [u] Bo → (∀ b, Bo b → Bi b ∨ w.heap.size ≤ b) → (∀ b, Z b → b < w.heap.size ∧ ¬ B b) →
    OwnR w' e 1 (fun x c B' => Rep w' Z (.sl e2 s2) .own x c B') [] (xs.set i y) [v] (fun b => (B b ∧ ¬ Bi b) ∨ Bo b) := by
 rcases hR with ⟨A, _, rfl⟩ | ⟨g, cap, cur, rows, Bs, hA, q2, q3, q4, q5, q6, q7, q8⟩
 ·have : ([] : List (List s2.ty)).length = 0 := rfl
  omega
 have hv : v = .slice (some ⟨g, 0, none⟩) xs.length cap := by simpa using hA
 obtain ⟨p1, p2, p3, p4⟩ := q7 i hi
 obtain ⟨u, hu⟩ : ∃ u, rows i = [u] := by
  match h : rows i, p1 with
  | [u], _ => exact ⟨u, rfl⟩
 have hadd : (⟨g, 0, none⟩ : Addr).add (i * 1) = ⟨g, i * 1, none⟩ := by unfold Addr.add; split <;> simp_all
 refine ⟨⟨g, 0, none⟩, cap, u, Bs i, hv, ?_, fun b hb => (p3 b hb).1, by rw [hu] at p4; exact p4, ?_⟩
 ·refine rowCells_eq rfl fun j hj => ?_
  rw [add_add, cell_at rfl q2, ← hu, ← p2 j hj]
  show cur[0 + (i * 1 + j)]? = _
  rw [Nat.zero_add]
 ·intro w' y Bo hx hy hBo hZ
  have hgB : ¬ Bs i g := fun h => (p3 g h).2 rfl
  have hg' : w'.heap[g]? = some (.cells cur e (0, 0)) := by rw [hx.block g (hB g q6) hgB]; exact q2
  refine .inr ⟨g, cap, cur, rows, fun j => if j = i then Bo else Bs j, by rw [hv, List.length_set], hg', by rw [List.length_set]; exact q3, q4, q5, .inl ⟨q6, hgB⟩, fun j hj => ?_, fun j k b hj hk hne h1 h2 => ?_⟩
  ·rw [List.length_set] at hj
   obtain ⟨r1, r2, r3, r4⟩ := q7 j hj
   by_cases e : j = i
   ·subst e
    refine ⟨r1, r2, fun b hb => ?_, ?_⟩
    ·have hb : Bo b := by
      have hb : (if j = j then Bo else Bs j) b := hb
      rwa [if_pos rfl] at hb
     refine ⟨.inr hb, ?_⟩
     rintro rfl
     rcases hBo _ hb with h | h
     ·exact hgB h
     ·have := hB _ q6
      omega
    ·simp only [if_true]
     rw [getD_setL _ _ _ _ _ hi, if_pos rfl, hu]
     exact hy
   ·refine ⟨r1, r2, fun b hb => ?_, ?_⟩
    ·have hb : (if j = i then Bo else Bs j) b := hb
     rw [if_neg e] at hb
     have := r3 b hb
     exact ⟨.inl ⟨this.1, fun h => q8 j i b hj hi e hb h⟩, this.2⟩
    ·simp only [if_neg e]
     rw [getD_setL _ _ _ _ _ hi, if_neg e]
     exact r4.frame (fun _ h => h) (fun b hb => by
      rcases hb with hb | hb
      ·exact hx.block b (hZ b hb).1 (fun h => (hZ b hb).2 (p3 b h).1)
      ·exact hx.block b (hB b (r3 b hb).1) (fun h => q8 j i b hj hi e hb h))
  ·rw [List.length_set] at hj hk
   have h1 : (if j = i then Bo else Bs j) b := h1
   have h2 : (if k = i then Bo else Bs k) b := h2
   by_cases e1 : j = i
   ·subst e1
    have e2 : ¬ k = j := fun e => hne e.symm
    simp only [if_true] at h1
    rw [if_neg e2] at h2
    rcases hBo _ h1 with h | h
    ·exact q8 j k b hj hk hne h h2
    ·have := hB _ ((q7 k hk).2.2.1 b h2).1
     omega
   ·by_cases e2 : k = i
    ·subst e2
     rw [if_neg e1] at h1
     simp only [if_true] at h2
     rcases hBo _ h2 with h | h
     ·exact q8 j k b hj hk hne h1 h
     ·have := hB _ ((q7 j hj).2.2.1 b h1).1
      omega
    ·rw [if_neg e1] at h1
     rw [if_neg e2] at h2
     exact q8 j k b hj hk hne h1 h2
section
variable {P : Program} {T : List (Nat × TI)} {o : Oper} {st st1 st2 : St}
/-- a call that writes one row of a row of rows -/
theorem does_el {fop : Operand} {args : Array Operand} {ts : Array TypeId} {f : FuncId} {ps : List PV} {g i : Nat} {e e2 : TypeId} {s2 : Sh} {fl : Fl} {xs : List (List s2.ty)} {y : List s2.ty} {r : PV} {xo : Operand} (ho : o.op = .call ⟨.value fop, args, ts⟩)
  (hxo : args.toList[0]? = some xo) (hx : ref st xo = .h false g [.el i]) (hg : st.at g = .root (.val false) (.sl e (.sl e2 s2)) fl xs) (hfl : fl = .own ∨ ∃ n c, fl = .io n c) (hi : i < xs.length)
  (hj : put st g [] (.sl e (.sl e2 s2)) .junk xs hitS = some st1) (hput : put st1 g [] (.sl e (.sl e2 s2)) fl (xs.set i y) hitS = some st2) (hf : ref st1 fop = .fn f []) (hps : lendX st1 (.root (.val false) (.sl e2 s2) .own (xs.getD i [])) 0 args.toList = some (ps, false))
  (hv : VX P f ps 0 (fun pv ot => pv = r ∧ ot = .root (.val false) (.sl e2 s2) .own y)) (hd : nonroot st2 o.dst = true) : Does P o st (fun st' => st' = setD st2 o.dst r) := by
 intro L a w next Q h hk
 obtain ⟨rr1, B0, rr2, rr3, rr4⟩ := h.root hg
 have hC : L.C g = [a.tmps.getD g undef] := by simpa [mkV] using rr1.1
 have hP : Place L st w g [] (.sl e (.sl e2 s2)) (L.C g) (L.D g) := ⟨.val false, .sl e (.sl e2 s2), fl, xs, hg, (by unfold Ok; trivial), ⟨fl, xs, get_nil (.sl e (.sl e2 s2)) fl xs⟩, sub_nil _ _ _ _⟩
 obtain ⟨f1, x1, e1, B1, e2', e3, e4, e5, e6⟩ := h.put hg hP
 rw [get_nil] at e1
 cases Option.some.inj e1
 obtain ⟨f3, x3, hu, hst1⟩ := put_spec hg hj
 have r1 := e6 w (L.C g) .junk xs (fun _ => False) B1 f3 x3 hitS (.inl ⟨rfl, rfl⟩) rfl e3.tojunk (fun _ h => h.elim) (fun b hb => ⟨.inr hb, id⟩) hu (.inr ⟨rfl, rfl⟩)
 rw [← hst1] at r1
 generalize hL1 : (⟨L.Z, fun t b => if t = g then (L.F g b ∧ ¬ B1 b) ∨ False else L.F t b, fun t => if t = g then csub (.sl e (.sl e2 s2)) (L.C g) [] (L.C g) else L.C t, L.D⟩ : Lay) = L1 at r1
 have hL1F : ∀ t n, L1.F t n → L.F t n := by
  intro t n hn
  rw [← hL1] at hn
  simp only at hn
  split at hn
  ·rename_i e; subst e; exact hn.elim (fun q => q.1) False.elim
  ·exact hn
 have hL1Z : L1.Z = L.Z := by rw [← hL1]
 have hL1C : L1.C g = L.C g := by rw [← hL1]; simp only [if_true, csub_nil]
 have hg1 : st1.at g = .root (.val false) (.sl e (.sl e2 s2)) f3 x3 := by
  rw [hst1, St.at_set, if_pos ⟨rfl, by rw [List.length_map]; exact root_lt hg⟩]
 have hnF : ∀ n, B1 n → ¬ L1.Z n ∧ ∀ t, ¬ L1.F t n := fun n hn => ⟨(r1.rlt n hn).2, fun t ht => r1.rdj t n ht hn⟩
 have hO : OwnR w e 1 (fun x c B' => Rep w L.Z (.sl e2 s2) .own x c B') [] xs [a.tmps.getD g undef] B1 := by
  rw [hC] at e3
  rcases hfl with rfl | ⟨n, c, rfl⟩
  ·exact e3
  ·exact e3.1
 obtain ⟨A, cp, u, Bi, u1, u2, u3, u4, u5⟩ := own_el hi (fun b hb => (r1.rlt b hb).1) hO
 have hval : a.eval xo = u := by
  have hv0 := h.opnd xo
  rw [hx] at hv0
  obtain ⟨s1, cs1, ad1, hP0, hm, _⟩ := hv0
  obtain ⟨k', s', f', x', hg', hOk, ⟨f9, x9, hget⟩, hsub⟩ := hP0
  rw [hg] at hg'
  cases hg'
  rw [hC, u1] at hsub
  simp only [sub] at hsub
  have hs1 : Sh.sl e2 s2 = s1 := by
   rcases hfl with rfl | ⟨n, c, rfl⟩
   ·simp only [get] at hget
    exact congrArg Sigma.fst (Option.some.inj hget)
   ·simp only [get] at hget
    exact congrArg Sigma.fst (Option.some.inj hget)
  have hcs1 : cs1 = [u] := by
   have h9 : rowCells w (A.add (i * (Sh.sl e2 s2).size)) (Sh.sl e2 s2).size = [u] := u2
   rw [h9] at hsub
   exact (Prod.mk.inj (Option.some.inj hsub)).1.symm
  subst hs1
  rw [hcs1] at hm
  simpa [mkV] using hm.symm
 have hvals : ∀ z, args.toList[0]? = some z → GRep w (zoneOf L1 (false || ([] : List Cap).any isAdr)) Bi (.root (.val false) (.sl e2 s2) .own (xs.getD i [])) (a.eval z) := fun z hz => by
  rw [hxo] at hz
  obtain rfl := Option.some.inj hz
  rw [hval]
  exact ⟨[u], none, Bi, ⟨rfl, fun _ => rfl, rfl⟩, fun _ h => h, (fun A hA => by cases hA), u4.frame (fun n hn => .inl (by rw [hL1Z]; exact hn)) (fun _ _ => rfl)⟩
 obtain ⟨vals, k1, k2, k3⟩ := callx_vals (F := Bi) (cs := []) r1 ho hf rfl hps (by simpa using hv) rfl (fun n hn => ⟨(r1.rlt n (u3 n hn)).1, fun hz => hz.elim (hnF n (u3 n hn)).1 fun q => by obtain ⟨t, ht⟩ := q.2; exact (hnF n (u3 n hn)).2 t ht⟩) hvals
 unfold Oper.wp
 rw [k2]
 rw [Oper.upon_enter]
 refine k3.mono fun e0 w' ⟨v, pv, ot, Fr, Fo, c1, c2, c3, c4, c5, c6, c7⟩ => ?_
 subst c1
 show next (a.put o.dst v) w'
 obtain ⟨rfl, rfl⟩ := c3
 have hsz := c2.size
 have hfr : ∀ n, ((B1 n ∧ ¬ Bi n) ∨ Fr n ∨ Fo n) → n < w'.heap.size ∧ ¬ L1.Z n ∧ ∀ t, ¬ L1.F t n := fun n hn => by
  rcases hn with hn | hn
  ·exact ⟨Nat.lt_of_lt_of_le (r1.rlt n hn.1).1 hsz, hnF n hn.1⟩
  ·obtain ⟨q1, q2⟩ := c6 n hn
   refine ⟨q2, ?_⟩
   rcases q1 with q1 | q1
   ·exact hnF n (u3 n q1)
   ·exact ⟨fun hz => by have := r1.zlt n hz; omega, fun t ht => by have := (r1.flt t n ht).1; omega⟩
 have r2 := (r1.extF c2 (fun n hn => hnF n (u3 n hn))).withR hfr
 have hP2 : Place L1 st1 w' g [] (.sl e (.sl e2 s2)) (L1.C g) (L1.D g) := ⟨.val false, .sl e (.sl e2 s2), f3, x3, hg1, (by unfold Ok; trivial), ⟨f3, x3, get_nil (.sl e (.sl e2 s2)) f3 x3⟩, sub_nil _ _ _ _⟩
 obtain ⟨cs2, ad2, B2, g1, g2, g3, g4⟩ := (c5 u (by rw [← hval]; exact k1 _ hxo)).resolve_left (by simp)
 obtain rfl : cs2 = [u] := by simpa [mkV] using g1.1
 have g4 : Rep w' L.Z (.sl e2 s2) .own y [u] B2 := g4.frame (fun n hn => hn.elim (fun h => by rw [← hL1Z]; exact h) fun q => by cases q.1) (fun _ _ => rfl)
 have hO2 := u5 w' y B2 c2 g4 (fun b hb => (c6 b (.inr (g2 b hb))).1) (fun b hb => ⟨h.zlt b hb, fun hB => (hnF b hB).1 (by rw [hL1Z]; exact hb)⟩)
 have hRep : Rep w' L1.Z (.sl e (.sl e2 s2)) fl (xs.set i y) (L1.C g) (fun b => (B1 b ∧ ¬ Bi b) ∨ B2 b) := by
  rw [hL1C, hL1Z]
  rcases hfl with rfl | ⟨n, c, rfl⟩
  ·rw [hC]; exact hO2
  ·have hlen : L.C g = [.slice (some ⟨n, 0, none⟩) xs.length c] := e3.2
   refine ⟨by rw [hC]; exact hO2, ?_⟩
   show L.C g = [.slice (some ⟨n, 0, none⟩) (List.length (xs.set i y)) c]
   rw [List.length_set]
   exact hlen
 obtain ⟨f5, x5, d1, B5, d2, d3, d4, d5, d6⟩ := r2.put hg1 hP2
 obtain ⟨f6, x6, hu2, hst2⟩ := put_spec hg1 hput
 have r3 := d6 w' (L1.C g) fl (xs.set i y) (fun b => (B1 b ∧ ¬ Bi b) ∨ B2 b) Fr f6 x6 hitS (.inl ⟨rfl, rfl⟩) rfl hRep (fun n hn => .inl (hn.imp id fun q => .inr (g2 n q))) (fun n hn => ⟨.inl (.inr (.inl hn)), fun q => by
  rcases q with q | q
  ·rcases (c6 n (.inl hn)).1 with q1 | q1
   ·exact q.2 q1
   ·have := (r1.rlt n q.1).1
    omega
  ·exact c7 n hn (g2 n q)⟩) hu2 (.inr ⟨rfl, rfl⟩)
 rw [← hst2] at r3
 obtain ⟨L', z1, z2, z3⟩ := r3.result (lent := false) (fun _ n hn => hn.elim id fun q => by cases q.1) c4 (by cases pv <;> rfl) (fun _ h => h) hd
 refine hk _ L' _ w' rfl ⟨c2.os, c2.tape, c2.output, c2.size, fun n hn hL => c2.block n hn (fun hB => hL g (e2' n (u3 n hB))), z1.trans hL1Z, fun t n hn => ?_⟩ z3
 have hFo : ∀ n, Fr n ∨ Fo n → (∃ t', L.F t' n) ∨ w.heap.size ≤ n := fun n hn => (c6 n hn).1.imp (fun q => ⟨g, e2' n (u3 n q)⟩) id
 rcases z2 t n hn with hn | hn
 ·simp only at hn
  split at hn
  ·rcases hn with hn | hn | hn
   ·exact .inl ⟨g, hL1F g n hn.1⟩
   ·exact .inl ⟨g, e2' n hn.1⟩
   ·exact hFo n (.inr (g2 n hn))
  ·exact .inl ⟨t, hL1F t n hn⟩
 ·exact hFo n (.inl hn)
variable {ops : Array Oper}
theorem vops_pre (hT : TabOk P T) {K : St → Prop} {Q : Exit → Act → World → Prop} (rest : List Nat) : ∀ (os : List Oper) (i : Nat), (ops.toList.drop i).take os.length = os → ∀ {L : Lay} {st : St} {a : Act} {w : World}, vops P T ops os st K → Rel L st a w Free → (∀ st' L' a' w', K st' → Stp L L' w w' → Rel L' st' a' w' Free → wpOps P ops Q rest a' w') → wpOps P ops Q (List.range' i os.length ++ rest) a w
 | [], i, hi, L, st, a, w, hv, h, hk => by
  simp only [List.length_nil, List.range'_zero, List.nil_append]
  exact hk st L a w hv (Stp.refl _ _) h
 | o :: r, i, hi, L, st, a, w, hv, h, hk => by
  have hcons : ∃ tl, ops.toList.drop i = o :: tl ∧ tl.take r.length = r := by
   cases hd : ops.toList.drop i with
   | nil => rw [hd] at hi; simp at hi
   | cons x tl =>
    rw [hd, List.length_cons, List.take_succ_cons] at hi
    injection hi with h1 h2
    exact ⟨tl, by rw [h1], h2⟩
  obtain ⟨tl, hd, htl⟩ := hcons
  have ho : ops[i]? = some o := by
   have : (ops.toList.drop i)[0]? = some o := by rw [hd]; rfl
   rw [List.getElem?_drop] at this
   simpa using this
  have hi' : (ops.toList.drop (i + 1)).take r.length = r := by rw [← List.drop_drop, hd]; exact htl
  simp only [List.length_cons, List.range'_succ, List.cons_append, wpOps, ho]
  unfold vops at hv
  have hg := vguard_ok h hv
  cases hw : Region.wanted o (yielded ops a.tmps) with
  | true =>
   rw [hw] at hg
   simp only at hg
   rw [if_pos rfl]
   left
   refine vread_ok hT hg (fun st1 pv hK => hK.1) L a w _ _ h fun st' L' a' w' ⟨st1, pv, hK, e⟩ hs hr => ?_
   subst e
   exact vops_pre hT rest r (i + 1) hi' hK.2 hr fun st2 L2 a2 w2 k1 k2 k3 => hk st2 L2 a2 w2 k1 (hs.trans k2) k3
  | false =>
   rw [hw] at hg
   simp only at hg
   rw [if_neg (by simp)]
   obtain ⟨L', s1, s2⟩ := skip_ok h hg.1
   exact vops_pre hT rest r (i + 1) hi' hg.2 s2 fun st2 L2 a2 w2 k1 k2 k3 => hk st2 L2 a2 w2 k1 (s1.trans k2) k3
/-- an ordered region with one operation by its own law -/
theorem VW.regE (hT : TabOk P T) (c : Nat) {id : Nat} {Q : Exit → St → Prop} (h : ∀ K : St → Prop, (∀ s o s2, ops[c]? = some o → o.guard = none → Does P o s (fun s' => s' = s2) → vops P T ops (ops.toList.drop (c + 1)) s2 (Q .normal) → K s) → vops P T ops (ops.toList.take c) st K) (hc : c < ops.size) : VW P (.region id ops false) st Q := by
 intro L a w hr
 refine wp_region ?_
 have hlen : (ops.toList.take c).length = c := by rw [List.length_take, Array.length_toList]; omega
 have hrange : List.range ops.size = List.range' 0 (ops.toList.take c).length ++ (c :: List.range' (c + 1) (ops.toList.drop (c + 1)).length) := by
  rw [hlen, List.length_drop, Array.length_toList, List.range_eq_range']
  obtain ⟨d, hd⟩ : ∃ d, ops.size = c + (d + 1) := ⟨ops.size - c - 1, by omega⟩
  rw [hd, show c + (d + 1) - (c + 1) = d by omega, ← List.range'_append_1, Nat.zero_add, List.range'_succ]
 rw [hrange]
 refine vops_pre hT _ (ops.toList.take c) 0 (by rw [hlen, List.drop_zero]) (h (fun s => ∃ o s2, ops[c]? = some o ∧ o.guard = none ∧ Does P o s (fun s' => s' = s2) ∧ vops P T ops (ops.toList.drop (c + 1)) s2 (Q .normal)) (fun s o s2 h1 h2 h3 h4 => ⟨o, s2, h1, h2, h3, h4⟩)) hr fun s L1 a1 w1 ⟨o, s2, h1, h2, h3, h4⟩ hs1 hr1 => ?_
 refine wpOps_step h1 h2 ?_
 refine h3 L1 a1 w1 _ _ hr1 fun s3 L2 a2 w2 e hs2 hr2 => ?_
 subst e
 exact vops_ok (Q := fun e a' w' => ∃ L' st', Stp L L' w w' ∧ Rel L' st' a' w' Free ∧ Q e st') hT (ops.toList.drop (c + 1)) (c + 1) rfl h4 hr2 fun s4 L4 a4 w4 k1 k2 k3 => ⟨L4, s4, (hs1.trans hs2).trans k2, k3, k1⟩
end
end Go.Proofs.YtoeblmcibheldaaGreatDoor.V
end
section
namespace Go.Proofs.YtoeblmcibheldaaGreatDoor.V
open Go Go.RowKit
section
variable {L : Lay} {st : St} {a : Act} {w : World} {R : Nat → Prop}
theorem Rel.unheld (h : Rel L st a w R) : Rel L st a w Free where
 size := h.size
 defers := h.defers
 zlt := h.zlt
 flt := h.flt
 dj := h.dj
 rlt := fun b hb => hb.elim
 rdj := fun t b _ hb => hb.elim
 tmp := h.tmp
variable {P : Program} {T : List (Nat × TI)} {o : Oper} {K : St → Prop}
theorem does_gone {d : Nat} {k : RK} {s : Sh} {f : Fl} {x : s.ty} (hg : st.at d = .root k s f x) (h1 : Does P o ((st.map (drop d)).set d .dead) K) : Does P o st K := by
 intro L a w next Q h hk
 obtain ⟨B, r1, _, _⟩ := h.gone hg
 refine h1 _ a w next Q r1.unheld fun st' L' a' w' k s r => hk st' L' a' w' k ⟨s.os, s.tape, s.output, s.size, fun n hn hL => s.block n hn fun t ht => ?_, s.Z, fun t n hn => ?_⟩ r
 ·simp only at ht
  split at ht
  ·exact ht
  ·exact hL t ht
 ·rcases s.F t n hn with ⟨t', ht⟩ | hn
  ·simp only at ht
   split at ht
   ·exact ht.elim
   ·exact .inl ⟨t', ht⟩
  ·exact .inr hn
/-- an assignment to a temporary that holds own memory -/
theorem does_over (hT : TabOk P T) {d : Nat} {k : RK} {s : Sh} {f : Fl} {x : s.ty} {out : Out} {s2 : St} (hg : st.at d = .root k s f x) (hp : pop T ((st.map (drop d)).set d .dead) ((st.map (drop d)).set d .dead) o = some out) (hc : out.c = true) (hd : nonroot out.st o.dst = true) (hs : setD out.st o.dst out.pv = s2) : Does P o st (fun s' => s' = s2) := by
 subst hs
 exact does_gone hg (does_pop hT (fun _ _ _ _ _ h => h) hp hc hd)
end
end Go.Proofs.YtoeblmcibheldaaGreatDoor.V
end
section
namespace Go.Proofs.YtoeblmcibheldaaGreatDoor.V.W
open Go Go.RowKit
set_option maxRecDepth 20000 in
theorem specPathTo_vc (t : List Nd) (k : Int) (hl : t.length ≤ 2000000) : VC Tryz.prog 167 [.v false sNS t, .v false (.int .i64) (k)] (· = .root (.val false) sI .own (pathTo t k)) := by
 refine VC.of_body hT Tryz.func167 rfl (by kernel_rfl) [(.tmp 4, false, sI)] (by kernel_rfl) ?_
 show VW _ _ ([.v false sNS t, .v false (.int .i64) (k), D, D, D, D, D, D, D, D, D, D, D, D, D, D, D, D, D, D, D, D, D, D]) _
 repeat refine VW.seq ?_
 refine VW.regl hT fun K hK => ?_
 simp only [wq, simprocAttr]
 refine hK _ ?_
 clear hK K
 try refine vthen_n ?_
 repeat refine VW.seq ?_
 refine VW.regl hT fun K hK => ?_
 simp only [wq, simprocAttr]
 refine hK _ ?_
 clear hK K
 try refine vthen_n ?_
 repeat refine VW.seq ?_
 refine VW.regl hT fun K hK => ?_
 simp only [wq, simprocAttr]
 refine vcall_of (specNode_vc t k hl) ?_
 simp only [wq, simprocAttr]
 refine hK _ ?_
 clear hK K
 try refine vthen_n ?_
 repeat refine VW.seq ?_
 refine VW.cond rfl (fun hc => ?_) (fun hc => ?_)
 ·repeat refine VW.seq ?_
  refine VW.regl hT fun K hK => ?_
  simp only [wq, simprocAttr]
  refine hK _ ?_
  clear hK K
  try refine vthen_n ?_
  refine VW.ret ⟨.inl rfl, _, rfl, ?_⟩
  have h' : (treeOk t && inB k 0 (t.length - 1)) = false := (Bool.not_eq_true' _).mp hc
  rw [pathTo, h']
  rfl
 have hok : (treeOk t && inB k 0 (t.length - 1)) = true := by
  have := hc
  rwa [Bool.not_eq_false'] at this
 have hk := hok
 simp only [Bool.and_eq_true] at hk
 have htr := hk.1
 have hk := inB_iff.1 hk.2
 have htl := treeOk_len htr
 refine VW.skip ?_
 show vthen _ _ _ .normal _
 refine vthen_n ?_
 repeat refine VW.seq ?_
 refine VW.block ?_
 refine VW.loop (α := Nat) [(0, none), (1, none), (5, some (3, .int .i64))] (fun i => [.v false sNS t, .v false (.int .i64) (anc t k i), D, D, D, .root (.val false) sI .own (accTo t k i).reverse, D, D, D, D, D, D, D, D, D, D, D, D, D, D, D, D, D, D]) (fun i => i ≤ t.length ∧ ∀ j, j < i → 0 ≤ anc t k j) (fun i => t.length - i) ⟨0, ⟨by omega, fun j hj => by omega⟩, ?_⟩ fun i ⟨hi, hj⟩ => ?_
 ·simp only [wn, wq, simprocAttr]
  try rfl
 have ha := anc_lt htr (show k < t.length by omega) i (by omega)
 have hal : (accTo t k i).length = i := by simp [accTo]
 repeat refine VW.seq ?_
 refine VW.regl hT fun K hK => ?_
 simp only [wq, simprocAttr]
 refine hK _ ?_
 clear hK K
 try refine vthen_n ?_
 repeat refine VW.seq ?_
 refine VW.cond rfl (fun hc => ?_) (fun hc => ?_)
 ·have hge : 0 ≤ anc t k i := of_decide_eq_true hc
  have := ha.2.2 hge
  refine VW.skip (vthen_n ?_)
  repeat refine VW.seq ?_
  refine VW.block ?_
  repeat refine VW.seq ?_
  refine VW.regE hT 4 (fun K hK => ?_) (by decide)
  simp only [List.take_succ_cons, List.take_zero, wq, simprocAttr]
  refine ⟨by simp [limOk]; omega, ?_⟩
  refine hK _ _ _ rfl rfl (does_over hT (d := 5) rfl (by rfl) (by rfl) (by rfl) rfl) ?_
  simp only [List.drop_succ_cons, List.drop_zero, List.getElem_toArray, List.getElem_cons_succ, List.getElem_cons_zero, wq, simprocAttr]
  clear hK K
  show vthen _ _ _ .normal _
  refine vthen_n ?_
  repeat refine VW.seq ?_
  refine VW.regl hT fun K hK => ?_
  simp only [wq, simprocAttr]
  refine ⟨decide_eq_true ⟨hge, ha.2.1⟩, ?_⟩
  refine hK _ ?_
  clear hK K
  try refine vthen_n ?_
  refine ⟨i + 1, ⟨by omega, fun j h => ?_⟩, ?_, by show t.length - (i + 1) < t.length - i; omega⟩
  ·rcases Nat.lt_or_ge j i with h1 | h1
   ·exact hj j h1
   ·obtain rfl : j = i := by omega
    exact hge
  ·simp only [wn, wq, simprocAttr]
   rw [accTo_succ, List.reverse_append]
   rfl
 ·have hlt : anc t k i < 0 := by
   have : ¬ 0 ≤ anc t k i := of_decide_eq_false hc
   omega
  refine VW.exit ?_
  show vthen _ _ _ .normal _
  refine vthen_n ?_
  repeat refine VW.seq ?_
  refine VW.regl hT fun K hK => ?_
  simp only [wq, simprocAttr]
  refine hK _ ?_
  clear hK K
  try refine vthen_n ?_
  refine VW.ret ⟨.inl rfl, _, rfl, ?_⟩
  rw [pathTo, if_pos hok, accTo_all htr hlt hj _ hi]
end Go.Proofs.YtoeblmcibheldaaGreatDoor.V.W
end
section
namespace Go.Proofs.YtoeblmcibheldaaGreatDoor.V.W
open Go Go.RowKit
theorem path_none {t : List Nd} {k : Int} (h : isNd t k = false) : pathTo t k = [] := by
 rw [pathTo, if_neg (by rw [show (treeOk t && inB k 0 (t.length - 1)) = isNd t k from rfl, h]; decide)]
theorem path_some {t : List Nd} {k : Int} (h : (pathTo t k).length ≠ 0) : isNd t k = true := by
 cases e : isNd t k with
 | true => rfl
 | false => rw [path_none e] at h; exact absurd rfl h
/-- the end of a row from behind: what is done after j steps -/
theorem back_snoc {x : List Int} {m j : Nat} (h1 : m ≤ j) (h2 : j < x.length) : (x.drop (j + 1)).reverse ++ [x.getD j 0] = (x.drop j).reverse := by
 rw [List.drop_eq_getElem_cons h2, List.reverse_cons, List.getD_eq_getElem?_getD, List.getElem?_eq_getElem h2]
 rfl
set_option maxRecDepth 20000 in
set_option maxHeartbeats 1000000 in
theorem specBetween_vc (t : List Nd) (a b : Int) (hl : t.length ≤ 2000000) : VC Tryz.prog 134 [.v false sNS t, .v false (.int .i64) (a), .v false (.int .i64) (b)] (· = .root (.val false) sI .own (between t a b)) := by
 refine VC.of_body hT Tryz.func134 rfl (by kernel_rfl) [(.tmp 6, false, sI)] (by kernel_rfl) ?_
 show VW _ _ ([.v false sNS t, .v false (.int .i64) (a), .v false (.int .i64) (b), D, D, D, D, D, D, D, D, D, D, D, D, D, D, D, D, D, D, D, D, D, D, D, D, D, D, D, D, D, D, D, D, D, D, D, D, D, D, D, D, D, D, D, D, D, D, D, D, D, D, D, D, D, D, D, D, D, D, D, D, D, D, D, D, D, D, D, D, D]) _
 repeat refine VW.seq ?_
 refine VW.regl hT fun K hK => ?_
 simp only [wq, simprocAttr]
 refine hK _ ?_
 clear hK K
 try refine vthen_n ?_
 repeat refine VW.seq ?_
 refine VW.regl hT fun K hK => ?_
 simp only [wq, simprocAttr]
 refine vcall_of (specPathTo_vc t a hl) ?_
 simp only [wq, simprocAttr]
 refine hK _ ?_
 clear hK K
 try refine vthen_n ?_
 repeat refine VW.seq ?_
 refine VW.regl hT fun K hK => ?_
 simp only [wq, simprocAttr]
 refine vcall_of (specPathTo_vc t b hl) ?_
 simp only [wq, simprocAttr]
 refine hK _ ?_
 clear hK K
 try refine vthen_n ?_
 repeat refine VW.seq ?_
 refine VW.regl hT fun K hK => ?_
 simp only [wq, simprocAttr]
 refine hK _ ?_
 clear hK K
 try refine vthen_n ?_
 have hpa := fun h => path_head (t := t) (k := a) h
 have hpb := fun h => path_head (t := t) (k := b) h
 have hia := fun h => path_some (t := t) (k := a) h
 have hib := fun h => path_some (t := t) (k := b) h
 have hbt : between t a b = if (isNd t a && isNd t b) = true then ((pathTo t a).drop (cpl (pathTo t a) (pathTo t b) - 1)).reverse ++ (pathTo t b).drop (cpl (pathTo t a) (pathTo t b)) else [] := rfl
 have hna := fun h => path_none (t := t) (k := a) h
 have hnb := fun h => path_none (t := t) (k := b) h
 rw [hbt]
 clear hbt
 have hx12 : isNd t a = true → (pathTo t a).length ≤ 12 := fun h => (hpa h).2.2
 generalize pathTo t a = x at *
 generalize pathTo t b = y at *
 refine VW.weak (weak_norm [(7, none), (8, none), (9, none)] _) ?_
 simp only [wn, wq, simprocAttr]
 refine VW.giveup 7 rfl rfl ?_
 refine VW.giveup 8 rfl rfl ?_
 simp only [V.drop, usesG, wq, simprocAttr]
 repeat refine VW.seq ?_
 refine VW.regl hT fun K hK => ?_
 simp only [wq, simprocAttr]
 have hlx0 : x.length = 0 → isNd t a = false := fun h => by
  cases e : isNd t a with
  | false => rfl
  | true => have := (hpa e).1; omega
 have hly0 : y.length = 0 → isNd t b = false := fun h => by
  cases e : isNd t b with
  | false => rfl
  | true => have := (hpb e).1; omega
 refine vbr (fun h => ?_) (fun h => ?_) <;> simp only [wq, simprocAttr]
 case refine_2 =>
  have h : ((x.length : Int) == 0) = true := h
  have h0 : x.length = 0 := by
   have : (x.length : Int) = 0 := by simpa using h
   omega
  refine hK _ ?_
  clear hK K
  try refine vthen_n ?_
  repeat refine VW.seq ?_
  refine VW.cond rfl (fun hc => ?_) (fun hc => ?_)
  ·repeat refine VW.seq ?_
   refine VW.regl hT fun K hK => ?_
   simp only [wq, simprocAttr]
   refine hK _ ?_
   clear hK K
   try refine vthen_n ?_
   refine VW.ret ⟨.inl rfl, _, rfl, ?_⟩
   rw [hlx0 h0, Bool.false_and, if_neg (by decide)]
   rfl
  ·cases hc
 have h : ((x.length : Int) == 0) = false := h
 have px1 : 0 < x.length := by
  have : ¬ (x.length : Int) = 0 := by simpa using h
  omega
 have ha : isNd t a = true := hia (by omega)
 refine hK _ ?_
 clear hK K
 try refine vthen_n ?_
 repeat refine VW.seq ?_
 refine VW.cond rfl (fun hc => ?_) (fun hc => ?_)
 ·have hc : ((y.length : Int) == 0) = true := hc
  have h0 : y.length = 0 := by
   have : (y.length : Int) = 0 := by simpa using hc
   omega
  repeat refine VW.seq ?_
  refine VW.regl hT fun K hK => ?_
  simp only [wq, simprocAttr]
  refine hK _ ?_
  clear hK K
  try refine vthen_n ?_
  refine VW.ret ⟨.inl rfl, _, rfl, ?_⟩
  rw [hly0 h0, Bool.and_false, if_neg (by decide)]
  rfl
 have py1 : 0 < y.length := by
  have hc : ((y.length : Int) == 0) = false := hc
  have : ¬ (y.length : Int) = 0 := by simpa using hc
  omega
 have hb : isNd t b = true := hib (by omega)
 rw [ha, hb, Bool.true_and, if_pos rfl]
 obtain ⟨-, px2, px3⟩ := hpa ha
 obtain ⟨-, py2, py3⟩ := hpb hb
 have hcp := cpl_pos px1 py1 (by rw [px2, py2])
 clear hpa hpb hia hib hna hnb hlx0 hly0 hx12
 refine VW.skip (vthen_n ?_)
 repeat refine VW.seq ?_
 refine VW.regl hT fun K hK => ?_
 simp only [wq, simprocAttr]
 refine hK _ ?_
 clear hK K
 try refine vthen_n ?_
 repeat refine VW.seq ?_
 refine VW.block ?_
 refine VW.loop (α := Nat) [(7, none), (8, none), (9, none), (10, none)] (fun i => [D, D, D, D, D, D, D, .v false sI x, .v false sI y, .emp, .v false (.int .i64) ((i : Nat)), D, D, D, D, D, D, D, D, D, D, D, D, D, D, D, D, D, D, D, D, D, D, D, D, D, D, D, D, D, D, D, D, D, D, D, D, D, D, D, D, D, D, D, D, D, D, D, D, D, D, D, D, D, D, D, D, D, D, D, D, D]) (fun i => i ≤ x.length ∧ i ≤ y.length ∧ ∀ j, j < i → x.getD j 0 = y.getD j 0) (fun i => x.length - i) ⟨0, ⟨by omega, by omega, fun j h => by omega⟩, ?_⟩ fun i ⟨hx, hy, hj⟩ => ?_
 ·simp only [wn, wq, simprocAttr]
  try rfl
 apply cutl
 ·intro tail
  repeat refine VW.seq ?_
  refine VW.drawl hT hm (by kernel_rfl) fun K hK => ?_
  simp only [wq, simprocAttr]
  refine vbr (fun h => ?_) (fun h => ?_) <;> simp only [wq, simprocAttr]
  case refine_2 =>
   have h : decide ((i : Int) < (x.length : Int)) = false := h
   have h := of_decide_eq_false h
   have hend : i = x.length ∨ i = y.length ∨ x.getD i 0 ≠ y.getD i 0 := .inl (by omega)
   refine hK _ ?_
   try refine vthen_n ?_
   refine VW.cond rfl (fun hc => by cases hc) (fun hc => ?_)
   refine VW.exit ?_
   show vthen _ _ _ .normal _
   refine vthen_n ?_
   refine VW.weak (weak_norm [(7, none), (8, none), (9, none), (10, none)] _) ?_
   simp only [wn, wq, simprocAttr]
   revert hend
   exact tail.h
  have h : decide ((i : Int) < (x.length : Int)) = true := h
  have h := of_decide_eq_true h
  have hlx : i < x.length := by omega
  refine vbr (fun h2 => ?_) (fun h2 => ?_) <;> simp only [wq, simprocAttr]
  case refine_2 =>
   have h2 : decide ((i : Int) < (y.length : Int)) = false := h2
   have h2 := of_decide_eq_false h2
   have hend : i = x.length ∨ i = y.length ∨ x.getD i 0 ≠ y.getD i 0 := .inr (.inl (by omega))
   refine hK _ ?_
   try refine vthen_n ?_
   refine VW.cond rfl (fun hc => by cases hc) (fun hc => ?_)
   refine VW.exit ?_
   show vthen _ _ _ .normal _
   refine vthen_n ?_
   refine VW.weak (weak_norm [(7, none), (8, none), (9, none), (10, none)] _) ?_
   simp only [wn, wq, simprocAttr]
   revert hend
   exact tail.h
  have h2 : decide ((i : Int) < (y.length : Int)) = true := h2
  have h2 := of_decide_eq_true h2
  have hly : i < y.length := by omega
  refine ⟨decide_eq_true ⟨Int.natCast_nonneg _, by show (i : Int) < (x.length : Int); omega⟩, decide_eq_true ⟨Int.natCast_nonneg _, by show (i : Int) < (y.length : Int); omega⟩, ?_⟩
  refine hK _ ?_
  try refine vthen_n ?_
  refine VW.cond rfl (fun hc => ?_) (fun hc => ?_)
  ·have hc : (x.getD i 0 == y.getD i 0) = true := hc
   refine VW.skip (vthen_n ?_)
   repeat refine VW.seq ?_
   refine VW.block ?_
   repeat refine VW.seq ?_
   refine VW.regl hT fun K hK => ?_
   simp only [wq, simprocAttr]
   refine hK _ ?_
   clear hK K
   try refine vthen_n ?_
   refine ⟨i + 1, ⟨hlx, hly, fun j hj2 => ?_⟩, ?_, by show x.length - (i + 1) < x.length - i; omega⟩
   ·rcases Nat.lt_or_ge j i with h1 | h1
    ·exact hj j h1
    ·obtain rfl : j = i := by omega
     simpa using hc
   simp only [wn, wq, simprocAttr]
   rw [wrap64 (by omega) (by omega)]
   rfl
  ·have hc : (x.getD i 0 == y.getD i 0) = false := hc
   have hend : i = x.length ∨ i = y.length ∨ x.getD i 0 ≠ y.getD i 0 := .inr (.inr (by simpa using hc))
   refine VW.exit ?_
   show vthen _ _ _ .normal _
   refine vthen_n ?_
   refine VW.weak (weak_norm [(7, none), (8, none), (9, none), (10, none)] _) ?_
   simp only [wn, wq, simprocAttr]
   revert hend
   exact tail.h
 ·intro hend
  have hi := cpl_eq x y i hx hy hj hend
  rw [hi] at hcp
  rw [hi]
  obtain ⟨m, rfl⟩ : ∃ m, i = m + 1 := ⟨i - 1, by omega⟩
  rw [show m + 1 - 1 = m by omega]
  repeat refine VW.seq ?_
  refine VW.regl hT fun K hK => ?_
  simp only [wq, simprocAttr]
  refine hK _ ?_
  clear hK K
  try refine vthen_n ?_
  repeat refine VW.seq ?_
  refine VW.block ?_
  refine VW.loop (α := Nat) [(8, none), (7, none), (9, some (3, .int .i64)), (10, none), (11, none)] (fun j => [D, D, D, D, D, D, D, .v false sI x, .v false sI y, .root (.val false) sI .own (x.drop j).reverse, .v false (.int .i64) (((m + 1 : Nat) : Int)), .v false (.int .i64) ((j : Int) - 1), D, D, D, D, D, D, D, D, D, D, D, D, D, D, D, D, D, D, D, D, D, D, D, D, D, D, D, D, D, D, D, D, D, D, D, D, D, D, D, D, D, D, D, D, D, D, D, D, D, D, D, D, D, D, D, D, D, D, D, D]) (fun j => m ≤ j ∧ j ≤ x.length) (fun j => j) ⟨x.length, ⟨by omega, by omega⟩, ?_⟩ fun j ⟨hj1, hj2⟩ => ?_
  ·simp only [wn, wq, simprocAttr]
   rw [wrap64 (by omega) (by omega), List.drop_length]
   rfl
  have hdl : (x.drop j).length = x.length - j := List.length_drop ..
  repeat refine VW.seq ?_
  refine VW.regl hT fun K hK => ?_
  simp only [wq, simprocAttr]
  refine hK _ ?_
  clear hK K
  try refine vthen_n ?_
  rw [wrap64 (by omega) (by omega)]
  repeat refine VW.seq ?_
  refine VW.cond rfl (fun hc => ?_) (fun hc => ?_)
  ·have hc : (j : Int) - 1 ≥ ((m + 1 : Nat) : Int) - 1 := of_decide_eq_true hc
   obtain ⟨q, rfl⟩ : ∃ q, j = q + 1 := ⟨j - 1, by omega⟩
   rw [show ((q + 1 : Nat) : Int) - 1 = (q : Int) by omega]
   refine VW.skip (vthen_n ?_)
   repeat refine VW.seq ?_
   refine VW.block ?_
   repeat refine VW.seq ?_
   refine VW.regl hT fun K hK => ?_
   simp only [wq, simprocAttr]
   refine ⟨decide_eq_true ⟨Int.natCast_nonneg _, by show (q : Int) < (x.length : Int); omega⟩, ?_, ?_⟩
   ·have : ((x.drop (q + 1)).reverse).length ≤ 12 := by rw [List.length_reverse]; omega
    generalize (x.drop (q + 1)).reverse = w at *
    simp [limOk]
    omega
   refine hK _ ?_
   clear hK K
   try refine vthen_n ?_
   repeat refine VW.seq ?_
   refine VW.regl hT fun K hK => ?_
   simp only [wq, simprocAttr]
   refine hK _ ?_
   clear hK K
   try refine vthen_n ?_
   refine ⟨q, ⟨by omega, by omega⟩, ?_, by show q < q + 1; omega⟩
   simp only [wn, wq, simprocAttr]
   rw [wrap64 (by omega) (by omega), back_snoc (m := m) (by omega) (by omega)]
  ·have hc : ¬ (j : Int) - 1 ≥ ((m + 1 : Nat) : Int) - 1 := of_decide_eq_false hc
   obtain rfl : j = m := by omega
   refine VW.exit ?_
   show vthen _ _ _ .normal _
   refine vthen_n ?_
   repeat refine VW.seq ?_
   refine VW.regl hT fun K hK => ?_
   simp only [wq, simprocAttr]
   rw [List.take_length]
   refine ⟨decide_eq_true ⟨by omega, by omega, by omega⟩, ?_, ?_⟩
   ·have e1 : (x.drop j).reverse.length + (y.drop (j + 1)).length ≤ 24 := by
     rw [List.length_reverse, List.length_drop, List.length_drop]
     omega
    generalize (x.drop j).reverse.length + (y.drop (j + 1)).length = q at *
    simp [limOk]
    omega
   refine hK _ ?_
   clear hK K
   try refine vthen_n ?_
   refine VW.weak (weak_norm [(6, none)] _) ?_
   simp only [wn, wq, simprocAttr]
   exact VW.ret ⟨.inl rfl, _, rfl, rfl⟩
end Go.Proofs.YtoeblmcibheldaaGreatDoor.V.W
end
section
namespace Go.Proofs.YtoeblmcibheldaaGreatDoor.V.W
open Go Go.RowKit
/-- two rows agree as far as cpl says -/
theorem cpl_spec : ∀ x y : List Int, cpl x y ≤ x.length ∧ cpl x y ≤ y.length ∧ ∀ j, j < cpl x y → x.getD j 0 = y.getD j 0
 | [], y => by simp [cpl]
 | a :: x, [] => by simp [cpl]
 | a :: x, b :: y => by
  obtain ⟨h1, h2, h3⟩ := cpl_spec x y
  by_cases e : a = b
  ·simp only [cpl, e, if_true, List.length_cons]
   refine ⟨by omega, by omega, fun j hj => ?_⟩
   match j, hj with
   | 0, _ => rfl
   | j + 1, hj => exact h3 j (by omega)
  ·simp [cpl, e]
theorem rev_getD {x : List Int} {j : Nat} (h : j < x.length) : x.reverse.getD j 0 = x.getD (x.length - 1 - j) 0 := by
 rw [List.getD_eq_getElem?_getD, List.getElem?_reverse h, ← List.getD_eq_getElem?_getD]
theorem drop_getD (x : List Int) (n j : Nat) : (x.drop n).getD j 0 = x.getD (n + j) 0 := by
 rw [List.getD_eq_getElem?_getD, List.getElem?_drop, ← List.getD_eq_getElem?_getD]
theorem app_getDI (x y : List Int) (j : Nat) : (x ++ y).getD j 0 = if j < x.length then x.getD j 0 else y.getD (j - x.length) 0 := by
 rw [List.getD_eq_getElem?_getD]
 split
 ·rename_i h
  rw [List.getElem?_append_left h, ← List.getD_eq_getElem?_getD]
 ·rename_i h
  rw [List.getElem?_append_right (by omega), ← List.getD_eq_getElem?_getD]
def upN (t : List Nd) (k : Int) : Int := (t.getD k.toNat z).1
/-- each node of a path to a node stands below the one ahead of it -/
theorem path_chain {t : List Nd} {k : Int} (h : isNd t k = true) (j : Nat) (hj : j + 1 < (pathTo t k).length) : upN t ((pathTo t k).getD (j + 1) 0) = (pathTo t k).getD j 0 := by
 have hok : treeOk t = true := by
  rw [isNd, Bool.and_eq_true] at h
  exact h.1
 have hk := inB_iff.1 (by rw [isNd, Bool.and_eq_true] at h; exact h.2 : inB k 0 (t.length - 1) = true)
 have hex : ∃ i, pathTo t k = (accTo t k i).reverse := by
  have hend : anc t k t.length < 0 := by
   have := anc_lt hok (k := k) (by omega) t.length (by omega)
   have htl := treeOk_len hok
   omega
  have : ∀ n, anc t k n < 0 → ∃ i, i ≤ n ∧ anc t k i < 0 ∧ ∀ j, j < i → 0 ≤ anc t k j := by
   intro n
   induction n using Nat.strongRecOn with
   | _ n ih =>
    intro hn
    by_cases hex : ∃ j, j < n ∧ anc t k j < 0
    ·obtain ⟨j, h1, h2⟩ := hex
     obtain ⟨i, q1, q2, q3⟩ := ih j h1 h2
     exact ⟨i, by omega, q2, q3⟩
    ·refine ⟨n, Nat.le_refl _, hn, fun j hj => ?_⟩
     have : ¬ anc t k j < 0 := fun q => hex ⟨j, hj, q⟩
     omega
  obtain ⟨i, hi, h1, h2⟩ := this _ hend
  exact ⟨i, by rw [pathTo, if_pos (show (treeOk t && inB k 0 (t.length - 1)) = true from h), accTo_all hok h1 h2 _ hi]⟩
 obtain ⟨i, hp⟩ := hex
 rw [hp] at hj ⊢
 have hl : (accTo t k i).length = i := by simp [accTo]
 rw [List.length_reverse, hl] at hj
 have hg : ∀ m, m < i → (accTo t k i).getD m 0 = anc t k m := fun m hm => by
  rw [accTo, List.getD_eq_getElem?_getD, List.getElem?_map, List.getElem?_range hm]
  rfl
 rw [rev_getD (by omega), rev_getD (by omega), hl, hg _ (by omega), hg _ (by omega), show i - 1 - j = (i - 1 - (j + 1)) + 1 by omega]
 rfl
/-- neighbours on a path -/
theorem between_adj {t : List Nd} {a b : Int} (j : Nat) (hj : j + 1 < (between t a b).length) : upN t ((between t a b).getD j 0) = (between t a b).getD (j + 1) 0 ∨ upN t ((between t a b).getD (j + 1) 0) = (between t a b).getD j 0 := by
 rw [between] at hj ⊢
 split at hj
 case isFalse => simp at hj
 rename_i h
 rw [if_pos h]
 rw [Bool.and_eq_true] at h
 have hx := path_chain h.1
 have hy := path_chain h.2
 have px := path_head h.1
 have py := path_head h.2
 have hc := cpl_spec (pathTo t a) (pathTo t b)
 have hc1 := cpl_pos px.1 py.1 (by rw [px.2.1, py.2.1])
 generalize pathTo t a = x at *
 generalize pathTo t b = y at *
 generalize cpl x y = c at *
 obtain ⟨m, rfl⟩ : ∃ m, c = m + 1 := ⟨c - 1, by omega⟩
 rw [show m + 1 - 1 = m by omega] at hj ⊢
 obtain ⟨c1, c2, c3⟩ := hc
 have hU : ((x.drop m).reverse).length = x.length - m := by rw [List.length_reverse, List.length_drop]
 have hgU : ∀ q, q < x.length - m → ((x.drop m).reverse).getD q 0 = x.getD (x.length - 1 - q) 0 := fun q hq => by
  rw [rev_getD (by rw [List.length_drop]; exact hq), drop_getD, List.length_drop]
  congr 1
  omega
 rw [List.length_append, hU, List.length_drop] at hj
 rw [app_getDI, app_getDI, hU, drop_getD, drop_getD]
 by_cases h1 : j + 1 < x.length - m
 ·rw [if_pos (by omega), if_pos h1, hgU _ (by omega), hgU _ h1]
  left
  have := hx (x.length - 1 - (j + 1)) (by omega)
  rw [show x.length - 1 - (j + 1) + 1 = x.length - 1 - j by omega] at this
  exact this
 ·right
  rw [if_neg h1]
  by_cases h2 : j < x.length - m
  ·rw [if_pos h2, hgU _ h2, show x.length - 1 - j = m by omega, show m + 1 + (j + 1 - (x.length - m)) = m + 1 by omega, c3 m (by omega)]
   exact hy m (by omega)
  ·rw [if_neg h2]
   have := hy (m + 1 + (j - (x.length - m))) (by omega)
   rw [show m + 1 + (j + 1 - (x.length - m)) = m + 1 + (j - (x.length - m)) + 1 by omega]
   exact this
/-- which of two neighbours is the lower one may be asked from either side -/
theorem low_eq {t : List Nd} (hok : treeOk t = true) {x y : Int} (hx : 0 ≤ x ∧ x < t.length) (hy : 0 ≤ y ∧ y < t.length) (h : upN t x = y ∨ upN t y = x) : (if (upN t x == y) = true then x else y) = if (upN t y == x) = true then y else x := by
 have hlt : ∀ k : Int, 0 ≤ k ∧ k < t.length → upN t k < k := fun k hk => by
  unfold upN
  rcases Nat.eq_zero_or_pos k.toNat with e | e
  ·rw [e, (tree_parts hok).2.1]
   omega
  ·obtain ⟨p, hp, hpl⟩ := par hok (j := k.toNat) e (by omega)
   rw [hp]
   omega
 have q1 := hlt x hx
 have q2 := hlt y hy
 rcases h with h | h
 ·have : (upN t y == x) = false := beq_eq_false_iff_ne.2 (by omega)
  rw [this, h]
  simp
 ·have : (upN t x == y) = false := beq_eq_false_iff_ne.2 (by omega)
  rw [this, h]
  simp
set_option maxRecDepth 20000 in
set_option maxHeartbeats 1000000 in
theorem specCanReach_vc (t : List Nd) (g : List Bool) (a b : Int) (hl : t.length ≤ 2000000) : VC Tryz.prog 87 [.v false sNS t, .v true sG g, .v false (.int .i64) (a), .v false (.int .i64) (b)] (· = .v false .bool (canReach t g a b)) := by
 refine VC.of_body hT Tryz.func87 rfl (by kernel_rfl) [(.tmp 8, false, .bool)] (by kernel_rfl) ?_
 show VW _ _ ([.v false sNS t, .v true sG g, .v false (.int .i64) (a), .v false (.int .i64) (b), D, D, D, D, D, D, D, D, D, D, D, D, D, D, D, D, D, D, D, D, D, D, D, D, D, D, D, D, D, D, D, D, D, D, D, D, D, D, D, D, D, D, D, D, D, D, D, D, D, D, D, D, D, D, D, D, D]) _
 have hmem := fun x (hx : x ∈ between t a b) => between_mem hx
 have hpl := between_len t a b
 have hadj := fun j h => between_adj (t := t) (a := a) (b := b) j h
 rw [canReach]
 repeat refine VW.seq ?_
 refine VW.regl hT fun K hK => ?_
 simp only [wq, simprocAttr]
 refine hK _ ?_
 clear hK K
 try refine vthen_n ?_
 repeat refine VW.seq ?_
 refine VW.regl hT fun K hK => ?_
 simp only [wq, simprocAttr]
 refine vcall_of (specBetween_vc t a b hl) ?_
 simp only [wq, simprocAttr]
 refine hK _ ?_
 clear hK K
 try refine vthen_n ?_
 generalize between t a b = p at *
 repeat refine VW.seq ?_
 refine VW.regl hT fun K hK => ?_
 simp only [wq, simprocAttr]
 refine vcall_of (specGuard_vc t g hl) ?_
 simp only [wq, simprocAttr]
 refine vbr (fun h => ?_) (fun h => ?_) <;> simp only [wq, simprocAttr]
 case refine_2 =>
  have h : guardOk t g = false := (Bool.not_eq_true' _).mp h
  refine hK _ ?_
  clear hK K
  try refine vthen_n ?_
  repeat refine VW.seq ?_
  refine VW.cond rfl (fun hc => ?_) (fun hc => ?_)
  ·repeat refine VW.seq ?_
   refine VW.regl hT fun K hK => ?_
   simp only [wq, simprocAttr]
   refine hK _ ?_
   clear hK K
   try refine vthen_n ?_
   refine VW.ret ⟨.inl rfl, _, rfl, ?_⟩
   rw [h]
   rfl
  ·cases hc
 have hg : guardOk t g = true := by
  have := h
  rwa [Bool.not_eq_false'] at this
 have hg2 := hg
 rw [guardOk, Bool.and_eq_true, Bool.and_eq_true, beq_iff_eq] at hg2
 obtain ⟨hok, hgl, _⟩ := hg2
 refine hK _ ?_
 clear hK K
 try refine vthen_n ?_
 repeat refine VW.seq ?_
 refine VW.cond rfl (fun hc => ?_) (fun hc => ?_)
 ·have hc : ((p.length : Int) == 0) = true := hc
  have h0 : p.length = 0 := by
   have : (p.length : Int) = 0 := by simpa using hc
   omega
  repeat refine VW.seq ?_
  refine VW.regl hT fun K hK => ?_
  simp only [wq, simprocAttr]
  refine hK _ ?_
  clear hK K
  try refine vthen_n ?_
  refine VW.ret ⟨.inl rfl, _, rfl, ?_⟩
  rw [h0, hg]
  rfl
 have h0 : (!(p.length == 0)) = true := by
  have hc : ((p.length : Int) == 0) = false := hc
  have : ¬ (p.length : Int) = 0 := by simpa using hc
  have : p.length ≠ 0 := by omega
  simpa using this
 have hp1 : 1 ≤ p.length := by
  have : p.length ≠ 0 := by simpa using h0
  omega
 rw [hg, h0, Bool.true_and, Bool.true_and]
 refine VW.skip (vthen_n ?_)
 repeat refine VW.seq ?_
 refine VW.regl hT fun K hK => ?_
 simp only [wq, simprocAttr]
 refine hK _ ?_
 clear hK K
 try refine vthen_n ?_
 repeat refine VW.seq ?_
 refine VW.block ?_
 refine VW.loop (α := Nat) [(0, none), (5, none), (9, none), (10, none)] (fun i => [.v false sNS t, D, D, D, D, .root (.box 30) sG .fz g, D, D, D, .root (.val false) sI .own p, .v false (.int .i64) ((i : Nat)), D, D, D, D, D, D, D, D, D, D, D, D, D, D, D, D, D, D, D, D, D, D, D, D, D, D, D, D, D, D, D, D, D, D, D, D, D, D, D, D, D, D, D, D, D, D, D, D, D, D]) (fun i => i + 1 ≤ p.length ∧ ∀ j, j < i + 1 → (j == 0 || g.getD (lowAt t p j).toNat false) = true) (fun i => p.length - i) ⟨0, ⟨by omega, fun j h => ?_⟩, ?_⟩ fun i ⟨hi, hj⟩ => ?_
 ·obtain rfl : j = 0 := by omega
  rfl
 ·simp only [wn, wq, simprocAttr]
  try rfl
 repeat refine VW.seq ?_
 refine VW.regl hT fun K hK => ?_
 simp only [wq, simprocAttr]
 refine hK _ ?_
 clear hK K
 try refine vthen_n ?_
 rw [wrap64 (by omega) (by omega)]
 repeat refine VW.seq ?_
 refine VW.cond rfl (fun hc => ?_) (fun hc => ?_)
 ·have hlt : i + 1 < p.length := by
   have := of_decide_eq_true hc
   omega
  have m1 := hmem _ (getD_mem hlt)
  have m2 := hmem _ (getD_mem (i := i) (by omega))
  have hlow : lowAt t p (i + 1) = if (t.getD (p.getD (i + 1) 0).toNat z).1 == p.getD i 0 then p.getD (i + 1) 0 else p.getD i 0 := by
   have : lowAt t p (i + 1) = if (upN t (p.getD i 0) == p.getD (i + 1) 0) = true then p.getD i 0 else p.getD (i + 1) 0 := rfl
   rw [this, low_eq hok m2 m1 (hadj i hlt)]
   rfl
  refine VW.skip (vthen_n ?_)
  repeat refine VW.seq ?_
  refine VW.block ?_
  repeat refine VW.seq ?_
  refine VW.regl hT fun K hK => ?_
  simp only [wq, simprocAttr]
  refine ⟨decide_eq_true ⟨Int.natCast_nonneg _, by show (i : Int) < (p.length : Int); omega⟩, ?_⟩
  refine hK _ ?_
  clear hK K
  try refine vthen_n ?_
  repeat refine VW.seq ?_
  refine VW.drawl hT hm (by kernel_rfl) fun K hK => ?_
  simp only [wq, simprocAttr]
  rw [wrap64 (by omega) (by omega), show (i : Int) + 1 = ((i + 1 : Nat) : Int) by omega, Int.toNat_natCast]
  refine ⟨by kernel_rfl, by kernel_rfl, decide_eq_true ⟨Int.natCast_nonneg _, by show ((i + 1 : Nat) : Int) < (p.length : Int); omega⟩, by kernel_rfl, decide_eq_true m1, by kernel_rfl, by kernel_rfl, decide_eq_true ⟨Int.natCast_nonneg _, by show (i : Int) < (p.length : Int); omega⟩, by kernel_rfl, ?_⟩
  refine hK _ ?_
  clear hK K
  try refine vthen_n ?_
  apply cutl
  ·intro tail
   repeat refine VW.seq ?_
   refine VW.cond rfl (fun hc => ?_) (fun hc => ?_)
   ·have hc : ((t.getD (p.getD (i + 1) 0).toNat z).1 == p.getD i 0) = true := hc
    rw [if_pos hc] at hlow
    repeat refine VW.seq ?_
    refine VW.regl hT fun K hK => ?_
    simp only [wq, simprocAttr]
    rw [wrap64 (by omega) (by omega), show (i : Int) + 1 = ((i + 1 : Nat) : Int) by omega, Int.toNat_natCast]
    refine ⟨decide_eq_true ⟨Int.natCast_nonneg _, by show ((i + 1 : Nat) : Int) < (p.length : Int); omega⟩, ?_⟩
    refine hK _ ?_
    try refine vthen_n ?_
    refine VW.weak (weak_norm [(0, none), (5, none), (9, none), (10, none), (11, none)] _) ?_
    simp only [wn, wq, simprocAttr]
    rw [← hlow]
    exact tail.h
   ·have hc : ((t.getD (p.getD (i + 1) 0).toNat z).1 == p.getD i 0) = false := hc
    rw [if_neg (by rw [hc]; decide)] at hlow
    refine VW.skip ?_
    show vthen _ _ _ .normal _
    refine vthen_n ?_
    refine VW.weak (weak_norm [(0, none), (5, none), (9, none), (10, none), (11, none)] _) ?_
    simp only [wn, wq, simprocAttr]
    rw [← hlow]
    exact tail.h
  have m3 : 0 ≤ lowAt t p (i + 1) ∧ lowAt t p (i + 1) < t.length := by
   rw [hlow]
   split
   ·exact m1
   ·exact m2
  clear hlow
  repeat refine VW.seq ?_
  refine VW.regl hT fun K hK => ?_
  simp only [wq, simprocAttr]
  refine ⟨decide_eq_true ⟨m3.1, by show lowAt t p (i + 1) < (g.length : Int); omega⟩, ?_⟩
  refine hK _ ?_
  clear hK K
  try refine vthen_n ?_
  repeat refine VW.seq ?_
  refine VW.cond rfl (fun hc => ?_) (fun hc => ?_)
  ·have hc : g.getD (lowAt t p (i + 1)).toNat false = false := (Bool.not_eq_true' _).mp hc
   have hno : passes t g p = false := by
    rw [passes, List.all_eq_false]
    refine ⟨i + 1, List.mem_range.2 hlt, ?_⟩
    rw [hc, Bool.or_false]
    simp
   repeat refine VW.seq ?_
   refine VW.regl hT fun K hK => ?_
   simp only [wq, simprocAttr]
   refine hK _ ?_
   clear hK K
   try refine vthen_n ?_
   refine VW.ret ⟨.inl rfl, _, rfl, ?_⟩
   rw [hno]
  ·have hc : g.getD (lowAt t p (i + 1)).toNat false = true := by
    have := hc
    rwa [Bool.not_eq_false'] at this
   refine VW.skip ?_
   show vthen _ _ _ .normal _
   refine vthen_n ?_
   repeat refine VW.seq ?_
   refine VW.regl hT fun K hK => ?_
   simp only [wq, simprocAttr]
   refine hK _ ?_
   clear hK K
   try refine vthen_n ?_
   refine ⟨i + 1, ⟨by omega, fun j h => ?_⟩, ?_, by show p.length - (i + 1) < p.length - i; omega⟩
   ·rcases Nat.lt_or_ge j (i + 1) with h1 | h1
    ·exact hj j h1
    ·obtain rfl : j = i + 1 := by omega
     rw [hc, Bool.or_true]
   simp only [wn, wq, simprocAttr]
   rw [wrap64 (by omega) (by omega)]
   rfl
 ·have hge : i + 1 = p.length := by
   have : ¬ (i : Int) + 1 < (p.length : Int) := of_decide_eq_false hc
   omega
  refine VW.exit ?_
  show vthen _ _ _ .normal _
  refine vthen_n ?_
  repeat refine VW.seq ?_
  refine VW.regl hT fun K hK => ?_
  simp only [wq, simprocAttr]
  refine hK _ ?_
  clear hK K
  try refine vthen_n ?_
  refine VW.ret ⟨.inl rfl, _, rfl, ?_⟩
  have hyes : passes t g p = true := by
   rw [passes, List.all_eq_true]
   intro j h
   exact hj j (by have := List.mem_range.1 h; omega)
  rw [hyes]
end Go.Proofs.YtoeblmcibheldaaGreatDoor.V.W
end
section
namespace Go.Proofs.YtoeblmcibheldaaGreatDoor.V.W
open Go Go.RowKit
def bridges (t : List Nd) (i : Nat) : Int := ((t.take i).filter fun n => n.2.2 == 0).length
theorem bridges_succ {t : List Nd} {i : Nat} (h : i < t.length) : bridges t (i + 1) = bridges t i + (if ((t.getD i z).2.2 == 0) = true then 1 else 0) := by
 unfold bridges
 rw [List.take_add_one, List.getElem?_eq_getElem h, List.filter_append, List.length_append, List.getD_eq_getElem?_getD, List.getElem?_eq_getElem h]
 simp only [Option.toList, Option.getD_some, List.filter_cons, List.filter_nil]
 split <;> simp
theorem bridges_le (t : List Nd) (i : Nat) : 0 ≤ bridges t i ∧ bridges t i ≤ i := by
 unfold bridges
 have := List.length_filter_le (fun n : Nd => n.2.2 == 0) (t.take i)
 rw [List.length_take] at this
 omega
set_option maxRecDepth 20000 in
theorem count_vc (t : List Nd) (hl : t.length ≤ 2000000) : VC Tryz.prog 11 [.v false sNS t] (· = .v false (.int .i64) (bridges t t.length)) := by
 refine VC.of_body hT Tryz.func11 rfl (by kernel_rfl) [(.tmp 2, false, .int .i64)] (by kernel_rfl) ?_
 show VW _ _ ([.v false sNS t, D, D, D, D, D, D, D, D, D, D, D, D, D, D, D, D, D, D]) _
 repeat refine VW.seq ?_
 refine VW.regl hT fun K hK => ?_
 simp only [wq, simprocAttr]
 refine hK _ ?_
 clear hK K
 try refine vthen_n ?_
 repeat refine VW.seq ?_
 refine VW.regl hT fun K hK => ?_
 simp only [wq, simprocAttr]
 refine hK _ ?_
 clear hK K
 try refine vthen_n ?_
 repeat refine VW.seq ?_
 refine VW.regl hT fun K hK => ?_
 simp only [wq, simprocAttr]
 refine hK _ ?_
 clear hK K
 try refine vthen_n ?_
 repeat refine VW.seq ?_
 refine VW.block ?_
 refine VW.loop (α := Nat) [(3, none), (6, none), (7, none), (8, none)] (fun i => [D, D, D, .v false (.int .i64) (bridges t i), D, D, .v false sNS t, .v false (.int .i64) (t.length), .v false (.int .i64) (i), D, D, D, D, D, D, D, D, D, D]) (fun i => i ≤ t.length) (fun i => t.length - i) ⟨0, by omega, ?_⟩ fun i hi => ?_
 ·simp only [wn, wq, simprocAttr]
  try rfl
 repeat refine VW.seq ?_
 refine VW.regl hT fun K hK => ?_
 simp only [wq, simprocAttr]
 refine hK _ ?_
 clear hK K
 try refine vthen_n ?_
 repeat refine VW.seq ?_
 refine VW.cond rfl (fun hc => ?_) (fun hc => ?_)
 ·have hlt : i < t.length := by simpa using hc
  have hb := bridges_le t i
  refine VW.skip (vthen_n ?_)
  repeat refine VW.seq ?_
  refine VW.block ?_
  repeat refine VW.seq ?_
  refine VW.regl hT fun K hK => ?_
  simp only [wq, simprocAttr]
  refine ⟨by simp; omega, ?_⟩
  refine hK _ ?_
  clear hK K
  try refine vthen_n ?_
  repeat refine VW.seq ?_
  refine VW.regl hT fun K hK => ?_
  simp only [wq, simprocAttr]
  refine hK _ ?_
  clear hK K
  try refine vthen_n ?_
  repeat refine VW.seq ?_
  refine VW.cond rfl (fun hc => ?_) (fun hc => ?_)
  ·repeat refine VW.seq ?_
   refine VW.regl hT fun K hK => ?_
   simp only [wq, simprocAttr]
   refine hK _ ?_
   clear hK K
   try refine vthen_n ?_
   show vthen _ _ _ .normal _
   refine vthen_n ?_
   repeat refine VW.seq ?_
   refine VW.regl hT fun K hK => ?_
   simp only [wq, simprocAttr]
   refine hK _ ?_
   clear hK K
   try refine vthen_n ?_
   refine ⟨i + 1, hlt, ?_, by show t.length - (i + 1) < t.length - i; omega⟩
   simp only [wn, wq, simprocAttr]
   rw [wrap64 (by omega) (by omega), wrap64 (by omega) (by omega), bridges_succ hlt, if_pos hc]
   rfl
  ·refine VW.skip ?_
   show vthen _ _ _ .normal _
   refine vthen_n ?_
   repeat refine VW.seq ?_
   refine VW.regl hT fun K hK => ?_
   simp only [wq, simprocAttr]
   refine hK _ ?_
   clear hK K
   try refine vthen_n ?_
   refine ⟨i + 1, hlt, ?_, by show t.length - (i + 1) < t.length - i; omega⟩
   simp only [wn, wq, simprocAttr]
   rw [wrap64 (by omega) (by omega), bridges_succ hlt, if_neg (by rw [show ((t.getD i z).2.2 == 0) = false from hc]; exact Bool.false_ne_true), Int.add_zero]
   rfl
 ·have hge : t.length ≤ i := by simpa using hc
  obtain rfl : i = t.length := by omega
  refine VW.exit ?_
  show vthen _ _ _ .normal _
  refine vthen_n ?_
  repeat refine VW.seq ?_
  refine VW.regl hT fun K hK => ?_
  simp only [wq, simprocAttr]
  refine hK _ ?_
  clear hK K
  try refine vthen_n ?_
  exact VW.ret ⟨.inl rfl, _, rfl, rfl⟩
/-- a slot taken -/
def taken (p d : Int) (x : Nd) : Bool := x.1 == p && x.2.1 == d
end Go.Proofs.YtoeblmcibheldaaGreatDoor.V.W
end
section
namespace Go.Proofs.YtoeblmcibheldaaGreatDoor.V.W
open Go Go.RowKit
theorem foldl_succ {α β : Type} (f : β → α → β) (b : β) {l : List α} {i : Nat} (z : α) (h : i < l.length) : (l.take (i + 1)).foldl f b = f ((l.take i).foldl f b) (l.getD i z) := by
 rw [List.take_add_one, List.getElem?_eq_getElem h, List.foldl_append, List.getD_eq_getElem?_getD, List.getElem?_eq_getElem h]
 rfl
theorem wrapR (n : Int) : -9223372036854775808 ≤ IntKind.i64.wrap n ∧ IntKind.i64.wrap n ≤ 9223372036854775807 := by
 simp only [IntKind.wrap, IntKind.bits, IntKind.signed]
 simp
 omega
def addW (a n : Int) : Int := IntKind.i64.wrap (a + n)
def sumW (l : List Int) : Int := l.foldl addW 0
theorem foldW_r {α : Type} {f : Int → α → Int} (hf : ∀ a x, (-9223372036854775808 ≤ a ∧ a ≤ 9223372036854775807) → -9223372036854775808 ≤ f a x ∧ f a x ≤ 9223372036854775807) : ∀ (l : List α) (a : Int), (-9223372036854775808 ≤ a ∧ a ≤ 9223372036854775807) → -9223372036854775808 ≤ l.foldl f a ∧ l.foldl f a ≤ 9223372036854775807
 | [], _, h => h
 | x :: r, a, h => foldW_r hf r _ (hf a x h)
theorem sumW_r (l : List Int) : -9223372036854775808 ≤ sumW l ∧ sumW l ≤ 9223372036854775807 := foldW_r (fun a n _ => wrapR _) l 0 (by decide)
theorem sumW_succ {l : List Int} {i : Nat} (h : i < l.length) : sumW (l.take (i + 1)) = IntKind.i64.wrap (sumW (l.take i) + l.getD i 0) := foldl_succ addW 0 0 h
set_option maxRecDepth 20000 in
theorem total_vc (s : List Int) (hl : s.length ≤ 2000000) : VC Tryz.prog 31 [.v false sI s] (· = .v false (.int .i64) (sumW s)) := by
 refine VC.of_body hT Tryz.func31 rfl (by kernel_rfl) [(.tmp 2, false, .int .i64)] (by kernel_rfl) ?_
 show VW _ _ ([.v false sI s, D, D, D, D, D, D, D, D, D, D, D, D, D, D, D, D]) _
 repeat refine VW.seq ?_
 refine VW.regl hT fun K hK => ?_
 simp only [wq, simprocAttr]
 refine hK _ ?_
 clear hK K
 try refine vthen_n ?_
 repeat refine VW.seq ?_
 refine VW.regl hT fun K hK => ?_
 simp only [wq, simprocAttr]
 refine hK _ ?_
 clear hK K
 try refine vthen_n ?_
 repeat refine VW.seq ?_
 refine VW.regl hT fun K hK => ?_
 simp only [wq, simprocAttr]
 refine hK _ ?_
 clear hK K
 try refine vthen_n ?_
 repeat refine VW.seq ?_
 refine VW.block ?_
 refine VW.loop (α := Nat) [(3, none), (6, none), (7, none), (8, none)] (fun i => [D, D, D, .v false (.int .i64) (sumW (s.take i)), D, D, .v false sI s, .v false (.int .i64) (s.length), .v false (.int .i64) (i), D, D, D, D, D, D, D, D]) (fun i => i ≤ s.length) (fun i => s.length - i) ⟨0, by omega, ?_⟩ fun i hi => ?_
 ·simp only [wn, wq, simprocAttr]
  try rfl
 repeat refine VW.seq ?_
 refine VW.regl hT fun K hK => ?_
 simp only [wq, simprocAttr]
 refine hK _ ?_
 clear hK K
 try refine vthen_n ?_
 repeat refine VW.seq ?_
 refine VW.cond rfl (fun hc => ?_) (fun hc => ?_)
 ·have hlt : i < s.length := by simpa using hc
  refine VW.skip (vthen_n ?_)
  repeat refine VW.seq ?_
  refine VW.block ?_
  repeat refine VW.seq ?_
  refine VW.regl hT fun K hK => ?_
  simp only [wq, simprocAttr]
  refine ⟨by simp; omega, ?_⟩
  refine hK _ ?_
  clear hK K
  try refine vthen_n ?_
  repeat refine VW.seq ?_
  refine VW.regl hT fun K hK => ?_
  simp only [wq, simprocAttr]
  refine hK _ ?_
  clear hK K
  try refine vthen_n ?_
  show vthen _ _ _ .normal _
  refine vthen_n ?_
  repeat refine VW.seq ?_
  refine VW.regl hT fun K hK => ?_
  simp only [wq, simprocAttr]
  refine hK _ ?_
  clear hK K
  try refine vthen_n ?_
  refine ⟨i + 1, hlt, ?_, by show s.length - (i + 1) < s.length - i; omega⟩
  simp only [wn, wq, simprocAttr]
  rw [wrap64 (x := (i : Int) + 1) (by omega) (by omega), sumW_succ hlt]
  rfl
 ·have hge : s.length ≤ i := by simpa using hc
  obtain rfl : i = s.length := by omega
  refine VW.exit ?_
  show vthen _ _ _ .normal _
  refine vthen_n ?_
  repeat refine VW.seq ?_
  refine VW.regl hT fun K hK => ?_
  simp only [wq, simprocAttr]
  refine hK _ ?_
  clear hK K
  try refine vthen_n ?_
  refine VW.ret ⟨.inl rfl, _, rfl, ?_⟩
  rw [List.take_length]
set_option maxRecDepth 20000 in
theorem specTotal_vc (s : List Int) (hl : s.length ≤ 2000000) : VC Tryz.prog 43 [.v false sI s] (· = .v false (.int .i64) (sumW s)) := by
 refine VC.of_body hT Tryz.func43 rfl (by kernel_rfl) [(.tmp 2, false, .int .i64)] (by kernel_rfl) ?_
 show VW _ _ ([.v false sI s, D, D, D, D, D, D, D, D, D, D, D, D, D, D, D, D, D]) _
 repeat refine VW.seq ?_
 refine VW.regl hT fun K hK => ?_
 simp only [wq, simprocAttr]
 refine hK _ ?_
 clear hK K
 try refine vthen_n ?_
 repeat refine VW.seq ?_
 refine VW.regl hT fun K hK => ?_
 simp only [wq, simprocAttr]
 refine hK _ ?_
 clear hK K
 try refine vthen_n ?_
 repeat refine VW.seq ?_
 refine VW.regl hT fun K hK => ?_
 simp only [wq, simprocAttr]
 refine hK _ ?_
 clear hK K
 try refine vthen_n ?_
 repeat refine VW.seq ?_
 refine VW.block ?_
 refine VW.loop (α := Nat) [(0, none), (3, none), (4, none)] (fun i => [.v false sI s, D, D, .v false (.int .i64) (sumW (s.take i)), .v false (.int .i64) (i), D, D, D, D, D, D, D, D, D, D, D, D, D]) (fun i => i ≤ s.length) (fun i => s.length - i) ⟨0, by omega, ?_⟩ fun i hi => ?_
 ·simp only [wn, wq, simprocAttr]
  try rfl
 repeat refine VW.seq ?_
 refine VW.regl hT fun K hK => ?_
 simp only [wq, simprocAttr]
 refine hK _ ?_
 clear hK K
 try refine vthen_n ?_
 repeat refine VW.seq ?_
 refine VW.cond rfl (fun hc => ?_) (fun hc => ?_)
 ·have hlt : i < s.length := by simpa using hc
  refine VW.skip (vthen_n ?_)
  repeat refine VW.seq ?_
  refine VW.block ?_
  repeat refine VW.seq ?_
  refine VW.regl hT fun K hK => ?_
  simp only [wq, simprocAttr]
  refine ⟨by simp; omega, ?_⟩
  refine hK _ ?_
  clear hK K
  try refine vthen_n ?_
  show vthen _ _ _ .normal _
  refine vthen_n ?_
  repeat refine VW.seq ?_
  refine VW.regl hT fun K hK => ?_
  simp only [wq, simprocAttr]
  refine hK _ ?_
  clear hK K
  try refine vthen_n ?_
  refine ⟨i + 1, hlt, ?_, by show s.length - (i + 1) < s.length - i; omega⟩
  simp only [wn, wq, simprocAttr]
  rw [wrap64 (x := (i : Int) + 1) (by omega) (by omega), sumW_succ hlt]
  rfl
 ·have hge : s.length ≤ i := by simpa using hc
  obtain rfl : i = s.length := by omega
  refine VW.exit ?_
  show vthen _ _ _ .normal _
  refine vthen_n ?_
  repeat refine VW.seq ?_
  refine VW.regl hT fun K hK => ?_
  simp only [wq, simprocAttr]
  refine hK _ ?_
  clear hK K
  try refine vthen_n ?_
  refine VW.ret ⟨.inl rfl, _, rfl, ?_⟩
  rw [List.take_length]
set_option maxRecDepth 20000 in
theorem specCount_vc (t : List Nd) (hl : t.length ≤ 2000000) : VC Tryz.prog 42 [.v false sNS t] (· = .v false (.int .i64) (bridges t t.length)) := by
 refine VC.of_body hT Tryz.func42 rfl (by kernel_rfl) [(.tmp 2, false, .int .i64)] (by kernel_rfl) ?_
 show VW _ _ ([.v false sNS t, D, D, D, D, D, D, D, D, D, D, D, D, D, D, D, D, D, D, D]) _
 repeat refine VW.seq ?_
 refine VW.regl hT fun K hK => ?_
 simp only [wq, simprocAttr]
 refine hK _ ?_
 clear hK K
 try refine vthen_n ?_
 repeat refine VW.seq ?_
 refine VW.regl hT fun K hK => ?_
 simp only [wq, simprocAttr]
 refine hK _ ?_
 clear hK K
 try refine vthen_n ?_
 repeat refine VW.seq ?_
 refine VW.regl hT fun K hK => ?_
 simp only [wq, simprocAttr]
 refine hK _ ?_
 clear hK K
 try refine vthen_n ?_
 repeat refine VW.seq ?_
 refine VW.block ?_
 refine VW.loop (α := Nat) [(0, none), (3, none), (4, none)] (fun i => [.v false sNS t, D, D, .v false (.int .i64) (bridges t i), .v false (.int .i64) (i), D, D, D, D, D, D, D, D, D, D, D, D, D, D, D]) (fun i => i ≤ t.length) (fun i => t.length - i) ⟨0, by omega, ?_⟩ fun i hi => ?_
 ·simp only [wn, wq, simprocAttr]
  try rfl
 repeat refine VW.seq ?_
 refine VW.regl hT fun K hK => ?_
 simp only [wq, simprocAttr]
 refine hK _ ?_
 clear hK K
 try refine vthen_n ?_
 repeat refine VW.seq ?_
 refine VW.cond rfl (fun hc => ?_) (fun hc => ?_)
 ·have hlt : i < t.length := by simpa using hc
  have hb := bridges_le t i
  refine VW.skip (vthen_n ?_)
  repeat refine VW.seq ?_
  refine VW.block ?_
  repeat refine VW.seq ?_
  refine VW.regl hT fun K hK => ?_
  simp only [wq, simprocAttr]
  refine ⟨by simp; omega, ?_⟩
  refine hK _ ?_
  clear hK K
  try refine vthen_n ?_
  repeat refine VW.seq ?_
  refine VW.cond rfl (fun hc => ?_) (fun hc => ?_)
  ·repeat refine VW.seq ?_
   refine VW.regl hT fun K hK => ?_
   simp only [wq, simprocAttr]
   refine hK _ ?_
   clear hK K
   try refine vthen_n ?_
   show vthen _ _ _ .normal _
   refine vthen_n ?_
   repeat refine VW.seq ?_
   refine VW.regl hT fun K hK => ?_
   simp only [wq, simprocAttr]
   refine hK _ ?_
   clear hK K
   try refine vthen_n ?_
   refine ⟨i + 1, hlt, ?_, by show t.length - (i + 1) < t.length - i; omega⟩
   simp only [wn, wq, simprocAttr]
   rw [wrap64 (by omega) (by omega), wrap64 (by omega) (by omega), bridges_succ hlt, if_pos hc]
   rfl
  ·refine VW.skip ?_
   show vthen _ _ _ .normal _
   refine vthen_n ?_
   repeat refine VW.seq ?_
   refine VW.regl hT fun K hK => ?_
   simp only [wq, simprocAttr]
   refine hK _ ?_
   clear hK K
   try refine vthen_n ?_
   refine ⟨i + 1, hlt, ?_, by show t.length - (i + 1) < t.length - i; omega⟩
   simp only [wn, wq, simprocAttr]
   rw [wrap64 (by omega) (by omega), bridges_succ hlt, if_neg (by rw [show ((t.getD i z).2.2 == 0) = false from hc]; exact Bool.false_ne_true), Int.add_zero]
   rfl
 ·have hge : t.length ≤ i := by simpa using hc
  obtain rfl : i = t.length := by omega
  refine VW.exit ?_
  show vthen _ _ _ .normal _
  refine vthen_n ?_
  repeat refine VW.seq ?_
  refine VW.regl hT fun K hK => ?_
  simp only [wq, simprocAttr]
  refine hK _ ?_
  clear hK K
  try refine vthen_n ?_
  exact VW.ret ⟨.inl rfl, _, rfl, rfl⟩
def cuts (t : List Nd) (g : List Bool) (i : Nat) : List Int := ((List.range i).filter fun (k : Nat) => !canReach t g 0 (k : Int)).map fun (k : Nat) => (k : Int)
theorem cuts_succ (t : List Nd) (g : List Bool) (i : Nat) : cuts t g (i + 1) = cuts t g i ++ if canReach t g 0 (i : Int) = true then [] else [(i : Int)] := by
 rw [cuts, List.range_succ, List.filter_append, List.map_append]
 congr 1
 simp only [List.filter_cons, List.filter_nil]
 cases canReach t g 0 (i : Int) <;> rfl
theorem cuts_le (t : List Nd) (g : List Bool) (i : Nat) : (cuts t g i).length ≤ i := by
 rw [cuts, List.length_map]
 have := List.length_filter_le (fun (k : Nat) => !canReach t g 0 (k : Int)) (List.range i)
 rw [List.length_range] at this
 exact this
def cutOff (t : List Nd) (g : List Bool) : List Int := if guardOk t g = true then cuts t g t.length else []
theorem cutOff_le (t : List Nd) (g : List Bool) : (cutOff t g).length ≤ t.length := by
 rw [cutOff]
 split
 ·exact cuts_le t g _
 ·exact Nat.zero_le _
set_option maxRecDepth 20000 in
set_option maxHeartbeats 1000000 in
theorem cutOff_vc (t : List Nd) (g : List Bool) (hl : t.length ≤ 2000000) : VC Tryz.prog 12 [.v false sNS t, .v true sG g] (· = .root (.val false) sI .own (cutOff t g)) := by
 refine VC.of_body hT Tryz.func12 rfl (by kernel_rfl) [(.tmp 4, false, sI)] (by kernel_rfl) ?_
 show VW _ _ ([.v false sNS t, .v true sG g, D, D, D, D, D, D, D, D, D, D, D, D, D, D, D, D, D, D, D, D, D, D, D, D, D, D, D]) _
 repeat refine VW.seq ?_
 refine VW.regl hT fun K hK => ?_
 simp only [wq, simprocAttr]
 refine hK _ ?_
 clear hK K
 try refine vthen_n ?_
 repeat refine VW.seq ?_
 refine VW.regl hT fun K hK => ?_
 simp only [wq, simprocAttr]
 refine hK _ ?_
 clear hK K
 try refine vthen_n ?_
 repeat refine VW.seq ?_
 refine VW.regl hT fun K hK => ?_
 simp only [wq, simprocAttr]
 refine vcall_of (guardOk_vc t g hl) ?_
 simp only [wq, simprocAttr]
 refine hK _ ?_
 clear hK K
 try refine vthen_n ?_
 repeat refine VW.seq ?_
 refine VW.cond rfl (fun hc => ?_) (fun hc => ?_)
 ·repeat refine VW.seq ?_
  refine VW.regl hT fun K hK => ?_
  simp only [wq, simprocAttr]
  refine hK _ ?_
  clear hK K
  try refine vthen_n ?_
  refine VW.ret ⟨.inl rfl, _, rfl, ?_⟩
  have hc : guardOk t g = false := (Bool.not_eq_true' _).mp hc
  rw [cutOff, if_neg (by rw [hc]; decide)]
  rfl
 have hg : guardOk t g = true := (Bool.not_eq_false' _).mp hc
 refine VW.skip (vthen_n ?_)
 repeat refine VW.seq ?_
 refine VW.regl hT fun K hK => ?_
 simp only [wq, simprocAttr]
 refine hK _ ?_
 clear hK K
 try refine vthen_n ?_
 repeat refine VW.seq ?_
 refine VW.block ?_
 refine VW.loop (α := Nat) [(0, none), (3, none), (5, some (3, .int .i64)), (14, none), (15, none)] (fun i => [.v false sNS t, D, D, .root (.box 30) sG .fz g, D, .root (.val false) sI .own (cuts t g i), D, D, D, D, D, D, D, D, .v false (.int .i64) (t.length), .v false (.int .i64) (i), D, D, D, D, D, D, D, D, D, D, D, D, D]) (fun i => i ≤ t.length) (fun i => t.length - i) ⟨0, by omega, ?_⟩ fun i hi => ?_
 ·simp only [wn, wq, simprocAttr]
  try rfl
 repeat refine VW.seq ?_
 refine VW.regl hT fun K hK => ?_
 simp only [wq, simprocAttr]
 refine hK _ ?_
 clear hK K
 try refine vthen_n ?_
 repeat refine VW.seq ?_
 refine VW.cond rfl (fun hc => ?_) (fun hc => ?_)
 ·have hlt : i < t.length := by simpa using hc
  have hcl := cuts_le t g i
  refine VW.skip (vthen_n ?_)
  repeat refine VW.seq ?_
  refine VW.block ?_
  repeat refine VW.seq ?_
  refine VW.regl hT fun K hK => ?_
  simp only [wq, simprocAttr]
  refine hK _ ?_
  clear hK K
  try refine vthen_n ?_
  repeat refine VW.seq ?_
  refine VW.regl hT fun K hK => ?_
  simp only [wq, simprocAttr]
  refine vcall_of (canReach_vc t g 0 i hl) ?_
  simp only [wq, simprocAttr]
  refine hK _ ?_
  clear hK K
  try refine vthen_n ?_
  repeat refine VW.seq ?_
  refine VW.cond rfl (fun hc => ?_) (fun hc => ?_)
  ·have hc : canReach t g 0 (i : Int) = false := (Bool.not_eq_true' _).mp hc
   repeat refine VW.seq ?_
   refine VW.regl hT fun K hK => ?_
   simp only [wq, simprocAttr]
   refine ⟨by simp [limOk]; omega, ?_⟩
   refine hK _ ?_
   clear hK K
   try refine vthen_n ?_
   show vthen _ _ _ .normal _
   refine vthen_n ?_
   repeat refine VW.seq ?_
   refine VW.regl hT fun K hK => ?_
   simp only [wq, simprocAttr]
   refine hK _ ?_
   clear hK K
   try refine vthen_n ?_
   refine ⟨i + 1, hlt, ?_, by show t.length - (i + 1) < t.length - i; omega⟩
   simp only [wn, wq, simprocAttr]
   rw [wrap64 (by omega) (by omega), cuts_succ, if_neg (by rw [hc]; decide)]
   rfl
  ·have hc : canReach t g 0 (i : Int) = true := (Bool.not_eq_false' _).mp hc
   refine VW.skip ?_
   show vthen _ _ _ .normal _
   refine vthen_n ?_
   repeat refine VW.seq ?_
   refine VW.regl hT fun K hK => ?_
   simp only [wq, simprocAttr]
   refine hK _ ?_
   clear hK K
   try refine vthen_n ?_
   refine ⟨i + 1, hlt, ?_, by show t.length - (i + 1) < t.length - i; omega⟩
   simp only [wn, wq, simprocAttr]
   rw [wrap64 (by omega) (by omega), cuts_succ, if_pos hc, List.append_nil]
   rfl
 ·have hge : t.length ≤ i := by simpa using hc
  obtain rfl : i = t.length := by omega
  refine VW.exit ?_
  show vthen _ _ _ .normal _
  refine vthen_n ?_
  repeat refine VW.seq ?_
  refine VW.regl hT fun K hK => ?_
  simp only [wq, simprocAttr]
  refine hK _ ?_
  clear hK K
  try refine vthen_n ?_
  refine VW.ret ⟨.inl rfl, _, rfl, ?_⟩
  rw [cutOff, if_pos hg]
set_option maxRecDepth 20000 in
set_option maxHeartbeats 1000000 in
theorem specCutOff_vc (t : List Nd) (g : List Bool) (hl : t.length ≤ 2000000) : VC Tryz.prog 44 [.v false sNS t, .v true sG g] (· = .root (.val false) sI .own (cutOff t g)) := by
 refine VC.of_body hT Tryz.func44 rfl (by kernel_rfl) [(.tmp 4, false, sI)] (by kernel_rfl) ?_
 show VW _ _ ([.v false sNS t, .v true sG g, D, D, D, D, D, D, D, D, D, D, D, D, D, D, D, D, D, D, D, D, D, D, D, D, D, D, D]) _
 repeat refine VW.seq ?_
 refine VW.regl hT fun K hK => ?_
 simp only [wq, simprocAttr]
 refine hK _ ?_
 clear hK K
 try refine vthen_n ?_
 repeat refine VW.seq ?_
 refine VW.regl hT fun K hK => ?_
 simp only [wq, simprocAttr]
 refine hK _ ?_
 clear hK K
 try refine vthen_n ?_
 repeat refine VW.seq ?_
 refine VW.regl hT fun K hK => ?_
 simp only [wq, simprocAttr]
 refine hK _ ?_
 clear hK K
 try refine vthen_n ?_
 repeat refine VW.seq ?_
 refine VW.block ?_
 refine VW.loop (α := Nat) [(0, none), (3, none), (5, some (3, .int .i64)), (6, none)] (fun i => [.v false sNS t, D, D, .root (.box 30) sG .fz g, D, .root (.val false) sI .own (cuts t g i), .v false (.int .i64) (i), D, D, D, D, D, D, D, D, D, D, D, D, D, D, D, D, D, D, D, D, D, D]) (fun i => i ≤ t.length ∧ (i = 0 ∨ guardOk t g = true)) (fun i => t.length - i) ⟨0, ⟨by omega, .inl rfl⟩, ?_⟩ fun i ⟨hi, hz⟩ => ?_
 ·simp only [wn, wq, simprocAttr]
  try rfl
 repeat refine VW.seq ?_
 refine VW.regl hT fun K hK => ?_
 simp only [wq, simprocAttr]
 refine vbr (fun h => ?_) (fun h => ?_) <;> simp only [wq, simprocAttr]
 case refine_2 =>
  refine hK _ ?_
  clear hK K
  try refine vthen_n ?_
  have hge : t.length ≤ i := by simpa using h
  obtain rfl : i = t.length := by omega
  repeat refine VW.seq ?_
  refine VW.cond rfl (fun hc => by cases hc) (fun hc => ?_)
  refine VW.exit ?_
  show vthen _ _ _ .normal _
  refine vthen_n ?_
  repeat refine VW.seq ?_
  refine VW.regl hT fun K hK => ?_
  simp only [wq, simprocAttr]
  refine hK _ ?_
  clear hK K
  try refine vthen_n ?_
  refine VW.ret ⟨.inl rfl, _, rfl, ?_⟩
  rw [cutOff]
  split
  ·rfl
  ·rename_i hn
   rcases hz with hz | hz
   ·rw [hz]; rfl
   ·exact absurd hz hn
 have hlt : i < t.length := by simpa using h
 refine vcall_of (specGuard_vc t g hl) ?_
 simp only [wq, simprocAttr]
 refine hK _ ?_
 clear hK K
 try refine vthen_n ?_
 repeat refine VW.seq ?_
 refine VW.cond rfl (fun hc => ?_) (fun hc => ?_)
 ·have hcl := cuts_le t g i
  refine VW.skip (vthen_n ?_)
  repeat refine VW.seq ?_
  refine VW.block ?_
  repeat refine VW.seq ?_
  refine VW.regl hT fun K hK => ?_
  simp only [wq, simprocAttr]
  refine vcall_of (specCanReach_vc t g 0 i hl) ?_
  simp only [wq, simprocAttr]
  refine hK _ ?_
  clear hK K
  try refine vthen_n ?_
  have hg : guardOk t g = true := hc
  repeat refine VW.seq ?_
  refine VW.cond rfl (fun hc => ?_) (fun hc => ?_)
  ·have hc : canReach t g 0 (i : Int) = false := (Bool.not_eq_true' _).mp hc
   repeat refine VW.seq ?_
   refine VW.regl hT fun K hK => ?_
   simp only [wq, simprocAttr]
   refine ⟨by simp [limOk]; omega, ?_⟩
   refine hK _ ?_
   clear hK K
   try refine vthen_n ?_
   show vthen _ _ _ .normal _
   refine vthen_n ?_
   repeat refine VW.seq ?_
   refine VW.regl hT fun K hK => ?_
   simp only [wq, simprocAttr]
   refine hK _ ?_
   clear hK K
   try refine vthen_n ?_
   refine ⟨i + 1, ⟨hlt, .inr hg⟩, ?_, by show t.length - (i + 1) < t.length - i; omega⟩
   simp only [wn, wq, simprocAttr]
   rw [wrap64 (by omega) (by omega), cuts_succ, if_neg (by rw [hc]; decide)]
   rfl
  ·have hc : canReach t g 0 (i : Int) = true := (Bool.not_eq_false' _).mp hc
   refine VW.skip ?_
   show vthen _ _ _ .normal _
   refine vthen_n ?_
   repeat refine VW.seq ?_
   refine VW.regl hT fun K hK => ?_
   simp only [wq, simprocAttr]
   refine hK _ ?_
   clear hK K
   try refine vthen_n ?_
   refine ⟨i + 1, ⟨hlt, .inr hg⟩, ?_, by show t.length - (i + 1) < t.length - i; omega⟩
   simp only [wn, wq, simprocAttr]
   rw [wrap64 (by omega) (by omega), cuts_succ, if_pos hc, List.append_nil]
   rfl
 ·have hg : guardOk t g = false := hc
  refine VW.exit ?_
  show vthen _ _ _ .normal _
  refine vthen_n ?_
  repeat refine VW.seq ?_
  refine VW.regl hT fun K hK => ?_
  simp only [wq, simprocAttr]
  refine hK _ ?_
  clear hK K
  try refine vthen_n ?_
  refine VW.ret ⟨.inl rfl, _, rfl, ?_⟩
  rw [cutOff, if_neg (by rw [hg]; decide)]
  rcases hz with hz | hz
  ·subst hz; rfl
  ·rw [hg] at hz; cases hz
end Go.Proofs.YtoeblmcibheldaaGreatDoor.V.W
end
section
namespace Go.Proofs.YtoeblmcibheldaaGreatDoor.V
open Go Go.RowKit
section
variable {P : Program} {T : List (Nat × TI)} {st : St} {o : Oper}
def bstr (ys : List Int) : ByteArray := ⟨(ys.map fun n => UInt8.ofNat n.toNat).toArray⟩
theorem src_bytes {w : World} {Z : Nat → Prop} {f : Fl} {ys : List Int} {v : Value} {Bs : Nat → Nat → Prop} (h : Src w Z (.int .u8) f ys v Bs) : ∃ X c, v = .slice X ys.length c ∧ ∀ w', w'.heap = w.heap → (Builtin.firstCells 1 ys.length v).run P w' = .ok (ys.map (Value.int .u8)).toArray w' := by
 obtain ⟨X, c, news, rfl, n1, n2, n3, n4⟩ := h.news (P := P) (by decide)
 refine ⟨X, c, rfl, fun w' hw => ?_⟩
 have e : news = ys.map (Value.int .u8) := by
  have n1 : news.length = ys.length := by simpa [Sh.size] using n1
  refine List.ext_getElem (by simpa using n1) fun i h1 h2 => ?_
  have hi : i < ys.length := by omega
  obtain ⟨c', q1, q2, q3⟩ := n4 i hi
  simp only [Rep] at q3
  have := q2 0 (by decide)
  simp only [Sh.size, Nat.mul_one, Nat.add_zero] at this
  rw [q3, List.getElem?_eq_getElem h1] at this
  have := Option.some.inj this
  rw [this, List.getElem_map]
  congr 1
  rw [List.getD_eq_getElem?_getD, List.getElem?_eq_getElem hi]
  rfl
 rw [← e]
 exact n3 w' hw
/-- a row of bytes as a text -/
theorem does_tostr {src dst e e' : TypeId} {x : Operand} {ys : List Int} (ho : o.op = .convert src dst x) (hs : P.underlying src = some (.slice e)) (he : P.underlying e = some (.int .u8)) (hd0 : P.underlying dst = some .string)
  (hr0 : rowOf st e' (.int .u8) (ref st x) = some ys) (hd : nonroot st o.dst = true) : Does P o st (· = setD st o.dst (.v false .str (bstr ys))) := by
 refine Does.pure hd rfl fun L a w hr => ?_
 have hsrc := src_of hr (fun _ _ _ _ _ h => h) (hr.opnd x) hr0 (.inl rfl)
 obtain ⟨X, c, hv, hf⟩ := src_bytes (P := P) hsrc
 refine ⟨.string (bstr ys), ?_, .mkStr _⟩
 have h1 : (convert src dst (a.eval x)).run P w = .ok (.string (bstr ys)) w := by
  rw [hv, run_convert_bytes_string w src dst e X _ c hs he hd0]
  have hf := hf w rfl
  rw [hv] at hf
  cases X with
  | none =>
   have : ys = [] := by
    cases ys with
    | nil => rfl
    | cons y ys => simp [Builtin.firstCells] at hf
   subst this
   rfl
  | some A =>
   rw [run_bytesToString w A ys.length c ys (by simpa [Builtin.firstCells] using hf), foldl_push_bytes]
   rw [show ByteArray.empty.data = #[] from rfl, Array.empty_append]
   rfl
 simp [execOp, ho, h1]
end
end Go.Proofs.YtoeblmcibheldaaGreatDoor.V
end
section
namespace Go.Proofs.YtoeblmcibheldaaGreatDoor.V
open Go
def bs (l : List UInt8) : ByteArray := ⟨l.toArray⟩
theorem bs_app (a b : List UInt8) : bs a ++ bs b = bs (a ++ b) := by
 apply ByteArray.ext
 show (bs a ++ bs b).data = _
 rw [ByteArray.data_append]
 simp [bs]
theorem bs_size (a : List UInt8) : (bs a).size = a.length := by simp [bs, ByteArray.size]
/-- the digits of a number, none of nought -/
def dd (u : Nat) : List UInt8 := if u = 0 then [] else Lib.decDigits u
theorem dd_step {u : Nat} (h : u ≠ 0) : dd u = dd (u / 10) ++ [UInt8.ofNat (48 + u % 10)] := by
 rw [dd, if_neg h, Lib.decDigits]
 split
 ·rename_i h1
  rw [show u / 10 = 0 by omega, dd, if_pos rfl, show u % 10 = u by omega]
  rfl
 ·rw [dd, if_neg (by omega)]
theorem itoa_dd {n : Int} (h : n ≠ 0) : Lib.itoa n = (if n < 0 then [45] else []) ++ dd n.natAbs := by
 have hd : dd n.natAbs = Lib.decDigits n.natAbs := if_neg (by omega)
 rw [hd]
 by_cases hn : n < 0
 ·rw [Lib.itoa, if_pos hn, if_pos hn]
  rfl
 ·rw [Lib.itoa, if_neg hn, if_neg hn, show n.natAbs = n.toNat by omega]
  rfl
theorem itoa_zero : Lib.itoa 0 = [48] := by
 rw [Lib.itoa, if_neg (by decide), Lib.decDigits_one (by decide)]
 rfl
theorem itoa_len {n : Int} (h0 : -9223372036854775808 ≤ n) (h1 : n ≤ 9223372036854775807) : (bs (Lib.itoa n)).size ≤ 21 := by
 rw [bs_size]
 exact Lib.itoa_length_le n h0 h1
end Go.Proofs.YtoeblmcibheldaaGreatDoor.V
end
section
namespace Go.Proofs
open Go.Shelf
def Tryz.laysM171_ren : Go.Shelf.Ren := ⟨fun | 171 => 32 | 243 => 80 | 246 => 128 | 283 => 162 | 284 => 163 | 285 => 164 | 286 => 165 | 129 => 189 | 317 => 188 | 318 => 190 | 319 => 191 | 320 => 192 | 337 => 219 | 338 => 220 | n => n, fun | 3 => 3 | 9 => 9 | 2 => 2 | 4 => 4 | 171 => 186 | 0 => 0 | 53 => 187 | 37 => 22 | 5 => 5 | 173 => 190 | 212 => 212 | 51 => 200 | 20 => 20 | 213 => 213 | 46 => 179 | 232 => 263 | 233 => 264 | n => n, fun | 17 => 3 | 18 => 9 | 19 => 10 | n => n⟩
theorem Tryz.laysM171 : Go.Proofs.LaysM.n171 Tryz.prog Tryz.laysM171_ren := {
 mixed := by kernel_rfl
 f129 := Tryz.func189.trans (congrArg some (by kernel_rfl))
 f171 := Tryz.func32.trans (congrArg some (by kernel_rfl))
 f243 := Tryz.func80.trans (congrArg some (by kernel_rfl))
 f246 := Tryz.func128.trans (congrArg some (by kernel_rfl))
 f283 := Tryz.func162.trans (congrArg some (by kernel_rfl))
 f284 := Tryz.func163.trans (congrArg some (by kernel_rfl))
 f285 := Tryz.func164.trans (congrArg some (by kernel_rfl))
 f286 := Tryz.func165.trans (congrArg some (by kernel_rfl))
 f317 := Tryz.func188.trans (congrArg some (by kernel_rfl))
 f318 := Tryz.func190.trans (congrArg some (by kernel_rfl))
 f319 := Tryz.func191.trans (congrArg some (by kernel_rfl))
 f320 := Tryz.func192.trans (congrArg some (by kernel_rfl))
 f337 := Tryz.func219.trans (congrArg some (by kernel_rfl))
 f338 := Tryz.func220.trans (congrArg some (by kernel_rfl))
 t0 := Tryz.underlying0
 a0 := Tryz.isAgg0
 z0 := Tryz.sizeOf0
 v0 := Tryz.zeroValue0
 t2 := Tryz.underlying2
 a2 := Tryz.isAgg2
 z2 := Tryz.sizeOf2
 v2 := Tryz.zeroValue2
 t3 := Tryz.underlying3
 a3 := Tryz.isAgg3
 z3 := Tryz.sizeOf3
 v3 := Tryz.zeroValue3
 t4 := Tryz.underlying4
 a4 := Tryz.isAgg4
 z4 := Tryz.sizeOf4
 v4 := Tryz.zeroValue4
 t5 := Tryz.underlying5
 a5 := Tryz.isAgg5
 z5 := Tryz.sizeOf5
 v5 := Tryz.zeroValue5
 t9 := Tryz.underlying9
 a9 := Tryz.isAgg9
 z9 := Tryz.sizeOf9
 v9 := Tryz.zeroValue9
 t20 := Tryz.underlying20
 a20 := Tryz.isAgg20
 z20 := Tryz.sizeOf20
 v20 := Tryz.zeroValue20
 t37 := Tryz.underlying22
 a37 := Tryz.isAgg22
 z37 := Tryz.sizeOf22
 v37 := Tryz.zeroValue22
 t46 := Tryz.underlying179
 a46 := Tryz.isAgg179
 z46 := Tryz.sizeOf179
 v46 := Tryz.zeroValue179
 t51 := Tryz.underlying200
 a51 := Tryz.isAgg200
 z51 := Tryz.sizeOf200
 v51 := Tryz.zeroValue200
 t53 := Tryz.underlying187
 a53 := Tryz.isAgg187
 z53 := Tryz.sizeOf187
 v53 := Tryz.zeroValue187
 t171 := Tryz.underlying186
 a171 := Tryz.isAgg186
 z171 := Tryz.sizeOf186
 v171 := Tryz.zeroValue186
 t173 := Tryz.underlying190
 a173 := Tryz.isAgg190
 z173 := Tryz.sizeOf190
 v173 := Tryz.zeroValue190
 t212 := Tryz.underlying212
 a212 := Tryz.isAgg212
 z212 := Tryz.sizeOf212
 v212 := Tryz.zeroValue212
 t213 := Tryz.underlying213
 a213 := Tryz.isAgg213
 z213 := Tryz.sizeOf213
 t232 := Tryz.underlying263
 a232 := Tryz.isAgg263
 z232 := Tryz.sizeOf263
 v232 := Tryz.zeroValue263
 t233 := Tryz.underlying264
 a233 := Tryz.isAgg264
 z233 := Tryz.sizeOf264
 v233 := Tryz.zeroValue264
 g17 := by kernel_rfl
 g18 := by kernel_rfl
 g19 := by kernel_rfl
 i0 := by kernel_rfl
 i2 := by kernel_rfl
 i3 := by kernel_rfl
 i4 := by kernel_rfl
 i5 := by kernel_rfl
 i9 := by kernel_rfl
 i20 := by kernel_rfl
 i37 := by kernel_rfl
 i46 := by kernel_rfl
 i51 := by kernel_rfl
 i53 := by kernel_rfl
 i171 := by kernel_rfl
 i173 := by kernel_rfl
 i212 := by kernel_rfl
 i232 := by kernel_rfl
 i233 := by kernel_rfl
 m17 := by kernel_rfl
 m18 := by kernel_rfl
 m19 := by kernel_rfl }
open Go.RowKit Go.Sort Go.Lib in
/-- strconv.Itoa: "Itoa is equivalent to FormatInt(int64(i), 10).": i's DECIMAL NUMERAL ('Lib.itoa': a '-' where i is negative, then the digits), FOR EVERY int. The world behind the call: the world before it, new blocks behind the heap (the library's 'var a [24]byte'), draws. (LAID: no walk: one application.) -/
theorem Tryz.strconv_Itoa (n : Int) (h0 : -9223372036854775808 ≤ n) (h1 : n ≤ 9223372036854775807) (w : World) (htab : Lib.TabIs Tryz.prog w "internal/strconv.uint64pow10" .u64 Lib.pow10Tab) :
  Calls Tryz.prog 32 #[.int .i64 n] w fun e w' => e = .returned (.string ⟨(Lib.itoa n).toArray⟩) ∧ ∃ k os, w' = grow (w.drewN k) os := Any.strconv_Itoa Tryz.laysM171 n h0 h1 w htab
end Go.Proofs
end
section
namespace Go.Proofs.YtoeblmcibheldaaGreatDoor.V.W
open Go Go.RowKit Go.Proofs.YtoeblmcibheldaaGreatDoor.V
theorem gl_pow : (3, fun cs => cs = (Lib.pow10Tab.map fun z => Value.int .u64 z).toArray) ∈ gls := by first | exact .head _ | exact .tail _ (.head _)
theorem itoa_vc (n : Int) (h0 : -9223372036854775808 ≤ n) (h1 : n ≤ 9223372036854775807) : VC Tryz.prog 32 [.v false (.int .i64) n] (· = .v false .str (bs (Lib.itoa n))) := by
 refine ⟨⟨_, Tryz.func32, by kernel_rfl, by kernel_rfl⟩, fun Z w vals hz hl ha => ?_⟩
 obtain ⟨v, rfl⟩ : ∃ v, vals = [v] := by
  match vals, hl with
  | [v], _ => exact ⟨v, rfl⟩
 obtain ⟨cs, m1, m2⟩ := (ha 0 _ _ rfl rfl : ARep w Z (.v false (.int .i64) n) v)
 simp only [Rep] at m2
 subst m2
 obtain rfl : v = .int .i64 n := by simpa [mkV] using m1.symm
 obtain ⟨z, cs, x, y, e1, e2⟩ := hz.gl _ gl_pow
 have htab : Lib.TabIs Tryz.prog w "internal/strconv.uint64pow10" .u64 Lib.pow10Tab := by
  have hn : Tryz.prog.globalNamed "internal/strconv.uint64pow10" = some 3 := by kernel_rfl
  simp only [Lib.TabIs, World.var?, hn, Option.bind_some]
  rw [e1]
  exact congrArg some e2
 refine (Tryz.strconv_Itoa n h0 h1 w htab).mono fun e w' ⟨he, k, os, hw⟩ => ⟨_, _, he, ?_, rfl, ⟨_, rfl, by simp only [Rep]; rfl⟩⟩
 subst hw
 have hb := Lib.below_grow w.heap.size w (Nat.le_refl _) k os
 exact ⟨hb.os, hb.tape, hb.output, hb.size, fun b hb' => hb.block b hb'⟩
set_option maxRecDepth 20000 in
theorem formatInt_vc (n : Int) (h0 : -9223372036854775808 ≤ n) (h1 : n ≤ 9223372036854775807) : VC Tryz.prog 10 [.v false (.int .i64) n] (· = .v false .str (bs (Lib.itoa n))) := by
 refine VC.of_body hT Tryz.func10 rfl (by kernel_rfl) [(.tmp 2, false, .str)] (by kernel_rfl) ?_
 show VW _ _ ([.v false (.int .i64) n, D, D, D, D]) _
 repeat refine VW.seq ?_
 refine VW.regl hT fun K hK => ?_
 simp only [wq, simprocAttr]
 refine hK _ ?_
 clear hK K
 try refine vthen_n ?_
 repeat refine VW.seq ?_
 refine VW.regl hT fun K hK => ?_
 simp only [wq, simprocAttr]
 refine vcall_of (itoa_vc n h0 h1) ?_
 simp only [wq, simprocAttr]
 refine hK _ ?_
 clear hK K
 try refine vthen_n ?_
 exact VW.ret ⟨.inl rfl, _, rfl, rfl⟩
end Go.Proofs.YtoeblmcibheldaaGreatDoor.V.W
end
section
namespace Go.Proofs.YtoeblmcibheldaaGreatDoor.V.W
open Go Go.RowKit
theorem tm10_pos {m : Int} (h : 0 ≤ m) : m.tmod 10 = ((m.natAbs % 10 : Nat) : Int) := by
 cases m with
 | ofNat k => rfl
 | negSucc k => exact absurd h (by omega)
theorem tm10_neg {m : Int} (h : m < 0) : m.tmod 10 = -((m.natAbs % 10 : Nat) : Int) := by
 cases m with
 | ofNat k => exact absurd h (by have : (0 : Int) ≤ Int.ofNat k := Int.natCast_nonneg k; omega)
 | negSucc k => rfl
theorem td10 (m : Int) : m.tdiv 10 = (if m < 0 then -((m.natAbs / 10 : Nat) : Int) else ((m.natAbs / 10 : Nat) : Int)) := by
 cases m with
 | ofNat k =>
  rw [if_neg (by have : (0 : Int) ≤ Int.ofNat k := Int.natCast_nonneg k; omega)]
  rfl
 | negSucc k =>
  rw [if_pos (by omega)]
  rfl
theorem td10_abs (m : Int) : (m.tdiv 10).natAbs = m.natAbs / 10 := by
 rw [td10]
 split <;> omega
theorem bstr_one (k : Nat) : bstr [48 + (k : Int)] = bs [UInt8.ofNat (48 + k)] := by
 show bs [UInt8.ofNat (48 + (k : Int)).toNat] = _
 rw [show (48 + (k : Int)).toNat = 48 + k by omega]
set_option maxRecDepth 20000 in
theorem figure_vc (x : Nat) (h : x < 10) : VC Tryz.prog 86 [.v false (.int .i64) (x : Int)] (· = .v false (.int .u8) (48 + x : Int)) := by
 refine VC.of_body hT Tryz.func86 rfl (by kernel_rfl) [(.tmp 2, false, .int .u8)] (by kernel_rfl) ?_
 show VW _ _ ([.v false (.int .i64) (x : Int), D, D, D, D, D, D, D, D, D, D, D]) _
 repeat refine VW.seq ?_
 refine VW.regl hT fun K hK => ?_
 simp only [wq, simprocAttr]
 refine hK _ ?_
 clear hK K
 try refine vthen_n ?_
 repeat refine VW.seq ?_
 refine VW.regl hT fun K hK => ?_
 simp only [wq, simprocAttr]
 refine hK _ ?_
 clear hK K
 try refine vthen_n ?_
 repeat refine VW.seq ?_
 refine VW.cond rfl (fun hc => ?_) (fun hc => ?_)
 ·skip
  repeat refine VW.seq ?_
  refine VW.regl hT fun K hK => ?_
  simp only [wq, simprocAttr]
  refine hK _ ?_
  clear hK K
  try refine vthen_n ?_
  refine VW.ret ⟨.inl rfl, _, rfl, ?_⟩
  show PV.v false (.int .u8) (IntKind.u8.wrap (IntKind.i64.wrap (48 + (x : Int)))) = _
  rw [wrap64 (by omega) (by omega), IntKind.wrap_u8]
  have e : (48 + (x : Int)) % 256 = 48 + x := by omega
  rw [e]
 exact absurd (of_decide_eq_false hc) (by omega)
set_option maxRecDepth 20000 in
set_option maxHeartbeats 1000000 in
theorem specFormatInt_vc (n : Int) (h0 : -9223372036854775808 ≤ n) (h1 : n ≤ 9223372036854775807) : VC Tryz.prog 41 [.v false (.int .i64) n] (· = .v false .str (bs (Lib.itoa n))) := by
 refine VC.of_body hT Tryz.func41 rfl (by kernel_rfl) [(.tmp 2, false, .str)] (by kernel_rfl) ?_
 show VW _ _ ([.v false (.int .i64) n, D, D, D, D, D, D, D, D, D, D, D, D, D, D, D, D, D, D, D, D, D, D, D, D, D, D, D, D, D]) _
 repeat refine VW.seq ?_
 refine VW.regl hT fun K hK => ?_
 simp only [wq, simprocAttr]
 refine hK _ ?_
 clear hK K
 try refine vthen_n ?_
 repeat refine VW.seq ?_
 refine VW.regl hT fun K hK => ?_
 simp only [wq, simprocAttr]
 refine hK _ ?_
 clear hK K
 try refine vthen_n ?_
 repeat refine VW.seq ?_
 refine VW.cond rfl (fun hc => ?_) (fun hc => ?_)
 ·have hc : n = 0 := eq_of_beq hc
  subst hc
  repeat refine VW.seq ?_
  refine VW.regl hT fun K hK => ?_
  simp only [wq, simprocAttr]
  refine hK _ ?_
  clear hK K
  try refine vthen_n ?_
  refine VW.ret ⟨.inl rfl, _, rfl, ?_⟩
  rw [itoa_zero]
  rfl
 have hn : n ≠ 0 := fun e => by rw [e] at hc; cases hc
 have hll : (dd n.natAbs).length ≤ 21 := by
  have := itoa_len h0 h1
  rw [bs_size, itoa_dd hn, List.length_append] at this
  omega
 refine VW.skip (vthen_n ?_)
 repeat refine VW.seq ?_
 refine VW.regl hT fun K hK => ?_
 simp only [wq, simprocAttr]
 refine hK _ ?_
 clear hK K
 try refine vthen_n ?_
 repeat refine VW.seq ?_
 refine VW.regl hT fun K hK => ?_
 simp only [wq, simprocAttr]
 refine hK _ ?_
 clear hK K
 try refine vthen_n ?_
 repeat refine VW.seq ?_
 refine VW.block ?_
 refine VW.loop (α := Int × List UInt8) [(0, none), (3, none), (4, none)] (fun q => [.v false (.int .i64) q.1, D, D, .v false .bool (decide (n < 0)), .v false .str (bs q.2), D, D, D, D, D, D, D, D, D, D, D, D, D, D, D, D, D, D, D, D, D, D, D, D, D]) (fun q => (-9223372036854775808 ≤ q.1 ∧ q.1 ≤ 9223372036854775807) ∧ dd q.1.natAbs ++ q.2 = dd n.natAbs) (fun q => q.1.natAbs) ⟨(n, []), ⟨⟨h0, h1⟩, by simp⟩, ?_⟩ fun q ⟨hq, hd⟩ => ?_
 ·simp only [wn, wq, simprocAttr]
  try rfl
 obtain ⟨m, l⟩ := q
 have hq : -9223372036854775808 ≤ m ∧ m ≤ 9223372036854775807 := hq
 have hd : dd m.natAbs ++ l = dd n.natAbs := hd
 have hl : l.length ≤ 21 := by
  have := congrArg List.length hd
  rw [List.length_append] at this
  omega
 repeat refine VW.seq ?_
 refine VW.regl hT fun K hK => ?_
 simp only [wq, simprocAttr]
 refine hK _ ?_
 clear hK K
 try refine vthen_n ?_
 repeat refine VW.seq ?_
 refine VW.cond rfl (fun hc => ?_) (fun hc => ?_)
 ·have hm0 : m ≠ 0 := fun e => by rw [e] at hc; cases hc
  refine VW.skip (vthen_n ?_)
  repeat refine VW.seq ?_
  refine VW.block ?_
  repeat refine VW.seq ?_
  refine VW.regl hT fun K hK => ?_
  simp only [wq, simprocAttr]
  refine ⟨decide_eq_false id, ?_⟩
  refine hK _ ?_
  clear hK K
  try refine vthen_n ?_
  repeat refine VW.seq ?_
  refine VW.regl hT fun K hK => ?_
  simp only [wq, simprocAttr]
  refine hK _ ?_
  clear hK K
  try refine vthen_n ?_
  have hlt : m.natAbs % 10 < 10 := Nat.mod_lt _ (by decide)
  apply cutl
  ·intro tail
   repeat refine VW.seq ?_
   refine VW.cond rfl (fun hc => ?_) (fun hc => ?_)
   ·have h5 : m.tmod 10 < 0 := of_decide_eq_true hc
    have hneg : m < 0 := by
     rcases Int.lt_or_le m 0 with h | h
     ·exact h
     ·rw [tm10_pos h] at h5; omega
    repeat refine VW.seq ?_
    refine VW.regl hT fun K hK => ?_
    simp only [wq, simprocAttr]
    refine hK _ ?_
    clear hK K
    try refine vthen_n ?_
    refine VW.weak (weak_norm [(0, none), (3, none), (4, none), (5, none)] _) ?_
    simp only [wn, wq, simprocAttr]
    rw [tm10_neg hneg, wrap64 (by omega) (by omega), show (0 : Int) - -((m.natAbs % 10 : Nat) : Int) = ((m.natAbs % 10 : Nat) : Int) by omega]
    exact tail.h
   ·have h5 : ¬ m.tmod 10 < 0 := of_decide_eq_false hc
    have e : m.tmod 10 = ((m.natAbs % 10 : Nat) : Int) := by
     rcases Int.lt_or_le m 0 with h | h
     ·rw [tm10_neg h] at h5 ⊢; omega
     ·exact tm10_pos h
    refine VW.skip (vthen_n ?_)
    refine VW.weak (weak_norm [(0, none), (3, none), (4, none), (5, none)] _) ?_
    simp only [wn, wq, simprocAttr]
    rw [e]
    exact tail.h
  repeat refine VW.seq ?_
  refine VW.regl hT fun K hK => ?_
  simp only [wq, simprocAttr]
  refine vcall_of (figure_vc _ hlt) ?_
  simp only [wq, simprocAttr]
  refine vhook_of (does_tostr (e := 5) (e' := 5) (ys := [48 + ((m.natAbs % 10 : Nat) : Int)]) rfl (by kernel_rfl) (by kernel_rfl) (by kernel_rfl) rfl rfl) ?_
  simp only [wq, simprocAttr]
  rw [bstr_one, bs_app]
  refine ⟨decide_eq_true (by rw [bs_size, bs_size]; show (1 : Nat) + _ ≤ _; omega), ?_⟩
  refine hK _ ?_
  clear hK K
  try refine vthen_n ?_
  repeat refine VW.seq ?_
  refine VW.regl hT fun K hK => ?_
  simp only [wq, simprocAttr]
  refine ⟨decide_eq_false id, ?_⟩
  refine hK _ ?_
  clear hK K
  try refine vthen_n ?_
  have hb : -9223372036854775808 ≤ m.tdiv 10 ∧ m.tdiv 10 ≤ 9223372036854775807 := by
   have := td10_abs m
   omega
  refine ⟨(m.tdiv 10, UInt8.ofNat (48 + m.natAbs % 10) :: l), ⟨?_, ?_⟩, ?_, ?_⟩
  ·exact hb
  ·show dd (m.tdiv 10).natAbs ++ (UInt8.ofNat (48 + m.natAbs % 10) :: l) = dd n.natAbs
   rw [td10_abs, ← hd, dd_step (u := m.natAbs) (by omega), List.append_assoc]
   rfl
  ·simp only [wn, wq, simprocAttr]
   rw [wrap64 hb.1 hb.2]
  ·show (m.tdiv 10).natAbs < m.natAbs
   rw [td10_abs]
   omega
 ·have hm0 : m = 0 := by
   have := hc
   simpa using this
  subst hm0
  have hd : l = dd n.natAbs := hd
  subst hd
  refine VW.exit ?_
  show vthen _ _ _ .normal _
  refine vthen_n ?_
  repeat refine VW.seq ?_
  refine VW.regl hT fun K hK => ?_
  simp only [wq, simprocAttr]
  refine hK _ ?_
  clear hK K
  try refine vthen_n ?_
  repeat refine VW.seq ?_
  refine VW.cond rfl (fun hc => ?_) (fun hc => ?_)
  ·have hneg : n < 0 := of_decide_eq_true hc
   repeat refine VW.seq ?_
   refine VW.regl hT fun K hK => ?_
   simp only [wq, simprocAttr]
   refine ⟨decide_eq_true (by rw [bs_size]; show (1 : Nat) + _ ≤ _; omega), ?_⟩
   refine hK _ ?_
   clear hK K
   try refine vthen_n ?_
   refine VW.ret ⟨.inl rfl, _, rfl, ?_⟩
   rw [itoa_dd hn, if_pos hneg, ← bs_app]
   rfl
  have hneg : ¬ n < 0 := of_decide_eq_false hc
  refine VW.skip (vthen_n ?_)
  repeat refine VW.seq ?_
  refine VW.regl hT fun K hK => ?_
  simp only [wq, simprocAttr]
  refine hK _ ?_
  clear hK K
  try refine vthen_n ?_
  refine VW.ret ⟨.inl rfl, _, rfl, ?_⟩
  rw [itoa_dd hn, if_neg hneg]
  rfl
end Go.Proofs.YtoeblmcibheldaaGreatDoor.V.W
end
section
namespace Go.Proofs.YtoeblmcibheldaaGreatDoor.V.W
open Go Go.RowKit
set_option maxRecDepth 20000 in
theorem toBoolS_vc (xs : List (Bool)) (hl : xs.length * 1 ≤ 140737488351232) : VC Tryz.prog 90 [.v false (.sl 4 .bool) xs] (· = .root (.val false) (.sl 4 .bool) .own xs) := by
 refine VC.of_body hT Tryz.func90 rfl (by kernel_rfl) [(.tmp 2, false, .sl 4 .bool)] (by kernel_rfl) ?_
 show VW _ _ ([.v false (.sl 4 .bool) xs, D, D, D, D, D, D, D, D, D, D, D, D, D, D, D, D, D, D, D, D, D]) _
 repeat refine VW.seq ?_
 refine VW.regl hT fun K hK => ?_
 simp only [wq, Nat.reduceMul, reduceCtorEq, Nat.reduceBEq, Nat.reduceAdd, Nat.reduceLT, Nat.reduceLeDiff, Nat.reduceSub, Nat.reduceEqDiff]
 refine hK _ ?_
 clear hK K
 try refine vthen_n ?_
 repeat refine VW.seq ?_
 refine VW.regl hT fun K hK => ?_
 simp only [wq, Nat.reduceMul, reduceCtorEq, Nat.reduceBEq, Nat.reduceAdd, Nat.reduceLT, Nat.reduceLeDiff, Nat.reduceSub, Nat.reduceEqDiff]
 refine ⟨by simp [limOk]; omega, ?_⟩
 refine hK _ ?_
 clear hK K
 try refine vthen_n ?_
 repeat refine VW.seq ?_
 refine VW.regl hT fun K hK => ?_
 simp only [wq, Nat.reduceMul, reduceCtorEq, Nat.reduceBEq, Nat.reduceAdd, Nat.reduceLT, Nat.reduceLeDiff, Nat.reduceSub, Nat.reduceEqDiff]
 refine hK _ ?_
 clear hK K
 try refine vthen_n ?_
 repeat refine VW.seq ?_
 refine VW.block ?_
 refine VW.loop (α := Nat) [(0, none), (3, none), (4, none)] (fun i => [.v false (.sl 4 .bool) xs, D, D, .root (.val false) (.sl 4 .bool) .own (fillTo xs false i), .v false (.int .i64) (i : Int), D, D, D, D, D, D, D, D, D, D, D, D, D, D, D, D, D]) (fun i => i ≤ xs.length) (fun i => xs.length - i) ⟨0, by omega, ?_⟩ fun i hi => ?_
 ·simp only [wn, wq, Nat.reduceMul, reduceCtorEq, Nat.reduceBEq, Nat.reduceAdd, Nat.reduceLT, Nat.reduceLeDiff, Nat.reduceSub, Nat.reduceEqDiff]
  rw [fillTo_zero]; rfl
 repeat refine VW.seq ?_
 refine VW.regl hT fun K hK => ?_
 simp only [wq, Nat.reduceMul, reduceCtorEq, Nat.reduceBEq, Nat.reduceAdd, Nat.reduceLT, Nat.reduceLeDiff, Nat.reduceSub, Nat.reduceEqDiff]
 refine hK _ ?_
 clear hK K
 try refine vthen_n ?_
 repeat refine VW.seq ?_
 refine VW.cond rfl (fun hc => ?_) (fun hc => ?_)
 ·have hlt : i < xs.length := by simpa using hc
  refine VW.skip (vthen_n ?_)
  repeat refine VW.seq ?_
  refine VW.block ?_
  repeat refine VW.seq ?_
  refine VW.regl hT fun K hK => ?_
  simp only [wq, Nat.reduceMul, reduceCtorEq, Nat.reduceBEq, Nat.reduceAdd, Nat.reduceLT, Nat.reduceLeDiff, Nat.reduceSub, Nat.reduceEqDiff]
  refine ⟨by simp; omega, by simp [fillTo_len hi]; omega, ?_⟩
  refine hK _ ?_
  clear hK K
  try refine vthen_n ?_
  repeat refine VW.seq ?_
  refine VW.regl hT fun K hK => ?_
  simp only [wq, Nat.reduceMul, reduceCtorEq, Nat.reduceBEq, Nat.reduceAdd, Nat.reduceLT, Nat.reduceLeDiff, Nat.reduceSub, Nat.reduceEqDiff]
  refine hK _ ?_
  clear hK K
  try refine vthen_n ?_
  refine ⟨i + 1, hlt, ?_, by show xs.length - (i + 1) < xs.length - i; omega⟩
  simp only [wn, wq, Nat.reduceMul, reduceCtorEq, Nat.reduceBEq, Nat.reduceAdd, Nat.reduceLT, Nat.reduceLeDiff, Nat.reduceSub, Nat.reduceEqDiff]
  rw [fillTo_set hlt, wrap64 (by omega) (by omega)]
  try rfl
 ·have hc : xs.length ≤ i := by simpa using hc
  refine VW.exit ?_
  show vthen _ _ _ .normal _
  refine vthen_n ?_
  repeat refine VW.seq ?_
  refine VW.regl hT fun K hK => ?_
  simp only [wq, Nat.reduceMul, reduceCtorEq, Nat.reduceBEq, Nat.reduceAdd, Nat.reduceLT, Nat.reduceLeDiff, Nat.reduceSub, Nat.reduceEqDiff]
  refine hK _ ?_
  clear hK K
  try refine vthen_n ?_
  refine VW.ret ⟨.inl rfl, _, rfl, ?_⟩
  rw [fillTo_all xs _ hc]
set_option maxRecDepth 20000 in
theorem libBarEq_vc (xs ys : List (Int × Int)) (hl : xs.length * 16 ≤ 140737488351232) : VC Tryz.prog 78 [.v false (.sl 110 sBr) xs, .v false (.sl 110 sBr) ys] (· = .v false .bool (decide (xs = ys))) := by
 refine VC.of_body hT Tryz.func78 rfl (by kernel_rfl) [(.tmp 4, false, .bool)] (by kernel_rfl) ?_
 show VW _ _ ([.v false (.sl 110 sBr) xs, .v false (.sl 110 sBr) ys, D, D, D, D, D, D, D, D, D, D, D, D, D, D, D, D, D, D, D, D, D, D, D, D]) _
 repeat refine VW.seq ?_
 refine VW.regl hT fun K hK => ?_
 simp only [wq, simprocAttr]
 refine hK _ ?_
 clear hK K
 try refine vthen_n ?_
 repeat refine VW.seq ?_
 refine VW.regl hT fun K hK => ?_
 simp only [wq, simprocAttr]
 refine hK _ ?_
 clear hK K
 try refine vthen_n ?_
 repeat refine VW.seq ?_
 refine VW.cond rfl (fun hc => ?_) (fun hc => ?_)
 ·repeat refine VW.seq ?_
  refine VW.regl hT fun K hK => ?_
  simp only [wq, simprocAttr]
  refine hK _ ?_
  clear hK K
  try refine vthen_n ?_
  refine VW.ret ⟨.inl rfl, _, rfl, ?_⟩
  have : xs ≠ ys := fun e => by subst e; simp at hc
  simp [this]
 have hlen : xs.length = ys.length := by simp at hc; omega
 refine VW.skip (vthen_n ?_)
 repeat refine VW.seq ?_
 refine VW.regl hT fun K hK => ?_
 simp only [wq, simprocAttr]
 refine hK _ ?_
 clear hK K
 try refine vthen_n ?_
 repeat refine VW.seq ?_
 refine VW.block ?_
 refine VW.loop (α := Nat) [(0, none), (1, none), (12, none), (13, none)] (fun i => [.v false (.sl 110 sBr) xs, .v false (.sl 110 sBr) ys, D, D, D, D, D, D, D, D, D, D, .v false (.int .i64) (xs.length : Int), .v false (.int .i64) (i : Int), D, D, D, D, D, D, D, D, D, D, D, D]) (fun i => i ≤ xs.length ∧ ∀ k, k < i → xs.getD k (0, 0) = ys.getD k (0, 0)) (fun i => xs.length - i) ⟨0, ⟨by omega, fun k hk => by omega⟩, ?_⟩ fun i ⟨hi, hk⟩ => ?_
 ·simp only [wn, wq, simprocAttr]
  try rfl
 repeat refine VW.seq ?_
 refine VW.regl hT fun K hK => ?_
 simp only [wq, simprocAttr]
 refine hK _ ?_
 clear hK K
 try refine vthen_n ?_
 repeat refine VW.seq ?_
 refine VW.cond rfl (fun hc => ?_) (fun hc => ?_)
 ·have hlt : i < xs.length := by simpa using hc
  refine VW.skip (vthen_n ?_)
  repeat refine VW.seq ?_
  refine VW.block ?_
  repeat refine VW.seq ?_
  refine VW.regl hT fun K hK => ?_
  simp only [wq, simprocAttr]
  refine hK _ ?_
  clear hK K
  try refine vthen_n ?_
  repeat refine VW.seq ?_
  refine VW.drawl hT hm (by kernel_rfl) fun K hK => ?_
  simp only [wq, simprocAttr]
  refine ⟨by simp; omega, by simp; omega, ?_⟩
  refine hK _ ?_
  clear hK K
  try refine vthen_n ?_
  repeat refine VW.seq ?_
  refine VW.cond rfl (fun hc => ?_) (fun hc => ?_)
  ·repeat refine VW.seq ?_
   refine VW.regl hT fun K hK => ?_
   simp only [wq, simprocAttr]
   refine hK _ ?_
   clear hK K
   try refine vthen_n ?_
   refine VW.ret ⟨.inl rfl, _, rfl, ?_⟩
   have : xs ≠ ys := fun e => by subst e; simp [eqv] at hc
   simp [this]
  ·have hxy : xs.getD i (0, 0) = ys.getD i (0, 0) := by
    have hc2 := hc
    rw [Bool.not_eq_false'] at hc2
    exact (eqv_eq rfl).1 hc2
   refine VW.skip ?_
   show vthen _ _ _ .normal _
   refine vthen_n ?_
   repeat refine VW.seq ?_
   refine VW.regl hT fun K hK => ?_
   simp only [wq, simprocAttr]
   refine hK _ ?_
   clear hK K
   try refine vthen_n ?_
   refine ⟨i + 1, ⟨hlt, fun k h => ?_⟩, ?_, by show xs.length - (i + 1) < xs.length - i; omega⟩
   ·rcases Nat.lt_or_ge k i with h1 | h1
    ·exact hk k h1
    ·obtain rfl : k = i := by omega
     exact hxy
   ·simp only [wn, wq, simprocAttr]
    rw [wrap64 (by omega) (by omega)]
    rfl
 ·have hc : xs.length ≤ i := by simpa using hc
  refine VW.exit ?_
  show vthen _ _ _ .normal _
  refine vthen_n ?_
  repeat refine VW.seq ?_
  refine VW.regl hT fun K hK => ?_
  simp only [wq, simprocAttr]
  refine hK _ ?_
  clear hK K
  try refine vthen_n ?_
  refine VW.ret ⟨.inl rfl, _, rfl, ?_⟩
  rw [row_eq (0, 0) hlen fun k h => hk k (by omega)]
  simp
theorem szIntS_vc (xs : List (Int)) (n : Int) (hl : xs.length * 1 ≤ 140737488351232) (h0 : 0 ≤ n) (h1 : n ≤ 1048576) : VC Tryz.prog 36 [.v false (.sl 3 (.int .i64)) xs, .v false (.int .i64) n] (Left n · xs.length) := by
 refine VC.of_body hT Tryz.func36 rfl (by kernel_rfl) [(.tmp 4, false, .int .i64)] (by kernel_rfl) ?_
 show VW _ _ ([.v false (.sl 3 (.int .i64)) xs, .v false (.int .i64) n, D, D, D, D, D, D, D, D, D, D]) _
 repeat refine VW.seq ?_
 refine VW.regl hT fun K hK => ?_
 simp only [wq, simprocAttr]
 refine hK _ ?_
 clear hK K
 try refine vthen_n ?_
 repeat refine VW.seq ?_
 refine VW.regl hT fun K hK => ?_
 simp only [wq, simprocAttr]
 refine hK _ ?_
 clear hK K
 try refine vthen_n ?_
 rw [wrap64 (by omega) (by omega)]
 repeat refine VW.seq ?_
 refine VW.regl hT fun K hK => ?_
 simp only [wq, simprocAttr]
 refine hK _ ?_
 clear hK K
 try refine vthen_n ?_
 repeat refine VW.seq ?_
 refine VW.cond rfl (fun hc => ?_) (fun hc => ?_)
 ·repeat refine VW.seq ?_
  refine VW.regl hT fun K hK => ?_
  simp only [wq, simprocAttr]
  refine hK _ ?_
  clear hK K
  try refine vthen_n ?_
  exact VW.ret ⟨.inl rfl, _, rfl, (-1 : Int), rfl, by omega, fun h => by omega⟩
 ·refine VW.skip (vthen_n ?_)
  repeat refine VW.seq ?_
  refine VW.regl hT fun K hK => ?_
  simp only [wq, simprocAttr]
  refine hK _ ?_
  clear hK K
  try refine vthen_n ?_
  have hc : ¬ ((n : Int) - xs.length < 0) := of_decide_eq_false hc
  exact VW.ret ⟨.inl rfl, _, rfl, (n - xs.length : Int), rfl, by omega, fun h => by omega⟩
theorem szBarS_vc (xs : List (Int × Int)) (n : Int) (hl : xs.length * 1 ≤ 140737488351232) (h0 : 0 ≤ n) (h1 : n ≤ 1048576) : VC Tryz.prog 37 [.v false (.sl 119 sBr) xs, .v false (.int .i64) n] (Left n · xs.length) := by
 refine VC.of_body hT Tryz.func37 rfl (by kernel_rfl) [(.tmp 4, false, .int .i64)] (by kernel_rfl) ?_
 show VW _ _ ([.v false (.sl 119 sBr) xs, .v false (.int .i64) n, D, D, D, D, D, D, D, D, D, D]) _
 repeat refine VW.seq ?_
 refine VW.regl hT fun K hK => ?_
 simp only [wq, simprocAttr]
 refine hK _ ?_
 clear hK K
 try refine vthen_n ?_
 repeat refine VW.seq ?_
 refine VW.regl hT fun K hK => ?_
 simp only [wq, simprocAttr]
 refine hK _ ?_
 clear hK K
 try refine vthen_n ?_
 rw [wrap64 (by omega) (by omega)]
 repeat refine VW.seq ?_
 refine VW.regl hT fun K hK => ?_
 simp only [wq, simprocAttr]
 refine hK _ ?_
 clear hK K
 try refine vthen_n ?_
 repeat refine VW.seq ?_
 refine VW.cond rfl (fun hc => ?_) (fun hc => ?_)
 ·repeat refine VW.seq ?_
  refine VW.regl hT fun K hK => ?_
  simp only [wq, simprocAttr]
  refine hK _ ?_
  clear hK K
  try refine vthen_n ?_
  exact VW.ret ⟨.inl rfl, _, rfl, (-1 : Int), rfl, by omega, fun h => by omega⟩
 ·refine VW.skip (vthen_n ?_)
  repeat refine VW.seq ?_
  refine VW.regl hT fun K hK => ?_
  simp only [wq, simprocAttr]
  refine hK _ ?_
  clear hK K
  try refine vthen_n ?_
  have hc : ¬ ((n : Int) - xs.length < 0) := of_decide_eq_false hc
  exact VW.ret ⟨.inl rfl, _, rfl, (n - xs.length : Int), rfl, by omega, fun h => by omega⟩
theorem szBoolS_vc (xs : List (Bool)) (n : Int) (hl : xs.length * 1 ≤ 140737488351232) (h0 : 0 ≤ n) (h1 : n ≤ 1048576) : VC Tryz.prog 83 [.v false (.sl 4 .bool) xs, .v false (.int .i64) n] (Left n · xs.length) := by
 refine VC.of_body hT Tryz.func83 rfl (by kernel_rfl) [(.tmp 4, false, .int .i64)] (by kernel_rfl) ?_
 show VW _ _ ([.v false (.sl 4 .bool) xs, .v false (.int .i64) n, D, D, D, D, D, D, D, D, D, D]) _
 repeat refine VW.seq ?_
 refine VW.regl hT fun K hK => ?_
 simp only [wq, simprocAttr]
 refine hK _ ?_
 clear hK K
 try refine vthen_n ?_
 repeat refine VW.seq ?_
 refine VW.regl hT fun K hK => ?_
 simp only [wq, simprocAttr]
 refine hK _ ?_
 clear hK K
 try refine vthen_n ?_
 rw [wrap64 (by omega) (by omega)]
 repeat refine VW.seq ?_
 refine VW.regl hT fun K hK => ?_
 simp only [wq, simprocAttr]
 refine hK _ ?_
 clear hK K
 try refine vthen_n ?_
 repeat refine VW.seq ?_
 refine VW.cond rfl (fun hc => ?_) (fun hc => ?_)
 ·repeat refine VW.seq ?_
  refine VW.regl hT fun K hK => ?_
  simp only [wq, simprocAttr]
  refine hK _ ?_
  clear hK K
  try refine vthen_n ?_
  exact VW.ret ⟨.inl rfl, _, rfl, (-1 : Int), rfl, by omega, fun h => by omega⟩
 ·refine VW.skip (vthen_n ?_)
  repeat refine VW.seq ?_
  refine VW.regl hT fun K hK => ?_
  simp only [wq, simprocAttr]
  refine hK _ ?_
  clear hK K
  try refine vthen_n ?_
  have hc : ¬ ((n : Int) - xs.length < 0) := of_decide_eq_false hc
  exact VW.ret ⟨.inl rfl, _, rfl, (n - xs.length : Int), rfl, by omega, fun h => by omega⟩
set_option maxRecDepth 20000 in
theorem toBar_vc (x : Int × Int) : VC Tryz.prog 89 [.v true sBr x] (· = .v true sBr x) := by
 refine VC.of_body hT Tryz.func89 rfl (by kernel_rfl) [(.cell 2 110, true, sBr)] (by kernel_rfl) ?_
 show VW _ _ ([.v true sBr x, D, D, D, D, D, D, D, D, D, D]) _
 repeat refine VW.seq ?_
 refine VW.regl hT fun K hK => ?_
 simp only [wq, simprocAttr]
 refine hK _ ?_
 clear hK K
 try refine vthen_n ?_
 repeat refine VW.seq ?_
 refine VW.regl hT fun K hK => ?_
 simp only [wq, simprocAttr]
 refine hK _ ?_
 clear hK K
 try refine vthen_n ?_
 repeat refine VW.seq ?_
 refine VW.regl hT fun K hK => ?_
 simp only [wq, simprocAttr]
 refine hK _ ?_
 clear hK K
 try refine vthen_n ?_
 repeat refine VW.seq ?_
 refine VW.regl hT fun K hK => ?_
 simp only [wq, simprocAttr]
 refine hK _ ?_
 clear hK K
 try refine vthen_n ?_
 repeat refine VW.seq ?_
 refine VW.regl hT fun K hK => ?_
 simp only [wq, simprocAttr]
 refine hK _ ?_
 clear hK K
 try refine vthen_n ?_
 exact VW.ret ⟨.inl rfl, _, rfl, rfl⟩
set_option maxRecDepth 20000 in
theorem toBarS_vc (xs : List (Int × Int)) (hl : xs.length * 16 ≤ 140737488351232) : VC Tryz.prog 47 [.v false (.sl 119 sBr) xs] (· = .root (.val false) (.sl 110 sBr) .own xs) := by
 refine VC.of_body hT Tryz.func47 rfl (by kernel_rfl) [(.tmp 2, false, .sl 110 sBr)] (by kernel_rfl) ?_
 show VW _ _ ([.v false (.sl 119 sBr) xs, D, D, D, D, D, D, D, D, D, D, D, D, D, D, D, D, D, D, D, D, D, D]) _
 repeat refine VW.seq ?_
 refine VW.regl hT fun K hK => ?_
 simp only [wq, Nat.reduceMul, reduceCtorEq, Nat.reduceBEq, Nat.reduceAdd, Nat.reduceLT, Nat.reduceLeDiff, Nat.reduceSub, Nat.reduceEqDiff]
 refine hK _ ?_
 clear hK K
 try refine vthen_n ?_
 repeat refine VW.seq ?_
 refine VW.regl hT fun K hK => ?_
 simp only [wq, Nat.reduceMul, reduceCtorEq, Nat.reduceBEq, Nat.reduceAdd, Nat.reduceLT, Nat.reduceLeDiff, Nat.reduceSub, Nat.reduceEqDiff]
 refine ⟨by simp [limOk]; omega, ?_⟩
 refine hK _ ?_
 clear hK K
 try refine vthen_n ?_
 repeat refine VW.seq ?_
 refine VW.regl hT fun K hK => ?_
 simp only [wq, Nat.reduceMul, reduceCtorEq, Nat.reduceBEq, Nat.reduceAdd, Nat.reduceLT, Nat.reduceLeDiff, Nat.reduceSub, Nat.reduceEqDiff]
 refine hK _ ?_
 clear hK K
 try refine vthen_n ?_
 repeat refine VW.seq ?_
 refine VW.block ?_
 refine VW.loop (α := Nat) [(0, none), (3, none), (4, none)] (fun i => [.v false (.sl 119 sBr) xs, D, D, .root (.val false) (.sl 110 sBr) .own (fillTo xs (0, 0) i), .v false (.int .i64) (i : Int), D, D, D, D, D, D, D, D, D, D, D, D, D, D, D, D, D, D]) (fun i => i ≤ xs.length) (fun i => xs.length - i) ⟨0, by omega, ?_⟩ fun i hi => ?_
 ·simp only [wn, wq, Nat.reduceMul, reduceCtorEq, Nat.reduceBEq, Nat.reduceAdd, Nat.reduceLT, Nat.reduceLeDiff, Nat.reduceSub, Nat.reduceEqDiff]
  rw [fillTo_zero]; rfl
 repeat refine VW.seq ?_
 refine VW.regl hT fun K hK => ?_
 simp only [wq, Nat.reduceMul, reduceCtorEq, Nat.reduceBEq, Nat.reduceAdd, Nat.reduceLT, Nat.reduceLeDiff, Nat.reduceSub, Nat.reduceEqDiff]
 refine hK _ ?_
 clear hK K
 try refine vthen_n ?_
 repeat refine VW.seq ?_
 refine VW.cond rfl (fun hc => ?_) (fun hc => ?_)
 ·have hlt : i < xs.length := by simpa using hc
  refine VW.skip (vthen_n ?_)
  repeat refine VW.seq ?_
  refine VW.block ?_
  repeat refine VW.seq ?_
  refine VW.regl hT fun K hK => ?_
  simp only [wq, Nat.reduceMul, reduceCtorEq, Nat.reduceBEq, Nat.reduceAdd, Nat.reduceLT, Nat.reduceLeDiff, Nat.reduceSub, Nat.reduceEqDiff]
  refine ⟨by simp; omega, vcall_of (toBar_vc _) ?_⟩
  simp only [wq, Nat.reduceMul, reduceCtorEq, Nat.reduceBEq, Nat.reduceAdd, Nat.reduceLT, Nat.reduceLeDiff, Nat.reduceSub, Nat.reduceEqDiff]
  refine ⟨by simp [fillTo_len hi]; omega, ?_⟩
  refine hK _ ?_
  clear hK K
  try refine vthen_n ?_
  repeat refine VW.seq ?_
  refine VW.regl hT fun K hK => ?_
  simp only [wq, Nat.reduceMul, reduceCtorEq, Nat.reduceBEq, Nat.reduceAdd, Nat.reduceLT, Nat.reduceLeDiff, Nat.reduceSub, Nat.reduceEqDiff]
  refine hK _ ?_
  clear hK K
  try refine vthen_n ?_
  refine ⟨i + 1, hlt, ?_, by show xs.length - (i + 1) < xs.length - i; omega⟩
  simp only [wn, wq, Nat.reduceMul, reduceCtorEq, Nat.reduceBEq, Nat.reduceAdd, Nat.reduceLT, Nat.reduceLeDiff, Nat.reduceSub, Nat.reduceEqDiff]
  rw [fillTo_set hlt, wrap64 (by omega) (by omega)]
  try rfl
 ·have hc : xs.length ≤ i := by simpa using hc
  refine VW.exit ?_
  show vthen _ _ _ .normal _
  refine vthen_n ?_
  repeat refine VW.seq ?_
  refine VW.regl hT fun K hK => ?_
  simp only [wq, Nat.reduceMul, reduceCtorEq, Nat.reduceBEq, Nat.reduceAdd, Nat.reduceLT, Nat.reduceLeDiff, Nat.reduceSub, Nat.reduceEqDiff]
  refine hK _ ?_
  clear hK K
  try refine vthen_n ?_
  refine VW.ret ⟨.inl rfl, _, rfl, ?_⟩
  rw [fillTo_all xs _ hc]
set_option maxRecDepth 20000 in
theorem toIntSS_vc (xs : List (List Int)) (hl : xs.length * 24 ≤ 140737488351232) (hin : ∀ k, (xs.getD k []).length * 8 ≤ 140737488351232) : VC Tryz.prog 48 [.v false (.sl 25 sI) xs] (· = .root (.val false) (.sl 25 sI) .own xs) := by
 refine VC.of_body hT Tryz.func48 rfl (by kernel_rfl) [(.tmp 2, false, .sl 25 sI)] (by kernel_rfl) ?_
 show VW _ _ ([.v false (.sl 25 sI) xs, D, D, D, D, D, D, D, D, D, D, D, D, D, D, D, D, D, D, D, D, D, D]) _
 repeat refine VW.seq ?_
 refine VW.regl hT fun K hK => ?_
 simp only [wq, Nat.reduceMul, reduceCtorEq, Nat.reduceBEq, Nat.reduceAdd, Nat.reduceLT, Nat.reduceLeDiff, Nat.reduceSub, Nat.reduceEqDiff]
 refine hK _ ?_
 clear hK K
 try refine vthen_n ?_
 repeat refine VW.seq ?_
 refine VW.regl hT fun K hK => ?_
 simp only [wq, Nat.reduceMul, reduceCtorEq, Nat.reduceBEq, Nat.reduceAdd, Nat.reduceLT, Nat.reduceLeDiff, Nat.reduceSub, Nat.reduceEqDiff]
 refine ⟨by simp [limOk]; omega, ?_⟩
 refine hK _ ?_
 clear hK K
 try refine vthen_n ?_
 repeat refine VW.seq ?_
 refine VW.regl hT fun K hK => ?_
 simp only [wq, Nat.reduceMul, reduceCtorEq, Nat.reduceBEq, Nat.reduceAdd, Nat.reduceLT, Nat.reduceLeDiff, Nat.reduceSub, Nat.reduceEqDiff]
 refine hK _ ?_
 clear hK K
 try refine vthen_n ?_
 repeat refine VW.seq ?_
 refine VW.block ?_
 refine VW.loop (α := Nat) [(0, none), (3, none), (4, none)] (fun i => [.v false (.sl 25 sI) xs, D, D, .root (.val false) (.sl 25 sI) .own (fillTo xs [] i), .v false (.int .i64) (i : Int), D, D, D, D, D, D, D, D, D, D, D, D, D, D, D, D, D, D]) (fun i => i ≤ xs.length) (fun i => xs.length - i) ⟨0, by omega, ?_⟩ fun i hi => ?_
 ·simp only [wn, wq, Nat.reduceMul, reduceCtorEq, Nat.reduceBEq, Nat.reduceAdd, Nat.reduceLT, Nat.reduceLeDiff, Nat.reduceSub, Nat.reduceEqDiff]
  rw [fillTo_zero]; rfl
 repeat refine VW.seq ?_
 refine VW.regl hT fun K hK => ?_
 simp only [wq, Nat.reduceMul, reduceCtorEq, Nat.reduceBEq, Nat.reduceAdd, Nat.reduceLT, Nat.reduceLeDiff, Nat.reduceSub, Nat.reduceEqDiff]
 refine hK _ ?_
 clear hK K
 try refine vthen_n ?_
 repeat refine VW.seq ?_
 refine VW.cond rfl (fun hc => ?_) (fun hc => ?_)
 ·have hlt : i < xs.length := by simpa using hc
  refine VW.skip (vthen_n ?_)
  repeat refine VW.seq ?_
  refine VW.block ?_
  repeat refine VW.seq ?_
  refine VW.regl hT fun K hK => ?_
  simp only [wq, Nat.reduceMul, reduceCtorEq, Nat.reduceBEq, Nat.reduceAdd, Nat.reduceLT, Nat.reduceLeDiff, Nat.reduceSub, Nat.reduceEqDiff]
  refine ⟨by simp; omega, vcall_of (toIntS_vc _ (hin i)) ?_⟩
  simp only [wq, Nat.reduceMul, reduceCtorEq, Nat.reduceBEq, Nat.reduceAdd, Nat.reduceLT, Nat.reduceLeDiff, Nat.reduceSub, Nat.reduceEqDiff]
  refine ⟨by simp [fillTo_len hi]; omega, ?_⟩
  refine hK _ ?_
  clear hK K
  try refine vthen_n ?_
  repeat refine VW.seq ?_
  refine VW.regl hT fun K hK => ?_
  simp only [wq, Nat.reduceMul, reduceCtorEq, Nat.reduceBEq, Nat.reduceAdd, Nat.reduceLT, Nat.reduceLeDiff, Nat.reduceSub, Nat.reduceEqDiff]
  refine hK _ ?_
  clear hK K
  try refine vthen_n ?_
  refine ⟨i + 1, hlt, ?_, by show xs.length - (i + 1) < xs.length - i; omega⟩
  simp only [wn, wq, Nat.reduceMul, reduceCtorEq, Nat.reduceBEq, Nat.reduceAdd, Nat.reduceLT, Nat.reduceLeDiff, Nat.reduceSub, Nat.reduceEqDiff]
  rw [fillTo_set hlt, wrap64 (by omega) (by omega)]
  try rfl
 ·have hc : xs.length ≤ i := by simpa using hc
  refine VW.exit ?_
  show vthen _ _ _ .normal _
  refine vthen_n ?_
  repeat refine VW.seq ?_
  refine VW.regl hT fun K hK => ?_
  simp only [wq, Nat.reduceMul, reduceCtorEq, Nat.reduceBEq, Nat.reduceAdd, Nat.reduceLT, Nat.reduceLeDiff, Nat.reduceSub, Nat.reduceEqDiff]
  refine hK _ ?_
  clear hK K
  try refine vthen_n ?_
  refine VW.ret ⟨.inl rfl, _, rfl, ?_⟩
  rw [fillTo_all xs _ hc]
end Go.Proofs.YtoeblmcibheldaaGreatDoor.V.W
end
section
namespace Go.Proofs.YtoeblmcibheldaaGreatDoor.V.W
open Go Go.RowKit
set_option maxRecDepth 20000 in
theorem szGuard_vc (x : List Bool) (n : Int) (hl : x.length * 1 ≤ 140737488351232) (h0 : 0 ≤ n) (h1 : n ≤ 1048576) : VC Tryz.prog 39 [.v true sG x, .v false (.int .i64) n] (Left n · x.length) := by
 refine VC.of_body hT Tryz.func39 rfl (by kernel_rfl) [(.tmp 4, false, .int .i64)] (by kernel_rfl) ?_
 show VW _ _ ([.v true sG x, .v false (.int .i64) n, D, D, D, D, D, D, D, D, D, D]) _
 repeat refine VW.seq ?_
 refine VW.regl hT fun K hK => ?_
 simp only [wq, simprocAttr]
 refine hK _ ?_
 clear hK K
 try refine vthen_n ?_
 repeat refine VW.seq ?_
 refine VW.regl hT fun K hK => ?_
 simp only [wq, simprocAttr]
 refine vcall_ex (szBoolS_vc x n hl h0 h1) ?_
 rintro pv ⟨m, rfl, hm1, hm2⟩
 simp only [wq, simprocAttr]
 refine hK _ ?_
 clear hK K
 try refine vthen_n ?_
 repeat refine VW.seq ?_
 refine VW.regl hT fun K hK => ?_
 simp only [wq, simprocAttr]
 refine hK _ ?_
 clear hK K
 try refine vthen_n ?_
 repeat refine VW.seq ?_
 refine VW.cond rfl (fun hc => ?_) (fun hc => ?_)
 ·repeat refine VW.seq ?_
  refine VW.regl hT fun K hK => ?_
  simp only [wq, simprocAttr]
  refine hK _ ?_
  clear hK K
  try refine vthen_n ?_
  exact VW.ret ⟨.inl rfl, _, rfl, (-1 : Int), rfl, by omega, fun h => by omega⟩
 ·refine VW.skip (vthen_n ?_)
  repeat refine VW.seq ?_
  refine VW.regl hT fun K hK => ?_
  simp only [wq, simprocAttr]
  refine hK _ ?_
  clear hK K
  try refine vthen_n ?_
  exact VW.ret ⟨.inl rfl, _, rfl, _, rfl, hm1, hm2⟩
set_option maxRecDepth 20000 in
theorem toGuard_vc (x : List Bool) (hl : x.length * 1 ≤ 140737488351232) : VC Tryz.prog 49 [.v true sG x] (· = .root (.val true) sG .own x) := by
 refine VC.of_body hT Tryz.func49 rfl (by kernel_rfl) [(.cell 2 30, true, sG)] (by kernel_rfl) ?_
 show VW _ _ ([.v true sG x, D, D, D, D, D, D, D, D]) _
 repeat refine VW.seq ?_
 refine VW.regl hT fun K hK => ?_
 simp only [wq, simprocAttr]
 refine hK _ ?_
 clear hK K
 try refine vthen_n ?_
 repeat refine VW.seq ?_
 refine VW.regl hT fun K hK => ?_
 simp only [wq, simprocAttr]
 refine hK _ ?_
 clear hK K
 try refine vthen_n ?_
 repeat refine VW.seq ?_
 refine VW.regl hT fun K hK => ?_
 simp only [wq, simprocAttr]
 refine vcall_of (toBoolS_vc x hl) ?_
 simp only [wq, simprocAttr]
 refine hK _ ?_
 clear hK K
 try refine vthen_n ?_
 repeat refine VW.seq ?_
 refine VW.regl hT fun K hK => ?_
 simp only [wq, simprocAttr]
 refine hK _ ?_
 clear hK K
 try refine vthen_n ?_
 exact VW.ret ⟨.inl rfl, _, rfl, rfl⟩
set_option maxRecDepth 20000 in
theorem szIntSS_vc (xs : List (List Int)) (n : Int) (hl : xs.length * 24 ≤ 140737488351232) (hin : ∀ k, (xs.getD k []).length * 8 ≤ 140737488351232) (h0 : 0 ≤ n) (h1 : n ≤ 1048576) : VC Tryz.prog 38 [.v false (.sl 25 (.sl 3 (.int .i64))) xs, .v false (.int .i64) n] (Left n · (xs.length + tot xs xs.length)) := by
 refine VC.of_body hT Tryz.func38 rfl (by kernel_rfl) [(.tmp 4, false, .int .i64)] (by kernel_rfl) ?_
 show VW _ _ ([.v false (.sl 25 (.sl 3 (.int .i64))) xs, .v false (.int .i64) n, D, D, D, D, D, D, D, D, D, D, D, D, D, D, D, D, D, D, D, D, D, D, D, D, D]) _
 repeat refine VW.seq ?_
 refine VW.regl hT fun K hK => ?_
 simp only [wq, simprocAttr]
 refine hK _ ?_
 clear hK K
 try refine vthen_n ?_
 repeat refine VW.seq ?_
 refine VW.regl hT fun K hK => ?_
 simp only [wq, simprocAttr]
 refine hK _ ?_
 clear hK K
 try refine vthen_n ?_
 rw [wrap64 (by omega) (by omega)]
 repeat refine VW.seq ?_
 refine VW.regl hT fun K hK => ?_
 simp only [wq, simprocAttr]
 refine hK _ ?_
 clear hK K
 try refine vthen_n ?_
 repeat refine VW.seq ?_
 refine VW.cond rfl (fun hc => ?_) (fun hc => ?_)
 ·repeat refine VW.seq ?_
  refine VW.regl hT fun K hK => ?_
  simp only [wq, simprocAttr]
  refine hK _ ?_
  clear hK K
  try refine vthen_n ?_
  exact VW.ret ⟨.inl rfl, _, rfl, (-1 : Int), rfl, by omega, fun h => by omega⟩
 have hc0 : ¬ ((n : Int) - xs.length < 0) := of_decide_eq_false hc
 refine VW.skip (vthen_n ?_)
 repeat refine VW.seq ?_
 refine VW.regl hT fun K hK => ?_
 simp only [wq, simprocAttr]
 refine hK _ ?_
 clear hK K
 try refine vthen_n ?_
 repeat refine VW.seq ?_
 refine VW.block ?_
 refine VW.loop (α := Nat × Int) [(0, none), (1, none), (5, none)] (fun p => [.v false (.sl 25 (.sl 3 (.int .i64))) xs, .v false (.int .i64) p.2, D, D, D, .v false (.int .i64) (p.1 : Int), D, D, D, D, D, D, D, D, D, D, D, D, D, D, D, D, D, D, D, D, D]) (fun p => p.1 ≤ xs.length ∧ 0 ≤ p.2 ∧ p.2 + (xs.length + tot xs p.1) ≤ n) (fun p => xs.length - p.1) ⟨(0, n - xs.length), ⟨by omega, by omega, by simp [tot]⟩, ?_⟩ fun ⟨i, m⟩ ⟨hi, hm1, hm2⟩ => ?_
 ·simp only [wn, wq, simprocAttr]
  try rfl
 have hm1 : 0 ≤ m := hm1
 have hm2 : m + (xs.length + tot xs i) ≤ n := hm2
 repeat refine VW.seq ?_
 refine VW.regl hT fun K hK => ?_
 simp only [wq, simprocAttr]
 refine hK _ ?_
 clear hK K
 try refine vthen_n ?_
 repeat refine VW.seq ?_
 refine VW.cond rfl (fun hc => ?_) (fun hc => ?_)
 ·have hlt : i < xs.length := by simpa using hc
  refine VW.skip (vthen_n ?_)
  repeat refine VW.seq ?_
  refine VW.block ?_
  repeat refine VW.seq ?_
  refine VW.regl hT fun K hK => ?_
  simp only [wq, simprocAttr]
  refine ⟨by simp; omega, ?_⟩
  refine vcall_ex (szIntS_vc _ _ (by have := hin i; omega) hm1 (by omega)) ?_
  rintro pv ⟨m', rfl, hm3, hm4⟩
  simp only [wq, simprocAttr]
  refine hK _ ?_
  clear hK K
  try refine vthen_n ?_
  repeat refine VW.seq ?_
  refine VW.regl hT fun K hK => ?_
  simp only [wq, simprocAttr]
  refine hK _ ?_
  clear hK K
  try refine vthen_n ?_
  repeat refine VW.seq ?_
  refine VW.cond rfl (fun hc => ?_) (fun hc => ?_)
  ·repeat refine VW.seq ?_
   refine VW.regl hT fun K hK => ?_
   simp only [wq, simprocAttr]
   refine hK _ ?_
   clear hK K
   try refine vthen_n ?_
   exact VW.ret ⟨.inl rfl, _, rfl, (-1 : Int), rfl, by omega, fun h => by omega⟩
  ·refine VW.skip ?_
   show vthen _ _ _ .normal _
   refine vthen_n ?_
   have hc1 : ¬ (m' < 0) := of_decide_eq_false hc
   have ht := tot_succ hlt
   have hm4 := hm4 (by omega)
   repeat refine VW.seq ?_
   refine VW.regl hT fun K hK => ?_
   simp only [wq, simprocAttr]
   refine hK _ ?_
   clear hK K
   try refine vthen_n ?_
   refine ⟨(i + 1, m'), ⟨hlt, by show 0 ≤ m'; omega, ?_⟩, ?_, by show xs.length - (i + 1) < xs.length - i; omega⟩
   ·show m' + (xs.length + tot xs (i + 1)) ≤ n
    rw [ht]; omega
   simp only [wn, wq, simprocAttr]
   rw [wrap64 (by omega) (by omega)]
   rfl
 ·have hge : i = xs.length := by
   have : xs.length ≤ i := by simpa using hc
   omega
  subst hge
  refine VW.exit ?_
  show vthen _ _ _ .normal _
  refine vthen_n ?_
  repeat refine VW.seq ?_
  refine VW.regl hT fun K hK => ?_
  simp only [wq, simprocAttr]
  refine hK _ ?_
  clear hK K
  try refine vthen_n ?_
  exact VW.ret ⟨.inl rfl, _, rfl, m, rfl, by omega, fun h => by omega⟩
set_option maxRecDepth 20000 in
theorem szFabric_vc (x : Fab) (n : Int) (hx : FabB x) (h0 : 0 ≤ n) (h1 : n ≤ 1048576) : VC Tryz.prog 13 [.v true sFs x, .v false (.int .i64) n] (Left n · (fabSize x)) := by
 have ha := hx.a
 have hb := hx.b
 have hcc := hx.c
 have hf := hx.f
 unfold fabSize
 refine VC.of_body hT Tryz.func13 rfl (by kernel_rfl) [(.tmp 4, false, .int .i64)] (by kernel_rfl) ?_
 show VW _ _ ([.v true sFs x, .v false (.int .i64) n, D, D, D, D, D, D, D, D, D, D, D, D, D, D, D, D, D, D, D, D, D, D, D, D, D, D, D, D, D, D, D, D, D, D]) _
 repeat refine VW.seq ?_
 refine VW.regl hT fun K hK => ?_
 simp only [wq, simprocAttr]
 refine hK _ ?_
 clear hK K
 try refine vthen_n ?_
 repeat refine VW.seq ?_
 refine VW.regl hT fun K hK => ?_
 simp only [wq, simprocAttr]
 refine vcall_ex (szNodeS_vc _ _ (by omega) (by omega) (by omega)) ?_
 rintro pv ⟨m0, rfl, q0, r0⟩
 simp only [wq, simprocAttr]
 refine hK _ ?_
 clear hK K
 try refine vthen_n ?_
 repeat refine VW.seq ?_
 refine VW.regl hT fun K hK => ?_
 simp only [wq, simprocAttr]
 refine hK _ ?_
 clear hK K
 try refine vthen_n ?_
 repeat refine VW.seq ?_
 refine VW.cond rfl (fun hc => ?_) (fun hc => ?_)
 ·repeat refine VW.seq ?_
  refine VW.regl hT fun K hK => ?_
  simp only [wq, simprocAttr]
  refine hK _ ?_
  clear hK K
  try refine vthen_n ?_
  exact VW.ret ⟨.inl rfl, _, rfl, (-1 : Int), rfl, by omega, fun h => by omega⟩
 have c0 : ¬ (m0 < 0) := of_decide_eq_false hc
 clear hc
 have r0 := r0 (by omega)
 refine VW.skip (vthen_n ?_)
 repeat refine VW.seq ?_
 refine VW.regl hT fun K hK => ?_
 simp only [wq, simprocAttr]
 refine vcall_ex (szIntS_vc _ _ (by omega) (by omega) (by omega)) ?_
 rintro pv ⟨m1, rfl, q1, r1⟩
 simp only [wq, simprocAttr]
 refine hK _ ?_
 clear hK K
 try refine vthen_n ?_
 repeat refine VW.seq ?_
 refine VW.regl hT fun K hK => ?_
 simp only [wq, simprocAttr]
 refine hK _ ?_
 clear hK K
 try refine vthen_n ?_
 repeat refine VW.seq ?_
 refine VW.cond rfl (fun hc => ?_) (fun hc => ?_)
 ·repeat refine VW.seq ?_
  refine VW.regl hT fun K hK => ?_
  simp only [wq, simprocAttr]
  refine hK _ ?_
  clear hK K
  try refine vthen_n ?_
  exact VW.ret ⟨.inl rfl, _, rfl, (-1 : Int), rfl, by omega, fun h => by omega⟩
 have c1 : ¬ (m1 < 0) := of_decide_eq_false hc
 clear hc
 have r1 := r1 (by omega)
 refine VW.skip (vthen_n ?_)
 repeat refine VW.seq ?_
 refine VW.regl hT fun K hK => ?_
 simp only [wq, simprocAttr]
 refine vcall_ex (szBarS_vc _ _ (by omega) (by omega) (by omega)) ?_
 rintro pv ⟨m2, rfl, q2, r2⟩
 simp only [wq, simprocAttr]
 refine hK _ ?_
 clear hK K
 try refine vthen_n ?_
 repeat refine VW.seq ?_
 refine VW.regl hT fun K hK => ?_
 simp only [wq, simprocAttr]
 refine hK _ ?_
 clear hK K
 try refine vthen_n ?_
 repeat refine VW.seq ?_
 refine VW.cond rfl (fun hc => ?_) (fun hc => ?_)
 ·repeat refine VW.seq ?_
  refine VW.regl hT fun K hK => ?_
  simp only [wq, simprocAttr]
  refine hK _ ?_
  clear hK K
  try refine vthen_n ?_
  exact VW.ret ⟨.inl rfl, _, rfl, (-1 : Int), rfl, by omega, fun h => by omega⟩
 have c2 : ¬ (m2 < 0) := of_decide_eq_false hc
 clear hc
 have r2 := r2 (by omega)
 refine VW.skip (vthen_n ?_)
 repeat refine VW.seq ?_
 refine VW.regl hT fun K hK => ?_
 simp only [wq, simprocAttr]
 refine vcall_ex (szIntSS_vc _ _ hx.d hx.e (by omega) (by omega)) ?_
 rintro pv ⟨m3, rfl, q3, r3⟩
 simp only [wq, simprocAttr]
 refine hK _ ?_
 clear hK K
 try refine vthen_n ?_
 repeat refine VW.seq ?_
 refine VW.regl hT fun K hK => ?_
 simp only [wq, simprocAttr]
 refine hK _ ?_
 clear hK K
 try refine vthen_n ?_
 repeat refine VW.seq ?_
 refine VW.cond rfl (fun hc => ?_) (fun hc => ?_)
 ·repeat refine VW.seq ?_
  refine VW.regl hT fun K hK => ?_
  simp only [wq, simprocAttr]
  refine hK _ ?_
  clear hK K
  try refine vthen_n ?_
  exact VW.ret ⟨.inl rfl, _, rfl, (-1 : Int), rfl, by omega, fun h => by omega⟩
 have c3 : ¬ (m3 < 0) := of_decide_eq_false hc
 clear hc
 have r3 := r3 (by omega)
 refine VW.skip (vthen_n ?_)
 repeat refine VW.seq ?_
 refine VW.regl hT fun K hK => ?_
 simp only [wq, simprocAttr]
 refine vcall_ex (szGuard_vc _ _ hx.f (by omega) (by omega)) ?_
 rintro pv ⟨m4, rfl, q4, r4⟩
 simp only [wq, simprocAttr]
 refine hK _ ?_
 clear hK K
 try refine vthen_n ?_
 repeat refine VW.seq ?_
 refine VW.regl hT fun K hK => ?_
 simp only [wq, simprocAttr]
 refine hK _ ?_
 clear hK K
 try refine vthen_n ?_
 repeat refine VW.seq ?_
 refine VW.cond rfl (fun hc => ?_) (fun hc => ?_)
 ·repeat refine VW.seq ?_
  refine VW.regl hT fun K hK => ?_
  simp only [wq, simprocAttr]
  refine hK _ ?_
  clear hK K
  try refine vthen_n ?_
  exact VW.ret ⟨.inl rfl, _, rfl, (-1 : Int), rfl, by omega, fun h => by omega⟩
 have c4 : ¬ (m4 < 0) := of_decide_eq_false hc
 clear hc
 have r4 := r4 (by omega)
 refine VW.skip (vthen_n ?_)
 repeat refine VW.seq ?_
 refine VW.regl hT fun K hK => ?_
 simp only [wq, simprocAttr]
 refine hK _ ?_
 clear hK K
 try refine vthen_n ?_
 exact VW.ret ⟨.inl rfl, _, rfl, m4, rfl, by omega, fun h => by omega⟩
set_option maxRecDepth 20000 in
theorem toFabric_vc (x : Fab) (hx : FabB x) : VC Tryz.prog 15 [.v true sFs x] (· = .root (.val true) sFi (.pr .own (.pr .own (.pr .own (.pr .own .own)))) x) := by
 refine VC.of_body hT Tryz.func15 rfl (by kernel_rfl) [(.cell 2 32, true, sFi)] (by kernel_rfl) ?_
 show VW _ _ ([.v true sFs x, D, D, D, D, D, D, D, D, D, D, D, D, D, D, D, D, D, D, D, D, D, D, D, D]) _
 repeat refine VW.seq ?_
 refine VW.regl hT fun K hK => ?_
 simp only [wq, simprocAttr]
 refine hK _ ?_
 clear hK K
 try refine vthen_n ?_
 repeat refine VW.seq ?_
 refine VW.regl hT fun K hK => ?_
 simp only [wq, simprocAttr]
 refine hK _ ?_
 clear hK K
 try refine vthen_n ?_
 repeat refine VW.seq ?_
 refine VW.regl hT fun K hK => ?_
 simp only [wq, simprocAttr]
 refine vcall_of (toNodeS_vc _ hx.a) ?_
 simp only [wq, simprocAttr]
 refine hK _ ?_
 clear hK K
 try refine vthen_n ?_
 repeat refine VW.seq ?_
 refine VW.regl hT fun K hK => ?_
 simp only [wq, simprocAttr]
 refine vcall_of (toIntS_vc _ hx.b) ?_
 simp only [wq, simprocAttr]
 refine hK _ ?_
 clear hK K
 try refine vthen_n ?_
 repeat refine VW.seq ?_
 refine VW.regl hT fun K hK => ?_
 simp only [wq, simprocAttr]
 refine vcall_of (toBarS_vc _ hx.c) ?_
 simp only [wq, simprocAttr]
 refine hK _ ?_
 clear hK K
 try refine vthen_n ?_
 repeat refine VW.seq ?_
 refine VW.regl hT fun K hK => ?_
 simp only [wq, simprocAttr]
 refine vcall_of (toIntSS_vc _ hx.d hx.e) ?_
 simp only [wq, simprocAttr]
 refine hK _ ?_
 clear hK K
 try refine vthen_n ?_
 repeat refine VW.seq ?_
 refine VW.regl hT fun K hK => ?_
 simp only [wq, simprocAttr]
 refine vcall_of (toGuard_vc _ hx.f) ?_
 simp only [wq, simprocAttr]
 refine hK _ ?_
 clear hK K
 try refine vthen_n ?_
 repeat refine VW.seq ?_
 refine VW.regl hT fun K hK => ?_
 simp only [wq, simprocAttr]
 refine hK _ ?_
 clear hK K
 try refine vthen_n ?_
 exact VW.ret ⟨.inl rfl, _, rfl, rfl⟩
end Go.Proofs.YtoeblmcibheldaaGreatDoor.V.W
end
section
namespace Go.Proofs.YtoeblmcibheldaaGreatDoor.V.W
open Go Go.RowKit
/-- a row of memory that does not fit -/
def memBad (m : List (List Int)) (s : List Int) (k : Nat) : Bool := !(((m.getD k []).length : Int) == s.getD k 0) || !words (m.getD k [])
def memOk (m : List (List Int)) (s : List Int) : Bool := (List.range m.length).all fun k => !memBad m s k
theorem memOk_false {m : List (List Int)} {s : List Int} {k : Nat} (hk : k < m.length) (h : memBad m s k = true) : memOk m s = false := by
 rw [memOk, List.all_eq_false]
 exact ⟨k, List.mem_range.2 hk, by rw [h]; simp⟩
theorem memOk_true {m : List (List Int)} {s : List Int} (h : ∀ k, k < m.length → memBad m s k = false) : memOk m s = true := by
 rw [memOk, List.all_eq_true]
 intro k hk
 rw [h k (List.mem_range.1 hk)]
 rfl
/-- a fabric that may be -/
def fabOk (x : Fab) : Bool := newOk x.1 x.2.1 && (decide (allBars x.1 x.2.1 = x.2.2.1) && (((x.2.2.2.1.length : Int) == (x.2.1.length : Int)) && (guardOk x.1 x.2.2.2.2 && memOk x.2.2.2.1 x.2.1)))
structure FabL (x : Fab) : Prop where
 a : x.1.length ≤ 2000000
 b : x.2.1.length ≤ 2000000
 c : x.2.2.1.length ≤ 2000000
 d : x.2.2.2.1.length ≤ 2000000
 e : ∀ k, (x.2.2.2.1.getD k []).length ≤ 2000000
set_option maxRecDepth 20000 in
set_option maxHeartbeats 2000000 in
theorem fabricOk_vc (x : Fab) (hx : FabL x) : VC Tryz.prog 29 [.v true sFi x] (· = .v false .bool (fabOk x)) := by
 obtain ⟨t, s, b, m, g⟩ := x
 have hla : t.length ≤ 2000000 := hx.a
 have hlb : s.length ≤ 2000000 := hx.b
 have hlc : b.length ≤ 2000000 := hx.c
 have hld : m.length ≤ 2000000 := hx.d
 have hle : ∀ k, (m.getD k []).length ≤ 2000000 := hx.e
 refine VC.of_body hT Tryz.func29 rfl (by kernel_rfl) [(.tmp 2, false, .bool)] (by kernel_rfl) ?_
 show VW _ _ ([.v true sFi (t, s, b, m, g), D, D, D, D, D, D, D, D, D, D, D, D, D, D, D, D, D, D, D, D, D, D, D, D, D, D, D, D, D, D, D, D, D, D, D, D, D, D, D, D, D, D, D, D, D, D, D, D, D, D, D, D, D, D, D, D, D, D, D, D, D, D, D]) _
 repeat refine VW.seq ?_
 refine VW.regl hT fun K hK => ?_
 simp only [wq, simprocAttr]
 refine hK _ ?_
 clear hK K
 try refine vthen_n ?_
 repeat refine VW.seq ?_
 refine VW.regl hT fun K hK => ?_
 simp only [wq, simprocAttr]
 refine vcall_ex (newFabric_vc t s hla hlb) ?_
 intro pv hpv
 by_cases hn : newOk t s = true
 case neg =>
  have hn0 : newOk t s = false := by simpa using hn
  rw [if_neg hn] at hpv
  subst hpv
  simp only [wq, simprocAttr]
  refine hK _ ?_
  clear hK K
  try refine vthen_n ?_
  repeat refine VW.seq ?_
  refine VW.regl hT fun K hK => ?_
  simp only [wq, simprocAttr]
  refine hK _ ?_
  clear hK K
  try refine vthen_n ?_
  repeat refine VW.seq ?_
  refine VW.cond rfl (fun hc => ?_) (fun hc => ?_)
  ·repeat refine VW.seq ?_
   refine VW.regl hT fun K hK => ?_
   simp only [wq, simprocAttr]
   refine hK _ ?_
   clear hK K
   try refine vthen_n ?_
   refine VW.ret ⟨.inl rfl, _, rfl, ?_⟩
   rw [fabOk, hn0]
   rfl
  ·cases hc
 rw [if_pos hn] at hpv
 subst hpv
 simp only [wq, simprocAttr]
 refine hK _ ?_
 clear hK K
 try refine vthen_n ?_
 have hok0 : sizesOk t s = true := by
  have := hn
  rw [newOk, fits, Bool.and_eq_true, Bool.and_eq_true] at this
  exact this.1.1
 have hok := (sizesOk_iff.1 hok0).1
 have hsl := (sizesOk_iff.1 hok0).2.1
 have htl := treeOk_len hok
 repeat refine VW.seq ?_
 refine VW.regl hT fun K hK => ?_
 simp only [wq, simprocAttr]
 refine vcall_of (libBarEq_vc (allBars t s) b (by rw [show (allBars t s).length = t.length from bars_len _ _ _]; omega)) ?_
 simp only [wq, simprocAttr]
 refine vbr (fun h => ?_) (fun h => ?_) <;> simp only [wq, simprocAttr]
 case refine_2 =>
  have h : decide (allBars t s = b) = false := (Bool.not_eq_true' _).mp h
  refine hK _ ?_
  clear hK K
  try refine vthen_n ?_
  repeat refine VW.seq ?_
  refine VW.cond rfl (fun hc => ?_) (fun hc => ?_)
  ·repeat refine VW.seq ?_
   refine VW.regl hT fun K hK => ?_
   simp only [wq, simprocAttr]
   refine hK _ ?_
   clear hK K
   try refine vthen_n ?_
   refine VW.ret ⟨.inl rfl, _, rfl, ?_⟩
   rw [fabOk, hn, Bool.true_and, h]
   rfl
  ·cases hc
 have h1 : decide (allBars t s = b) = true := by
  have := h
  rwa [Bool.not_eq_false'] at this
 clear h
 refine vbr (fun h => ?_) (fun h => ?_) <;> simp only [wq, simprocAttr]
 case refine_2 =>
  have h : ((m.length : Int) == (s.length : Int)) = false := (Bool.not_eq_true' _).mp h
  refine hK _ ?_
  clear hK K
  try refine vthen_n ?_
  repeat refine VW.seq ?_
  refine VW.cond rfl (fun hc => ?_) (fun hc => ?_)
  ·repeat refine VW.seq ?_
   refine VW.regl hT fun K hK => ?_
   simp only [wq, simprocAttr]
   refine hK _ ?_
   clear hK K
   try refine vthen_n ?_
   refine VW.ret ⟨.inl rfl, _, rfl, ?_⟩
   rw [fabOk, hn, h1, Bool.true_and, Bool.true_and, h]
   rfl
  ·cases hc
 have h2 : ((m.length : Int) == (s.length : Int)) = true := by
  have := h
  rwa [Bool.not_eq_false'] at this
 clear h
 refine vcall_of (guardOk_vc t g hla) ?_
 simp only [wq, simprocAttr]
 refine hK _ ?_
 clear hK K
 try refine vthen_n ?_
 repeat refine VW.seq ?_
 refine VW.cond rfl (fun hc => ?_) (fun hc => ?_)
 ·have h : guardOk t g = false := (Bool.not_eq_true' _).mp hc
  repeat refine VW.seq ?_
  refine VW.regl hT fun K hK => ?_
  simp only [wq, simprocAttr]
  refine hK _ ?_
  clear hK K
  try refine vthen_n ?_
  refine VW.ret ⟨.inl rfl, _, rfl, ?_⟩
  rw [fabOk, hn, h1, h2, h]
  rfl
 have h3 : guardOk t g = true := by
  have := hc
  rwa [Bool.not_eq_false'] at this
 have hfin : fabOk (t, s, b, m, g) = memOk m s := by rw [fabOk, hn, h1, h2, h3]; rfl
 have hms : m.length = s.length := by
  have : (m.length : Int) = (s.length : Int) := by simpa using h2
  omega
 refine VW.skip (vthen_n ?_)
 repeat refine VW.seq ?_
 refine VW.regl hT fun K hK => ?_
 simp only [wq, simprocAttr]
 refine hK _ ?_
 clear hK K
 try refine vthen_n ?_
 repeat refine VW.seq ?_
 refine VW.block ?_
 refine VW.loop (α := Nat) [(1, none), (43, none), (44, none), (45, none)] (fun i => [D, .root (.box 32) sFi .fz (t, s, b, m, g), D, D, D, D, D, D, D, D, D, D, D, D, D, D, D, D, D, D, D, D, D, D, D, D, D, D, D, D, D, D, D, D, D, D, D, D, D, D, D, D, D, .v false sII m, .v false (.int .i64) ((m.length : Nat)), .v false (.int .i64) ((i : Nat)), D, D, D, D, D, D, D, D, D, D, D, D, D, D, D, D, D, D]) (fun i => i ≤ m.length ∧ ∀ k, k < i → memBad m s k = false) (fun i => m.length - i) ⟨0, ⟨by omega, fun k h => by omega⟩, ?_⟩ fun i ⟨hi, hk⟩ => ?_
 ·simp only [wn, wq, simprocAttr]
  try rfl
 repeat refine VW.seq ?_
 refine VW.regl hT fun K hK => ?_
 simp only [wq, simprocAttr]
 refine hK _ ?_
 clear hK K
 try refine vthen_n ?_
 repeat refine VW.seq ?_
 refine VW.cond rfl (fun hc => ?_) (fun hc => ?_)
 ·have hlt : i < m.length := by simpa using hc
  refine VW.skip (vthen_n ?_)
  repeat refine VW.seq ?_
  refine VW.block ?_
  repeat refine VW.seq ?_
  refine VW.regl hT fun K hK => ?_
  simp only [wq, simprocAttr]
  refine ⟨decide_eq_true ⟨Int.natCast_nonneg _, by show (i : Int) < (m.length : Int); omega⟩, ?_⟩
  refine hK _ ?_
  clear hK K
  try refine vthen_n ?_
  repeat refine VW.seq ?_
  refine VW.regl hT fun K hK => ?_
  simp only [wq, simprocAttr]
  refine ⟨decide_eq_true ⟨Int.natCast_nonneg _, by show (i : Int) < (s.length : Int); omega⟩, ?_⟩
  refine vbr (fun h => ?_) (fun h => ?_) <;> simp only [wq, simprocAttr]
  case refine_2 =>
   have h : (!(((m.getD i []).length : Int) == s.getD i 0)) = true := h
   refine hK _ ?_
   clear hK K
   try refine vthen_n ?_
   repeat refine VW.seq ?_
   refine VW.cond rfl (fun hc => ?_) (fun hc => ?_)
   ·repeat refine VW.seq ?_
    refine VW.regl hT fun K hK => ?_
    simp only [wq, simprocAttr]
    refine hK _ ?_
    clear hK K
    try refine vthen_n ?_
    refine VW.ret ⟨.inl rfl, _, rfl, ?_⟩
    rw [hfin, memOk_false hlt (by rw [memBad, h]; rfl)]
   ·cases hc
  have h : (!(((m.getD i []).length : Int) == s.getD i 0)) = false := h
  refine vcall_of (areWords_vc _ (hle i)) ?_
  simp only [wq, simprocAttr]
  refine hK _ ?_
  clear hK K
  try refine vthen_n ?_
  repeat refine VW.seq ?_
  refine VW.cond rfl (fun hc => ?_) (fun hc => ?_)
  ·have hc : (!words (m.getD i [])) = true := hc
   repeat refine VW.seq ?_
   refine VW.regl hT fun K hK => ?_
   simp only [wq, simprocAttr]
   refine hK _ ?_
   clear hK K
   try refine vthen_n ?_
   refine VW.ret ⟨.inl rfl, _, rfl, ?_⟩
   rw [hfin, memOk_false hlt (by rw [memBad, h, hc]; rfl)]
  ·have hc : (!words (m.getD i [])) = false := hc
   refine VW.skip ?_
   show vthen _ _ _ .normal _
   refine vthen_n ?_
   repeat refine VW.seq ?_
   refine VW.regl hT fun K hK => ?_
   simp only [wq, simprocAttr]
   refine hK _ ?_
   clear hK K
   try refine vthen_n ?_
   refine ⟨i + 1, ⟨hlt, fun k h4 => ?_⟩, ?_, by show m.length - (i + 1) < m.length - i; omega⟩
   ·rcases Nat.lt_or_ge k i with h5 | h5
    ·exact hk k h5
    ·obtain rfl : k = i := by omega
     rw [memBad, h, hc]
     rfl
   simp only [wn, wq, simprocAttr]
   rw [wrap64 (by omega) (by omega)]
   rfl
 ·have hge : i = m.length := by
   have : m.length ≤ i := by simpa using hc
   omega
  subst hge
  refine VW.exit ?_
  show vthen _ _ _ .normal _
  refine vthen_n ?_
  repeat refine VW.seq ?_
  refine VW.regl hT fun K hK => ?_
  simp only [wq, simprocAttr]
  refine hK _ ?_
  clear hK K
  try refine vthen_n ?_
  refine VW.ret ⟨.inl rfl, _, rfl, ?_⟩
  rw [hfin, memOk_true hk]
end Go.Proofs.YtoeblmcibheldaaGreatDoor.V.W
end
section
namespace Go.Proofs.YtoeblmcibheldaaGreatDoor.V.W
open Go Go.RowKit
end Go.Proofs.YtoeblmcibheldaaGreatDoor.V.W
end
section
namespace Go.Proofs.YtoeblmcibheldaaGreatDoor.V.W
open Go Go.RowKit
set_option maxRecDepth 20000 in
set_option maxHeartbeats 2000000 in
theorem specFabricOk_vc (x : Fab) (hx : FabL x) : VC Tryz.prog 40 [.v true sFi x] (· = .v false .bool (fabOk x)) := by
 obtain ⟨t, s, b, m, g⟩ := x
 have hla : t.length ≤ 2000000 := hx.a
 have hlb : s.length ≤ 2000000 := hx.b
 have hlc : b.length ≤ 2000000 := hx.c
 have hld : m.length ≤ 2000000 := hx.d
 have hle : ∀ k, (m.getD k []).length ≤ 2000000 := hx.e
 refine VC.of_body hT Tryz.func40 rfl (by kernel_rfl) [(.tmp 2, false, .bool)] (by kernel_rfl) ?_
 show VW _ _ ([.v true sFi (t, s, b, m, g), D, D, D, D, D, D, D, D, D, D, D, D, D, D, D, D, D, D, D, D, D, D, D, D, D, D, D, D, D, D, D, D, D, D, D, D, D, D, D, D, D, D, D, D, D, D, D, D, D, D, D, D, D, D, D, D, D, D, D, D, D, D, D, D, D, D, D, D, D, D, D, D, D, D, D, D, D, D, D, D, D, D]) _
 repeat refine VW.seq ?_
 refine VW.regl hT fun K hK => ?_
 simp only [wq, simprocAttr]
 refine hK _ ?_
 clear hK K
 try refine vthen_n ?_
 repeat refine VW.seq ?_
 refine VW.regl hT fun K hK => ?_
 simp only [wq, simprocAttr]
 refine vcall_ex (specNew_vc t s hla hlb) ?_
 intro pv hpv
 by_cases hn : newOk t s = true
 case neg =>
  have hn0 : newOk t s = false := by simpa using hn
  rw [if_neg hn] at hpv
  subst hpv
  simp only [wq, simprocAttr]
  refine hK _ ?_
  clear hK K
  try refine vthen_n ?_
  repeat refine VW.seq ?_
  refine VW.regl hT fun K hK => ?_
  simp only [wq, simprocAttr]
  refine hK _ ?_
  clear hK K
  try refine vthen_n ?_
  repeat refine VW.seq ?_
  refine VW.cond rfl (fun hc => ?_) (fun hc => ?_)
  ·repeat refine VW.seq ?_
   refine VW.regl hT fun K hK => ?_
   simp only [wq, simprocAttr]
   refine hK _ ?_
   clear hK K
   try refine vthen_n ?_
   refine VW.ret ⟨.inl rfl, _, rfl, ?_⟩
   rw [fabOk, hn0]
   rfl
  ·cases hc
 rw [if_pos hn] at hpv
 subst hpv
 simp only [wq, simprocAttr]
 refine hK _ ?_
 clear hK K
 try refine vthen_n ?_
 have hok0 : sizesOk t s = true := by
  have := hn
  rw [newOk, fits, Bool.and_eq_true, Bool.and_eq_true] at this
  exact this.1.1
 have hok := (sizesOk_iff.1 hok0).1
 have hsl := (sizesOk_iff.1 hok0).2.1
 have htl := treeOk_len hok
 have hal : (allBars t s).length = t.length := bars_len _ _ _
 have hml : (memTo s s.length).length = s.length := memTo_len (Nat.le_refl _)
 repeat refine VW.seq ?_
 refine VW.regl hT fun K hK => ?_
 simp only [wq, simprocAttr]
 refine vbr (fun h => ?_) (fun h => ?_) <;> simp only [wq, simprocAttr]
 case refine_2 =>
  have h : ((b.length : Int) == ((allBars t s).length : Int)) = false := (Bool.not_eq_true' _).mp h
  have h0 : decide (allBars t s = b) = false := by
   rw [decide_eq_false_iff_not]
   rintro rfl
   simp at h
  refine hK _ ?_
  clear hK K
  try refine vthen_n ?_
  repeat refine VW.seq ?_
  refine VW.cond rfl (fun hc => ?_) (fun hc => ?_)
  ·repeat refine VW.seq ?_
   refine VW.regl hT fun K hK => ?_
   simp only [wq, simprocAttr]
   refine hK _ ?_
   clear hK K
   try refine vthen_n ?_
   refine VW.ret ⟨.inl rfl, _, rfl, ?_⟩
   rw [fabOk, hn, Bool.true_and, h0]
   rfl
  ·cases hc
 have h1 : ((b.length : Int) == ((allBars t s).length : Int)) = true := by
  have := h
  rwa [Bool.not_eq_false'] at this
 have h1 : b.length = t.length := by
  have : (b.length : Int) = ((allBars t s).length : Int) := by simpa using h1
  omega
 clear h
 refine vbr (fun h => ?_) (fun h => ?_) <;> simp only [wq, simprocAttr]
 case refine_2 =>
  have h : ((m.length : Int) == ((memTo s s.length).length : Int)) = false := (Bool.not_eq_true' _).mp h
  rw [hml] at h
  refine hK _ ?_
  clear hK K
  try refine vthen_n ?_
  repeat refine VW.seq ?_
  refine VW.cond rfl (fun hc => ?_) (fun hc => ?_)
  ·repeat refine VW.seq ?_
   refine VW.regl hT fun K hK => ?_
   simp only [wq, simprocAttr]
   refine hK _ ?_
   clear hK K
   try refine vthen_n ?_
   refine VW.ret ⟨.inl rfl, _, rfl, ?_⟩
   rw [fabOk, hn, Bool.true_and, h, Bool.false_and, Bool.and_false]
  ·cases hc
 have h2 : ((m.length : Int) == ((memTo s s.length).length : Int)) = true := by
  have := h
  rwa [Bool.not_eq_false'] at this
 rw [hml] at h2
 clear h
 refine vcall_of (specGuard_vc t g hla) ?_
 simp only [wq, simprocAttr]
 refine hK _ ?_
 clear hK K
 try refine vthen_n ?_
 repeat refine VW.seq ?_
 refine VW.cond rfl (fun hc => ?_) (fun hc => ?_)
 ·have h : guardOk t g = false := (Bool.not_eq_true' _).mp hc
  repeat refine VW.seq ?_
  refine VW.regl hT fun K hK => ?_
  simp only [wq, simprocAttr]
  refine hK _ ?_
  clear hK K
  try refine vthen_n ?_
  refine VW.ret ⟨.inl rfl, _, rfl, ?_⟩
  rw [fabOk, hn, h2, h, Bool.false_and, Bool.and_false, Bool.and_false]
  rfl
 have h3 : guardOk t g = true := by
  have := hc
  rwa [Bool.not_eq_false'] at this
 have hms : m.length = s.length := by
  have : (m.length : Int) = (s.length : Int) := by simpa using h2
  omega
 have hfin : fabOk (t, s, b, m, g) = (decide (allBars t s = b) && memOk m s) := by
  rw [fabOk, hn, Bool.true_and, h2, h3]
  rfl
 refine VW.skip (vthen_n ?_)
 repeat refine VW.seq ?_
 refine VW.regl hT fun K hK => ?_
 simp only [wq, simprocAttr]
 refine hK _ ?_
 clear hK K
 try refine vthen_n ?_
 repeat refine VW.seq ?_
 refine VW.block ?_
 refine VW.loop (α := Nat) [(1, none), (3, none), (5, none)] (fun i => [D, .root (.box 32) sFi .fz (t, s, b, m, g), D, .root (.box 32) sFi fFab (newFab t s), D, .v false (.int .i64) ((i : Nat)), D, D, D, D, D, D, D, D, D, D, D, D, D, D, D, D, D, D, D, D, D, D, D, D, D, D, D, D, D, D, D, D, D, D, D, D, D, D, D, D, D, D, D, D, D, D, D, D, D, D, D, D, D, D, D, D, D, D, D, D, D, D, D, D, D, D, D, D, D, D, D, D, D, D, D, D, D]) (fun i => i ≤ t.length ∧ ∀ k, k < i → b.getD k zb = (allBars t s).getD k zb ∧ memBad m s k = false) (fun i => t.length - i) ⟨0, ⟨by omega, fun k h => by omega⟩, ?_⟩ fun i ⟨hi, hk⟩ => ?_
 ·simp only [wn, wq, simprocAttr]
  try rfl
 repeat refine VW.seq ?_
 refine VW.regl hT fun K hK => ?_
 simp only [wq, simprocAttr]
 refine hK _ ?_
 clear hK K
 try refine vthen_n ?_
 repeat refine VW.seq ?_
 refine VW.cond rfl (fun hc => ?_) (fun hc => ?_)
 ·have hlt : i < t.length := by
   have : (i : Int) < ((allBars t s).length : Int) := of_decide_eq_true hc
   omega
  refine VW.skip (vthen_n ?_)
  repeat refine VW.seq ?_
  refine VW.block ?_
  repeat refine VW.seq ?_
  refine VW.drawl hT hm (by kernel_rfl) fun K hK => ?_
  simp only [wq, simprocAttr]
  refine ⟨by kernel_rfl, by kernel_rfl, decide_eq_true ⟨Int.natCast_nonneg _, by show (i : Int) < (b.length : Int); omega⟩, by kernel_rfl, by kernel_rfl, by kernel_rfl, decide_eq_true ⟨Int.natCast_nonneg _, by show (i : Int) < ((allBars t s).length : Int); omega⟩, by kernel_rfl, ?_⟩
  refine vbr (fun h => ?_) (fun h => ?_) <;> simp only [wq, simprocAttr]
  case refine_2 =>
   have h : (!eqv sBr (b.getD i zb) ((allBars t s).getD i zb)) = true := h
   have h0 : decide (allBars t s = b) = false := by
    rw [decide_eq_false_iff_not]
    rintro rfl
    rw [Bool.not_eq_true'] at h
    rw [(eqv_eq rfl).2 rfl] at h
    cases h
   refine hK _ ?_
   clear hK K
   try refine vthen_n ?_
   repeat refine VW.seq ?_
   refine VW.cond rfl (fun hc => ?_) (fun hc => ?_)
   ·repeat refine VW.seq ?_
    refine VW.regl hT fun K hK => ?_
    simp only [wq, simprocAttr]
    refine hK _ ?_
    clear hK K
    try refine vthen_n ?_
    refine VW.ret ⟨.inl rfl, _, rfl, ?_⟩
    rw [hfin, h0, Bool.false_and]
   ·cases hc
  have h : (!eqv sBr (b.getD i zb) ((allBars t s).getD i zb)) = false := h
  have hbi : b.getD i zb = (allBars t s).getD i zb := by
   rw [Bool.not_eq_false'] at h
   exact (eqv_eq rfl).1 h
  clear h
  refine ⟨by kernel_rfl, by kernel_rfl, decide_eq_true ⟨Int.natCast_nonneg _, by show (i : Int) < (m.length : Int); omega⟩, by kernel_rfl, by kernel_rfl, decide_eq_true ⟨Int.natCast_nonneg _, by show (i : Int) < (s.length : Int); omega⟩, ?_⟩
  refine vbr (fun h => ?_) (fun h => ?_) <;> simp only [wq, simprocAttr]
  case refine_2 =>
   have h : (!(((m.getD i []).length : Int) == s.getD i 0)) = true := h
   refine hK _ ?_
   clear hK K
   try refine vthen_n ?_
   repeat refine VW.seq ?_
   refine VW.cond rfl (fun hc => ?_) (fun hc => ?_)
   ·repeat refine VW.seq ?_
    refine VW.regl hT fun K hK => ?_
    simp only [wq, simprocAttr]
    refine hK _ ?_
    clear hK K
    try refine vthen_n ?_
    refine VW.ret ⟨.inl rfl, _, rfl, ?_⟩
    rw [hfin, memOk_false (k := i) (by omega) (by rw [memBad, h]; rfl), Bool.and_false]
   ·cases hc
  have h : (!(((m.getD i []).length : Int) == s.getD i 0)) = false := h
  refine ⟨by kernel_rfl, by kernel_rfl, decide_eq_true ⟨Int.natCast_nonneg _, by show (i : Int) < (m.length : Int); omega⟩, ?_⟩
  refine vcallD_of (specWords_vc _ (hle i)) ?_
  simp only [wq, simprocAttr]
  refine hK _ ?_
  clear hK K
  try refine vthen_n ?_
  repeat refine VW.seq ?_
  refine VW.cond rfl (fun hc => ?_) (fun hc => ?_)
  ·have hc : (!words (m.getD i [])) = true := hc
   repeat refine VW.seq ?_
   refine VW.regl hT fun K hK => ?_
   simp only [wq, simprocAttr]
   refine hK _ ?_
   clear hK K
   try refine vthen_n ?_
   refine VW.ret ⟨.inl rfl, _, rfl, ?_⟩
   rw [hfin, memOk_false (k := i) (by omega) (by rw [memBad, h, hc]; rfl), Bool.and_false]
  ·have hc : (!words (m.getD i [])) = false := hc
   refine VW.skip ?_
   show vthen _ _ _ .normal _
   refine vthen_n ?_
   repeat refine VW.seq ?_
   refine VW.regl hT fun K hK => ?_
   simp only [wq, simprocAttr]
   refine hK _ ?_
   clear hK K
   try refine vthen_n ?_
   refine ⟨i + 1, ⟨hlt, fun k h4 => ?_⟩, ?_, by show t.length - (i + 1) < t.length - i; omega⟩
   ·rcases Nat.lt_or_ge k i with h5 | h5
    ·exact hk k h5
    ·obtain rfl : k = i := by omega
     refine ⟨hbi, ?_⟩
     rw [memBad, h, hc]
     rfl
   simp only [wn, wq, simprocAttr]
   rw [wrap64 (by omega) (by omega)]
   rfl
 ·have hge : i = t.length := by
   have : ¬ (i : Int) < ((allBars t s).length : Int) := of_decide_eq_false hc
   omega
  subst hge
  refine VW.exit ?_
  show vthen _ _ _ .normal _
  refine vthen_n ?_
  repeat refine VW.seq ?_
  refine VW.regl hT fun K hK => ?_
  simp only [wq, simprocAttr]
  refine hK _ ?_
  clear hK K
  try refine vthen_n ?_
  refine VW.ret ⟨.inl rfl, _, rfl, ?_⟩
  have hbe : allBars t s = b := (row_eq zb (by omega) fun k h => (hk k (by omega)).1).symm
  rw [hfin, decide_eq_true hbe, memOk_true fun k h => (hk k (by omega)).2]
  rfl
end Go.Proofs.YtoeblmcibheldaaGreatDoor.V.W
end
section
namespace Go.Proofs.YtoeblmcibheldaaGreatDoor.V.W
open Go Go.RowKit
theorem one_vc (b : Bool) : VC Tryz.prog 30 [.v false .bool (b)] (· = .v false (.int .i64) (if b = true then 1 else 0)) := by
 refine VC.of_body hT Tryz.func30 rfl (by kernel_rfl) [(.tmp 2, false, .int .i64)] (by kernel_rfl) ?_
 show VW _ _ ([.v false .bool (b), D, D, D]) _
 repeat refine VW.seq ?_
 refine VW.regl hT fun K hK => ?_
 simp only [wq, simprocAttr]
 refine hK _ ?_
 clear hK K
 try refine vthen_n ?_
 repeat refine VW.seq ?_
 refine VW.regl hT fun K hK => ?_
 simp only [wq, simprocAttr]
 refine hK _ ?_
 clear hK K
 try refine vthen_n ?_
 repeat refine VW.seq ?_
 refine VW.cond rfl (fun hc => ?_) (fun hc => ?_)
 ·have hc : b = true := hc
  subst hc
  repeat refine VW.seq ?_
  refine VW.regl hT fun K hK => ?_
  simp only [wq, simprocAttr]
  refine hK _ ?_
  clear hK K
  try refine vthen_n ?_
  exact VW.ret ⟨.inl rfl, _, rfl, rfl⟩
 have hc : b = false := hc
 subst hc
 refine VW.skip (vthen_n ?_)
 repeat refine VW.seq ?_
 refine VW.regl hT fun K hK => ?_
 simp only [wq, simprocAttr]
 refine hK _ ?_
 clear hK K
 try refine vthen_n ?_
 exact VW.ret ⟨.inl rfl, _, rfl, rfl⟩
end Go.Proofs.YtoeblmcibheldaaGreatDoor.V.W
end
section
namespace Go.Proofs.YtoeblmcibheldaaGreatDoor.V.W
open Go Go.RowKit
abbrev sSt : Sh := .sl 9 .str
def tick (a w : Int) : Int := IntKind.i64.wrap (a + if (w == 0) = false then 1 else 0)
def usedIn (a : Int) (r : List Int) : Int := r.foldl tick a
def usedM (m : List (List Int)) : Int := m.foldl usedIn 0
theorem usedIn_r (l : List Int) (a : Int) (h : -9223372036854775808 ≤ a ∧ a ≤ 9223372036854775807) : -9223372036854775808 ≤ usedIn a l ∧ usedIn a l ≤ 9223372036854775807 := foldW_r (fun a n _ => wrapR _) l a h
theorem usedM_r (m : List (List Int)) : -9223372036854775808 ≤ usedM m ∧ usedM m ≤ 9223372036854775807 := foldW_r (fun a r h => usedIn_r r a h) m 0 (by decide)
theorem usedIn_succ (a : Int) {l : List Int} {i : Nat} (h : i < l.length) : usedIn a (l.take (i + 1)) = IntKind.i64.wrap (usedIn a (l.take i) + if (l.getD i 0 == 0) = false then 1 else 0) := foldl_succ tick a 0 h
theorem usedM_succ {m : List (List Int)} {i : Nat} (h : i < m.length) : usedM (m.take (i + 1)) = usedIn (usedM (m.take i)) (m.getD i []) := foldl_succ usedIn 0 [] h
def lines (x : Fab) : List ByteArray := [bs ([110, 111, 100, 101, 115, 32] ++ Lib.itoa (x.1.length : Int)), bs ([98, 117, 115, 101, 115, 32] ++ Lib.itoa (bridges x.1 x.1.length)), bs ([114, 111, 111, 109, 32] ++ Lib.itoa (sumW x.2.1)),
 bs ([99, 117, 116, 32] ++ Lib.itoa ((cutOff x.1 x.2.2.2.2).length : Int)), bs ([117, 115, 101, 100, 32] ++ Lib.itoa (usedM x.2.2.2.1))]
def fmtFab (x : Fab) : List ByteArray := if fabOk x = true then lines x else []
theorem szI {n : Int} (h : -9223372036854775808 ≤ n ∧ n ≤ 9223372036854775807) (a : List UInt8) (ha : a.length ≤ 100) : (bs a).size + (bs (Lib.itoa n)).size ≤ 9223372036854775807 := by
 have := itoa_len h.1 h.2
 rw [bs_size a]
 omega
set_option maxRecDepth 20000 in
set_option maxHeartbeats 4000000 in
theorem fmtFab_vc (x : Fab) (hx : FabL x) : VC Tryz.prog 9 [.v true sFi x] (· = .root (.val false) sSt .own (fmtFab x)) := by
 have hok0 := fabricOk_vc x hx
 have hf : fmtFab x = if fabOk x = true then lines x else [] := rfl
 obtain ⟨t, s, b, m, g⟩ := x
 have hla : t.length ≤ 2000000 := hx.a
 have hlb : s.length ≤ 2000000 := hx.b
 have hld : m.length ≤ 2000000 := hx.d
 have hle : ∀ k, (m.getD k []).length ≤ 2000000 := hx.e
 refine VC.of_body hT Tryz.func9 rfl (by kernel_rfl) [(.tmp 2, false, sSt)] (by kernel_rfl) ?_
 show VW _ _ ([.v true sFi (t, s, b, m, g), D, D, D, D, D, D, D, D, D, D, D, D, D, D, D, D, D, D, D, D, D, D, D, D, D, D, D, D, D, D, D, D, D, D, D, D, D, D, D, D, D, D, D, D, D, D, D, D, D, D, D, D, D, D, D, D, D]) _
 repeat refine VW.seq ?_
 refine VW.regl hT fun K hK => ?_
 simp only [wq, simprocAttr]
 refine hK _ ?_
 clear hK K
 try refine vthen_n ?_
 repeat refine VW.seq ?_
 refine VW.regl hT fun K hK => ?_
 simp only [wq, simprocAttr]
 refine vcall_of hok0 ?_
 simp only [wq, simprocAttr]
 refine hK _ ?_
 clear hK K
 try refine vthen_n ?_
 repeat refine VW.seq ?_
 refine VW.cond rfl (fun hc => ?_) (fun hc => ?_)
 ·repeat refine VW.seq ?_
  refine VW.regl hT fun K hK => ?_
  simp only [wq, simprocAttr]
  refine hK _ ?_
  clear hK K
  try refine vthen_n ?_
  refine VW.ret ⟨.inl rfl, _, rfl, ?_⟩
  have hc : fabOk (t, s, b, m, g) = false := (Bool.not_eq_true' _).mp hc
  rw [hf, if_neg (by rw [hc]; decide)]
  rfl
 have hok : fabOk (t, s, b, m, g) = true := (Bool.not_eq_false' _).mp hc
 rw [hf, if_pos hok]
 refine VW.skip (vthen_n ?_)
 repeat refine VW.seq ?_
 refine VW.regl hT fun K hK => ?_
 simp only [wq, simprocAttr]
 refine hK _ ?_
 clear hK K
 try refine vthen_n ?_
 repeat refine VW.seq ?_
 refine VW.regl hT fun K hK => ?_
 simp only [wq, simprocAttr]
 refine hK _ ?_
 clear hK K
 try refine vthen_n ?_
 repeat refine VW.seq ?_
 refine VW.block ?_
 refine VW.loop (α := Nat) [(1, none), (3, none), (12, none), (13, none), (14, none)] (fun i => [D, .root (.box 32) sFi .fz (t, s, b, m, g), D, .v false (.int .i64) (usedM (m.take i)), D, D, D, D, D, D, D, D, .v false (.sl 25 sI) m, .v false (.int .i64) (m.length), .v false (.int .i64) (i), D, D, D, D, D, D, D, D, D, D, D, D, D, D, D, D, D, D, D, D, D, D, D, D, D, D, D, D, D, D, D, D, D, D, D, D, D, D, D, D, D, D, D]) (fun i => i ≤ m.length) (fun i => m.length - i) ⟨0, by omega, ?_⟩ fun i hi => ?_
 ·simp only [wn, wq, simprocAttr]
  try rfl
 repeat refine VW.seq ?_
 refine VW.regl hT fun K hK => ?_
 simp only [wq, simprocAttr]
 refine hK _ ?_
 clear hK K
 try refine vthen_n ?_
 repeat refine VW.seq ?_
 refine VW.cond rfl (fun hc => ?_) (fun hc => ?_)
 ·have hlt : i < m.length := by simpa using hc
  have hle := hle i
  refine VW.skip (vthen_n ?_)
  repeat refine VW.seq ?_
  refine VW.block ?_
  repeat refine VW.seq ?_
  refine VW.regl hT fun K hK => ?_
  simp only [wq, simprocAttr]
  refine ⟨by simp; omega, ?_⟩
  refine hK _ ?_
  clear hK K
  try refine vthen_n ?_
  have hr0 := usedM_r (m.take i)
  repeat refine VW.seq ?_
  refine VW.regl hT fun K hK => ?_
  simp only [wq, simprocAttr]
  refine hK _ ?_
  clear hK K
  try refine vthen_n ?_
  repeat refine VW.seq ?_
  refine VW.block ?_
  refine VW.loop (α := Nat) [(1, none), (3, none), (12, none), (13, none), (14, none), (18, none), (19, none), (20, none)] (fun j => [D, .root (.box 32) sFi .fz (t, s, b, m, g), D, .v false (.int .i64) (usedIn (usedM (m.take i)) ((m.getD i []).take j)), D, D, D, D, D, D, D, D, .v false (.sl 25 sI) m, .v false (.int .i64) (m.length), .v false (.int .i64) (i), D, D, D, .v false sI (m.getD i []), .v false (.int .i64) ((m.getD i []).length), .v false (.int .i64) (j), D, D, D, D, D, D, D, D, D, D, D, D, D, D, D, D, D, D, D, D, D, D, D, D, D, D, D, D, D, D, D, D, D, D, D, D, D]) (fun j => j ≤ (m.getD i []).length) (fun j => (m.getD i []).length - j) ⟨0, by omega, ?_⟩ fun j hj => ?_
  ·simp only [wn, wq, simprocAttr]
   try rfl
  repeat refine VW.seq ?_
  refine VW.regl hT fun K hK => ?_
  simp only [wq, simprocAttr]
  refine hK _ ?_
  clear hK K
  try refine vthen_n ?_
  repeat refine VW.seq ?_
  refine VW.cond rfl (fun hc => ?_) (fun hc => ?_)
  ·have hjl : j < (m.getD i []).length := by simpa using hc
   refine VW.skip (vthen_n ?_)
   repeat refine VW.seq ?_
   refine VW.block ?_
   repeat refine VW.seq ?_
   refine VW.regl hT fun K hK => ?_
   simp only [wq, simprocAttr]
   refine ⟨decide_eq_true ⟨Int.natCast_nonneg _, by show (j : Int) < ((m.getD i []).length : Int); omega⟩, ?_⟩
   refine hK _ ?_
   clear hK K
   try refine vthen_n ?_
   repeat refine VW.seq ?_
   refine VW.regl hT fun K hK => ?_
   simp only [wq, simprocAttr]
   refine vcall_of (one_vc _) ?_
   simp only [wq, simprocAttr]
   refine hK _ ?_
   clear hK K
   try refine vthen_n ?_
   show vthen _ _ _ .normal _
   refine vthen_n ?_
   repeat refine VW.seq ?_
   refine VW.regl hT fun K hK => ?_
   simp only [wq, simprocAttr]
   refine hK _ ?_
   clear hK K
   try refine vthen_n ?_
   refine ⟨j + 1, hjl, ?_, by show (m.getD i []).length - (j + 1) < (m.getD i []).length - j; omega⟩
   simp only [wn, wq, simprocAttr]
   rw [wrap64 (x := (j : Int) + 1) (by omega) (by omega), usedIn_succ _ hjl]
   rfl
  ·have hge : (m.getD i []).length ≤ j := by simpa using hc
   obtain rfl : j = (m.getD i []).length := by omega
   refine VW.exit ?_
   show vthen _ _ _ .normal _
   refine vthen_n ?_
   repeat refine VW.seq ?_
   refine VW.regl hT fun K hK => ?_
   simp only [wq, simprocAttr]
   refine hK _ ?_
   clear hK K
   try refine vthen_n ?_
   refine ⟨i + 1, hlt, ?_, by show m.length - (i + 1) < m.length - i; omega⟩
   simp only [wn, wq, simprocAttr]
   rw [wrap64 (x := (i : Int) + 1) (by omega) (by omega), List.take_length, usedM_succ hlt]
   rfl
 ·have hge : m.length ≤ i := by simpa using hc
  obtain rfl : i = m.length := by omega
  rw [List.take_length]
  refine VW.exit ?_
  show vthen _ _ _ .normal _
  refine vthen_n ?_
  have hu := usedM_r m
  have hbr := bridges_le t t.length
  have htot := sumW_r s
  have hcu := cutOff_le t g
  repeat refine VW.seq ?_
  refine VW.drawl hT hm (by kernel_rfl) fun K hK => ?_
  simp only [wq, simprocAttr]
  repeat refine ⟨by kernel_rfl, ?_⟩
  refine vcallD_of (formatInt_vc _ (by omega) (by omega)) ?_
  simp only [wq, simprocAttr]
  refine ⟨decide_eq_true (szI (by omega) [110, 111, 100, 101, 115, 32] (by decide)), ?_⟩
  repeat refine ⟨by kernel_rfl, ?_⟩
  refine vcallD_of (count_vc t hla) ?_
  simp only [wq, simprocAttr]
  repeat refine ⟨by kernel_rfl, ?_⟩
  refine vcallD_of (formatInt_vc _ (by omega) (by omega)) ?_
  simp only [wq, simprocAttr]
  refine ⟨decide_eq_true (szI (by omega) [98, 117, 115, 101, 115, 32] (by decide)), ?_⟩
  repeat refine ⟨by kernel_rfl, ?_⟩
  refine vcallD_of (total_vc s hlb) ?_
  simp only [wq, simprocAttr]
  repeat refine ⟨by kernel_rfl, ?_⟩
  refine vcallD_of (formatInt_vc _ (by omega) (by omega)) ?_
  simp only [wq, simprocAttr]
  refine ⟨decide_eq_true (szI (by omega) [114, 111, 111, 109, 32] (by decide)), ?_⟩
  repeat refine ⟨by kernel_rfl, ?_⟩
  refine vcallD_of (cutOff_vc t g hla) ?_
  simp only [wq, simprocAttr]
  repeat refine ⟨by kernel_rfl, ?_⟩
  refine vcallD_of (formatInt_vc _ (by omega) (by omega)) ?_
  simp only [wq, simprocAttr]
  refine ⟨decide_eq_true (szI (by omega) [99, 117, 116, 32] (by decide)), ?_⟩
  repeat refine ⟨by kernel_rfl, ?_⟩
  refine vcallD_of (formatInt_vc _ (by omega) (by omega)) ?_
  simp only [wq, simprocAttr]
  refine ⟨decide_eq_true (szI (by omega) [117, 115, 101, 100, 32] (by decide)), ?_⟩
  repeat refine ⟨by kernel_rfl, ?_⟩
  refine hK _ ?_
  clear hK K
  try refine vthen_n ?_
  refine VW.ret ⟨.inl rfl, _, rfl, ?_⟩
  simp only [lines, ← bs_app]
  rfl
set_option maxRecDepth 20000 in
set_option maxHeartbeats 4000000 in
theorem specFmtFab_vc (x : Fab) (hx : FabL x) : VC Tryz.prog 14 [.v true sFi x] (· = .root (.val false) sSt .own (fmtFab x)) := by
 have hok0 := specFabricOk_vc x hx
 have hf : fmtFab x = if fabOk x = true then lines x else [] := rfl
 obtain ⟨t, s, b, m, g⟩ := x
 have hla : t.length ≤ 2000000 := hx.a
 have hlb : s.length ≤ 2000000 := hx.b
 have hld : m.length ≤ 2000000 := hx.d
 have hle : ∀ k, (m.getD k []).length ≤ 2000000 := hx.e
 refine VC.of_body hT Tryz.func14 rfl (by kernel_rfl) [(.tmp 2, false, sSt)] (by kernel_rfl) ?_
 show VW _ _ ([.v true sFi (t, s, b, m, g), D, D, D, D, D, D, D, D, D, D, D, D, D, D, D, D, D, D, D, D, D, D, D, D, D, D, D, D, D, D, D, D, D, D, D, D, D, D, D, D, D, D, D, D, D, D, D, D, D, D, D, D, D, D, D, D, D, D, D, D, D, D, D, D]) _
 repeat refine VW.seq ?_
 refine VW.regl hT fun K hK => ?_
 simp only [wq, simprocAttr]
 refine hK _ ?_
 clear hK K
 try refine vthen_n ?_
 repeat refine VW.seq ?_
 refine VW.regl hT fun K hK => ?_
 simp only [wq, simprocAttr]
 refine vcall_of hok0 ?_
 simp only [wq, simprocAttr]
 refine hK _ ?_
 clear hK K
 try refine vthen_n ?_
 repeat refine VW.seq ?_
 refine VW.cond rfl (fun hc => ?_) (fun hc => ?_)
 ·repeat refine VW.seq ?_
  refine VW.regl hT fun K hK => ?_
  simp only [wq, simprocAttr]
  refine hK _ ?_
  clear hK K
  try refine vthen_n ?_
  refine VW.ret ⟨.inl rfl, _, rfl, ?_⟩
  have hc : fabOk (t, s, b, m, g) = false := (Bool.not_eq_true' _).mp hc
  rw [hf, if_neg (by rw [hc]; decide)]
  rfl
 have hok : fabOk (t, s, b, m, g) = true := (Bool.not_eq_false' _).mp hc
 rw [hf, if_pos hok]
 refine VW.skip (vthen_n ?_)
 repeat refine VW.seq ?_
 refine VW.regl hT fun K hK => ?_
 simp only [wq, simprocAttr]
 refine hK _ ?_
 clear hK K
 try refine vthen_n ?_
 repeat refine VW.seq ?_
 refine VW.regl hT fun K hK => ?_
 simp only [wq, simprocAttr]
 refine hK _ ?_
 clear hK K
 try refine vthen_n ?_
 repeat refine VW.seq ?_
 refine VW.block ?_
 refine VW.loop (α := Nat) [(1, none), (3, none), (4, none)] (fun i => [D, .root (.box 32) sFi .fz (t, s, b, m, g), D, .v false (.int .i64) (usedM (m.take i)), .v false (.int .i64) (i), D, D, D, D, D, D, D, D, D, D, D, D, D, D, D, D, D, D, D, D, D, D, D, D, D, D, D, D, D, D, D, D, D, D, D, D, D, D, D, D, D, D, D, D, D, D, D, D, D, D, D, D, D, D, D, D, D, D, D, D]) (fun i => i ≤ m.length) (fun i => m.length - i) ⟨0, by omega, ?_⟩ fun i hi => ?_
 ·simp only [wn, wq, simprocAttr]
  try rfl
 repeat refine VW.seq ?_
 refine VW.regl hT fun K hK => ?_
 simp only [wq, simprocAttr]
 refine hK _ ?_
 clear hK K
 try refine vthen_n ?_
 repeat refine VW.seq ?_
 refine VW.cond rfl (fun hc => ?_) (fun hc => ?_)
 ·have hlt : i < m.length := by simpa using hc
  have hle := hle i
  refine VW.skip (vthen_n ?_)
  repeat refine VW.seq ?_
  refine VW.block ?_
  have hr0 := usedM_r (m.take i)
  repeat refine VW.seq ?_
  refine VW.regl hT fun K hK => ?_
  simp only [wq, simprocAttr]
  refine hK _ ?_
  clear hK K
  try refine vthen_n ?_
  repeat refine VW.seq ?_
  refine VW.block ?_
  refine VW.loop (α := Nat) [(1, none), (3, none), (4, none), (5, none)] (fun j => [D, .root (.box 32) sFi .fz (t, s, b, m, g), D, .v false (.int .i64) (usedIn (usedM (m.take i)) ((m.getD i []).take j)), .v false (.int .i64) (i), .v false (.int .i64) (j), D, D, D, D, D, D, D, D, D, D, D, D, D, D, D, D, D, D, D, D, D, D, D, D, D, D, D, D, D, D, D, D, D, D, D, D, D, D, D, D, D, D, D, D, D, D, D, D, D, D, D, D, D, D, D, D, D, D, D]) (fun j => j ≤ (m.getD i []).length) (fun j => (m.getD i []).length - j) ⟨0, by omega, ?_⟩ fun j hj => ?_
  ·simp only [wn, wq, simprocAttr]
   try rfl
  have hri := usedIn_r ((m.getD i []).take j) _ hr0
  repeat refine VW.seq ?_
  refine VW.regl hT fun K hK => ?_
  simp only [wq, simprocAttr]
  refine ⟨decide_eq_true ⟨Int.natCast_nonneg _, by show (i : Int) < (m.length : Int); omega⟩, ?_⟩
  refine hK _ ?_
  clear hK K
  try refine vthen_n ?_
  repeat refine VW.seq ?_
  refine VW.cond rfl (fun hc => ?_) (fun hc => ?_)
  ·have hjl : j < (m.getD i []).length := by simpa using hc
   refine VW.skip (vthen_n ?_)
   repeat refine VW.seq ?_
   refine VW.block ?_
   repeat refine VW.seq ?_
   refine VW.regl hT fun K hK => ?_
   simp only [wq, simprocAttr]
   refine ⟨decide_eq_true ⟨Int.natCast_nonneg _, by show (i : Int) < (m.length : Int); omega⟩, decide_eq_true ⟨Int.natCast_nonneg _, by show (j : Int) < ((m.getD i []).length : Int); omega⟩, ?_⟩
   refine hK _ ?_
   clear hK K
   try refine vthen_n ?_
   repeat refine VW.seq ?_
   refine VW.cond rfl (fun hc => ?_) (fun hc => ?_)
   ·have hc : (((m.getD i []).getD j 0) == 0) = false := (Bool.not_eq_true' _).mp hc
    repeat refine VW.seq ?_
    refine VW.regl hT fun K hK => ?_
    simp only [wq, simprocAttr]
    refine hK _ ?_
    clear hK K
    try refine vthen_n ?_
    show vthen _ _ _ .normal _
    refine vthen_n ?_
    repeat refine VW.seq ?_
    refine VW.regl hT fun K hK => ?_
    simp only [wq, simprocAttr]
    refine hK _ ?_
    clear hK K
    try refine vthen_n ?_
    refine ⟨j + 1, hjl, ?_, by show (m.getD i []).length - (j + 1) < (m.getD i []).length - j; omega⟩
    simp only [wn, wq, simprocAttr]
    rw [wrap64 (x := (j : Int) + 1) (by omega) (by omega), usedIn_succ _ hjl, if_pos hc]
    rfl
   ·have hc : (((m.getD i []).getD j 0) == 0) = true := (Bool.not_eq_false' _).mp hc
    refine VW.skip ?_
    show vthen _ _ _ .normal _
    refine vthen_n ?_
    repeat refine VW.seq ?_
    refine VW.regl hT fun K hK => ?_
    simp only [wq, simprocAttr]
    refine hK _ ?_
    clear hK K
    try refine vthen_n ?_
    refine ⟨j + 1, hjl, ?_, by show (m.getD i []).length - (j + 1) < (m.getD i []).length - j; omega⟩
    simp only [wn, wq, simprocAttr]
    rw [wrap64 (x := (j : Int) + 1) (by omega) (by omega), usedIn_succ _ hjl, if_neg (by rw [hc]; decide), Int.add_zero, wrap64 hri.1 hri.2]
    rfl
  ·have hge : (m.getD i []).length ≤ j := by simpa using hc
   obtain rfl : j = (m.getD i []).length := by omega
   refine VW.exit ?_
   show vthen _ _ _ .normal _
   refine vthen_n ?_
   repeat refine VW.seq ?_
   refine VW.regl hT fun K hK => ?_
   simp only [wq, simprocAttr]
   refine hK _ ?_
   clear hK K
   try refine vthen_n ?_
   refine ⟨i + 1, hlt, ?_, by show m.length - (i + 1) < m.length - i; omega⟩
   simp only [wn, wq, simprocAttr]
   rw [wrap64 (x := (i : Int) + 1) (by omega) (by omega), List.take_length, usedM_succ hlt]
   rfl
 ·have hge : m.length ≤ i := by simpa using hc
  obtain rfl : i = m.length := by omega
  rw [List.take_length]
  refine VW.exit ?_
  show vthen _ _ _ .normal _
  refine vthen_n ?_
  have hu := usedM_r m
  have hbr := bridges_le t t.length
  have htot := sumW_r s
  have hcu := cutOff_le t g
  repeat refine VW.seq ?_
  refine VW.drawl hT hm (by kernel_rfl) fun K hK => ?_
  simp only [wq, simprocAttr]
  repeat refine ⟨by kernel_rfl, ?_⟩
  refine vcallD_of (specFormatInt_vc _ (by omega) (by omega)) ?_
  simp only [wq, simprocAttr]
  refine ⟨decide_eq_true (szI (by omega) [110, 111, 100, 101, 115, 32] (by decide)), ?_⟩
  repeat refine ⟨by kernel_rfl, ?_⟩
  refine vcallD_of (specCount_vc t hla) ?_
  simp only [wq, simprocAttr]
  repeat refine ⟨by kernel_rfl, ?_⟩
  refine vcallD_of (specFormatInt_vc _ (by omega) (by omega)) ?_
  simp only [wq, simprocAttr]
  refine ⟨decide_eq_true (szI (by omega) [98, 117, 115, 101, 115, 32] (by decide)), ?_⟩
  repeat refine ⟨by kernel_rfl, ?_⟩
  refine vcallD_of (specTotal_vc s hlb) ?_
  simp only [wq, simprocAttr]
  repeat refine ⟨by kernel_rfl, ?_⟩
  refine vcallD_of (specFormatInt_vc _ (by omega) (by omega)) ?_
  simp only [wq, simprocAttr]
  refine ⟨decide_eq_true (szI (by omega) [114, 111, 111, 109, 32] (by decide)), ?_⟩
  repeat refine ⟨by kernel_rfl, ?_⟩
  refine vcallD_of (specCutOff_vc t g hla) ?_
  simp only [wq, simprocAttr]
  repeat refine ⟨by kernel_rfl, ?_⟩
  refine vcallD_of (specFormatInt_vc _ (by omega) (by omega)) ?_
  simp only [wq, simprocAttr]
  refine ⟨decide_eq_true (szI (by omega) [99, 117, 116, 32] (by decide)), ?_⟩
  repeat refine ⟨by kernel_rfl, ?_⟩
  refine vcallD_of (specFormatInt_vc _ (by omega) (by omega)) ?_
  simp only [wq, simprocAttr]
  refine ⟨decide_eq_true (szI (by omega) [117, 115, 101, 100, 32] (by decide)), ?_⟩
  repeat refine ⟨by kernel_rfl, ?_⟩
  refine hK _ ?_
  clear hK K
  try refine vthen_n ?_
  refine VW.ret ⟨.inl rfl, _, rfl, ?_⟩
  simp only [lines, ← bs_app]
  rfl
end Go.Proofs.YtoeblmcibheldaaGreatDoor.V.W
end

/- Texts F16 G1 G2 G3 Y1 F17 F18 F19 N3 E1 E4 N6 N7 N8 W7 Q1 H1 H2 K1 K2 K4 G4 G5 F20 C1 F21 N17 Q2 W8 W9 W11 D2 U1 N5 N4 N9 F23 N11 D3 U3 N12 S4 Q5 K8 in one. No condition. -/
import Derived.Test.YtoeblmcibheldaaGreatDoorZReports4
import Derived.Orders
import Derived.Laws.BytesArg
import Derived.Lib.ItoaNum
import Derived.Lib.ItoaLen
import Derived.Shelf.Strconv.Itoa0
import Derived.Shelf.Strconv.Itoa1
import Derived.Shelf.LaysM
import Derived.Shelf.Strconv.Itoa2
import Derived.Shelf.Strconv.Itoa3
import Derived.Test.YtoeblmcibheldaaGreatDoorProg
import Derived.Lib.AppendIntMem
import Derived.Lib.LaidU8
import Derived.OpenShut
set_option linter.unnecessarySimpa false
set_option linter.unusedSimpArgs false
set_option linter.unusedVariables false
section
namespace Go.Proofs.YtoeblmcibheldaaGreatDoor.V.W
open Go Go.RowKit
set_option maxRecDepth 20000 in
set_option maxHeartbeats 1000000 in
theorem specEnum_vc (t : List Nd) (hl : t.length ≤ 2000000) : VC Tryz.prog 119 [.v false sNS t] (fun pv => if treeOk t = true then ∃ x, pv = rNum (.pr .own (.pr .own .own)) x true else pv = rNum .own ([], [], []) false) := by
 refine VC.of_body hT Tryz.func119 rfl (by kernel_rfl) [(.cell 2 145, true, sI3), (.tmp 3, false, .bool)] (by kernel_rfl) ?_
 show VW _ _ ([.v false sNS t, D, D, D, D, D, D, D, D, D, D, D, D, D, D, D, D, D, D, D, D, D, D, D, D, D, D, D, D, D, D, D, D, D, D, D, D, D, D, D, D, D, D, D]) _
 repeat refine VW.seq ?_
 refine VW.regl hT fun K hK => ?_
 simp only [wq, Nat.reduceMul, reduceCtorEq, Nat.reduceBEq, Nat.reduceAdd, Nat.reduceLT, Nat.reduceLeDiff, Nat.reduceSub, Nat.reduceEqDiff]
 refine hK _ ?_
 clear hK K
 try refine vthen_n ?_
 repeat refine VW.seq ?_
 refine VW.regl hT fun K hK => ?_
 simp only [wq, Nat.reduceMul, reduceCtorEq, Nat.reduceBEq, Nat.reduceAdd, Nat.reduceLT, Nat.reduceLeDiff, Nat.reduceSub, Nat.reduceEqDiff]
 refine vcall_of (specTreeOk_vc t hl) ?_
 simp only [wq, Nat.reduceMul, reduceCtorEq, Nat.reduceBEq, Nat.reduceAdd, Nat.reduceLT, Nat.reduceLeDiff, Nat.reduceSub, Nat.reduceEqDiff]
 refine hK _ ?_
 clear hK K
 try refine vthen_n ?_
 repeat refine VW.seq ?_
 refine VW.cond rfl (fun hc => ?_) (fun hc => ?_)
 ·repeat refine VW.seq ?_
  refine VW.regl hT fun K hK => ?_
  simp only [wq, Nat.reduceMul, reduceCtorEq, Nat.reduceBEq, Nat.reduceAdd, Nat.reduceLT, Nat.reduceLeDiff, Nat.reduceSub, Nat.reduceEqDiff]
  refine hK _ ?_
  clear hK K
  try refine vthen_n ?_
  refine VW.ret ⟨.inl rfl, _, rfl, ?_⟩
  have h' : treeOk t = false := (Bool.not_eq_true' _).mp hc
  rw [if_neg (by rw [h']; decide)]
 have hok : treeOk t = true := by
  have := hc
  rwa [Bool.not_eq_false'] at this
 have htl := treeOk_len hok
 refine VW.skip (vthen_n ?_)
 repeat refine VW.seq ?_
 refine VW.regl hT fun K hK => ?_
 simp only [wq, Nat.reduceMul, reduceCtorEq, Nat.reduceBEq, Nat.reduceAdd, Nat.reduceLT, Nat.reduceLeDiff, Nat.reduceSub, Nat.reduceEqDiff]
 refine hK _ ?_
 clear hK K
 try refine vthen_n ?_
 repeat refine VW.seq ?_
 refine VW.regl hT fun K hK => ?_
 simp only [wq, Nat.reduceMul, reduceCtorEq, Nat.reduceBEq, Nat.reduceAdd, Nat.reduceLT, Nat.reduceLeDiff, Nat.reduceSub, Nat.reduceEqDiff]
 refine hK _ ?_
 clear hK K
 try refine vthen_n ?_
 refine VW.retag (ι := Unit) (g := 4) (fun _ => fI3) _ rfl (fun w Z cs B h => ⟨(), h⟩) (fun j => by simp only [wq, Nat.reduceMul, reduceCtorEq, Nat.reduceBEq, Nat.reduceAdd, Nat.reduceLT, Nat.reduceLeDiff, Nat.reduceSub, Nat.reduceEqDiff]; rfl) (fun _ => ?_)
 repeat refine VW.seq ?_
 refine VW.block ?_
 refine VW.loop (α := Nat × I3) [(0, none), (2, none), (4, none), (5, none)] (fun p => [.v false sNS t, D, .root (.box 145) sI3 .own ([], [], []), D, .root (.box 145) sI3 fI3 p.2, .v false (.int .i64) ((p.1 : Nat)), D, D, D, D, D, D, D, D, D, D, D, D, D, D, D, D, D, D, D, D, D, D, D, D, D, D, D, D, D, D, D, D, D, D, D, D, D, D]) (fun p => p.1 ≤ t.length ∧ Len3 p.1 p.2) (fun p => t.length - p.1) ⟨(0, [], [], []), ⟨by omega, rfl, rfl, rfl⟩, ?_⟩ fun ⟨i, b, s, l⟩ ⟨hi, hb, hs, hl⟩ => ?_
 ·simp only [wn, wq, Nat.reduceMul, reduceCtorEq, Nat.reduceBEq, Nat.reduceAdd, Nat.reduceLT, Nat.reduceLeDiff, Nat.reduceSub, Nat.reduceEqDiff]
  try rfl
 have hi : i ≤ t.length := hi
 have hb : b.length = i := hb
 have hs : s.length = i := hs
 have hl : l.length = i := hl
 repeat refine VW.seq ?_
 refine VW.regl hT fun K hK => ?_
 simp only [wq, Nat.reduceMul, reduceCtorEq, Nat.reduceBEq, Nat.reduceAdd, Nat.reduceLT, Nat.reduceLeDiff, Nat.reduceSub, Nat.reduceEqDiff]
 refine hK _ ?_
 clear hK K
 try refine vthen_n ?_
 repeat refine VW.seq ?_
 refine VW.cond rfl (fun hc => ?_) (fun hc => ?_)
 ·have hlt : i < t.length := by simpa using hc
  refine VW.skip (vthen_n ?_)
  repeat refine VW.seq ?_
  refine VW.block ?_
  repeat refine VW.seq ?_
  refine VW.regl hT fun K hK => ?_
  simp only [wq, Nat.reduceMul, reduceCtorEq, Nat.reduceBEq, Nat.reduceAdd, Nat.reduceLT, Nat.reduceLeDiff, Nat.reduceSub, Nat.reduceEqDiff]
  refine ⟨by simp [limOk]; omega, ?_⟩
  refine hK _ ?_
  clear hK K
  try refine vthen_n ?_
  repeat refine VW.seq ?_
  refine VW.regl hT fun K hK => ?_
  simp only [wq, Nat.reduceMul, reduceCtorEq, Nat.reduceBEq, Nat.reduceAdd, Nat.reduceLT, Nat.reduceLeDiff, Nat.reduceSub, Nat.reduceEqDiff]
  refine ⟨by simp [limOk]; omega, ?_⟩
  refine hK _ ?_
  clear hK K
  try refine vthen_n ?_
  repeat refine VW.seq ?_
  refine VW.regl hT fun K hK => ?_
  simp only [wq, Nat.reduceMul, reduceCtorEq, Nat.reduceBEq, Nat.reduceAdd, Nat.reduceLT, Nat.reduceLeDiff, Nat.reduceSub, Nat.reduceEqDiff]
  refine ⟨by simp [limOk]; omega, ?_⟩
  refine hK _ ?_
  clear hK K
  try refine vthen_n ?_
  repeat refine VW.seq ?_
  refine VW.regl hT fun K hK => ?_
  simp only [wq, Nat.reduceMul, reduceCtorEq, Nat.reduceBEq, Nat.reduceAdd, Nat.reduceLT, Nat.reduceLeDiff, Nat.reduceSub, Nat.reduceEqDiff]
  refine hK _ ?_
  clear hK K
  try refine vthen_n ?_
  refine ⟨(i + 1, b ++ [0], s ++ [-1], l ++ [-1]), ⟨hlt, by show (b ++ [0]).length = i + 1; simp [hb], by show (s ++ [-1]).length = i + 1; simp [hs], by show (l ++ [-1]).length = i + 1; simp [hl]⟩, ?_, by show t.length - (i + 1) < t.length - i; omega⟩
  simp only [wn, wq, Nat.reduceMul, reduceCtorEq, Nat.reduceBEq, Nat.reduceAdd, Nat.reduceLT, Nat.reduceLeDiff, Nat.reduceSub, Nat.reduceEqDiff]
  rw [wrap64 (by omega) (by omega)]
  try rfl
 ·have hge : i = t.length := by
   have : t.length ≤ i := by simpa using hc
   omega
  subst hge
  have hs0 := subs_root hok
  refine VW.exit ?_
  show vthen _ _ _ .normal _
  refine vthen_n ?_
  repeat refine VW.seq ?_
  refine VW.regl hT fun K hK => ?_
  simp only [wq, Nat.reduceMul, reduceCtorEq, Nat.reduceBEq, Nat.reduceAdd, Nat.reduceLT, Nat.reduceLeDiff, Nat.reduceSub, Nat.reduceEqDiff]
  refine ⟨decide_eq_true ⟨by decide, by show (0 : Int) < (b.length : Int); omega⟩, ?_⟩
  refine hK _ ?_
  clear hK K
  try refine vthen_n ?_
  repeat refine VW.seq ?_
  refine VW.regl hT fun K hK => ?_
  simp only [wq, Nat.reduceMul, reduceCtorEq, Nat.reduceBEq, Nat.reduceAdd, Nat.reduceLT, Nat.reduceLeDiff, Nat.reduceSub, Nat.reduceEqDiff]
  refine ⟨decide_eq_true ⟨by decide, by show (0 : Int) < (s.length : Int); omega⟩, ?_⟩
  refine hK _ ?_
  clear hK K
  try refine vthen_n ?_
  have hb' : (b.set (Int.toNat 0) (-1)).length = t.length := by rw [List.length_set]; exact hb
  have hs' : (s.set (Int.toNat 0) 0).length = t.length := by rw [List.length_set]; exact hs
  generalize b.set (Int.toNat 0) (-1) = b' at hb' ⊢
  generalize s.set (Int.toNat 0) 0 = s' at hs' ⊢
  repeat refine VW.seq ?_
  refine VW.regl hT fun K hK => ?_
  simp only [wq, Nat.reduceMul, reduceCtorEq, Nat.reduceBEq, Nat.reduceAdd, Nat.reduceLT, Nat.reduceLeDiff, Nat.reduceSub, Nat.reduceEqDiff]
  refine vcall_io 1 ?_
  simp only [wq, Nat.reduceMul, reduceCtorEq, Nat.reduceBEq, Nat.reduceAdd, Nat.reduceLT, Nat.reduceLeDiff, Nat.reduceSub, Nat.reduceEqDiff]
  refine vxcall_ex (svisit_vx hok t.length 0 (by omega) (by omega) (b', s', l) 0 ⟨hb', hs', hl⟩ (by omega)) ?_
  rintro pv ot ⟨rfl, x, hx, rfl⟩
  simp only [wq, Nat.reduceMul, reduceCtorEq, Nat.reduceBEq, Nat.reduceAdd, Nat.reduceLT, Nat.reduceLeDiff, Nat.reduceSub, Nat.reduceEqDiff]
  refine hK _ ?_
  clear hK K
  try refine vthen_n ?_
  repeat refine VW.seq ?_
  refine VW.cond rfl (fun hc => ?_) (fun hc => ?_)
  ·have hc : ((subs t 0 : Nat) : Int) > 15 := of_decide_eq_true hc
   omega
  refine VW.skip (vthen_n ?_)
  repeat refine VW.seq ?_
  refine VW.regl hT fun K hK => ?_
  simp only [wq, Nat.reduceMul, reduceCtorEq, Nat.reduceBEq, Nat.reduceAdd, Nat.reduceLT, Nat.reduceLeDiff, Nat.reduceSub, Nat.reduceEqDiff]
  refine hK _ ?_
  clear hK K
  try refine vthen_n ?_
  refine VW.ret ⟨.inl rfl, _, rfl, ?_⟩
  rw [if_pos hok]
  exact ⟨x, rfl⟩
end Go.Proofs.YtoeblmcibheldaaGreatDoor.V.W
end
section
namespace Go.Proofs.YtoeblmcibheldaaGreatDoor.V.W
open Go Go.RowKit
theorem row_eq {α : Type} {xs ys : List α} (z : α) (hlen : xs.length = ys.length) (h : ∀ k, k < xs.length → xs.getD k z = ys.getD k z) : xs = ys := by
 apply List.ext_getElem hlen
 intro k h1 h2
 have := h k h1
 simpa [List.getD_eq_getElem?_getD, h1, h2] using this
abbrev sII : Sh := .sl 25 sI
def _root_.Go.Proofs.YtoeblmcibheldaaGreatDoor.V.Sh.scal : Sh → Bool
 | .int _ => true
 | .bool => true
 | .unit => true
 | .pr a b => a.scal && b.scal
 | _ => false
theorem eqv_eq : ∀ {s : Sh} {x y : s.ty}, s.scal = true → (eqv s x y = true ↔ x = y)
 | .unit, _, _, _ => ⟨fun _ => rfl, fun _ => rfl⟩
 | .int _, x, y, _ => by simp [eqv]
 | .bool, x, y, _ => by simp [eqv]
 | .pr a b, x, y, h => by
  simp only [Sh.scal, Bool.and_eq_true] at h
  simp only [eqv, Bool.and_eq_true, eqv_eq h.1, eqv_eq h.2]
  exact ⟨fun ⟨p, q⟩ => Prod.ext p q, fun e => by rw [e]; exact ⟨rfl, rfl⟩⟩
end Go.Proofs.YtoeblmcibheldaaGreatDoor.V.W
end
section
namespace Go.Proofs.YtoeblmcibheldaaGreatDoor.V.W
open Go Go.RowKit
end Go.Proofs.YtoeblmcibheldaaGreatDoor.V.W
end
section
namespace Go.Proofs.YtoeblmcibheldaaGreatDoor.V.W
open Go Go.RowKit
abbrev sG : Sh := .sl 4 .bool
abbrev sFi : Sh := .pr (.sl 68 (.pr (.int .i64) (.pr (.int .i64) (.int .i64)))) (.pr (.sl 3 (.int .i64)) (.pr (.sl 110 (.pr (.int .i64) (.int .i64))) (.pr (.sl 25 (.sl 3 (.int .i64))) sG)))
abbrev Fab := List (Int × Int × Int) × List Int × List (Int × Int) × List (List Int) × List Bool
structure FabB (x : Fab) : Prop where
 a : x.1.length * 24 ≤ 140737488351232
 b : x.2.1.length * 8 ≤ 140737488351232
 c : x.2.2.1.length * 16 ≤ 140737488351232
 d : x.2.2.2.1.length * 24 ≤ 140737488351232
 e : ∀ k, (x.2.2.2.1.getD k []).length * 8 ≤ 140737488351232
 f : x.2.2.2.2.length * 1 ≤ 140737488351232
end Go.Proofs.YtoeblmcibheldaaGreatDoor.V.W
end
section
namespace Go.Proofs.YtoeblmcibheldaaGreatDoor.V
open Go Go.RowKit
/-- what is listed, as a number -/
def arr (n m : Nat) : Array Bool := Array.ofFn (n := n) fun i => m.testBit i
theorem arr_size (n m : Nat) : (arr n m).size = n := by simp [arr]
theorem arr_get (n m j : Nat) : (arr n m).getD j false = (decide (j < n) && m.testBit j) := by
 by_cases h : j < n
 ·simp [arr, Array.getD, h]
 ·simp [arr, Array.getD, h]
theorem arr_el {n m j : Nat} (h : j < (arr n m).size) : (arr n m)[j] = m.testBit j := by simp [arr]
theorem arr_set {n m i : Nat} (hi : i < n) : (arr n m).setIfInBounds i true = arr n (m ||| 2 ^ i) := by
 apply Array.ext
 ·rw [Array.size_setIfInBounds, arr_size, arr_size]
 ·intro j h1 h2
  have h3 : j < (arr n m).size := by rw [arr_size]; rwa [arr_size] at h2
  rw [Array.getElem_setIfInBounds h3, arr_el h2, Nat.testBit_or]
  by_cases e : i = j
  ·subst e; simp
  ·rw [arr_size] at h2
   rw [if_neg e, arr_el (by rw [arr_size]; exact h2), Nat.testBit_two_pow_of_ne e, Bool.or_false]
def chk (ops : Array Oper) (m : Nat) (ps : List (Nat × Nat)) : Bool := (Region.ready .any ops (arr ops.size m) == ps.map (·.1)) && ps.all fun p => (m ||| 2 ^ p.1 == p.2)
def takeChk (ops : Array Oper) (m i m' : Nat) : Bool := Region.noSelect ops && (Region.free .any ops (arr ops.size m) i && ((Region.ready .any ops (arr ops.size m)).contains i && (m ||| 2 ^ i == m')))
def twoChk (ops : Array Oper) (m i j m' : Nat) : Bool := (Region.ready .any ops (arr ops.size m) == [i]) && ((Region.ready .any ops (arr ops.size (m ||| 2 ^ i)) == [j]) && (m ||| 2 ^ i ||| 2 ^ j == m'))
def doneChk (ops : Array Oper) (m : Nat) : Bool := Region.ready .any ops (arr ops.size m) == []
section
variable {P : Program} {T : List (Nat × TI)} {ops : Array Oper}
/-- one operation -/
def vone (P : Program) (T : List (Nat × TI)) (ops : Array Oper) (i : Nat) (st0 : St) (K : St → Prop) : Prop :=
 match ops[i]? with
 | some o => @vguard st0 ops o ⟨fun run st => match run with
  | true => @vread P T st o ⟨fun st1 pv => nonroot st1 o.dst = true ∧ K (setD st1 o.dst pv)⟩
  | false => nonroot st o.dst = true ∧ K (setD st o.dst skipPV)⟩
 | none => True
def vpure (ops : Array Oper) (i : Nat) (st : St) (K : St → Prop) : Prop :=
 match ops[i]? with
 | some o => @vfloat (pureOp st o) ⟨fun pv => nonroot st o.dst = true ∧ K (setD st o.dst pv)⟩
 | none => True
def popped : Option Out → Bool
 | some _ => true
 | none => false
def isFld (st : St) (o : Oper) : Bool := match o.guard with
 | some _ => false
 | none => match o.op with
  | .fieldAddr _ x _ => match ref st x with
   | .adr _ _ => true
   | _ => false
  | _ => false
def vfld (P : Program) (T : List (Nat × TI)) (ops : Array Oper) (i : Nat) (st : St) (K : St → Prop) : Prop :=
 match ops[i]? with
 | some o => isFld st o = true ∧ popped (pop T st st o) = true ∧ @vread P T st o ⟨fun st1 pv => nonroot st1 o.dst = true ∧ K (setD st1 o.dst pv)⟩
 | none => True
def vall (P : Program) (T : List (Nat × TI)) (ops : Array Oper) (W : Nat → St → Prop) (st : St) : List (Nat × Nat) → Prop
 | [] => True
 | p :: r => vone P T ops p.1 st (W p.2) ∧ vall P T ops W st r
/-- two operations, one behind the other, the first without effect -/
def Does2 (P : Program) (o1 o2 : Oper) (st st' : St) : Prop := ∀ (L : Lay) (a : Act) (w : World) (next : Act → World → Prop) (Q : Exit → Act → World → Prop), Rel L st a w Free → (∀ L' a' w', Stp L L' w w' → Rel L' st' a' w' Free → next a' w') → ∃ v, (execOp a.eval o1).run P w = .ok (.value v) w ∧ o2.wp P (a.put o1.dst v) w next Q
/-- how one goes on in a region in any order -/
structure Ruled (P : Program) (T : List (Nat × TI)) (ops : Array Oper) (K : St → Prop) (W : Nat → St → Prop) : Prop where
 done : ∀ (m : Nat) (st : St), doneChk ops m = true → K st → W m st
 all : ∀ (m : Nat) (ps : List (Nat × Nat)) (st : St), chk ops m ps = true → ps ≠ [] → vall P T ops W st ps → W m st
 take : ∀ (m i m' : Nat) (st : St), takeChk ops m i m' = true → vpure ops i st (W m') → W m st
 takeF : ∀ (m i m' : Nat) (st : St), takeChk ops m i m' = true → vfld P T ops i st (W m') → W m st
 two : ∀ (m i j m' : Nat) (st st' : St) (o1 o2 : Oper), ops[i]? = some o1 → ops[j]? = some o2 → o1.guard = none → o2.guard = none → twoChk ops m i j m' = true → Does2 P o1 o2 st st' → W m' st' → W m st
theorem fld_pure (hT : TabOk P T) {L : Lay} {st : St} {a : Act} {w : World} (h : Rel L st a w Free) {o : Oper} {t n : Nat} {x : Operand} {g : Nat} {p : Path} {out : Out} (ho : o.op = .fieldAddr t x n) (hx : ref st x = .adr g p) (hg0 : o.guard = none) (hp : pop T st st o = some out) : ∃ v, Yields P ops o v a ∧ ORep L st w out.pv v ∧ out.pv.isRoot = false ∧ out.st = st := by
 have hw : Region.wanted o (yielded ops a.tmps) = true := by unfold Region.wanted; rw [hg0]
 unfold pop at hp
 rw [ho] at hp
 simp only at hp
 have hv := h.opnd x
 split at hp
 ·rename_i i hi
  have hTt := hT t i hi
  rw [hx] at hp hv
  simp only at hp
  split at hp
  ·rename_i s f y hl
   split at hp
   ·rename_i hc
    obtain ⟨hs, hn, hag⟩ := hc
    obtain rfl := (Option.some.inj hp)
    obtain ⟨s1, cs1, A, q1, q2⟩ := hv
    obtain rfl := q1.shape hl
    subst hs
    obtain ⟨fs, u1, u2, u3⟩ := hTt.str hag
    obtain ⟨fd, agg1, s1, of, fi, v1, v2, v3, v4, v5, v6, v7, v8, v9, v10⟩ := (u3 n hn).ex
    obtain ⟨k1, ⟨f2, x2, k2⟩, k3, k4, k5⟩ := field_at n i.nf v3 f y
    obtain ⟨_, _, B1, _, m4⟩ := h.place q1 hl
    refine ⟨.pointer (some (A.add of)), .inl ⟨hw, fun w' => ?_⟩, ⟨s1, (cs1.drop of).take s1.size, A.add of, q1.app hl k1 k2 (k4 w cs1 (some A) m4.len), rfl⟩, rfl, rfl⟩
    have hne : ¬ s1.size = 0 := by omega
    simp [execOp, ho, Instr.fieldAt, run_underlying u1, v1, Instr.sureAddr, q2, fieldPlace, run_size v5, v6, hne, v4]
   ·cases hp
  ·cases hp
 ·cases hp
theorem vall_mem {W : Nat → St → Prop} {st : St} : ∀ {ps : List (Nat × Nat)} {p : Nat × Nat}, vall P T ops W st ps → p ∈ ps → vone P T ops p.1 st (W p.2)
 | q :: r, p, h, hp => by
  rcases List.mem_cons.1 hp with rfl | hp
  ·exact h.1
  ·exact vall_mem h.2 hp
theorem cnt_set {n m i : Nat} (hi : i < n) (hb : (arr n m).getD i false = false) : cntU n (fun j => !(arr n (m ||| 2 ^ i)).getD j false) + 1 = cntU n (fun j => !(arr n m).getD j false) := by
 refine cntU_flip n (i := i) hi (by simp only [hb]; rfl) ?_ fun j hj => ?_
 ·show (!(arr n (m ||| 2 ^ i)).getD i false) = false
  rw [arr_get, Nat.testBit_or, Nat.testBit_two_pow_self, decide_eq_true hi]
  simp
 ·show (!(arr n (m ||| 2 ^ i)).getD j false) = (!(arr n m).getD j false)
  rw [arr_get, arr_get, Nat.testBit_or, Nat.testBit_two_pow_of_ne (fun e => hj e.symm), Bool.or_false]
theorem cnt_zero {n m : Nat} (h : cntU n (fun j => !(arr n m).getD j false) = 0) {i : Nat} (hi : i < n) : (arr n m).getD i false = true := by
 have := cntU_zero n h i hi
 simpa using this
theorem VW.any (hT : TabOk P T) (hm : P.follows .mixedOrders = true) {id : Nat} {st : St} {Q : Exit → St → Prop} (h : ∀ (K : St → Prop), (∀ s, Q .normal s → K s) → ∀ W : Nat → St → Prop, Ruled P T ops K W → W 0 st) : VW P (.region id ops true) st Q := by
 intro L a w hr
 refine wp_mono (Q := fun e a' w' => match e with | .normal => ∃ L' st', Stp L L' w w' ∧ Rel L' st' a' w' Free ∧ Q .normal st' | _ => False) ?_ (fun e a' w' hq => ?_)
 case refine_2 =>
  cases e with
  | normal => exact hq
  | _ => exact hq.elim
 refine wp_region_any hm ?_
 have hx : Ext w { w with drawn := w.drawn + 1 } := Ext.drew w
 have hr1 := hr.grow hx
 have hst1 := Stp.ext (L := L) hx
 generalize ({ w with drawn := w.drawn + 1 } : World) = w1 at hr1 hst1 ⊢
 have key := h (Q .normal) (fun _ h => h) (fun m st => ∀ (n : Nat), cntU ops.size (fun j => !(arr ops.size m).getD j false) = n → ∀ (L' : Lay) (a : Act) (w' : World), Stp L L' w w' → Rel L' st a w' Free → wpAny P .any ops (fun e a' w' => match e with | .normal => ∃ L' st', Stp L L' w w' ∧ Rel L' st' a' w' Free ∧ Q .normal st' | _ => False) n (arr ops.size m) a w') ?_
 ·have e0 : arr ops.size 0 = Array.replicate ops.size false := by
   apply Array.ext
   ·simp [arr]
   ·intro j h1 h2
    simp [arr]
  have c0 : cntU ops.size (fun j => !(arr ops.size 0).getD j false) = ops.size := by
   have e1 : (fun j => !(arr ops.size 0).getD j false) = fun _ => true := by
    funext j
    rw [arr_get, Nat.zero_testBit, Bool.and_false]
    rfl
   rw [e1]
   exact cntU_all ops.size
  have := key _ c0 L a w1 hst1 hr1
  rwa [e0] at this
 ·refine ⟨fun m st hd hk n hn L' a w' hs hr => ?_, fun m ps st hc hne hv n hn L' a w' hs hr => ?_, fun m i m' st hc hv n hn L' a w' hs hr => ?_, fun m i m' st hc hv n hn L' a w' hs hr => ?_, fun m i j m' st st' o1 o2 hi hj gi gj hc hd hv n hn L' a w' hs hr => ?_⟩
  ·have hd : Region.ready .any ops (arr ops.size m) = [] := by simpa [doneChk] using hd
   exact wpAny_done hd ⟨L', st, hs, hr, hk⟩ n
  ·simp only [chk, Bool.and_eq_true, beq_iff_eq] at hc
   obtain ⟨hrd, hms⟩ := hc
   have hin : ∀ i ∈ Region.ready .any ops (arr ops.size m), ∃ p ∈ ps, p.1 = i ∧ i < ops.size ∧ (arr ops.size m).getD i false = false ∧ ∃ o, ops[i]? = some o := fun i hi => by
    obtain ⟨o, h1, h2, _⟩ := (ready_iff (arr_size _ _)).1 hi
    rw [hrd] at hi
    obtain ⟨p, hp, rfl⟩ := List.mem_map.1 hi
    exact ⟨p, hp, rfl, (Array.getElem?_eq_some_iff.1 h1).1, h2, o, h1⟩
   have hnil : Region.ready .any ops (arr ops.size m) ≠ [] := by
    rw [hrd]
    intro h0
    exact hne (List.map_eq_nil_iff.1 h0)
   cases n with
   | zero =>
    obtain ⟨i, hi⟩ := List.exists_mem_of_ne_nil _ hnil
    obtain ⟨p, _, _, h1, h2, _⟩ := hin i hi
    rw [cnt_zero hn h1] at h2
    cases h2
   | succ n =>
    refine ⟨fun h0 => absurd h0 hnil, fun i hi => ?_⟩
    obtain ⟨p, hp, rfl, h1, h2, o, ho⟩ := hin i hi
    have hm' : m ||| 2 ^ p.1 = p.2 := by
     have := List.all_eq_true.1 hms p hp
     simpa using this
    have hcn := cnt_set h1 h2
    rw [hm'] at hcn
    have hv1 := vall_mem hv hp
    unfold vone at hv1
    rw [ho] at hv1
    have hg := vguard_ok hr hv1
    rw [arr_set h1, hm']
    unfold wpOp
    rw [ho]
    simp only
    cases hw : Region.wanted o (yielded ops a.tmps) with
    | true =>
     rw [hw] at hg
     simp only at hg
     rw [if_pos rfl]
     left
     refine vread_ok hT hg (fun st1 pv hK => hK.1) L' a w' _ _ hr fun st' L2 a2 w2 ⟨st1, pv, hK, e⟩ hs' hr' => ?_
     subst e
     exact hK.2 n (by omega) L2 a2 w2 (hs.trans hs') hr'
    | false =>
     rw [hw] at hg
     simp only at hg
     rw [if_neg (by simp)]
     obtain ⟨L2, s1, s2⟩ := skip_ok hr hg.1
     exact hg.2 n (by omega) L2 _ w' (hs.trans s1) s2
  ·simp only [takeChk, Bool.and_eq_true, beq_iff_eq] at hc
   obtain ⟨c1, c2, c3, c4⟩ := hc
   obtain ⟨o, ho, h2, _⟩ := (ready_iff (arr_size _ _)).1 (show i ∈ Region.ready .any ops (arr ops.size m) by simpa using c3)
   have h1 : i < ops.size := (Array.getElem?_eq_some_iff.1 ho).1
   have hcn := cnt_set h1 h2
   rw [c4] at hcn
   unfold vpure at hv
   rw [ho] at hv
   simp only [vfloat] at hv
   split at hv
   ·rename_i pv hp
    obtain ⟨hnr, hv⟩ := hv
    obtain ⟨v, y1, y2, y3⟩ := pureOp_ok (P := P) (ops := ops) hr hp
    have hr' : Rel L' (setD st o.dst pv) (a.put o.dst v) w' Free := by
     cases hd : o.dst with
     | none => exact hr
     | some d => exact hr.setO (nonroot_spec hnr d hd) y3 y2
    cases n with
    | zero =>
     rw [cnt_zero hn h1] at h2
     cases h2
    | succ n =>
     refine wpAny_take ho c1 c2 c3 (fun c a w hq => hq.elim) y1 ?_
     rw [arr_set h1, c4]
     exact hv n (by omega) L' _ w' hs hr'
   ·exact hv.elim
  ·simp only [takeChk, Bool.and_eq_true, beq_iff_eq] at hc
   obtain ⟨c1, c2, c3, c4⟩ := hc
   obtain ⟨o, ho, h2, _⟩ := (ready_iff (arr_size _ _)).1 (show i ∈ Region.ready .any ops (arr ops.size m) by simpa using c3)
   have h1 : i < ops.size := (Array.getElem?_eq_some_iff.1 ho).1
   have hcn := cnt_set h1 h2
   rw [c4] at hcn
   unfold vfld at hv
   rw [ho] at hv
   obtain ⟨hf, hpp, hv⟩ := hv
   simp only [isFld] at hf
   split at hf
   ·cases hf
   rename_i hg0
   split at hf
   ·rename_i t x k hop
    split at hf
    ·rename_i g p hx
     unfold vread at hv
     rw [hop] at hv
     simp only at hv
     have hnil : nilTest T st o = none := by unfold nilTest; rw [hop]
     rw [hnil] at hv
     simp only at hv
     split at hv
     ·rename_i out hp
      obtain ⟨_, hnr, hv⟩ := hv
      obtain ⟨v, y1, y2, y3, y4⟩ := fld_pure (P := P) (ops := ops) hT hr hop hx hg0 hp
      rw [y4] at hnr hv
      have hr' : Rel L' (setD st o.dst out.pv) (a.put o.dst v) w' Free := by
       cases hd : o.dst with
       | none => exact hr
       | some d => exact hr.setO (nonroot_spec hnr d hd) y3 y2
      cases n with
      | zero =>
       rw [cnt_zero hn h1] at h2
       cases h2
      | succ n =>
       refine wpAny_take ho c1 c2 c3 (fun c a w hq => hq.elim) y1 ?_
       rw [arr_set h1, c4]
       exact hv n (by omega) L' _ w' hs hr'
     ·rename_i hp; rw [hp] at hpp; cases hpp
    ·cases hf
   ·cases hf
  ·simp only [twoChk, Bool.and_eq_true, beq_iff_eq] at hc
   obtain ⟨c1, c2, c3⟩ := hc
   obtain ⟨_, _, b1, _⟩ := (ready_iff (arr_size _ _)).1 (show i ∈ Region.ready .any ops (arr ops.size m) by rw [c1]; exact List.mem_singleton.2 rfl)
   obtain ⟨_, _, b2, _⟩ := (ready_iff (arr_size _ _)).1 (show j ∈ Region.ready .any ops (arr ops.size (m ||| 2 ^ i)) by rw [c2]; exact List.mem_singleton.2 rfl)
   have h1 : i < ops.size := (Array.getElem?_eq_some_iff.1 hi).1
   have h2 : j < ops.size := (Array.getElem?_eq_some_iff.1 hj).1
   have q1 := cnt_set h1 b1
   have q2 := cnt_set h2 b2
   rw [c3] at q2
   obtain ⟨n, rfl⟩ : ∃ k, n = k + 2 := ⟨n - 2, by omega⟩
   refine ⟨fun h0 => (by rw [c1] at h0; cases h0), fun x hx => ?_⟩
   rw [c1] at hx
   obtain rfl := List.mem_singleton.1 hx
   have hw1 : Region.wanted o1 (yielded ops a.tmps) = true := by unfold Region.wanted; rw [gi]
   obtain ⟨v, x1, x2⟩ := hd L' a w' _ _ hr (fun L2 a2 w2 k1 k2 => hv n (by omega) L2 a2 w2 (hs.trans k1) k2)
   rw [arr_set h1]
   unfold wpOp
   rw [hi]
   simp only
   rw [hw1, if_pos rfl]
   left
   unfold Oper.wp
   rw [x1, Oper.upon_value]
   refine ⟨fun h0 => (by rw [c2] at h0; cases h0), fun x hx => ?_⟩
   rw [c2] at hx
   obtain rfl := List.mem_singleton.1 hx
   have hw2 : Region.wanted o2 (yielded ops (a.put o1.dst v).tmps) = true := by unfold Region.wanted; rw [gj]
   rw [arr_set h2, c3]
   unfold wpOp
   rw [hj]
   simp only
   rw [hw2, if_pos rfl]
   left
   exact x2
end
theorem wy : type_of% (And.intro (And.intro @vone.eq_1 (And.intro @vall.eq_1 @vall.eq_2)) (And.intro @vpure.eq_1 (And.intro @vfld.eq_1 (And.intro @isFld.eq_1 (And.intro @popped.eq_1 @popped.eq_2))))) := And.intro (And.intro @vone.eq_1 (And.intro @vall.eq_1 @vall.eq_2)) (And.intro @vpure.eq_1 (And.intro @vfld.eq_1 (And.intro @isFld.eq_1 (And.intro @popped.eq_1 @popped.eq_2))))
end Go.Proofs.YtoeblmcibheldaaGreatDoor.V
end
section
namespace Go.Proofs.YtoeblmcibheldaaGreatDoor.V.W
open Go Go.RowKit
theorem newFab1_vc (x : Int) : VC Tryz.prog 123 [.v false (.int .i64) (x)] (· = .v false .bool (decide (x > 64))) := by
 refine VC.of_body hT Tryz.func123 rfl (by kernel_rfl) [(.tmp 2, false, .bool)] (by kernel_rfl) ?_
 show VW _ _ ([.v false (.int .i64) (x), D, D, D, D]) _
 repeat refine VW.seq ?_
 refine VW.regl hT fun K hK => ?_
 simp only [wq, simprocAttr]
 refine hK _ ?_
 clear hK K
 try refine vthen_n ?_
 repeat refine VW.seq ?_
 refine VW.regl hT fun K hK => ?_
 simp only [wq, simprocAttr]
 refine hK _ ?_
 clear hK K
 try refine vthen_n ?_
 exact VW.ret ⟨.inl rfl, _, rfl, rfl⟩
/-- a new fabric can be made -/
def newOk (t : List Nd) (s : List Int) : Bool := fits t s && !s.any fun x => decide (x > 64)
/-- the first i rows of memory -/
def memTo (s : List Int) (i : Nat) : List (List Int) := (s.take i).map fun n => List.replicate n.toNat 0
theorem memTo_succ {s : List Int} {i : Nat} (h : i < s.length) : memTo s (i + 1) = memTo s i ++ [List.replicate (s.getD i 0).toNat 0] := by
 unfold memTo
 rw [List.take_add_one, List.getElem?_eq_getElem h, List.map_append, List.getD_eq_getElem?_getD, List.getElem?_eq_getElem h]
 rfl
theorem memTo_len {s : List Int} {i : Nat} (h : i ≤ s.length) : (memTo s i).length = i := by
 simp [memTo]; omega
def newFab (t : List Nd) (s : List Int) : Fab := (t, s, allBars t s, memTo s s.length, List.replicate s.length true)
abbrev fFab : Fl := .pr .own (.pr .own (.pr .own (.pr .own .own)))
abbrev rFab (fl : Fl) (x : Fab) (b : Bool) : PV := .root (.tup [true, false]) (.pr sFi .bool) (.pr fl .fz) (x, b)
set_option maxRecDepth 20000 in
set_option maxHeartbeats 2000000 in
theorem newFabric_vc (t : List Nd) (s : List Int) (hl : t.length ≤ 2000000) (hs : s.length ≤ 2000000) : VC Tryz.prog 77 [.v false sNS t, .v false sI s] (fun pv => if newOk t s = true then pv = rFab fFab (newFab t s) true else pv = rFab .own ([], [], [], [], []) false) := by
 refine VC.of_body hT Tryz.func77 rfl (by kernel_rfl) [(.cell 4 32, true, sFi), (.tmp 5, false, .bool)] (by kernel_rfl) ?_
 show VW _ _ ([.v false sNS t, .v false sI s, D, D, D, D, D, D, D, D, D, D, D, D, D, D, D, D, D, D, D, D, D, D, D, D, D, D, D, D, D, D, D, D, D, D, D, D, D, D, D, D, D, D, D, D, D, D, D, D, D, D, D, D, D, D, D, D, D, D, D, D, D, D, D, D, D, D]) _
 repeat refine VW.seq ?_
 refine VW.regl hT fun K hK => ?_
 simp only [wq, simprocAttr]
 refine hK _ ?_
 clear hK K
 try refine vthen_n ?_
 repeat refine VW.seq ?_
 refine VW.regl hT fun K hK => ?_
 simp only [wq, simprocAttr]
 refine vcall_of (sizesOk_vc t s hl hs) ?_
 simp only [wq, simprocAttr]
 refine vbr (fun h => ?_) (fun h => ?_) <;> simp only [wq, simprocAttr]
 case refine_2 =>
  refine hK _ ?_
  clear hK K
  try refine vthen_n ?_
  repeat refine VW.seq ?_
  refine VW.cond rfl (fun hc => ?_) (fun hc => ?_)
  ·repeat refine VW.seq ?_
   refine VW.regl hT fun K hK => ?_
   simp only [wq, simprocAttr]
   refine hK _ ?_
   clear hK K
   try refine vthen_n ?_
   have h' : sizesOk t s = false := (Bool.not_eq_true' _).mp h
   refine VW.ret ⟨.inl rfl, _, rfl, ?_⟩
   rw [if_neg (by rw [newOk, fits, h', Bool.false_and, Bool.false_and]; decide)]
  ·cases hc
 have hok0 : sizesOk t s = true := by
  have := h
  rwa [Bool.not_eq_false'] at this
 have hok := (sizesOk_iff.1 hok0).1
 have hsl := (sizesOk_iff.1 hok0).2.1
 have htl := treeOk_len hok
 refine vcall_of (containsI_vc s 123 [] (fun x => decide (x > 64)) rfl newFab1_vc hs) ?_
 simp only [wq, simprocAttr]
 refine hK _ ?_
 clear hK K
 try refine vthen_n ?_
 repeat refine VW.seq ?_
 refine VW.cond rfl (fun hc => ?_) (fun hc => ?_)
 ·repeat refine VW.seq ?_
  refine VW.regl hT fun K hK => ?_
  simp only [wq, simprocAttr]
  refine hK _ ?_
  clear hK K
  try refine vthen_n ?_
  refine VW.ret ⟨.inl rfl, _, rfl, ?_⟩
  rw [if_neg (by rw [newOk, show (s.any fun x => decide (x > 64)) = true from hc]; simp)]
 have h64 : ∀ i, i < s.length → 0 ≤ s.getD i 0 ∧ s.getD i 0 ≤ 64 := fun i hi => by
  have hc : (s.any fun x => decide (x > 64)) = false := hc
  rw [List.any_eq_false] at hc
  have := hc _ (getD_mem hi)
  refine ⟨?_, by simpa using this⟩
  rcases sizes_node hok0 (k := i) (by omega) with h | ⟨h, _⟩
  ·omega
  ·have := pw_in h
   omega
 refine VW.skip (vthen_n ?_)
 repeat refine VW.seq ?_
 refine VW.regl hT fun K hK => ?_
 simp only [wq, simprocAttr]
 refine vcall_ex (enum_vc t hl) ?_
 intro pv hpv
 rw [if_pos hok] at hpv
 obtain ⟨x3, rfl⟩ := hpv
 simp only [wq, simprocAttr]
 refine hK _ ?_
 clear hK K
 try refine vthen_n ?_
 repeat refine VW.seq ?_
 refine VW.regl hT fun K hK => ?_
 simp only [wq, simprocAttr]
 refine vcall_ex (allocate_vc t s hl hs) ?_
 intro pv hpv
 by_cases hf : fits t s = true
 case neg =>
  rw [if_neg hf] at hpv
  obtain ⟨bs, rfl⟩ := hpv
  simp only [wq, simprocAttr]
  refine hK _ ?_
  clear hK K
  try refine vthen_n ?_
  repeat refine VW.seq ?_
  refine VW.regl hT fun K hK => ?_
  simp only [wq, simprocAttr]
  refine hK _ ?_
  clear hK K
  try refine vthen_n ?_
  repeat refine VW.seq ?_
  refine VW.cond rfl (fun hc => ?_) (fun hc => ?_)
  ·repeat refine VW.seq ?_
   refine VW.regl hT fun K hK => ?_
   simp only [wq, simprocAttr]
   refine hK _ ?_
   clear hK K
   try refine vthen_n ?_
   refine VW.ret ⟨.inl rfl, _, rfl, ?_⟩
   rw [if_neg (by rw [newOk, (by simpa using hf : fits t s = false), Bool.false_and]; decide)]
  ·cases hc
 rw [if_pos hf] at hpv
 subst hpv
 simp only [wq, simprocAttr]
 refine hK _ ?_
 clear hK K
 try refine vthen_n ?_
 repeat refine VW.seq ?_
 refine VW.regl hT fun K hK => ?_
 simp only [wq, simprocAttr]
 refine hK _ ?_
 clear hK K
 try refine vthen_n ?_
 repeat refine VW.seq ?_
 refine VW.cond rfl (fun hc => ?_) (fun hc => ?_)
 ·cases hc
 refine VW.skip (vthen_n ?_)
 repeat refine VW.seq ?_
 refine VW.regl hT fun K hK => ?_
 simp only [wq, simprocAttr]
 refine vcall_of (clone_vc t hl) ?_
 simp only [wq, simprocAttr]
 refine vcall_of (cloneI_vc s hs) ?_
 simp only [wq, simprocAttr]
 refine hK _ ?_
 clear hK K
 try refine vthen_n ?_
 repeat refine VW.seq ?_
 refine VW.regl hT fun K hK => ?_
 simp only [wq, simprocAttr]
 refine hK _ ?_
 clear hK K
 try refine vthen_n ?_
 refine VW.retag (ι := Unit) (g := 10) (fun _ => fFab) _ rfl (fun w Z cs B h => ⟨(), h⟩) (fun j => by simp only [wq, simprocAttr]; rfl) (fun _ => ?_)
 repeat refine VW.seq ?_
 refine VW.block ?_
 refine VW.loop (α := Nat) [(0, none), (4, none), (10, none), (46, none), (47, none), (48, none)] (fun i => [.v false sNS t, D, D, D, .root (.box 32) sFi .own ([], [], [], [], []), D, D, D, D, D, .root (.box 32) sFi fFab (t, s, allBars t s, memTo s i, List.replicate i true), D, D, D, D, D, D, D, D, D, D, D, D, D, D, D, D, D, D, D, D, D, D, D, D, D, D, D, D, D, D, D, D, D, D, D, .v false sI s, .v false (.int .i64) ((s.length : Nat)), .v false (.int .i64) ((i : Nat)), D, D, D, D, D, D, D, D, D, D, D, D, D, D, D, D, D, D, D]) (fun i => i ≤ s.length) (fun i => s.length - i) ⟨0, by omega, ?_⟩ fun i hi => ?_
 ·simp only [wn, wq, simprocAttr]
  try rfl
 repeat refine VW.seq ?_
 refine VW.regl hT fun K hK => ?_
 simp only [wq, simprocAttr]
 refine hK _ ?_
 clear hK K
 try refine vthen_n ?_
 repeat refine VW.seq ?_
 refine VW.cond rfl (fun hc => ?_) (fun hc => ?_)
 ·have hlt : i < s.length := by simpa using hc
  have hml := memTo_len (s := s) (i := i) (by omega)
  have h6 := h64 i hlt
  refine VW.skip (vthen_n ?_)
  repeat refine VW.seq ?_
  refine VW.block ?_
  repeat refine VW.seq ?_
  refine VW.regl hT fun K hK => ?_
  simp only [wq, simprocAttr]
  refine ⟨decide_eq_true ⟨Int.natCast_nonneg _, by show (i : Int) < (s.length : Int); omega⟩, ?_⟩
  refine hK _ ?_
  clear hK K
  try refine vthen_n ?_
  generalize hN : s.getD i 0 = N at *
  refine VW.weak (weak_norm [(0, none), (4, none), (10, none), (12, none), (46, none), (47, none), (48, none)] _) ?_
  simp only [wn, wq, simprocAttr]
  have hrep : true :: List.replicate i true = List.replicate i true ++ [true] := by rw [← List.replicate_succ, List.replicate_succ']
  have sc3 : (decide (0 ≤ N) && limOk N.toNat 8) = true := by simp [limOk]; omega
  refine VW.any hT hm fun K hK W hW => ?_
  apply cutl
  intro tK
  apply cutl
  intro t65535
  apply cutl
  intro t32767
  apply cutl
  intro t4095
  apply cutl
  intro t3071
  apply cutl
  intro t2559
  apply cutl
  intro t991
  apply cutl
  intro t767
  apply cutl
  intro t989
  apply cutl
  intro t975
  apply cutl
  intro t735
  apply cutl
  intro t479
  apply cutl
  intro t255
  apply cutl
  intro t973
  apply cutl
  intro t967
  apply cutl
  intro t733
  apply cutl
  intro t719
  apply cutl
  intro t477
  apply cutl
  intro t463
  apply cutl
  intro t223
  apply cutl
  intro t965
  apply cutl
  intro t717
  apply cutl
  intro t711
  apply cutl
  intro t461
  apply cutl
  intro t455
  apply cutl
  intro t221
  apply cutl
  intro t207
  apply cutl
  intro t709
  apply cutl
  intro t453
  apply cutl
  intro t205
  apply cutl
  intro t199
  ·refine hW.takeF 0 0 1 _ (by kernel_rfl) ?_
   simp only [wy, wq, simprocAttr]
   refine hW.take 1 2 5 _ (by kernel_rfl) ?_
   simp only [wy, wq, simprocAttr]
   refine hW.takeF 5 6 69 _ (by kernel_rfl) ?_
   simp only [wy, wq, simprocAttr]
   refine hW.takeF 69 7 197 _ (by kernel_rfl) ?_
   simp only [wy, wq, simprocAttr]
   refine hW.all 197 [(1, 199), (3, 205), (8, 453), (9, 709)] _ (by kernel_rfl) (by simp) ?_
   simp only [wy, wq, simprocAttr]
   refine ⟨?_, ?_, ?_, ?_⟩
   ·exact t199.h
   ·refine ⟨sc3, ?_⟩
    exact t205.h
   ·exact t453.h
   ·exact t709.h
  ·skip
   refine hW.all 199 [(3, 207), (8, 455), (9, 711)] _ (by kernel_rfl) (by simp) ?_
   simp only [wy, wq, simprocAttr]
   refine ⟨?_, ?_, ?_⟩
   ·refine ⟨sc3, ?_⟩
    exact t207.h
   ·exact t455.h
   ·exact t711.h
  ·skip
   refine hW.all 205 [(1, 207), (4, 221), (8, 461), (9, 717)] _ (by kernel_rfl) (by simp) ?_
   simp only [wy, wq, simprocAttr]
   refine ⟨?_, ?_, ?_, ?_⟩
   ·exact t207.h
   ·exact t221.h
   ·exact t461.h
   ·exact t717.h
  ·skip
   refine hW.all 453 [(1, 455), (3, 461), (9, 965)] _ (by kernel_rfl) (by simp) ?_
   simp only [wy, wq, simprocAttr]
   refine ⟨?_, ?_, ?_⟩
   ·exact t455.h
   ·refine ⟨sc3, ?_⟩
    exact t461.h
   ·exact t965.h
  ·skip
   refine hW.all 709 [(1, 711), (3, 717), (8, 965)] _ (by kernel_rfl) (by simp) ?_
   simp only [wy, wq, simprocAttr]
   refine ⟨?_, ?_, ?_⟩
   ·exact t711.h
   ·refine ⟨sc3, ?_⟩
    exact t717.h
   ·exact t965.h
  ·skip
   refine hW.all 207 [(4, 223), (8, 463), (9, 719)] _ (by kernel_rfl) (by simp) ?_
   simp only [wy, wq, simprocAttr]
   refine ⟨?_, ?_, ?_⟩
   ·exact t223.h
   ·exact t463.h
   ·exact t719.h
  ·skip
   refine hW.all 221 [(1, 223), (8, 477), (9, 733)] _ (by kernel_rfl) (by simp) ?_
   simp only [wy, wq, simprocAttr]
   refine ⟨?_, ?_, ?_⟩
   ·exact t223.h
   ·exact t477.h
   ·exact t733.h
  ·skip
   refine hW.all 455 [(3, 463), (9, 967)] _ (by kernel_rfl) (by simp) ?_
   simp only [wy, wq, simprocAttr]
   refine ⟨?_, ?_⟩
   ·refine ⟨sc3, ?_⟩
    exact t463.h
   ·exact t967.h
  ·skip
   refine hW.all 461 [(1, 463), (4, 477), (9, 973)] _ (by kernel_rfl) (by simp) ?_
   simp only [wy, wq, simprocAttr]
   refine ⟨?_, ?_, ?_⟩
   ·exact t463.h
   ·exact t477.h
   ·exact t973.h
  ·skip
   refine hW.all 711 [(3, 719), (8, 967)] _ (by kernel_rfl) (by simp) ?_
   simp only [wy, wq, simprocAttr]
   refine ⟨?_, ?_⟩
   ·refine ⟨sc3, ?_⟩
    exact t719.h
   ·exact t967.h
  ·skip
   refine hW.all 717 [(1, 719), (4, 733), (8, 973)] _ (by kernel_rfl) (by simp) ?_
   simp only [wy, wq, simprocAttr]
   refine ⟨?_, ?_, ?_⟩
   ·exact t719.h
   ·exact t733.h
   ·exact t973.h
  ·skip
   refine hW.all 965 [(1, 967), (3, 973)] _ (by kernel_rfl) (by simp) ?_
   simp only [wy, wq, simprocAttr]
   refine ⟨?_, ?_⟩
   ·exact t967.h
   ·refine ⟨sc3, ?_⟩
    exact t973.h
  ·skip
   refine hW.all 223 [(5, 255), (8, 479), (9, 735)] _ (by kernel_rfl) (by simp) ?_
   simp only [wy, wq, simprocAttr]
   refine ⟨?_, ?_, ?_⟩
   ·refine ⟨by simp [limOk, hml]; omega, ?_⟩
    exact t255.h
   ·exact t479.h
   ·exact t735.h
  ·skip
   refine hW.all 463 [(4, 479), (9, 975)] _ (by kernel_rfl) (by simp) ?_
   simp only [wy, wq, simprocAttr]
   refine ⟨?_, ?_⟩
   ·exact t479.h
   ·exact t975.h
  ·skip
   refine hW.all 477 [(1, 479), (9, 989)] _ (by kernel_rfl) (by simp) ?_
   simp only [wy, wq, simprocAttr]
   refine ⟨?_, ?_⟩
   ·exact t479.h
   ·exact t989.h
  ·skip
   refine hW.all 719 [(4, 735), (8, 975)] _ (by kernel_rfl) (by simp) ?_
   simp only [wy, wq, simprocAttr]
   refine ⟨?_, ?_⟩
   ·exact t735.h
   ·exact t975.h
  ·skip
   refine hW.all 733 [(1, 735), (8, 989)] _ (by kernel_rfl) (by simp) ?_
   simp only [wy, wq, simprocAttr]
   refine ⟨?_, ?_⟩
   ·exact t735.h
   ·exact t989.h
  ·skip
   refine hW.all 967 [(3, 975)] _ (by kernel_rfl) (by simp) ?_
   simp only [wy, wq, simprocAttr]
   skip
   refine ⟨sc3, ?_⟩
   exact t975.h
  ·skip
   refine hW.all 973 [(1, 975), (4, 989)] _ (by kernel_rfl) (by simp) ?_
   simp only [wy, wq, simprocAttr]
   refine ⟨?_, ?_⟩
   ·exact t975.h
   ·exact t989.h
  ·skip
   refine hW.all 255 [(8, 511), (9, 767)] _ (by kernel_rfl) (by simp) ?_
   simp only [wy, wq, simprocAttr]
   refine ⟨?_, ?_⟩
   ·refine hW.takeF 511 11 2559 _ (by kernel_rfl) ?_
    simp only [wy, wq, simprocAttr]
    exact t2559.h
   ·exact t767.h
  ·skip
   refine hW.all 479 [(5, 511), (9, 991)] _ (by kernel_rfl) (by simp) ?_
   simp only [wy, wq, simprocAttr]
   refine ⟨?_, ?_⟩
   ·refine ⟨by simp [limOk, hml]; omega, ?_⟩
    refine hW.takeF 511 11 2559 _ (by kernel_rfl) ?_
    simp only [wy, wq, simprocAttr]
    exact t2559.h
   ·exact t991.h
  ·skip
   refine hW.all 735 [(5, 767), (8, 991)] _ (by kernel_rfl) (by simp) ?_
   simp only [wy, wq, simprocAttr]
   refine ⟨?_, ?_⟩
   ·refine ⟨by simp [limOk, hml]; omega, ?_⟩
    exact t767.h
   ·exact t991.h
  ·skip
   refine hW.all 975 [(4, 991)] _ (by kernel_rfl) (by simp) ?_
   simp only [wy, wq, simprocAttr]
   skip
   exact t991.h
  ·skip
   refine hW.all 989 [(1, 991)] _ (by kernel_rfl) (by simp) ?_
   simp only [wy, wq, simprocAttr]
   skip
   exact t991.h
  ·skip
   refine hW.all 767 [(8, 1023)] _ (by kernel_rfl) (by simp) ?_
   simp only [wy, wq, simprocAttr]
   skip
   refine hW.takeF 1023 11 3071 _ (by kernel_rfl) ?_
   simp only [wy, wq, simprocAttr]
   exact t3071.h
  ·skip
   refine hW.all 991 [(5, 1023)] _ (by kernel_rfl) (by simp) ?_
   simp only [wy, wq, simprocAttr]
   skip
   refine ⟨by simp [limOk, hml]; omega, ?_⟩
   refine hW.takeF 1023 11 3071 _ (by kernel_rfl) ?_
   simp only [wy, wq, simprocAttr]
   exact t3071.h
  ·skip
   refine hW.all 2559 [(9, 3071)] _ (by kernel_rfl) (by simp) ?_
   simp only [wy, wq, simprocAttr]
   skip
   exact t3071.h
  ·skip
   refine hW.all 3071 [(10, 4095)] _ (by kernel_rfl) (by simp) ?_
   simp only [wy, wq, simprocAttr]
   skip
   refine ⟨by simp [limOk, hml]; omega, ?_⟩
   exact t4095.h
  ·skip
   refine hW.all 4095 [(12, 8191)] _ (by kernel_rfl) (by simp) ?_
   simp only [wy, wq, simprocAttr]
   skip
   refine hW.takeF 8191 13 16383 _ (by kernel_rfl) ?_
   simp only [wy, wq, simprocAttr]
   refine hW.takeF 16383 14 32767 _ (by kernel_rfl) ?_
   simp only [wy, wq, simprocAttr]
   exact t32767.h
  ·skip
   refine hW.all 32767 [(15, 65535)] _ (by kernel_rfl) (by simp) ?_
   simp only [wy, wq, simprocAttr]
   skip
   exact t65535.h
  ·skip
   refine hW.done 65535 _ (by kernel_rfl) ?_
   exact tK.h
  ·refine hK _ ?_
   show vthen _ _ _ .normal _
   refine vthen_n ?_
   repeat refine VW.seq ?_
   refine VW.regl hT fun K hK => ?_
   simp only [wq, simprocAttr]
   refine hK _ ?_
   clear hK K
   try refine vthen_n ?_
   refine ⟨i + 1, hlt, ?_, by show s.length - (i + 1) < s.length - i; omega⟩
   simp only [wn, wq, simprocAttr]
   rw [wrap64 (by omega) (by omega), memTo_succ hlt, hN, hrep]
   rfl
 ·have hge : i = s.length := by
   have : s.length ≤ i := by simpa using hc
   omega
  subst hge
  refine VW.exit ?_
  show vthen _ _ _ .normal _
  refine vthen_n ?_
  repeat refine VW.seq ?_
  refine VW.regl hT fun K hK => ?_
  simp only [wq, simprocAttr]
  refine hK _ ?_
  clear hK K
  try refine vthen_n ?_
  refine VW.ret ⟨.inl rfl, _, rfl, ?_⟩
  have hn : newOk t s = true := by
   rw [newOk, hf, Bool.true_and, Bool.not_eq_true', List.any_eq_false]
   intro x hx
   obtain ⟨j, h1, h2⟩ := List.getElem_of_mem hx
   have := h64 j h1
   rw [List.getD_eq_getElem?_getD, List.getElem?_eq_getElem h1] at this
   have : s[j] ≤ 64 := this.2
   rw [h2] at this
   simpa using this
  rw [if_pos hn]
  rfl
end Go.Proofs.YtoeblmcibheldaaGreatDoor.V.W
end
section
namespace Go.Proofs.YtoeblmcibheldaaGreatDoor.V.W
open Go Go.RowKit
set_option maxRecDepth 20000 in
set_option maxHeartbeats 2000000 in
theorem specNew_vc (t : List Nd) (s : List Int) (hl : t.length ≤ 2000000) (hs : s.length ≤ 2000000) : VC Tryz.prog 73 [.v false sNS t, .v false sI s] (fun pv => if newOk t s = true then pv = rFab fFab (newFab t s) true else pv = rFab .own ([], [], [], [], []) false) := by
 refine VC.of_body hT Tryz.func73 rfl (by kernel_rfl) [(.cell 4 32, true, sFi), (.tmp 5, false, .bool)] (by kernel_rfl) ?_
 show VW _ _ ([.v false sNS t, .v false sI s, D, D, D, D, D, D, D, D, D, D, D, D, D, D, D, D, D, D, D, D, D, D, D, D, D, D, D, D, D, D, D, D, D, D, D, D, D, D, D, D, D, D, D, D, D, D, D, D, D, D, D, D, D, D, D, D, D, D, D, D, D, D, D, D, D, D]) _
 repeat refine VW.seq ?_
 refine VW.regl hT fun K hK => ?_
 simp only [wq, simprocAttr]
 refine hK _ ?_
 clear hK K
 try refine vthen_n ?_
 repeat refine VW.seq ?_
 refine VW.regl hT fun K hK => ?_
 simp only [wq, simprocAttr]
 refine vcall_ex (specAllocate_vc t s hl hs) ?_
 intro pv hpv
 by_cases hf : fits t s = true
 case neg =>
  have hno : newOk t s = false := by rw [newOk, (by simpa using hf : fits t s = false), Bool.false_and]
  rw [if_neg hf] at hpv
  obtain ⟨bs, rfl⟩ := hpv
  simp only [wq, simprocAttr]
  refine hK _ ?_
  clear hK K
  try refine vthen_n ?_
  repeat refine VW.seq ?_
  refine VW.regl hT fun K hK => ?_
  simp only [wq, simprocAttr]
  refine vcall_ex (specEnum_vc t hl) ?_
  intro pv hpv
  by_cases hok : treeOk t = true
  ·rw [if_pos hok] at hpv
   obtain ⟨x3, rfl⟩ := hpv
   simp only [wq, simprocAttr]
   refine hK _ ?_
   clear hK K
   try refine vthen_n ?_
   repeat refine VW.seq ?_
   refine VW.regl hT fun K hK => ?_
   simp only [wq, simprocAttr]
   refine hK _ ?_
   clear hK K
   try refine vthen_n ?_
   repeat refine VW.seq ?_
   refine VW.cond rfl (fun hc => ?_) (fun hc => ?_)
   ·repeat refine VW.seq ?_
    refine VW.regl hT fun K hK => ?_
    simp only [wq, simprocAttr]
    refine hK _ ?_
    clear hK K
    try refine vthen_n ?_
    refine VW.ret ⟨.inl rfl, _, rfl, ?_⟩
    rw [if_neg (by rw [hno]; decide)]
   ·cases hc
  ·rw [if_neg hok] at hpv
   subst hpv
   simp only [wq, simprocAttr]
   refine hK _ ?_
   clear hK K
   try refine vthen_n ?_
   repeat refine VW.seq ?_
   refine VW.regl hT fun K hK => ?_
   simp only [wq, simprocAttr]
   refine hK _ ?_
   clear hK K
   try refine vthen_n ?_
   repeat refine VW.seq ?_
   refine VW.cond rfl (fun hc => ?_) (fun hc => ?_)
   ·repeat refine VW.seq ?_
    refine VW.regl hT fun K hK => ?_
    simp only [wq, simprocAttr]
    refine hK _ ?_
    clear hK K
    try refine vthen_n ?_
    refine VW.ret ⟨.inl rfl, _, rfl, ?_⟩
    rw [if_neg (by rw [hno]; decide)]
   ·cases hc
 rw [if_pos hf] at hpv
 subst hpv
 simp only [wq, simprocAttr]
 refine hK _ ?_
 clear hK K
 try refine vthen_n ?_
 have hok0 : sizesOk t s = true := by
  have := hf
  rw [fits, Bool.and_eq_true] at this
  exact this.1
 have hok := (sizesOk_iff.1 hok0).1
 have hsl := (sizesOk_iff.1 hok0).2.1
 have htl := treeOk_len hok
 have hpos : ∀ i, i < s.length → 0 ≤ s.getD i 0 := fun i hi => by
  rcases sizes_node hok0 (k := i) (by omega) with h | ⟨h, _⟩
  ·omega
  ·have := pw_in h
   omega
 repeat refine VW.seq ?_
 refine VW.regl hT fun K hK => ?_
 simp only [wq, simprocAttr]
 refine vcall_ex (specEnum_vc t hl) ?_
 intro pv hpv
 rw [if_pos hok] at hpv
 obtain ⟨x3, rfl⟩ := hpv
 simp only [wq, simprocAttr]
 refine hK _ ?_
 clear hK K
 try refine vthen_n ?_
 repeat refine VW.seq ?_
 refine VW.regl hT fun K hK => ?_
 simp only [wq, simprocAttr]
 refine hK _ ?_
 clear hK K
 try refine vthen_n ?_
 repeat refine VW.seq ?_
 refine VW.cond rfl (fun hc => ?_) (fun hc => ?_)
 ·cases hc
 refine VW.skip (vthen_n ?_)
 repeat refine VW.seq ?_
 refine VW.regl hT fun K hK => ?_
 simp only [wq, simprocAttr]
 refine ⟨by simp [limOk]; omega, by simp [limOk]; omega, ?_⟩
 refine hK _ ?_
 clear hK K
 try refine vthen_n ?_
 repeat refine VW.seq ?_
 refine VW.regl hT fun K hK => ?_
 simp only [wq, simprocAttr]
 refine hK _ ?_
 clear hK K
 try refine vthen_n ?_
 refine VW.retag (ι := Unit) (g := 10) (fun _ => fFab) _ rfl (fun w Z cs B h => ⟨(), h⟩) (fun j => by simp only [wq, simprocAttr]; rfl) (fun _ => ?_)
 repeat refine VW.seq ?_
 refine VW.block ?_
 refine VW.loop (α := Nat) [(0, none), (1, none), (4, none), (10, none), (11, none)] (fun i => [.v false sNS t, .v false sI s, D, D, .root (.box 32) sFi .own ([], [], [], [], []), D, D, D, D, D, .root (.box 32) sFi fFab (t, s, allBars t s, memTo s i, List.replicate i true), .v false (.int .i64) ((i : Nat)), D, D, D, D, D, D, D, D, D, D, D, D, D, D, D, D, D, D, D, D, D, D, D, D, D, D, D, D, D, D, D, D, D, D, D, D, D, D, D, D, D, D, D, D, D, D, D, D, D, D, D, D, D, D, D, D]) (fun i => i ≤ s.length ∧ ∀ j, j < i → s.getD j 0 ≤ 64) (fun i => s.length - i) ⟨0, ⟨by omega, fun j h => by omega⟩, ?_⟩ fun i ⟨hi, hle⟩ => ?_
 ·simp only [wn, wq, simprocAttr]
  try rfl
 repeat refine VW.seq ?_
 refine VW.regl hT fun K hK => ?_
 simp only [wq, simprocAttr]
 refine hK _ ?_
 clear hK K
 try refine vthen_n ?_
 repeat refine VW.seq ?_
 refine VW.cond rfl (fun hc => ?_) (fun hc => ?_)
 ·have hlt : i < s.length := by
   have : (i : Int) < (t.length : Int) := of_decide_eq_true hc
   omega
  have hml := memTo_len (s := s) (i := i) (by omega)
  have h6 := hpos i hlt
  have hiS : decide (0 ≤ (i : Int) ∧ (i : Int) < (s.length : Int)) = true := decide_eq_true ⟨Int.natCast_nonneg _, by omega⟩
  refine VW.skip (vthen_n ?_)
  repeat refine VW.seq ?_
  refine VW.block ?_
  repeat refine VW.seq ?_
  refine VW.regl hT fun K hK => ?_
  simp only [wq, simprocAttr]
  refine ⟨hiS, ?_⟩
  refine hK _ ?_
  clear hK K
  try refine vthen_n ?_
  repeat refine VW.seq ?_
  refine VW.cond rfl (fun hc => ?_) (fun hc => ?_)
  ·have hc : s.getD i 0 > 64 := of_decide_eq_true hc
   have hno : newOk t s = false := by
    rw [newOk, hf, Bool.true_and, Bool.not_eq_false', List.any_eq_true]
    exact ⟨_, getD_mem hlt, decide_eq_true hc⟩
   repeat refine VW.seq ?_
   refine VW.regl hT fun K hK => ?_
   simp only [wq, simprocAttr]
   refine hK _ ?_
   clear hK K
   try refine vthen_n ?_
   refine VW.ret ⟨.inl rfl, _, rfl, ?_⟩
   rw [if_neg (by rw [hno]; decide)]
  have h7 : ¬ s.getD i 0 > 64 := of_decide_eq_false hc
  refine VW.skip (vthen_n ?_)
  refine VW.weak (weak_norm [(0, none), (1, none), (4, none), (10, none), (11, none)] _) ?_
  simp only [wn, wq, simprocAttr]
  repeat refine VW.seq ?_
  have hrep : true :: List.replicate i true = List.replicate i true ++ [true] := by rw [← List.replicate_succ, List.replicate_succ']
  have sc3 : (decide (0 ≤ s.getD i 0) && limOk (Int.toNat (s.getD i 0)) 8) = true := by
   generalize s.getD i 0 = N at *
   simp [limOk]; omega
  refine VW.any hT hm fun K hK W hW => ?_
  apply cutl
  intro tK
  apply cutl
  intro t2047
  apply cutl
  intro t1023
  apply cutl
  intro t255
  apply cutl
  intro t253
  apply cutl
  intro t127
  apply cutl
  intro t125
  apply cutl
  intro t63
  apply cutl
  intro t61
  apply cutl
  intro t31
  apply cutl
  intro t29
  apply cutl
  intro t15
  ·refine hW.takeF 0 0 1 _ (by kernel_rfl) ?_
   simp only [wy, wq, simprocAttr]
   refine hW.take 1 2 5 _ (by kernel_rfl) ?_
   simp only [wy, wq, simprocAttr]
   refine hW.take 5 3 13 _ (by kernel_rfl) ?_
   simp only [wy, wq, simprocAttr]
   refine hW.all 13 [(1, 15), (4, 29)] _ (by kernel_rfl) (by simp) ?_
   simp only [wy, wq, simprocAttr]
   refine ⟨?_, ?_⟩
   ·exact t15.h
   ·refine ⟨hiS, ?_⟩
    exact t29.h
  ·skip
   refine hW.all 15 [(4, 31)] _ (by kernel_rfl) (by simp) ?_
   simp only [wy, wq, simprocAttr]
   skip
   refine ⟨hiS, ?_⟩
   exact t31.h
  ·skip
   refine hW.all 29 [(1, 31), (5, 61)] _ (by kernel_rfl) (by simp) ?_
   simp only [wy, wq, simprocAttr]
   refine ⟨?_, ?_⟩
   ·exact t31.h
   ·exact t61.h
  ·skip
   refine hW.all 31 [(5, 63)] _ (by kernel_rfl) (by simp) ?_
   simp only [wy, wq, simprocAttr]
   skip
   exact t63.h
  ·skip
   refine hW.all 61 [(1, 63), (6, 125)] _ (by kernel_rfl) (by simp) ?_
   simp only [wy, wq, simprocAttr]
   refine ⟨?_, ?_⟩
   ·exact t63.h
   ·refine ⟨sc3, ?_⟩
    exact t125.h
  ·skip
   refine hW.all 63 [(6, 127)] _ (by kernel_rfl) (by simp) ?_
   simp only [wy, wq, simprocAttr]
   skip
   refine ⟨sc3, ?_⟩
   exact t127.h
  ·skip
   refine hW.all 125 [(1, 127), (7, 253)] _ (by kernel_rfl) (by simp) ?_
   simp only [wy, wq, simprocAttr]
   refine ⟨?_, ?_⟩
   ·exact t127.h
   ·exact t253.h
  ·skip
   refine hW.all 127 [(7, 255)] _ (by kernel_rfl) (by simp) ?_
   simp only [wy, wq, simprocAttr]
   skip
   exact t255.h
  ·skip
   refine hW.all 253 [(1, 255)] _ (by kernel_rfl) (by simp) ?_
   simp only [wy, wq, simprocAttr]
   skip
   exact t255.h
  ·skip
   refine hW.all 255 [(8, 511)] _ (by kernel_rfl) (by simp) ?_
   simp only [wy, wq, simprocAttr]
   skip
   refine ⟨by simp [limOk, hml]; omega, ?_⟩
   refine hW.takeF 511 9 1023 _ (by kernel_rfl) ?_
   simp only [wy, wq, simprocAttr]
   exact t1023.h
  ·skip
   refine hW.all 1023 [(10, 2047)] _ (by kernel_rfl) (by simp) ?_
   simp only [wy, wq, simprocAttr]
   skip
   exact t2047.h
  ·skip
   refine hW.done 2047 _ (by kernel_rfl) ?_
   exact tK.h
  ·refine hK _ ?_
   show vthen _ _ _ .normal _
   refine vthen_n ?_
   repeat refine VW.seq ?_
   refine VW.regl hT fun K hK => ?_
   simp only [wq, simprocAttr]
   refine ⟨by simp [limOk]; omega, ?_⟩
   refine hK _ ?_
   clear hK K
   try refine vthen_n ?_
   show vthen _ _ _ .normal _
   refine vthen_n ?_
   repeat refine VW.seq ?_
   refine VW.regl hT fun K hK => ?_
   simp only [wq, simprocAttr]
   refine hK _ ?_
   clear hK K
   try refine vthen_n ?_
   refine ⟨i + 1, ⟨hlt, fun j h => ?_⟩, ?_, by show s.length - (i + 1) < s.length - i; omega⟩
   ·rcases Nat.lt_or_ge j i with h1 | h1
    ·exact hle j h1
    ·obtain rfl : j = i := by omega
     omega
   simp only [wn, wq, simprocAttr]
   rw [wrap64 (by omega) (by omega), memTo_succ hlt, hrep]
   rfl
 ·have hge : i = s.length := by
   have : ¬ (i : Int) < (t.length : Int) := of_decide_eq_false hc
   omega
  subst hge
  refine VW.exit ?_
  show vthen _ _ _ .normal _
  refine vthen_n ?_
  repeat refine VW.seq ?_
  refine VW.regl hT fun K hK => ?_
  simp only [wq, simprocAttr]
  refine hK _ ?_
  clear hK K
  try refine vthen_n ?_
  refine VW.ret ⟨.inl rfl, _, rfl, ?_⟩
  have hn : newOk t s = true := by
   rw [newOk, hf, Bool.true_and, Bool.not_eq_true', List.any_eq_false]
   intro x hx
   obtain ⟨j, h1, h2⟩ := List.getElem_of_mem hx
   have := hle j h1
   rw [List.getD_eq_getElem?_getD, List.getElem?_eq_getElem h1] at this
   have : s[j] ≤ 64 := this
   rw [h2] at this
   simpa using this
  rw [if_pos hn]
  rfl
end Go.Proofs.YtoeblmcibheldaaGreatDoor.V.W
end
section
namespace Go.Proofs.YtoeblmcibheldaaGreatDoor.V.W
open Go Go.RowKit
def words (xs : List Int) : Bool := !xs.any fun x => !inB x 0 65535
theorem isWord_vc (x : Int) : VC Tryz.prog 127 [.v false (.int .i64) (x)] (· = .v false .bool (inB x 0 65535)) := by
 refine VC.of_body hT Tryz.func127 rfl (by kernel_rfl) [(.tmp 2, false, .bool)] (by kernel_rfl) ?_
 show VW _ _ ([.v false (.int .i64) (x), D, D, D, D]) _
 repeat refine VW.seq ?_
 refine VW.regl hT fun K hK => ?_
 simp only [wq, simprocAttr]
 refine hK _ ?_
 clear hK K
 try refine vthen_n ?_
 repeat refine VW.seq ?_
 refine VW.regl hT fun K hK => ?_
 simp only [wq, simprocAttr]
 refine vcall_of (within_vc x 0 65535) ?_
 simp only [wq, simprocAttr]
 refine hK _ ?_
 clear hK K
 try refine vthen_n ?_
 exact VW.ret ⟨.inl rfl, _, rfl, rfl⟩
theorem areWords1_vc (x : Int) : VC Tryz.prog 126 [.v false (.int .i64) (x)] (· = .v false .bool (!inB x 0 65535)) := by
 refine VC.of_body hT Tryz.func126 rfl (by kernel_rfl) [(.tmp 2, false, .bool)] (by kernel_rfl) ?_
 show VW _ _ ([.v false (.int .i64) (x), D, D, D, D, D]) _
 repeat refine VW.seq ?_
 refine VW.regl hT fun K hK => ?_
 simp only [wq, simprocAttr]
 refine hK _ ?_
 clear hK K
 try refine vthen_n ?_
 repeat refine VW.seq ?_
 refine VW.regl hT fun K hK => ?_
 simp only [wq, simprocAttr]
 refine vcall_of (isWord_vc x) ?_
 simp only [wq, simprocAttr]
 refine hK _ ?_
 clear hK K
 try refine vthen_n ?_
 exact VW.ret ⟨.inl rfl, _, rfl, rfl⟩
theorem areWords_vc (xs : List Int) (hl : xs.length ≤ 2000000) : VC Tryz.prog 79 [.v false sI xs] (· = .v false .bool (words xs)) := by
 refine VC.of_body hT Tryz.func79 rfl (by kernel_rfl) [(.tmp 2, false, .bool)] (by kernel_rfl) ?_
 show VW _ _ ([.v false sI xs, D, D, D, D, D]) _
 repeat refine VW.seq ?_
 refine VW.regl hT fun K hK => ?_
 simp only [wq, simprocAttr]
 refine hK _ ?_
 clear hK K
 try refine vthen_n ?_
 repeat refine VW.seq ?_
 refine VW.regl hT fun K hK => ?_
 simp only [wq, simprocAttr]
 refine vcall_of (containsI_vc xs 126 [] (fun x => !inB x 0 65535) rfl areWords1_vc hl) ?_
 simp only [wq, simprocAttr]
 refine hK _ ?_
 clear hK K
 try refine vthen_n ?_
 exact VW.ret ⟨.inl rfl, _, rfl, rfl⟩
def guardOk (t : List Nd) (g : List Bool) : Bool := treeOk t && ((g.length == t.length) && g.getD 0 false)
theorem guardOk_vc (t : List Nd) (g : List Bool) (hl : t.length ≤ 2000000) : VC Tryz.prog 33 [.v false sNS t, .v true sG g] (· = .v false .bool (guardOk t g)) := by
 refine VC.of_body hT Tryz.func33 rfl (by kernel_rfl) [(.tmp 4, false, .bool)] (by kernel_rfl) ?_
 show VW _ _ ([.v false sNS t, .v true sG g, D, D, D, D, D, D, D, D, D, D, D, D, D, D, D, D, D, D, D]) _
 repeat refine VW.seq ?_
 refine VW.regl hT fun K hK => ?_
 simp only [wq, Nat.reduceMul, reduceCtorEq, Nat.reduceBEq, Nat.reduceAdd, Nat.reduceLT, Nat.reduceLeDiff, Nat.reduceSub, Nat.reduceEqDiff]
 refine hK _ ?_
 clear hK K
 try refine vthen_n ?_
 repeat refine VW.seq ?_
 refine VW.regl hT fun K hK => ?_
 simp only [wq, Nat.reduceMul, reduceCtorEq, Nat.reduceBEq, Nat.reduceAdd, Nat.reduceLT, Nat.reduceLeDiff, Nat.reduceSub, Nat.reduceEqDiff]
 refine vcall_of (treeOk_vc t hl) ?_
 simp only [wq, Nat.reduceMul, reduceCtorEq, Nat.reduceBEq, Nat.reduceAdd, Nat.reduceLT, Nat.reduceLeDiff, Nat.reduceSub, Nat.reduceEqDiff]
 refine vbr (fun h => ?_) (fun h => ?_) <;> simp only [wq, Nat.reduceMul, reduceCtorEq, Nat.reduceBEq, Nat.reduceAdd, Nat.reduceLT, Nat.reduceLeDiff, Nat.reduceSub, Nat.reduceEqDiff]
 case refine_2 =>
  refine hK _ ?_
  clear hK K
  try refine vthen_n ?_
  refine VW.ret ⟨.inl rfl, _, rfl, ?_⟩
  have h : treeOk t = false := h
  rw [guardOk, h]
  try rfl
 have h : treeOk t = true := h
 have htl := treeOk_len h
 refine vbr (fun h2 => ?_) (fun h2 => ?_) <;> simp only [wq, Nat.reduceMul, reduceCtorEq, Nat.reduceBEq, Nat.reduceAdd, Nat.reduceLT, Nat.reduceLeDiff, Nat.reduceSub, Nat.reduceEqDiff]
 case refine_2 =>
  refine hK _ ?_
  clear hK K
  try refine vthen_n ?_
  refine VW.ret ⟨.inl rfl, _, rfl, ?_⟩
  have h2 : ((g.length : Int) == (t.length : Int)) = false := h2
  rw [guardOk, h, ← lenEq, h2]
  try rfl
 have h2 : ((g.length : Int) == (t.length : Int)) = true := h2
 have h3 : (g.length : Int) = (t.length : Int) := by simpa using h2
 refine ⟨decide_eq_true ⟨by decide, by show (0 : Int) < (g.length : Int); omega⟩, ?_⟩
 refine hK _ ?_
 clear hK K
 try refine vthen_n ?_
 refine VW.ret ⟨.inl rfl, _, rfl, ?_⟩
 rw [guardOk, h, ← lenEq, h2]
 try rfl
end Go.Proofs.YtoeblmcibheldaaGreatDoor.V.W
end
section
namespace Go.Proofs.YtoeblmcibheldaaGreatDoor.V.W
open Go Go.RowKit
theorem path_mem {t : List Nd} {k x : Int} (h : isNd t k = true) (hx : x ∈ pathTo t k) : 0 ≤ x ∧ x < t.length := by
 have hok : treeOk t = true := by
  rw [isNd, Bool.and_eq_true] at h
  exact h.1
 have hk := inB_iff.1 (by rw [isNd, Bool.and_eq_true] at h; exact h.2 : inB k 0 (t.length - 1) = true)
 rw [pathTo, if_pos (show (treeOk t && inB k 0 (t.length - 1)) = true from h), List.mem_reverse, List.mem_filter] at hx
 obtain ⟨h1, h2⟩ := hx
 obtain ⟨j, _, rfl⟩ := List.mem_map.1 h1
 have := anc_lt hok (k := k) (by omega) j (by omega)
 exact ⟨by simpa using h2, this.2.1⟩
theorem between_mem {t : List Nd} {a b x : Int} (hx : x ∈ between t a b) : 0 ≤ x ∧ x < t.length := by
 rw [between] at hx
 split at hx
 ·rename_i h
  rw [Bool.and_eq_true] at h
  rcases List.mem_append.1 hx with hx | hx
  ·exact path_mem h.1 (List.mem_of_mem_drop (List.mem_reverse.1 hx))
  ·exact path_mem h.2 (List.mem_of_mem_drop hx)
 ·cases hx
theorem between_len (t : List Nd) (a b : Int) : (between t a b).length ≤ 24 := by
 rw [between]
 split
 ·rename_i h
  rw [Bool.and_eq_true] at h
  have h1 := path_head h.1
  have h2 := path_head h.2
  rw [List.length_append, List.length_reverse, List.length_drop, List.length_drop]
  omega
 ·simp
/-- the lower of two neighbours on a path -/
def lowAt (t : List Nd) (p : List Int) (i : Nat) : Int := if (t.getD (p.getD (i - 1) 0).toNat z).1 == p.getD i 0 then p.getD (i - 1) 0 else p.getD i 0
def passes (t : List Nd) (g : List Bool) (p : List Int) : Bool := (List.range p.length).all fun i => i == 0 || g.getD (lowAt t p i).toNat false
def canReach (t : List Nd) (g : List Bool) (a b : Int) : Bool := guardOk t g && (!((between t a b).length == 0) && passes t g (between t a b))
set_option maxRecDepth 20000 in
set_option maxHeartbeats 1000000 in
theorem canReach_vc (t : List Nd) (g : List Bool) (a b : Int) (hl : t.length ≤ 2000000) : VC Tryz.prog 34 [.v false sNS t, .v true sG g, .v false (.int .i64) (a), .v false (.int .i64) (b)] (· = .v false .bool (canReach t g a b)) := by
 refine VC.of_body hT Tryz.func34 rfl (by kernel_rfl) [(.tmp 8, false, .bool)] (by kernel_rfl) ?_
 show VW _ _ ([.v false sNS t, .v true sG g, .v false (.int .i64) (a), .v false (.int .i64) (b), D, D, D, D, D, D, D, D, D, D, D, D, D, D, D, D, D, D, D, D, D, D, D, D, D, D, D, D, D, D, D, D, D, D, D, D, D, D, D, D, D, D, D, D, D, D, D, D, D, D, D, D, D, D, D, D]) _
 have hmem := fun x (hx : x ∈ between t a b) => between_mem hx
 have hpl := between_len t a b
 rw [canReach]
 repeat refine VW.seq ?_
 refine VW.regl hT fun K hK => ?_
 simp only [wq, simprocAttr]
 refine hK _ ?_
 clear hK K
 try refine vthen_n ?_
 repeat refine VW.seq ?_
 refine VW.regl hT fun K hK => ?_
 simp only [wq, simprocAttr]
 refine vcall_of (between_vc t a b hl) ?_
 simp only [wq, simprocAttr]
 refine hK _ ?_
 clear hK K
 try refine vthen_n ?_
 generalize between t a b = p at *
 repeat refine VW.seq ?_
 refine VW.regl hT fun K hK => ?_
 simp only [wq, simprocAttr]
 refine vcall_of (guardOk_vc t g hl) ?_
 simp only [wq, simprocAttr]
 refine vbr (fun h => ?_) (fun h => ?_) <;> simp only [wq, simprocAttr]
 case refine_2 =>
  have h : guardOk t g = false := (Bool.not_eq_true' _).mp h
  refine hK _ ?_
  clear hK K
  try refine vthen_n ?_
  repeat refine VW.seq ?_
  refine VW.cond rfl (fun hc => ?_) (fun hc => ?_)
  ·repeat refine VW.seq ?_
   refine VW.regl hT fun K hK => ?_
   simp only [wq, simprocAttr]
   refine hK _ ?_
   clear hK K
   try refine vthen_n ?_
   refine VW.ret ⟨.inl rfl, _, rfl, ?_⟩
   rw [h]
   rfl
  ·cases hc
 have hg : guardOk t g = true := by
  have := h
  rwa [Bool.not_eq_false'] at this
 have hg2 := hg
 rw [guardOk, Bool.and_eq_true, Bool.and_eq_true, beq_iff_eq] at hg2
 obtain ⟨hok, hgl, _⟩ := hg2
 refine hK _ ?_
 clear hK K
 try refine vthen_n ?_
 repeat refine VW.seq ?_
 refine VW.cond rfl (fun hc => ?_) (fun hc => ?_)
 ·have hc : ((p.length : Int) == 0) = true := hc
  have h0 : p.length = 0 := by
   have : (p.length : Int) = 0 := by simpa using hc
   omega
  repeat refine VW.seq ?_
  refine VW.regl hT fun K hK => ?_
  simp only [wq, simprocAttr]
  refine hK _ ?_
  clear hK K
  try refine vthen_n ?_
  refine VW.ret ⟨.inl rfl, _, rfl, ?_⟩
  rw [h0, hg]
  rfl
 have h0 : (!(p.length == 0)) = true := by
  have hc : ((p.length : Int) == 0) = false := hc
  have : ¬ (p.length : Int) = 0 := by simpa using hc
  have : p.length ≠ 0 := by omega
  simpa using this
 rw [hg, h0, Bool.true_and, Bool.true_and]
 refine VW.skip (vthen_n ?_)
 repeat refine VW.seq ?_
 refine VW.regl hT fun K hK => ?_
 simp only [wq, simprocAttr]
 refine hK _ ?_
 clear hK K
 try refine vthen_n ?_
 repeat refine VW.seq ?_
 refine VW.block ?_
 refine VW.loop (α := Nat) [(0, none), (5, none), (9, none), (10, none)] (fun i => [.v false sNS t, D, D, D, D, .root (.box 30) sG .fz g, D, D, D, .root (.val false) sI .own p, .v false (.int .i64) ((i : Nat)), D, D, D, D, D, D, D, D, D, D, D, D, D, D, D, D, D, D, D, D, D, D, D, D, D, D, D, D, D, D, D, D, D, D, D, D, D, D, D, D, D, D, D, D, D, D, D, D, D]) (fun i => 1 ≤ i ∧ i ≤ p.length ∧ ∀ j, j < i → (j == 0 || g.getD (lowAt t p j).toNat false) = true) (fun i => p.length - i) ⟨1, ⟨by omega, ?_, fun j h => ?_⟩, ?_⟩ fun i ⟨hi1, hi, hj⟩ => ?_
 ·have : p.length ≠ 0 := by simpa using h0
  omega
 ·obtain rfl : j = 0 := by omega
  rfl
 ·simp only [wn, wq, simprocAttr]
  try rfl
 repeat refine VW.seq ?_
 refine VW.regl hT fun K hK => ?_
 simp only [wq, simprocAttr]
 refine hK _ ?_
 clear hK K
 try refine vthen_n ?_
 repeat refine VW.seq ?_
 refine VW.cond rfl (fun hc => ?_) (fun hc => ?_)
 ·have hlt : i < p.length := by simpa using hc
  have m1 := hmem _ (getD_mem hlt)
  have m2 := hmem _ (getD_mem (i := i - 1) (by omega))
  have hlow : lowAt t p i = if (t.getD (p.getD (i - 1) 0).toNat z).1 == p.getD i 0 then p.getD (i - 1) 0 else p.getD i 0 := rfl
  refine VW.skip (vthen_n ?_)
  repeat refine VW.seq ?_
  refine VW.block ?_
  repeat refine VW.seq ?_
  refine VW.regl hT fun K hK => ?_
  simp only [wq, simprocAttr]
  refine ⟨decide_eq_true ⟨Int.natCast_nonneg _, by show (i : Int) < (p.length : Int); omega⟩, ?_⟩
  refine hK _ ?_
  clear hK K
  try refine vthen_n ?_
  repeat refine VW.seq ?_
  refine VW.drawl hT hm (by kernel_rfl) fun K hK => ?_
  simp only [wq, simprocAttr]
  rw [wrap64 (by omega) (by omega), show (i : Int) - 1 = ((i - 1 : Nat) : Int) by omega, Int.toNat_natCast]
  refine ⟨by kernel_rfl, by kernel_rfl, decide_eq_true ⟨Int.natCast_nonneg _, by show ((i - 1 : Nat) : Int) < (p.length : Int); omega⟩, by kernel_rfl, decide_eq_true m2, by kernel_rfl, by kernel_rfl, decide_eq_true ⟨Int.natCast_nonneg _, by show (i : Int) < (p.length : Int); omega⟩, by kernel_rfl, ?_⟩
  refine hK _ ?_
  clear hK K
  try refine vthen_n ?_
  apply cutl
  ·intro tail
   repeat refine VW.seq ?_
   refine VW.cond rfl (fun hc => ?_) (fun hc => ?_)
   ·have hc : ((t.getD (p.getD (i - 1) 0).toNat z).1 == p.getD i 0) = true := hc
    rw [if_pos hc] at hlow
    repeat refine VW.seq ?_
    refine VW.regl hT fun K hK => ?_
    simp only [wq, simprocAttr]
    rw [wrap64 (by omega) (by omega), show (i : Int) - 1 = ((i - 1 : Nat) : Int) by omega, Int.toNat_natCast]
    refine ⟨decide_eq_true ⟨Int.natCast_nonneg _, by show ((i - 1 : Nat) : Int) < (p.length : Int); omega⟩, ?_⟩
    refine hK _ ?_
    try refine vthen_n ?_
    refine VW.weak (weak_norm [(0, none), (5, none), (9, none), (10, none), (11, none)] _) ?_
    simp only [wn, wq, simprocAttr]
    rw [← hlow]
    exact tail.h
   ·have hc : ((t.getD (p.getD (i - 1) 0).toNat z).1 == p.getD i 0) = false := hc
    rw [if_neg (by rw [hc]; decide)] at hlow
    refine VW.skip ?_
    show vthen _ _ _ .normal _
    refine vthen_n ?_
    refine VW.weak (weak_norm [(0, none), (5, none), (9, none), (10, none), (11, none)] _) ?_
    simp only [wn, wq, simprocAttr]
    rw [← hlow]
    exact tail.h
  have m3 : 0 ≤ lowAt t p i ∧ lowAt t p i < t.length := by
   rw [hlow]
   split
   ·exact m2
   ·exact m1
  clear hlow
  repeat refine VW.seq ?_
  refine VW.regl hT fun K hK => ?_
  simp only [wq, simprocAttr]
  refine ⟨decide_eq_true ⟨m3.1, by show lowAt t p i < (g.length : Int); omega⟩, ?_⟩
  refine hK _ ?_
  clear hK K
  try refine vthen_n ?_
  repeat refine VW.seq ?_
  refine VW.cond rfl (fun hc => ?_) (fun hc => ?_)
  ·have hc : g.getD (lowAt t p i).toNat false = false := (Bool.not_eq_true' _).mp hc
   have hno : passes t g p = false := by
    rw [passes, List.all_eq_false]
    refine ⟨i, List.mem_range.2 hlt, ?_⟩
    rw [hc, Bool.or_false]
    simp
    omega
   repeat refine VW.seq ?_
   refine VW.regl hT fun K hK => ?_
   simp only [wq, simprocAttr]
   refine hK _ ?_
   clear hK K
   try refine vthen_n ?_
   refine VW.ret ⟨.inl rfl, _, rfl, ?_⟩
   rw [hno]
  ·have hc : g.getD (lowAt t p i).toNat false = true := by
    have := hc
    rwa [Bool.not_eq_false'] at this
   refine VW.skip ?_
   show vthen _ _ _ .normal _
   refine vthen_n ?_
   repeat refine VW.seq ?_
   refine VW.regl hT fun K hK => ?_
   simp only [wq, simprocAttr]
   refine hK _ ?_
   clear hK K
   try refine vthen_n ?_
   refine ⟨i + 1, ⟨by omega, hlt, fun j h => ?_⟩, ?_, by show p.length - (i + 1) < p.length - i; omega⟩
   ·rcases Nat.lt_or_ge j i with h1 | h1
    ·exact hj j h1
    ·obtain rfl : j = i := by omega
     rw [hc, Bool.or_true]
   simp only [wn, wq, simprocAttr]
   rw [wrap64 (by omega) (by omega)]
   rfl
 ·have hge : i = p.length := by
   have : p.length ≤ i := by simpa using hc
   omega
  subst hge
  refine VW.exit ?_
  show vthen _ _ _ .normal _
  refine vthen_n ?_
  repeat refine VW.seq ?_
  refine VW.regl hT fun K hK => ?_
  simp only [wq, simprocAttr]
  refine hK _ ?_
  clear hK K
  try refine vthen_n ?_
  refine VW.ret ⟨.inl rfl, _, rfl, ?_⟩
  have hyes : passes t g p = true := by
   rw [passes, List.all_eq_true]
   intro j h
   exact hj j (List.mem_range.1 h)
  rw [hyes]
end Go.Proofs.YtoeblmcibheldaaGreatDoor.V.W
end
section
namespace Go.Proofs.YtoeblmcibheldaaGreatDoor.V
open Go Go.RowKit
section
variable {P : Program} {T : List (Nat × TI)} {o : Oper} {st st1 st2 : St}
variable {ops : Array Oper}
end
end Go.Proofs.YtoeblmcibheldaaGreatDoor.V
end
section
namespace Go.Proofs.YtoeblmcibheldaaGreatDoor.V
open Go Go.RowKit
section
variable {L : Lay} {st : St} {a : Act} {w : World} {R : Nat → Prop}
variable {P : Program} {T : List (Nat × TI)} {o : Oper} {K : St → Prop}
end
end Go.Proofs.YtoeblmcibheldaaGreatDoor.V
end
section
namespace Go.Proofs.YtoeblmcibheldaaGreatDoor.V.W
open Go Go.RowKit
end Go.Proofs.YtoeblmcibheldaaGreatDoor.V.W
end
section
namespace Go.Proofs.YtoeblmcibheldaaGreatDoor.V.W
open Go Go.RowKit
end Go.Proofs.YtoeblmcibheldaaGreatDoor.V.W
end
section
namespace Go.Proofs.YtoeblmcibheldaaGreatDoor.V.W
open Go Go.RowKit
end Go.Proofs.YtoeblmcibheldaaGreatDoor.V.W
end
section
namespace Go.Proofs.YtoeblmcibheldaaGreatDoor.V.W
open Go Go.RowKit
def bridges (t : List Nd) (i : Nat) : Int := ((t.take i).filter fun n => n.2.2 == 0).length
theorem bridges_succ {t : List Nd} {i : Nat} (h : i < t.length) : bridges t (i + 1) = bridges t i + (if ((t.getD i z).2.2 == 0) = true then 1 else 0) := by
 unfold bridges
 rw [List.take_add_one, List.getElem?_eq_getElem h, List.filter_append, List.length_append, List.getD_eq_getElem?_getD, List.getElem?_eq_getElem h]
 simp only [Option.toList, Option.getD_some, List.filter_cons, List.filter_nil]
 split <;> simp
theorem bridges_le (t : List Nd) (i : Nat) : 0 ≤ bridges t i ∧ bridges t i ≤ i := by
 unfold bridges
 have := List.length_filter_le (fun n : Nd => n.2.2 == 0) (t.take i)
 rw [List.length_take] at this
 omega
set_option maxRecDepth 20000 in
theorem count_vc (t : List Nd) (hl : t.length ≤ 2000000) : VC Tryz.prog 11 [.v false sNS t] (· = .v false (.int .i64) (bridges t t.length)) := by
 refine VC.of_body hT Tryz.func11 rfl (by kernel_rfl) [(.tmp 2, false, .int .i64)] (by kernel_rfl) ?_
 show VW _ _ ([.v false sNS t, D, D, D, D, D, D, D, D, D, D, D, D, D, D, D, D, D, D]) _
 repeat refine VW.seq ?_
 refine VW.regl hT fun K hK => ?_
 simp only [wq, simprocAttr]
 refine hK _ ?_
 clear hK K
 try refine vthen_n ?_
 repeat refine VW.seq ?_
 refine VW.regl hT fun K hK => ?_
 simp only [wq, simprocAttr]
 refine hK _ ?_
 clear hK K
 try refine vthen_n ?_
 repeat refine VW.seq ?_
 refine VW.regl hT fun K hK => ?_
 simp only [wq, simprocAttr]
 refine hK _ ?_
 clear hK K
 try refine vthen_n ?_
 repeat refine VW.seq ?_
 refine VW.block ?_
 refine VW.loop (α := Nat) [(3, none), (6, none), (7, none), (8, none)] (fun i => [D, D, D, .v false (.int .i64) (bridges t i), D, D, .v false sNS t, .v false (.int .i64) (t.length), .v false (.int .i64) (i), D, D, D, D, D, D, D, D, D, D]) (fun i => i ≤ t.length) (fun i => t.length - i) ⟨0, by omega, ?_⟩ fun i hi => ?_
 ·simp only [wn, wq, simprocAttr]
  try rfl
 repeat refine VW.seq ?_
 refine VW.regl hT fun K hK => ?_
 simp only [wq, simprocAttr]
 refine hK _ ?_
 clear hK K
 try refine vthen_n ?_
 repeat refine VW.seq ?_
 refine VW.cond rfl (fun hc => ?_) (fun hc => ?_)
 ·have hlt : i < t.length := by simpa using hc
  have hb := bridges_le t i
  refine VW.skip (vthen_n ?_)
  repeat refine VW.seq ?_
  refine VW.block ?_
  repeat refine VW.seq ?_
  refine VW.regl hT fun K hK => ?_
  simp only [wq, simprocAttr]
  refine ⟨by simp; omega, ?_⟩
  refine hK _ ?_
  clear hK K
  try refine vthen_n ?_
  repeat refine VW.seq ?_
  refine VW.regl hT fun K hK => ?_
  simp only [wq, simprocAttr]
  refine hK _ ?_
  clear hK K
  try refine vthen_n ?_
  repeat refine VW.seq ?_
  refine VW.cond rfl (fun hc => ?_) (fun hc => ?_)
  ·repeat refine VW.seq ?_
   refine VW.regl hT fun K hK => ?_
   simp only [wq, simprocAttr]
   refine hK _ ?_
   clear hK K
   try refine vthen_n ?_
   show vthen _ _ _ .normal _
   refine vthen_n ?_
   repeat refine VW.seq ?_
   refine VW.regl hT fun K hK => ?_
   simp only [wq, simprocAttr]
   refine hK _ ?_
   clear hK K
   try refine vthen_n ?_
   refine ⟨i + 1, hlt, ?_, by show t.length - (i + 1) < t.length - i; omega⟩
   simp only [wn, wq, simprocAttr]
   rw [wrap64 (by omega) (by omega), wrap64 (by omega) (by omega), bridges_succ hlt, if_pos hc]
   rfl
  ·refine VW.skip ?_
   show vthen _ _ _ .normal _
   refine vthen_n ?_
   repeat refine VW.seq ?_
   refine VW.regl hT fun K hK => ?_
   simp only [wq, simprocAttr]
   refine hK _ ?_
   clear hK K
   try refine vthen_n ?_
   refine ⟨i + 1, hlt, ?_, by show t.length - (i + 1) < t.length - i; omega⟩
   simp only [wn, wq, simprocAttr]
   rw [wrap64 (by omega) (by omega), bridges_succ hlt, if_neg (by rw [show ((t.getD i z).2.2 == 0) = false from hc]; exact Bool.false_ne_true), Int.add_zero]
   rfl
 ·have hge : t.length ≤ i := by simpa using hc
  obtain rfl : i = t.length := by omega
  refine VW.exit ?_
  show vthen _ _ _ .normal _
  refine vthen_n ?_
  repeat refine VW.seq ?_
  refine VW.regl hT fun K hK => ?_
  simp only [wq, simprocAttr]
  refine hK _ ?_
  clear hK K
  try refine vthen_n ?_
  exact VW.ret ⟨.inl rfl, _, rfl, rfl⟩
end Go.Proofs.YtoeblmcibheldaaGreatDoor.V.W
end
section
namespace Go.Proofs.YtoeblmcibheldaaGreatDoor.V.W
open Go Go.RowKit
theorem foldl_succ {α β : Type} (f : β → α → β) (b : β) {l : List α} {i : Nat} (z : α) (h : i < l.length) : (l.take (i + 1)).foldl f b = f ((l.take i).foldl f b) (l.getD i z) := by
 rw [List.take_add_one, List.getElem?_eq_getElem h, List.foldl_append, List.getD_eq_getElem?_getD, List.getElem?_eq_getElem h]
 rfl
theorem wrapR (n : Int) : -9223372036854775808 ≤ IntKind.i64.wrap n ∧ IntKind.i64.wrap n ≤ 9223372036854775807 := by
 simp only [IntKind.wrap, IntKind.bits, IntKind.signed]
 simp
 omega
def addW (a n : Int) : Int := IntKind.i64.wrap (a + n)
def sumW (l : List Int) : Int := l.foldl addW 0
theorem foldW_r {α : Type} {f : Int → α → Int} (hf : ∀ a x, (-9223372036854775808 ≤ a ∧ a ≤ 9223372036854775807) → -9223372036854775808 ≤ f a x ∧ f a x ≤ 9223372036854775807) : ∀ (l : List α) (a : Int), (-9223372036854775808 ≤ a ∧ a ≤ 9223372036854775807) → -9223372036854775808 ≤ l.foldl f a ∧ l.foldl f a ≤ 9223372036854775807
 | [], _, h => h
 | x :: r, a, h => foldW_r hf r _ (hf a x h)
theorem sumW_r (l : List Int) : -9223372036854775808 ≤ sumW l ∧ sumW l ≤ 9223372036854775807 := foldW_r (fun a n _ => wrapR _) l 0 (by decide)
theorem sumW_succ {l : List Int} {i : Nat} (h : i < l.length) : sumW (l.take (i + 1)) = IntKind.i64.wrap (sumW (l.take i) + l.getD i 0) := foldl_succ addW 0 0 h
set_option maxRecDepth 20000 in
theorem total_vc (s : List Int) (hl : s.length ≤ 2000000) : VC Tryz.prog 31 [.v false sI s] (· = .v false (.int .i64) (sumW s)) := by
 refine VC.of_body hT Tryz.func31 rfl (by kernel_rfl) [(.tmp 2, false, .int .i64)] (by kernel_rfl) ?_
 show VW _ _ ([.v false sI s, D, D, D, D, D, D, D, D, D, D, D, D, D, D, D, D]) _
 repeat refine VW.seq ?_
 refine VW.regl hT fun K hK => ?_
 simp only [wq, simprocAttr]
 refine hK _ ?_
 clear hK K
 try refine vthen_n ?_
 repeat refine VW.seq ?_
 refine VW.regl hT fun K hK => ?_
 simp only [wq, simprocAttr]
 refine hK _ ?_
 clear hK K
 try refine vthen_n ?_
 repeat refine VW.seq ?_
 refine VW.regl hT fun K hK => ?_
 simp only [wq, simprocAttr]
 refine hK _ ?_
 clear hK K
 try refine vthen_n ?_
 repeat refine VW.seq ?_
 refine VW.block ?_
 refine VW.loop (α := Nat) [(3, none), (6, none), (7, none), (8, none)] (fun i => [D, D, D, .v false (.int .i64) (sumW (s.take i)), D, D, .v false sI s, .v false (.int .i64) (s.length), .v false (.int .i64) (i), D, D, D, D, D, D, D, D]) (fun i => i ≤ s.length) (fun i => s.length - i) ⟨0, by omega, ?_⟩ fun i hi => ?_
 ·simp only [wn, wq, simprocAttr]
  try rfl
 repeat refine VW.seq ?_
 refine VW.regl hT fun K hK => ?_
 simp only [wq, simprocAttr]
 refine hK _ ?_
 clear hK K
 try refine vthen_n ?_
 repeat refine VW.seq ?_
 refine VW.cond rfl (fun hc => ?_) (fun hc => ?_)
 ·have hlt : i < s.length := by simpa using hc
  refine VW.skip (vthen_n ?_)
  repeat refine VW.seq ?_
  refine VW.block ?_
  repeat refine VW.seq ?_
  refine VW.regl hT fun K hK => ?_
  simp only [wq, simprocAttr]
  refine ⟨by simp; omega, ?_⟩
  refine hK _ ?_
  clear hK K
  try refine vthen_n ?_
  repeat refine VW.seq ?_
  refine VW.regl hT fun K hK => ?_
  simp only [wq, simprocAttr]
  refine hK _ ?_
  clear hK K
  try refine vthen_n ?_
  show vthen _ _ _ .normal _
  refine vthen_n ?_
  repeat refine VW.seq ?_
  refine VW.regl hT fun K hK => ?_
  simp only [wq, simprocAttr]
  refine hK _ ?_
  clear hK K
  try refine vthen_n ?_
  refine ⟨i + 1, hlt, ?_, by show s.length - (i + 1) < s.length - i; omega⟩
  simp only [wn, wq, simprocAttr]
  rw [wrap64 (x := (i : Int) + 1) (by omega) (by omega), sumW_succ hlt]
  rfl
 ·have hge : s.length ≤ i := by simpa using hc
  obtain rfl : i = s.length := by omega
  refine VW.exit ?_
  show vthen _ _ _ .normal _
  refine vthen_n ?_
  repeat refine VW.seq ?_
  refine VW.regl hT fun K hK => ?_
  simp only [wq, simprocAttr]
  refine hK _ ?_
  clear hK K
  try refine vthen_n ?_
  refine VW.ret ⟨.inl rfl, _, rfl, ?_⟩
  rw [List.take_length]
def cuts (t : List Nd) (g : List Bool) (i : Nat) : List Int := ((List.range i).filter fun (k : Nat) => !canReach t g 0 (k : Int)).map fun (k : Nat) => (k : Int)
theorem cuts_succ (t : List Nd) (g : List Bool) (i : Nat) : cuts t g (i + 1) = cuts t g i ++ if canReach t g 0 (i : Int) = true then [] else [(i : Int)] := by
 rw [cuts, List.range_succ, List.filter_append, List.map_append]
 congr 1
 simp only [List.filter_cons, List.filter_nil]
 cases canReach t g 0 (i : Int) <;> rfl
theorem cuts_le (t : List Nd) (g : List Bool) (i : Nat) : (cuts t g i).length ≤ i := by
 rw [cuts, List.length_map]
 have := List.length_filter_le (fun (k : Nat) => !canReach t g 0 (k : Int)) (List.range i)
 rw [List.length_range] at this
 exact this
def cutOff (t : List Nd) (g : List Bool) : List Int := if guardOk t g = true then cuts t g t.length else []
theorem cutOff_le (t : List Nd) (g : List Bool) : (cutOff t g).length ≤ t.length := by
 rw [cutOff]
 split
 ·exact cuts_le t g _
 ·exact Nat.zero_le _
set_option maxRecDepth 20000 in
set_option maxHeartbeats 1000000 in
theorem cutOff_vc (t : List Nd) (g : List Bool) (hl : t.length ≤ 2000000) : VC Tryz.prog 12 [.v false sNS t, .v true sG g] (· = .root (.val false) sI .own (cutOff t g)) := by
 refine VC.of_body hT Tryz.func12 rfl (by kernel_rfl) [(.tmp 4, false, sI)] (by kernel_rfl) ?_
 show VW _ _ ([.v false sNS t, .v true sG g, D, D, D, D, D, D, D, D, D, D, D, D, D, D, D, D, D, D, D, D, D, D, D, D, D, D, D]) _
 repeat refine VW.seq ?_
 refine VW.regl hT fun K hK => ?_
 simp only [wq, simprocAttr]
 refine hK _ ?_
 clear hK K
 try refine vthen_n ?_
 repeat refine VW.seq ?_
 refine VW.regl hT fun K hK => ?_
 simp only [wq, simprocAttr]
 refine hK _ ?_
 clear hK K
 try refine vthen_n ?_
 repeat refine VW.seq ?_
 refine VW.regl hT fun K hK => ?_
 simp only [wq, simprocAttr]
 refine vcall_of (guardOk_vc t g hl) ?_
 simp only [wq, simprocAttr]
 refine hK _ ?_
 clear hK K
 try refine vthen_n ?_
 repeat refine VW.seq ?_
 refine VW.cond rfl (fun hc => ?_) (fun hc => ?_)
 ·repeat refine VW.seq ?_
  refine VW.regl hT fun K hK => ?_
  simp only [wq, simprocAttr]
  refine hK _ ?_
  clear hK K
  try refine vthen_n ?_
  refine VW.ret ⟨.inl rfl, _, rfl, ?_⟩
  have hc : guardOk t g = false := (Bool.not_eq_true' _).mp hc
  rw [cutOff, if_neg (by rw [hc]; decide)]
  rfl
 have hg : guardOk t g = true := (Bool.not_eq_false' _).mp hc
 refine VW.skip (vthen_n ?_)
 repeat refine VW.seq ?_
 refine VW.regl hT fun K hK => ?_
 simp only [wq, simprocAttr]
 refine hK _ ?_
 clear hK K
 try refine vthen_n ?_
 repeat refine VW.seq ?_
 refine VW.block ?_
 refine VW.loop (α := Nat) [(0, none), (3, none), (5, some (3, .int .i64)), (14, none), (15, none)] (fun i => [.v false sNS t, D, D, .root (.box 30) sG .fz g, D, .root (.val false) sI .own (cuts t g i), D, D, D, D, D, D, D, D, .v false (.int .i64) (t.length), .v false (.int .i64) (i), D, D, D, D, D, D, D, D, D, D, D, D, D]) (fun i => i ≤ t.length) (fun i => t.length - i) ⟨0, by omega, ?_⟩ fun i hi => ?_
 ·simp only [wn, wq, simprocAttr]
  try rfl
 repeat refine VW.seq ?_
 refine VW.regl hT fun K hK => ?_
 simp only [wq, simprocAttr]
 refine hK _ ?_
 clear hK K
 try refine vthen_n ?_
 repeat refine VW.seq ?_
 refine VW.cond rfl (fun hc => ?_) (fun hc => ?_)
 ·have hlt : i < t.length := by simpa using hc
  have hcl := cuts_le t g i
  refine VW.skip (vthen_n ?_)
  repeat refine VW.seq ?_
  refine VW.block ?_
  repeat refine VW.seq ?_
  refine VW.regl hT fun K hK => ?_
  simp only [wq, simprocAttr]
  refine hK _ ?_
  clear hK K
  try refine vthen_n ?_
  repeat refine VW.seq ?_
  refine VW.regl hT fun K hK => ?_
  simp only [wq, simprocAttr]
  refine vcall_of (canReach_vc t g 0 i hl) ?_
  simp only [wq, simprocAttr]
  refine hK _ ?_
  clear hK K
  try refine vthen_n ?_
  repeat refine VW.seq ?_
  refine VW.cond rfl (fun hc => ?_) (fun hc => ?_)
  ·have hc : canReach t g 0 (i : Int) = false := (Bool.not_eq_true' _).mp hc
   repeat refine VW.seq ?_
   refine VW.regl hT fun K hK => ?_
   simp only [wq, simprocAttr]
   refine ⟨by simp [limOk]; omega, ?_⟩
   refine hK _ ?_
   clear hK K
   try refine vthen_n ?_
   show vthen _ _ _ .normal _
   refine vthen_n ?_
   repeat refine VW.seq ?_
   refine VW.regl hT fun K hK => ?_
   simp only [wq, simprocAttr]
   refine hK _ ?_
   clear hK K
   try refine vthen_n ?_
   refine ⟨i + 1, hlt, ?_, by show t.length - (i + 1) < t.length - i; omega⟩
   simp only [wn, wq, simprocAttr]
   rw [wrap64 (by omega) (by omega), cuts_succ, if_neg (by rw [hc]; decide)]
   rfl
  ·have hc : canReach t g 0 (i : Int) = true := (Bool.not_eq_false' _).mp hc
   refine VW.skip ?_
   show vthen _ _ _ .normal _
   refine vthen_n ?_
   repeat refine VW.seq ?_
   refine VW.regl hT fun K hK => ?_
   simp only [wq, simprocAttr]
   refine hK _ ?_
   clear hK K
   try refine vthen_n ?_
   refine ⟨i + 1, hlt, ?_, by show t.length - (i + 1) < t.length - i; omega⟩
   simp only [wn, wq, simprocAttr]
   rw [wrap64 (by omega) (by omega), cuts_succ, if_pos hc, List.append_nil]
   rfl
 ·have hge : t.length ≤ i := by simpa using hc
  obtain rfl : i = t.length := by omega
  refine VW.exit ?_
  show vthen _ _ _ .normal _
  refine vthen_n ?_
  repeat refine VW.seq ?_
  refine VW.regl hT fun K hK => ?_
  simp only [wq, simprocAttr]
  refine hK _ ?_
  clear hK K
  try refine vthen_n ?_
  refine VW.ret ⟨.inl rfl, _, rfl, ?_⟩
  rw [cutOff, if_pos hg]
end Go.Proofs.YtoeblmcibheldaaGreatDoor.V.W
end
section
namespace Go.Proofs.YtoeblmcibheldaaGreatDoor.V
open Go Go.RowKit
section
variable {P : Program} {T : List (Nat × TI)} {st : St} {o : Oper}
end
end Go.Proofs.YtoeblmcibheldaaGreatDoor.V
end
section
namespace Go.Proofs.YtoeblmcibheldaaGreatDoor.V
open Go
def bs (l : List UInt8) : ByteArray := ⟨l.toArray⟩
theorem bs_app (a b : List UInt8) : bs a ++ bs b = bs (a ++ b) := by
 apply ByteArray.ext
 show (bs a ++ bs b).data = _
 rw [ByteArray.data_append]
 simp [bs]
theorem bs_size (a : List UInt8) : (bs a).size = a.length := by simp [bs, ByteArray.size]
/-- the digits of a number, none of nought -/
def dd (u : Nat) : List UInt8 := if u = 0 then [] else Lib.decDigits u
theorem itoa_len {n : Int} (h0 : -9223372036854775808 ≤ n) (h1 : n ≤ 9223372036854775807) : (bs (Lib.itoa n)).size ≤ 21 := by
 rw [bs_size]
 exact Lib.itoa_length_le n h0 h1
end Go.Proofs.YtoeblmcibheldaaGreatDoor.V
end
section
namespace Go.Proofs
open Go.Shelf
def Tryz.laysM171_ren : Go.Shelf.Ren := ⟨fun | 171 => 32 | 243 => 80 | 246 => 128 | 283 => 162 | 284 => 163 | 285 => 164 | 286 => 165 | 129 => 189 | 317 => 188 | 318 => 190 | 319 => 191 | 320 => 192 | 337 => 219 | 338 => 220 | n => n, fun | 3 => 3 | 9 => 9 | 2 => 2 | 4 => 4 | 171 => 186 | 0 => 0 | 53 => 187 | 37 => 22 | 5 => 5 | 173 => 190 | 212 => 212 | 51 => 200 | 20 => 20 | 213 => 213 | 46 => 179 | 232 => 263 | 233 => 264 | n => n, fun | 17 => 3 | 18 => 9 | 19 => 10 | n => n⟩
theorem Tryz.laysM171 : Go.Proofs.LaysM.n171 Tryz.prog Tryz.laysM171_ren := {
 mixed := by kernel_rfl
 f129 := Tryz.func189.trans (congrArg some (by kernel_rfl))
 f171 := Tryz.func32.trans (congrArg some (by kernel_rfl))
 f243 := Tryz.func80.trans (congrArg some (by kernel_rfl))
 f246 := Tryz.func128.trans (congrArg some (by kernel_rfl))
 f283 := Tryz.func162.trans (congrArg some (by kernel_rfl))
 f284 := Tryz.func163.trans (congrArg some (by kernel_rfl))
 f285 := Tryz.func164.trans (congrArg some (by kernel_rfl))
 f286 := Tryz.func165.trans (congrArg some (by kernel_rfl))
 f317 := Tryz.func188.trans (congrArg some (by kernel_rfl))
 f318 := Tryz.func190.trans (congrArg some (by kernel_rfl))
 f319 := Tryz.func191.trans (congrArg some (by kernel_rfl))
 f320 := Tryz.func192.trans (congrArg some (by kernel_rfl))
 f337 := Tryz.func219.trans (congrArg some (by kernel_rfl))
 f338 := Tryz.func220.trans (congrArg some (by kernel_rfl))
 t0 := Tryz.underlying0
 a0 := Tryz.isAgg0
 z0 := Tryz.sizeOf0
 v0 := Tryz.zeroValue0
 t2 := Tryz.underlying2
 a2 := Tryz.isAgg2
 z2 := Tryz.sizeOf2
 v2 := Tryz.zeroValue2
 t3 := Tryz.underlying3
 a3 := Tryz.isAgg3
 z3 := Tryz.sizeOf3
 v3 := Tryz.zeroValue3
 t4 := Tryz.underlying4
 a4 := Tryz.isAgg4
 z4 := Tryz.sizeOf4
 v4 := Tryz.zeroValue4
 t5 := Tryz.underlying5
 a5 := Tryz.isAgg5
 z5 := Tryz.sizeOf5
 v5 := Tryz.zeroValue5
 t9 := Tryz.underlying9
 a9 := Tryz.isAgg9
 z9 := Tryz.sizeOf9
 v9 := Tryz.zeroValue9
 t20 := Tryz.underlying20
 a20 := Tryz.isAgg20
 z20 := Tryz.sizeOf20
 v20 := Tryz.zeroValue20
 t37 := Tryz.underlying22
 a37 := Tryz.isAgg22
 z37 := Tryz.sizeOf22
 v37 := Tryz.zeroValue22
 t46 := Tryz.underlying179
 a46 := Tryz.isAgg179
 z46 := Tryz.sizeOf179
 v46 := Tryz.zeroValue179
 t51 := Tryz.underlying200
 a51 := Tryz.isAgg200
 z51 := Tryz.sizeOf200
 v51 := Tryz.zeroValue200
 t53 := Tryz.underlying187
 a53 := Tryz.isAgg187
 z53 := Tryz.sizeOf187
 v53 := Tryz.zeroValue187
 t171 := Tryz.underlying186
 a171 := Tryz.isAgg186
 z171 := Tryz.sizeOf186
 v171 := Tryz.zeroValue186
 t173 := Tryz.underlying190
 a173 := Tryz.isAgg190
 z173 := Tryz.sizeOf190
 v173 := Tryz.zeroValue190
 t212 := Tryz.underlying212
 a212 := Tryz.isAgg212
 z212 := Tryz.sizeOf212
 v212 := Tryz.zeroValue212
 t213 := Tryz.underlying213
 a213 := Tryz.isAgg213
 z213 := Tryz.sizeOf213
 t232 := Tryz.underlying263
 a232 := Tryz.isAgg263
 z232 := Tryz.sizeOf263
 v232 := Tryz.zeroValue263
 t233 := Tryz.underlying264
 a233 := Tryz.isAgg264
 z233 := Tryz.sizeOf264
 v233 := Tryz.zeroValue264
 g17 := by kernel_rfl
 g18 := by kernel_rfl
 g19 := by kernel_rfl
 i0 := by kernel_rfl
 i2 := by kernel_rfl
 i3 := by kernel_rfl
 i4 := by kernel_rfl
 i5 := by kernel_rfl
 i9 := by kernel_rfl
 i20 := by kernel_rfl
 i37 := by kernel_rfl
 i46 := by kernel_rfl
 i51 := by kernel_rfl
 i53 := by kernel_rfl
 i171 := by kernel_rfl
 i173 := by kernel_rfl
 i212 := by kernel_rfl
 i232 := by kernel_rfl
 i233 := by kernel_rfl
 m17 := by kernel_rfl
 m18 := by kernel_rfl
 m19 := by kernel_rfl }
open Go.RowKit Go.Sort Go.Lib in
/-- strconv.Itoa: "Itoa is equivalent to FormatInt(int64(i), 10).": i's DECIMAL NUMERAL ('Lib.itoa': a '-' where i is negative, then the digits), FOR EVERY int. The world behind the call: the world before it, new blocks behind the heap (the library's 'var a [24]byte'), draws. (LAID: no walk: one application.) -/
theorem Tryz.strconv_Itoa (n : Int) (h0 : -9223372036854775808 ≤ n) (h1 : n ≤ 9223372036854775807) (w : World) (htab : Lib.TabIs Tryz.prog w "internal/strconv.uint64pow10" .u64 Lib.pow10Tab) :
  Calls Tryz.prog 32 #[.int .i64 n] w fun e w' => e = .returned (.string ⟨(Lib.itoa n).toArray⟩) ∧ ∃ k os, w' = grow (w.drewN k) os := Any.strconv_Itoa Tryz.laysM171 n h0 h1 w htab
end Go.Proofs
end
section
namespace Go.Proofs.YtoeblmcibheldaaGreatDoor.V.W
open Go Go.RowKit Go.Proofs.YtoeblmcibheldaaGreatDoor.V
theorem gl_pow : (3, fun cs => cs = (Lib.pow10Tab.map fun z => Value.int .u64 z).toArray) ∈ gls := by first | exact .head _ | exact .tail _ (.head _)
theorem itoa_vc (n : Int) (h0 : -9223372036854775808 ≤ n) (h1 : n ≤ 9223372036854775807) : VC Tryz.prog 32 [.v false (.int .i64) n] (· = .v false .str (bs (Lib.itoa n))) := by
 refine ⟨⟨_, Tryz.func32, by kernel_rfl, by kernel_rfl⟩, fun Z w vals hz hl ha => ?_⟩
 obtain ⟨v, rfl⟩ : ∃ v, vals = [v] := by
  match vals, hl with
  | [v], _ => exact ⟨v, rfl⟩
 obtain ⟨cs, m1, m2⟩ := (ha 0 _ _ rfl rfl : ARep w Z (.v false (.int .i64) n) v)
 simp only [Rep] at m2
 subst m2
 obtain rfl : v = .int .i64 n := by simpa [mkV] using m1.symm
 obtain ⟨z, cs, x, y, e1, e2⟩ := hz.gl _ gl_pow
 have htab : Lib.TabIs Tryz.prog w "internal/strconv.uint64pow10" .u64 Lib.pow10Tab := by
  have hn : Tryz.prog.globalNamed "internal/strconv.uint64pow10" = some 3 := by kernel_rfl
  simp only [Lib.TabIs, World.var?, hn, Option.bind_some]
  rw [e1]
  exact congrArg some e2
 refine (Tryz.strconv_Itoa n h0 h1 w htab).mono fun e w' ⟨he, k, os, hw⟩ => ⟨_, _, he, ?_, rfl, ⟨_, rfl, by simp only [Rep]; rfl⟩⟩
 subst hw
 have hb := Lib.below_grow w.heap.size w (Nat.le_refl _) k os
 exact ⟨hb.os, hb.tape, hb.output, hb.size, fun b hb' => hb.block b hb'⟩
set_option maxRecDepth 20000 in
theorem formatInt_vc (n : Int) (h0 : -9223372036854775808 ≤ n) (h1 : n ≤ 9223372036854775807) : VC Tryz.prog 10 [.v false (.int .i64) n] (· = .v false .str (bs (Lib.itoa n))) := by
 refine VC.of_body hT Tryz.func10 rfl (by kernel_rfl) [(.tmp 2, false, .str)] (by kernel_rfl) ?_
 show VW _ _ ([.v false (.int .i64) n, D, D, D, D]) _
 repeat refine VW.seq ?_
 refine VW.regl hT fun K hK => ?_
 simp only [wq, simprocAttr]
 refine hK _ ?_
 clear hK K
 try refine vthen_n ?_
 repeat refine VW.seq ?_
 refine VW.regl hT fun K hK => ?_
 simp only [wq, simprocAttr]
 refine vcall_of (itoa_vc n h0 h1) ?_
 simp only [wq, simprocAttr]
 refine hK _ ?_
 clear hK K
 try refine vthen_n ?_
 exact VW.ret ⟨.inl rfl, _, rfl, rfl⟩
end Go.Proofs.YtoeblmcibheldaaGreatDoor.V.W
end
section
namespace Go.Proofs.YtoeblmcibheldaaGreatDoor.V.W
open Go Go.RowKit
end Go.Proofs.YtoeblmcibheldaaGreatDoor.V.W
end
section
namespace Go.Proofs.YtoeblmcibheldaaGreatDoor.V.W
open Go Go.RowKit
set_option maxRecDepth 20000 in
theorem libBarEq_vc (xs ys : List (Int × Int)) (hl : xs.length * 16 ≤ 140737488351232) : VC Tryz.prog 78 [.v false (.sl 110 sBr) xs, .v false (.sl 110 sBr) ys] (· = .v false .bool (decide (xs = ys))) := by
 refine VC.of_body hT Tryz.func78 rfl (by kernel_rfl) [(.tmp 4, false, .bool)] (by kernel_rfl) ?_
 show VW _ _ ([.v false (.sl 110 sBr) xs, .v false (.sl 110 sBr) ys, D, D, D, D, D, D, D, D, D, D, D, D, D, D, D, D, D, D, D, D, D, D, D, D]) _
 repeat refine VW.seq ?_
 refine VW.regl hT fun K hK => ?_
 simp only [wq, simprocAttr]
 refine hK _ ?_
 clear hK K
 try refine vthen_n ?_
 repeat refine VW.seq ?_
 refine VW.regl hT fun K hK => ?_
 simp only [wq, simprocAttr]
 refine hK _ ?_
 clear hK K
 try refine vthen_n ?_
 repeat refine VW.seq ?_
 refine VW.cond rfl (fun hc => ?_) (fun hc => ?_)
 ·repeat refine VW.seq ?_
  refine VW.regl hT fun K hK => ?_
  simp only [wq, simprocAttr]
  refine hK _ ?_
  clear hK K
  try refine vthen_n ?_
  refine VW.ret ⟨.inl rfl, _, rfl, ?_⟩
  have : xs ≠ ys := fun e => by subst e; simp at hc
  simp [this]
 have hlen : xs.length = ys.length := by simp at hc; omega
 refine VW.skip (vthen_n ?_)
 repeat refine VW.seq ?_
 refine VW.regl hT fun K hK => ?_
 simp only [wq, simprocAttr]
 refine hK _ ?_
 clear hK K
 try refine vthen_n ?_
 repeat refine VW.seq ?_
 refine VW.block ?_
 refine VW.loop (α := Nat) [(0, none), (1, none), (12, none), (13, none)] (fun i => [.v false (.sl 110 sBr) xs, .v false (.sl 110 sBr) ys, D, D, D, D, D, D, D, D, D, D, .v false (.int .i64) (xs.length : Int), .v false (.int .i64) (i : Int), D, D, D, D, D, D, D, D, D, D, D, D]) (fun i => i ≤ xs.length ∧ ∀ k, k < i → xs.getD k (0, 0) = ys.getD k (0, 0)) (fun i => xs.length - i) ⟨0, ⟨by omega, fun k hk => by omega⟩, ?_⟩ fun i ⟨hi, hk⟩ => ?_
 ·simp only [wn, wq, simprocAttr]
  try rfl
 repeat refine VW.seq ?_
 refine VW.regl hT fun K hK => ?_
 simp only [wq, simprocAttr]
 refine hK _ ?_
 clear hK K
 try refine vthen_n ?_
 repeat refine VW.seq ?_
 refine VW.cond rfl (fun hc => ?_) (fun hc => ?_)
 ·have hlt : i < xs.length := by simpa using hc
  refine VW.skip (vthen_n ?_)
  repeat refine VW.seq ?_
  refine VW.block ?_
  repeat refine VW.seq ?_
  refine VW.regl hT fun K hK => ?_
  simp only [wq, simprocAttr]
  refine hK _ ?_
  clear hK K
  try refine vthen_n ?_
  repeat refine VW.seq ?_
  refine VW.drawl hT hm (by kernel_rfl) fun K hK => ?_
  simp only [wq, simprocAttr]
  refine ⟨by simp; omega, by simp; omega, ?_⟩
  refine hK _ ?_
  clear hK K
  try refine vthen_n ?_
  repeat refine VW.seq ?_
  refine VW.cond rfl (fun hc => ?_) (fun hc => ?_)
  ·repeat refine VW.seq ?_
   refine VW.regl hT fun K hK => ?_
   simp only [wq, simprocAttr]
   refine hK _ ?_
   clear hK K
   try refine vthen_n ?_
   refine VW.ret ⟨.inl rfl, _, rfl, ?_⟩
   have : xs ≠ ys := fun e => by subst e; simp [eqv] at hc
   simp [this]
  ·have hxy : xs.getD i (0, 0) = ys.getD i (0, 0) := by
    have hc2 := hc
    rw [Bool.not_eq_false'] at hc2
    exact (eqv_eq rfl).1 hc2
   refine VW.skip ?_
   show vthen _ _ _ .normal _
   refine vthen_n ?_
   repeat refine VW.seq ?_
   refine VW.regl hT fun K hK => ?_
   simp only [wq, simprocAttr]
   refine hK _ ?_
   clear hK K
   try refine vthen_n ?_
   refine ⟨i + 1, ⟨hlt, fun k h => ?_⟩, ?_, by show xs.length - (i + 1) < xs.length - i; omega⟩
   ·rcases Nat.lt_or_ge k i with h1 | h1
    ·exact hk k h1
    ·obtain rfl : k = i := by omega
     exact hxy
   ·simp only [wn, wq, simprocAttr]
    rw [wrap64 (by omega) (by omega)]
    rfl
 ·have hc : xs.length ≤ i := by simpa using hc
  refine VW.exit ?_
  show vthen _ _ _ .normal _
  refine vthen_n ?_
  repeat refine VW.seq ?_
  refine VW.regl hT fun K hK => ?_
  simp only [wq, simprocAttr]
  refine hK _ ?_
  clear hK K
  try refine vthen_n ?_
  refine VW.ret ⟨.inl rfl, _, rfl, ?_⟩
  rw [row_eq (0, 0) hlen fun k h => hk k (by omega)]
  simp
end Go.Proofs.YtoeblmcibheldaaGreatDoor.V.W
end
section
namespace Go.Proofs.YtoeblmcibheldaaGreatDoor.V.W
open Go Go.RowKit
end Go.Proofs.YtoeblmcibheldaaGreatDoor.V.W
end
section
namespace Go.Proofs.YtoeblmcibheldaaGreatDoor.V.W
open Go Go.RowKit
/-- a row of memory that does not fit -/
def memBad (m : List (List Int)) (s : List Int) (k : Nat) : Bool := !(((m.getD k []).length : Int) == s.getD k 0) || !words (m.getD k [])
def memOk (m : List (List Int)) (s : List Int) : Bool := (List.range m.length).all fun k => !memBad m s k
theorem memOk_false {m : List (List Int)} {s : List Int} {k : Nat} (hk : k < m.length) (h : memBad m s k = true) : memOk m s = false := by
 rw [memOk, List.all_eq_false]
 exact ⟨k, List.mem_range.2 hk, by rw [h]; simp⟩
theorem memOk_true {m : List (List Int)} {s : List Int} (h : ∀ k, k < m.length → memBad m s k = false) : memOk m s = true := by
 rw [memOk, List.all_eq_true]
 intro k hk
 rw [h k (List.mem_range.1 hk)]
 rfl
/-- a fabric that may be -/
def fabOk (x : Fab) : Bool := newOk x.1 x.2.1 && (decide (allBars x.1 x.2.1 = x.2.2.1) && (((x.2.2.2.1.length : Int) == (x.2.1.length : Int)) && (guardOk x.1 x.2.2.2.2 && memOk x.2.2.2.1 x.2.1)))
structure FabL (x : Fab) : Prop where
 a : x.1.length ≤ 2000000
 b : x.2.1.length ≤ 2000000
 c : x.2.2.1.length ≤ 2000000
 d : x.2.2.2.1.length ≤ 2000000
 e : ∀ k, (x.2.2.2.1.getD k []).length ≤ 2000000
set_option maxRecDepth 20000 in
set_option maxHeartbeats 2000000 in
theorem fabricOk_vc (x : Fab) (hx : FabL x) : VC Tryz.prog 29 [.v true sFi x] (· = .v false .bool (fabOk x)) := by
 obtain ⟨t, s, b, m, g⟩ := x
 have hla : t.length ≤ 2000000 := hx.a
 have hlb : s.length ≤ 2000000 := hx.b
 have hlc : b.length ≤ 2000000 := hx.c
 have hld : m.length ≤ 2000000 := hx.d
 have hle : ∀ k, (m.getD k []).length ≤ 2000000 := hx.e
 refine VC.of_body hT Tryz.func29 rfl (by kernel_rfl) [(.tmp 2, false, .bool)] (by kernel_rfl) ?_
 show VW _ _ ([.v true sFi (t, s, b, m, g), D, D, D, D, D, D, D, D, D, D, D, D, D, D, D, D, D, D, D, D, D, D, D, D, D, D, D, D, D, D, D, D, D, D, D, D, D, D, D, D, D, D, D, D, D, D, D, D, D, D, D, D, D, D, D, D, D, D, D, D, D, D, D]) _
 repeat refine VW.seq ?_
 refine VW.regl hT fun K hK => ?_
 simp only [wq, simprocAttr]
 refine hK _ ?_
 clear hK K
 try refine vthen_n ?_
 repeat refine VW.seq ?_
 refine VW.regl hT fun K hK => ?_
 simp only [wq, simprocAttr]
 refine vcall_ex (newFabric_vc t s hla hlb) ?_
 intro pv hpv
 by_cases hn : newOk t s = true
 case neg =>
  have hn0 : newOk t s = false := by simpa using hn
  rw [if_neg hn] at hpv
  subst hpv
  simp only [wq, simprocAttr]
  refine hK _ ?_
  clear hK K
  try refine vthen_n ?_
  repeat refine VW.seq ?_
  refine VW.regl hT fun K hK => ?_
  simp only [wq, simprocAttr]
  refine hK _ ?_
  clear hK K
  try refine vthen_n ?_
  repeat refine VW.seq ?_
  refine VW.cond rfl (fun hc => ?_) (fun hc => ?_)
  ·repeat refine VW.seq ?_
   refine VW.regl hT fun K hK => ?_
   simp only [wq, simprocAttr]
   refine hK _ ?_
   clear hK K
   try refine vthen_n ?_
   refine VW.ret ⟨.inl rfl, _, rfl, ?_⟩
   rw [fabOk, hn0]
   rfl
  ·cases hc
 rw [if_pos hn] at hpv
 subst hpv
 simp only [wq, simprocAttr]
 refine hK _ ?_
 clear hK K
 try refine vthen_n ?_
 have hok0 : sizesOk t s = true := by
  have := hn
  rw [newOk, fits, Bool.and_eq_true, Bool.and_eq_true] at this
  exact this.1.1
 have hok := (sizesOk_iff.1 hok0).1
 have hsl := (sizesOk_iff.1 hok0).2.1
 have htl := treeOk_len hok
 repeat refine VW.seq ?_
 refine VW.regl hT fun K hK => ?_
 simp only [wq, simprocAttr]
 refine vcall_of (libBarEq_vc (allBars t s) b (by rw [show (allBars t s).length = t.length from bars_len _ _ _]; omega)) ?_
 simp only [wq, simprocAttr]
 refine vbr (fun h => ?_) (fun h => ?_) <;> simp only [wq, simprocAttr]
 case refine_2 =>
  have h : decide (allBars t s = b) = false := (Bool.not_eq_true' _).mp h
  refine hK _ ?_
  clear hK K
  try refine vthen_n ?_
  repeat refine VW.seq ?_
  refine VW.cond rfl (fun hc => ?_) (fun hc => ?_)
  ·repeat refine VW.seq ?_
   refine VW.regl hT fun K hK => ?_
   simp only [wq, simprocAttr]
   refine hK _ ?_
   clear hK K
   try refine vthen_n ?_
   refine VW.ret ⟨.inl rfl, _, rfl, ?_⟩
   rw [fabOk, hn, Bool.true_and, h]
   rfl
  ·cases hc
 have h1 : decide (allBars t s = b) = true := by
  have := h
  rwa [Bool.not_eq_false'] at this
 clear h
 refine vbr (fun h => ?_) (fun h => ?_) <;> simp only [wq, simprocAttr]
 case refine_2 =>
  have h : ((m.length : Int) == (s.length : Int)) = false := (Bool.not_eq_true' _).mp h
  refine hK _ ?_
  clear hK K
  try refine vthen_n ?_
  repeat refine VW.seq ?_
  refine VW.cond rfl (fun hc => ?_) (fun hc => ?_)
  ·repeat refine VW.seq ?_
   refine VW.regl hT fun K hK => ?_
   simp only [wq, simprocAttr]
   refine hK _ ?_
   clear hK K
   try refine vthen_n ?_
   refine VW.ret ⟨.inl rfl, _, rfl, ?_⟩
   rw [fabOk, hn, h1, Bool.true_and, Bool.true_and, h]
   rfl
  ·cases hc
 have h2 : ((m.length : Int) == (s.length : Int)) = true := by
  have := h
  rwa [Bool.not_eq_false'] at this
 clear h
 refine vcall_of (guardOk_vc t g hla) ?_
 simp only [wq, simprocAttr]
 refine hK _ ?_
 clear hK K
 try refine vthen_n ?_
 repeat refine VW.seq ?_
 refine VW.cond rfl (fun hc => ?_) (fun hc => ?_)
 ·have h : guardOk t g = false := (Bool.not_eq_true' _).mp hc
  repeat refine VW.seq ?_
  refine VW.regl hT fun K hK => ?_
  simp only [wq, simprocAttr]
  refine hK _ ?_
  clear hK K
  try refine vthen_n ?_
  refine VW.ret ⟨.inl rfl, _, rfl, ?_⟩
  rw [fabOk, hn, h1, h2, h]
  rfl
 have h3 : guardOk t g = true := by
  have := hc
  rwa [Bool.not_eq_false'] at this
 have hfin : fabOk (t, s, b, m, g) = memOk m s := by rw [fabOk, hn, h1, h2, h3]; rfl
 have hms : m.length = s.length := by
  have : (m.length : Int) = (s.length : Int) := by simpa using h2
  omega
 refine VW.skip (vthen_n ?_)
 repeat refine VW.seq ?_
 refine VW.regl hT fun K hK => ?_
 simp only [wq, simprocAttr]
 refine hK _ ?_
 clear hK K
 try refine vthen_n ?_
 repeat refine VW.seq ?_
 refine VW.block ?_
 refine VW.loop (α := Nat) [(1, none), (43, none), (44, none), (45, none)] (fun i => [D, .root (.box 32) sFi .fz (t, s, b, m, g), D, D, D, D, D, D, D, D, D, D, D, D, D, D, D, D, D, D, D, D, D, D, D, D, D, D, D, D, D, D, D, D, D, D, D, D, D, D, D, D, D, .v false sII m, .v false (.int .i64) ((m.length : Nat)), .v false (.int .i64) ((i : Nat)), D, D, D, D, D, D, D, D, D, D, D, D, D, D, D, D, D, D]) (fun i => i ≤ m.length ∧ ∀ k, k < i → memBad m s k = false) (fun i => m.length - i) ⟨0, ⟨by omega, fun k h => by omega⟩, ?_⟩ fun i ⟨hi, hk⟩ => ?_
 ·simp only [wn, wq, simprocAttr]
  try rfl
 repeat refine VW.seq ?_
 refine VW.regl hT fun K hK => ?_
 simp only [wq, simprocAttr]
 refine hK _ ?_
 clear hK K
 try refine vthen_n ?_
 repeat refine VW.seq ?_
 refine VW.cond rfl (fun hc => ?_) (fun hc => ?_)
 ·have hlt : i < m.length := by simpa using hc
  refine VW.skip (vthen_n ?_)
  repeat refine VW.seq ?_
  refine VW.block ?_
  repeat refine VW.seq ?_
  refine VW.regl hT fun K hK => ?_
  simp only [wq, simprocAttr]
  refine ⟨decide_eq_true ⟨Int.natCast_nonneg _, by show (i : Int) < (m.length : Int); omega⟩, ?_⟩
  refine hK _ ?_
  clear hK K
  try refine vthen_n ?_
  repeat refine VW.seq ?_
  refine VW.regl hT fun K hK => ?_
  simp only [wq, simprocAttr]
  refine ⟨decide_eq_true ⟨Int.natCast_nonneg _, by show (i : Int) < (s.length : Int); omega⟩, ?_⟩
  refine vbr (fun h => ?_) (fun h => ?_) <;> simp only [wq, simprocAttr]
  case refine_2 =>
   have h : (!(((m.getD i []).length : Int) == s.getD i 0)) = true := h
   refine hK _ ?_
   clear hK K
   try refine vthen_n ?_
   repeat refine VW.seq ?_
   refine VW.cond rfl (fun hc => ?_) (fun hc => ?_)
   ·repeat refine VW.seq ?_
    refine VW.regl hT fun K hK => ?_
    simp only [wq, simprocAttr]
    refine hK _ ?_
    clear hK K
    try refine vthen_n ?_
    refine VW.ret ⟨.inl rfl, _, rfl, ?_⟩
    rw [hfin, memOk_false hlt (by rw [memBad, h]; rfl)]
   ·cases hc
  have h : (!(((m.getD i []).length : Int) == s.getD i 0)) = false := h
  refine vcall_of (areWords_vc _ (hle i)) ?_
  simp only [wq, simprocAttr]
  refine hK _ ?_
  clear hK K
  try refine vthen_n ?_
  repeat refine VW.seq ?_
  refine VW.cond rfl (fun hc => ?_) (fun hc => ?_)
  ·have hc : (!words (m.getD i [])) = true := hc
   repeat refine VW.seq ?_
   refine VW.regl hT fun K hK => ?_
   simp only [wq, simprocAttr]
   refine hK _ ?_
   clear hK K
   try refine vthen_n ?_
   refine VW.ret ⟨.inl rfl, _, rfl, ?_⟩
   rw [hfin, memOk_false hlt (by rw [memBad, h, hc]; rfl)]
  ·have hc : (!words (m.getD i [])) = false := hc
   refine VW.skip ?_
   show vthen _ _ _ .normal _
   refine vthen_n ?_
   repeat refine VW.seq ?_
   refine VW.regl hT fun K hK => ?_
   simp only [wq, simprocAttr]
   refine hK _ ?_
   clear hK K
   try refine vthen_n ?_
   refine ⟨i + 1, ⟨hlt, fun k h4 => ?_⟩, ?_, by show m.length - (i + 1) < m.length - i; omega⟩
   ·rcases Nat.lt_or_ge k i with h5 | h5
    ·exact hk k h5
    ·obtain rfl : k = i := by omega
     rw [memBad, h, hc]
     rfl
   simp only [wn, wq, simprocAttr]
   rw [wrap64 (by omega) (by omega)]
   rfl
 ·have hge : i = m.length := by
   have : m.length ≤ i := by simpa using hc
   omega
  subst hge
  refine VW.exit ?_
  show vthen _ _ _ .normal _
  refine vthen_n ?_
  repeat refine VW.seq ?_
  refine VW.regl hT fun K hK => ?_
  simp only [wq, simprocAttr]
  refine hK _ ?_
  clear hK K
  try refine vthen_n ?_
  refine VW.ret ⟨.inl rfl, _, rfl, ?_⟩
  rw [hfin, memOk_true hk]
end Go.Proofs.YtoeblmcibheldaaGreatDoor.V.W
end
section
namespace Go.Proofs.YtoeblmcibheldaaGreatDoor.V.W
open Go Go.RowKit
end Go.Proofs.YtoeblmcibheldaaGreatDoor.V.W
end
section
namespace Go.Proofs.YtoeblmcibheldaaGreatDoor.V.W
open Go Go.RowKit
end Go.Proofs.YtoeblmcibheldaaGreatDoor.V.W
end
section
namespace Go.Proofs.YtoeblmcibheldaaGreatDoor.V.W
open Go Go.RowKit
theorem one_vc (b : Bool) : VC Tryz.prog 30 [.v false .bool (b)] (· = .v false (.int .i64) (if b = true then 1 else 0)) := by
 refine VC.of_body hT Tryz.func30 rfl (by kernel_rfl) [(.tmp 2, false, .int .i64)] (by kernel_rfl) ?_
 show VW _ _ ([.v false .bool (b), D, D, D]) _
 repeat refine VW.seq ?_
 refine VW.regl hT fun K hK => ?_
 simp only [wq, simprocAttr]
 refine hK _ ?_
 clear hK K
 try refine vthen_n ?_
 repeat refine VW.seq ?_
 refine VW.regl hT fun K hK => ?_
 simp only [wq, simprocAttr]
 refine hK _ ?_
 clear hK K
 try refine vthen_n ?_
 repeat refine VW.seq ?_
 refine VW.cond rfl (fun hc => ?_) (fun hc => ?_)
 ·have hc : b = true := hc
  subst hc
  repeat refine VW.seq ?_
  refine VW.regl hT fun K hK => ?_
  simp only [wq, simprocAttr]
  refine hK _ ?_
  clear hK K
  try refine vthen_n ?_
  exact VW.ret ⟨.inl rfl, _, rfl, rfl⟩
 have hc : b = false := hc
 subst hc
 refine VW.skip (vthen_n ?_)
 repeat refine VW.seq ?_
 refine VW.regl hT fun K hK => ?_
 simp only [wq, simprocAttr]
 refine hK _ ?_
 clear hK K
 try refine vthen_n ?_
 exact VW.ret ⟨.inl rfl, _, rfl, rfl⟩
end Go.Proofs.YtoeblmcibheldaaGreatDoor.V.W
end
section
namespace Go.Proofs.YtoeblmcibheldaaGreatDoor.V.W
open Go Go.RowKit
abbrev sSt : Sh := .sl 9 .str
def tick (a w : Int) : Int := IntKind.i64.wrap (a + if (w == 0) = false then 1 else 0)
def usedIn (a : Int) (r : List Int) : Int := r.foldl tick a
def usedM (m : List (List Int)) : Int := m.foldl usedIn 0
theorem usedIn_r (l : List Int) (a : Int) (h : -9223372036854775808 ≤ a ∧ a ≤ 9223372036854775807) : -9223372036854775808 ≤ usedIn a l ∧ usedIn a l ≤ 9223372036854775807 := foldW_r (fun a n _ => wrapR _) l a h
theorem usedM_r (m : List (List Int)) : -9223372036854775808 ≤ usedM m ∧ usedM m ≤ 9223372036854775807 := foldW_r (fun a r h => usedIn_r r a h) m 0 (by decide)
theorem usedIn_succ (a : Int) {l : List Int} {i : Nat} (h : i < l.length) : usedIn a (l.take (i + 1)) = IntKind.i64.wrap (usedIn a (l.take i) + if (l.getD i 0 == 0) = false then 1 else 0) := foldl_succ tick a 0 h
theorem usedM_succ {m : List (List Int)} {i : Nat} (h : i < m.length) : usedM (m.take (i + 1)) = usedIn (usedM (m.take i)) (m.getD i []) := foldl_succ usedIn 0 [] h
def lines (x : Fab) : List ByteArray := [bs ([110, 111, 100, 101, 115, 32] ++ Lib.itoa (x.1.length : Int)), bs ([98, 117, 115, 101, 115, 32] ++ Lib.itoa (bridges x.1 x.1.length)), bs ([114, 111, 111, 109, 32] ++ Lib.itoa (sumW x.2.1)),
 bs ([99, 117, 116, 32] ++ Lib.itoa ((cutOff x.1 x.2.2.2.2).length : Int)), bs ([117, 115, 101, 100, 32] ++ Lib.itoa (usedM x.2.2.2.1))]
def fmtFab (x : Fab) : List ByteArray := if fabOk x = true then lines x else []
theorem szI {n : Int} (h : -9223372036854775808 ≤ n ∧ n ≤ 9223372036854775807) (a : List UInt8) (ha : a.length ≤ 100) : (bs a).size + (bs (Lib.itoa n)).size ≤ 9223372036854775807 := by
 have := itoa_len h.1 h.2
 rw [bs_size a]
 omega
set_option maxRecDepth 20000 in
set_option maxHeartbeats 4000000 in
theorem fmtFab_vc (x : Fab) (hx : FabL x) : VC Tryz.prog 9 [.v true sFi x] (· = .root (.val false) sSt .own (fmtFab x)) := by
 have hok0 := fabricOk_vc x hx
 have hf : fmtFab x = if fabOk x = true then lines x else [] := rfl
 obtain ⟨t, s, b, m, g⟩ := x
 have hla : t.length ≤ 2000000 := hx.a
 have hlb : s.length ≤ 2000000 := hx.b
 have hld : m.length ≤ 2000000 := hx.d
 have hle : ∀ k, (m.getD k []).length ≤ 2000000 := hx.e
 refine VC.of_body hT Tryz.func9 rfl (by kernel_rfl) [(.tmp 2, false, sSt)] (by kernel_rfl) ?_
 show VW _ _ ([.v true sFi (t, s, b, m, g), D, D, D, D, D, D, D, D, D, D, D, D, D, D, D, D, D, D, D, D, D, D, D, D, D, D, D, D, D, D, D, D, D, D, D, D, D, D, D, D, D, D, D, D, D, D, D, D, D, D, D, D, D, D, D, D, D]) _
 repeat refine VW.seq ?_
 refine VW.regl hT fun K hK => ?_
 simp only [wq, simprocAttr]
 refine hK _ ?_
 clear hK K
 try refine vthen_n ?_
 repeat refine VW.seq ?_
 refine VW.regl hT fun K hK => ?_
 simp only [wq, simprocAttr]
 refine vcall_of hok0 ?_
 simp only [wq, simprocAttr]
 refine hK _ ?_
 clear hK K
 try refine vthen_n ?_
 repeat refine VW.seq ?_
 refine VW.cond rfl (fun hc => ?_) (fun hc => ?_)
 ·repeat refine VW.seq ?_
  refine VW.regl hT fun K hK => ?_
  simp only [wq, simprocAttr]
  refine hK _ ?_
  clear hK K
  try refine vthen_n ?_
  refine VW.ret ⟨.inl rfl, _, rfl, ?_⟩
  have hc : fabOk (t, s, b, m, g) = false := (Bool.not_eq_true' _).mp hc
  rw [hf, if_neg (by rw [hc]; decide)]
  rfl
 have hok : fabOk (t, s, b, m, g) = true := (Bool.not_eq_false' _).mp hc
 rw [hf, if_pos hok]
 refine VW.skip (vthen_n ?_)
 repeat refine VW.seq ?_
 refine VW.regl hT fun K hK => ?_
 simp only [wq, simprocAttr]
 refine hK _ ?_
 clear hK K
 try refine vthen_n ?_
 repeat refine VW.seq ?_
 refine VW.regl hT fun K hK => ?_
 simp only [wq, simprocAttr]
 refine hK _ ?_
 clear hK K
 try refine vthen_n ?_
 repeat refine VW.seq ?_
 refine VW.block ?_
 refine VW.loop (α := Nat) [(1, none), (3, none), (12, none), (13, none), (14, none)] (fun i => [D, .root (.box 32) sFi .fz (t, s, b, m, g), D, .v false (.int .i64) (usedM (m.take i)), D, D, D, D, D, D, D, D, .v false (.sl 25 sI) m, .v false (.int .i64) (m.length), .v false (.int .i64) (i), D, D, D, D, D, D, D, D, D, D, D, D, D, D, D, D, D, D, D, D, D, D, D, D, D, D, D, D, D, D, D, D, D, D, D, D, D, D, D, D, D, D, D]) (fun i => i ≤ m.length) (fun i => m.length - i) ⟨0, by omega, ?_⟩ fun i hi => ?_
 ·simp only [wn, wq, simprocAttr]
  try rfl
 repeat refine VW.seq ?_
 refine VW.regl hT fun K hK => ?_
 simp only [wq, simprocAttr]
 refine hK _ ?_
 clear hK K
 try refine vthen_n ?_
 repeat refine VW.seq ?_
 refine VW.cond rfl (fun hc => ?_) (fun hc => ?_)
 ·have hlt : i < m.length := by simpa using hc
  have hle := hle i
  refine VW.skip (vthen_n ?_)
  repeat refine VW.seq ?_
  refine VW.block ?_
  repeat refine VW.seq ?_
  refine VW.regl hT fun K hK => ?_
  simp only [wq, simprocAttr]
  refine ⟨by simp; omega, ?_⟩
  refine hK _ ?_
  clear hK K
  try refine vthen_n ?_
  have hr0 := usedM_r (m.take i)
  repeat refine VW.seq ?_
  refine VW.regl hT fun K hK => ?_
  simp only [wq, simprocAttr]
  refine hK _ ?_
  clear hK K
  try refine vthen_n ?_
  repeat refine VW.seq ?_
  refine VW.block ?_
  refine VW.loop (α := Nat) [(1, none), (3, none), (12, none), (13, none), (14, none), (18, none), (19, none), (20, none)] (fun j => [D, .root (.box 32) sFi .fz (t, s, b, m, g), D, .v false (.int .i64) (usedIn (usedM (m.take i)) ((m.getD i []).take j)), D, D, D, D, D, D, D, D, .v false (.sl 25 sI) m, .v false (.int .i64) (m.length), .v false (.int .i64) (i), D, D, D, .v false sI (m.getD i []), .v false (.int .i64) ((m.getD i []).length), .v false (.int .i64) (j), D, D, D, D, D, D, D, D, D, D, D, D, D, D, D, D, D, D, D, D, D, D, D, D, D, D, D, D, D, D, D, D, D, D, D, D, D]) (fun j => j ≤ (m.getD i []).length) (fun j => (m.getD i []).length - j) ⟨0, by omega, ?_⟩ fun j hj => ?_
  ·simp only [wn, wq, simprocAttr]
   try rfl
  repeat refine VW.seq ?_
  refine VW.regl hT fun K hK => ?_
  simp only [wq, simprocAttr]
  refine hK _ ?_
  clear hK K
  try refine vthen_n ?_
  repeat refine VW.seq ?_
  refine VW.cond rfl (fun hc => ?_) (fun hc => ?_)
  ·have hjl : j < (m.getD i []).length := by simpa using hc
   refine VW.skip (vthen_n ?_)
   repeat refine VW.seq ?_
   refine VW.block ?_
   repeat refine VW.seq ?_
   refine VW.regl hT fun K hK => ?_
   simp only [wq, simprocAttr]
   refine ⟨decide_eq_true ⟨Int.natCast_nonneg _, by show (j : Int) < ((m.getD i []).length : Int); omega⟩, ?_⟩
   refine hK _ ?_
   clear hK K
   try refine vthen_n ?_
   repeat refine VW.seq ?_
   refine VW.regl hT fun K hK => ?_
   simp only [wq, simprocAttr]
   refine vcall_of (one_vc _) ?_
   simp only [wq, simprocAttr]
   refine hK _ ?_
   clear hK K
   try refine vthen_n ?_
   show vthen _ _ _ .normal _
   refine vthen_n ?_
   repeat refine VW.seq ?_
   refine VW.regl hT fun K hK => ?_
   simp only [wq, simprocAttr]
   refine hK _ ?_
   clear hK K
   try refine vthen_n ?_
   refine ⟨j + 1, hjl, ?_, by show (m.getD i []).length - (j + 1) < (m.getD i []).length - j; omega⟩
   simp only [wn, wq, simprocAttr]
   rw [wrap64 (x := (j : Int) + 1) (by omega) (by omega), usedIn_succ _ hjl]
   rfl
  ·have hge : (m.getD i []).length ≤ j := by simpa using hc
   obtain rfl : j = (m.getD i []).length := by omega
   refine VW.exit ?_
   show vthen _ _ _ .normal _
   refine vthen_n ?_
   repeat refine VW.seq ?_
   refine VW.regl hT fun K hK => ?_
   simp only [wq, simprocAttr]
   refine hK _ ?_
   clear hK K
   try refine vthen_n ?_
   refine ⟨i + 1, hlt, ?_, by show m.length - (i + 1) < m.length - i; omega⟩
   simp only [wn, wq, simprocAttr]
   rw [wrap64 (x := (i : Int) + 1) (by omega) (by omega), List.take_length, usedM_succ hlt]
   rfl
 ·have hge : m.length ≤ i := by simpa using hc
  obtain rfl : i = m.length := by omega
  rw [List.take_length]
  refine VW.exit ?_
  show vthen _ _ _ .normal _
  refine vthen_n ?_
  have hu := usedM_r m
  have hbr := bridges_le t t.length
  have htot := sumW_r s
  have hcu := cutOff_le t g
  repeat refine VW.seq ?_
  refine VW.drawl hT hm (by kernel_rfl) fun K hK => ?_
  simp only [wq, simprocAttr]
  repeat refine ⟨by kernel_rfl, ?_⟩
  refine vcallD_of (formatInt_vc _ (by omega) (by omega)) ?_
  simp only [wq, simprocAttr]
  refine ⟨decide_eq_true (szI (by omega) [110, 111, 100, 101, 115, 32] (by decide)), ?_⟩
  repeat refine ⟨by kernel_rfl, ?_⟩
  refine vcallD_of (count_vc t hla) ?_
  simp only [wq, simprocAttr]
  repeat refine ⟨by kernel_rfl, ?_⟩
  refine vcallD_of (formatInt_vc _ (by omega) (by omega)) ?_
  simp only [wq, simprocAttr]
  refine ⟨decide_eq_true (szI (by omega) [98, 117, 115, 101, 115, 32] (by decide)), ?_⟩
  repeat refine ⟨by kernel_rfl, ?_⟩
  refine vcallD_of (total_vc s hlb) ?_
  simp only [wq, simprocAttr]
  repeat refine ⟨by kernel_rfl, ?_⟩
  refine vcallD_of (formatInt_vc _ (by omega) (by omega)) ?_
  simp only [wq, simprocAttr]
  refine ⟨decide_eq_true (szI (by omega) [114, 111, 111, 109, 32] (by decide)), ?_⟩
  repeat refine ⟨by kernel_rfl, ?_⟩
  refine vcallD_of (cutOff_vc t g hla) ?_
  simp only [wq, simprocAttr]
  repeat refine ⟨by kernel_rfl, ?_⟩
  refine vcallD_of (formatInt_vc _ (by omega) (by omega)) ?_
  simp only [wq, simprocAttr]
  refine ⟨decide_eq_true (szI (by omega) [99, 117, 116, 32] (by decide)), ?_⟩
  repeat refine ⟨by kernel_rfl, ?_⟩
  refine vcallD_of (formatInt_vc _ (by omega) (by omega)) ?_
  simp only [wq, simprocAttr]
  refine ⟨decide_eq_true (szI (by omega) [117, 115, 101, 100, 32] (by decide)), ?_⟩
  repeat refine ⟨by kernel_rfl, ?_⟩
  refine hK _ ?_
  clear hK K
  try refine vthen_n ?_
  refine VW.ret ⟨.inl rfl, _, rfl, ?_⟩
  simp only [lines, ← bs_app]
  rfl
end Go.Proofs.YtoeblmcibheldaaGreatDoor.V.W
end
section
namespace Go.Proofs.YtoeblmcibheldaaGreatDoor.V.W
open Go Go.RowKit
abbrev sB : Sh := .sl 5 (.int .u8)
abbrev sC : Sh := .pr sB (.pr (.int .i64) (.int .i64))
abbrev bC : RK := .box 108
theorem and255 (a : Int) : 0 ≤ IntKind.i64.wrap (BitVec.ofInt IntKind.i64.bits a &&& BitVec.ofInt IntKind.i64.bits 255).toNat ∧ IntKind.i64.wrap (BitVec.ofInt IntKind.i64.bits a &&& BitVec.ofInt IntKind.i64.bits 255).toNat ≤ 255 := by
 have h : (BitVec.ofInt IntKind.i64.bits a &&& BitVec.ofInt IntKind.i64.bits 255).toNat ≤ 255 := by
  rw [BitVec.toNat_and]
  exact Nat.le_trans Nat.and_le_right (by decide)
 rw [wrap64 (by omega) (by omega)]
 omega
/-- what a draw leaves of the cursor -/
def curR (A : Option Addr) (c : Nat) (b : List Int) (lo hi : Int) (pv ot : PV) : Prop := ∃ (m i h : Int) (r : Fl), pv = .v false (.int .i64) (m) ∧ lo ≤ m ∧ m < hi ∧ 0 ≤ i ∧ ot = .root bC sC (.pr (.kz A c) r) (b, i, h)
set_option maxRecDepth 20000 in
theorem byte_vx (A : Option Addr) (c : Nat) (r : Fl) (b : List Int) (i h : Int) (hi : 0 ≤ i) (hl : b.length ≤ 1048576) :
  VX Tryz.prog 120 [.root bC sC (.pr (.kz A c) r) (b, i, h)] 0 (curR A c b 0 256) := by
 refine VX.of_box hT Tryz.func120 rfl (by kernel_rfl) [(.tmp 2, false, .int .i64)] (by kernel_rfl) rfl fun bb => ?_
 show VW _ _ ([.root (.ibox 108 bb) sC (.pr (.kz A c) r) (b, i, h), D, D, D, D, D, D, D, D, D, D, D, D, D, D, D, D, D, D, D, D, D, D, D, D, D, D, D, D, D, D, D, D, D, D, D, D, D, D, D, D, D, D, D, D, D, D, D, D, D, D, D, D, D, D, D, D, D]) _
 repeat refine VW.seq ?_
 refine VW.regl hT fun K hK => ?_
 simp only [wq, Nat.reduceMul, reduceCtorEq, Nat.reduceBEq, Nat.reduceAdd, Nat.reduceLT, Nat.reduceLeDiff, Nat.reduceSub, Nat.reduceEqDiff]
 refine hK _ ?_
 clear hK K
 try refine vthen_n ?_
 repeat refine VW.seq ?_
 refine VW.regl hT fun K hK => ?_
 simp only [wq, Nat.reduceMul, reduceCtorEq, Nat.reduceBEq, Nat.reduceAdd, Nat.reduceLT, Nat.reduceLeDiff, Nat.reduceSub, Nat.reduceEqDiff]
 refine hK _ ?_
 clear hK K
 try refine vthen_n ?_
 generalize IntKind.i64.wrap (IntKind.i64.wrap (h * 6364136223846793005) + 1442695040888963407) = h1
 repeat refine VW.seq ?_
 refine VW.drawl hT hm (by kernel_rfl) fun K hK => ?_
 simp only [wq, Nat.reduceMul, reduceCtorEq, Nat.reduceBEq, Nat.reduceAdd, Nat.reduceLT, Nat.reduceLeDiff, Nat.reduceSub, Nat.reduceEqDiff]
 refine ⟨by kernel_rfl, by kernel_rfl, by kernel_rfl, by kernel_rfl, by decide, by kernel_rfl, by kernel_rfl, by kernel_rfl, by kernel_rfl, by decide, ?_⟩
 refine hK _ ?_
 clear hK K
 try refine vthen_n ?_
 obtain ⟨m, hmb, hme⟩ : ∃ m : Int, (0 ≤ m ∧ m ≤ 255) ∧ IntKind.i64.wrap (BitVec.ofInt IntKind.i64.bits (IntKind.i64.wrap (BitVec.ofInt IntKind.i64.bits (h1.fdiv (2 ^ min (Int.toNat 33) IntKind.i64.bits)) ^^^ BitVec.ofInt IntKind.i64.bits (h1.fdiv (2 ^ min (Int.toNat 45) IntKind.i64.bits))).toNat) &&& BitVec.ofInt IntKind.i64.bits 255).toNat = m := ⟨_, and255 _, rfl⟩
 rw [hme]
 repeat refine VW.seq ?_
 refine VW.drawl hT hm (by kernel_rfl) fun K hK => ?_
 simp only [wq, Nat.reduceMul, reduceCtorEq, Nat.reduceBEq, Nat.reduceAdd, Nat.reduceLT, Nat.reduceLeDiff, Nat.reduceSub, Nat.reduceEqDiff]
 refine ⟨by kernel_rfl, by kernel_rfl, by kernel_rfl, by kernel_rfl, by kernel_rfl, by kernel_rfl, by kernel_rfl, by kernel_rfl, ?_⟩
 refine hK _ ?_
 clear hK K
 try refine vthen_n ?_
 repeat refine VW.seq ?_
 refine VW.cond rfl (fun hc => ?_) (fun hc => ?_)
 ·have hlt : i < b.length := by simpa using hc
  repeat refine VW.seq ?_
  refine VW.mixl hT hm 0 14 (by kernel_rfl) fun K hK => ?_
  simp only [wq, Nat.reduceMul, reduceCtorEq, Nat.reduceBEq, Nat.reduceAdd, Nat.reduceLT, Nat.reduceLeDiff, Nat.reduceSub, Nat.reduceEqDiff]
  refine ⟨by kernel_rfl, by kernel_rfl, by kernel_rfl, by kernel_rfl, by kernel_rfl, by kernel_rfl, by kernel_rfl, by kernel_rfl, decide_eq_true ⟨hi, by show i < (b.length : Int); omega⟩, ?_⟩
  refine hK _ ?_
  clear hK K
  try refine vthen_n ?_
  obtain ⟨m2, hm2, hme2⟩ : ∃ m2 : Int, (0 ≤ m2 ∧ m2 ≤ 255) ∧ IntKind.i64.wrap (BitVec.ofInt IntKind.i64.bits (IntKind.i64.wrap (m + IntKind.i64.wrap (b.getD i.toNat 0))) &&& BitVec.ofInt IntKind.i64.bits 255).toNat = m2 := ⟨_, and255 _, rfl⟩
  rw [hme2]
  repeat refine VW.seq ?_
  refine VW.regl hT fun K hK => ?_
  simp only [wq, Nat.reduceMul, reduceCtorEq, Nat.reduceBEq, Nat.reduceAdd, Nat.reduceLT, Nat.reduceLeDiff, Nat.reduceSub, Nat.reduceEqDiff]
  refine hK _ ?_
  clear hK K
  try refine vthen_n ?_
  rw [wrap64 (by omega) (by omega)]
  show vthen _ _ _ .normal _
  refine vthen_n ?_
  repeat refine VW.seq ?_
  refine VW.regl hT fun K hK => ?_
  simp only [wq, Nat.reduceMul, reduceCtorEq, Nat.reduceBEq, Nat.reduceAdd, Nat.reduceLT, Nat.reduceLeDiff, Nat.reduceSub, Nat.reduceEqDiff]
  refine hK _ ?_
  clear hK K
  try refine vthen_n ?_
  refine VW.ret ⟨.inl rfl, _, _, _, _, rfl, ⟨0, rfl⟩, m2, i + 1, h1, _, rfl, hm2.1, by omega, by omega, rfl⟩
 ·refine VW.skip ?_
  show vthen _ _ _ .normal _
  refine vthen_n ?_
  repeat refine VW.seq ?_
  refine VW.regl hT fun K hK => ?_
  simp only [wq, Nat.reduceMul, reduceCtorEq, Nat.reduceBEq, Nat.reduceAdd, Nat.reduceLT, Nat.reduceLeDiff, Nat.reduceSub, Nat.reduceEqDiff]
  refine hK _ ?_
  clear hK K
  try refine vthen_n ?_
  refine VW.ret ⟨.inl rfl, _, _, _, _, rfl, ⟨0, rfl⟩, m, i, h1, _, rfl, hmb.1, by omega, hi, rfl⟩
/-- a remainder of what is not negative -/
theorem rem_lt {a n : Int} (h : 0 ≤ a) (hn : 1 ≤ n) : 0 ≤ Int.tmod a n ∧ Int.tmod a n < n := by
 rw [Int.tmod_eq_emod_of_nonneg h]
 exact ⟨Int.emod_nonneg _ (by omega), Int.emod_lt_of_pos _ (by omega)⟩
set_option maxRecDepth 20000 in
theorem below_vx (A : Option Addr) (c : Nat) (r : Fl) (b : List Int) (i h : Int) (n : Int) (hi : 0 ≤ i) (hl : b.length ≤ 1048576) (hn : 1 ≤ n) :
  VX Tryz.prog 75 [.root bC sC (.pr (.kz A c) r) (b, i, h), .v false (.int .i64) (n)] 0 (curR A c b 0 n) := by
 refine VX.of_box hT Tryz.func75 rfl (by kernel_rfl) [(.tmp 4, false, .int .i64)] (by kernel_rfl) rfl fun bb => ?_
 show VW _ _ ([.root (.ibox 108 bb) sC (.pr (.kz A c) r) (b, i, h), .v false (.int .i64) (n), D, D, D, D, D, D, D, D, D, D, D, D, D, D, D, D, D, D, D, D, D, D, D, D, D, D, D, D, D, D, D, D, D, D, D]) _
 repeat refine VW.seq ?_
 refine VW.regl hT fun K hK => ?_
 simp only [wq, simprocAttr]
 refine hK _ ?_
 clear hK K
 try refine vthen_n ?_
 repeat refine VW.seq ?_
 refine VW.regl hT fun K hK => ?_
 simp only [wq, simprocAttr]
 refine hK _ ?_
 clear hK K
 try refine vthen_n ?_
 repeat refine VW.seq ?_
 refine VW.cond rfl (fun hc => ?_) (fun hc => ?_)
 ·have : n ≤ 0 := of_decide_eq_true hc
  omega
 refine VW.skip (vthen_n ?_)
 repeat refine VW.seq ?_
 refine VW.regl hT fun K hK => ?_
 simp only [wq, simprocAttr]
 refine hK _ ?_
 clear hK K
 try refine vthen_n ?_
 repeat refine VW.seq ?_
 refine VW.cond rfl (fun hc => ?_) (fun hc => ?_)
 ·repeat refine VW.seq ?_
  refine VW.regl hT fun K hK => ?_
  simp only [wq, simprocAttr]
  refine vcall_io 0 ?_
  simp only [wq, simprocAttr]
  refine vxcall_ex (byte_vx A c r b i h hi hl) ?_
  rintro pv ot ⟨m, i', h', r', rfl, hm1, hm2, hi', rfl⟩
  simp only [wq, simprocAttr]
  have hr := rem_lt hm1 hn
  refine ⟨by simp; omega, ?_⟩
  refine hK _ ?_
  clear hK K
  try refine vthen_n ?_
  refine VW.ret ⟨.inl rfl, _, _, _, _, rfl, ⟨0, rfl⟩, _, i', h', r', rfl, hr.1, hr.2, hi', rfl⟩
 refine VW.skip (vthen_n ?_)
 repeat refine VW.seq ?_
 refine VW.regl hT fun K hK => ?_
 simp only [wq, simprocAttr]
 refine vcall_io 0 ?_
 simp only [wq, simprocAttr]
 refine vxcall_ex (byte_vx A c r b i h hi hl) ?_
 rintro pv ot ⟨m1, i1, h1, r1, rfl, ha1, hb1, hi1, rfl⟩
 simp only [wq, simprocAttr]
 refine hK _ ?_
 clear hK K
 try refine vthen_n ?_
 repeat refine VW.seq ?_
 refine VW.regl hT fun K hK => ?_
 simp only [wq, simprocAttr]
 refine vcall_io 0 ?_
 simp only [wq, simprocAttr]
 refine vxcall_ex (byte_vx A c r1 b i1 h1 hi1 hl) ?_
 rintro pv ot ⟨m2, i2, h2, r2, rfl, ha2, hb2, hi2, rfl⟩
 simp only [wq, simprocAttr]
 refine hK _ ?_
 clear hK K
 try refine vthen_n ?_
 repeat refine VW.seq ?_
 refine VW.regl hT fun K hK => ?_
 simp only [wq, simprocAttr]
 refine vcall_io 0 ?_
 simp only [wq, simprocAttr]
 refine vxcall_ex (byte_vx A c r2 b i2 h2 hi2 hl) ?_
 rintro pv ot ⟨m3, i3, h3, r3, rfl, ha3, hb3, hi3, rfl⟩
 simp only [wq, simprocAttr]
 refine hK _ ?_
 clear hK K
 try refine vthen_n ?_
 repeat refine VW.seq ?_
 refine VW.regl hT fun K hK => ?_
 simp only [wq, simprocAttr]
 refine vcall_io 0 ?_
 simp only [wq, simprocAttr]
 refine vxcall_ex (byte_vx A c r3 b i3 h3 hi3 hl) ?_
 rintro pv ot ⟨m4, i4, h4, r4, rfl, ha4, hb4, hi4, rfl⟩
 simp only [wq, simprocAttr]
 refine hK _ ?_
 clear hK K
 try refine vthen_n ?_
 repeat refine VW.seq ?_
 refine VW.regl hT fun K hK => ?_
 simp only [wq, simprocAttr]
 have w1 : IntKind.i64.wrap (m1 * 16777216) = m1 * 16777216 := wrap64 (by omega) (by omega)
 have w2 : IntKind.i64.wrap (m2 * 65536) = m2 * 65536 := wrap64 (by omega) (by omega)
 have w3 : IntKind.i64.wrap (m1 * 16777216 + m2 * 65536) = m1 * 16777216 + m2 * 65536 := wrap64 (by omega) (by omega)
 have w4 : IntKind.i64.wrap (m3 * 256) = m3 * 256 := wrap64 (by omega) (by omega)
 have w5 : IntKind.i64.wrap (m1 * 16777216 + m2 * 65536 + m3 * 256) = m1 * 16777216 + m2 * 65536 + m3 * 256 := wrap64 (by omega) (by omega)
 have w6 : IntKind.i64.wrap (m1 * 16777216 + m2 * 65536 + m3 * 256 + m4) = m1 * 16777216 + m2 * 65536 + m3 * 256 + m4 := wrap64 (by omega) (by omega)
 rw [w1, w2, w3, w4, w5, w6]
 refine ⟨by simp; omega, ?_⟩
 have hr := rem_lt (a := m1 * 16777216 + m2 * 65536 + m3 * 256 + m4) (n := n) (by omega) hn
 refine hK _ ?_
 clear hK K
 try refine vthen_n ?_
 refine VW.ret ⟨.inl rfl, _, _, _, _, rfl, ⟨0, rfl⟩, _, i4, h4, r4, rfl, hr.1, hr.2, hi4, rfl⟩
end Go.Proofs.YtoeblmcibheldaaGreatDoor.V.W
end
section
namespace Go.Proofs.YtoeblmcibheldaaGreatDoor.V.W
open Go Go.RowKit
def curP (A : Option Addr) (c : Nat) (b : List Int) (xs : List Int) (pv ot : PV) : Prop := ∃ (m i h : Int) (r : Fl), pv = .v false (.int .i64) (m) ∧ m ∈ xs ∧ 0 ≤ i ∧ ot = .root bC sC (.pr (.kz A c) r) (b, i, h)
theorem pick_vx (A : Option Addr) (c : Nat) (r : Fl) (b : List Int) (i h : Int) (xs : List Int) (hi : 0 ≤ i) (hl : b.length ≤ 1048576) (hx : 0 < xs.length) (hx2 : xs.length ≤ 100) :
  VX Tryz.prog 72 [.root bC sC (.pr (.kz A c) r) (b, i, h), .v false sI xs] 0 (curP A c b xs) := by
 refine VX.of_box hT Tryz.func72 rfl (by kernel_rfl) [(.tmp 4, false, .int .i64)] (by kernel_rfl) rfl fun bb => ?_
 show VW _ _ ([.root (.ibox 108 bb) sC (.pr (.kz A c) r) (b, i, h), .v false sI xs, D, D, D, D, D, D, D, D, D, D]) _
 repeat refine VW.seq ?_
 refine VW.regl hT fun K hK => ?_
 simp only [wq, simprocAttr]
 refine hK _ ?_
 clear hK K
 try refine vthen_n ?_
 repeat refine VW.seq ?_
 refine VW.regl hT fun K hK => ?_
 simp only [wq, simprocAttr]
 refine vcall_io 0 ?_
 simp only [wq, simprocAttr]
 refine vxcall_ex (below_vx A c r b i h xs.length hi hl (by omega)) ?_
 rintro pv ot ⟨m1, i1, h1, r1, rfl, ha1, hb1, hi1, rfl⟩
 simp only [wq, simprocAttr]
 refine ⟨decide_eq_true ⟨ha1, hb1⟩, ?_⟩
 refine hK _ ?_
 clear hK K
 try refine vthen_n ?_
 refine VW.ret ⟨.inl rfl, _, _, _, _, rfl, ⟨0, rfl⟩, _, i1, h1, r1, rfl, ?_, hi1, rfl⟩
 rw [List.getD_eq_getElem?_getD, List.getElem?_eq_getElem (by omega)]
 exact List.getElem_mem _
set_option maxRecDepth 20000 in
theorem new_vc (b : List Int) (hl : b.length ≤ 1048576) : VC Tryz.prog 28 [.v false sB b] (fun pv => ∃ (A : Option Addr) (c : Nat) (r : Fl) (h : Int), pv = .root bC sC (.pr (.kz A c) r) (b, 0, h)) := by
 refine (VC.of_vx (R := fun pv _ => ∃ (A : Option Addr) (c : Nat) (r : Fl) (h : Int), pv = .root bC sC (.pr (.kz A c) r) (b, 0, h)) ?_ (fun pv hp => by simp at hp; subst hp; rfl)).mono fun pv ⟨_, h⟩ => h
 refine VX.of_moved hT Tryz.func28 rfl (by kernel_rfl) [(.tmp 2, false, .int .i64)] (by kernel_rfl) (by simp) ?_
 show VW _ _ ([.v false sB b, D, D, D, D, D, D, D, D, D, D, D, D, D, D, D, D, D, D, D, D, D, D, D, D, D, D, D, D, D, D, D]) _
 repeat refine VW.seq ?_
 refine VW.regl hT fun K hK => ?_
 simp only [wq, simprocAttr]
 refine hK _ ?_
 clear hK K
 try refine vthen_n ?_
 repeat refine VW.seq ?_
 refine VW.regl hT fun K hK => ?_
 simp only [wq, simprocAttr]
 refine hK _ ?_
 clear hK K
 try refine vthen_n ?_
 repeat refine VW.seq ?_
 refine VW.regl hT fun K hK => ?_
 simp only [wq, simprocAttr]
 refine hK _ ?_
 clear hK K
 try refine vthen_n ?_
 repeat refine VW.seq ?_
 refine VW.block ?_
 refine VW.loop (α := Nat × Int) [(0, none), (3, none), (4, none)] (fun q => [.v false sB b, D, D, .v false (.int .i64) (q.2), .v false (.int .i64) (q.1), D, D, D, D, D, D, D, D, D, D, D, D, D, D, D, D, D, D, D, D, D, D, D, D, D, D, D]) (fun q => q.1 ≤ b.length) (fun q => b.length - q.1) ⟨(0, IntKind.i64.wrap (98663 + (b.length : Int))), by show 0 ≤ b.length; omega, ?_⟩ fun q hi => ?_
 ·simp only [wn, wq, simprocAttr]
  try rfl
 obtain ⟨i, hh⟩ := q
 simp only at hi ⊢
 repeat refine VW.seq ?_
 refine VW.regl hT fun K hK => ?_
 simp only [wq, simprocAttr]
 refine vbr (fun g => ?_) (fun g => ?_) <;> simp only [wq, simprocAttr]
 ·have hlt : i < b.length := by
   have : (i : Int) < (b.length : Int) := of_decide_eq_true g
   omega
  refine hK _ ?_
  clear hK K
  try refine vthen_n ?_
  repeat refine VW.seq ?_
  refine VW.cond rfl (fun hc => ?_) (fun hc => ?_)
  ·refine VW.skip (vthen_n ?_)
   repeat refine VW.seq ?_
   refine VW.block ?_
   repeat refine VW.seq ?_
   refine VW.regl hT fun K hK => ?_
   simp only [wq, simprocAttr]
   refine ⟨decide_eq_true ⟨Int.natCast_nonneg _, by show (i : Int) < (b.length : Int); omega⟩, ?_⟩
   refine hK _ ?_
   clear hK K
   try refine vthen_n ?_
   repeat refine VW.seq ?_
   refine VW.regl hT fun K hK => ?_
   simp only [wq, simprocAttr]
   refine hK _ ?_
   clear hK K
   try refine vthen_n ?_
   rw [wrap64 (x := (i : Int) + 1) (by omega) (by omega)]
   refine ⟨(i + 1, ?v), ?pa, ?ph, ?pm⟩
   case ph =>
    simp only [wn, wq, simprocAttr]
    try rfl
   case pa => exact hlt
   case pm => show b.length - (i + 1) < b.length - i; omega
  ·refine VW.exit ?_
   show vthen _ _ _ .normal _
   refine vthen_n ?_
   repeat refine VW.seq ?_
   refine VW.regl hT fun K hK => ?_
   simp only [wq, simprocAttr]
   refine hK _ ?_
   clear hK K
   try refine vthen_n ?_
   refine VW.retag (ι := Option Addr × Nat) (g := 31) (fun j => .pr (.kz j.1 j.2) .fz) _ rfl (fun w Z cs B h => kz_l rfl h) (fun j => by simp only [wq, simprocAttr]; rfl) (fun j => ?_)
   exact VW.ret ⟨.inl rfl, _, _, rfl, j.1, j.2, _, _, rfl⟩
 ·refine hK _ ?_
  clear hK K
  try refine vthen_n ?_
  repeat refine VW.seq ?_
  refine VW.cond rfl (fun hc => ?_) (fun hc => ?_)
  ·cases hc
  ·refine VW.exit ?_
   show vthen _ _ _ .normal _
   refine vthen_n ?_
   repeat refine VW.seq ?_
   refine VW.regl hT fun K hK => ?_
   simp only [wq, simprocAttr]
   refine hK _ ?_
   clear hK K
   try refine vthen_n ?_
   refine VW.retag (ι := Option Addr × Nat) (g := 31) (fun j => .pr (.kz j.1 j.2) .fz) _ rfl (fun w Z cs B h => kz_l rfl h) (fun j => by simp only [wq, simprocAttr]; rfl) (fun j => ?_)
   exact VW.ret ⟨.inl rfl, _, _, rfl, j.1, j.2, _, _, rfl⟩
end Go.Proofs.YtoeblmcibheldaaGreatDoor.V.W
end
section
namespace Go.Proofs.YtoeblmcibheldaaGreatDoor.V.W
open Go Go.RowKit
def treeR (A : Option Addr) (c : Nat) (b : List Int) (pv ot : PV) : Prop := ∃ (t : List Nd) (i h : Int) (r : Fl), pv = .root (.val false) sNS .own t ∧ treeOk t = true ∧ 0 ≤ i ∧ ot = .root bC sC (.pr (.kz A c) r) (b, i, h)
set_option maxRecDepth 20000 in
theorem tree_vx (A : Option Addr) (c : Nat) (r : Fl) (b : List Int) (i h : Int) (hi : 0 ≤ i) (hl : b.length ≤ 1048576) :
  VX Tryz.prog 71 [.root bC sC (.pr (.kz A c) r) (b, i, h)] 0 (treeR A c b) := by
 refine VX.of_box hT Tryz.func71 rfl (by kernel_rfl) [(.tmp 2, false, sNS)] (by kernel_rfl) rfl fun bb => ?_
 show VW _ _ ([.root (.ibox 108 bb) sC (.pr (.kz A c) r) (b, i, h), D, D, D, D, D, D, D, D, D, D, D, D, D, D, D, D, D, D, D, D, D, D, D, D, D, D, D, D, D, D, D, D, D, D, D]) _
 repeat refine VW.seq ?_
 refine VW.regl hT fun K hK => ?_
 simp only [wq, simprocAttr]
 refine hK _ ?_
 clear hK K
 try refine vthen_n ?_
 repeat refine VW.seq ?_
 refine VW.regl hT fun K hK => ?_
 simp only [wq, simprocAttr]
 refine hK _ ?_
 clear hK K
 try refine vthen_n ?_
 repeat refine VW.seq ?_
 refine VW.regl hT fun K hK => ?_
 simp only [wq, simprocAttr]
 refine hK _ ?_
 clear hK K
 try refine vthen_n ?_
 repeat refine VW.seq ?_
 refine VW.block ?_
 refine VW.loop (α := Nat × List Nd × Int × Int × Fl) [(0, none), (3, none), (4, none)] (fun q => [.root (.ibox 108 bb) sC (.pr (.kz A c) q.2.2.2.2) (b, q.2.2.1, q.2.2.2.1), D, D, .root (.val false) sNS .own q.2.1, .v false (.int .i64) (q.1), D, D, D, D, D, D, D, D, D, D, D, D, D, D, D, D, D, D, D, D, D, D, D, D, D, D, D, D, D, D, D]) (fun q => q.1 ≤ 10 ∧ treeOk q.2.1 = true ∧ 0 ≤ q.2.2.1) (fun q => 11 - q.1) ⟨(0, [(-1, 0, 0)], i, h, r), ⟨by show 0 ≤ 10; omega, by show treeOk [(-1, 0, 0)] = true; decide, hi⟩, ?_⟩ fun q hq => ?_
 ·simp only [wn, wq, simprocAttr]
  try rfl
 obtain ⟨k, xs, i, h, r⟩ := q
 obtain ⟨hk, hok, hi⟩ := hq
 simp only at hk hok hi ⊢
 have hxl := treeOk_len hok
 repeat refine VW.seq ?_
 refine VW.regl hT fun K hK => ?_
 simp only [wq, simprocAttr]
 refine vcall_io 0 ?_
 simp only [wq, simprocAttr]
 refine vxcall_ex (below_vx A c r b i h 8 hi hl (by omega)) ?_
 rintro pv ot ⟨m1, i1, h1, r1, rfl, ha1, hb1, hi1, rfl⟩
 simp only [wq, simprocAttr]
 rw [wrap64 (by omega) (by omega)]
 refine hK _ ?_
 clear hK K
 try refine vthen_n ?_
 repeat refine VW.seq ?_
 refine VW.cond rfl (fun hc => ?_) (fun hc => ?_)
 ·have hk2 : (k : Int) < 3 + m1 := of_decide_eq_true hc
  refine VW.skip (vthen_n ?_)
  repeat refine VW.seq ?_
  refine VW.block ?_
  repeat refine VW.seq ?_
  refine VW.regl hT fun K hK => ?_
  simp only [wq, simprocAttr]
  refine vcall_io 0 ?_
  simp only [wq, simprocAttr]
  refine vxcall_ex (below_vx A c r1 b i1 h1 xs.length hi1 hl (by omega)) ?_
  rintro pv ot ⟨m2, i2, h2, r2, rfl, ha2, hb2, hi2, rfl⟩
  simp only [wq, simprocAttr]
  refine vcall_io 0 ?_
  simp only [wq, simprocAttr]
  refine vxcall_ex (below_vx A c r2 b i2 h2 4 hi2 hl (by omega)) ?_
  rintro pv ot ⟨m3, i3, h3, r3, rfl, ha3, hb3, hi3, rfl⟩
  simp only [wq, simprocAttr]
  refine vcall_io 0 ?_
  simp only [wq, simprocAttr]
  refine vxcall_ex (pick_vx A c r3 b i3 h3 [0, 0, 1, 1, 2, 4] hi3 hl (by decide) (by decide)) ?_
  rintro pv ot ⟨m4, i4, h4, r4, rfl, ha4, hi4, rfl⟩
  simp only [wq, simprocAttr]
  refine hK _ ?_
  clear hK K
  try refine vthen_n ?_
  repeat refine VW.seq ?_
  refine VW.mixl hT hm 0 5 (by kernel_rfl) fun K hK => ?_
  simp only [wq, simprocAttr]
  refine ⟨by kernel_rfl, by kernel_rfl, by simp [limOk]; omega, by kernel_rfl, by simp [limOk]; omega, ?_⟩
  refine hK _ ?_
  clear hK K
  try refine vthen_n ?_
  repeat refine VW.seq ?_
  refine VW.regl hT fun K hK => ?_
  simp only [wq, simprocAttr]
  refine vcall_of (specTreeOk_vc _ (by simp; omega)) ?_
  simp only [wq, simprocAttr]
  refine hK _ ?_
  clear hK K
  try refine vthen_n ?_
  repeat refine VW.seq ?_
  refine VW.cond rfl (fun hc => ?_) (fun hc => ?_)
  ·refine VW.weak (weak_norm [(0, none), (4, none), (6, none)] _) ?_
   simp only [wn, wq, simprocAttr]
   repeat refine VW.seq ?_
   refine VW.regl hT fun K hK => ?_
   simp only [wq, simprocAttr]
   refine hK _ ?_
   clear hK K
   try refine vthen_n ?_
   show vthen _ _ _ .normal _
   refine vthen_n ?_
   repeat refine VW.seq ?_
   refine VW.regl hT fun K hK => ?_
   simp only [wq, simprocAttr]
   refine hK _ ?_
   clear hK K
   try refine vthen_n ?_
   refine ⟨(k + 1, xs ++ [(m2, m3, m4)], i4, h4, r4), ⟨by show k + 1 ≤ 10; omega, hc, hi4⟩, ?_, by show 11 - (k + 1) < 11 - k; omega⟩
   simp only [wn, wq, simprocAttr]
   rw [wrap64 (by omega) (by omega)]
   rfl
  ·refine VW.skip ?_
   show vthen _ _ _ .normal _
   refine vthen_n ?_
   repeat refine VW.seq ?_
   refine VW.regl hT fun K hK => ?_
   simp only [wq, simprocAttr]
   refine hK _ ?_
   clear hK K
   try refine vthen_n ?_
   refine ⟨(k + 1, xs, i4, h4, r4), ⟨by show k + 1 ≤ 10; omega, hok, hi4⟩, ?_, by show 11 - (k + 1) < 11 - k; omega⟩
   simp only [wn, wq, simprocAttr]
   rw [wrap64 (by omega) (by omega)]
   rfl
 ·refine VW.exit ?_
  show vthen _ _ _ .normal _
  refine vthen_n ?_
  repeat refine VW.seq ?_
  refine VW.regl hT fun K hK => ?_
  simp only [wq, simprocAttr]
  refine hK _ ?_
  clear hK K
  try refine vthen_n ?_
  refine VW.ret ⟨.inl rfl, _, _, _, _, rfl, ⟨0, rfl⟩, xs, i1, h1, r1, rfl, hok, hi1, rfl⟩
end Go.Proofs.YtoeblmcibheldaaGreatDoor.V.W
end
section
namespace Go.Proofs.YtoeblmcibheldaaGreatDoor.V.W
open Go Go.RowKit
def onceR (A : Option Addr) (c : Nat) (b : List Int) (pv ot : PV) : Prop := ∃ (d : Bool) (i h : Int) (r : Fl), pv = .v false .bool (d) ∧ 0 ≤ i ∧ ot = .root bC sC (.pr (.kz A c) r) (b, i, h)
theorem once_vx (A : Option Addr) (c : Nat) (r : Fl) (b : List Int) (i h : Int) (n : Int) (hi : 0 ≤ i) (hl : b.length ≤ 1048576) (hn : 1 ≤ n) :
  VX Tryz.prog 74 [.root bC sC (.pr (.kz A c) r) (b, i, h), .v false (.int .i64) (n)] 0 (onceR A c b) := by
 refine VX.of_box hT Tryz.func74 rfl (by kernel_rfl) [(.tmp 4, false, .bool)] (by kernel_rfl) rfl fun bb => ?_
 show VW _ _ ([.root (.ibox 108 bb) sC (.pr (.kz A c) r) (b, i, h), .v false (.int .i64) (n), D, D, D, D, D, D, D]) _
 repeat refine VW.seq ?_
 refine VW.regl hT fun K hK => ?_
 simp only [wq, simprocAttr]
 refine hK _ ?_
 clear hK K
 try refine vthen_n ?_
 repeat refine VW.seq ?_
 refine VW.regl hT fun K hK => ?_
 simp only [wq, simprocAttr]
 refine vcall_io 0 ?_
 simp only [wq, simprocAttr]
 refine vxcall_ex (below_vx A c r b i h n hi hl hn) ?_
 rintro pv ot ⟨m1, i1, h1, r1, rfl, ha1, hb1, hi1, rfl⟩
 simp only [wq, simprocAttr]
 refine hK _ ?_
 clear hK K
 try refine vthen_n ?_
 exact VW.ret ⟨.inl rfl, _, _, _, _, rfl, ⟨0, rfl⟩, _, i1, h1, r1, rfl, hi1, rfl⟩
def guardR (t : List Nd) (A : Option Addr) (c : Nat) (b : List Int) (pv ot : PV) : Prop := ∃ (g : List Bool) (i h : Int) (r : Fl), pv = .root (.val true) sG .own g ∧ g.length = t.length ∧ (0 < t.length → g.getD 0 false = true) ∧ 0 ≤ i ∧ ot = .root bC sC (.pr (.kz A c) r) (b, i, h)
set_option maxRecDepth 20000 in
set_option maxHeartbeats 4000000 in
theorem guardD_vx (A : Option Addr) (c : Nat) (r : Fl) (b : List Int) (i h : Int) (t : List Nd) (hi : 0 ≤ i) (hl : b.length ≤ 1048576) (ht : t.length ≤ 100) :
  VX Tryz.prog 76 [.root bC sC (.pr (.kz A c) r) (b, i, h), .v false sNS t] 0 (guardR t A c b) := by
 refine VX.of_box hT Tryz.func76 rfl (by kernel_rfl) [(.cell 4 30, true, sG)] (by kernel_rfl) rfl fun bb => ?_
 show VW _ _ ([.root (.ibox 108 bb) sC (.pr (.kz A c) r) (b, i, h), .v false sNS t, D, D, D, D, D, D, D, D, D, D, D, D, D, D, D, D, D, D, D, D, D, D, D, D, D]) _
 repeat refine VW.seq ?_
 refine VW.regl hT fun K hK => ?_
 simp only [wq, simprocAttr]
 refine hK _ ?_
 clear hK K
 try refine vthen_n ?_
 repeat refine VW.seq ?_
 refine VW.regl hT fun K hK => ?_
 simp only [wq, simprocAttr]
 refine hK _ ?_
 clear hK K
 try refine vthen_n ?_
 repeat refine VW.seq ?_
 refine VW.regl hT fun K hK => ?_
 simp only [wq, simprocAttr]
 refine hK _ ?_
 clear hK K
 try refine vthen_n ?_
 repeat refine VW.seq ?_
 refine VW.block ?_
 refine VW.loop (α := List Bool × Int × Int × Fl) [(0, none), (1, none), (4, none), (5, none), (6, none)] (fun q => [.root (.ibox 108 bb) sC (.pr (.kz A c) q.2.2.2) (b, q.2.1, q.2.2.1), .v false sNS t, D, D, .root (.box 30) sG .own [], .root (.box 30) sG .own q.1, .v false (.int .i64) (q.1.length), D, D, D, D, D, D, D, D, D, D, D, D, D, D, D, D, D, D, D, D]) (fun q => q.1.length ≤ t.length ∧ (0 < q.1.length → q.1.getD 0 false = true) ∧ 0 ≤ q.2.1) (fun q => t.length - q.1.length) ⟨([], i, h, r), ⟨Nat.zero_le _, fun h => absurd h (Nat.lt_irrefl 0), hi⟩, ?_⟩ fun q hq => ?_
 ·simp only [wn, wq, simprocAttr]
  try rfl
 obtain ⟨g, i, h, r⟩ := q
 obtain ⟨hk, hg0, hi⟩ := hq
 simp only at hk hg0 hi ⊢
 repeat refine VW.seq ?_
 refine VW.regl hT fun K hK => ?_
 simp only [wq, simprocAttr]
 refine hK _ ?_
 clear hK K
 try refine vthen_n ?_
 repeat refine VW.seq ?_
 refine VW.cond rfl (fun hc => ?_) (fun hc => ?_)
 ·have hlt : g.length < t.length := by simpa using hc
  have hL : limOk (g.length + 1) 1 = true := by simp only [limOk]; exact decide_eq_true (by omega)
  refine VW.skip (vthen_n ?_)
  repeat refine VW.seq ?_
  refine VW.block ?_
  rcases Nat.eq_zero_or_pos g.length with hz | hz
  ·have h0 : ((g.length : Int) == 0) = true := by rw [hz]; rfl
   repeat refine VW.seq ?_
   refine VW.any hT hm fun K hK W hW => ?_
   apply cutl; intro tK
   apply cutl; intro t8191
   apply cutl; intro t4095
   apply cutl; intro t1023
   apply cutl; intro t1021
   apply cutl; intro t511
   apply cutl; intro t509
   apply cutl; intro t255
   apply cutl; intro t253
   apply cutl; intro t127
   apply cutl; intro t125
   apply cutl; intro t63
   apply cutl; intro t61
   apply cutl; intro t31
   apply cutl; intro t29
   apply cutl; intro t7
   ·refine hW.takeF 0 0 1 _ (by kernel_rfl) ?_
    simp only [wy, wq, simprocAttr]
    refine hW.take 1 2 5 _ (by kernel_rfl) ?_
    simp only [wy, wq, simprocAttr]
    refine hW.all 5 [(1, 7), (3, 13)] _ (by kernel_rfl) (by simp) ?_
    simp only [wy, wq, simprocAttr]
    refine ⟨?_, ?_⟩
    ·exact t7.h
    ·rw [h0]
     refine hW.take 13 4 29 _ (by kernel_rfl) ?_
     simp only [wy, wq, simprocAttr]
     exact t29.h
   ·refine hW.all 7 [(3, 15)] _ (by kernel_rfl) (by simp) ?_
    simp only [wy, wq, simprocAttr]
    skip
    rw [h0]
    refine hW.take 15 4 31 _ (by kernel_rfl) ?_
    simp only [wy, wq, simprocAttr]
    exact t31.h
   ·refine hW.all 29 [(1, 31), (5, 61)] _ (by kernel_rfl) (by simp) ?_
    simp only [wy, wq, simprocAttr]
    exact ⟨t31.h, t61.h⟩
   ·refine hW.all 31 [(5, 63)] _ (by kernel_rfl) (by simp) ?_
    simp only [wy, wq, simprocAttr]
    exact t63.h
   ·refine hW.all 61 [(1, 63), (6, 125)] _ (by kernel_rfl) (by simp) ?_
    simp only [wy, wq, simprocAttr]
    exact ⟨t63.h, t125.h⟩
   ·refine hW.all 63 [(6, 127)] _ (by kernel_rfl) (by simp) ?_
    simp only [wy, wq, simprocAttr]
    exact t127.h
   ·refine hW.all 125 [(1, 127), (7, 253)] _ (by kernel_rfl) (by simp) ?_
    simp only [wy, wq, simprocAttr]
    exact ⟨t127.h, t253.h⟩
   ·refine hW.all 127 [(7, 255)] _ (by kernel_rfl) (by simp) ?_
    simp only [wy, wq, simprocAttr]
    exact t255.h
   ·refine hW.all 253 [(1, 255), (8, 509)] _ (by kernel_rfl) (by simp) ?_
    simp only [wy, wq, simprocAttr]
    exact ⟨t255.h, t509.h⟩
   ·refine hW.all 255 [(8, 511)] _ (by kernel_rfl) (by simp) ?_
    simp only [wy, wq, simprocAttr]
    exact t511.h
   ·refine hW.all 509 [(1, 511), (9, 1021)] _ (by kernel_rfl) (by simp) ?_
    simp only [wy, wq, simprocAttr]
    exact ⟨t511.h, t1021.h⟩
   ·refine hW.all 511 [(9, 1023)] _ (by kernel_rfl) (by simp) ?_
    simp only [wy, wq, simprocAttr]
    exact t1023.h
   ·refine hW.all 1021 [(1, 1023)] _ (by kernel_rfl) (by simp) ?_
    simp only [wy, wq, simprocAttr]
    exact t1023.h
   ·refine hW.all 1023 [(10, 2047)] _ (by kernel_rfl) (by simp) ?_
    simp only [wy, wq, simprocAttr]
    skip
    refine ⟨hL, ?_⟩
    refine hW.takeF 2047 11 4095 _ (by kernel_rfl) ?_
    simp only [wy, wq, simprocAttr]
    exact t4095.h
   ·refine hW.all 4095 [(12, 8191)] _ (by kernel_rfl) (by simp) ?_
    simp only [wy, wq, simprocAttr]
    exact t8191.h
   ·refine hW.done 8191 _ (by kernel_rfl) ?_
    exact tK.h
   refine hK _ ?_
   clear hW W hK K
   show vthen _ _ _ .normal _
   refine vthen_n ?_
   repeat refine VW.seq ?_
   refine VW.regl hT fun K hK => ?_
   simp only [wq, simprocAttr]
   refine hK _ ?_
   clear hK K
   try refine vthen_n ?_
   refine ⟨(g ++ [true], i, h, r), ⟨by show (g ++ [true]).length ≤ _; rw [List.length_append]; exact hlt, fun _ => ?_, hi⟩, ?_, by show t.length - (g ++ [true]).length < t.length - g.length; rw [List.length_append, List.length_singleton]; omega⟩
   ·have : g = [] := List.eq_nil_of_length_eq_zero hz
    subst this
    rfl
   simp only [wn, wq, simprocAttr]
   rw [List.length_append, List.length_singleton, wrap64 (by omega) (by omega), show (g.length : Int) + 1 = ((g.length + 1 : Nat) : Int) by omega]
  ·have h0 : ((g.length : Int) == 0) = false := by
    rw [beq_eq_false_iff_ne]
    omega
   repeat refine VW.seq ?_
   refine VW.any hT hm fun K hK W hW => ?_
   apply cutl; intro tK
   apply cutl; intro t8191
   apply cutl; intro t4095
   apply cutl; intro t1023
   apply cutl; intro t1021
   apply cutl; intro t511
   apply cutl; intro t509
   apply cutl; intro t255
   apply cutl; intro t253
   apply cutl; intro t127
   apply cutl; intro t125
   apply cutl; intro t63
   apply cutl; intro t61
   apply cutl; intro t31
   apply cutl; intro t29
   apply cutl; intro t7
   ·refine hW.takeF 0 0 1 _ (by kernel_rfl) ?_
    simp only [wy, wq, simprocAttr]
    refine hW.take 1 2 5 _ (by kernel_rfl) ?_
    simp only [wy, wq, simprocAttr]
    refine hW.all 5 [(1, 7), (3, 13)] _ (by kernel_rfl) (by simp) ?_
    simp only [wy, wq, simprocAttr]
    refine ⟨?_, ?_⟩
    ·exact t7.h
    ·rw [h0]
     refine hW.take 13 4 29 _ (by kernel_rfl) ?_
     simp only [wy, wq, simprocAttr]
     exact t29.h
   ·refine hW.all 7 [(3, 15)] _ (by kernel_rfl) (by simp) ?_
    simp only [wy, wq, simprocAttr]
    skip
    rw [h0]
    refine hW.take 15 4 31 _ (by kernel_rfl) ?_
    simp only [wy, wq, simprocAttr]
    exact t31.h
   ·refine hW.all 29 [(1, 31), (5, 61)] _ (by kernel_rfl) (by simp) ?_
    simp only [wy, wq, simprocAttr]
    exact ⟨t31.h, t61.h⟩
   ·refine hW.all 31 [(5, 63)] _ (by kernel_rfl) (by simp) ?_
    simp only [wy, wq, simprocAttr]
    exact t63.h
   ·refine hW.all 61 [(1, 63), (6, 125)] _ (by kernel_rfl) (by simp) ?_
    simp only [wy, wq, simprocAttr]
    refine ⟨?_, ?_⟩
    ·exact t63.h
    ·refine vcall_io 0 ?_
     simp only [wq, simprocAttr]
     refine vxcall_ex (once_vx A c r b i h 5 hi hl (by omega)) ?_
     rintro pv ot ⟨d1, i1, h1, r1, rfl, hi1, rfl⟩
     simp only [wq, simprocAttr]
     revert d1 i1 h1 r1 hi1
     exact t125.h
   ·refine hW.all 63 [(6, 127)] _ (by kernel_rfl) (by simp) ?_
    simp only [wy, wq, simprocAttr]
    skip
    refine vcall_io 0 ?_
    simp only [wq, simprocAttr]
    refine vxcall_ex (once_vx A c r b i h 5 hi hl (by omega)) ?_
    rintro pv ot ⟨d1, i1, h1, r1, rfl, hi1, rfl⟩
    simp only [wq, simprocAttr]
    revert d1 i1 h1 r1 hi1
    exact t127.h
   ·intro d1 i1 h1 r1 hi1
    refine hW.all 125 [(1, 127), (7, 253)] _ (by kernel_rfl) (by simp) ?_
    simp only [wy, wq, simprocAttr]
    refine ⟨?_, ?_⟩
    ·revert d1 i1 h1 r1 hi1
     exact t127.h
    ·revert d1 i1 h1 r1 hi1
     exact t253.h
   ·intro d1 i1 h1 r1 hi1
    refine hW.all 127 [(7, 255)] _ (by kernel_rfl) (by simp) ?_
    simp only [wy, wq, simprocAttr]
    skip
    revert d1 i1 h1 r1 hi1
    exact t255.h
   ·intro d1 i1 h1 r1 hi1
    refine hW.all 253 [(1, 255), (8, 509)] _ (by kernel_rfl) (by simp) ?_
    simp only [wy, wq, simprocAttr]
    refine ⟨?_, ?_⟩
    ·revert d1 i1 h1 r1 hi1
     exact t255.h
    ·revert d1 i1 h1 r1 hi1
     exact t509.h
   ·intro d1 i1 h1 r1 hi1
    refine hW.all 255 [(8, 511)] _ (by kernel_rfl) (by simp) ?_
    simp only [wy, wq, simprocAttr]
    skip
    revert d1 i1 h1 r1 hi1
    exact t511.h
   ·intro d1 i1 h1 r1 hi1
    refine hW.all 509 [(1, 511), (9, 1021)] _ (by kernel_rfl) (by simp) ?_
    simp only [wy, wq, simprocAttr]
    refine ⟨?_, ?_⟩
    ·revert d1 i1 h1 r1 hi1
     exact t511.h
    ·revert d1 i1 h1 r1 hi1
     exact t1021.h
   ·intro d1 i1 h1 r1 hi1
    refine hW.all 511 [(9, 1023)] _ (by kernel_rfl) (by simp) ?_
    simp only [wy, wq, simprocAttr]
    skip
    revert d1 i1 h1 r1 hi1
    exact t1023.h
   ·intro d1 i1 h1 r1 hi1
    refine hW.all 1021 [(1, 1023)] _ (by kernel_rfl) (by simp) ?_
    simp only [wy, wq, simprocAttr]
    skip
    revert d1 i1 h1 r1 hi1
    exact t1023.h
   ·intro d1 i1 h1 r1 hi1
    refine hW.all 1023 [(10, 2047)] _ (by kernel_rfl) (by simp) ?_
    simp only [wy, wq, simprocAttr]
    skip
    refine ⟨hL, ?_⟩
    refine hW.takeF 2047 11 4095 _ (by kernel_rfl) ?_
    simp only [wy, wq, simprocAttr]
    revert d1 i1 h1 r1 hi1
    exact t4095.h
   ·intro d1 i1 h1 r1 hi1
    refine hW.all 4095 [(12, 8191)] _ (by kernel_rfl) (by simp) ?_
    simp only [wy, wq, simprocAttr]
    skip
    revert d1 i1 h1 r1 hi1
    exact t8191.h
   ·intro d1 i1 h1 r1 hi1
    refine hW.done 8191 _ (by kernel_rfl) ?_
    revert d1 i1 h1 r1 hi1
    exact tK.h
   intro d1 i1 h1 r1 hi1
   refine hK _ ?_
   clear hW W hK K
   show vthen _ _ _ .normal _
   refine vthen_n ?_
   repeat refine VW.seq ?_
   refine VW.regl hT fun K hK => ?_
   simp only [wq, simprocAttr]
   refine hK _ ?_
   clear hK K
   try refine vthen_n ?_
   refine ⟨(g ++ [!d1], i1, h1, r1), ⟨by show (g ++ [!d1]).length ≤ _; rw [List.length_append]; exact hlt, fun _ => ?_, hi1⟩, ?_, by show t.length - (g ++ [!d1]).length < t.length - g.length; rw [List.length_append, List.length_singleton]; omega⟩
   ·show (g ++ [!d1]).getD 0 false = true
    rw [List.getD_eq_getElem?_getD, List.getElem?_append_left hz, ← List.getD_eq_getElem?_getD]
    exact hg0 hz
   simp only [wn, wq, simprocAttr]
   rw [List.length_append, List.length_singleton, wrap64 (by omega) (by omega), show (g.length : Int) + 1 = ((g.length + 1 : Nat) : Int) by omega]
 ·have hge : g.length = t.length := by
   have hc : ¬ (g.length : Int) < (t.length : Int) := of_decide_eq_false hc
   omega
  refine VW.exit ?_
  show vthen _ _ _ .normal _
  refine vthen_n ?_
  repeat refine VW.seq ?_
  refine VW.regl hT fun K hK => ?_
  simp only [wq, simprocAttr]
  refine hK _ ?_
  clear hK K
  try refine vthen_n ?_
  exact VW.ret ⟨.inl rfl, _, _, _, _, rfl, ⟨0, rfl⟩, g, i, h, r, rfl, hge, fun h => hg0 (by omega), hi, rfl⟩
end Go.Proofs.YtoeblmcibheldaaGreatDoor.V.W
end
section
namespace Go.Proofs.YtoeblmcibheldaaGreatDoor.V.W
open Go Go.RowKit
theorem up_two {n i : Nat} (h : n ≤ 2 ^ i) : up n ≤ 2 ^ i := by
 rw [up]
 split
 ·exact Nat.zero_le _
 ·rename_i hn
  refine Nat.pow_le_pow_right (by omega) ?_
  have : (2 * n - 1).log2 < i + 1 := (Nat.log2_lt (by omega)).2 (by rw [Nat.pow_succ]; omega)
  omega
/-- a window's bound, by how many nodes come from it on -/
def be (m : Nat) : Nat := if m = 0 then 0 else 2 ^ (6 + (m - 2))
theorem be_two {m : Nat} (h : 2 ≤ m) : be (m + 1) = 2 * be m := by
 rw [be, be, if_neg (by omega), if_neg (by omega), show 6 + (m + 1 - 2) = 6 + (m - 2) + 1 by omega, Nat.pow_succ]
 omega
theorem be_one : be 1 = 64 ∧ be 2 = 64 := ⟨rfl, rfl⟩
theorem be_sum (n k : Nat) : ∀ m, m ≤ n → (m ≤ k + 1 ∧ ((List.range m).map fun j => if k < j then be (n - j) else 0).sum = 0) ∨ (((List.range m).map fun j => if k < j then be (n - j) else 0).sum + (if m = n then 0 else be (n + 1 - m)) ≤ be (n - k) ∧ k + 1 < m)
 | 0, _ => .inl ⟨by omega, rfl⟩
 | m + 1, h => by
  rw [List.range_succ, List.map_append, List.sum_append_nat]
  simp only [List.map_cons, List.map_nil, List.sum_cons, List.sum_nil, Nat.add_zero]
  have e1 : n + 1 - (m + 1) = n - m := by omega
  rw [e1]
  rcases be_sum n k m (by omega) with ⟨h1, h2⟩ | ⟨h1, h2⟩
  ·rw [h2]
   by_cases hk : k < m
   ·obtain rfl : m = k + 1 := by omega
    rw [if_pos hk]
    refine .inr ⟨?_, by omega⟩
    by_cases hn : k + 1 + 1 = n
    ·rw [if_pos hn, show n - (k + 1) = 1 by omega, show n - k = 2 by omega, be_one.1, be_one.2]
     omega
    ·rw [if_neg hn]
     have := be_two (m := n - (k + 1)) (by omega)
     rw [show n - (k + 1) + 1 = n - k by omega] at this
     omega
   ·rw [if_neg hk]
    exact .inl ⟨by omega, by omega⟩
  ·rw [if_pos (by omega)]
   rw [if_neg (by omega)] at h1
   refine .inr ⟨?_, by omega⟩
   by_cases hn : m + 1 = n
   ·rw [if_pos hn, show n - m = 1 by omega, be_one.1]
    rw [show n + 1 - m = 2 by omega, be_one.2] at h1
    omega
   ·rw [if_neg hn]
    have := be_two (m := n - m) (by omega)
    rw [show n - m + 1 = n + 1 - m by omega] at this
    omega
theorem win_be {t : List Nd} {s : List Int} (hok : treeOk t = true) (h64 : ∀ j, j < t.length → s.getD j 0 ≤ 64) : ∀ (f k : Nat), t.length - k ≤ f → k < t.length → win t s k ≤ be (t.length - k)
 | 0, k, h, hk => by omega
 | f + 1, k, h, hk => by
  have hb : be (t.length - k) = 2 ^ (6 + (t.length - k - 2)) := by rw [be, if_neg (by omega)]
  rw [win_eq hok s hk]
  split
  ·rw [hb]
   refine up_two ?_
   rw [← hb]
   have h1 : ksum t s k ≤ wsum (fun j => be (t.length - j)) (kids t k t.length) := by
    refine wsum_bd fun a ha => ?_
    obtain ⟨j, rfl, h3, h4, h5, h6⟩ := kids_pos hok ha
    exact win_be hok h64 f j (by omega) h4
   have h2 := kids_above (fun j => be (t.length - j)) t k fun a ha => by
    obtain ⟨j, rfl, h3, h4, h5, h6⟩ := kids_pos hok ha
    omega
   rcases be_sum t.length k t.length (Nat.le_refl _) with ⟨h3, h4⟩ | ⟨h3, h4⟩
   ·omega
   ·rw [if_pos rfl] at h3
    omega
  ·have h1 := h64 k hk
   have h2 : 2 ^ 6 ≤ be (t.length - k) := by rw [hb]; exact Nat.pow_le_pow_right (by omega) (by omega)
   have h2 : 64 ≤ be (t.length - k) := h2
   omega
theorem small_fits {t : List Nd} {s : List Int} (hok : treeOk t = true) (hl : s.length = t.length) (h : ∀ j, j < t.length → (s.getD j 0 = 0 ∨ s.getD j 0 = 16 ∨ s.getD j 0 = 32 ∨ s.getD j 0 = 64) ∧ ((t.getD j z).2.2 = 0 → s.getD j 0 = 0)) : newOk t s = true := by
 have htl := treeOk_len hok
 have h64 : ∀ j, j < t.length → s.getD j 0 ≤ 64 := fun j hj => by
  have := (h j hj).1
  omega
 have hs : sizesOk t s = true := by
  refine sizesOk_iff.2 ⟨hok, hl, fun k hk => ?_⟩
  obtain ⟨h1, h2⟩ := h k hk
  rw [sizeBad]
  by_cases hz : s.getD k 0 = 0
  ·rw [hz]; rfl
  ·have hd : ((t.getD k z).2.2 == 0) = false := by
    rw [beq_eq_false_iff_ne]
    exact fun e => hz (h2 e)
   rw [hd, Bool.false_or]
   rcases h1 with e | e | e | e <;> rw [e] <;> rfl
 have hw := win_be hok h64 t.length 0 (by omega) (by omega)
 have hb : be (t.length - 0) ≤ 65536 := by
  rw [be]
  split
  ·omega
  ·have : 2 ^ (6 + (t.length - 0 - 2)) ≤ 2 ^ 16 := Nat.pow_le_pow_right (by omega) (by omega)
   have e : (2 : Nat) ^ 16 = 65536 := rfl
   omega
 rw [newOk, fits, hs, decide_eq_true (by omega), Bool.true_and, Bool.true_and, Bool.not_eq_true', List.any_eq_false]
 intro x hx
 obtain ⟨j, h1, rfl⟩ := List.getElem_of_mem hx
 have := h64 j (by omega)
 rw [List.getD_eq_getElem?_getD, List.getElem?_eq_getElem h1] at this
 have : s[j] ≤ 64 := this
 simpa using this
end Go.Proofs.YtoeblmcibheldaaGreatDoor.V.W
end
section
namespace Go.Proofs.YtoeblmcibheldaaGreatDoor.V.W
open Go Go.RowKit
end Go.Proofs.YtoeblmcibheldaaGreatDoor.V.W
end
section
namespace Go.Proofs.YtoeblmcibheldaaGreatDoor.V.W
open Go Go.RowKit
/-- the room that is left behind an address in a window -/
def room (w : Int × Int) (a : Int) : Int := IntKind.i64.wrap (w.1 - IntKind.i64.wrap (a - w.2))
abbrev r2 (p : Int × Int) : PV := .root (.tup [false, false]) (.pr (.int .i64) (.int .i64)) (.pr .fz .fz) p
end Go.Proofs.YtoeblmcibheldaaGreatDoor.V.W
end
section
namespace Go.Proofs.YtoeblmcibheldaaGreatDoor.V.W
open Go Go.RowKit
end Go.Proofs.YtoeblmcibheldaaGreatDoor.V.W
end
section
namespace Go.Proofs.YtoeblmcibheldaaGreatDoor.V.W
open Go Go.RowKit
end Go.Proofs.YtoeblmcibheldaaGreatDoor.V.W
end
section
namespace Go.Proofs.YtoeblmcibheldaaGreatDoor.V.W
open Go Go.RowKit
/-- a fabric's parts, if it is valid -/
theorem fab_parts {t : List Nd} {s : List Int} {b : List (Int × Int)} {m : List (List Int)} {g : List Bool} (h : fabOk (t, s, b, m, g) = true) : newOk t s = true ∧ allBars t s = b ∧ m.length = s.length ∧ guardOk t g = true ∧ (∀ k, k < m.length → ((m.getD k []).length : Int) = s.getD k 0 ∧ words (m.getD k []) = true) := by
 rw [fabOk, Bool.and_eq_true, Bool.and_eq_true, Bool.and_eq_true, Bool.and_eq_true] at h
 obtain ⟨h1, h2, h3, h4, h5⟩ := h
 have h5 : ((List.range m.length).all fun k => !memBad m s k) = true := h5
 refine ⟨h1, of_decide_eq_true h2, ?_, h4, fun k hk => ?_⟩
 ·have h3 : ((m.length : Int) == (s.length : Int)) = true := h3
  have := eq_of_beq h3
  omega
 ·have := List.all_eq_true.1 h5 k (List.mem_range.2 hk)
  rw [Bool.not_eq_true', memBad, Bool.or_eq_false_iff, Bool.not_eq_false', Bool.not_eq_false'] at this
  exact ⟨eq_of_beq this.1, this.2⟩
end Go.Proofs.YtoeblmcibheldaaGreatDoor.V.W
end
section
namespace Go.Proofs.YtoeblmcibheldaaGreatDoor.V.W
open Go Go.RowKit
theorem words_iff {xs : List Int} : words xs = true ↔ ∀ x, x ∈ xs → inB x 0 65535 = true := by
 rw [words, Bool.not_eq_true', List.any_eq_false]
 refine ⟨fun h x hx => ?_, fun h x hx => ?_⟩
 ·have := h x hx
  simpa using this
 ·rw [h x hx]; decide
theorem words_set {xs : List Int} (h : words xs = true) (i : Nat) {v : Int} (h0 : 0 ≤ v) (h1 : v ≤ 65535) : words (xs.set i v) = true := by
 rw [words_iff] at h ⊢
 intro x hx
 rcases List.mem_or_eq_of_mem_set hx with h2 | rfl
 ·exact h x h2
 ·exact inB_iff.2 ⟨h0, h1⟩
/-- rows of memory that go with sizes -/
structure MemR (s : List Int) (m : List (List Int)) : Prop where
 len : m.length = s.length
 row : ∀ k, k < m.length → ((m.getD k []).length : Int) = s.getD k 0 ∧ words (m.getD k []) = true
theorem memR_new {s : List Int} (h : ∀ k, k < s.length → 0 ≤ s.getD k 0) : MemR s (memTo s s.length) := by
 have hl : (memTo s s.length).length = s.length := memTo_len (Nat.le_refl _)
 refine ⟨hl, fun k hk => ?_⟩
 have e : (memTo s s.length).getD k [] = List.replicate (s.getD k 0).toNat 0 := by
  unfold memTo
  rw [List.getD_eq_getElem?_getD, List.getElem?_map, List.getElem?_take_of_lt (by omega), List.getElem?_eq_getElem (by omega), List.getD_eq_getElem?_getD, List.getElem?_eq_getElem (by omega)]
  rfl
 rw [e]
 have h0 := h k (by omega)
 refine ⟨by rw [List.length_replicate]; omega, words_iff.2 fun x hx => ?_⟩
 rw [(List.mem_replicate.1 hx).2]
 rfl
theorem memR_set {s : List Int} {m : List (List Int)} (h : MemR s m) {k : Nat} (hk : k < m.length) {i : Nat} {v : Int} (h0 : 0 ≤ v) (h1 : v ≤ 65535) : MemR s (m.set k ((m.getD k []).set i v)) := by
 refine ⟨by rw [List.length_set]; exact h.len, fun j hj => ?_⟩
 rw [List.length_set] at hj
 rw [List.getD_eq_getElem?_getD, List.getElem?_set]
 by_cases e : k = j
 ·subst e
  rw [if_pos rfl, if_pos hk]
  exact ⟨by show (((m.getD k []).set i v).length : Int) = _; rw [List.length_set]; exact (h.row k hk).1, words_set (h.row k hk).2 i h0 h1⟩
 ·rw [if_neg e, ← List.getD_eq_getElem?_getD]
  exact h.row j hj
theorem fab_mk {t : List Nd} {s : List Int} {m : List (List Int)} {g : List Bool} (hn : newOk t s = true) (hm : MemR s m) (hl : g.length = t.length) (h0 : 0 < t.length → g.getD 0 false = true) : fabOk (t, s, allBars t s, m, g) = true := by
 have hok : treeOk t = true := by
  have := hn
  rw [newOk, fits, Bool.and_eq_true, Bool.and_eq_true] at this
  exact (sizesOk_iff.1 this.1.1).1
 have htl := treeOk_len hok
 rw [fabOk, Bool.and_eq_true, Bool.and_eq_true, Bool.and_eq_true, Bool.and_eq_true]
 refine ⟨hn, decide_eq_true rfl, ?_, ?_, ?_⟩
 ·show ((m.length : Int) == (s.length : Int)) = true
  rw [hm.len]
  exact beq_self_eq_true _
 ·show guardOk t g = true
  rw [guardOk, hok, hl, h0 (by omega), beq_self_eq_true]
  rfl
 ·show ((List.range m.length).all fun k => !memBad m s k) = true
  rw [List.all_eq_true]
  intro k hk
  obtain ⟨e1, e2⟩ := hm.row k (List.mem_range.1 hk)
  rw [memBad, e1, e2, beq_self_eq_true]
  rfl
def fabR (A : Option Addr) (c : Nat) (b : List Int) (pv ot : PV) : Prop := ∃ (x : Fab) (i h : Int) (r : Fl), pv = .root (.val true) sFi fFab x ∧ fabOk x = true ∧ 0 ≤ i ∧ ot = .root bC sC (.pr (.kz A c) r) (b, i, h)
set_option maxRecDepth 20000 in
set_option maxHeartbeats 8000000 in
theorem fabD_vx (A : Option Addr) (c : Nat) (r : Fl) (b : List Int) (i h : Int) (hi : 0 ≤ i) (hl : b.length ≤ 1048576) :
  VX Tryz.prog 27 [.root bC sC (.pr (.kz A c) r) (b, i, h)] 0 (fabR A c b) := by
 refine VX.of_box hT Tryz.func27 rfl (by kernel_rfl) [(.cell 2 32, true, sFi)] (by kernel_rfl) rfl fun bb => ?_
 show VW _ _ ([.root (.ibox 108 bb) sC (.pr (.kz A c) r) (b, i, h), D, D, D, D, D, D, D, D, D, D, D, D, D, D, D, D, D, D, D, D, D, D, D, D, D, D, D, D, D, D, D, D, D, D, D, D, D, D, D, D, D, D, D, D, D, D, D, D, D, D, D, D, D, D, D, D, D, D, D, D, D, D, D, D, D, D, D, D, D, D, D, D, D, D, D, D, D, D, D]) _
 repeat refine VW.seq ?_
 refine VW.regl hT fun K hK => ?_
 simp only [wq, simprocAttr]
 refine hK _ ?_
 clear hK K
 try refine vthen_n ?_
 repeat refine VW.seq ?_
 refine VW.regl hT fun K hK => ?_
 simp only [wq, simprocAttr]
 refine vcall_io 0 ?_
 simp only [wq, simprocAttr]
 refine vxcall_ex (tree_vx A c r b i h hi hl) ?_
 rintro pv ot ⟨t, i, h, r, rfl, hok, hi, rfl⟩
 have htl := treeOk_len hok
 simp only [wq, simprocAttr]
 refine hK _ ?_
 clear hK K
 try refine vthen_n ?_
 repeat refine VW.seq ?_
 refine VW.regl hT fun K hK => ?_
 simp only [wq, simprocAttr]
 refine hK _ ?_
 clear hK K
 try refine vthen_n ?_
 repeat refine VW.seq ?_
 refine VW.regl hT fun K hK => ?_
 simp only [wq, simprocAttr]
 refine hK _ ?_
 clear hK K
 try refine vthen_n ?_
 repeat refine VW.seq ?_
 refine VW.block ?_
 refine VW.loop (α := List Int × Int × Int × Fl) [(0, none), (2, none), (3, none), (4, some (3, .int .i64)), (5, none)] (fun q => [.root (.ibox 108 bb) sC (.pr (.kz A c) q.2.2.2) (b, q.2.1, q.2.2.1), D, .root (.box 32) sFi .own ([], [], [], [], []), .root (.val false) sNS .own t, .root (.val false) sI .own q.1, .v false (.int .i64) (q.1.length), D, D, D, D, D, D, D, D, D, D, D, D, D, D, D, D, D, D, D, D, D, D, D, D, D, D, D, D, D, D, D, D, D, D, D, D, D, D, D, D, D, D, D, D, D, D, D, D, D, D, D, D, D, D, D, D, D, D, D, D, D, D, D, D, D, D, D, D, D, D, D, D, D, D]) (fun q => q.1.length ≤ t.length ∧ (∀ j, j < q.1.length → (q.1.getD j 0 = 0 ∨ q.1.getD j 0 = 16 ∨ q.1.getD j 0 = 32 ∨ q.1.getD j 0 = 64) ∧ ((t.getD j z).2.2 = 0 → q.1.getD j 0 = 0)) ∧ 0 ≤ q.2.1) (fun q => t.length - q.1.length) ⟨([], i, h, r), ⟨Nat.zero_le _, fun j h => absurd h (Nat.not_lt_zero _), hi⟩, ?_⟩ fun q hq => ?_
 ·simp only [wn, wq, simprocAttr]
  try rfl
 clear hi
 clear i h r
 obtain ⟨s, i, h, r⟩ := q
 obtain ⟨hk, hs, hi⟩ := hq
 simp only at hk hs hi ⊢
 repeat refine VW.seq ?_
 refine VW.regl hT fun K hK => ?_
 simp only [wq, simprocAttr]
 refine hK _ ?_
 clear hK K
 try refine vthen_n ?_
 repeat refine VW.seq ?_
 refine VW.cond rfl (fun hc => ?_) (fun hc => ?_)
 ·have hlt : s.length < t.length := by simpa using hc
  have hsn : ∀ v : Int, (v = 0 ∨ v = 16 ∨ v = 32 ∨ v = 64) → ((t.getD s.length z).2.2 = 0 → v = 0) → ∀ j, j < (s ++ [v]).length → ((s ++ [v]).getD j 0 = 0 ∨ (s ++ [v]).getD j 0 = 16 ∨ (s ++ [v]).getD j 0 = 32 ∨ (s ++ [v]).getD j 0 = 64) ∧ ((t.getD j z).2.2 = 0 → (s ++ [v]).getD j 0 = 0) := fun v h1 h2 j hj => by
   rw [List.length_append, List.length_singleton] at hj
   rcases Nat.lt_or_ge j s.length with h3 | h3
   ·rw [List.getD_eq_getElem?_getD, List.getElem?_append_left h3, ← List.getD_eq_getElem?_getD]
    exact hs j h3
   ·obtain rfl : j = s.length := by omega
    have e : (s ++ [v]).getD s.length 0 = v := by rw [List.getD_eq_getElem?_getD, List.getElem?_append_right (Nat.le_refl _), Nat.sub_self]; rfl
    rw [e]
    exact ⟨h1, h2⟩
  have hnl : ∀ v : Int, (s ++ [v]).length = s.length + 1 := fun v => by rw [List.length_append, List.length_singleton]
  have hL : limOk (s.length + 1) 8 = true := by simp only [limOk]; exact decide_eq_true (by omega)
  refine VW.skip (vthen_n ?_)
  repeat refine VW.seq ?_
  refine VW.block ?_
  repeat refine VW.seq ?_
  refine VW.regl hT fun K hK => ?_
  simp only [wq, simprocAttr]
  refine vcall_io 0 ?_
  simp only [wq, simprocAttr]
  refine vxcall_ex (pick_vx A c r b i h [16, 64, 32, 16, 0] hi hl (by decide) (by decide)) ?_
  rintro pv ot ⟨m1, i1, h1, r1, rfl, ha1, hi1, rfl⟩
  have hm1 : m1 = 0 ∨ m1 = 16 ∨ m1 = 32 ∨ m1 = 64 := by
   simp only [List.mem_cons, List.not_mem_nil, or_false] at ha1
   omega
  simp only [wq, simprocAttr]
  refine hK _ ?_
  clear hK K
  try refine vthen_n ?_
  repeat refine VW.seq ?_
  refine VW.regl hT fun K hK => ?_
  simp only [wq, simprocAttr]
  refine ⟨decide_eq_true ⟨Int.natCast_nonneg _, by show (s.length : Int) < (t.length : Int); omega⟩, ?_⟩
  refine hK _ ?_
  clear hK K
  try refine vthen_n ?_
  repeat refine VW.seq ?_
  refine VW.cond rfl (fun hc => ?_) (fun hc => ?_)
  ·have hc : (t.getD s.length z).2.2 = 0 := eq_of_beq hc
   repeat refine VW.seq ?_
   refine VW.regl hT fun K hK => ?_
   simp only [wq, simprocAttr]
   refine hK _ ?_
   clear hK K
   try refine vthen_n ?_
   show vthen _ _ _ .normal _
   refine vthen_n ?_
   repeat refine VW.seq ?_
   refine VW.regl hT fun K hK => ?_
   simp only [wq, simprocAttr]
   refine ⟨hL, ?_⟩
   refine hK _ ?_
   clear hK K
   try refine vthen_n ?_
   show vthen _ _ _ .normal _
   refine vthen_n ?_
   repeat refine VW.seq ?_
   refine VW.regl hT fun K hK => ?_
   simp only [wq, simprocAttr]
   refine hK _ ?_
   clear hK K
   try refine vthen_n ?_
   refine ⟨(s ++ [0], i1, h1, r1), ⟨by show (s ++ [0]).length ≤ _; rw [hnl]; exact hlt, hsn 0 (.inl rfl) (fun _ => rfl), hi1⟩, ?_, by show t.length - (s ++ [0]).length < t.length - s.length; rw [hnl]; omega⟩
   simp only [wn, wq, simprocAttr]
   rw [hnl, wrap64 (by omega) (by omega), show (s.length : Int) + 1 = ((s.length + 1 : Nat) : Int) by omega]
  ·have hc : ¬ (t.getD s.length z).2.2 = 0 := fun e => by
    have hc : ((t.getD s.length z).2.2 == 0) = false := hc
    rw [e] at hc; cases hc
   refine VW.skip (vthen_n ?_)
   repeat refine VW.seq ?_
   refine VW.regl hT fun K hK => ?_
   simp only [wq, simprocAttr]
   refine ⟨hL, ?_⟩
   refine hK _ ?_
   clear hK K
   try refine vthen_n ?_
   show vthen _ _ _ .normal _
   refine vthen_n ?_
   repeat refine VW.seq ?_
   refine VW.regl hT fun K hK => ?_
   simp only [wq, simprocAttr]
   refine hK _ ?_
   clear hK K
   try refine vthen_n ?_
   refine ⟨(s ++ [m1], i1, h1, r1), ⟨by show (s ++ [m1]).length ≤ _; rw [hnl]; exact hlt, hsn m1 hm1 (fun e => absurd e hc), hi1⟩, ?_, by show t.length - (s ++ [m1]).length < t.length - s.length; rw [hnl]; omega⟩
   simp only [wn, wq, simprocAttr]
   rw [hnl, wrap64 (by omega) (by omega), show (s.length : Int) + 1 = ((s.length + 1 : Nat) : Int) by omega]
 have hsl : s.length = t.length := by
  have hc : ¬ (s.length : Int) < (t.length : Int) := of_decide_eq_false hc
  omega
 have hno : newOk t s = true := small_fits hok hsl fun j hj => hs j (by omega)
 have hs0 : ∀ k, k < s.length → 0 ≤ s.getD k 0 := fun k hk => by
  have := (hs k hk).1
  omega
 have hmem := memR_new hs0
 refine VW.exit ?_
 show vthen _ _ _ .normal _
 refine vthen_n ?_
 repeat refine VW.seq ?_
 refine VW.regl hT fun K hK => ?_
 simp only [wq, simprocAttr]
 refine vcall_ex (specNew_vc t s (by omega) (by omega)) ?_
 intro pv hpv
 rw [if_pos hno] at hpv
 subst hpv
 have hnf : newFab t s = (t, s, allBars t s, memTo s s.length, List.replicate s.length true) := rfl
 rw [hnf]
 clear hnf
 have hg0 : (List.replicate s.length true).length = t.length := by rw [List.length_replicate]; exact hsl
 have hg1 : 0 < t.length → (List.replicate s.length true).getD 0 false = true := fun h => by
  rw [List.getD_eq_getElem?_getD, List.getElem?_replicate_of_lt (by omega)]
  rfl
 generalize memTo s s.length = m at *
 generalize List.replicate s.length true = g at *
 have hfm : ∀ (m : List (List Int)) (g : List Bool), MemR s m → g.length = t.length → (0 < t.length → g.getD 0 false = true) → fabOk (t, s, allBars t s, m, g) = true := fun m g h1 h2 h3 => fab_mk hno h1 h2 h3
 generalize allBars t s = w at *
 simp only [wq, simprocAttr]
 refine hK _ ?_
 clear hK K
 try refine vthen_n ?_
 repeat refine VW.seq ?_
 refine VW.regl hT fun K hK => ?_
 simp only [wq, simprocAttr]
 refine hK _ ?_
 clear hK K
 try refine vthen_n ?_
 repeat refine VW.seq ?_
 refine VW.block ?_
 refine VW.loop (α := Nat × List (List Int) × Int × Int × Fl) [(0, none), (2, none), (3, none), (7, none), (9, none)] (fun q => [.root (.ibox 108 bb) sC (.pr (.kz A c) q.2.2.2.2) (b, q.2.2.1, q.2.2.2.1), D, .root (.box 32) sFi .own ([], [], [], [], []), .root (.val false) sNS .own t, D, D, D, .root (.box 32) sFi fFab (t, s, w, q.2.1, g), D, .v false (.int .i64) (q.1), D, D, D, D, D, D, D, D, D, D, D, D, D, D, D, D, D, D, D, D, D, D, D, D, D, D, D, D, D, D, D, D, D, D, D, D, D, D, D, D, D, D, D, D, D, D, D, D, D, D, D, D, D, D, D, D, D, D, D, D, D, D, D, D, D, D, D, D, D, D]) (fun q => q.1 ≤ s.length ∧ MemR s q.2.1 ∧ 0 ≤ q.2.2.1) (fun q => s.length - q.1) ⟨(0, m, i, h, r), ⟨Nat.zero_le _, hmem, hi⟩, ?_⟩ fun q hq => ?_
 ·simp only [wn, wq, simprocAttr]
  try rfl
 clear hi hmem
 clear i h r m
 obtain ⟨k, M, i, h, r⟩ := q
 obtain ⟨hk, hM, hi⟩ := hq
 simp only at hk hM hi ⊢
 have hMl := hM.len
 repeat refine VW.seq ?_
 refine VW.regl hT fun K hK => ?_
 simp only [wq, simprocAttr]
 refine hK _ ?_
 clear hK K
 try refine vthen_n ?_
 repeat refine VW.seq ?_
 refine VW.cond rfl (fun hc => ?_) (fun hc => ?_)
 ·have hlt : k < M.length := by simpa using hc
  have hJ : decide (0 ≤ (k : Int) ∧ (k : Int) < (M.length : Int)) = true := decide_eq_true ⟨Int.natCast_nonneg _, by omega⟩
  have hrow := (hM.row k hlt).1
  refine VW.skip (vthen_n ?_)
  repeat refine VW.seq ?_
  refine VW.block ?_
  repeat refine VW.seq ?_
  refine VW.regl hT fun K hK => ?_
  simp only [wq, simprocAttr]
  refine ⟨hJ, ?_⟩
  refine vbr (fun hp => ?_) (fun hp => ?_) <;> simp only [wq, simprocAttr]
  ·have hp : ((M.getD k []).length : Int) > 0 := of_decide_eq_true hp
   refine vcall_io 0 ?_
   simp only [wq, simprocAttr]
   refine vxcall_ex (once_vx A c r b i h 2 hi hl (by omega)) ?_
   rintro pv ot ⟨d, i0, h0, r0, rfl, hi0, rfl⟩
   simp only [wq, simprocAttr]
   refine hK _ ?_
   clear hK K
   try refine vthen_n ?_
   repeat refine VW.seq ?_
   refine VW.cond rfl (fun hc => ?_) (fun hc => ?_)
   ·skip
    repeat refine VW.seq ?_
    refine VW.any hT hm fun K hK W hW => ?_
    apply cutl; intro tK
    apply cutl; intro t262143
    apply cutl; intro t131071
    apply cutl; intro t65535
    apply cutl; intro t65519
    apply cutl; intro t32767
    apply cutl; intro t65511
    apply cutl; intro t32751
    apply cutl; intro t16383
    apply cutl; intro t65509
    apply cutl; intro t32743
    apply cutl; intro t16367
    apply cutl; intro t12287
    apply cutl; intro t32741
    apply cutl; intro t16359
    apply cutl; intro t12271
    apply cutl; intro t10239
    apply cutl; intro t16357
    apply cutl; intro t12263
    apply cutl; intro t10223
    apply cutl; intro t9215
    apply cutl; intro t12261
    apply cutl; intro t10215
    apply cutl; intro t9199
    apply cutl; intro t8703
    apply cutl; intro t10213
    apply cutl; intro t9191
    apply cutl; intro t8687
    apply cutl; intro t8575
    apply cutl; intro t9189
    apply cutl; intro t8679
    apply cutl; intro t8559
    apply cutl; intro t8677
    apply cutl; intro t8551
    ·refine hW.takeF 0 0 1 _ (by kernel_rfl) ?_
     simp only [wy, wq, simprocAttr]
     refine hW.take 1 2 5 _ (by kernel_rfl) ?_
     simp only [wy, wq, simprocAttr]
     refine hW.take 5 5 37 _ (by kernel_rfl) ?_
     simp only [wy, wq, simprocAttr]
     refine hW.takeF 37 6 101 _ (by kernel_rfl) ?_
     simp only [wy, wq, simprocAttr]
     refine hW.take 101 8 357 _ (by kernel_rfl) ?_
     simp only [wy, wq, simprocAttr]
     refine hW.take 357 13 8549 _ (by kernel_rfl) ?_
     simp only [wy, wq, simprocAttr]
     refine hW.all 8549 [(1, 8551), (7, 8677)] _ (by kernel_rfl) (by simp) ?_
     simp only [wy, wq, simprocAttr]
     exact ⟨t8551.h, t8677.h⟩
    ·refine hW.all 8551 [(3, 8559), (7, 8679)] _ (by kernel_rfl) (by simp) ?_
     simp only [wy, wq, simprocAttr]
     exact ⟨⟨hJ, t8559.h⟩, t8679.h⟩
    ·refine hW.all 8677 [(1, 8679), (9, 9189)] _ (by kernel_rfl) (by simp) ?_
     simp only [wy, wq, simprocAttr]
     exact ⟨t8679.h, ⟨hJ, t9189.h⟩⟩
    ·refine hW.all 8559 [(4, 8575), (7, 8687)] _ (by kernel_rfl) (by simp) ?_
     simp only [wy, wq, simprocAttr]
     exact ⟨t8575.h, t8687.h⟩
    ·refine hW.all 8679 [(3, 8687), (9, 9191)] _ (by kernel_rfl) (by simp) ?_
     simp only [wy, wq, simprocAttr]
     exact ⟨⟨hJ, t8687.h⟩, ⟨hJ, t9191.h⟩⟩
    ·refine hW.all 9189 [(1, 9191), (10, 10213)] _ (by kernel_rfl) (by simp) ?_
     simp only [wy, wq, simprocAttr]
     exact ⟨t9191.h, t10213.h⟩
    ·refine hW.all 8575 [(7, 8703)] _ (by kernel_rfl) (by simp) ?_
     simp only [wy, wq, simprocAttr]
     exact t8703.h
    ·refine hW.all 8687 [(4, 8703), (9, 9199)] _ (by kernel_rfl) (by simp) ?_
     simp only [wy, wq, simprocAttr]
     exact ⟨t8703.h, ⟨hJ, t9199.h⟩⟩
    ·refine hW.all 9191 [(3, 9199), (10, 10215)] _ (by kernel_rfl) (by simp) ?_
     simp only [wy, wq, simprocAttr]
     exact ⟨⟨hJ, t9199.h⟩, t10215.h⟩
    ·refine hW.all 10213 [(1, 10215), (11, 12261)] _ (by kernel_rfl) (by simp) ?_
     simp only [wy, wq, simprocAttr]
     exact ⟨t10215.h, t12261.h⟩
    ·refine hW.all 8703 [(9, 9215)] _ (by kernel_rfl) (by simp) ?_
     simp only [wy, wq, simprocAttr]
     exact ⟨hJ, t9215.h⟩
    ·refine hW.all 9199 [(4, 9215), (10, 10223)] _ (by kernel_rfl) (by simp) ?_
     simp only [wy, wq, simprocAttr]
     exact ⟨t9215.h, t10223.h⟩
    ·refine hW.all 10215 [(3, 10223), (11, 12263)] _ (by kernel_rfl) (by simp) ?_
     simp only [wy, wq, simprocAttr]
     exact ⟨⟨hJ, t10223.h⟩, t12263.h⟩
    ·refine hW.all 12261 [(1, 12263), (12, 16357)] _ (by kernel_rfl) (by simp) ?_
     simp only [wy, wq, simprocAttr]
     refine ⟨?_, ?_⟩
     ·exact t12263.h
     ·refine vcall_io 0 ?_
      simp only [wq, simprocAttr]
      refine vxcall_ex (below_vx A c r0 b i0 h0 ((M.getD k []).length : Nat) hi0 hl (by omega)) ?_
      rintro pv ot ⟨m1, i1, h1, r1, rfl, ha1, hb1, hi1, rfl⟩
      simp only [wq, simprocAttr]
      revert m1 i1 h1 r1 ha1 hb1 hi1
      exact t16357.h
    ·refine hW.all 9215 [(10, 10239)] _ (by kernel_rfl) (by simp) ?_
     simp only [wy, wq, simprocAttr]
     exact t10239.h
    ·refine hW.all 10223 [(4, 10239), (11, 12271)] _ (by kernel_rfl) (by simp) ?_
     simp only [wy, wq, simprocAttr]
     exact ⟨t10239.h, t12271.h⟩
    ·refine hW.all 12263 [(3, 12271), (12, 16359)] _ (by kernel_rfl) (by simp) ?_
     simp only [wy, wq, simprocAttr]
     refine ⟨?_, ?_⟩
     ·refine ⟨hJ, ?_⟩
      exact t12271.h
     ·refine vcall_io 0 ?_
      simp only [wq, simprocAttr]
      refine vxcall_ex (below_vx A c r0 b i0 h0 ((M.getD k []).length : Nat) hi0 hl (by omega)) ?_
      rintro pv ot ⟨m1, i1, h1, r1, rfl, ha1, hb1, hi1, rfl⟩
      simp only [wq, simprocAttr]
      revert m1 i1 h1 r1 ha1 hb1 hi1
      exact t16359.h
    ·intro m1 i1 h1 r1 ha1 hb1 hi1
     refine hW.all 16357 [(1, 16359), (14, 32741)] _ (by kernel_rfl) (by simp) ?_
     simp only [wy, wq, simprocAttr]
     refine ⟨?_, ?_⟩
     ·revert m1 i1 h1 r1 ha1 hb1 hi1
      exact t16359.h
     ·refine vcall_io 0 ?_
      simp only [wq, simprocAttr]
      refine vxcall_ex (below_vx A c r1 b i1 h1 9 hi1 hl (by omega)) ?_
      rintro pv ot ⟨m2, i2, h2, r2, rfl, ha2, hb2, hi2, rfl⟩
      simp only [wq, simprocAttr]
      revert m1 i1 h1 r1 ha1 hb1 hi1 m2 i2 h2 r2 ha2 hb2 hi2
      exact t32741.h
    ·refine hW.all 10239 [(11, 12287)] _ (by kernel_rfl) (by simp) ?_
     simp only [wy, wq, simprocAttr]
     exact t12287.h
    ·refine hW.all 12271 [(4, 12287), (12, 16367)] _ (by kernel_rfl) (by simp) ?_
     simp only [wy, wq, simprocAttr]
     refine ⟨?_, ?_⟩
     ·exact t12287.h
     ·refine vcall_io 0 ?_
      simp only [wq, simprocAttr]
      refine vxcall_ex (below_vx A c r0 b i0 h0 ((M.getD k []).length : Nat) hi0 hl (by omega)) ?_
      rintro pv ot ⟨m1, i1, h1, r1, rfl, ha1, hb1, hi1, rfl⟩
      simp only [wq, simprocAttr]
      revert m1 i1 h1 r1 ha1 hb1 hi1
      exact t16367.h
    ·intro m1 i1 h1 r1 ha1 hb1 hi1
     refine hW.all 16359 [(3, 16367), (14, 32743)] _ (by kernel_rfl) (by simp) ?_
     simp only [wy, wq, simprocAttr]
     refine ⟨?_, ?_⟩
     ·refine ⟨hJ, ?_⟩
      revert m1 i1 h1 r1 ha1 hb1 hi1
      exact t16367.h
     ·refine vcall_io 0 ?_
      simp only [wq, simprocAttr]
      refine vxcall_ex (below_vx A c r1 b i1 h1 9 hi1 hl (by omega)) ?_
      rintro pv ot ⟨m2, i2, h2, r2, rfl, ha2, hb2, hi2, rfl⟩
      simp only [wq, simprocAttr]
      revert m1 i1 h1 r1 ha1 hb1 hi1 m2 i2 h2 r2 ha2 hb2 hi2
      exact t32743.h
    ·intro m1 i1 h1 r1 ha1 hb1 hi1 m2 i2 h2 r2 ha2 hb2 hi2
     refine hW.all 32741 [(1, 32743), (15, 65509)] _ (by kernel_rfl) (by simp) ?_
     simp only [wy, wq, simprocAttr]
     refine ⟨?_, ?_⟩
     ·revert m1 i1 h1 r1 ha1 hb1 hi1 m2 i2 h2 r2 ha2 hb2 hi2
      exact t32743.h
     ·revert m1 i1 h1 r1 ha1 hb1 hi1 m2 i2 h2 r2 ha2 hb2 hi2
      exact t65509.h
    ·refine hW.all 12287 [(12, 16383)] _ (by kernel_rfl) (by simp) ?_
     simp only [wy, wq, simprocAttr]
     skip
     refine vcall_io 0 ?_
     simp only [wq, simprocAttr]
     refine vxcall_ex (below_vx A c r0 b i0 h0 ((M.getD k []).length : Nat) hi0 hl (by omega)) ?_
     rintro pv ot ⟨m1, i1, h1, r1, rfl, ha1, hb1, hi1, rfl⟩
     simp only [wq, simprocAttr]
     revert m1 i1 h1 r1 ha1 hb1 hi1
     exact t16383.h
    ·intro m1 i1 h1 r1 ha1 hb1 hi1
     refine hW.all 16367 [(4, 16383), (14, 32751)] _ (by kernel_rfl) (by simp) ?_
     simp only [wy, wq, simprocAttr]
     refine ⟨?_, ?_⟩
     ·revert m1 i1 h1 r1 ha1 hb1 hi1
      exact t16383.h
     ·refine vcall_io 0 ?_
      simp only [wq, simprocAttr]
      refine vxcall_ex (below_vx A c r1 b i1 h1 9 hi1 hl (by omega)) ?_
      rintro pv ot ⟨m2, i2, h2, r2, rfl, ha2, hb2, hi2, rfl⟩
      simp only [wq, simprocAttr]
      revert m1 i1 h1 r1 ha1 hb1 hi1 m2 i2 h2 r2 ha2 hb2 hi2
      exact t32751.h
    ·intro m1 i1 h1 r1 ha1 hb1 hi1 m2 i2 h2 r2 ha2 hb2 hi2
     refine hW.all 32743 [(3, 32751), (15, 65511)] _ (by kernel_rfl) (by simp) ?_
     simp only [wy, wq, simprocAttr]
     refine ⟨?_, ?_⟩
     ·refine ⟨hJ, ?_⟩
      revert m1 i1 h1 r1 ha1 hb1 hi1 m2 i2 h2 r2 ha2 hb2 hi2
      exact t32751.h
     ·revert m1 i1 h1 r1 ha1 hb1 hi1 m2 i2 h2 r2 ha2 hb2 hi2
      exact t65511.h
    ·intro m1 i1 h1 r1 ha1 hb1 hi1 m2 i2 h2 r2 ha2 hb2 hi2
     refine hW.all 65509 [(1, 65511)] _ (by kernel_rfl) (by simp) ?_
     simp only [wy, wq, simprocAttr]
     skip
     revert m1 i1 h1 r1 ha1 hb1 hi1 m2 i2 h2 r2 ha2 hb2 hi2
     exact t65511.h
    ·intro m1 i1 h1 r1 ha1 hb1 hi1
     refine hW.all 16383 [(14, 32767)] _ (by kernel_rfl) (by simp) ?_
     simp only [wy, wq, simprocAttr]
     skip
     refine vcall_io 0 ?_
     simp only [wq, simprocAttr]
     refine vxcall_ex (below_vx A c r1 b i1 h1 9 hi1 hl (by omega)) ?_
     rintro pv ot ⟨m2, i2, h2, r2, rfl, ha2, hb2, hi2, rfl⟩
     simp only [wq, simprocAttr]
     revert m1 i1 h1 r1 ha1 hb1 hi1 m2 i2 h2 r2 ha2 hb2 hi2
     exact t32767.h
    ·intro m1 i1 h1 r1 ha1 hb1 hi1 m2 i2 h2 r2 ha2 hb2 hi2
     refine hW.all 32751 [(4, 32767), (15, 65519)] _ (by kernel_rfl) (by simp) ?_
     simp only [wy, wq, simprocAttr]
     refine ⟨?_, ?_⟩
     ·revert m1 i1 h1 r1 ha1 hb1 hi1 m2 i2 h2 r2 ha2 hb2 hi2
      exact t32767.h
     ·revert m1 i1 h1 r1 ha1 hb1 hi1 m2 i2 h2 r2 ha2 hb2 hi2
      exact t65519.h
    ·intro m1 i1 h1 r1 ha1 hb1 hi1 m2 i2 h2 r2 ha2 hb2 hi2
     refine hW.all 65511 [(3, 65519)] _ (by kernel_rfl) (by simp) ?_
     simp only [wy, wq, simprocAttr]
     skip
     refine ⟨hJ, ?_⟩
     revert m1 i1 h1 r1 ha1 hb1 hi1 m2 i2 h2 r2 ha2 hb2 hi2
     exact t65519.h
    ·intro m1 i1 h1 r1 ha1 hb1 hi1 m2 i2 h2 r2 ha2 hb2 hi2
     refine hW.all 32767 [(15, 65535)] _ (by kernel_rfl) (by simp) ?_
     simp only [wy, wq, simprocAttr]
     skip
     revert m1 i1 h1 r1 ha1 hb1 hi1 m2 i2 h2 r2 ha2 hb2 hi2
     exact t65535.h
    ·intro m1 i1 h1 r1 ha1 hb1 hi1 m2 i2 h2 r2 ha2 hb2 hi2
     refine hW.all 65519 [(4, 65535)] _ (by kernel_rfl) (by simp) ?_
     simp only [wy, wq, simprocAttr]
     skip
     revert m1 i1 h1 r1 ha1 hb1 hi1 m2 i2 h2 r2 ha2 hb2 hi2
     exact t65535.h
    ·intro m1 i1 h1 r1 ha1 hb1 hi1 m2 i2 h2 r2 ha2 hb2 hi2
     refine hW.all 65535 [(16, 131071)] _ (by kernel_rfl) (by simp) ?_
     simp only [wy, wq, simprocAttr]
     skip
     refine ⟨decide_eq_true ⟨ha1, hb1⟩, ?_⟩
     revert m1 i1 h1 r1 ha1 hb1 hi1 m2 i2 h2 r2 ha2 hb2 hi2
     exact t131071.h
    ·intro m1 i1 h1 r1 ha1 hb1 hi1 m2 i2 h2 r2 ha2 hb2 hi2
     refine hW.all 131071 [(17, 262143)] _ (by kernel_rfl) (by simp) ?_
     simp only [wy, wq, simprocAttr]
     skip
     revert m1 i1 h1 r1 ha1 hb1 hi1 m2 i2 h2 r2 ha2 hb2 hi2
     exact t262143.h
    ·intro m1 i1 h1 r1 ha1 hb1 hi1 m2 i2 h2 r2 ha2 hb2 hi2
     refine hW.done 262143 _ (by kernel_rfl) ?_
     revert m1 i1 h1 r1 ha1 hb1 hi1 m2 i2 h2 r2 ha2 hb2 hi2
     exact tK.h
    intro m1 i1 h1 r1 ha1 hb1 hi1 m2 i2 h2 r2 ha2 hb2 hi2
    refine hK _ ?_
    clear hW W hK K
    show vthen _ _ _ .normal _
    refine vthen_n ?_
    repeat refine VW.seq ?_
    refine VW.regl hT fun K hK => ?_
    simp only [wq, simprocAttr]
    refine hK _ ?_
    clear hK K
    try refine vthen_n ?_
    refine ⟨(k + 1, M.set k ((M.getD k []).set m1.toNat (IntKind.i64.wrap (1 + m2))), i2, h2, r2), ⟨by show k + 1 ≤ _; omega, memR_set hM hlt (by rw [wrap64 (by omega) (by omega)]; omega) (by rw [wrap64 (by omega) (by omega)]; omega), hi2⟩, ?_, by show s.length - (k + 1) < s.length - k; omega⟩
    simp only [wn, wq, simprocAttr]
    rw [wrap64 (x := 1 + m2) (by omega) (by omega), wrap64 (by omega) (by omega), show (k : Int) + 1 = ((k + 1 : Nat) : Int) by omega]
   ·refine VW.skip ?_
    show vthen _ _ _ .normal _
    refine vthen_n ?_
    repeat refine VW.seq ?_
    refine VW.regl hT fun K hK => ?_
    simp only [wq, simprocAttr]
    refine hK _ ?_
    clear hK K
    try refine vthen_n ?_
    refine ⟨(k + 1, M, i0, h0, r0), ⟨by show k + 1 ≤ _; omega, hM, hi0⟩, ?_, by show s.length - (k + 1) < s.length - k; omega⟩
    simp only [wn, wq, simprocAttr]
    rw [wrap64 (by omega) (by omega), show (k : Int) + 1 = ((k + 1 : Nat) : Int) by omega]
  ·refine hK _ ?_
   clear hK K
   try refine vthen_n ?_
   repeat refine VW.seq ?_
   refine VW.cond rfl (fun hc => ?_) (fun hc => ?_)
   ·cases hc
   ·refine VW.skip ?_
    show vthen _ _ _ .normal _
    refine vthen_n ?_
    repeat refine VW.seq ?_
    refine VW.regl hT fun K hK => ?_
    simp only [wq, simprocAttr]
    refine hK _ ?_
    clear hK K
    try refine vthen_n ?_
    refine ⟨(k + 1, M, i, h, r), ⟨by show k + 1 ≤ _; omega, hM, hi⟩, ?_, by show s.length - (k + 1) < s.length - k; omega⟩
    simp only [wn, wq, simprocAttr]
    rw [wrap64 (by omega) (by omega), show (k : Int) + 1 = ((k + 1 : Nat) : Int) by omega]
 have hfx := fun g h1 h2 => hfm M g hM h1 h2
 refine VW.exit ?_
 show vthen _ _ _ .normal _
 refine vthen_n ?_
 repeat refine VW.seq ?_
 refine VW.regl hT fun K hK => ?_
 simp only [wq, simprocAttr]
 refine vcall_io 0 ?_
 simp only [wq, simprocAttr]
 refine vxcall_ex (once_vx A c r b i h 3 hi hl (by omega)) ?_
 rintro pv ot ⟨d, i0, h0, r0, rfl, hi0, rfl⟩
 simp only [wq, simprocAttr]
 refine hK _ ?_
 clear hK K
 try refine vthen_n ?_
 repeat refine VW.seq ?_
 refine VW.cond rfl (fun hc => ?_) (fun hc => ?_)
 ·repeat refine VW.seq ?_
  refine VW.regl hT fun K hK => ?_
  simp only [wq, simprocAttr]
  refine vcall_io 0 ?_
  simp only [wq, simprocAttr]
  refine vxcall_ex (guardD_vx A c r0 b i0 h0 t hi0 hl (by omega)) ?_
  rintro pv ot ⟨g2, i1, h1, r1, rfl, hg2, hg3, hi1, rfl⟩
  simp only [wq, simprocAttr]
  refine hK _ ?_
  clear hK K
  try refine vthen_n ?_
  show vthen _ _ _ .normal _
  refine vthen_n ?_
  repeat refine VW.seq ?_
  refine VW.regl hT fun K hK => ?_
  simp only [wq, simprocAttr]
  refine hK _ ?_
  clear hK K
  try refine vthen_n ?_
  exact VW.ret ⟨.inl rfl, _, _, _, _, rfl, ⟨0, rfl⟩, _, i1, h1, r1, rfl, hfx g2 hg2 hg3, hi1, rfl⟩
 ·refine VW.skip (vthen_n ?_)
  repeat refine VW.seq ?_
  refine VW.regl hT fun K hK => ?_
  simp only [wq, simprocAttr]
  refine hK _ ?_
  clear hK K
  try refine vthen_n ?_
  exact VW.ret ⟨.inl rfl, _, _, _, _, rfl, ⟨0, rfl⟩, _, i0, h0, r0, rfl, hfx g hg0 hg1, hi0, rfl⟩
end Go.Proofs.YtoeblmcibheldaaGreatDoor.V.W
end
section
namespace Go.Proofs.YtoeblmcibheldaaGreatDoor.V.W
open Go Go.RowKit
theorem guard_sz {t : List Nd} {g : List Bool} (h : guardOk t g = true) : g.length = t.length ∧ treeOk t = true := by
 rw [guardOk, Bool.and_eq_true, Bool.and_eq_true] at h
 exact ⟨eq_of_beq h.2.1, h.1⟩
theorem fab_szs {t : List Nd} {s : List Int} {w : List (Int × Int)} {m : List (List Int)} {g : List Bool} (h : fabOk (t, s, w, m, g) = true) : 1 ≤ t.length ∧ t.length ≤ 12 ∧ w.length = t.length ∧ s.length = t.length ∧ m.length = t.length ∧ g.length = t.length := by
 obtain ⟨h1, h2, h3, h4, h5⟩ := fab_parts h
 have hn := h1
 rw [newOk, fits, Bool.and_eq_true, Bool.and_eq_true] at hn
 have hok := sizesOk_iff.1 hn.1.1
 have htl := treeOk_len hok.1
 have hg := guard_sz h4
 refine ⟨htl.1, htl.2, ?_, hok.2.1, by omega, hg.1⟩
 rw [← h2, allBars, bars_len]
theorem fab_L {x : Fab} (h : fabOk x = true) : FabL x ∧ x.2.2.2.2.length ≤ 12 := by
 obtain ⟨t, s, w, m, g⟩ := x
 obtain ⟨z1, z2, z3, z4, z5, z6⟩ := fab_szs h
 obtain ⟨h1, h2, h3, h4, h5⟩ := fab_parts h
 refine ⟨⟨by show t.length ≤ _; omega, by show s.length ≤ _; omega, by show w.length ≤ _; omega, by show m.length ≤ _; omega, fun k => ?_⟩, by show g.length ≤ _; omega⟩
 show (m.getD k []).length ≤ _
 rcases Nat.lt_or_ge k m.length with hk | hk
 ·have hr := (h5 k hk).1
  have h64 : s.getD k 0 ≤ 64 := by
   rw [newOk, Bool.and_eq_true] at h1
   have h2 : (s.any fun x => decide (x > 64)) = false := by simpa using h1.2
   rw [List.any_eq_false] at h2
   have := h2 _ (getD_mem (show k < s.length by omega))
   simpa using this
  omega
 ·rw [List.getD_eq_getElem?_getD, List.getElem?_eq_none hk]
  exact Nat.zero_le _
end Go.Proofs.YtoeblmcibheldaaGreatDoor.V.W
end
section
namespace Go.Proofs.YtoeblmcibheldaaGreatDoor.V.W
open Go Go.RowKit
end Go.Proofs.YtoeblmcibheldaaGreatDoor.V.W
end
section
namespace Go.Proofs.YtoeblmcibheldaaGreatDoor.V.W
open Go Go.RowKit
set_option maxRecDepth 20000 in
theorem drawFabric_vc (b : List Int) (hl : b.length ≤ 1048576) : VC Tryz.prog 8 [.v false sB b] (fun pv => ∃ x : Fab, pv = .root (.val true) sFi fFab x ∧ fabOk x = true) := by
 refine VC.of_body hT Tryz.func8 rfl (by kernel_rfl) [(.cell 2 32, true, sFi)] (by kernel_rfl) ?_
 show VW _ _ ([.v false sB b, D, D, D, D, D]) _
 repeat refine VW.seq ?_
 refine VW.regl hT fun K hK => ?_
 simp only [wq, simprocAttr]
 refine hK _ ?_
 clear hK K
 try refine vthen_n ?_
 repeat refine VW.seq ?_
 refine VW.regl hT fun K hK => ?_
 simp only [wq, simprocAttr]
 refine vcall_ex (new_vc b hl) ?_
 rintro pv ⟨A, c, r, h, rfl⟩
 simp only [wq, simprocAttr]
 refine vcall_io 0 ?_
 simp only [wq, simprocAttr]
 refine vxcall_ex (fabD_vx A c r b 0 h (by decide) hl) ?_
 rintro pv ot ⟨x, i, h, r, rfl, hx, hi, rfl⟩
 simp only [wq, simprocAttr]
 refine hK _ ?_
 clear hK K
 try refine vthen_n ?_
 exact VW.ret ⟨.inl rfl, _, rfl, x, rfl, hx⟩
end Go.Proofs.YtoeblmcibheldaaGreatDoor.V.W
namespace Go.Proofs.YtoeblmcibheldaaGreatDoor.V
open Go Go.RowKit
end Go.Proofs.YtoeblmcibheldaaGreatDoor.V
end
section
namespace Go.Proofs.YtoeblmcibheldaaGreatDoor.V.W
open Go Go.RowKit
theorem listBeq (a : ByteArray) : (a.toList == a.toList) = true := by simp
set_option maxRecDepth 40000 in
set_option maxHeartbeats 4000000 in
theorem law_fnReports (b : List Int) : VC Tryz.prog 3 [.v false sB b] (· = .v false .bool true) := by
 refine VC.of_body hT Tryz.func3 rfl (by kernel_rfl) [(.tmp 2, false, .bool)] (by kernel_rfl) ?_
 show VW _ _ ([.v false sB b, D, D, D, D, D, D, D, D, D, D, D, D, D, D, D, D, D, D, D, D, D, D, D, D, D, D, D, D, D, D, D, D, D, D, D, D, D, D, D, D, D, D, D, D, D, D, D, D, D]) _
 repeat refine VW.seq ?_
 refine VW.regl hT fun K hK => ?_
 simp only [wq, simprocAttr]
 refine hK _ ?_
 clear hK K
 try refine vthen_n ?_
 repeat refine VW.seq ?_
 refine VW.regl hT fun K hK => ?_
 simp only [wq, simprocAttr]
 refine vcall_of (big_vc b) ?_
 simp only [wq, simprocAttr]
 refine hK _ ?_
 clear hK K
 try refine vthen_n ?_
 repeat refine VW.seq ?_
 refine VW.cond rfl (fun hc => ?_) (fun hc => ?_)
 ·repeat refine VW.seq ?_
  refine VW.regl hT fun K hK => ?_
  simp only [wq, simprocAttr]
  refine hK _ ?_
  clear hK K
  try refine vthen_n ?_
  exact VW.ret ⟨.inl rfl, _, rfl, rfl⟩
 have hb : b.length ≤ 1048576 := by
  have : ¬ (b.length : Int) > 1048576 := of_decide_eq_false hc
  omega
 refine VW.skip (vthen_n ?_)
 repeat refine VW.seq ?_
 refine VW.regl hT fun K hK => ?_
 simp only [wq, simprocAttr]
 refine vcall_ex (drawFabric_vc b hb) ?_
 rintro pv ⟨x, rfl, hok⟩
 simp only [wq, simprocAttr]
 refine hK _ ?_
 clear hK K
 try refine vthen_n ?_
 obtain ⟨hL, hg⟩ := fab_L hok
 have h1 := fmtFab_vc x hL
 rw [show fmtFab x = lines x from if_pos hok] at h1
 simp only [lines, ← bs_app] at h1
 obtain ⟨t, s, w, m, g⟩ := x
 have hla : t.length ≤ 2000000 := hL.a
 have hbr := bridges_le t t.length
 have hcu := cutOff_le t g
 have hi1 : (bs (Lib.itoa (t.length : Int))).size ≤ 21 := itoa_len (by omega) (by omega)
 have hi2 : (bs (Lib.itoa (bridges t t.length))).size ≤ 21 := itoa_len (by omega) (by omega)
 have hi3 : (bs (Lib.itoa ((cutOff t g).length : Int))).size ≤ 21 := itoa_len (by omega) (by omega)
 have h1 : VC Tryz.prog 9 [.v true sFi (t, s, w, m, g)] (· = .root (.val false) sSt .own [⟨#[110, 111, 100, 101, 115, 32]⟩ ++ bs (Lib.itoa (t.length : Int)), ⟨#[98, 117, 115, 101, 115, 32]⟩ ++ bs (Lib.itoa (bridges t t.length)),
  ⟨#[114, 111, 111, 109, 32]⟩ ++ bs (Lib.itoa (sumW s)), ⟨#[99, 117, 116, 32]⟩ ++ bs (Lib.itoa ((cutOff t g).length : Int)), ⟨#[117, 115, 101, 100, 32]⟩ ++ bs (Lib.itoa (usedM m))]) := h1
 repeat refine VW.seq ?_
 refine VW.regl hT fun K hK => ?_
 simp only [wq, simprocAttr]
 refine vcall_of h1 ?_
 simp only [wq, simprocAttr]
 refine hK _ ?_
 clear hK K
 try refine vthen_n ?_
 repeat refine VW.seq ?_
 refine VW.drawl hT hm (by kernel_rfl) fun K hK => ?_
 simp only [wq, simprocAttr]
 repeat refine ⟨by kernel_rfl, ?_⟩
 refine vcallD_of (formatInt_vc _ (by omega) (by omega)) ?_
 simp only [wq, simprocAttr]
 refine ⟨decide_eq_true (szI (by omega) [110, 111, 100, 101, 115, 32] (by decide)), ?_⟩
 repeat refine ⟨by kernel_rfl, ?_⟩
 simp only [List.getD_cons_zero, List.getD_cons_succ, listBeq]
 simp only [wq, simprocAttr]
 repeat refine ⟨by kernel_rfl, ?_⟩
 refine vcallD_of (count_vc t hla) ?_
 simp only [wq, simprocAttr]
 repeat refine ⟨by kernel_rfl, ?_⟩
 refine vcallD_of (formatInt_vc _ (by omega) (by omega)) ?_
 simp only [wq, simprocAttr]
 refine ⟨decide_eq_true (szI (by omega) [98, 117, 115, 101, 115, 32] (by decide)), ?_⟩
 repeat refine ⟨by kernel_rfl, ?_⟩
 simp only [List.getD_cons_zero, List.getD_cons_succ, listBeq]
 simp only [wq, simprocAttr]
 repeat refine ⟨by kernel_rfl, ?_⟩
 refine vcallD_of (cutOff_vc t g hla) ?_
 simp only [wq, simprocAttr]
 repeat refine ⟨by kernel_rfl, ?_⟩
 refine vcallD_of (formatInt_vc _ (by omega) (by omega)) ?_
 simp only [wq, simprocAttr]
 refine ⟨decide_eq_true (szI (by omega) [99, 117, 116, 32] (by decide)), ?_⟩
 repeat refine ⟨by kernel_rfl, ?_⟩
 simp only [List.getD_cons_zero, List.getD_cons_succ, listBeq]
 refine hK _ ?_
 clear hK K
 try refine vthen_n ?_
 exact VW.ret ⟨.inl rfl, _, rfl, rfl⟩
end Go.Proofs.YtoeblmcibheldaaGreatDoor.V.W
namespace Go.Proofs.YtoeblmcibheldaaGreatDoor.V
open Go Go.RowKit
theorem fnReports_vc (b : List Int) (w0 : wfS Tryz.prog (.sl 5 (.int .u8)) b) : VC Tryz.prog 3 [.v false (.sl 5 (.int .u8)) b] (· = .v false .bool true) := W.law_fnReports b
end Go.Proofs.YtoeblmcibheldaaGreatDoor.V
end
section
namespace Go.Proofs.YtoeblmcibheldaaGreatDoor.V
open Go Go.RowKit
theorem heap_of_var {P : Program} {W : World} {n : String} {g : Nat} {cs : Array Value} (hg : P.globalNamed n = some g) (h : W.var? P n = some cs) : ∃ x y, W.heap[g]? = some (.cells cs x y) := by
 unfold World.var? at h
 simp only [hg, Option.bind_some] at h
 split at h
 ·rename_i cs' x y e
  obtain rfl := Option.some.inj h
  exact ⟨x, y, e⟩
 ·cases h
/-- a listed variable that is an array of integers -/
theorem ints_laid {P : Program} {W : World} {nm : String} {k : IntKind} {zs : List Int} {l : List (String × DataW Unit)} {g : Nat} {t e : TypeId} {n : Nat} (h : Go.laidMet P l W) (hm : (nm, Lib.tabData k zs) ∈ l)
  (hg : P.globalNamed nm = some g) (hty : (P.globals[g]?).map (·.type) = some t) (ht : P.underlying t = some (.array n e)) (he : P.underlying e = some (.int k)) (hce : P.cellsOf e = 1) (hct : P.cellsOf t = n) : ∃ cs x y, W.heap[g]? = some (.cells cs x y) ∧ cs = (zs.map fun z => Value.int k z).toArray := by
 obtain ⟨g', t', cs, fuel, p, hg', ht', hvar, hd⟩ := Lib.laidMet.reads h hm
 obtain rfl := Option.some.inj (hg.symm.trans hg')
 obtain rfl := Option.some.inj (hty.symm.trans ht')
 obtain ⟨x, y, e1⟩ := heap_of_var hg hvar
 exact ⟨cs, x, y, e1, by rw [← Lib.cells_of_tab ht he hce hct hd]⟩
theorem gls_one {W : World} (h6 : ∃ cs x y, W.heap[3]? = some (.cells cs x y) ∧ cs = (Lib.pow10Tab.map fun z => Value.int .u64 z).toArray) : GOk (InZ W) W := .start (by
 intro p hp
 rcases List.mem_cons.1 hp with rfl | hp
 ·exact h6
 cases hp)
theorem gok_pow {W : World} {l : List (String × DataW Unit)} (h : Go.laidMet Tryz.prog l W)
  (m6 : ("internal/strconv.uint64pow10", Lib.tabData .u64 Lib.pow10Tab) ∈ l) : GOk (InZ W) W :=
 gls_one (ints_laid (n := 20) (t := 212) (e := 187) h m6 (by kernel_rfl) (by kernel_rfl) (by kernel_rfl) (by kernel_rfl) (by kernel_rfl) (by kernel_rfl))
end Go.Proofs.YtoeblmcibheldaaGreatDoor.V
end

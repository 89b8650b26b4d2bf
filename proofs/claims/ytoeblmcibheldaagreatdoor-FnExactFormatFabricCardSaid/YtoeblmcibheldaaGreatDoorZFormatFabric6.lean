/- Texts M1 Q3 F23 M2 M3 M4 M6 M7 M8 C0 Q4 K8 in one. No condition. -/
import Derived.Test.YtoeblmcibheldaaGreatDoorZFormatFabric5
import Derived.Lib.LaidU8
import Derived.OpenShut
set_option linter.unnecessarySimpa false
set_option linter.unusedSimpArgs false
set_option linter.unusedVariables false
section
namespace Go.Proofs.YtoeblmcibheldaaGreatDoor.V.W
open Go Go.RowKit
/-- marks from k on -/
def mkR {α : Type} (g : Int → α) (c : Nat) (k : Int) (n : Nat) : List α := (List.range n).map fun i : Nat => g (k + (c * i : Nat))
theorem mkR_len {α : Type} (g : Int → α) (c : Nat) (k : Int) (n : Nat) : (mkR g c k n).length = n := by simp [mkR]
theorem mkR_get {α : Type} (g : Int → α) (c : Nat) (k : Int) {n i : Nat} (h : i < n) (d : α) : (mkR g c k n).getD i d = g (k + (c * i : Nat)) := by
 simp [mkR, List.getD_eq_getElem?_getD, h]
/-- the first i marked -/
def mkTo {α : Type} (g : Int → α) (c : Nat) (k : Int) (xs : List α) (i : Nat) : List α := mkR g c k i ++ xs.drop i
theorem mkTo_len {α : Type} (g : Int → α) (c : Nat) (k : Int) {xs : List α} {i : Nat} (h : i ≤ xs.length) : (mkTo g c k xs i).length = xs.length := by
 simp only [mkTo, List.length_append, mkR_len, List.length_drop]; omega
theorem mkTo_set {α : Type} (g : Int → α) (c : Nat) (k : Int) {xs : List α} {i : Nat} (h : i < xs.length) : (mkTo g c k xs i).set i (g (k + (c * i : Nat))) = mkTo g c k xs (i + 1) := by
 unfold mkTo
 rw [List.set_append_right _ _ (by rw [mkR_len]; omega), mkR_len, Nat.sub_self, List.drop_eq_getElem_cons h, List.set_cons_zero]
 simp [mkR, List.range_succ]
theorem mkTo_all {α : Type} (g : Int → α) (c : Nat) (k : Int) {xs : List α} : mkTo g c k xs xs.length = mkR g c k xs.length := by simp [mkTo]
theorem mkTo_zero {α : Type} (g : Int → α) (c : Nat) (k : Int) {xs : List α} : mkTo g c k xs 0 = xs := by simp [mkTo, mkR]
def gNodeS (k : Int) : Int × Int × Int := (k, k + 1, k + 2)
set_option maxRecDepth 40000 in
theorem markNodeS1 (xs : List (Int × Int × Int)) (k : Int) (h0 : 0 < xs.length) (hl : xs.length ≤ 2000000) (hk0 : 0 ≤ k) (hk1 : k ≤ 100000000) : VX Tryz.prog 55 [.root (.val false) (.sl 68 sN) .own xs, .v false (.int .i64) (k)] 0 (fun pv ot => pv = .v false (.int .i64) (k + ((3 * xs.length : Nat) : Int)) ∧ ot = .root (.val false) (.sl 68 sN) .own (mkR gNodeS 3 k xs.length)) := by
 refine VX.of_rows hT Tryz.func55 rfl (by kernel_rfl) [(.tmp 4, false, .int .i64)] (by kernel_rfl) rfl rfl h0 fun l fi li e1 e2 => ?_
 obtain ⟨n, cp, rfl, rfl⟩ := io1 e1 e2
 show VW _ _ ([.root (.val false) (.sl 68 sN) (.io n cp) xs, .v false (.int .i64) (k : Int), D, D, D, D, D, D, D, D, D, D, D, D, D, D, D, D, D, D, D, D, D, D, D, D, D, D, D, D, D, D, D, D]) _
 repeat refine VW.seq ?_
 refine VW.regl hT fun K hK => ?_
 simp only [wq, Nat.reduceMul, reduceCtorEq, Nat.reduceBEq, Nat.reduceAdd, Nat.reduceLT, Nat.reduceLeDiff, Nat.reduceSub, Nat.reduceEqDiff]
 refine hK _ ?_
 clear hK K
 try refine vthen_n ?_
 repeat refine VW.seq ?_
 refine VW.regl hT fun K hK => ?_
 simp only [wq, Nat.reduceMul, reduceCtorEq, Nat.reduceBEq, Nat.reduceAdd, Nat.reduceLT, Nat.reduceLeDiff, Nat.reduceSub, Nat.reduceEqDiff]
 refine hK _ ?_
 clear hK K
 try refine vthen_n ?_
 repeat refine VW.seq ?_
 refine VW.block ?_
 refine VW.loop (α := Nat) [(0, none), (1, none), (5, none)] (fun i => [.root (.val false) (.sl 68 sN) (.io n cp) (mkTo gNodeS 3 k xs i), .v false (.int .i64) (k + ((3 * i : Nat) : Int) : Int), D, D, D, .v false (.int .i64) (i : Int), D, D, D, D, D, D, D, D, D, D, D, D, D, D, D, D, D, D, D, D, D, D, D, D, D, D, D, D]) (fun i => i ≤ xs.length) (fun i => xs.length - i) ⟨0, by omega, ?_⟩ fun i hi => ?_
 ·simp only [wn, wq, Nat.reduceMul, reduceCtorEq, Nat.reduceBEq, Nat.reduceAdd, Nat.reduceLT, Nat.reduceLeDiff, Nat.reduceSub, Nat.reduceEqDiff]
  rw [mkTo_zero, show k + ((0 : Nat) : Int) = k from Int.add_zero k]
  try rfl
 have hml := mkTo_len gNodeS 3 k hi
 repeat refine VW.seq ?_
 refine VW.regl hT fun K hK => ?_
 simp only [wq, Nat.reduceMul, reduceCtorEq, Nat.reduceBEq, Nat.reduceAdd, Nat.reduceLT, Nat.reduceLeDiff, Nat.reduceSub, Nat.reduceEqDiff]
 refine hK _ ?_
 clear hK K
 try refine vthen_n ?_
 repeat refine VW.seq ?_
 refine VW.cond rfl (fun hc => ?_) (fun hc => ?_)
 ·have hlt : i < xs.length := by
   have : (i : Int) < ((mkTo gNodeS 3 k xs i).length : Int) := by simpa using hc
   omega
  have hset := mkTo_set gNodeS 3 k hlt
  have hsc : 3 * (i + 1) = 3 * i + 3 := by omega
  have hcb : 3 * i ≤ 6000000 := by omega
  refine VW.skip (vthen_n ?_)
  repeat refine VW.seq ?_
  refine VW.block ?_
  have hgs : ∀ q : Int × Int × Int, ((mkTo gNodeS 3 k xs i).set i q).getD i (0, 0, 0) = q := fun q => by
   rw [List.getD_eq_getElem?_getD, List.getElem?_set_self (by omega)]; rfl
  generalize hX : mkTo gNodeS 3 k xs i = X at *
  generalize hN : 3 * i = N at *
  repeat refine VW.seq ?_
  refine VW.regl hT fun K hK => ?_
  simp only [wq, Nat.reduceMul, reduceCtorEq, Nat.reduceBEq, Nat.reduceAdd, Nat.reduceLT, Nat.reduceLeDiff, Nat.reduceSub, Nat.reduceEqDiff]
  refine ⟨decide_eq_true ⟨Int.natCast_nonneg _, by show (i : Int) < (X.length : Int); omega⟩, ?_⟩
  refine hK _ ?_
  clear hK K
  try refine vthen_n ?_
  repeat refine VW.seq ?_
  refine VW.regl hT fun K hK => ?_
  simp only [wq, Nat.reduceMul, reduceCtorEq, Nat.reduceBEq, Nat.reduceAdd, Nat.reduceLT, Nat.reduceLeDiff, Nat.reduceSub, Nat.reduceEqDiff]
  refine hK _ ?_
  clear hK K
  try refine vthen_n ?_
  rw [wrap64 (by omega) (by omega)]
  repeat refine VW.seq ?_
  refine VW.regl hT fun K hK => ?_
  simp only [wq, Nat.reduceMul, reduceCtorEq, Nat.reduceBEq, Nat.reduceAdd, Nat.reduceLT, Nat.reduceLeDiff, Nat.reduceSub, Nat.reduceEqDiff]
  refine ⟨decide_eq_true ⟨Int.natCast_nonneg _, by show (i : Int) < ((List.set _ _ _).length : Int); rw [List.length_set]; omega⟩, ?_⟩
  refine hK _ ?_
  clear hK K
  try refine vthen_n ?_
  simp only [List.set_set, hgs]
  repeat refine VW.seq ?_
  refine VW.regl hT fun K hK => ?_
  simp only [wq, Nat.reduceMul, reduceCtorEq, Nat.reduceBEq, Nat.reduceAdd, Nat.reduceLT, Nat.reduceLeDiff, Nat.reduceSub, Nat.reduceEqDiff]
  refine hK _ ?_
  clear hK K
  try refine vthen_n ?_
  rw [wrap64 (by omega) (by omega)]
  repeat refine VW.seq ?_
  refine VW.regl hT fun K hK => ?_
  simp only [wq, Nat.reduceMul, reduceCtorEq, Nat.reduceBEq, Nat.reduceAdd, Nat.reduceLT, Nat.reduceLeDiff, Nat.reduceSub, Nat.reduceEqDiff]
  refine ⟨decide_eq_true ⟨Int.natCast_nonneg _, by show (i : Int) < ((List.set _ _ _).length : Int); rw [List.length_set]; omega⟩, ?_⟩
  refine hK _ ?_
  clear hK K
  try refine vthen_n ?_
  simp only [List.set_set, hgs]
  repeat refine VW.seq ?_
  refine VW.regl hT fun K hK => ?_
  simp only [wq, Nat.reduceMul, reduceCtorEq, Nat.reduceBEq, Nat.reduceAdd, Nat.reduceLT, Nat.reduceLeDiff, Nat.reduceSub, Nat.reduceEqDiff]
  refine hK _ ?_
  clear hK K
  try refine vthen_n ?_
  rw [wrap64 (by omega) (by omega)]
  show vthen _ _ _ .normal _
  refine vthen_n ?_
  repeat refine VW.seq ?_
  refine VW.regl hT fun K hK => ?_
  simp only [wq, Nat.reduceMul, reduceCtorEq, Nat.reduceBEq, Nat.reduceAdd, Nat.reduceLT, Nat.reduceLeDiff, Nat.reduceSub, Nat.reduceEqDiff]
  refine hK _ ?_
  clear hK K
  try refine vthen_n ?_
  have hel : ((k + (N : Int), k + (N : Int) + 1, k + (N : Int) + 1 + 1) : Int × Int × Int) = gNodeS (k + (N : Int)) := by
   simp only [gNodeS, show k + (N : Int) + 1 + 1 = k + (N : Int) + 2 by omega]
  refine ⟨i + 1, hlt, ?_, by show xs.length - (i + 1) < xs.length - i; omega⟩
  simp only [wn, wq, Nat.reduceMul, reduceCtorEq, Nat.reduceBEq, Nat.reduceAdd, Nat.reduceLT, Nat.reduceLeDiff, Nat.reduceSub, Nat.reduceEqDiff]
  rw [wrap64 (by omega) (by omega), ← hset, ← hel, hsc, show k + (N : Int) + 1 + 1 + 1 = k + ((N + 3 : Nat) : Int) by omega]
  try rfl
 ·have hge : i = xs.length := by
   have : ((mkTo gNodeS 3 k xs i).length : Int) ≤ (i : Int) := by simpa using hc
   omega
  subst hge
  refine VW.exit ?_
  show vthen _ _ _ .normal _
  refine vthen_n ?_
  repeat refine VW.seq ?_
  refine VW.regl hT fun K hK => ?_
  simp only [wq, Nat.reduceMul, reduceCtorEq, Nat.reduceBEq, Nat.reduceAdd, Nat.reduceLT, Nat.reduceLeDiff, Nat.reduceSub, Nat.reduceEqDiff]
  refine hK _ ?_
  clear hK K
  try refine vthen_n ?_
  refine VW.ret ⟨.inl rfl, _, _, _, _, rfl, ⟨0, _, rfl⟩, ?_, rfl, ?_⟩
  ·show some [Value.slice (some ⟨n, 0, none⟩) (mkTo gNodeS 3 k xs xs.length).length cp] = some [Value.slice (some ⟨n, 0, none⟩) xs.length cp]
   rw [hml]
  ·show PV.root (.val false) (.sl 68 sN) .own (mkTo gNodeS 3 k xs xs.length) = _
   rw [mkTo_all]
theorem markNodeS0 (k : Int) : VC Tryz.prog 55 [.v false (.sl 68 sN) [], .v false (.int .i64) (k)] (· = .v false (.int .i64) (k)) := by
 refine VC.of_body hT Tryz.func55 rfl (by kernel_rfl) [(.tmp 4, false, .int .i64)] (by kernel_rfl) ?_
 show VW _ _ ([.v false (.sl 68 sN) [], .v false (.int .i64) (k : Int), D, D, D, D, D, D, D, D, D, D, D, D, D, D, D, D, D, D, D, D, D, D, D, D, D, D, D, D, D, D, D, D]) _
 repeat refine VW.seq ?_
 refine VW.regl hT fun K hK => ?_
 simp only [wq, simprocAttr]
 refine hK _ ?_
 clear hK K
 try refine vthen_n ?_
 repeat refine VW.seq ?_
 refine VW.regl hT fun K hK => ?_
 simp only [wq, simprocAttr]
 refine hK _ ?_
 clear hK K
 try refine vthen_n ?_
 repeat refine VW.seq ?_
 refine VW.block ?_
 refine VW.loop (α := Unit) [(0, none), (1, none), (5, none)] (fun _ => [.v false (.sl 68 sN) [], .v false (.int .i64) (k : Int), D, D, D, .v false (.int .i64) (0 : Int), D, D, D, D, D, D, D, D, D, D, D, D, D, D, D, D, D, D, D, D, D, D, D, D, D, D, D, D]) (fun _ => True) (fun _ => 0) ⟨(), trivial, ?_⟩ fun _ _ => ?_
 ·simp only [wn, wq, simprocAttr]
 repeat refine VW.seq ?_
 refine VW.regl hT fun K hK => ?_
 simp only [wq, simprocAttr]
 refine hK _ ?_
 clear hK K
 try refine vthen_n ?_
 repeat refine VW.seq ?_
 refine VW.cond rfl (fun hc => ?_) (fun hc => ?_)
 ·cases hc
 ·refine VW.exit ?_
  show vthen _ _ _ .normal _
  refine vthen_n ?_
  repeat refine VW.seq ?_
  refine VW.regl hT fun K hK => ?_
  simp only [wq, simprocAttr]
  refine hK _ ?_
  clear hK K
  try refine vthen_n ?_
  exact VW.ret ⟨.inl rfl, _, rfl, rfl⟩
theorem markNodeS_vx (xs : List (Int × Int × Int)) (k : Int) (hl : xs.length ≤ 2000000) (hk0 : 0 ≤ k) (hk1 : k ≤ 100000000) : VX Tryz.prog 55 [.root (.val false) (.sl 68 sN) .own xs, .v false (.int .i64) (k)] 0 (fun pv ot => pv = .v false (.int .i64) (k + ((3 * xs.length : Nat) : Int)) ∧ ot = .root (.val false) (.sl 68 sN) .own (mkR gNodeS 3 k xs.length)) := by
 rcases Nat.eq_zero_or_pos xs.length with h | h
 ·have h := List.eq_nil_of_length_eq_zero h
  subst h
  refine (VX.of_nil (args := [.root (.val false) (.sl 68 sN) .own [], .v false (.int .i64) (k)]) (i := 0) (markNodeS0 k) rfl).mono fun pv ot h => ⟨?_, h.2⟩
  rw [h.1]
  simp
 ·exact markNodeS1 xs k h hl hk0 hk1
def gIntS (k : Int) : Int := k
set_option maxRecDepth 40000 in
theorem markIntS1 (xs : List (Int)) (k : Int) (h0 : 0 < xs.length) (hl : xs.length ≤ 2000000) (hk0 : 0 ≤ k) (hk1 : k ≤ 100000000) : VX Tryz.prog 56 [.root (.val false) (.sl 3 (.int .i64)) .own xs, .v false (.int .i64) (k)] 0 (fun pv ot => pv = .v false (.int .i64) (k + ((1 * xs.length : Nat) : Int)) ∧ ot = .root (.val false) (.sl 3 (.int .i64)) .own (mkR gIntS 1 k xs.length)) := by
 refine VX.of_rows hT Tryz.func56 rfl (by kernel_rfl) [(.tmp 4, false, .int .i64)] (by kernel_rfl) rfl rfl h0 fun l fi li e1 e2 => ?_
 obtain ⟨n, cp, rfl, rfl⟩ := io1 e1 e2
 show VW _ _ ([.root (.val false) (.sl 3 (.int .i64)) (.io n cp) xs, .v false (.int .i64) (k : Int), D, D, D, D, D, D, D, D, D, D, D, D, D, D, D, D, D]) _
 repeat refine VW.seq ?_
 refine VW.regl hT fun K hK => ?_
 simp only [wq, Nat.reduceMul, reduceCtorEq, Nat.reduceBEq, Nat.reduceAdd, Nat.reduceLT, Nat.reduceLeDiff, Nat.reduceSub, Nat.reduceEqDiff]
 refine hK _ ?_
 clear hK K
 try refine vthen_n ?_
 repeat refine VW.seq ?_
 refine VW.regl hT fun K hK => ?_
 simp only [wq, Nat.reduceMul, reduceCtorEq, Nat.reduceBEq, Nat.reduceAdd, Nat.reduceLT, Nat.reduceLeDiff, Nat.reduceSub, Nat.reduceEqDiff]
 refine hK _ ?_
 clear hK K
 try refine vthen_n ?_
 repeat refine VW.seq ?_
 refine VW.block ?_
 refine VW.loop (α := Nat) [(0, none), (1, none), (5, none)] (fun i => [.root (.val false) (.sl 3 (.int .i64)) (.io n cp) (mkTo gIntS 1 k xs i), .v false (.int .i64) (k + ((1 * i : Nat) : Int) : Int), D, D, D, .v false (.int .i64) (i : Int), D, D, D, D, D, D, D, D, D, D, D, D, D]) (fun i => i ≤ xs.length) (fun i => xs.length - i) ⟨0, by omega, ?_⟩ fun i hi => ?_
 ·simp only [wn, wq, Nat.reduceMul, reduceCtorEq, Nat.reduceBEq, Nat.reduceAdd, Nat.reduceLT, Nat.reduceLeDiff, Nat.reduceSub, Nat.reduceEqDiff]
  rw [mkTo_zero, show k + ((0 : Nat) : Int) = k from Int.add_zero k]
  try rfl
 have hml := mkTo_len gIntS 1 k hi
 repeat refine VW.seq ?_
 refine VW.regl hT fun K hK => ?_
 simp only [wq, Nat.reduceMul, reduceCtorEq, Nat.reduceBEq, Nat.reduceAdd, Nat.reduceLT, Nat.reduceLeDiff, Nat.reduceSub, Nat.reduceEqDiff]
 refine hK _ ?_
 clear hK K
 try refine vthen_n ?_
 repeat refine VW.seq ?_
 refine VW.cond rfl (fun hc => ?_) (fun hc => ?_)
 ·have hlt : i < xs.length := by
   have : (i : Int) < ((mkTo gIntS 1 k xs i).length : Int) := by simpa using hc
   omega
  have hset := mkTo_set gIntS 1 k hlt
  have hsc : 1 * (i + 1) = 1 * i + 1 := by omega
  have hcb : 1 * i ≤ 6000000 := by omega
  refine VW.skip (vthen_n ?_)
  repeat refine VW.seq ?_
  refine VW.block ?_
  have hgs : ∀ q : Int, ((mkTo gIntS 1 k xs i).set i q).getD i 0 = q := fun q => by
   rw [List.getD_eq_getElem?_getD, List.getElem?_set_self (by omega)]; rfl
  generalize hX : mkTo gIntS 1 k xs i = X at *
  generalize hN : 1 * i = N at *
  repeat refine VW.seq ?_
  refine VW.regl hT fun K hK => ?_
  simp only [wq, Nat.reduceMul, reduceCtorEq, Nat.reduceBEq, Nat.reduceAdd, Nat.reduceLT, Nat.reduceLeDiff, Nat.reduceSub, Nat.reduceEqDiff]
  refine ⟨decide_eq_true ⟨Int.natCast_nonneg _, by show (i : Int) < (X.length : Int); omega⟩, ?_⟩
  refine hK _ ?_
  clear hK K
  try refine vthen_n ?_
  repeat refine VW.seq ?_
  refine VW.regl hT fun K hK => ?_
  simp only [wq, Nat.reduceMul, reduceCtorEq, Nat.reduceBEq, Nat.reduceAdd, Nat.reduceLT, Nat.reduceLeDiff, Nat.reduceSub, Nat.reduceEqDiff]
  refine hK _ ?_
  clear hK K
  try refine vthen_n ?_
  rw [wrap64 (by omega) (by omega)]
  show vthen _ _ _ .normal _
  refine vthen_n ?_
  repeat refine VW.seq ?_
  refine VW.regl hT fun K hK => ?_
  simp only [wq, Nat.reduceMul, reduceCtorEq, Nat.reduceBEq, Nat.reduceAdd, Nat.reduceLT, Nat.reduceLeDiff, Nat.reduceSub, Nat.reduceEqDiff]
  refine hK _ ?_
  clear hK K
  try refine vthen_n ?_
  have hel : k + (N : Int) = gIntS (k + (N : Int)) := by
   simp only [gIntS]
  refine ⟨i + 1, hlt, ?_, by show xs.length - (i + 1) < xs.length - i; omega⟩
  simp only [wn, wq, Nat.reduceMul, reduceCtorEq, Nat.reduceBEq, Nat.reduceAdd, Nat.reduceLT, Nat.reduceLeDiff, Nat.reduceSub, Nat.reduceEqDiff]
  rw [wrap64 (by omega) (by omega), ← hset, ← hel, hsc, show k + (N : Int) + 1 = k + ((N + 1 : Nat) : Int) by omega]
  try rfl
 ·have hge : i = xs.length := by
   have : ((mkTo gIntS 1 k xs i).length : Int) ≤ (i : Int) := by simpa using hc
   omega
  subst hge
  refine VW.exit ?_
  show vthen _ _ _ .normal _
  refine vthen_n ?_
  repeat refine VW.seq ?_
  refine VW.regl hT fun K hK => ?_
  simp only [wq, Nat.reduceMul, reduceCtorEq, Nat.reduceBEq, Nat.reduceAdd, Nat.reduceLT, Nat.reduceLeDiff, Nat.reduceSub, Nat.reduceEqDiff]
  refine hK _ ?_
  clear hK K
  try refine vthen_n ?_
  refine VW.ret ⟨.inl rfl, _, _, _, _, rfl, ⟨0, _, rfl⟩, ?_, rfl, ?_⟩
  ·show some [Value.slice (some ⟨n, 0, none⟩) (mkTo gIntS 1 k xs xs.length).length cp] = some [Value.slice (some ⟨n, 0, none⟩) xs.length cp]
   rw [hml]
  ·show PV.root (.val false) (.sl 3 (.int .i64)) .own (mkTo gIntS 1 k xs xs.length) = _
   rw [mkTo_all]
theorem markIntS0 (k : Int) : VC Tryz.prog 56 [.v false (.sl 3 (.int .i64)) [], .v false (.int .i64) (k)] (· = .v false (.int .i64) (k)) := by
 refine VC.of_body hT Tryz.func56 rfl (by kernel_rfl) [(.tmp 4, false, .int .i64)] (by kernel_rfl) ?_
 show VW _ _ ([.v false (.sl 3 (.int .i64)) [], .v false (.int .i64) (k : Int), D, D, D, D, D, D, D, D, D, D, D, D, D, D, D, D, D]) _
 repeat refine VW.seq ?_
 refine VW.regl hT fun K hK => ?_
 simp only [wq, simprocAttr]
 refine hK _ ?_
 clear hK K
 try refine vthen_n ?_
 repeat refine VW.seq ?_
 refine VW.regl hT fun K hK => ?_
 simp only [wq, simprocAttr]
 refine hK _ ?_
 clear hK K
 try refine vthen_n ?_
 repeat refine VW.seq ?_
 refine VW.block ?_
 refine VW.loop (α := Unit) [(0, none), (1, none), (5, none)] (fun _ => [.v false (.sl 3 (.int .i64)) [], .v false (.int .i64) (k : Int), D, D, D, .v false (.int .i64) (0 : Int), D, D, D, D, D, D, D, D, D, D, D, D, D]) (fun _ => True) (fun _ => 0) ⟨(), trivial, ?_⟩ fun _ _ => ?_
 ·simp only [wn, wq, simprocAttr]
 repeat refine VW.seq ?_
 refine VW.regl hT fun K hK => ?_
 simp only [wq, simprocAttr]
 refine hK _ ?_
 clear hK K
 try refine vthen_n ?_
 repeat refine VW.seq ?_
 refine VW.cond rfl (fun hc => ?_) (fun hc => ?_)
 ·cases hc
 ·refine VW.exit ?_
  show vthen _ _ _ .normal _
  refine vthen_n ?_
  repeat refine VW.seq ?_
  refine VW.regl hT fun K hK => ?_
  simp only [wq, simprocAttr]
  refine hK _ ?_
  clear hK K
  try refine vthen_n ?_
  exact VW.ret ⟨.inl rfl, _, rfl, rfl⟩
theorem markIntS_vx (xs : List (Int)) (k : Int) (hl : xs.length ≤ 2000000) (hk0 : 0 ≤ k) (hk1 : k ≤ 100000000) : VX Tryz.prog 56 [.root (.val false) (.sl 3 (.int .i64)) .own xs, .v false (.int .i64) (k)] 0 (fun pv ot => pv = .v false (.int .i64) (k + ((1 * xs.length : Nat) : Int)) ∧ ot = .root (.val false) (.sl 3 (.int .i64)) .own (mkR gIntS 1 k xs.length)) := by
 rcases Nat.eq_zero_or_pos xs.length with h | h
 ·have h := List.eq_nil_of_length_eq_zero h
  subst h
  refine (VX.of_nil (args := [.root (.val false) (.sl 3 (.int .i64)) .own [], .v false (.int .i64) (k)]) (i := 0) (markIntS0 k) rfl).mono fun pv ot h => ⟨?_, h.2⟩
  rw [h.1]
  simp
 ·exact markIntS1 xs k h hl hk0 hk1
def gBarS (k : Int) : Int × Int := (k, k + 1)
set_option maxRecDepth 40000 in
theorem markBarS1 (xs : List (Int × Int)) (k : Int) (h0 : 0 < xs.length) (hl : xs.length ≤ 2000000) (hk0 : 0 ≤ k) (hk1 : k ≤ 100000000) : VX Tryz.prog 57 [.root (.val false) (.sl 110 sBr) .own xs, .v false (.int .i64) (k)] 0 (fun pv ot => pv = .v false (.int .i64) (k + ((2 * xs.length : Nat) : Int)) ∧ ot = .root (.val false) (.sl 110 sBr) .own (mkR gBarS 2 k xs.length)) := by
 refine VX.of_rows hT Tryz.func57 rfl (by kernel_rfl) [(.tmp 4, false, .int .i64)] (by kernel_rfl) rfl rfl h0 fun l fi li e1 e2 => ?_
 obtain ⟨n, cp, rfl, rfl⟩ := io1 e1 e2
 show VW _ _ ([.root (.val false) (.sl 110 sBr) (.io n cp) xs, .v false (.int .i64) (k : Int), D, D, D, D, D, D, D, D, D, D, D, D, D, D, D, D, D, D, D, D, D, D, D, D, D]) _
 repeat refine VW.seq ?_
 refine VW.regl hT fun K hK => ?_
 simp only [wq, Nat.reduceMul, reduceCtorEq, Nat.reduceBEq, Nat.reduceAdd, Nat.reduceLT, Nat.reduceLeDiff, Nat.reduceSub, Nat.reduceEqDiff]
 refine hK _ ?_
 clear hK K
 try refine vthen_n ?_
 repeat refine VW.seq ?_
 refine VW.regl hT fun K hK => ?_
 simp only [wq, Nat.reduceMul, reduceCtorEq, Nat.reduceBEq, Nat.reduceAdd, Nat.reduceLT, Nat.reduceLeDiff, Nat.reduceSub, Nat.reduceEqDiff]
 refine hK _ ?_
 clear hK K
 try refine vthen_n ?_
 repeat refine VW.seq ?_
 refine VW.block ?_
 refine VW.loop (α := Nat) [(0, none), (1, none), (5, none)] (fun i => [.root (.val false) (.sl 110 sBr) (.io n cp) (mkTo gBarS 2 k xs i), .v false (.int .i64) (k + ((2 * i : Nat) : Int) : Int), D, D, D, .v false (.int .i64) (i : Int), D, D, D, D, D, D, D, D, D, D, D, D, D, D, D, D, D, D, D, D, D]) (fun i => i ≤ xs.length) (fun i => xs.length - i) ⟨0, by omega, ?_⟩ fun i hi => ?_
 ·simp only [wn, wq, Nat.reduceMul, reduceCtorEq, Nat.reduceBEq, Nat.reduceAdd, Nat.reduceLT, Nat.reduceLeDiff, Nat.reduceSub, Nat.reduceEqDiff]
  rw [mkTo_zero, show k + ((0 : Nat) : Int) = k from Int.add_zero k]
  try rfl
 have hml := mkTo_len gBarS 2 k hi
 repeat refine VW.seq ?_
 refine VW.regl hT fun K hK => ?_
 simp only [wq, Nat.reduceMul, reduceCtorEq, Nat.reduceBEq, Nat.reduceAdd, Nat.reduceLT, Nat.reduceLeDiff, Nat.reduceSub, Nat.reduceEqDiff]
 refine hK _ ?_
 clear hK K
 try refine vthen_n ?_
 repeat refine VW.seq ?_
 refine VW.cond rfl (fun hc => ?_) (fun hc => ?_)
 ·have hlt : i < xs.length := by
   have : (i : Int) < ((mkTo gBarS 2 k xs i).length : Int) := by simpa using hc
   omega
  have hset := mkTo_set gBarS 2 k hlt
  have hsc : 2 * (i + 1) = 2 * i + 2 := by omega
  have hcb : 2 * i ≤ 6000000 := by omega
  refine VW.skip (vthen_n ?_)
  repeat refine VW.seq ?_
  refine VW.block ?_
  have hgs : ∀ q : Int × Int, ((mkTo gBarS 2 k xs i).set i q).getD i (0, 0) = q := fun q => by
   rw [List.getD_eq_getElem?_getD, List.getElem?_set_self (by omega)]; rfl
  generalize hX : mkTo gBarS 2 k xs i = X at *
  generalize hN : 2 * i = N at *
  repeat refine VW.seq ?_
  refine VW.regl hT fun K hK => ?_
  simp only [wq, Nat.reduceMul, reduceCtorEq, Nat.reduceBEq, Nat.reduceAdd, Nat.reduceLT, Nat.reduceLeDiff, Nat.reduceSub, Nat.reduceEqDiff]
  refine ⟨decide_eq_true ⟨Int.natCast_nonneg _, by show (i : Int) < (X.length : Int); omega⟩, ?_⟩
  refine hK _ ?_
  clear hK K
  try refine vthen_n ?_
  repeat refine VW.seq ?_
  refine VW.regl hT fun K hK => ?_
  simp only [wq, Nat.reduceMul, reduceCtorEq, Nat.reduceBEq, Nat.reduceAdd, Nat.reduceLT, Nat.reduceLeDiff, Nat.reduceSub, Nat.reduceEqDiff]
  refine hK _ ?_
  clear hK K
  try refine vthen_n ?_
  rw [wrap64 (by omega) (by omega)]
  repeat refine VW.seq ?_
  refine VW.regl hT fun K hK => ?_
  simp only [wq, Nat.reduceMul, reduceCtorEq, Nat.reduceBEq, Nat.reduceAdd, Nat.reduceLT, Nat.reduceLeDiff, Nat.reduceSub, Nat.reduceEqDiff]
  refine ⟨decide_eq_true ⟨Int.natCast_nonneg _, by show (i : Int) < ((List.set _ _ _).length : Int); rw [List.length_set]; omega⟩, ?_⟩
  refine hK _ ?_
  clear hK K
  try refine vthen_n ?_
  simp only [List.set_set, hgs]
  repeat refine VW.seq ?_
  refine VW.regl hT fun K hK => ?_
  simp only [wq, Nat.reduceMul, reduceCtorEq, Nat.reduceBEq, Nat.reduceAdd, Nat.reduceLT, Nat.reduceLeDiff, Nat.reduceSub, Nat.reduceEqDiff]
  refine hK _ ?_
  clear hK K
  try refine vthen_n ?_
  rw [wrap64 (by omega) (by omega)]
  show vthen _ _ _ .normal _
  refine vthen_n ?_
  repeat refine VW.seq ?_
  refine VW.regl hT fun K hK => ?_
  simp only [wq, Nat.reduceMul, reduceCtorEq, Nat.reduceBEq, Nat.reduceAdd, Nat.reduceLT, Nat.reduceLeDiff, Nat.reduceSub, Nat.reduceEqDiff]
  refine hK _ ?_
  clear hK K
  try refine vthen_n ?_
  have hel : ((k + (N : Int), k + (N : Int) + 1) : Int × Int) = gBarS (k + (N : Int)) := by
   simp only [gBarS]
  refine ⟨i + 1, hlt, ?_, by show xs.length - (i + 1) < xs.length - i; omega⟩
  simp only [wn, wq, Nat.reduceMul, reduceCtorEq, Nat.reduceBEq, Nat.reduceAdd, Nat.reduceLT, Nat.reduceLeDiff, Nat.reduceSub, Nat.reduceEqDiff]
  rw [wrap64 (by omega) (by omega), ← hset, ← hel, hsc, show k + (N : Int) + 1 + 1 = k + ((N + 2 : Nat) : Int) by omega]
  try rfl
 ·have hge : i = xs.length := by
   have : ((mkTo gBarS 2 k xs i).length : Int) ≤ (i : Int) := by simpa using hc
   omega
  subst hge
  refine VW.exit ?_
  show vthen _ _ _ .normal _
  refine vthen_n ?_
  repeat refine VW.seq ?_
  refine VW.regl hT fun K hK => ?_
  simp only [wq, Nat.reduceMul, reduceCtorEq, Nat.reduceBEq, Nat.reduceAdd, Nat.reduceLT, Nat.reduceLeDiff, Nat.reduceSub, Nat.reduceEqDiff]
  refine hK _ ?_
  clear hK K
  try refine vthen_n ?_
  refine VW.ret ⟨.inl rfl, _, _, _, _, rfl, ⟨0, _, rfl⟩, ?_, rfl, ?_⟩
  ·show some [Value.slice (some ⟨n, 0, none⟩) (mkTo gBarS 2 k xs xs.length).length cp] = some [Value.slice (some ⟨n, 0, none⟩) xs.length cp]
   rw [hml]
  ·show PV.root (.val false) (.sl 110 sBr) .own (mkTo gBarS 2 k xs xs.length) = _
   rw [mkTo_all]
theorem markBarS0 (k : Int) : VC Tryz.prog 57 [.v false (.sl 110 sBr) [], .v false (.int .i64) (k)] (· = .v false (.int .i64) (k)) := by
 refine VC.of_body hT Tryz.func57 rfl (by kernel_rfl) [(.tmp 4, false, .int .i64)] (by kernel_rfl) ?_
 show VW _ _ ([.v false (.sl 110 sBr) [], .v false (.int .i64) (k : Int), D, D, D, D, D, D, D, D, D, D, D, D, D, D, D, D, D, D, D, D, D, D, D, D, D]) _
 repeat refine VW.seq ?_
 refine VW.regl hT fun K hK => ?_
 simp only [wq, simprocAttr]
 refine hK _ ?_
 clear hK K
 try refine vthen_n ?_
 repeat refine VW.seq ?_
 refine VW.regl hT fun K hK => ?_
 simp only [wq, simprocAttr]
 refine hK _ ?_
 clear hK K
 try refine vthen_n ?_
 repeat refine VW.seq ?_
 refine VW.block ?_
 refine VW.loop (α := Unit) [(0, none), (1, none), (5, none)] (fun _ => [.v false (.sl 110 sBr) [], .v false (.int .i64) (k : Int), D, D, D, .v false (.int .i64) (0 : Int), D, D, D, D, D, D, D, D, D, D, D, D, D, D, D, D, D, D, D, D, D]) (fun _ => True) (fun _ => 0) ⟨(), trivial, ?_⟩ fun _ _ => ?_
 ·simp only [wn, wq, simprocAttr]
 repeat refine VW.seq ?_
 refine VW.regl hT fun K hK => ?_
 simp only [wq, simprocAttr]
 refine hK _ ?_
 clear hK K
 try refine vthen_n ?_
 repeat refine VW.seq ?_
 refine VW.cond rfl (fun hc => ?_) (fun hc => ?_)
 ·cases hc
 ·refine VW.exit ?_
  show vthen _ _ _ .normal _
  refine vthen_n ?_
  repeat refine VW.seq ?_
  refine VW.regl hT fun K hK => ?_
  simp only [wq, simprocAttr]
  refine hK _ ?_
  clear hK K
  try refine vthen_n ?_
  exact VW.ret ⟨.inl rfl, _, rfl, rfl⟩
theorem markBarS_vx (xs : List (Int × Int)) (k : Int) (hl : xs.length ≤ 2000000) (hk0 : 0 ≤ k) (hk1 : k ≤ 100000000) : VX Tryz.prog 57 [.root (.val false) (.sl 110 sBr) .own xs, .v false (.int .i64) (k)] 0 (fun pv ot => pv = .v false (.int .i64) (k + ((2 * xs.length : Nat) : Int)) ∧ ot = .root (.val false) (.sl 110 sBr) .own (mkR gBarS 2 k xs.length)) := by
 rcases Nat.eq_zero_or_pos xs.length with h | h
 ·have h := List.eq_nil_of_length_eq_zero h
  subst h
  refine (VX.of_nil (args := [.root (.val false) (.sl 110 sBr) .own [], .v false (.int .i64) (k)]) (i := 0) (markBarS0 k) rfl).mono fun pv ot h => ⟨?_, h.2⟩
  rw [h.1]
  simp
 ·exact markBarS1 xs k h hl hk0 hk1
def gBoolS (k : Int) : Bool := (Int.tmod k 3 == 0)
set_option maxRecDepth 40000 in
theorem markBoolS1 (xs : List (Bool)) (k : Int) (h0 : 0 < xs.length) (hl : xs.length ≤ 2000000) (hk0 : 0 ≤ k) (hk1 : k ≤ 100000000) : VX Tryz.prog 94 [.root (.val false) (.sl 4 .bool) .own xs, .v false (.int .i64) (k)] 0 (fun pv ot => pv = .v false (.int .i64) (k + ((1 * xs.length : Nat) : Int)) ∧ ot = .root (.val false) (.sl 4 .bool) .own (mkR gBoolS 1 k xs.length)) := by
 refine VX.of_rows hT Tryz.func94 rfl (by kernel_rfl) [(.tmp 4, false, .int .i64)] (by kernel_rfl) rfl rfl h0 fun l fi li e1 e2 => ?_
 obtain ⟨n, cp, rfl, rfl⟩ := io1 e1 e2
 show VW _ _ ([.root (.val false) (.sl 4 .bool) (.io n cp) xs, .v false (.int .i64) (k : Int), D, D, D, D, D, D, D, D, D, D, D, D, D, D, D, D, D, D, D]) _
 repeat refine VW.seq ?_
 refine VW.regl hT fun K hK => ?_
 simp only [wq, Nat.reduceMul, reduceCtorEq, Nat.reduceBEq, Nat.reduceAdd, Nat.reduceLT, Nat.reduceLeDiff, Nat.reduceSub, Nat.reduceEqDiff]
 refine hK _ ?_
 clear hK K
 try refine vthen_n ?_
 repeat refine VW.seq ?_
 refine VW.regl hT fun K hK => ?_
 simp only [wq, Nat.reduceMul, reduceCtorEq, Nat.reduceBEq, Nat.reduceAdd, Nat.reduceLT, Nat.reduceLeDiff, Nat.reduceSub, Nat.reduceEqDiff]
 refine hK _ ?_
 clear hK K
 try refine vthen_n ?_
 repeat refine VW.seq ?_
 refine VW.block ?_
 refine VW.loop (α := Nat) [(0, none), (1, none), (5, none)] (fun i => [.root (.val false) (.sl 4 .bool) (.io n cp) (mkTo gBoolS 1 k xs i), .v false (.int .i64) (k + ((1 * i : Nat) : Int) : Int), D, D, D, .v false (.int .i64) (i : Int), D, D, D, D, D, D, D, D, D, D, D, D, D, D, D]) (fun i => i ≤ xs.length) (fun i => xs.length - i) ⟨0, by omega, ?_⟩ fun i hi => ?_
 ·simp only [wn, wq, Nat.reduceMul, reduceCtorEq, Nat.reduceBEq, Nat.reduceAdd, Nat.reduceLT, Nat.reduceLeDiff, Nat.reduceSub, Nat.reduceEqDiff]
  rw [mkTo_zero, show k + ((0 : Nat) : Int) = k from Int.add_zero k]
  try rfl
 have hml := mkTo_len gBoolS 1 k hi
 repeat refine VW.seq ?_
 refine VW.regl hT fun K hK => ?_
 simp only [wq, Nat.reduceMul, reduceCtorEq, Nat.reduceBEq, Nat.reduceAdd, Nat.reduceLT, Nat.reduceLeDiff, Nat.reduceSub, Nat.reduceEqDiff]
 refine hK _ ?_
 clear hK K
 try refine vthen_n ?_
 repeat refine VW.seq ?_
 refine VW.cond rfl (fun hc => ?_) (fun hc => ?_)
 ·have hlt : i < xs.length := by
   have : (i : Int) < ((mkTo gBoolS 1 k xs i).length : Int) := by simpa using hc
   omega
  have hset := mkTo_set gBoolS 1 k hlt
  have hsc : 1 * (i + 1) = 1 * i + 1 := by omega
  have hcb : 1 * i ≤ 6000000 := by omega
  refine VW.skip (vthen_n ?_)
  repeat refine VW.seq ?_
  refine VW.block ?_
  have hgs : ∀ q : Bool, ((mkTo gBoolS 1 k xs i).set i q).getD i false = q := fun q => by
   rw [List.getD_eq_getElem?_getD, List.getElem?_set_self (by omega)]; rfl
  generalize hX : mkTo gBoolS 1 k xs i = X at *
  generalize hN : 1 * i = N at *
  repeat refine VW.seq ?_
  refine VW.regl hT fun K hK => ?_
  simp only [wq, Nat.reduceMul, reduceCtorEq, Nat.reduceBEq, Nat.reduceAdd, Nat.reduceLT, Nat.reduceLeDiff, Nat.reduceSub, Nat.reduceEqDiff]
  refine ⟨by decide, decide_eq_true ⟨Int.natCast_nonneg _, by show (i : Int) < (X.length : Int); omega⟩, ?_⟩
  refine hK _ ?_
  clear hK K
  try refine vthen_n ?_
  repeat refine VW.seq ?_
  refine VW.regl hT fun K hK => ?_
  simp only [wq, Nat.reduceMul, reduceCtorEq, Nat.reduceBEq, Nat.reduceAdd, Nat.reduceLT, Nat.reduceLeDiff, Nat.reduceSub, Nat.reduceEqDiff]
  refine hK _ ?_
  clear hK K
  try refine vthen_n ?_
  rw [wrap64 (by omega) (by omega)]
  show vthen _ _ _ .normal _
  refine vthen_n ?_
  repeat refine VW.seq ?_
  refine VW.regl hT fun K hK => ?_
  simp only [wq, Nat.reduceMul, reduceCtorEq, Nat.reduceBEq, Nat.reduceAdd, Nat.reduceLT, Nat.reduceLeDiff, Nat.reduceSub, Nat.reduceEqDiff]
  refine hK _ ?_
  clear hK K
  try refine vthen_n ?_
  have hel : (Int.tmod (k + (N : Int)) 3 == 0) = gBoolS (k + (N : Int)) := by
   simp only [gBoolS]
  refine ⟨i + 1, hlt, ?_, by show xs.length - (i + 1) < xs.length - i; omega⟩
  simp only [wn, wq, Nat.reduceMul, reduceCtorEq, Nat.reduceBEq, Nat.reduceAdd, Nat.reduceLT, Nat.reduceLeDiff, Nat.reduceSub, Nat.reduceEqDiff]
  rw [wrap64 (by omega) (by omega), ← hset, ← hel, hsc, show k + (N : Int) + 1 = k + ((N + 1 : Nat) : Int) by omega]
  try rfl
 ·have hge : i = xs.length := by
   have : ((mkTo gBoolS 1 k xs i).length : Int) ≤ (i : Int) := by simpa using hc
   omega
  subst hge
  refine VW.exit ?_
  show vthen _ _ _ .normal _
  refine vthen_n ?_
  repeat refine VW.seq ?_
  refine VW.regl hT fun K hK => ?_
  simp only [wq, Nat.reduceMul, reduceCtorEq, Nat.reduceBEq, Nat.reduceAdd, Nat.reduceLT, Nat.reduceLeDiff, Nat.reduceSub, Nat.reduceEqDiff]
  refine hK _ ?_
  clear hK K
  try refine vthen_n ?_
  refine VW.ret ⟨.inl rfl, _, _, _, _, rfl, ⟨0, _, rfl⟩, ?_, rfl, ?_⟩
  ·show some [Value.slice (some ⟨n, 0, none⟩) (mkTo gBoolS 1 k xs xs.length).length cp] = some [Value.slice (some ⟨n, 0, none⟩) xs.length cp]
   rw [hml]
  ·show PV.root (.val false) (.sl 4 .bool) .own (mkTo gBoolS 1 k xs xs.length) = _
   rw [mkTo_all]
theorem markBoolS0 (k : Int) : VC Tryz.prog 94 [.v false (.sl 4 .bool) [], .v false (.int .i64) (k)] (· = .v false (.int .i64) (k)) := by
 refine VC.of_body hT Tryz.func94 rfl (by kernel_rfl) [(.tmp 4, false, .int .i64)] (by kernel_rfl) ?_
 show VW _ _ ([.v false (.sl 4 .bool) [], .v false (.int .i64) (k : Int), D, D, D, D, D, D, D, D, D, D, D, D, D, D, D, D, D, D, D]) _
 repeat refine VW.seq ?_
 refine VW.regl hT fun K hK => ?_
 simp only [wq, simprocAttr]
 refine hK _ ?_
 clear hK K
 try refine vthen_n ?_
 repeat refine VW.seq ?_
 refine VW.regl hT fun K hK => ?_
 simp only [wq, simprocAttr]
 refine hK _ ?_
 clear hK K
 try refine vthen_n ?_
 repeat refine VW.seq ?_
 refine VW.block ?_
 refine VW.loop (α := Unit) [(0, none), (1, none), (5, none)] (fun _ => [.v false (.sl 4 .bool) [], .v false (.int .i64) (k : Int), D, D, D, .v false (.int .i64) (0 : Int), D, D, D, D, D, D, D, D, D, D, D, D, D, D, D]) (fun _ => True) (fun _ => 0) ⟨(), trivial, ?_⟩ fun _ _ => ?_
 ·simp only [wn, wq, simprocAttr]
 repeat refine VW.seq ?_
 refine VW.regl hT fun K hK => ?_
 simp only [wq, simprocAttr]
 refine hK _ ?_
 clear hK K
 try refine vthen_n ?_
 repeat refine VW.seq ?_
 refine VW.cond rfl (fun hc => ?_) (fun hc => ?_)
 ·cases hc
 ·refine VW.exit ?_
  show vthen _ _ _ .normal _
  refine vthen_n ?_
  repeat refine VW.seq ?_
  refine VW.regl hT fun K hK => ?_
  simp only [wq, simprocAttr]
  refine hK _ ?_
  clear hK K
  try refine vthen_n ?_
  exact VW.ret ⟨.inl rfl, _, rfl, rfl⟩
theorem markBoolS_vx (xs : List (Bool)) (k : Int) (hl : xs.length ≤ 2000000) (hk0 : 0 ≤ k) (hk1 : k ≤ 100000000) : VX Tryz.prog 94 [.root (.val false) (.sl 4 .bool) .own xs, .v false (.int .i64) (k)] 0 (fun pv ot => pv = .v false (.int .i64) (k + ((1 * xs.length : Nat) : Int)) ∧ ot = .root (.val false) (.sl 4 .bool) .own (mkR gBoolS 1 k xs.length)) := by
 rcases Nat.eq_zero_or_pos xs.length with h | h
 ·have h := List.eq_nil_of_length_eq_zero h
  subst h
  refine (VX.of_nil (args := [.root (.val false) (.sl 4 .bool) .own [], .v false (.int .i64) (k)]) (i := 0) (markBoolS0 k) rfl).mono fun pv ot h => ⟨?_, h.2⟩
  rw [h.1]
  simp
 ·exact markBoolS1 xs k h hl hk0 hk1
end Go.Proofs.YtoeblmcibheldaaGreatDoor.V.W
end
section
namespace Go.Proofs.YtoeblmcibheldaaGreatDoor.V.W
open Go Go.RowKit
def gTx (k : Int) : ByteArray := bs (109 :: dd k.natAbs)
theorem u8small {x : Int} (h0 : 0 ≤ x) (h1 : x < 256) : IntKind.u8.wrap x = x := by rw [IntKind.wrap_u8]; omega
set_option maxRecDepth 20000 in
set_option maxHeartbeats 1000000 in
theorem markText_vc (k : Int) (hk : 0 < k) (hk1 : k ≤ 200000000) : VC Tryz.prog 60 [.v false (.int .i64) (k)] (· = .v false .str (gTx k)) := by
 refine VC.of_body hT Tryz.func60 rfl (by kernel_rfl) [(.tmp 2, false, .str)] (by kernel_rfl) ?_
 show VW _ _ ([.v false (.int .i64) (k), D, D, D, D, D, D, D, D, D, D, D, D, D, D, D, D, D, D, D]) _
 repeat refine VW.seq ?_
 refine VW.regl hT fun K hK => ?_
 simp only [wq, simprocAttr]
 refine hK _ ?_
 clear hK K
 try refine vthen_n ?_
 repeat refine VW.seq ?_
 refine VW.regl hT fun K hK => ?_
 simp only [wq, simprocAttr]
 refine hK _ ?_
 clear hK K
 try refine vthen_n ?_
 repeat refine VW.seq ?_
 refine VW.cond rfl (fun hc => ?_) (fun hc => ?_)
 ·have hc : k ≤ 0 := of_decide_eq_true hc
  omega
 refine VW.skip (vthen_n ?_)
 repeat refine VW.seq ?_
 refine VW.regl hT fun K hK => ?_
 simp only [wq, simprocAttr]
 refine hK _ ?_
 clear hK K
 try refine vthen_n ?_
 repeat refine VW.seq ?_
 refine VW.block ?_
 have hll : (dd k.natAbs).length ≤ 21 := by
  have := itoa_len (n := k) (by omega) (by omega)
  rw [bs_size, itoa_dd (by omega), List.length_append] at this
  omega
 refine VW.loop (α := Int × List UInt8) [(0, none), (3, none)] (fun q => [.v false (.int .i64) (q.1), D, D, .v false .str (bs q.2), D, D, D, D, D, D, D, D, D, D, D, D, D, D, D, D]) (fun q => (0 ≤ q.1 ∧ q.1 ≤ 200000000) ∧ dd q.1.natAbs ++ q.2 = dd k.natAbs) (fun q => q.1.natAbs) ⟨(k, []), ⟨⟨by omega, by omega⟩, by simp⟩, ?_⟩ fun q ⟨hq, hd⟩ => ?_
 ·simp only [wn, wq, simprocAttr]
  try rfl
 obtain ⟨m, l⟩ := q
 have hq : 0 ≤ m ∧ m ≤ 200000000 := hq
 have hd : dd m.natAbs ++ l = dd k.natAbs := hd
 have hl : l.length ≤ 21 := by
  have := congrArg List.length hd
  rw [List.length_append] at this
  omega
 repeat refine VW.seq ?_
 refine VW.regl hT fun K hK => ?_
 simp only [wq, simprocAttr]
 refine hK _ ?_
 clear hK K
 try refine vthen_n ?_
 repeat refine VW.seq ?_
 refine VW.cond rfl (fun hc => ?_) (fun hc => ?_)
 ·have hm : 0 < m := by
   have : m > 0 := of_decide_eq_true hc
   omega
  have hlt : m.natAbs % 10 < 10 := Nat.mod_lt _ (by decide)
  refine VW.skip (vthen_n ?_)
  repeat refine VW.seq ?_
  refine VW.block ?_
  repeat refine VW.seq ?_
  refine VW.regl hT fun K hK => ?_
  simp only [wq, simprocAttr]
  refine ⟨decide_eq_false id, ?_⟩
  rw [tm10_pos (by omega : 0 ≤ m), wrap64 (by omega) (by omega), u8small (by omega) (by omega)]
  refine vhook_of (does_tostr (e := 5) (e' := 5) (ys := [48 + ((m.natAbs % 10 : Nat) : Int)]) rfl (by kernel_rfl) (by kernel_rfl) (by kernel_rfl) rfl rfl) ?_
  simp only [wq, simprocAttr]
  rw [bstr_one, bs_app]
  refine ⟨decide_eq_true (by rw [bs_size, bs_size]; show (1 : Nat) + _ ≤ _; omega), ?_⟩
  refine hK _ ?_
  clear hK K
  try refine vthen_n ?_
  repeat refine VW.seq ?_
  refine VW.regl hT fun K hK => ?_
  simp only [wq, simprocAttr]
  refine ⟨decide_eq_false id, ?_⟩
  refine hK _ ?_
  clear hK K
  try refine vthen_n ?_
  have hb : 0 ≤ m.tdiv 10 ∧ m.tdiv 10 ≤ 200000000 := by
   have := td10 m
   rw [if_neg (by omega)] at this
   omega
  refine ⟨(m.tdiv 10, UInt8.ofNat (48 + m.natAbs % 10) :: l), ⟨hb, ?_⟩, ?_, ?_⟩
  ·show dd (m.tdiv 10).natAbs ++ (UInt8.ofNat (48 + m.natAbs % 10) :: l) = dd k.natAbs
   rw [td10_abs, ← hd, dd_step (u := m.natAbs) (by omega), List.append_assoc]
   rfl
  ·simp only [wn, wq, simprocAttr]
   rw [wrap64 (by omega) (by omega)]
  ·show (m.tdiv 10).natAbs < m.natAbs
   rw [td10_abs]
   omega
 ·have hm0 : m = 0 := by
   have : ¬ m > 0 := of_decide_eq_false hc
   omega
  subst hm0
  have hd : l = dd k.natAbs := hd
  subst hd
  refine VW.exit ?_
  show vthen _ _ _ .normal _
  refine vthen_n ?_
  repeat refine VW.seq ?_
  refine VW.regl hT fun K hK => ?_
  simp only [wq, simprocAttr]
  refine ⟨decide_eq_true (by rw [bs_size]; show (1 : Nat) + _ ≤ _; omega), ?_⟩
  refine hK _ ?_
  clear hK K
  try refine vthen_n ?_
  exact VW.ret ⟨.inl rfl, _, rfl, rfl⟩
set_option maxRecDepth 40000 in
theorem eqStringS_vc (xs : List ByteArray) (hl : xs.length ≤ 2000000) : VC Tryz.prog 16 [.v false sSt xs, .v false sSt xs] (· = .v false .bool true) := by
 refine VC.of_body hT Tryz.func16 rfl (by kernel_rfl) [(.tmp 4, false, .bool)] (by kernel_rfl) ?_
 show VW _ _ ([.v false sSt xs, .v false sSt xs, D, D, D, D, D, D, D, D, D, D, D, D, D, D, D, D, D, D, D, D, D, D, D, D]) _
 repeat refine VW.seq ?_
 refine VW.regl hT fun K hK => ?_
 simp only [wq, simprocAttr]
 refine hK _ ?_
 clear hK K
 try refine vthen_n ?_
 repeat refine VW.seq ?_
 refine VW.regl hT fun K hK => ?_
 simp only [wq, simprocAttr]
 refine hK _ ?_
 clear hK K
 try refine vthen_n ?_
 repeat refine VW.seq ?_
 refine VW.cond rfl (fun hc => ?_) (fun hc => ?_)
 ·simp at hc
 refine VW.skip (vthen_n ?_)
 repeat refine VW.seq ?_
 refine VW.regl hT fun K hK => ?_
 simp only [wq, simprocAttr]
 refine hK _ ?_
 clear hK K
 try refine vthen_n ?_
 repeat refine VW.seq ?_
 refine VW.block ?_
 refine VW.loop (α := Nat) [(0, none), (1, none), (5, none)] (fun i => [.v false sSt xs, .v false sSt xs, D, D, D, .v false (.int .i64) (i), D, D, D, D, D, D, D, D, D, D, D, D, D, D, D, D, D, D, D, D]) (fun i => i ≤ xs.length) (fun i => xs.length - i) ⟨0, by omega, ?_⟩ fun i hi => ?_
 ·simp only [wn, wq, simprocAttr]
  try rfl
 repeat refine VW.seq ?_
 refine VW.regl hT fun K hK => ?_
 simp only [wq, simprocAttr]
 refine hK _ ?_
 clear hK K
 try refine vthen_n ?_
 repeat refine VW.seq ?_
 refine VW.cond rfl (fun hc => ?_) (fun hc => ?_)
 ·have hlt : i < xs.length := by simpa using hc
  refine VW.skip (vthen_n ?_)
  repeat refine VW.seq ?_
  refine VW.block ?_
  repeat refine VW.seq ?_
  refine VW.drawl hT hm (by kernel_rfl) fun K hK => ?_
  simp only [wq, simprocAttr]
  refine ⟨by simp; omega, by simp; omega, ?_⟩
  refine hK _ ?_
  clear hK K
  try refine vthen_n ?_
  repeat refine VW.seq ?_
  refine VW.cond rfl (fun hc => by cases hc) (fun hc => ?_)
  refine VW.skip ?_
  show vthen _ _ _ .normal _
  refine vthen_n ?_
  repeat refine VW.seq ?_
  refine VW.regl hT fun K hK => ?_
  simp only [wq, simprocAttr]
  refine hK _ ?_
  clear hK K
  try refine vthen_n ?_
  refine ⟨i + 1, hlt, ?_, by show xs.length - (i + 1) < xs.length - i; omega⟩
  simp only [wn, wq, simprocAttr]
  rw [wrap64 (by omega) (by omega)]
  rfl
 ·have hc : xs.length ≤ i := by simpa using hc
  refine VW.exit ?_
  show vthen _ _ _ .normal _
  refine vthen_n ?_
  repeat refine VW.seq ?_
  refine VW.regl hT fun K hK => ?_
  simp only [wq, simprocAttr]
  refine hK _ ?_
  clear hK K
  try refine vthen_n ?_
  exact VW.ret ⟨.inl rfl, _, rfl, rfl⟩
set_option maxRecDepth 40000 in
theorem markStringS1 (xs : List ByteArray) (k : Int) (h0 : 0 < xs.length) (hl : xs.length ≤ 2000000) (hk0 : 0 < k) (hk1 : k ≤ 100000000) : VX Tryz.prog 19 [.root (.val false) sSt .own xs, .v false (.int .i64) (k)] 0 (fun pv ot => pv = .v false (.int .i64) (k + ((1 * xs.length : Nat) : Int)) ∧ ot = .root (.val false) sSt .own (mkR gTx 1 k xs.length)) := by
 refine VX.of_rows hT Tryz.func19 rfl (by kernel_rfl) [(.tmp 4, false, .int .i64)] (by kernel_rfl) rfl rfl h0 fun l fi li e1 e2 => ?_
 obtain ⟨n, cp, rfl, rfl⟩ := io1 e1 e2
 show VW _ _ ([.root (.val false) sSt (.io n cp) xs, .v false (.int .i64) (k : Int), D, D, D, D, D, D, D, D, D, D, D, D, D, D, D, D, D, D]) _
 repeat refine VW.seq ?_
 refine VW.regl hT fun K hK => ?_
 simp only [wq, simprocAttr]
 refine hK _ ?_
 clear hK K
 try refine vthen_n ?_
 repeat refine VW.seq ?_
 refine VW.regl hT fun K hK => ?_
 simp only [wq, simprocAttr]
 refine hK _ ?_
 clear hK K
 try refine vthen_n ?_
 repeat refine VW.seq ?_
 refine VW.block ?_
 refine VW.loop (α := Nat) [(0, none), (1, none), (5, none)] (fun i => [.root (.val false) sSt (.io n cp) (mkTo gTx 1 k xs i), .v false (.int .i64) (k + ((1 * i : Nat) : Int) : Int), D, D, D, .v false (.int .i64) (i : Int), D, D, D, D, D, D, D, D, D, D, D, D, D, D]) (fun i => i ≤ xs.length) (fun i => xs.length - i) ⟨0, by omega, ?_⟩ fun i hi => ?_
 ·simp only [wn, wq, simprocAttr]
  rw [mkTo_zero, Int.add_zero]
 have hml := mkTo_len gTx 1 k hi
 repeat refine VW.seq ?_
 refine VW.regl hT fun K hK => ?_
 simp only [wq, simprocAttr]
 refine hK _ ?_
 clear hK K
 try refine vthen_n ?_
 repeat refine VW.seq ?_
 refine VW.cond rfl (fun hc => ?_) (fun hc => ?_)
 ·have hlt : i < xs.length := by
   have : (i : Int) < ((mkTo gTx 1 k xs i).length : Int) := by simpa using hc
   omega
  have hset := mkTo_set gTx 1 k hlt
  have hsc : 1 * (i + 1) = 1 * i + 1 := by omega
  have hcb : 1 * i ≤ 6000000 := by omega
  refine VW.skip (vthen_n ?_)
  repeat refine VW.seq ?_
  refine VW.block ?_
  generalize hX : mkTo gTx 1 k xs i = X at *
  generalize hN : 1 * i = N at *
  repeat refine VW.seq ?_
  refine VW.regl hT fun K hK => ?_
  simp only [wq, simprocAttr]
  refine vcall_of (markText_vc _ (by omega) (by omega)) ?_
  simp only [wq, simprocAttr]
  refine ⟨decide_eq_true ⟨Int.natCast_nonneg _, by show (i : Int) < (X.length : Int); omega⟩, ?_⟩
  refine hK _ ?_
  clear hK K
  try refine vthen_n ?_
  repeat refine VW.seq ?_
  refine VW.regl hT fun K hK => ?_
  simp only [wq, simprocAttr]
  refine hK _ ?_
  clear hK K
  try refine vthen_n ?_
  rw [wrap64 (by omega) (by omega)]
  show vthen _ _ _ .normal _
  refine vthen_n ?_
  repeat refine VW.seq ?_
  refine VW.regl hT fun K hK => ?_
  simp only [wq, simprocAttr]
  refine hK _ ?_
  clear hK K
  try refine vthen_n ?_
  refine ⟨i + 1, hlt, ?_, by show xs.length - (i + 1) < xs.length - i; omega⟩
  simp only [wn, wq, simprocAttr]
  rw [wrap64 (by omega) (by omega), ← hset, hsc, show k + (N : Int) + 1 = k + ((N + 1 : Nat) : Int) by omega]
  rfl
 ·have hge : i = xs.length := by
   have : ((mkTo gTx 1 k xs i).length : Int) ≤ (i : Int) := by simpa using hc
   omega
  subst hge
  refine VW.exit ?_
  show vthen _ _ _ .normal _
  refine vthen_n ?_
  repeat refine VW.seq ?_
  refine VW.regl hT fun K hK => ?_
  simp only [wq, simprocAttr]
  refine hK _ ?_
  clear hK K
  try refine vthen_n ?_
  refine VW.ret ⟨.inl rfl, _, _, _, _, rfl, ⟨0, _, rfl⟩, ?_, rfl, ?_⟩
  ·show some [Value.slice (some ⟨n, 0, none⟩) (mkTo gTx 1 k xs xs.length).length cp] = some [Value.slice (some ⟨n, 0, none⟩) xs.length cp]
   rw [hml]
  ·show PV.root (.val false) sSt .own (mkTo gTx 1 k xs xs.length) = _
   rw [mkTo_all]
theorem markStringS0 (k : Int) : VC Tryz.prog 19 [.v false sSt [], .v false (.int .i64) (k)] (· = .v false (.int .i64) (k)) := by
 refine VC.of_body hT Tryz.func19 rfl (by kernel_rfl) [(.tmp 4, false, .int .i64)] (by kernel_rfl) ?_
 show VW _ _ ([.v false sSt [], .v false (.int .i64) (k : Int), D, D, D, D, D, D, D, D, D, D, D, D, D, D, D, D, D, D]) _
 repeat refine VW.seq ?_
 refine VW.regl hT fun K hK => ?_
 simp only [wq, simprocAttr]
 refine hK _ ?_
 clear hK K
 try refine vthen_n ?_
 repeat refine VW.seq ?_
 refine VW.regl hT fun K hK => ?_
 simp only [wq, simprocAttr]
 refine hK _ ?_
 clear hK K
 try refine vthen_n ?_
 repeat refine VW.seq ?_
 refine VW.block ?_
 refine VW.loop (α := Unit) [(0, none), (1, none), (5, none)] (fun _ => [.v false sSt [], .v false (.int .i64) (k : Int), D, D, D, .v false (.int .i64) (0 : Int), D, D, D, D, D, D, D, D, D, D, D, D, D, D]) (fun _ => True) (fun _ => 0) ⟨(), trivial, ?_⟩ fun _ _ => ?_
 ·simp only [wn, wq, simprocAttr]
 repeat refine VW.seq ?_
 refine VW.regl hT fun K hK => ?_
 simp only [wq, simprocAttr]
 refine hK _ ?_
 clear hK K
 try refine vthen_n ?_
 repeat refine VW.seq ?_
 refine VW.cond rfl (fun hc => ?_) (fun hc => ?_)
 ·cases hc
 ·refine VW.exit ?_
  show vthen _ _ _ .normal _
  refine vthen_n ?_
  repeat refine VW.seq ?_
  refine VW.regl hT fun K hK => ?_
  simp only [wq, simprocAttr]
  refine hK _ ?_
  clear hK K
  try refine vthen_n ?_
  exact VW.ret ⟨.inl rfl, _, rfl, rfl⟩
theorem markStringS_vx (xs : List ByteArray) (k : Int) (hl : xs.length ≤ 2000000) (hk0 : 0 < k) (hk1 : k ≤ 100000000) : VX Tryz.prog 19 [.root (.val false) sSt .own xs, .v false (.int .i64) (k)] 0 (fun pv ot => pv = .v false (.int .i64) (k + ((1 * xs.length : Nat) : Int)) ∧ ot = .root (.val false) sSt .own (mkR gTx 1 k xs.length)) := by
 rcases Nat.eq_zero_or_pos xs.length with h | h
 ·have h := List.eq_nil_of_length_eq_zero h
  subst h
  refine (VX.of_nil (args := [.root (.val false) sSt .own [], .v false (.int .i64) (k)]) (i := 0) (markStringS0 k) rfl).mono fun pv ot h => ⟨?_, h.2⟩
  rw [h.1]
  simp
 ·exact markStringS1 xs k h hl hk0 hk1
set_option maxRecDepth 40000 in
theorem heldStringS_vc (n : Nat) (k : Int) (hl : n ≤ 2000000) (hk0 : 0 < k) (hk1 : k ≤ 100000000) : VC Tryz.prog 20 [.v false sSt (mkR gTx 1 k n), .v false (.int .i64) (k)] (· = .v false (.int .i64) (k + ((1 * n : Nat) : Int))) := by
 refine VC.of_body hT Tryz.func20 rfl (by kernel_rfl) [(.tmp 4, false, .int .i64)] (by kernel_rfl) ?_
 show VW _ _ ([.v false sSt (mkR gTx 1 k n), .v false (.int .i64) (k : Int), D, D, D, D, D, D, D, D, D, D, D, D, D, D, D, D, D, D, D, D]) _
 repeat refine VW.seq ?_
 refine VW.regl hT fun K hK => ?_
 simp only [wq, simprocAttr]
 refine hK _ ?_
 clear hK K
 try refine vthen_n ?_
 repeat refine VW.seq ?_
 refine VW.regl hT fun K hK => ?_
 simp only [wq, simprocAttr]
 refine hK _ ?_
 clear hK K
 try refine vthen_n ?_
 repeat refine VW.seq ?_
 refine VW.block ?_
 refine VW.loop (α := Nat) [(0, none), (1, none), (5, none)] (fun i => [.v false sSt (mkR gTx 1 k n), .v false (.int .i64) (k + ((1 * i : Nat) : Int) : Int), D, D, D, .v false (.int .i64) (i : Int), D, D, D, D, D, D, D, D, D, D, D, D, D, D, D, D]) (fun i => i ≤ n) (fun i => n - i) ⟨0, by omega, ?_⟩ fun i hi => ?_
 ·simp only [wn, wq, simprocAttr]
  rw [Int.add_zero]
 have hml := mkR_len gTx 1 k n
 repeat refine VW.seq ?_
 refine VW.regl hT fun K hK => ?_
 simp only [wq, simprocAttr]
 refine hK _ ?_
 clear hK K
 try refine vthen_n ?_
 repeat refine VW.seq ?_
 refine VW.cond rfl (fun hc => ?_) (fun hc => ?_)
 ·have hlt : i < n := by
   have : (i : Int) < ((mkR gTx 1 k n).length : Int) := by simpa using hc
   omega
  have hg : ∀ d, (mkR gTx 1 k n).getD i d = gTx (k + ((1 * i : Nat) : Int)) := fun d => mkR_get _ _ _ hlt _
  have hidx : decide (0 ≤ (i : Int) ∧ (i : Int) < ((mkR gTx 1 k n).length : Int)) = true := decide_eq_true ⟨by omega, by omega⟩
  have hsc : 1 * (i + 1) = 1 * i + 1 := by omega
  have hcb : 1 * i ≤ 6000000 := by omega
  refine VW.skip (vthen_n ?_)
  repeat refine VW.seq ?_
  refine VW.block ?_
  generalize hN : 1 * i = N at *
  repeat refine VW.seq ?_
  refine VW.drawl hT hm (by kernel_rfl) fun K hK => ?_
  simp only [wq, simprocAttr]
  refine ⟨hidx, ?_⟩
  rw [hg]
  repeat refine ⟨by kernel_rfl, ?_⟩
  refine vcallD_of (markText_vc _ (by omega) (by omega)) ?_
  simp only [wq, simprocAttr]
  refine hK _ ?_
  clear hK K
  try refine vthen_n ?_
  repeat refine VW.seq ?_
  refine VW.cond rfl (fun hc => by cases hc) (fun hc => ?_)
  refine VW.skip ?_
  show vthen _ _ _ .normal _
  refine vthen_n ?_
  repeat refine VW.seq ?_
  refine VW.regl hT fun K hK => ?_
  simp only [wq, simprocAttr]
  refine hK _ ?_
  clear hK K
  try refine vthen_n ?_
  rw [wrap64 (by omega) (by omega)]
  show vthen _ _ _ .normal _
  refine vthen_n ?_
  repeat refine VW.seq ?_
  refine VW.regl hT fun K hK => ?_
  simp only [wq, simprocAttr]
  refine hK _ ?_
  clear hK K
  try refine vthen_n ?_
  refine ⟨i + 1, hlt, ?_, by show n - (i + 1) < n - i; omega⟩
  simp only [wn, wq, simprocAttr]
  rw [wrap64 (by omega) (by omega), hsc, show k + (N : Int) + 1 = k + ((N + 1 : Nat) : Int) by omega]
  rfl
 ·have hge : i = n := by
   have : ((mkR gTx 1 k n).length : Int) ≤ (i : Int) := by simpa using hc
   omega
  subst hge
  refine VW.exit ?_
  show vthen _ _ _ .normal _
  refine vthen_n ?_
  repeat refine VW.seq ?_
  refine VW.regl hT fun K hK => ?_
  simp only [wq, simprocAttr]
  refine hK _ ?_
  clear hK K
  try refine vthen_n ?_
  exact VW.ret ⟨.inl rfl, _, rfl, rfl⟩
end Go.Proofs.YtoeblmcibheldaaGreatDoor.V.W
end
section
namespace Go.Proofs.YtoeblmcibheldaaGreatDoor.V.W
open Go Go.RowKit
theorem fab_wf {x : Fab} (h : wfS Tryz.prog sFs x) : FabB x := by
 obtain ⟨⟨a1, _⟩, ⟨b1, _⟩, ⟨c1, _⟩, ⟨d1, _, d3⟩, ⟨f1, _⟩⟩ := h
 rw [show Tryz.prog.bytesOf 117 = 24 by kernel_rfl] at a1
 rw [show Tryz.prog.bytesOf 3 = 8 by kernel_rfl] at b1
 rw [show Tryz.prog.bytesOf 119 = 16 by kernel_rfl] at c1
 rw [show Tryz.prog.bytesOf 25 = 24 by kernel_rfl] at d1
 rw [show Tryz.prog.bytesOf 4 = 1 by kernel_rfl] at f1
 refine ⟨a1, b1, c1, d1, fun k => ?_, f1⟩
 rw [List.getD_eq_getElem?_getD]
 cases hk : x.2.2.2.1[k]? with
 | none => simp
 | some l =>
  have := (d3 l (List.mem_of_getElem? hk)).1
  rwa [show Tryz.prog.bytesOf 3 = 8 by kernel_rfl] at this
theorem fab_small {x : Fab} (h : fabSize x ≤ 1048576) : FabL x := by
 obtain ⟨t, s, b, m, g⟩ := x
 unfold fabSize at h
 have h : t.length + s.length + b.length + (m.length + tot m m.length) + g.length ≤ 1048576 := h
 refine ⟨by show t.length ≤ _; omega, by show s.length ≤ _; omega, by show b.length ≤ _; omega, by show m.length ≤ _; omega, fun k => ?_⟩
 show (m.getD k []).length ≤ _
 rcases Nat.lt_or_ge k m.length with hk | hk
 ·have h1 := tot_succ hk
  have h2 := tot_mono m (k + 1) hk
  omega
 ·rw [List.getD_eq_getElem?_getD, List.getElem?_eq_none hk]
  simp
end Go.Proofs.YtoeblmcibheldaaGreatDoor.V.W
end
section
namespace Go.Proofs.YtoeblmcibheldaaGreatDoor.V.W
open Go Go.RowKit
/-- the i-th row of marks -/
def rII (k : Int) (m : List (List Int)) (i : Nat) : List Int := mkR gIntS 1 (k + (tot m i : Nat)) (m.getD i []).length
def mkII (k : Int) (m : List (List Int)) (n : Nat) : List (List Int) := (List.range n).map (rII k m)
theorem mkII_len (k : Int) (m : List (List Int)) (n : Nat) : (mkII k m n).length = n := by simp [mkII]
def toII (k : Int) (m : List (List Int)) (i : Nat) : List (List Int) := mkII k m i ++ m.drop i
theorem toII_len (k : Int) {m : List (List Int)} {i : Nat} (h : i ≤ m.length) : (toII k m i).length = m.length := by
 simp only [toII, List.length_append, mkII_len, List.length_drop]; omega
theorem toII_set (k : Int) {m : List (List Int)} {i : Nat} (h : i < m.length) : (toII k m i).set i (rII k m i) = toII k m (i + 1) := by
 unfold toII
 rw [List.set_append_right _ _ (by rw [mkII_len]; omega), mkII_len, Nat.sub_self, List.drop_eq_getElem_cons h, List.set_cons_zero]
 simp [mkII, List.range_succ]
theorem toII_get (k : Int) {m : List (List Int)} {i : Nat} (h : i < m.length) : (toII k m i).getD i [] = m.getD i [] := by
 unfold toII
 rw [List.getD_eq_getElem?_getD, List.getElem?_append_right (by rw [mkII_len]; omega), mkII_len, Nat.sub_self, List.getElem?_drop, Nat.add_zero, ← List.getD_eq_getElem?_getD]
theorem toII_all (k : Int) {m : List (List Int)} : toII k m m.length = mkII k m m.length := by simp [toII]
theorem toII_zero (k : Int) {m : List (List Int)} : toII k m 0 = m := by simp [toII, mkII]
theorem tot_zero (m : List (List Int)) : tot m 0 = 0 := by simp [tot]
set_option maxRecDepth 40000 in
theorem markIntSS1 (m : List (List Int)) (k : Int) (h0 : 0 < m.length) (hl : m.length ≤ 2000000) (hlt : tot m m.length ≤ 2000000) (hk0 : 0 ≤ k) (hk1 : k ≤ 50000000) : VX Tryz.prog 58 [.root (.val false) sII .own m, .v false (.int .i64) (k)] 0 (fun pv ot => pv = .v false (.int .i64) (k + (tot m m.length : Nat)) ∧ ot = .root (.val false) sII .own (mkII k m m.length)) := by
 refine VX.of_rows hT Tryz.func58 rfl (by kernel_rfl) [(.tmp 4, false, .int .i64)] (by kernel_rfl) rfl rfl h0 fun l fi li e1 e2 => ?_
 obtain ⟨n, cp, rfl, rfl⟩ := io1 e1 e2
 show VW _ _ ([.root (.val false) sII (.io n cp) m, .v false (.int .i64) (k), D, D, D, D, D, D, D, D, D, D, D, D, D, D, D, D, D]) _
 repeat refine VW.seq ?_
 refine VW.regl hT fun K hK => ?_
 simp only [wq, simprocAttr]
 refine hK _ ?_
 clear hK K
 try refine vthen_n ?_
 repeat refine VW.seq ?_
 refine VW.regl hT fun K hK => ?_
 simp only [wq, simprocAttr]
 refine hK _ ?_
 clear hK K
 try refine vthen_n ?_
 repeat refine VW.seq ?_
 refine VW.block ?_
 refine VW.loop (α := Nat) [(0, none), (1, none), (5, none)] (fun i => [.root (.val false) sII (.io n cp) (toII k m i), .v false (.int .i64) (k + (tot m i : Nat)), D, D, D, .v false (.int .i64) ((i : Nat)), D, D, D, D, D, D, D, D, D, D, D, D, D]) (fun i => i ≤ m.length) (fun i => m.length - i) ⟨0, by omega, ?_⟩ fun i hi => ?_
 ·simp only [wn, wq, simprocAttr]
  rw [toII_zero, tot_zero, show k + ((0 : Nat) : Int) = k from Int.add_zero k]
  try rfl
 have hml := toII_len k hi
 repeat refine VW.seq ?_
 refine VW.regl hT fun K hK => ?_
 simp only [wq, simprocAttr]
 refine hK _ ?_
 clear hK K
 try refine vthen_n ?_
 repeat refine VW.seq ?_
 refine VW.cond rfl (fun hc => ?_) (fun hc => ?_)
 ·have hlt : i < m.length := by
   have : (i : Int) < ((toII k m i).length : Int) := by simpa using hc
   omega
  have hget := toII_get k hlt
  have hset := toII_set k hlt
  have hts := tot_succ hlt
  have htm := tot_mono m (i + 1) hlt
  refine VW.skip (vthen_n ?_)
  repeat refine VW.seq ?_
  refine VW.block ?_
  have hmark := markIntS_vx (m.getD i []) (k + (tot m i : Nat)) (by omega) (by omega) (by omega)
  repeat refine VW.seq ?_
  refine VW.regE hT 5 (fun K hK => ?_) (by decide)
  simp only [List.take_succ_cons, List.take_zero, wq, simprocAttr]
  refine ⟨decide_eq_true ⟨Int.natCast_nonneg _, by show (i : Int) < ((toII k m i).length : Int); omega⟩, ?_⟩
  refine hK _ _ _ rfl rfl (does_el (s2 := .int .i64) (fl := .io n cp) (y := rII k m i) (r := .v false (.int .i64) (k + (tot m i : Nat) + ((1 * (m.getD i []).length : Nat) : Int))) rfl rfl rfl rfl (.inr ⟨n, cp, rfl⟩) (by omega) rfl rfl rfl rfl ?_ rfl) ?_
  ·have hmark := hmark
   rw [← hget] at hmark
   rw [← hget]
   refine hmark.mono fun pv ot h => ⟨h.1, ?_⟩
   rw [h.2, rII, hget]
  simp only [List.drop_succ_cons, List.drop_zero, List.getElem_toArray, List.getElem_cons_succ, List.getElem_cons_zero, hitS, wq, simprocAttr]
  show vthen _ _ _ .normal _
  refine vthen_n ?_
  repeat refine VW.seq ?_
  refine VW.regl hT fun K hK => ?_
  simp only [wq, simprocAttr]
  refine hK _ ?_
  clear hK K
  try refine vthen_n ?_
  refine ⟨i + 1, hlt, ?_, by show m.length - (i + 1) < m.length - i; omega⟩
  simp only [wn, wq, simprocAttr]
  rw [wrap64 (by omega) (by omega), hset, show k + (tot m i : Nat) + ((1 * (m.getD i []).length : Nat) : Int) = k + (tot m (i + 1) : Nat) by omega]
  try rfl
 ·have hge : i = m.length := by
   have : ((toII k m i).length : Int) ≤ (i : Int) := by simpa using hc
   omega
  subst hge
  refine VW.exit ?_
  show vthen _ _ _ .normal _
  refine vthen_n ?_
  repeat refine VW.seq ?_
  refine VW.regl hT fun K hK => ?_
  simp only [wq, simprocAttr]
  refine hK _ ?_
  clear hK K
  try refine vthen_n ?_
  refine VW.ret ⟨.inl rfl, _, _, _, _, rfl, ⟨0, _, rfl⟩, ?_, rfl, ?_⟩
  ·show some [Value.slice (some ⟨n, 0, none⟩) (toII k m m.length).length cp] = some [Value.slice (some ⟨n, 0, none⟩) m.length cp]
   rw [hml]
  ·show PV.root (.val false) sII .own (toII k m m.length) = _
   rw [toII_all]
theorem markIntSS0 (k : Int) : VC Tryz.prog 58 [.v false sII [], .v false (.int .i64) (k)] (· = .v false (.int .i64) (k)) := by
 refine VC.of_body hT Tryz.func58 rfl (by kernel_rfl) [(.tmp 4, false, .int .i64)] (by kernel_rfl) ?_
 show VW _ _ ([.v false sII [], .v false (.int .i64) (k), D, D, D, D, D, D, D, D, D, D, D, D, D, D, D, D, D]) _
 repeat refine VW.seq ?_
 refine VW.regl hT fun K hK => ?_
 simp only [wq, simprocAttr]
 refine hK _ ?_
 clear hK K
 try refine vthen_n ?_
 repeat refine VW.seq ?_
 refine VW.regl hT fun K hK => ?_
 simp only [wq, simprocAttr]
 refine hK _ ?_
 clear hK K
 try refine vthen_n ?_
 repeat refine VW.seq ?_
 refine VW.block ?_
 refine VW.loop (α := Unit) [(0, none), (1, none), (5, none)] (fun _ => [.v false sII [], .v false (.int .i64) (k), D, D, D, .v false (.int .i64) (0), D, D, D, D, D, D, D, D, D, D, D, D, D]) (fun _ => True) (fun _ => 0) ⟨(), trivial, ?_⟩ fun _ _ => ?_
 ·simp only [wn, wq, simprocAttr]
 repeat refine VW.seq ?_
 refine VW.regl hT fun K hK => ?_
 simp only [wq, simprocAttr]
 refine hK _ ?_
 clear hK K
 try refine vthen_n ?_
 repeat refine VW.seq ?_
 refine VW.cond rfl (fun hc => ?_) (fun hc => ?_)
 ·cases hc
 ·refine VW.exit ?_
  show vthen _ _ _ .normal _
  refine vthen_n ?_
  repeat refine VW.seq ?_
  refine VW.regl hT fun K hK => ?_
  simp only [wq, simprocAttr]
  refine hK _ ?_
  clear hK K
  try refine vthen_n ?_
  exact VW.ret ⟨.inl rfl, _, rfl, rfl⟩
theorem markIntSS_vx (m : List (List Int)) (k : Int) (hl : m.length ≤ 2000000) (hlt : tot m m.length ≤ 2000000) (hk0 : 0 ≤ k) (hk1 : k ≤ 50000000) : VX Tryz.prog 58 [.root (.val false) sII .own m, .v false (.int .i64) (k)] 0 (fun pv ot => pv = .v false (.int .i64) (k + (tot m m.length : Nat)) ∧ ot = .root (.val false) sII .own (mkII k m m.length)) := by
 rcases Nat.eq_zero_or_pos m.length with h | h
 ·have h := List.eq_nil_of_length_eq_zero h
  subst h
  refine (VX.of_nil (args := [.root (.val false) sII .own [], .v false (.int .i64) (k)]) (i := 0) (markIntSS0 k) rfl).mono fun pv ot h => ⟨?_, h.2⟩
  rw [h.1]
  simp [tot]
 ·exact markIntSS1 m k h hl hlt hk0 hk1
end Go.Proofs.YtoeblmcibheldaaGreatDoor.V.W
end
section
namespace Go.Proofs.YtoeblmcibheldaaGreatDoor.V.W
open Go Go.RowKit
set_option maxRecDepth 20000 in
theorem markGuard_vx (g : List Bool) (k : Int) (h0 : 0 < g.length) (hl : g.length ≤ 2000000) (hk0 : 0 ≤ k) (hk1 : k ≤ 100000000) : VX Tryz.prog 59 [.root (.val true) sG .own g, .v false (.int .i64) (k)] 0 (fun pv ot => pv = .v false (.int .i64) (k + ((1 * g.length : Nat) : Int)) ∧ ot = .root (.val true) sG .own (mkR gBoolS 1 k g.length)) := by
 refine VX.of_rows hT Tryz.func59 rfl (by kernel_rfl) [(.tmp 4, false, .int .i64)] (by kernel_rfl) rfl rfl h0 fun l fi li e1 e2 => ?_
 obtain ⟨n, cp, rfl, rfl⟩ := io1 e1 e2
 show VW _ _ ([.root (.val true) sG (.io n cp) g, .v false (.int .i64) (k), D, D, D, D, D, D, D, D]) _
 repeat refine VW.seq ?_
 refine VW.regl hT fun K hK => ?_
 simp only [wq, simprocAttr]
 refine hK _ ?_
 clear hK K
 try refine vthen_n ?_
 repeat refine VW.seq ?_
 refine VW.regl hT fun K hK => ?_
 simp only [wq, simprocAttr]
 refine vcall_io 0 ?_
 simp only [wq, simprocAttr]
 refine vxcall_of (VX.tag1 (markBoolS_vx g k hl hk0 hk1) rfl rfl rfl (by show some [Value.slice (some ⟨n, 0, none⟩) (mkR gBoolS 1 k g.length).length cp] = _; rw [mkR_len])) ?_
 simp only [wq, simprocAttr]
 refine hK _ ?_
 clear hK K
 try refine vthen_n ?_
 repeat refine VW.seq ?_
 refine VW.regl hT fun K hK => ?_
 simp only [wq, simprocAttr]
 refine hK _ ?_
 clear hK K
 try refine vthen_n ?_
 refine VW.ret ⟨.inl rfl, _, _, _, _, rfl, ⟨2, _, rfl⟩, ?_, rfl, rfl⟩
 show some [Value.slice (some ⟨n, 0, none⟩) (mkR gBoolS 1 k g.length).length cp] = some [Value.slice (some ⟨n, 0, none⟩) g.length cp]
 rw [mkR_len]
def kA (k : Int) (x : Fab) : Int := k + ((3 * x.1.length : Nat) : Int)
def kB (k : Int) (x : Fab) : Int := kA k x + ((1 * x.2.1.length : Nat) : Int)
def kC (k : Int) (x : Fab) : Int := kB k x + ((2 * x.2.2.1.length : Nat) : Int)
def kD (k : Int) (x : Fab) : Int := kC k x + (tot x.2.2.2.1 x.2.2.2.1.length : Nat)
def kE (k : Int) (x : Fab) : Int := kD k x + ((1 * x.2.2.2.2.length : Nat) : Int)
def mkFab (k : Int) (x : Fab) : Fab := (mkR gNodeS 3 k x.1.length, mkR gIntS 1 (kA k x) x.2.1.length, mkR gBarS 2 (kB k x) x.2.2.1.length, mkII (kC k x) x.2.2.2.1 x.2.2.2.1.length, mkR gBoolS 1 (kD k x) x.2.2.2.2.length)
structure FabS (x : Fab) : Prop where
 a : x.1.length ≤ 2000000
 b : x.2.1.length ≤ 2000000
 c : x.2.2.1.length ≤ 2000000
 d : x.2.2.2.1.length ≤ 2000000
 e : tot x.2.2.2.1 x.2.2.2.1.length ≤ 2000000
 f : x.2.2.2.2.length ≤ 2000000
end Go.Proofs.YtoeblmcibheldaaGreatDoor.V.W
end
section
namespace Go.Proofs.YtoeblmcibheldaaGreatDoor.V.W
open Go Go.RowKit
theorem markGuard0 (k : Int) : VC Tryz.prog 59 [.v true sG [], .v false (.int .i64) (k)] (· = .v false (.int .i64) (k)) := by
 refine VC.of_body hT Tryz.func59 rfl (by kernel_rfl) [(.tmp 4, false, .int .i64)] (by kernel_rfl) ?_
 show VW _ _ ([.v true sG [], .v false (.int .i64) (k), D, D, D, D, D, D, D, D]) _
 repeat refine VW.seq ?_
 refine VW.regl hT fun K hK => ?_
 simp only [wq, simprocAttr]
 refine hK _ ?_
 clear hK K
 try refine vthen_n ?_
 repeat refine VW.seq ?_
 refine VW.regl hT fun K hK => ?_
 simp only [wq, simprocAttr]
 refine vcall_of (markBoolS0 k) ?_
 simp only [wq, simprocAttr]
 refine hK _ ?_
 clear hK K
 try refine vthen_n ?_
 repeat refine VW.seq ?_
 refine VW.regl hT fun K hK => ?_
 simp only [wq, simprocAttr]
 refine hK _ ?_
 clear hK K
 try refine vthen_n ?_
 exact VW.ret ⟨.inl rfl, _, rfl, rfl⟩
end Go.Proofs.YtoeblmcibheldaaGreatDoor.V.W
end
section
namespace Go.Proofs.YtoeblmcibheldaaGreatDoor.V
open Go Go.RowKit
theorem VX.of_nilA {P : Program} {f : FuncId} {args : List PV} {i : Nat} {agg : Bool} {e : TypeId} {s : Sh} {R : PV → Prop} (h : VC P f (args.set i (.v agg (.sl e s) [])) R) (ha : args[i]? = some (.root (.val agg) (.sl e s) .own [])) : VX P f args i (fun pv ot => R pv ∧ ot = .root (.val agg) (.sl e s) .own []) := by
 refine ⟨h.fn, fun Z F w vals h1 h2 h3 h4 h5 => ?_⟩
 have hi := (List.getElem?_eq_some_iff.1 ha).1
 have hil : i < vals.length := by omega
 obtain ⟨cs, ad, B, q1, q2, q3, q4⟩ := h5 _ _ ha (List.getElem?_eq_getElem hil)
 obtain ⟨m1, m2, m3⟩ := q1
 refine (h.run Z w vals h1 (by simpa using h3) (fun j pv v hp hv => ?_)).mono fun e0 w' ⟨v, pv, c1, c2, c3, c4⟩ => ?_
 ·have hpp := hp
  have hvv := hv
  by_cases hj : j = i
  ·subst hj
   rw [List.getElem?_set_self hi] at hpp
   obtain rfl := Option.some.inj hpp
   rw [List.getElem?_eq_getElem hil] at hvv
   obtain rfl := Option.some.inj hvv
   refine ⟨cs, m1, ?_⟩
   rcases id q4 with ⟨A, hA, _⟩ | ⟨g, cap, cur, rows, Bs, hA, _, k3, k4, _⟩
   ·exact ⟨A, 0, hA, Nat.le_refl _, Nat.zero_le _, fun hp => by simp at hp⟩
   ·exact ⟨_, cap, hA, k3, Nat.zero_le _, fun hp => by simp at hp⟩
  ·rw [List.getElem?_set_ne (fun h => hj h.symm)] at hpp
   exact h4 j _ _ hj hpp hvv
 ·have hO : ∀ u, vals[i]? = some u → (PV.root (.val agg) (.sl e s) .own [] : PV) = .dead ∨ GRep w' Z F (.root (.val agg) (.sl e s) .own []) u := fun u hu => by
   rw [List.getElem?_eq_getElem hil] at hu
   obtain rfl := Option.some.inj hu
   refine .inr ⟨cs, ad, B, ⟨m1, m2, m3⟩, q2, q3, ?_⟩
   exact q4.frame (fun _ h => h) (fun b hb => c2.block b (by
    rcases hb with hb | hb
    ·exact h1 b hb
    ·exact (h2 b (q2 b hb)).1))
  have hx : ExtF w w' F := ⟨c2.os, c2.tape, c2.output, c2.size, fun b hb _ => c2.block b hb⟩
  have hFw : ∀ b, F b → (F b ∨ w.heap.size ≤ b) ∧ b < w'.heap.size := fun b hb => ⟨.inl hb, Nat.lt_of_lt_of_le (h2 b hb).1 c2.size⟩
  rcases PV.root_or pv with ⟨k, s', fl, x, rfl⟩ | hpv
  ·obtain ⟨cs', ad', B', Fd, g1, g2, g3, g4, g5⟩ := c4
   refine ⟨v, _, _, Fd, F, c1, hx, ⟨c3, rfl⟩, ⟨cs', ad', B', g1, g2, g3, g4⟩, hO, fun b hb => ?_, fun b hb hF => ?_⟩
   ·rcases hb with hb | hb
    ·exact ⟨.inr (g5 b hb).1, (g5 b hb).2⟩
    ·exact hFw b hb
   ·have := (h2 b hF).1
    have := (g5 b hb).1
    omega
  ·refine ⟨v, pv, _, Free, F, c1, hx, ⟨c3, rfl⟩, ?_, hO, fun b hb => ?_, fun b hb => hb.elim⟩
   ·cases pv with
    | root => cases hpv
    | _ => exact c4
   ·rcases hb with hb | hb
    ·exact hb.elim
    ·exact hFw b hb
end Go.Proofs.YtoeblmcibheldaaGreatDoor.V
namespace Go.Proofs.YtoeblmcibheldaaGreatDoor.V.W
open Go Go.RowKit
theorem markGuardA_vx (g : List Bool) (k : Int) (hl : g.length ≤ 2000000) (hk0 : 0 ≤ k) (hk1 : k ≤ 100000000) : VX Tryz.prog 59 [.root (.val true) sG .own g, .v false (.int .i64) (k)] 0 (fun pv ot => pv = .v false (.int .i64) (k + ((1 * g.length : Nat) : Int)) ∧ ot = .root (.val true) sG .own (mkR gBoolS 1 k g.length)) := by
 rcases Nat.eq_zero_or_pos g.length with h | h
 ·have h := List.eq_nil_of_length_eq_zero h
  subst h
  refine (VX.of_nilA (args := [.root (.val true) sG .own [], .v false (.int .i64) (k)]) (i := 0) (markGuard0 k) rfl).mono fun pv ot h => ⟨?_, h.2⟩
  rw [h.1]
  simp
 ·exact markGuard_vx g k h hl hk0 hk1
end Go.Proofs.YtoeblmcibheldaaGreatDoor.V.W
end
section
namespace Go.Proofs.YtoeblmcibheldaaGreatDoor.V
open Go Go.RowKit
/-- a row's flag, its header known -/
def Tg (f : Fl) (n : Nat) (v : Value) : Prop := (∃ g c, f = .io g c ∧ v = .slice (some ⟨g, 0, none⟩) n c) ∨ ∃ A, f = .kz A 0 ∧ n = 0 ∧ v = .slice A 0 0
def TgS : (s : Sh) → Fl → s.ty → List Value → Prop
 | .pr a b, f, x, l => ∃ f1 f2 l1 l2, f = .pr f1 f2 ∧ l = l1 ++ l2 ∧ TgS a f1 x.1 l1 ∧ TgS b f2 x.2 l2
 | .sl _ s, f, xs, l => ∃ v, l = [v] ∧ Tg f (List.length (α := s.ty) xs) v
 | s, f, x, l => encI s f x = some l
def ownF : Sh → Fl
 | .pr a b => .pr (ownF a) (ownF b)
 | .sl _ _ => .own
 | _ => .fz
theorem TgS.enc : ∀ {s : Sh} {f : Fl} {x : s.ty} {l : List Value}, TgS s f x l → encI s f x = some l
 | .unit, _, _, _, h => h
 | .int _, _, _, _, h => h
 | .bool, _, _, _, h => h
 | .str, _, _, _, h => h
 | .pr a b, f, x, l, ⟨f1, f2, l1, l2, e1, e2, h1, h2⟩ => by
  subst e1; subst e2
  simp only [encI, Fl.l, Fl.r, h1.enc, h2.enc]
 | .sl e s, f, xs, l, ⟨v, e1, h⟩ => by
  subst e1
  rcases h with ⟨g, c, rfl, rfl⟩ | ⟨A, rfl, h0, rfl⟩
  ·rfl
  ·show some [Value.slice A (List.length (α := s.ty) xs) 0] = _
   rw [h0]
theorem Rep.tagE {w : World} {Z : Nat → Prop} : ∀ {s : Sh} {f : Fl} {x : s.ty} {cs : List Value} {B : Nat → Prop}, Fl.allown s f = true → Rep w Z s f x cs B → ∃ fi, TgS s fi x cs ∧ Rep w Z s fi x cs B
 | .unit, f, _, _, _, _, h => ⟨f, by have h : _ = [] := h; rw [h]; rfl, h⟩
 | .int _, f, _, _, _, _, h => ⟨f, by have h : _ = [_] := h; rw [h]; rfl, h⟩
 | .bool, f, _, _, _, _, h => ⟨f, by have h : _ = [_] := h; rw [h]; rfl, h⟩
 | .str, f, _, _, _, _, h => ⟨f, by have h : _ = [_] := h; rw [h]; rfl, h⟩
 | .pr a b, f, x, cs, B, k, ⟨c1, c2, B1, B2, h0, h1, h2, h3, h4, h5⟩ => by
  simp only [Fl.allown, Bool.and_eq_true] at k
  obtain ⟨g1, m1, m2⟩ := h4.tagE k.1
  obtain ⟨g2, m3, m4⟩ := h5.tagE k.2
  exact ⟨.pr g1 g2, ⟨g1, g2, c1, c2, rfl, h0, m1, m3⟩, c1, c2, B1, B2, h0, h1, h2, h3, m2, m4⟩
 | .sl e s, f, xs, cs, B, k, h => by
  cases f with
  | own =>
   rcases id h with ⟨A, hc, hx⟩ | ⟨g, cap, cur, rows, Bs, hc, _⟩
   ·have hx : (xs : List s.ty) = [] := hx
    subst hx
    refine ⟨.kz A 0, ⟨_, hc, .inr ⟨A, rfl, rfl, rfl⟩⟩, ⟨A, 0, hc, Nat.le_refl _, Nat.zero_le _, fun hp => by simp at hp⟩, hc⟩
   ·exact ⟨.io g cap, ⟨_, hc, .inl ⟨g, cap, rfl, rfl⟩⟩, h, hc⟩
  | _ => simp [Fl.allown] at k
theorem Rep.untagE {w : World} {Z : Nat → Prop} : ∀ {s : Sh} {f : Fl} {x : s.ty} {l cs : List Value} {B : Nat → Prop}, TgS s f x l → Rep w Z s f x cs B → Rep w Z s (ownF s) x cs B
 | .unit, _, _, _, _, _, _, h => h
 | .int _, _, _, _, _, _, _, h => h
 | .bool, _, _, _, _, _, _, h => h
 | .str, _, _, _, _, _, _, h => h
 | .pr a b, f, x, l, cs, B, ⟨f1, f2, l1, l2, e1, e2, t1, t2⟩, ⟨c1, c2, B1, B2, h0, h1, h2, h3, h4, h5⟩ => by
  subst e1
  exact ⟨c1, c2, B1, B2, h0, h1, h2, h3, h4.untagE t1, h5.untagE t2⟩
 | .sl e s, f, xs, l, cs, B, ⟨v, e1, t⟩, h => by
  rcases t with ⟨g, c, rfl, _⟩ | ⟨A, rfl, h0, _⟩
  ·exact h.1
  ·have hx : (xs : List s.ty) = [] := List.eq_nil_of_length_eq_zero h0
   subst hx
   exact .inl ⟨A, h.2, rfl⟩
theorem OutOk.valE {st2 : St} {g : Nat} {agg : Bool} {k : RK} {s : Sh} {f f' : Fl} {x x' : s.ty} {l : List Value} (h : st2.at g = .root k s f' x') (h1 : TgS s f x l) (h2 : TgS s f' x' l) : OutOk (.root (.val agg) s f x) st2 (.root (.val agg) s (ownF s) x') := by
 intro L a w' R hr w Z F v ⟨cs, ad, B, r1, r2, r3, r4⟩
 obtain ⟨q1, B', q2, q3, q4⟩ := hr.root h
 obtain rfl := r4.encI h1.enc
 have e := q4.encI h2.enc
 refine .inr ⟨g, cs, none, B', ⟨r1.1, r1.2.1, rfl⟩, q2, (fun A hA => by cases hA), ?_⟩
 rw [← e]
 exact q4.untagE h2
section
variable {P : Program} {T : List (Nat × TI)}
theorem VX.of_rowsE (hT : TabOk P T) {f : FuncId} {fn : Func} {c : Code} {args : List PV} {i : Nat} {agg : Bool} {s : Sh} {fl : Fl} {x : s.ty} {R : PV → PV → Prop} (hf : P.funcs[f]? = some fn) (hb : fn.body = some c) (hnm : (fn.name == "runtime.NumGoroutine") = false) (res : List (ResultVar × Bool × Sh)) (hres : fn.results.toList = res.map fun q => q.1)
  (hi : args[i]? = some (.root (.val agg) s fl x)) (hown : Fl.allown s fl = true)
  (h : ∀ (fi : Fl) (li : List Value), TgS s fi x li → VW P c (args.set i (.root (.val agg) s fi x) ++ List.replicate (fn.ntmps - args.length) .dead) (fun e st => (e = .ret ∨ e = .normal) ∧ ∃ pv st2 f' x', vretX T st res = some (pv, st2) ∧ (∃ g k, st2.at g = .root k s f' x') ∧ TgS s f' x' li ∧ R pv (.root (.val agg) s (ownF s) x'))) : VX P f args i R := by
 refine VX.of_body hT hf hb hnm res hres (fun l : {l : Fl × List Value // TgS s l.1 x l.2} => .root (.val agg) s l.1.1 x) (fun pvi hp w Z F v hg => ?_) (fun l => ?_) (List.getElem?_eq_some_iff.1 hi).1
 ·rw [hi] at hp
  obtain rfl := Option.some.inj hp
  obtain ⟨cs, ad, B, q1, q2, q3, q4⟩ := hg
  obtain ⟨fi, m1, m2⟩ := q4.tagE hown
  exact ⟨⟨(fi, cs), m1⟩, cs, ad, B, q1, q2, q3, m2⟩
 ·exact (h l.1.1 _ l.2).mono fun e st ⟨he, pv, st2, f', x', h1, ⟨g, k, h2⟩, h4, h5⟩ => ⟨he, pv, st2, _, h1, OutOk.valE h2 l.2 h4, h5⟩
end
end Go.Proofs.YtoeblmcibheldaaGreatDoor.V
end
section
namespace Go.Proofs.YtoeblmcibheldaaGreatDoor.V.W
open Go Go.RowKit
set_option maxRecDepth 20000 in
set_option maxHeartbeats 1000000 in
theorem markFabricE_vx (x : Fab) (k : Int) (hx : FabS x) (hk0 : 0 ≤ k) (hk1 : k ≤ 1000000) : VX Tryz.prog 18 [.root (.val true) sFi fFab x, .v false (.int .i64) (k)] 0 (fun pv ot => pv = .v false (.int .i64) (kE k x) ∧ ot = .root (.val true) sFi fFab (mkFab k x)) := by
  obtain ⟨t, s, b, m, g⟩ := x
  have ha : t.length ≤ 2000000 := hx.a
  have hb : s.length ≤ 2000000 := hx.b
  have hcc : b.length ≤ 2000000 := hx.c
  have hdd : m.length ≤ 2000000 := hx.d
  have he : tot m m.length ≤ 2000000 := hx.e
  have hf : g.length ≤ 2000000 := hx.f
  refine VX.of_rowsE hT Tryz.func18 rfl (by kernel_rfl) [(.tmp 4, false, .int .i64)] (by kernel_rfl) rfl rfl fun fi li hti => ?_
  obtain ⟨f1, F1, l1, L1, rfl, rfl, ⟨v1, rfl, t1⟩, f2, F2, l2, L2, rfl, rfl, ⟨v2, rfl, t2⟩, f3, F3, l3, L3, rfl, rfl, ⟨v3, rfl, t3⟩, f4, f5, l4, l5, rfl, rfl, ⟨v4, rfl, t4⟩, ⟨v5, rfl, t5⟩⟩ := hti
  have t1 : Tg f1 t.length v1 := t1
  have t2 : Tg f2 s.length v2 := t2
  have t3 : Tg f3 b.length v3 := t3
  have t4 : Tg f4 m.length v4 := t4
  have t5 : Tg f5 g.length v5 := t5
  show VW _ _ ([.root (.val true) sFi (.pr f1 (.pr f2 (.pr f3 (.pr f4 f5)))) (t, s, b, m, g), .v false (.int .i64) (k), D, D, D, D, D, D, D, D, D, D, D, D, D, D, D, D, D, D, D, D, D, D, D, D]) _
  have dA : kA k (t, s, b, m, g) = k + ((3 * t.length : Nat) : Int) := rfl
  have dB : kB k (t, s, b, m, g) = kA k (t, s, b, m, g) + ((1 * s.length : Nat) : Int) := rfl
  have dC : kC k (t, s, b, m, g) = kB k (t, s, b, m, g) + ((2 * b.length : Nat) : Int) := rfl
  have dD : kD k (t, s, b, m, g) = kC k (t, s, b, m, g) + (tot m m.length : Nat) := rfl
  have dE : kE k (t, s, b, m, g) = kD k (t, s, b, m, g) + ((1 * g.length : Nat) : Int) := rfl
  have hF : mkFab k (t, s, b, m, g) = (mkR gNodeS 3 k t.length, mkR gIntS 1 (kA k (t, s, b, m, g)) s.length, mkR gBarS 2 (kB k (t, s, b, m, g)) b.length, mkII (kC k (t, s, b, m, g)) m m.length, mkR gBoolS 1 (kD k (t, s, b, m, g)) g.length) := rfl
  rw [hF]
  generalize kE k (t, s, b, m, g) = qE at *
  generalize kD k (t, s, b, m, g) = qD at *
  generalize kC k (t, s, b, m, g) = qC at *
  generalize kB k (t, s, b, m, g) = qB at *
  generalize kA k (t, s, b, m, g) = qA at *
  repeat refine VW.seq ?_
  refine VW.regl hT fun K hK => ?_
  simp only [wq, simprocAttr]
  refine hK _ ?_
  clear hK K
  try refine vthen_n ?_
  all_goals rcases id t1 with ⟨n1, c1, rfl, rfl⟩ | ⟨A1, rfl, hn1, rfl⟩
  all_goals repeat refine VW.seq ?_
  all_goals refine VW.regl hT fun K hK => ?_
  all_goals simp only [wq, simprocAttr]
  all_goals first
    | (refine vcall_io 0 ?_
       simp only [wq, simprocAttr]
       refine vxcall_of (VX.tag1 (markNodeS_vx t k ha hk0 (by omega)) rfl rfl rfl ?_) ?_
       · show some [Value.slice (some ⟨n1, 0, none⟩) (List.length _) c1] = _
         rw [mkR_len]
       rw [← dA]
       simp only [wq, simprocAttr])
    | (obtain rfl := List.eq_nil_of_length_eq_zero hn1
       obtain rfl : qA = k := by simpa using dA
       refine vcall_of (markNodeS0 _) ?_
       simp only [wq, simprocAttr])
  all_goals refine hK _ ?_
  all_goals clear hK K
  all_goals try refine vthen_n ?_
  all_goals rcases id t2 with ⟨n2, c2, rfl, rfl⟩ | ⟨A2, rfl, hn2, rfl⟩
  all_goals repeat refine VW.seq ?_
  all_goals refine VW.regl hT fun K hK => ?_
  all_goals simp only [wq, simprocAttr]
  all_goals first
    | (refine vcall_io 0 ?_
       simp only [wq, simprocAttr]
       refine vxcall_of (VX.tag1 (markIntS_vx s qA hb (by omega) (by omega)) rfl rfl rfl ?_) ?_
       · show some [Value.slice (some ⟨n2, 0, none⟩) (List.length _) c2] = _
         rw [mkR_len]
       rw [← dB]
       simp only [wq, simprocAttr])
    | (obtain rfl := List.eq_nil_of_length_eq_zero hn2
       obtain rfl : qB = qA := by simpa using dB
       refine vcall_of (markIntS0 _) ?_
       simp only [wq, simprocAttr])
  all_goals refine hK _ ?_
  all_goals clear hK K
  all_goals try refine vthen_n ?_
  all_goals rcases id t3 with ⟨n3, c3, rfl, rfl⟩ | ⟨A3, rfl, hn3, rfl⟩
  all_goals repeat refine VW.seq ?_
  all_goals refine VW.regl hT fun K hK => ?_
  all_goals simp only [wq, simprocAttr]
  all_goals first
    | (refine vcall_io 0 ?_
       simp only [wq, simprocAttr]
       refine vxcall_of (VX.tag1 (markBarS_vx b qB hcc (by omega) (by omega)) rfl rfl rfl ?_) ?_
       · show some [Value.slice (some ⟨n3, 0, none⟩) (List.length _) c3] = _
         rw [mkR_len]
       rw [← dC]
       simp only [wq, simprocAttr])
    | (obtain rfl := List.eq_nil_of_length_eq_zero hn3
       obtain rfl : qC = qB := by simpa using dC
       refine vcall_of (markBarS0 _) ?_
       simp only [wq, simprocAttr])
  all_goals refine hK _ ?_
  all_goals clear hK K
  all_goals try refine vthen_n ?_
  all_goals rcases id t4 with ⟨n4, c4, rfl, rfl⟩ | ⟨A4, rfl, hn4, rfl⟩
  all_goals repeat refine VW.seq ?_
  all_goals refine VW.regl hT fun K hK => ?_
  all_goals simp only [wq, simprocAttr]
  all_goals first
    | (refine vcall_io 0 ?_
       simp only [wq, simprocAttr]
       refine vxcall_of (VX.tag1 (markIntSS_vx m qC hdd he (by omega) (by omega)) rfl rfl rfl ?_) ?_
       · show some [Value.slice (some ⟨n4, 0, none⟩) (List.length _) c4] = _
         rw [mkII_len]
       rw [← dD]
       simp only [wq, simprocAttr])
    | (obtain rfl := List.eq_nil_of_length_eq_zero hn4
       obtain rfl : qD = qC := by simpa [tot] using dD
       refine vcall_of (markIntSS0 _) ?_
       simp only [wq, simprocAttr])
  all_goals refine hK _ ?_
  all_goals clear hK K
  all_goals try refine vthen_n ?_
  all_goals rcases id t5 with ⟨n5, c5, rfl, rfl⟩ | ⟨A5, rfl, hn5, rfl⟩
  all_goals repeat refine VW.seq ?_
  all_goals refine VW.regl hT fun K hK => ?_
  all_goals simp only [wq, simprocAttr]
  all_goals first
    | (refine vcall_io 0 ?_
       simp only [wq, simprocAttr]
       refine vxcall_of (VX.tag1 (markGuardA_vx g qD hf (by omega) (by omega)) rfl rfl rfl ?_) ?_
       · show some [Value.slice (some ⟨n5, 0, none⟩) (List.length _) c5] = _
         rw [mkR_len]
       rw [← dE]
       simp only [wq, simprocAttr])
    | (obtain rfl := List.eq_nil_of_length_eq_zero hn5
       obtain rfl : qE = qD := by simpa using dE
       refine vcall_of (markGuard0 _) ?_
       simp only [wq, simprocAttr])
  all_goals refine hK _ ?_
  all_goals clear hK K
  all_goals try refine vthen_n ?_
  all_goals repeat refine VW.seq ?_
  all_goals refine VW.regl hT fun K hK => ?_
  all_goals simp only [wq, simprocAttr]
  all_goals refine hK _ ?_
  all_goals clear hK K
  all_goals try refine vthen_n ?_
  all_goals refine VW.ret ⟨.inl rfl, _, _, _, _, rfl, ⟨2, _, rfl⟩, ⟨_, _, _, _, rfl, rfl, ⟨_, rfl, ?_⟩, _, _, _, _, rfl, rfl, ⟨_, rfl, ?_⟩, _, _, _, _, rfl, rfl, ⟨_, rfl, ?_⟩, _, _, _, _, rfl, rfl, ⟨_, rfl, ?_⟩, ⟨_, rfl, ?_⟩⟩, rfl, rfl⟩
  all_goals first
    | exact .inr ⟨_, rfl, rfl, rfl⟩
    | (refine .inl ⟨_, _, rfl, ?_⟩
       show _ = Value.slice _ (List.length _) _
       first
         | rw [mkR_len]
         | rw [mkII_len])
end Go.Proofs.YtoeblmcibheldaaGreatDoor.V.W
end
section
namespace Go.Proofs.YtoeblmcibheldaaGreatDoor.V.W
open Go Go.RowKit
theorem fab_s {x : Fab} (h : fabSize x ≤ 1048576) : FabS x := by
 obtain ⟨t, s, b, m, g⟩ := x
 unfold fabSize at h
 have h : t.length + s.length + b.length + (m.length + tot m m.length) + g.length ≤ 1048576 := h
 exact ⟨by show t.length ≤ _; omega, by show s.length ≤ _; omega, by show b.length ≤ _; omega, by show m.length ≤ _; omega, by show tot m m.length ≤ _; omega, by show g.length ≤ _; omega⟩
theorem kE_pos (x : Fab) : 1 ≤ kE 1 x := by unfold kE kD kC kB kA; omega
theorem kE_le {x : Fab} (hs : FabS x) : kE 1 x ≤ 20000000 := by
 have e1 := hs.a; have e2 := hs.b; have e3 := hs.c; have e4 := hs.e; have e5 := hs.f
 unfold kE kD kC kB kA
 omega
end Go.Proofs.YtoeblmcibheldaaGreatDoor.V.W
end
section
namespace Go.Proofs.YtoeblmcibheldaaGreatDoor.V.W
open Go Go.RowKit
theorem fmtFab_len (x : Fab) : (fmtFab x).length ≤ 5 := by
 unfold fmtFab
 split
 ·exact Nat.le_refl _
 ·exact Nat.zero_le _
set_option maxRecDepth 40000 in
set_option maxHeartbeats 4000000 in
theorem law_fmtFab (x : Fab) (w0 : wfS Tryz.prog sFs x) : VC Tryz.prog 4 [.v true sFs x] (· = .v false .bool true) := by
 have hx := fab_wf w0
 refine VC.of_body hT Tryz.func4 rfl (by kernel_rfl) [(.tmp 2, false, .bool)] (by kernel_rfl) ?_
 show VW _ _ ([.v true sFs x, D, D, D, D, D, D, D, D, D, D, D, D, D, D, D, D, D, D, D, D, D, D, D, D, D, D, D, D, D, D, D, D, D, D, D, D, D, D, D, D, D, D, D, D, D, D, D, D, D, D, D, D, D, D, D, D, D, D, D, D, D, D, D, D, D, D, D, D]) _
 repeat refine VW.seq ?_
 refine VW.regl hT fun K hK => ?_
 simp only [wq, simprocAttr]
 refine hK _ ?_
 clear hK K
 try refine vthen_n ?_
 repeat refine VW.seq ?_
 refine VW.regl hT fun K hK => ?_
 simp only [wq, simprocAttr]
 refine hK _ ?_
 clear hK K
 try refine vthen_n ?_
 repeat refine VW.seq ?_
 refine VW.regl hT fun K hK => ?_
 simp only [wq, simprocAttr]
 refine vcall_ex (szFabric_vc x _ hx (by decide) (by decide)) ?_
 rintro pv ⟨n, rfl, hn1, hn2⟩
 simp only [wq, simprocAttr]
 refine hK _ ?_
 clear hK K
 try refine vthen_n ?_
 repeat refine VW.seq ?_
 refine VW.regl hT fun K hK => ?_
 simp only [wq, simprocAttr]
 refine hK _ ?_
 clear hK K
 try refine vthen_n ?_
 repeat refine VW.seq ?_
 refine VW.cond rfl (fun hc => ?_) (fun hc => ?_)
 ·repeat refine VW.seq ?_
  refine VW.regl hT fun K hK => ?_
  simp only [wq, simprocAttr]
  refine hK _ ?_
  clear hK K
  try refine vthen_n ?_
  exact VW.ret ⟨.inl rfl, _, rfl, rfl⟩
 have hn0 : ¬ (n < 0) := of_decide_eq_false hc
 have hn := hn2 (by omega)
 have hl := fab_small (x := x) (by have : ¬ (n < 0) := of_decide_eq_false hc; omega)
 have hs := fab_s (x := x) (by have : ¬ (n < 0) := of_decide_eq_false hc; omega)
 have hke := kE_pos x
 have hkb := kE_le hs
 have h1 := fmtFab_vc x hl
 have h2 := specFmtFab_vc x hl
 have h5 := fmtFab_len x
 generalize fmtFab x = G at *
 refine VW.skip (vthen_n ?_)
 repeat refine VW.seq ?_
 refine VW.regl hT fun K hK => ?_
 simp only [wq, simprocAttr]
 refine vcall_of (toFabric_vc x hx) ?_
 simp only [wq, simprocAttr]
 refine vcall_of h2 ?_
 simp only [wq, simprocAttr]
 refine hK _ ?_
 clear hK K
 try refine vthen_n ?_
 repeat refine VW.seq ?_
 refine VW.regl hT fun K hK => ?_
 simp only [wq, simprocAttr]
 refine vcall_of (toFabric_vc x hx) ?_
 simp only [wq, simprocAttr]
 refine hK _ ?_
 clear hK K
 try refine vthen_n ?_
 repeat refine VW.seq ?_
 refine VW.regl hT fun K hK => ?_
 simp only [wq, simprocAttr]
 refine vcall_of h1 ?_
 simp only [wq, simprocAttr]
 refine hK _ ?_
 clear hK K
 try refine vthen_n ?_
 repeat refine VW.seq ?_
 refine VW.regl hT fun K hK => ?_
 simp only [wq, simprocAttr]
 refine vcall_of (eqStringS_vc G (by omega)) ?_
 simp only [wq, simprocAttr]
 refine hK _ ?_
 clear hK K
 try refine vthen_n ?_
 repeat refine VW.seq ?_
 refine VW.cond rfl (fun hc => by cases hc) (fun hc => ?_)
 refine VW.skip (vthen_n ?_)
 repeat refine VW.seq ?_
 refine VW.drawl hT hm (by kernel_rfl) fun K hK => ?_
 simp only [wq, simprocAttr]
 refine ⟨by kernel_rfl, by kernel_rfl, vcallD_of (toFabric_vc x hx) ?_⟩
 simp only [wq, simprocAttr]
 refine ⟨by kernel_rfl, vcallD_of (eqFabric_vc x x hx) ?_⟩
 simp only [wq, simprocAttr]
 refine hK _ ?_
 clear hK K
 try refine vthen_n ?_
 repeat refine VW.seq ?_
 refine VW.cond rfl (fun hc => ?_) (fun hc => ?_)
 ·simp at hc
 refine VW.skip (vthen_n ?_)
 repeat refine VW.seq ?_
 refine VW.regl hT fun K hK => ?_
 simp only [wq, simprocAttr]
 refine hK _ ?_
 clear hK K
 try refine vthen_n ?_
 repeat refine VW.seq ?_
 refine VW.regl hT fun K hK => ?_
 simp only [wq, simprocAttr]
 refine vcall_mv 0 ?_
 simp only [wq, simprocAttr]
 refine vxcall_ex (markFabricE_vx x 1 hs (by decide) (by decide)) ?_
 rintro pv ot ⟨rfl, -⟩
 simp only [wq, simprocAttr]
 refine hK _ ?_
 clear hK K
 try refine vthen_n ?_
 repeat refine VW.seq ?_
 refine VW.regl hT fun K hK => ?_
 simp only [wq, simprocAttr]
 refine vbr (fun h => ?_) (fun h => ?_) <;> simp only [wq, simprocAttr]
 case refine_2 =>
  have h : kE 1 x < 0 := of_decide_eq_true h
  omega
 refine vcall_of (eqStringS_vc G (by omega)) ?_
 simp only [wq, simprocAttr]
 refine hK _ ?_
 clear hK K
 try refine vthen_n ?_
 repeat refine VW.seq ?_
 refine VW.cond rfl (fun hc => by cases hc) (fun hc => ?_)
 refine VW.skip (vthen_n ?_)
 repeat refine VW.seq ?_
 refine VW.regl hT fun K hK => ?_
 simp only [wq, simprocAttr]
 refine hK _ ?_
 clear hK K
 try refine vthen_n ?_
 repeat refine VW.seq ?_
 refine VW.regl hT fun K hK => ?_
 simp only [wq, simprocAttr]
 refine vcall_io 0 ?_
 simp only [wq, simprocAttr]
 refine vxcall_of (markStringS_vx G 1 (by omega) (by decide) (by decide)) ?_
 simp only [wq, simprocAttr]
 refine hK _ ?_
 clear hK K
 try refine vthen_n ?_
 repeat refine VW.seq ?_
 refine VW.regl hT fun K hK => ?_
 simp only [wq, simprocAttr]
 refine hK _ ?_
 clear hK K
 try refine vthen_n ?_
 repeat refine VW.seq ?_
 refine VW.regl hT fun K hK => ?_
 simp only [wq, simprocAttr]
 refine vcall_of (heldStringS_vc G.length 1 (by omega) (by decide) (by decide)) ?_
 simp only [wq, simprocAttr]
 refine hK _ ?_
 clear hK K
 try refine vthen_n ?_
 repeat refine VW.seq ?_
 refine VW.regl hT fun K hK => ?_
 simp only [wq, simprocAttr]
 refine hK _ ?_
 clear hK K
 try refine vthen_n ?_
 repeat refine VW.seq ?_
 refine VW.cond rfl (fun hc => ?_) (fun hc => ?_)
 ·have hc : 1 + ((1 * G.length : Nat) : Int) < 0 := of_decide_eq_true hc
  omega
 refine VW.skip (vthen_n ?_)
 repeat refine VW.seq ?_
 refine VW.regl hT fun K hK => ?_
 simp only [wq, simprocAttr]
 refine hK _ ?_
 clear hK K
 try refine vthen_n ?_
 repeat refine VW.seq ?_
 refine VW.cond rfl (fun hc => ?_) (fun hc => ?_)
 ·simp at hc
 refine VW.skip (vthen_n ?_)
 repeat refine VW.seq ?_
 refine VW.regl hT fun K hK => ?_
 simp only [wq, simprocAttr]
 refine vcall_of (toFabric_vc x hx) ?_
 simp only [wq, simprocAttr]
 refine vcall_of h1 ?_
 simp only [wq, simprocAttr]
 refine hK _ ?_
 clear hK K
 try refine vthen_n ?_
 repeat refine VW.seq ?_
 refine VW.regl hT fun K hK => ?_
 simp only [wq, simprocAttr]
 refine vcall_of (eqStringS_vc G (by omega)) ?_
 simp only [wq, simprocAttr]
 refine hK _ ?_
 clear hK K
 try refine vthen_n ?_
 repeat refine VW.seq ?_
 refine VW.cond rfl (fun hc => by cases hc) (fun hc => ?_)
 refine VW.skip (vthen_n ?_)
 repeat refine VW.seq ?_
 refine VW.regl hT fun K hK => ?_
 simp only [wq, simprocAttr]
 refine hK _ ?_
 clear hK K
 try refine vthen_n ?_
 repeat refine VW.seq ?_
 refine VW.regl hT fun K hK => ?_
 simp only [wq, simprocAttr]
 refine vcall_of (heldStringS_vc G.length 1 (by omega) (by decide) (by decide)) ?_
 simp only [wq, simprocAttr]
 refine hK _ ?_
 clear hK K
 try refine vthen_n ?_
 repeat refine VW.seq ?_
 refine VW.regl hT fun K hK => ?_
 simp only [wq, simprocAttr]
 refine hK _ ?_
 clear hK K
 try refine vthen_n ?_
 repeat refine VW.seq ?_
 refine VW.cond rfl (fun hc => ?_) (fun hc => ?_)
 ·have hc : 1 + ((1 * G.length : Nat) : Int) < 0 := of_decide_eq_true hc
  omega
 refine VW.skip (vthen_n ?_)
 repeat refine VW.seq ?_
 refine VW.regl hT fun K hK => ?_
 simp only [wq, simprocAttr]
 refine hK _ ?_
 clear hK K
 try refine vthen_n ?_
 repeat refine VW.seq ?_
 refine VW.cond rfl (fun hc => ?_) (fun hc => ?_)
 ·simp at hc
 refine VW.skip (vthen_n ?_)
 repeat refine VW.seq ?_
 refine VW.regl hT fun K hK => ?_
 simp only [wq, simprocAttr]
 refine hK _ ?_
 clear hK K
 try refine vthen_n ?_
 exact VW.ret ⟨.inl rfl, _, rfl, rfl⟩
end Go.Proofs.YtoeblmcibheldaaGreatDoor.V.W
namespace Go.Proofs.YtoeblmcibheldaaGreatDoor.V
open Go Go.RowKit
theorem fnExactFormatFabric_vc (x : W.Fab) (w0 : wfS Tryz.prog W.sFs x) : VC Tryz.prog 4 [.v true W.sFs x] (· = .v false .bool true) := W.law_fmtFab x w0
end Go.Proofs.YtoeblmcibheldaaGreatDoor.V
end
section
namespace Go.Proofs.YtoeblmcibheldaaGreatDoor.V
open Go Go.RowKit
theorem heap_of_var {P : Program} {W : World} {n : String} {g : Nat} {cs : Array Value} (hg : P.globalNamed n = some g) (h : W.var? P n = some cs) : ∃ x y, W.heap[g]? = some (.cells cs x y) := by
 unfold World.var? at h
 simp only [hg, Option.bind_some] at h
 split at h
 ·rename_i cs' x y e
  obtain rfl := Option.some.inj h
  exact ⟨x, y, e⟩
 ·cases h
/-- a listed variable that is an array of integers -/
theorem ints_laid {P : Program} {W : World} {nm : String} {k : IntKind} {zs : List Int} {l : List (String × DataW Unit)} {g : Nat} {t e : TypeId} {n : Nat} (h : Go.laidMet P l W) (hm : (nm, Lib.tabData k zs) ∈ l)
  (hg : P.globalNamed nm = some g) (hty : (P.globals[g]?).map (·.type) = some t) (ht : P.underlying t = some (.array n e)) (he : P.underlying e = some (.int k)) (hce : P.cellsOf e = 1) (hct : P.cellsOf t = n) : ∃ cs x y, W.heap[g]? = some (.cells cs x y) ∧ cs = (zs.map fun z => Value.int k z).toArray := by
 obtain ⟨g', t', cs, fuel, p, hg', ht', hvar, hd⟩ := Lib.laidMet.reads h hm
 obtain rfl := Option.some.inj (hg.symm.trans hg')
 obtain rfl := Option.some.inj (hty.symm.trans ht')
 obtain ⟨x, y, e1⟩ := heap_of_var hg hvar
 exact ⟨cs, x, y, e1, by rw [← Lib.cells_of_tab ht he hce hct hd]⟩
theorem gls_one {W : World} (h6 : ∃ cs x y, W.heap[3]? = some (.cells cs x y) ∧ cs = (Lib.pow10Tab.map fun z => Value.int .u64 z).toArray) : GOk (InZ W) W := .start (by
 intro p hp
 rcases List.mem_cons.1 hp with rfl | hp
 ·exact h6
 cases hp)
theorem gok_pow {W : World} {l : List (String × DataW Unit)} (h : Go.laidMet Tryz.prog l W)
  (m6 : ("internal/strconv.uint64pow10", Lib.tabData .u64 Lib.pow10Tab) ∈ l) : GOk (InZ W) W :=
 gls_one (ints_laid (n := 20) (t := 212) (e := 187) h m6 (by kernel_rfl) (by kernel_rfl) (by kernel_rfl) (by kernel_rfl) (by kernel_rfl) (by kernel_rfl))
end Go.Proofs.YtoeblmcibheldaaGreatDoor.V
end

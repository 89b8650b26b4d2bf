/- Texts P1 S5 E6 S8 in one. No condition. -/
import Derived.Test.YtmechjnfeidnkaaGreatZActParts5
set_option linter.unnecessarySimpa false
set_option linter.unusedSimpArgs false
set_option linter.unusedVariables false
section
namespace Go.Proofs.YtmechjnfeidnkaaGreat.V.W
open Go Go.RowKit
set_option maxRecDepth 20000 in
theorem drawPlaces_vc (b : List Int) (hl : b.length ≤ 1048576) : VC Tryz.prog 16 [.v false sB b] (fun pv => ∃ xs : List Int, pv = .root (.val false) sI .own xs ∧ xs.length = 12 ∧ ∀ x ∈ xs, 0 ≤ x ∧ x < 10000) := by
 refine VC.of_body hT Tryz.func16 rfl (by kernel_rfl) [(.tmp 2, false, sI)] (by kernel_rfl) ?_
 show VW _ _ ([.v false sB b, D, D, D, D, D, D, D, D, D, D, D, D, D, D, D, D, D, D]) _
 repeat refine VW.seq ?_
 refine VW.regl hT fun K hK => ?_
 simp only [wq, simprocAttr]
 refine hK _ ?_
 clear hK K
 try refine vthen_n ?_
 repeat refine VW.seq ?_
 refine VW.regl hT fun K hK => ?_
 simp only [wq, simprocAttr]
 refine vcall_ex (new_vc b hl) ?_
 rintro pv ⟨A, c, r, h, rfl⟩
 simp only [wq, simprocAttr]
 refine hK _ ?_
 clear hK K
 try refine vthen_n ?_
 repeat refine VW.seq ?_
 refine VW.regl hT fun K hK => ?_
 simp only [wq, simprocAttr]
 refine hK _ ?_
 clear hK K
 try refine vthen_n ?_
 repeat refine VW.seq ?_
 refine VW.regl hT fun K hK => ?_
 simp only [wq, simprocAttr]
 refine hK _ ?_
 clear hK K
 try refine vthen_n ?_
 repeat refine VW.seq ?_
 refine VW.block ?_
 refine VW.loop (α := List Int × Int × Int × Fl) [(3, none), (4, some (3, .int .i64)), (5, none)] (fun q => [D, D, D, .root bC sC (.pr (.kz A c) q.2.2.2) (b, q.2.1, q.2.2.1), .root (.val false) sI .own q.1, .v false (.int .i64) (q.1.length), D, D, D, D, D, D, D, D, D, D, D, D, D]) (fun q => q.1.length ≤ 12 ∧ 0 ≤ q.2.1 ∧ ∀ x ∈ q.1, 0 ≤ x ∧ x < 10000) (fun q => 12 - q.1.length) ⟨([], 0, h, r), ⟨by simp, Int.le_refl _, by simp⟩, ?_⟩ fun q hq => ?_
 ·simp only [wn, wq, simprocAttr]
  try rfl
 obtain ⟨xs, i, h, r⟩ := q
 obtain ⟨hk, hi, hx⟩ := hq
 simp only at hk hi hx ⊢
 repeat refine VW.seq ?_
 refine VW.regl hT fun K hK => ?_
 simp only [wq, simprocAttr]
 refine hK _ ?_
 clear hK K
 try refine vthen_n ?_
 repeat refine VW.seq ?_
 refine VW.cond rfl (fun hc => ?_) (fun hc => ?_)
 ·have hlt : xs.length < 12 := by
   have : (xs.length : Int) < 12 := of_decide_eq_true hc
   omega
  refine VW.skip (vthen_n ?_)
  repeat refine VW.seq ?_
  refine VW.block ?_
  repeat refine VW.seq ?_
  refine VW.regl hT fun K hK => ?_
  simp only [wq, simprocAttr]
  refine vcall_io 0 ?_
  simp only [wq, simprocAttr]
  refine vxcall_ex (below_vx A c r b i h 10000 hi hl (by omega)) ?_
  rintro pv ot ⟨m1, i1, h1, r1, rfl, ha1, hb1, hi1, rfl⟩
  simp only [wq, simprocAttr]
  refine ⟨by simp [limOk]; omega, ?_⟩
  refine hK _ ?_
  clear hK K
  try refine vthen_n ?_
  repeat refine VW.seq ?_
  refine VW.regl hT fun K hK => ?_
  simp only [wq, simprocAttr]
  refine hK _ ?_
  clear hK K
  try refine vthen_n ?_
  refine ⟨(xs ++ [m1], i1, h1, r1), ⟨by show (xs ++ [m1]).length ≤ 12; simp; omega, hi1, fun x hx' => ?_⟩, ?_, by show 12 - (xs ++ [m1]).length < 12 - xs.length; simp; omega⟩
  ·rcases List.mem_append.1 hx' with h2 | h2
   ·exact hx x h2
   ·obtain rfl : x = m1 := by simpa using h2
    exact ⟨ha1, hb1⟩
  ·simp only [wn, wq, simprocAttr]
   rw [wrap64 (by omega) (by omega), show (xs.length : Int) + 1 = (((xs ++ [m1]).length : Nat) : Int) by simp]
 ·have hge : xs.length = 12 := by
   have : ¬ (xs.length : Int) < 12 := of_decide_eq_false hc
   omega
  refine VW.exit ?_
  show vthen _ _ _ .normal _
  refine vthen_n ?_
  repeat refine VW.seq ?_
  refine VW.regl hT fun K hK => ?_
  simp only [wq, simprocAttr]
  refine hK _ ?_
  clear hK K
  try refine vthen_n ?_
  exact VW.ret ⟨.inl rfl, _, rfl, xs, rfl, hge, hx⟩
end Go.Proofs.YtmechjnfeidnkaaGreat.V.W
end
section
namespace Go.Proofs.YtmechjnfeidnkaaGreat.V.W
open Go Go.RowKit
set_option maxRecDepth 20000 in
theorem libNodeEq_vc (xs ys : List (Int × Int × Int)) (hl : xs.length * 24 ≤ 140737488351232) : VC Tryz.prog 68 [.v false (.sl 102 sN) xs, .v false (.sl 102 sN) ys] (· = .v false .bool (decide (xs = ys))) := by
 refine VC.of_body hT Tryz.func68 rfl (by kernel_rfl) [(.tmp 4, false, .bool)] (by kernel_rfl) ?_
 show VW _ _ ([.v false (.sl 102 sN) xs, .v false (.sl 102 sN) ys, D, D, D, D, D, D, D, D, D, D, D, D, D, D, D, D, D, D, D, D, D, D, D, D]) _
 repeat refine VW.seq ?_
 refine VW.regl hT fun K hK => ?_
 simp only [wq, simprocAttr]
 refine hK _ ?_
 clear hK K
 try refine vthen_n ?_
 repeat refine VW.seq ?_
 refine VW.regl hT fun K hK => ?_
 simp only [wq, simprocAttr]
 refine hK _ ?_
 clear hK K
 try refine vthen_n ?_
 repeat refine VW.seq ?_
 refine VW.cond rfl (fun hc => ?_) (fun hc => ?_)
 ·repeat refine VW.seq ?_
  refine VW.regl hT fun K hK => ?_
  simp only [wq, simprocAttr]
  refine hK _ ?_
  clear hK K
  try refine vthen_n ?_
  refine VW.ret ⟨.inl rfl, _, rfl, ?_⟩
  have : xs ≠ ys := fun e => by subst e; simp at hc
  simp [this]
 have hlen : xs.length = ys.length := by simp at hc; omega
 refine VW.skip (vthen_n ?_)
 repeat refine VW.seq ?_
 refine VW.regl hT fun K hK => ?_
 simp only [wq, simprocAttr]
 refine hK _ ?_
 clear hK K
 try refine vthen_n ?_
 repeat refine VW.seq ?_
 refine VW.block ?_
 refine VW.loop (α := Nat) [(0, none), (1, none), (12, none), (13, none)] (fun i => [.v false (.sl 102 sN) xs, .v false (.sl 102 sN) ys, D, D, D, D, D, D, D, D, D, D, .v false (.int .i64) (xs.length : Int), .v false (.int .i64) (i : Int), D, D, D, D, D, D, D, D, D, D, D, D]) (fun i => i ≤ xs.length ∧ ∀ k, k < i → xs.getD k (0, 0, 0) = ys.getD k (0, 0, 0)) (fun i => xs.length - i) ⟨0, ⟨by omega, fun k hk => by omega⟩, ?_⟩ fun i ⟨hi, hk⟩ => ?_
 ·simp only [wn, wq, simprocAttr]
  try rfl
 repeat refine VW.seq ?_
 refine VW.regl hT fun K hK => ?_
 simp only [wq, simprocAttr]
 refine hK _ ?_
 clear hK K
 try refine vthen_n ?_
 repeat refine VW.seq ?_
 refine VW.cond rfl (fun hc => ?_) (fun hc => ?_)
 ·have hlt : i < xs.length := by simpa using hc
  refine VW.skip (vthen_n ?_)
  repeat refine VW.seq ?_
  refine VW.block ?_
  repeat refine VW.seq ?_
  refine VW.regl hT fun K hK => ?_
  simp only [wq, simprocAttr]
  refine hK _ ?_
  clear hK K
  try refine vthen_n ?_
  repeat refine VW.seq ?_
  refine VW.drawl hT hm (by kernel_rfl) fun K hK => ?_
  simp only [wq, simprocAttr]
  refine ⟨by simp; omega, by simp; omega, ?_⟩
  refine hK _ ?_
  clear hK K
  try refine vthen_n ?_
  repeat refine VW.seq ?_
  refine VW.cond rfl (fun hc => ?_) (fun hc => ?_)
  ·repeat refine VW.seq ?_
   refine VW.regl hT fun K hK => ?_
   simp only [wq, simprocAttr]
   refine hK _ ?_
   clear hK K
   try refine vthen_n ?_
   refine VW.ret ⟨.inl rfl, _, rfl, ?_⟩
   have : xs ≠ ys := fun e => by subst e; simp [eqv] at hc
   simp [this]
  ·have hxy : xs.getD i (0, 0, 0) = ys.getD i (0, 0, 0) := by
    have hc2 := hc
    rw [Bool.not_eq_false'] at hc2
    exact (eqv_eq rfl).1 hc2
   refine VW.skip ?_
   show vthen _ _ _ .normal _
   refine vthen_n ?_
   repeat refine VW.seq ?_
   refine VW.regl hT fun K hK => ?_
   simp only [wq, simprocAttr]
   refine hK _ ?_
   clear hK K
   try refine vthen_n ?_
   refine ⟨i + 1, ⟨hlt, fun k h => ?_⟩, ?_, by show xs.length - (i + 1) < xs.length - i; omega⟩
   ·rcases Nat.lt_or_ge k i with h1 | h1
    ·exact hk k h1
    ·obtain rfl : k = i := by omega
     exact hxy
   ·simp only [wn, wq, simprocAttr]
    rw [wrap64 (by omega) (by omega)]
    rfl
 ·have hc : xs.length ≤ i := by simpa using hc
  refine VW.exit ?_
  show vthen _ _ _ .normal _
  refine vthen_n ?_
  repeat refine VW.seq ?_
  refine VW.regl hT fun K hK => ?_
  simp only [wq, simprocAttr]
  refine hK _ ?_
  clear hK K
  try refine vthen_n ?_
  refine VW.ret ⟨.inl rfl, _, rfl, ?_⟩
  rw [row_eq (0, 0, 0) hlen fun k h => hk k (by omega)]
  simp
theorem sameTree_vc (t u : List Nd) (hl : t.length * 24 ≤ 140737488351232) : VC Tryz.prog 26 [.v false sNS t, .v false sNS u] (· = .v false .bool (decide (t = u))) := by
 refine VC.of_body hT Tryz.func26 rfl (by kernel_rfl) [(.tmp 4, false, .bool)] (by kernel_rfl) ?_
 show VW _ _ ([.v false sNS t, .v false sNS u, D, D, D, D, D, D]) _
 repeat refine VW.seq ?_
 refine VW.regl hT fun K hK => ?_
 simp only [wq, simprocAttr]
 refine hK _ ?_
 clear hK K
 try refine vthen_n ?_
 repeat refine VW.seq ?_
 refine VW.regl hT fun K hK => ?_
 simp only [wq, simprocAttr]
 refine vcall_of (libNodeEq_vc t u hl) ?_
 simp only [wq, simprocAttr]
 refine hK _ ?_
 clear hK K
 try refine vthen_n ?_
 exact VW.ret ⟨.inl rfl, _, rfl, rfl⟩
set_option maxRecDepth 20000 in
theorem libIntEq_vc (xs ys : List (Int)) (hl : xs.length * 8 ≤ 140737488351232) : VC Tryz.prog 61 [.v false (.sl 3 (.int .i64)) xs, .v false (.sl 3 (.int .i64)) ys] (· = .v false .bool (decide (xs = ys))) := by
 refine VC.of_body hT Tryz.func61 rfl (by kernel_rfl) [(.tmp 4, false, .bool)] (by kernel_rfl) ?_
 show VW _ _ ([.v false (.sl 3 (.int .i64)) xs, .v false (.sl 3 (.int .i64)) ys, D, D, D, D, D, D, D, D, D, D, D, D, D, D, D, D, D, D, D, D, D, D, D, D]) _
 repeat refine VW.seq ?_
 refine VW.regl hT fun K hK => ?_
 simp only [wq, simprocAttr]
 refine hK _ ?_
 clear hK K
 try refine vthen_n ?_
 repeat refine VW.seq ?_
 refine VW.regl hT fun K hK => ?_
 simp only [wq, simprocAttr]
 refine hK _ ?_
 clear hK K
 try refine vthen_n ?_
 repeat refine VW.seq ?_
 refine VW.cond rfl (fun hc => ?_) (fun hc => ?_)
 ·repeat refine VW.seq ?_
  refine VW.regl hT fun K hK => ?_
  simp only [wq, simprocAttr]
  refine hK _ ?_
  clear hK K
  try refine vthen_n ?_
  refine VW.ret ⟨.inl rfl, _, rfl, ?_⟩
  have : xs ≠ ys := fun e => by subst e; simp at hc
  simp [this]
 have hlen : xs.length = ys.length := by simp at hc; omega
 refine VW.skip (vthen_n ?_)
 repeat refine VW.seq ?_
 refine VW.regl hT fun K hK => ?_
 simp only [wq, simprocAttr]
 refine hK _ ?_
 clear hK K
 try refine vthen_n ?_
 repeat refine VW.seq ?_
 refine VW.block ?_
 refine VW.loop (α := Nat) [(0, none), (1, none), (12, none), (13, none)] (fun i => [.v false (.sl 3 (.int .i64)) xs, .v false (.sl 3 (.int .i64)) ys, D, D, D, D, D, D, D, D, D, D, .v false (.int .i64) (xs.length : Int), .v false (.int .i64) (i : Int), D, D, D, D, D, D, D, D, D, D, D, D]) (fun i => i ≤ xs.length ∧ ∀ k, k < i → xs.getD k 0 = ys.getD k 0) (fun i => xs.length - i) ⟨0, ⟨by omega, fun k hk => by omega⟩, ?_⟩ fun i ⟨hi, hk⟩ => ?_
 ·simp only [wn, wq, simprocAttr]
  try rfl
 repeat refine VW.seq ?_
 refine VW.regl hT fun K hK => ?_
 simp only [wq, simprocAttr]
 refine hK _ ?_
 clear hK K
 try refine vthen_n ?_
 repeat refine VW.seq ?_
 refine VW.cond rfl (fun hc => ?_) (fun hc => ?_)
 ·have hlt : i < xs.length := by simpa using hc
  refine VW.skip (vthen_n ?_)
  repeat refine VW.seq ?_
  refine VW.block ?_
  repeat refine VW.seq ?_
  refine VW.regl hT fun K hK => ?_
  simp only [wq, simprocAttr]
  refine hK _ ?_
  clear hK K
  try refine vthen_n ?_
  repeat refine VW.seq ?_
  refine VW.drawl hT hm (by kernel_rfl) fun K hK => ?_
  simp only [wq, simprocAttr]
  refine ⟨by simp; omega, by simp; omega, ?_⟩
  refine hK _ ?_
  clear hK K
  try refine vthen_n ?_
  repeat refine VW.seq ?_
  refine VW.cond rfl (fun hc => ?_) (fun hc => ?_)
  ·repeat refine VW.seq ?_
   refine VW.regl hT fun K hK => ?_
   simp only [wq, simprocAttr]
   refine hK _ ?_
   clear hK K
   try refine vthen_n ?_
   refine VW.ret ⟨.inl rfl, _, rfl, ?_⟩
   have : xs ≠ ys := fun e => by subst e; simp [eqv] at hc
   simp [this]
  ·have hxy : xs.getD i 0 = ys.getD i 0 := by
    have hc2 := hc
    rw [Bool.not_eq_false'] at hc2
    exact eq_of_beq hc2
   refine VW.skip ?_
   show vthen _ _ _ .normal _
   refine vthen_n ?_
   repeat refine VW.seq ?_
   refine VW.regl hT fun K hK => ?_
   simp only [wq, simprocAttr]
   refine hK _ ?_
   clear hK K
   try refine vthen_n ?_
   refine ⟨i + 1, ⟨hlt, fun k h => ?_⟩, ?_, by show xs.length - (i + 1) < xs.length - i; omega⟩
   ·rcases Nat.lt_or_ge k i with h1 | h1
    ·exact hk k h1
    ·obtain rfl : k = i := by omega
     exact hxy
   ·simp only [wn, wq, simprocAttr]
    rw [wrap64 (by omega) (by omega)]
    rfl
 ·have hc : xs.length ≤ i := by simpa using hc
  refine VW.exit ?_
  show vthen _ _ _ .normal _
  refine vthen_n ?_
  repeat refine VW.seq ?_
  refine VW.regl hT fun K hK => ?_
  simp only [wq, simprocAttr]
  refine hK _ ?_
  clear hK K
  try refine vthen_n ?_
  refine VW.ret ⟨.inl rfl, _, rfl, ?_⟩
  rw [row_eq 0 hlen fun k h => hk k (by omega)]
  simp
set_option maxRecDepth 20000 in
theorem libBoolEq_vc (xs ys : List (Bool)) (hl : xs.length * 1 ≤ 140737488351232) : VC Tryz.prog 64 [.v false (.sl 4 .bool) xs, .v false (.sl 4 .bool) ys] (· = .v false .bool (decide (xs = ys))) := by
 refine VC.of_body hT Tryz.func64 rfl (by kernel_rfl) [(.tmp 4, false, .bool)] (by kernel_rfl) ?_
 show VW _ _ ([.v false (.sl 4 .bool) xs, .v false (.sl 4 .bool) ys, D, D, D, D, D, D, D, D, D, D, D, D, D, D, D, D, D, D, D, D, D, D, D, D]) _
 repeat refine VW.seq ?_
 refine VW.regl hT fun K hK => ?_
 simp only [wq, simprocAttr]
 refine hK _ ?_
 clear hK K
 try refine vthen_n ?_
 repeat refine VW.seq ?_
 refine VW.regl hT fun K hK => ?_
 simp only [wq, simprocAttr]
 refine hK _ ?_
 clear hK K
 try refine vthen_n ?_
 repeat refine VW.seq ?_
 refine VW.cond rfl (fun hc => ?_) (fun hc => ?_)
 ·repeat refine VW.seq ?_
  refine VW.regl hT fun K hK => ?_
  simp only [wq, simprocAttr]
  refine hK _ ?_
  clear hK K
  try refine vthen_n ?_
  refine VW.ret ⟨.inl rfl, _, rfl, ?_⟩
  have : xs ≠ ys := fun e => by subst e; simp at hc
  simp [this]
 have hlen : xs.length = ys.length := by simp at hc; omega
 refine VW.skip (vthen_n ?_)
 repeat refine VW.seq ?_
 refine VW.regl hT fun K hK => ?_
 simp only [wq, simprocAttr]
 refine hK _ ?_
 clear hK K
 try refine vthen_n ?_
 repeat refine VW.seq ?_
 refine VW.block ?_
 refine VW.loop (α := Nat) [(0, none), (1, none), (12, none), (13, none)] (fun i => [.v false (.sl 4 .bool) xs, .v false (.sl 4 .bool) ys, D, D, D, D, D, D, D, D, D, D, .v false (.int .i64) (xs.length : Int), .v false (.int .i64) (i : Int), D, D, D, D, D, D, D, D, D, D, D, D]) (fun i => i ≤ xs.length ∧ ∀ k, k < i → xs.getD k false = ys.getD k false) (fun i => xs.length - i) ⟨0, ⟨by omega, fun k hk => by omega⟩, ?_⟩ fun i ⟨hi, hk⟩ => ?_
 ·simp only [wn, wq, simprocAttr]
  try rfl
 repeat refine VW.seq ?_
 refine VW.regl hT fun K hK => ?_
 simp only [wq, simprocAttr]
 refine hK _ ?_
 clear hK K
 try refine vthen_n ?_
 repeat refine VW.seq ?_
 refine VW.cond rfl (fun hc => ?_) (fun hc => ?_)
 ·have hlt : i < xs.length := by simpa using hc
  refine VW.skip (vthen_n ?_)
  repeat refine VW.seq ?_
  refine VW.block ?_
  repeat refine VW.seq ?_
  refine VW.regl hT fun K hK => ?_
  simp only [wq, simprocAttr]
  refine hK _ ?_
  clear hK K
  try refine vthen_n ?_
  repeat refine VW.seq ?_
  refine VW.drawl hT hm (by kernel_rfl) fun K hK => ?_
  simp only [wq, simprocAttr]
  refine ⟨by simp; omega, by simp; omega, ?_⟩
  refine hK _ ?_
  clear hK K
  try refine vthen_n ?_
  repeat refine VW.seq ?_
  refine VW.cond rfl (fun hc => ?_) (fun hc => ?_)
  ·repeat refine VW.seq ?_
   refine VW.regl hT fun K hK => ?_
   simp only [wq, simprocAttr]
   refine hK _ ?_
   clear hK K
   try refine vthen_n ?_
   refine VW.ret ⟨.inl rfl, _, rfl, ?_⟩
   have : xs ≠ ys := fun e => by subst e; simp [eqv] at hc
   simp [this]
  ·have hxy : xs.getD i false = ys.getD i false := by
    have hc2 := hc
    rw [Bool.not_eq_false'] at hc2
    exact (eqv_eq rfl).1 hc2
   refine VW.skip ?_
   show vthen _ _ _ .normal _
   refine vthen_n ?_
   repeat refine VW.seq ?_
   refine VW.regl hT fun K hK => ?_
   simp only [wq, simprocAttr]
   refine hK _ ?_
   clear hK K
   try refine vthen_n ?_
   refine ⟨i + 1, ⟨hlt, fun k h => ?_⟩, ?_, by show xs.length - (i + 1) < xs.length - i; omega⟩
   ·rcases Nat.lt_or_ge k i with h1 | h1
    ·exact hk k h1
    ·obtain rfl : k = i := by omega
     exact hxy
   ·simp only [wn, wq, simprocAttr]
    rw [wrap64 (by omega) (by omega)]
    rfl
 ·have hc : xs.length ≤ i := by simpa using hc
  refine VW.exit ?_
  show vthen _ _ _ .normal _
  refine vthen_n ?_
  repeat refine VW.seq ?_
  refine VW.regl hT fun K hK => ?_
  simp only [wq, simprocAttr]
  refine hK _ ?_
  clear hK K
  try refine vthen_n ?_
  refine VW.ret ⟨.inl rfl, _, rfl, ?_⟩
  rw [row_eq false hlen fun k h => hk k (by omega)]
  simp
theorem sameRow_vc (xs ys : List Int) (hl : xs.length * 8 ≤ 140737488351232) : VC Tryz.prog 63 [.v false sI xs, .v false sI ys] (· = .v false .bool (decide (xs = ys))) := by
 refine VC.of_body hT Tryz.func63 rfl (by kernel_rfl) [(.tmp 4, false, .bool)] (by kernel_rfl) ?_
 show VW _ _ ([.v false sI xs, .v false sI ys, D, D, D, D, D, D]) _
 repeat refine VW.seq ?_
 refine VW.regl hT fun K hK => ?_
 simp only [wq, simprocAttr]
 refine hK _ ?_
 clear hK K
 try refine vthen_n ?_
 repeat refine VW.seq ?_
 refine VW.regl hT fun K hK => ?_
 simp only [wq, simprocAttr]
 refine vcall_of (libIntEq_vc xs ys hl) ?_
 simp only [wq, simprocAttr]
 refine hK _ ?_
 clear hK K
 try refine vthen_n ?_
 exact VW.ret ⟨.inl rfl, _, rfl, rfl⟩
theorem fab_key (x y : Fab) : decide (x = y) = (decide (x.1 = y.1) && (decide (x.2.1 = y.2.1) && (decide (x.2.2.1 = y.2.2.1) && (decide (x.2.2.2.1 = y.2.2.2.1) && decide (x.2.2.2.2 = y.2.2.2.2))))) := by
 rw [Bool.eq_iff_iff]
 simp [Prod.ext_iff]
set_option maxRecDepth 20000 in
theorem eqFun_vc (xs ys : List (List Int)) (hl : xs.length * 24 ≤ 140737488351232) (hin : ∀ k, (xs.getD k []).length * 8 ≤ 140737488351232) : VC Tryz.prog 62 [.v false sII xs, .v false sII ys, .fn 63 []] (· = .v false .bool (decide (xs = ys))) := by
 refine VC.of_body hT Tryz.func62 rfl (by kernel_rfl) [(.tmp 6, false, .bool)] (by kernel_rfl) ?_
 show VW _ _ ([.v false sII xs, .v false sII ys, .fn 63 [], D, D, D, D, D, D, D, D, D, D, D, D, D, D, D, D, D, D, D, D, D, D, D, D, D, D, D, D, D]) _
 repeat refine VW.seq ?_
 refine VW.regl hT fun K hK => ?_
 simp only [wq, simprocAttr]
 refine hK _ ?_
 clear hK K
 try refine vthen_n ?_
 repeat refine VW.seq ?_
 refine VW.regl hT fun K hK => ?_
 simp only [wq, simprocAttr]
 refine hK _ ?_
 clear hK K
 try refine vthen_n ?_
 repeat refine VW.seq ?_
 refine VW.cond rfl (fun hc => ?_) (fun hc => ?_)
 ·repeat refine VW.seq ?_
  refine VW.regl hT fun K hK => ?_
  simp only [wq, simprocAttr]
  refine hK _ ?_
  clear hK K
  try refine vthen_n ?_
  refine VW.ret ⟨.inl rfl, _, rfl, ?_⟩
  have : xs ≠ ys := fun e => by subst e; simp at hc
  simp [this]
 have hlen : xs.length = ys.length := by simp at hc; omega
 refine VW.skip (vthen_n ?_)
 repeat refine VW.seq ?_
 refine VW.regl hT fun K hK => ?_
 simp only [wq, simprocAttr]
 refine hK _ ?_
 clear hK K
 try refine vthen_n ?_
 repeat refine VW.seq ?_
 refine VW.block ?_
 refine VW.loop (α := Nat) [(0, none), (1, none), (2, none), (15, none), (16, none), (17, none)] (fun i => [.v false sII xs, .v false sII ys, .fn 63 [], D, D, D, D, D, D, D, D, D, D, D, D, .v false sII xs, .v false (.int .i64) (xs.length : Int), .v false (.int .i64) (i : Int), D, D, D, D, D, D, D, D, D, D, D, D, D, D]) (fun i => i ≤ xs.length ∧ ∀ k, k < i → xs.getD k [] = ys.getD k []) (fun i => xs.length - i) ⟨0, ⟨by omega, fun k hk => by omega⟩, ?_⟩ fun i ⟨hi, hk⟩ => ?_
 ·simp only [List.any_nil, wn, wq, simprocAttr]
  try rfl
 repeat refine VW.seq ?_
 refine VW.regl hT fun K hK => ?_
 simp only [wq, simprocAttr]
 refine hK _ ?_
 clear hK K
 try refine vthen_n ?_
 repeat refine VW.seq ?_
 refine VW.cond rfl (fun hc => ?_) (fun hc => ?_)
 ·have hlt : i < xs.length := by simpa using hc
  refine VW.skip (vthen_n ?_)
  repeat refine VW.seq ?_
  refine VW.block ?_
  repeat refine VW.seq ?_
  refine VW.regl hT fun K hK => ?_
  simp only [wq, simprocAttr]
  refine ⟨by simp; omega, ?_⟩
  refine hK _ ?_
  clear hK K
  try refine vthen_n ?_
  repeat refine VW.seq ?_
  refine VW.regl hT fun K hK => ?_
  simp only [wq, simprocAttr]
  refine ⟨by simp; omega, ?_⟩
  refine hK _ ?_
  clear hK K
  try refine vthen_n ?_
  repeat refine VW.seq ?_
  refine VW.regl hT fun K hK => ?_
  simp only [wq, simprocAttr]
  refine vcall_of (sameRow_vc _ _ (hin i)) ?_
  simp only [wq, simprocAttr]
  refine hK _ ?_
  clear hK K
  try refine vthen_n ?_
  repeat refine VW.seq ?_
  refine VW.cond rfl (fun hc => ?_) (fun hc => ?_)
  ·repeat refine VW.seq ?_
   refine VW.regl hT fun K hK => ?_
   simp only [wq, simprocAttr]
   refine hK _ ?_
   clear hK K
   try refine vthen_n ?_
   refine VW.ret ⟨.inl rfl, _, rfl, ?_⟩
   have : xs ≠ ys := fun e => by subst e; simp at hc
   simp [this]
  ·have hxy : xs.getD i [] = ys.getD i [] := by
    have hc2 := hc
    rw [Bool.not_eq_false'] at hc2
    exact of_decide_eq_true hc2
   refine VW.skip ?_
   show vthen _ _ _ .normal _
   refine vthen_n ?_
   repeat refine VW.seq ?_
   refine VW.regl hT fun K hK => ?_
   simp only [wq, simprocAttr]
   refine hK _ ?_
   clear hK K
   try refine vthen_n ?_
   refine ⟨i + 1, ⟨hlt, fun k h => ?_⟩, ?_, by show xs.length - (i + 1) < xs.length - i; omega⟩
   ·rcases Nat.lt_or_ge k i with h1 | h1
    ·exact hk k h1
    ·obtain rfl : k = i := by omega
     exact hxy
   ·simp only [List.any_nil, wn, wq, simprocAttr]
    rw [wrap64 (by omega) (by omega)]
    rfl
 ·have hc : xs.length ≤ i := by simpa using hc
  refine VW.exit ?_
  show vthen _ _ _ .normal _
  refine vthen_n ?_
  repeat refine VW.seq ?_
  refine VW.regl hT fun K hK => ?_
  simp only [wq, simprocAttr]
  refine hK _ ?_
  clear hK K
  try refine vthen_n ?_
  refine VW.ret ⟨.inl rfl, _, rfl, ?_⟩
  rw [row_eq [] hlen fun k h => hk k (by omega)]
  simp
set_option maxRecDepth 20000 in
theorem sameFabric_vc (x y : Fab) (hx : FabB x) : VC Tryz.prog 20 [.v true sFi x, .v true sFi y] (· = .v false .bool (decide (x = y))) := by
 refine VC.of_body hT Tryz.func20 rfl (by kernel_rfl) [(.tmp 4, false, .bool)] (by kernel_rfl) ?_
 show VW _ _ ([.v true sFi x, .v true sFi y, D, D, D, D, D, D, D, D, D, D, D, D, D, D, D, D, D, D, D, D, D, D, D, D, D, D, D, D, D, D, D, D, D, D, D, D, D, D]) _
 repeat refine VW.seq ?_
 refine VW.regl hT fun K hK => ?_
 simp only [wq, simprocAttr]
 refine hK _ ?_
 clear hK K
 try refine vthen_n ?_
 repeat refine VW.seq ?_
 refine VW.regl hT fun K hK => ?_
 simp only [wq, simprocAttr]
 refine vcall_of (sameTree_vc _ _ hx.a) ?_
 simp only [wq, simprocAttr]
 refine vbr (fun h => ?_) (fun h => ?_) <;> simp only [wq, simprocAttr]
 ·skip
  refine vcall_of (libIntEq_vc _ _ hx.b) ?_
  simp only [wq, simprocAttr]
  refine vbr (fun h => ?_) (fun h => ?_) <;> simp only [wq, simprocAttr]
  ·skip
   refine vcall_of (libBarEq_vc _ _ hx.c) ?_
   simp only [wq, simprocAttr]
   refine vbr (fun h => ?_) (fun h => ?_) <;> simp only [wq, simprocAttr]
   ·skip
    refine vcall_of (eqFun_vc _ _ hx.d hx.e) ?_
    simp only [wq, simprocAttr]
    refine vbr (fun h => ?_) (fun h => ?_) <;> simp only [wq, simprocAttr]
    ·skip
     refine vcall_of (libBoolEq_vc _ _ hx.f) ?_
     simp only [wq, simprocAttr]
     refine hK _ ?_
     clear hK K
     try refine vthen_n ?_
     refine VW.ret ⟨.inl rfl, _, rfl, ?_⟩
     rw [fab_key]; simp_all
    ·refine hK _ ?_
     clear hK K
     try refine vthen_n ?_
     refine VW.ret ⟨.inl rfl, _, rfl, ?_⟩
     rw [fab_key]; simp_all
   ·refine hK _ ?_
    clear hK K
    try refine vthen_n ?_
    refine VW.ret ⟨.inl rfl, _, rfl, ?_⟩
    rw [fab_key]; simp_all
  ·refine hK _ ?_
   clear hK K
   try refine vthen_n ?_
   refine VW.ret ⟨.inl rfl, _, rfl, ?_⟩
   rw [fab_key]; simp_all
 ·refine hK _ ?_
  clear hK K
  try refine vthen_n ?_
  refine VW.ret ⟨.inl rfl, _, rfl, ?_⟩
  rw [fab_key]; simp_all
end Go.Proofs.YtmechjnfeidnkaaGreat.V.W
end
section
namespace Go.Proofs.YtmechjnfeidnkaaGreat.V
open Go Go.RowKit
/-- what a step does to memory, the frozen zone growing -/
structure StpZ (L L' : Lay) (w w' : World) : Prop where
 os : w'.os = w.os
 tape : w'.tape = w.tape
 output : w'.output = w.output
 size : w.heap.size ≤ w'.heap.size
 block : ∀ b, b < w.heap.size → (∀ t, ¬ L.F t b) → w'.heap[b]? = w.heap[b]?
 F : ∀ t b, L'.F t b → (∃ t', L.F t' b) ∨ w.heap.size ≤ b
theorem StpZ.of {L L' : Lay} {w w' : World} (h : Stp L L' w w') : StpZ L L' w w' := ⟨h.os, h.tape, h.output, h.size, h.block, h.F⟩
theorem StpZ.trans {A B C : Lay} {w1 w2 w3 : World} (h : StpZ A B w1 w2) (k : StpZ B C w2 w3) : StpZ A C w1 w3 :=
  ⟨k.os.trans h.os, k.tape.trans h.tape, k.output.trans h.output, Nat.le_trans h.size k.size, fun b hb hA => (k.block b (Nat.lt_of_lt_of_le hb h.size) (fun t ht => (h.F t b ht).elim (fun ⟨t', q⟩ => hA t' q) (fun q => by omega))).trans (h.block b hb hA),
   fun t b hb => (k.F t b hb).elim (fun ⟨t', q⟩ => h.F t' b q) (fun q => .inr (Nat.le_trans h.size q))⟩
section
variable {P : Program} {st : St} {Q : Exit → St → Prop}
def VWf (P : Program) (c : Code) (st : St) (Q : Exit → St → Prop) : Prop :=
 ∀ (L : Lay) (a : Act) (w : World), Rel L st a w Free → c.wp P (fun e a' w' => ∃ L' st', StpZ L L' w w' ∧ Rel L' st' a' w' Free ∧ Q e st') a w
theorem VWf.of {c : Code} (h : VW P c st Q) : VWf P c st Q := fun L a w hr => wp_mono (h L a w hr) fun e a' w' ⟨L', st', s, r, q⟩ => ⟨L', st', .of s, r, q⟩
def vthenf (P : Program) (y : Code) (Q : Exit → St → Prop) : Exit → St → Prop
 | .normal, st => VWf P y st Q
 | e, st => Q e st
theorem vthenf_n {y : Code} (h : VWf P y st Q) : vthenf P y Q .normal st := h
theorem VWf.seq {x y : Code} (h : VWf P x st (vthenf P y Q)) : VWf P (.seq x y) st Q := fun L a w hr => by
 refine wp_seq (wp_mono (h L a w hr) fun e a' w' ⟨L', st', s, r, q⟩ => ?_)
 cases e with
 | normal => exact wp_mono (q L' a' w' r) fun e2 a2 w2 ⟨L2, st2, s2, r2, q2⟩ => ⟨L2, st2, s.trans s2, r2, q2⟩
 | _ => exact ⟨L', st', s, r, q⟩
theorem VWf.cond {c : Operand} {x y : Code} {b : Bool} (hc : ev st c = .v false .bool b) (ht : b = true → VWf P x st Q) (hf : b = false → VWf P y st Q) : VWf P (.cond c x y) st Q := fun L a w hr =>
 wp_cond_split (ev_bool hr hc) (fun e => ht e L a w hr) (fun e => hf e L a w hr)
theorem VWf.skip (h : Q .normal st) : VWf P .skip st Q := .of (VW.skip h)
theorem VWf.ret (h : Q .ret st) : VWf P .ret st Q := .of (VW.ret h)
theorem VWf.weak {c : Code} {st' : St} (hw : Weak st st') (h : VWf P c st' Q) : VWf P c st Q := fun L a w hr => by
 obtain ⟨L', s', r'⟩ := hw L a w hr
 exact wp_mono (h L' a w r') fun e a' w' ⟨L2, st2, s, r, q⟩ => ⟨L2, st2, (StpZ.of s').trans s, r, q⟩
/-- what needs no memory -/
def plainPV : PV → PV
 | .v agg s x => if s.plain = true then .v agg s x else .dead
 | _ => .dead
theorem VW.of_f {c : Code} {Q2 : Exit → St → Prop} (h : VWf P c st Q) (hQ : ∀ e st', Q e st' → Q2 e (st'.map plainPV)) : VW P c st Q2 := fun L a w hr =>
 wp_mono (h L a w hr) fun e a' w' ⟨L', st', s, r, q⟩ => by
  refine ⟨⟨L.Z, fun _ _ => False, L'.C, L'.D⟩, st'.map plainPV, ⟨s.os, s.tape, s.output, s.size, s.block, rfl, fun t b hb => hb.elim⟩, ⟨?_, r.defers, fun b hb => Nat.lt_of_lt_of_le (hr.zlt b hb) s.size, fun t b hb => hb.elim, fun t t' b hb => hb.elim, fun b hb => hb.elim, fun t b hb => hb.elim, fun t ht => ?_⟩, hQ _ _ q⟩
  ·rw [List.length_map]; exact r.size
  ·rw [List.length_map] at ht
   have h1 := r.tmp t ht
   rw [St.at_map rfl]
   cases hp : st'.at t with
   | v agg s x =>
    rw [hp] at h1
    rw [show plainPV (.v agg s x) = if s.plain = true then .v agg s x else .dead from rfl]
    by_cases hs : s.plain = true
    ·rw [if_pos hs]
     obtain ⟨cs, k1, k2⟩ := (h1 : ∃ cs, mkV agg cs _ ∧ Rep _ _ s .fz x cs (fun _ => False))
     exact ⟨cs, k1, k2.plain hs⟩
    ·rw [if_neg hs]
     trivial
   | _ => exact True.intro
theorem Rel.zgrow {L : Lay} {a : Act} {w : World} {R : Nat → Prop} (h : Rel L st a w R) : Rel ⟨fun b => L.Z b ∨ R b, L.F, L.C, L.D⟩ st a w Free where
 size := h.size
 defers := h.defers
 zlt := fun b hb => hb.elim (h.zlt b) fun k => (h.rlt b k).1
 flt := fun t b hb => ⟨(h.flt t b hb).1, fun k => k.elim (h.flt t b hb).2 (h.rdj t b hb)⟩
 dj := h.dj
 rlt := fun _ k => k.elim
 rdj := fun _ _ _ k => k.elim
 tmp := fun t ht => by
  have h1 := h.tmp t ht
  rcases PV.root_or (st.at t) with ⟨k, s, f, x, hp⟩ | hp
  ·rw [hp] at h1 ⊢
   obtain ⟨q1, B, q2, q3, q4⟩ := h1
   exact ⟨q1, B, q2, q3, q4.frame (fun _ k => .inl k) (fun _ _ => rfl)⟩
  ·rw [PVRep.of hp] at h1 ⊢
   exact ORep.places (L' := ⟨fun b => L.Z b ∨ R b, L.F, L.C, L.D⟩) (fun _ k => Or.inl k) (fun _ _ => rfl) (fun agg g p e s1 cs1 ad1 h1 h2 h3 => ⟨s1, cs1, ad1, h1, h2, h3⟩) (fun g p _ s1 cs1 A h1 => ⟨cs1, h1⟩) h1
theorem act_put_same (a : Act) (g : Nat) : a.put (some g) (a.tmps.getD g undef) = a := by
 show ({ a with tmps := a.tmps.setIfInBounds g (a.tmps.getD g undef) } : Act) = a
 have : a.tmps.setIfInBounds g (a.tmps.getD g undef) = a.tmps := by
  apply Array.ext
  ·rw [Array.size_setIfInBounds]
  ·intro i h1 h2
   rw [Array.getElem_setIfInBounds h2]
   split
   ·rename_i e
    subst e
    simp [Array.getD, h2]
   ·rfl
 rw [this]
/-- a row of one's own is frozen -/
theorem VWf.freeze {c : Code} {g : Nat} {e : TypeId} {s : Sh} {xs : List s.ty} (hg : st.at g = .root (.val false) (.sl e s) .own xs) (hs : Fl.sound (.sl e s) .own = true) (h : VWf P c ((st.map (V.drop g)).set g (.v false (.sl e s) xs)) Q) : VWf P c st Q := fun L a w hr => by
 obtain ⟨r1, _⟩ := hr.root hg
 obtain ⟨B, q1, q2, q3⟩ := hr.gone hg
 have q4 := q1.zgrow
 have hm : mkV false (L.C g) (a.tmps.getD g undef) := r1.1
 have hlt : g < st.length := root_lt hg
 have q5 := q4.setO (d := g) (pv := .v false (.sl e s) xs) (v := a.tmps.getD g undef) (by rw [St.at_set, if_pos ⟨rfl, by rw [List.length_map]; exact hlt⟩]; rfl) rfl ⟨L.C g, hm, q3.freeze (fun b hb => .inl hb) hs (fun b hb => .inr (.inr (q2 b hb)))⟩
 rw [List.set_set, act_put_same] at q5
 refine wp_mono (h _ a w q5) fun e a' w' ⟨L', st', s', r', q⟩ => ⟨L', st', ?_, r', q⟩
 refine StpZ.trans ⟨rfl, rfl, rfl, Nat.le_refl _, fun _ _ _ => rfl, fun t b hb => ?_⟩ s'
 simp only at hb
 split at hb
 ·exact hb.elim
 ·exact .inl ⟨t, hb⟩
/-- a part that a handle names is moved out and frozen -/
theorem VWf.freezeH {c : Code} {d g : Nat} {p : Path} {s : Sh} {f : Fl} {x : s.ty} {st' : St} (hd : st.at d = .h false g p) (ht : take st g p = some (⟨s, f, x⟩, st')) (hs : Fl.sound s f = true) (hdr : (st'.at d).isRoot = false) (h : VWf P c (st'.set d (.v false s x)) Q) : VWf P c st Q := fun L a w hr => by
 have hlt : d < st.length := by
  rcases Nat.lt_or_ge d st.length with hl | hl
  ·exact hl
  ·rw [St.at_ge hl] at hd; cases hd
 have h1 := hr.tmp d hlt
 rw [hd] at h1
 obtain ⟨s1, cs1, ad1, hp, q2, q3⟩ := h1
 obtain ⟨L1, B1, e1, r1, e2, e3, e4⟩ := hr.take ht hp
 have q4 := r1.zgrow
 have q5 := q4.setO (d := d) (pv := .v false s x) (v := a.tmps.getD d undef) hdr rfl ⟨cs1, q2, e3.freeze (fun b hb => .inl (by rw [e1.Z]; exact hb)) hs (fun b hb => .inr (.inr hb))⟩
 rw [act_put_same] at q5
 refine wp_mono (h _ a w q5) fun e a' w' ⟨L', st', s', r', q⟩ => ⟨L', st', ?_, r', q⟩
 refine StpZ.trans ⟨rfl, rfl, rfl, Nat.le_refl _, fun _ _ _ => rfl, fun t b hb => ?_⟩ s'
 exact .inl (e1.F t b hb)
end
end Go.Proofs.YtmechjnfeidnkaaGreat.V
end
section
namespace Go.Proofs.YtmechjnfeidnkaaGreat.V.W
open Go Go.RowKit
set_option maxRecDepth 20000 in
theorem sameInts_vc (xs ys : List (Int)) (hl : xs.length * 8 ≤ 140737488351232) : VC Tryz.prog 23 [.v false (.sl 3 (.int .i64)) xs, .v false (.sl 3 (.int .i64)) ys] (· = .v false .bool (decide (xs = ys))) := by
 refine VC.of_body hT Tryz.func23 rfl (by kernel_rfl) [(.tmp 4, false, .bool)] (by kernel_rfl) ?_
 show VW _ _ ([.v false (.sl 3 (.int .i64)) xs, .v false (.sl 3 (.int .i64)) ys, D, D, D, D, D, D, D, D, D, D, D, D, D, D, D, D, D, D, D, D, D, D, D, D]) _
 repeat refine VW.seq ?_
 refine VW.regl hT fun K hK => ?_
 simp only [wq, simprocAttr]
 refine hK _ ?_
 clear hK K
 try refine vthen_n ?_
 repeat refine VW.seq ?_
 refine VW.regl hT fun K hK => ?_
 simp only [wq, simprocAttr]
 refine hK _ ?_
 clear hK K
 try refine vthen_n ?_
 repeat refine VW.seq ?_
 refine VW.cond rfl (fun hc => ?_) (fun hc => ?_)
 ·repeat refine VW.seq ?_
  refine VW.regl hT fun K hK => ?_
  simp only [wq, simprocAttr]
  refine hK _ ?_
  clear hK K
  try refine vthen_n ?_
  refine VW.ret ⟨.inl rfl, _, rfl, ?_⟩
  have : xs ≠ ys := fun e => by subst e; simp at hc
  simp [this]
 have hlen : xs.length = ys.length := by simp at hc; omega
 refine VW.skip (vthen_n ?_)
 repeat refine VW.seq ?_
 refine VW.regl hT fun K hK => ?_
 simp only [wq, simprocAttr]
 refine hK _ ?_
 clear hK K
 try refine vthen_n ?_
 repeat refine VW.seq ?_
 refine VW.block ?_
 refine VW.loop (α := Nat) [(0, none), (1, none), (5, none)] (fun i => [.v false (.sl 3 (.int .i64)) xs, .v false (.sl 3 (.int .i64)) ys, D, D, D, .v false (.int .i64) (i : Int), D, D, D, D, D, D, D, D, D, D, D, D, D, D, D, D, D, D, D, D]) (fun i => i ≤ xs.length ∧ ∀ k, k < i → xs.getD k 0 = ys.getD k 0) (fun i => xs.length - i) ⟨0, ⟨by omega, fun k hk => by omega⟩, ?_⟩ fun i ⟨hi, hk⟩ => ?_
 ·simp only [wn, wq, simprocAttr]
  try rfl
 repeat refine VW.seq ?_
 refine VW.regl hT fun K hK => ?_
 simp only [wq, simprocAttr]
 refine hK _ ?_
 clear hK K
 try refine vthen_n ?_
 repeat refine VW.seq ?_
 refine VW.cond rfl (fun hc => ?_) (fun hc => ?_)
 ·have hlt : i < xs.length := by simpa using hc
  refine VW.skip (vthen_n ?_)
  repeat refine VW.seq ?_
  refine VW.block ?_
  repeat refine VW.seq ?_
  refine VW.drawl hT hm (by kernel_rfl) fun K hK => ?_
  simp only [wq, simprocAttr]
  refine ⟨by simp; omega, by simp; omega, ?_⟩
  refine hK _ ?_
  clear hK K
  try refine vthen_n ?_
  repeat refine VW.seq ?_
  refine VW.cond rfl (fun hc => ?_) (fun hc => ?_)
  ·repeat refine VW.seq ?_
   refine VW.regl hT fun K hK => ?_
   simp only [wq, simprocAttr]
   refine hK _ ?_
   clear hK K
   try refine vthen_n ?_
   refine VW.ret ⟨.inl rfl, _, rfl, ?_⟩
   have : xs ≠ ys := fun e => by subst e; simp [eqv] at hc
   simp [this]
  ·have hxy : xs.getD i 0 = ys.getD i 0 := by
    have hc2 := hc
    rw [Bool.not_eq_false'] at hc2
    exact eq_of_beq hc2
   refine VW.skip ?_
   show vthen _ _ _ .normal _
   refine vthen_n ?_
   repeat refine VW.seq ?_
   refine VW.regl hT fun K hK => ?_
   simp only [wq, simprocAttr]
   refine hK _ ?_
   clear hK K
   try refine vthen_n ?_
   refine ⟨i + 1, ⟨hlt, fun k h => ?_⟩, ?_, by show xs.length - (i + 1) < xs.length - i; omega⟩
   ·rcases Nat.lt_or_ge k i with h1 | h1
    ·exact hk k h1
    ·obtain rfl : k = i := by omega
     exact hxy
   ·simp only [wn, wq, simprocAttr]
    rw [wrap64 (by omega) (by omega)]
    rfl
 ·have hc : xs.length ≤ i := by simpa using hc
  refine VW.exit ?_
  show vthen _ _ _ .normal _
  refine vthen_n ?_
  repeat refine VW.seq ?_
  refine VW.regl hT fun K hK => ?_
  simp only [wq, simprocAttr]
  refine hK _ ?_
  clear hK K
  try refine vthen_n ?_
  refine VW.ret ⟨.inl rfl, _, rfl, ?_⟩
  rw [row_eq 0 hlen fun k h => hk k (by omega)]
  simp
theorem runTo_acc (ks : List Ac) : ∀ (x : Fab) (acc : List Int), ks.foldl (fun p a => ((doAct p.1 a).1, p.2 ++ [(doAct p.1 a).2])) (x, acc) = ((runTo x ks).1, acc ++ (runTo x ks).2) := by
 induction ks with
 | nil =>
  intro x acc
  show (x, acc) = (x, acc ++ [])
  rw [List.append_nil]
 | cons a ks ih =>
  intro x acc
  show ks.foldl _ ((doAct x a).1, acc ++ [(doAct x a).2]) = _
  have e : runTo x (a :: ks) = ks.foldl (fun p a => ((doAct p.1 a).1, p.2 ++ [(doAct p.1 a).2])) ((doAct x a).1, [(doAct x a).2]) := rfl
  rw [ih, e, ih]
  simp [List.append_assoc]
theorem runTo_app (x : Fab) (ks ls : List Ac) : runTo x (ks ++ ls) = ((runTo (runTo x ks).1 ls).1, (runTo x ks).2 ++ (runTo (runTo x ks).1 ls).2) := by
 have e : runTo x (ks ++ ls) = ls.foldl (fun p a => ((doAct p.1 a).1, p.2 ++ [(doAct p.1 a).2])) ((runTo x ks).1, (runTo x ks).2) := by
  rw [runTo, List.foldl_append]
  rfl
 rw [e, runTo_acc]
theorem vret_bool {st : St} {b : Bool} (h : st.at 2 = .v false .bool b) : vret T st [(.tmp 2, false, .bool)] = some (.v false .bool b) := by
 have e : ref st (.tmp 2) = .v false .bool b := by simp only [ref, h]
 simp [vret, rpv, e, grab, castTo_self, Sh.plain]
set_option maxRecDepth 40000 in
set_option maxHeartbeats 4000000 in
theorem law_fnActParts (b : List Int) : VC Tryz.prog 6 [.v false sB b] (· = .v false .bool true) := by
 refine VC.of_body hT Tryz.func6 rfl (by kernel_rfl) [(.tmp 2, false, .bool)] (by kernel_rfl) ?_
 show VW _ _ ([.v false sB b, D, D, D, D, D, D, D, D, D, D, D, D, D, D, D, D, D, D, D, D, D, D, D, D, D, D, D, D, D, D, D, D, D, D, D, D, D, D, D, D, D, D, D, D, D, D, D, D, D, D, D, D, D, D, D, D, D, D, D, D, D, D]) _
 refine VW.of_f (Q := fun e st' => (e = .ret ∨ e = .normal) ∧ st'.at 2 = .v false .bool true) ?_ (fun e st' h => ⟨h.1, _, vret_bool (b := true) (by rw [St.at_map rfl, h.2]; rfl), rfl⟩)
 repeat refine VWf.seq ?_
 refine VWf.of ?_
 refine VW.regl hT fun K hK => ?_
 simp only [wq, simprocAttr]
 refine hK _ ?_
 clear hK K
 try refine vthenf_n ?_
 repeat refine VWf.seq ?_
 refine VWf.of ?_
 refine VW.regl hT fun K hK => ?_
 simp only [wq, simprocAttr]
 refine vcall_of (big_vc b) ?_
 simp only [wq, simprocAttr]
 refine hK _ ?_
 clear hK K
 try refine vthenf_n ?_
 repeat refine VWf.seq ?_
 refine VWf.cond rfl (fun hc => ?_) (fun hc => ?_)
 ·repeat refine VWf.seq ?_
  refine VWf.of ?_
  refine VW.regl hT fun K hK => ?_
  simp only [wq, simprocAttr]
  refine hK _ ?_
  clear hK K
  try refine vthenf_n ?_
  exact VWf.ret ⟨.inl rfl, rfl⟩
 have hb : b.length ≤ 1048576 := by
  have : ¬ (b.length : Int) > 1048576 := of_decide_eq_false hc
  omega
 refine VWf.skip (vthenf_n ?_)
 repeat refine VWf.seq ?_
 refine VWf.of ?_
 refine VW.regl hT fun K hK => ?_
 simp only [wq, simprocAttr]
 refine vcall_ex (drawActs_vc b hb) ?_
 rintro pv ⟨x, ks, rfl, hx, hk⟩
 simp only [wq, simprocAttr]
 refine hK _ ?_
 clear hK K
 try refine vthenf_n ?_
 repeat refine VWf.seq ?_
 refine VWf.of ?_
 refine VW.regl hT fun K hK => ?_
 simp only [wq, simprocAttr]
 refine vcall_ex (drawPlaces_vc b hb) ?_
 rintro pv ⟨ps, rfl, hp1, hp2⟩
 simp only [wq, simprocAttr]
 refine hK _ ?_
 clear hK K
 try refine vthenf_n ?_
 refine VWf.freezeH (d := 4) (g := 15) (p := [.r]) (s := sAS) (f := .own) (x := ks) rfl rfl rfl rfl ?_
 simp only [wq, simprocAttr]
 refine VWf.weak (weak_norm [(3, none), (4, none), (5, none)] _) ?_
 simp only [wn, wq, simprocAttr]
 have hq0 := rem_lt (a := ps.getD 0 0) (n := (ks.length : Int) + 1) (hp2 _ (getD_mem (by omega))).1 (by omega)
 repeat refine VWf.seq ?_
 refine VWf.of ?_
 refine VW.regl hT fun K hK => ?_
 simp only [wq, simprocAttr]
 obtain ⟨k, hkq⟩ := Int.eq_ofNat_of_zero_le hq0.1
 refine ⟨decide_eq_true (by rw [hp1]; decide), decide_eq_false (by rw [wrap64 (by omega) (by omega)]; omega), ?_⟩
 rw [wrap64 (by omega) (by omega), hkq]
 have hkl : k ≤ ks.length := by omega
 refine hK _ ?_
 clear hK K
 try refine vthenf_n ?_
 have ht : (ks.take k).length = k := by rw [List.length_take]; omega
 have hd : (ks.drop k).length = ks.length - k := List.length_drop ..
 obtain ⟨hL, hgl⟩ := fab_L hx
 obtain ⟨p1, p2, p3, p4⟩ := runActs_ok hx (ks := ks) (by omega)
 obtain ⟨q1, q2, q3, q4⟩ := runActs_ok hx (ks := ks.take k) (by omega)
 obtain ⟨hM, hgm⟩ := fab_L q2
 obtain ⟨r1, r2, r3, r4⟩ := runActs_ok q2 (ks := ks.drop k) (by omega)
 have hp := runActs_vc x ks hL (by omega) (by omega)
 have hq := runActs_vc x (ks.take k) hL (by omega) (by omega)
 have hr := runActs_vc (runActs x (ks.take k)).1 (ks.drop k) hM (by omega) (by omega)
 have he : runActs x ks = ((runActs (runActs x (ks.take k)).1 (ks.drop k)).1, (runActs x (ks.take k)).2 ++ (runActs (runActs x (ks.take k)).1 (ks.drop k)).2) := by
  rw [p1, r1, q1, ← runTo_app, List.take_append_drop]
 obtain ⟨hpL, hpg⟩ := fab_L p2
 generalize runActs (runActs x (ks.take k)).1 (ks.drop k) = r at *
 generalize runActs x (ks.take k) = q at *
 generalize runActs x ks = p at *
 obtain ⟨px, pn⟩ := p
 obtain ⟨qx, qn⟩ := q
 obtain ⟨rx, rn⟩ := r
 have p4 : pn.length = ks.length := p4
 have q4 : qn.length = (ks.take k).length := q4
 have r4 : rn.length = (ks.drop k).length := r4
 clear p1 q1 r1
 have hsl : decide (0 ≤ (k : Int) ∧ (k : Int) ≤ (ks.length : Int)) = true := decide_eq_true ⟨by omega, by omega⟩
 obtain ⟨rfl, rfl⟩ : px = rx ∧ pn = qn ++ rn := Prod.mk.inj he
 have hr : VC Tryz.prog 25 [.v true sFi qx, .v false sAS ((ks.take ks.length).drop k)] (· = rFL (px, rn)) := by
  rw [List.take_length]
  exact hr
 have hsl2 : decide (0 ≤ (k : Int) ∧ (k : Int) ≤ (ks.length : Int) ∧ (ks.length : Int) ≤ (ks.length : Int)) = true := decide_eq_true ⟨by omega, by omega, by omega⟩
 have hpL : FabL px := hpL
 have hpg : px.2.2.2.2.length ≤ 12 := hpg
 have hB : FabB px := by
  obtain ⟨ta, tb, tc, td, te⟩ := hpL
  exact ⟨by omega, by omega, by omega, by omega, fun k => by have := te k; omega, by omega⟩
 repeat refine VWf.seq ?_
 refine VWf.of ?_
 refine VW.regl hT fun K hK => ?_
 simp only [wq, simprocAttr]
 refine vcall_of (hp) ?_
 simp only [wq, simprocAttr]
 refine hK _ ?_
 clear hK K
 try refine vthenf_n ?_
 refine VWf.freezeH (d := 8) (g := 29) (p := [.r]) (s := sI) (f := .own) (x := qn ++ rn) rfl rfl rfl rfl ?_
 simp only [wq, simprocAttr]
 refine VWf.weak (weak_norm [(3, none), (4, none), (6, none), (7, none), (8, none)] _) ?_
 simp only [wn, wq, simprocAttr]
 repeat refine VWf.seq ?_
 refine VWf.of ?_
 refine VW.any hT hm fun K hK W hW => ?_
 apply cutl; intro tK
 apply cutl; intro t2047
 apply cutl; intro t1023
 apply cutl; intro t511
 apply cutl; intro t895
 apply cutl; intro t447
 apply cutl; intro t383
 apply cutl; intro t255
 apply cutl; intro t319
 apply cutl; intro t191
 apply cutl; intro t127
 apply cutl; intro t287
 apply cutl; intro t63
 apply cutl; intro t271
 apply cutl; intro t31
 apply cutl; intro t270
 apply cutl; intro t263
 apply cutl; intro t15
 apply cutl; intro t262
 apply cutl; intro t14
 apply cutl; intro t7
 ·refine hW.take 0 1 2 _ (by kernel_rfl) ?_
  simp only [wy, wq, simprocAttr]
  refine hW.take 2 2 6 _ (by kernel_rfl) ?_
  simp only [wy, wq, simprocAttr]
  refine hW.all 6 [(0, 7), (3, 14), (8, 262)] _ (by kernel_rfl) (by simp) ?_
  simp only [wy, wq, simprocAttr]
  exact ⟨t7.h, ⟨hsl, t14.h⟩, t262.h⟩
 ·refine hW.all 7 [(3, 15), (8, 263)] _ (by kernel_rfl) (by simp) ?_
  simp only [wy, wq, simprocAttr]
  exact ⟨⟨hsl, t15.h⟩, t263.h⟩
 ·refine hW.all 14 [(0, 15), (8, 270)] _ (by kernel_rfl) (by simp) ?_
  simp only [wy, wq, simprocAttr]
  exact ⟨t15.h, t270.h⟩
 ·refine hW.all 262 [(0, 263), (3, 270)] _ (by kernel_rfl) (by simp) ?_
  simp only [wy, wq, simprocAttr]
  exact ⟨t263.h, ⟨hsl, t270.h⟩⟩
 ·refine hW.all 15 [(4, 31), (8, 271)] _ (by kernel_rfl) (by simp) ?_
  simp only [wy, wq, simprocAttr]
  refine ⟨?_, ?_⟩
  ·refine vcall_of (hq) ?_
   simp only [wq, simprocAttr]
   exact t31.h
  ·exact t271.h
 ·refine hW.all 263 [(3, 271)] _ (by kernel_rfl) (by simp) ?_
  simp only [wy, wq, simprocAttr]
  exact ⟨hsl, t271.h⟩
 ·refine hW.all 270 [(0, 271)] _ (by kernel_rfl) (by simp) ?_
  simp only [wy, wq, simprocAttr]
  exact t271.h
 ·refine hW.all 31 [(5, 63), (8, 287)] _ (by kernel_rfl) (by simp) ?_
  simp only [wy, wq, simprocAttr]
  exact ⟨t63.h, t287.h⟩
 ·refine hW.all 271 [(4, 287)] _ (by kernel_rfl) (by simp) ?_
  simp only [wy, wq, simprocAttr]
  skip
  refine vcall_of (hq) ?_
  simp only [wq, simprocAttr]
  exact t287.h
 ·refine hW.all 63 [(6, 127), (7, 191), (8, 319)] _ (by kernel_rfl) (by simp) ?_
  simp only [wy, wq, simprocAttr]
  exact ⟨t127.h, t191.h, t319.h⟩
 ·refine hW.all 287 [(5, 319)] _ (by kernel_rfl) (by simp) ?_
  simp only [wy, wq, simprocAttr]
  exact t319.h
 ·refine hW.all 127 [(7, 255), (8, 383)] _ (by kernel_rfl) (by simp) ?_
  simp only [wy, wq, simprocAttr]
  exact ⟨t255.h, t383.h⟩
 ·refine hW.all 191 [(6, 255), (8, 447)] _ (by kernel_rfl) (by simp) ?_
  simp only [wy, wq, simprocAttr]
  exact ⟨t255.h, t447.h⟩
 ·refine hW.all 319 [(6, 383), (7, 447)] _ (by kernel_rfl) (by simp) ?_
  simp only [wy, wq, simprocAttr]
  exact ⟨t383.h, t447.h⟩
 ·refine hW.all 255 [(8, 511)] _ (by kernel_rfl) (by simp) ?_
  simp only [wy, wq, simprocAttr]
  exact t511.h
 ·refine hW.all 383 [(7, 511), (9, 895)] _ (by kernel_rfl) (by simp) ?_
  simp only [wy, wq, simprocAttr]
  exact ⟨t511.h, t895.h⟩
 ·refine hW.all 447 [(6, 511)] _ (by kernel_rfl) (by simp) ?_
  simp only [wy, wq, simprocAttr]
  exact t511.h
 ·refine hW.all 895 [(7, 1023)] _ (by kernel_rfl) (by simp) ?_
  simp only [wy, wq, simprocAttr]
  exact t1023.h
 ·refine hW.all 511 [(9, 1023)] _ (by kernel_rfl) (by simp) ?_
  simp only [wy, wq, simprocAttr]
  exact t1023.h
 ·refine hW.all 1023 [(10, 2047)] _ (by kernel_rfl) (by simp) ?_
  simp only [wy, wq, simprocAttr]
  exact t2047.h
 ·refine hW.done 2047 _ (by kernel_rfl) ?_
  exact tK.h
 refine hK _ ?_
 clear hW W hK K
 refine vthenf_n ?_
 refine VWf.freezeH (d := 10) (g := 35) (p := [.r]) (s := sI) (f := .own) (x := qn) rfl rfl rfl rfl ?_
 simp only [wq, simprocAttr]
 refine VWf.weak (weak_norm [(4, none), (6, none), (7, none), (8, none), (9, none), (10, none)] _) ?_
 simp only [wn, wq, simprocAttr]
 repeat refine VWf.seq ?_
 refine VWf.of ?_
 refine VW.any hT hm fun K hK W hW => ?_
 apply cutl; intro tK
 apply cutl; intro t2047
 apply cutl; intro t1023
 apply cutl; intro t511
 apply cutl; intro t895
 apply cutl; intro t447
 apply cutl; intro t383
 apply cutl; intro t255
 apply cutl; intro t319
 apply cutl; intro t191
 apply cutl; intro t127
 apply cutl; intro t287
 apply cutl; intro t63
 apply cutl; intro t271
 apply cutl; intro t31
 apply cutl; intro t270
 apply cutl; intro t263
 apply cutl; intro t15
 apply cutl; intro t262
 apply cutl; intro t14
 apply cutl; intro t7
 ·refine hW.take 0 1 2 _ (by kernel_rfl) ?_
  simp only [wy, wq, simprocAttr]
  refine hW.take 2 2 6 _ (by kernel_rfl) ?_
  simp only [wy, wq, simprocAttr]
  refine hW.all 6 [(0, 7), (3, 14), (8, 262)] _ (by kernel_rfl) (by simp) ?_
  simp only [wy, wq, simprocAttr]
  exact ⟨t7.h, ⟨hsl2, t14.h⟩, t262.h⟩
 ·refine hW.all 7 [(3, 15), (8, 263)] _ (by kernel_rfl) (by simp) ?_
  simp only [wy, wq, simprocAttr]
  exact ⟨⟨hsl2, t15.h⟩, t263.h⟩
 ·refine hW.all 14 [(0, 15), (8, 270)] _ (by kernel_rfl) (by simp) ?_
  simp only [wy, wq, simprocAttr]
  exact ⟨t15.h, t270.h⟩
 ·refine hW.all 262 [(0, 263), (3, 270)] _ (by kernel_rfl) (by simp) ?_
  simp only [wy, wq, simprocAttr]
  exact ⟨t263.h, ⟨hsl2, t270.h⟩⟩
 ·refine hW.all 15 [(4, 31), (8, 271)] _ (by kernel_rfl) (by simp) ?_
  simp only [wy, wq, simprocAttr]
  refine ⟨?_, ?_⟩
  ·refine vcall_of (hr) ?_
   simp only [wq, simprocAttr]
   exact t31.h
  ·exact t271.h
 ·refine hW.all 263 [(3, 271)] _ (by kernel_rfl) (by simp) ?_
  simp only [wy, wq, simprocAttr]
  exact ⟨hsl2, t271.h⟩
 ·refine hW.all 270 [(0, 271)] _ (by kernel_rfl) (by simp) ?_
  simp only [wy, wq, simprocAttr]
  exact t271.h
 ·refine hW.all 31 [(5, 63), (8, 287)] _ (by kernel_rfl) (by simp) ?_
  simp only [wy, wq, simprocAttr]
  exact ⟨t63.h, t287.h⟩
 ·refine hW.all 271 [(4, 287)] _ (by kernel_rfl) (by simp) ?_
  simp only [wy, wq, simprocAttr]
  skip
  refine vcall_of (hr) ?_
  simp only [wq, simprocAttr]
  exact t287.h
 ·refine hW.all 63 [(6, 127), (7, 191), (8, 319)] _ (by kernel_rfl) (by simp) ?_
  simp only [wy, wq, simprocAttr]
  exact ⟨t127.h, t191.h, t319.h⟩
 ·refine hW.all 287 [(5, 319)] _ (by kernel_rfl) (by simp) ?_
  simp only [wy, wq, simprocAttr]
  exact t319.h
 ·refine hW.all 127 [(7, 255), (8, 383)] _ (by kernel_rfl) (by simp) ?_
  simp only [wy, wq, simprocAttr]
  exact ⟨t255.h, t383.h⟩
 ·refine hW.all 191 [(6, 255), (8, 447)] _ (by kernel_rfl) (by simp) ?_
  simp only [wy, wq, simprocAttr]
  exact ⟨t255.h, t447.h⟩
 ·refine hW.all 319 [(6, 383), (7, 447)] _ (by kernel_rfl) (by simp) ?_
  simp only [wy, wq, simprocAttr]
  exact ⟨t383.h, t447.h⟩
 ·refine hW.all 255 [(8, 511)] _ (by kernel_rfl) (by simp) ?_
  simp only [wy, wq, simprocAttr]
  exact t511.h
 ·refine hW.all 383 [(7, 511), (9, 895)] _ (by kernel_rfl) (by simp) ?_
  simp only [wy, wq, simprocAttr]
  exact ⟨t511.h, t895.h⟩
 ·refine hW.all 447 [(6, 511)] _ (by kernel_rfl) (by simp) ?_
  simp only [wy, wq, simprocAttr]
  exact t511.h
 ·refine hW.all 895 [(7, 1023)] _ (by kernel_rfl) (by simp) ?_
  simp only [wy, wq, simprocAttr]
  exact t1023.h
 ·refine hW.all 511 [(9, 1023)] _ (by kernel_rfl) (by simp) ?_
  simp only [wy, wq, simprocAttr]
  exact t1023.h
 ·refine hW.all 1023 [(10, 2047)] _ (by kernel_rfl) (by simp) ?_
  simp only [wy, wq, simprocAttr]
  exact t2047.h
 ·refine hW.done 2047 _ (by kernel_rfl) ?_
  exact tK.h
 refine hK _ ?_
 clear hW W hK K
 refine vthenf_n ?_
 refine VWf.freezeH (d := 12) (g := 43) (p := [.r]) (s := sI) (f := .own) (x := rn) rfl rfl rfl rfl ?_
 simp only [wq, simprocAttr]
 refine VWf.weak (weak_norm [(7, none), (8, none), (10, none), (11, none), (12, none)] _) ?_
 simp only [wn, wq, simprocAttr]
 repeat refine VWf.seq ?_
 refine VWf.of ?_
 refine VW.regl hT fun K hK => ?_
 simp only [wq, simprocAttr]
 refine vcall_of (sameFabric_vc px px hB) ?_
 rw [decide_eq_true rfl]
 simp only [wq, simprocAttr]
 have hln : qn.length + rn.length = ks.length := by rw [← List.length_append]; exact p4
 refine ⟨by simp only [limOk]; exact decide_eq_true (by omega), by simp only [limOk]; exact decide_eq_true (by omega), ?_⟩
 refine vcall_of (sameInts_vc (qn ++ rn) (qn ++ rn) (by rw [p4]; omega)) ?_
 rw [decide_eq_true rfl]
 simp only [wq, simprocAttr]
 refine hK _ ?_
 clear hK K
 try refine vthenf_n ?_
 exact VWf.ret ⟨.inl rfl, rfl⟩
end Go.Proofs.YtmechjnfeidnkaaGreat.V.W
namespace Go.Proofs.YtmechjnfeidnkaaGreat.V
open Go Go.RowKit
theorem fnActParts_vc (b : List Int) (w0 : wfS Tryz.prog (.sl 5 (.int .u8)) b) : VC Tryz.prog 6 [.v false (.sl 5 (.int .u8)) b] (· = .v false .bool true) := W.law_fnActParts b
end Go.Proofs.YtmechjnfeidnkaaGreat.V
end

/- Texts U2 P1 S2 in one. No condition. -/
import Derived.Test.YtmechjnfeidnkaaGreatZReplays5
set_option linter.unnecessarySimpa false
set_option linter.unusedSimpArgs false
set_option linter.unusedVariables false
section
namespace Go.Proofs.YtmechjnfeidnkaaGreat.V.W
open Go Go.RowKit
theorem words_over {row d : List Int} (h : words row = true) (hd : words d = true) (lo : Nat) : words (over row lo d) = true := by
 rw [words_iff] at h hd ⊢
 intro x hx
 rw [over, List.mem_append, List.mem_append] at hx
 rcases hx with (hx | hx) | hx
 ·exact h x (List.mem_of_mem_take hx)
 ·exact hd x hx
 ·exact h x (List.mem_of_mem_drop hx)
theorem storeW_ok {x : Fab} {fr a : Int} {d : List Int} (hx : fabOk x = true) (ha : a ≤ 9223372036854775807) : fabOk (storeW x fr a d).1 = true ∧ (storeW x fr a d).1.1 = x.1 := by
 rw [storeW]
 split
 ·rename_i hw
  split
  ·rename_i h
   obtain ⟨t, s, b, m, g⟩ := x
   obtain ⟨j, lo, n, h0, h1, h2, h3, h4, h5, h6, h7, h8⟩ := target_good (t := t) (s := s) (b := b) (m := m) (g := g) (fr := fr) (a := a) (l := d.length) (k := (targetOf (t, s, b, m, g) fr a d.length).1) (Prod.ext rfl h) ha
   obtain rfl : d.length = n := by omega
   have h4 : (IntKind.i64.wrap (a - (b.getD j zb).2)).toNat = lo := by rw [h4, Int.toNat_natCast]
   obtain ⟨p1, p2, p3, p4, p5⟩ := fab_parts hx
   refine ⟨?_, rfl⟩
   rw [h0, Int.toNat_natCast]
   show fabOk (t, s, b, m.set j (over (m.getD j []) (IntKind.i64.wrap (a - (b.getD j zb).2)).toNat d), g) = true
   rw [h4, ← p2]
   refine fab_mk p1 ⟨by rw [List.length_set]; exact p3, fun k hk => ?_⟩ (guard_len p4).1 (fun _ => guard_zero p4)
   rw [List.length_set] at hk
   rw [getD_setL _ _ _ _ _ h2]
   split
   ·rename_i e
    subst e
    exact ⟨by rw [over_len h6]; exact (p5 k hk).1, words_over (p5 k hk).2 hw lo⟩
   ·exact p5 k hk
  ·exact ⟨hx, rfl⟩
 ·exact ⟨hx, rfl⟩
theorem doAct_ok {x : Fab} (a : Ac) (hx : fabOk x = true) : fabOk (doAct x a).1 = true ∧ (doAct x a).1.1 = x.1 := by
 rw [doAct]
 split
 ·rename_i h
  rw [Bool.and_eq_true] at h
  have := act_addr h.2
  split
  ·exact storeW_ok hx (by omega)
  ·split
   ·exact ⟨hx, rfl⟩
   ·refine ⟨?_, rfl⟩
    obtain ⟨t, s, b, m, g⟩ := x
    obtain ⟨p1, p2, p3, p4, p5⟩ := fab_parts hx
    show fabOk (t, s, b, m, (setG t g a.2.1 (a.1 == 4)).1) = true
    rw [← p2]
    refine fab_mk p1 ⟨p3, p5⟩ (by rw [setG_len]; exact (guard_len p4).1) fun _ => ?_
    have h0 := guard_zero p4
    rw [setG]
    split
    ·rename_i hk
     rw [Bool.and_eq_true, Bool.and_eq_true] at hk
     have := inB_iff.1 hk.2.1
     show (g.set a.2.1.toNat (a.1 == 4)).getD 0 false = true
     rw [List.getD_eq_getElem?_getD, List.getElem?_set_ne (by omega), ← List.getD_eq_getElem?_getD]
     exact h0
    ·exact h0
 ·exact ⟨hx, rfl⟩
theorem runTo_ok {x : Fab} (hx : fabOk x = true) (ks : List Ac) : ∀ i, i ≤ ks.length → fabOk (runTo x (ks.take i)).1 = true ∧ (runTo x (ks.take i)).1.1 = x.1
 | 0, _ => ⟨hx, rfl⟩
 | i + 1, h => by
  obtain ⟨h1, h2⟩ := runTo_ok hx ks i (by omega)
  rw [runTo_succ x (by omega)]
  obtain ⟨h3, h4⟩ := doAct_ok (ks.getD i zA) h1
  exact ⟨h3, h4.trans h2⟩
theorem runActs_ok {x : Fab} (hx : fabOk x = true) {ks : List Ac} (hk : ks.length ≤ 40) : runActs x ks = runTo x ks ∧ fabOk (runActs x ks).1 = true ∧ (runActs x ks).1.1 = x.1 ∧ (runActs x ks).2.length = ks.length := by
 have e : runActs x ks = runTo x ks := by rw [runActs, if_pos (by rw [hx, decide_eq_true hk]; rfl)]
 obtain ⟨h1, h2⟩ := runTo_ok hx ks ks.length (Nat.le_refl _)
 have h3 := (runTo_sh x ks ks.length (Nat.le_refl _)).2
 rw [List.take_length] at h1 h2 h3
 rw [e]
 exact ⟨rfl, h1, h2, h3⟩
end Go.Proofs.YtmechjnfeidnkaaGreat.V.W
end
section
namespace Go.Proofs.YtmechjnfeidnkaaGreat.V.W
open Go Go.RowKit
set_option maxRecDepth 20000 in
theorem drawPlaces_vc (b : List Int) (hl : b.length ≤ 1048576) : VC Tryz.prog 16 [.v false sB b] (fun pv => ∃ xs : List Int, pv = .root (.val false) sI .own xs ∧ xs.length = 12 ∧ ∀ x ∈ xs, 0 ≤ x ∧ x < 10000) := by
 refine VC.of_body hT Tryz.func16 rfl (by kernel_rfl) [(.tmp 2, false, sI)] (by kernel_rfl) ?_
 show VW _ _ ([.v false sB b, D, D, D, D, D, D, D, D, D, D, D, D, D, D, D, D, D, D]) _
 repeat refine VW.seq ?_
 refine VW.regl hT fun K hK => ?_
 simp only [wq, simprocAttr]
 refine hK _ ?_
 clear hK K
 try refine vthen_n ?_
 repeat refine VW.seq ?_
 refine VW.regl hT fun K hK => ?_
 simp only [wq, simprocAttr]
 refine vcall_ex (new_vc b hl) ?_
 rintro pv ⟨A, c, r, h, rfl⟩
 simp only [wq, simprocAttr]
 refine hK _ ?_
 clear hK K
 try refine vthen_n ?_
 repeat refine VW.seq ?_
 refine VW.regl hT fun K hK => ?_
 simp only [wq, simprocAttr]
 refine hK _ ?_
 clear hK K
 try refine vthen_n ?_
 repeat refine VW.seq ?_
 refine VW.regl hT fun K hK => ?_
 simp only [wq, simprocAttr]
 refine hK _ ?_
 clear hK K
 try refine vthen_n ?_
 repeat refine VW.seq ?_
 refine VW.block ?_
 refine VW.loop (α := List Int × Int × Int × Fl) [(3, none), (4, some (3, .int .i64)), (5, none)] (fun q => [D, D, D, .root bC sC (.pr (.kz A c) q.2.2.2) (b, q.2.1, q.2.2.1), .root (.val false) sI .own q.1, .v false (.int .i64) (q.1.length), D, D, D, D, D, D, D, D, D, D, D, D, D]) (fun q => q.1.length ≤ 12 ∧ 0 ≤ q.2.1 ∧ ∀ x ∈ q.1, 0 ≤ x ∧ x < 10000) (fun q => 12 - q.1.length) ⟨([], 0, h, r), ⟨by simp, Int.le_refl _, by simp⟩, ?_⟩ fun q hq => ?_
 ·simp only [wn, wq, simprocAttr]
  try rfl
 obtain ⟨xs, i, h, r⟩ := q
 obtain ⟨hk, hi, hx⟩ := hq
 simp only at hk hi hx ⊢
 repeat refine VW.seq ?_
 refine VW.regl hT fun K hK => ?_
 simp only [wq, simprocAttr]
 refine hK _ ?_
 clear hK K
 try refine vthen_n ?_
 repeat refine VW.seq ?_
 refine VW.cond rfl (fun hc => ?_) (fun hc => ?_)
 ·have hlt : xs.length < 12 := by
   have : (xs.length : Int) < 12 := of_decide_eq_true hc
   omega
  refine VW.skip (vthen_n ?_)
  repeat refine VW.seq ?_
  refine VW.block ?_
  repeat refine VW.seq ?_
  refine VW.regl hT fun K hK => ?_
  simp only [wq, simprocAttr]
  refine vcall_io 0 ?_
  simp only [wq, simprocAttr]
  refine vxcall_ex (below_vx A c r b i h 10000 hi hl (by omega)) ?_
  rintro pv ot ⟨m1, i1, h1, r1, rfl, ha1, hb1, hi1, rfl⟩
  simp only [wq, simprocAttr]
  refine ⟨by simp [limOk]; omega, ?_⟩
  refine hK _ ?_
  clear hK K
  try refine vthen_n ?_
  repeat refine VW.seq ?_
  refine VW.regl hT fun K hK => ?_
  simp only [wq, simprocAttr]
  refine hK _ ?_
  clear hK K
  try refine vthen_n ?_
  refine ⟨(xs ++ [m1], i1, h1, r1), ⟨by show (xs ++ [m1]).length ≤ 12; simp; omega, hi1, fun x hx' => ?_⟩, ?_, by show 12 - (xs ++ [m1]).length < 12 - xs.length; simp; omega⟩
  ·rcases List.mem_append.1 hx' with h2 | h2
   ·exact hx x h2
   ·obtain rfl : x = m1 := by simpa using h2
    exact ⟨ha1, hb1⟩
  ·simp only [wn, wq, simprocAttr]
   rw [wrap64 (by omega) (by omega), show (xs.length : Int) + 1 = (((xs ++ [m1]).length : Nat) : Int) by simp]
 ·have hge : xs.length = 12 := by
   have : ¬ (xs.length : Int) < 12 := of_decide_eq_false hc
   omega
  refine VW.exit ?_
  show vthen _ _ _ .normal _
  refine vthen_n ?_
  repeat refine VW.seq ?_
  refine VW.regl hT fun K hK => ?_
  simp only [wq, simprocAttr]
  refine hK _ ?_
  clear hK K
  try refine vthen_n ?_
  exact VW.ret ⟨.inl rfl, _, rfl, xs, rfl, hge, hx⟩
end Go.Proofs.YtmechjnfeidnkaaGreat.V.W
end
section
namespace Go.Proofs.YtmechjnfeidnkaaGreat.V.W
open Go Go.RowKit
set_option maxRecDepth 20000 in
theorem libIntEq_vc (xs ys : List (Int)) (hl : xs.length * 8 ≤ 140737488351232) : VC Tryz.prog 61 [.v false (.sl 3 (.int .i64)) xs, .v false (.sl 3 (.int .i64)) ys] (· = .v false .bool (decide (xs = ys))) := by
 refine VC.of_body hT Tryz.func61 rfl (by kernel_rfl) [(.tmp 4, false, .bool)] (by kernel_rfl) ?_
 show VW _ _ ([.v false (.sl 3 (.int .i64)) xs, .v false (.sl 3 (.int .i64)) ys, D, D, D, D, D, D, D, D, D, D, D, D, D, D, D, D, D, D, D, D, D, D, D, D]) _
 repeat refine VW.seq ?_
 refine VW.regl hT fun K hK => ?_
 simp only [wq, simprocAttr]
 refine hK _ ?_
 clear hK K
 try refine vthen_n ?_
 repeat refine VW.seq ?_
 refine VW.regl hT fun K hK => ?_
 simp only [wq, simprocAttr]
 refine hK _ ?_
 clear hK K
 try refine vthen_n ?_
 repeat refine VW.seq ?_
 refine VW.cond rfl (fun hc => ?_) (fun hc => ?_)
 ·repeat refine VW.seq ?_
  refine VW.regl hT fun K hK => ?_
  simp only [wq, simprocAttr]
  refine hK _ ?_
  clear hK K
  try refine vthen_n ?_
  refine VW.ret ⟨.inl rfl, _, rfl, ?_⟩
  have : xs ≠ ys := fun e => by subst e; simp at hc
  simp [this]
 have hlen : xs.length = ys.length := by simp at hc; omega
 refine VW.skip (vthen_n ?_)
 repeat refine VW.seq ?_
 refine VW.regl hT fun K hK => ?_
 simp only [wq, simprocAttr]
 refine hK _ ?_
 clear hK K
 try refine vthen_n ?_
 repeat refine VW.seq ?_
 refine VW.block ?_
 refine VW.loop (α := Nat) [(0, none), (1, none), (12, none), (13, none)] (fun i => [.v false (.sl 3 (.int .i64)) xs, .v false (.sl 3 (.int .i64)) ys, D, D, D, D, D, D, D, D, D, D, .v false (.int .i64) (xs.length : Int), .v false (.int .i64) (i : Int), D, D, D, D, D, D, D, D, D, D, D, D]) (fun i => i ≤ xs.length ∧ ∀ k, k < i → xs.getD k 0 = ys.getD k 0) (fun i => xs.length - i) ⟨0, ⟨by omega, fun k hk => by omega⟩, ?_⟩ fun i ⟨hi, hk⟩ => ?_
 ·simp only [wn, wq, simprocAttr]
  try rfl
 repeat refine VW.seq ?_
 refine VW.regl hT fun K hK => ?_
 simp only [wq, simprocAttr]
 refine hK _ ?_
 clear hK K
 try refine vthen_n ?_
 repeat refine VW.seq ?_
 refine VW.cond rfl (fun hc => ?_) (fun hc => ?_)
 ·have hlt : i < xs.length := by simpa using hc
  refine VW.skip (vthen_n ?_)
  repeat refine VW.seq ?_
  refine VW.block ?_
  repeat refine VW.seq ?_
  refine VW.regl hT fun K hK => ?_
  simp only [wq, simprocAttr]
  refine hK _ ?_
  clear hK K
  try refine vthen_n ?_
  repeat refine VW.seq ?_
  refine VW.drawl hT hm (by kernel_rfl) fun K hK => ?_
  simp only [wq, simprocAttr]
  refine ⟨by simp; omega, by simp; omega, ?_⟩
  refine hK _ ?_
  clear hK K
  try refine vthen_n ?_
  repeat refine VW.seq ?_
  refine VW.cond rfl (fun hc => ?_) (fun hc => ?_)
  ·repeat refine VW.seq ?_
   refine VW.regl hT fun K hK => ?_
   simp only [wq, simprocAttr]
   refine hK _ ?_
   clear hK K
   try refine vthen_n ?_
   refine VW.ret ⟨.inl rfl, _, rfl, ?_⟩
   have : xs ≠ ys := fun e => by subst e; simp [eqv] at hc
   simp [this]
  ·have hxy : xs.getD i 0 = ys.getD i 0 := by
    have hc2 := hc
    rw [Bool.not_eq_false'] at hc2
    exact eq_of_beq hc2
   refine VW.skip ?_
   show vthen _ _ _ .normal _
   refine vthen_n ?_
   repeat refine VW.seq ?_
   refine VW.regl hT fun K hK => ?_
   simp only [wq, simprocAttr]
   refine hK _ ?_
   clear hK K
   try refine vthen_n ?_
   refine ⟨i + 1, ⟨hlt, fun k h => ?_⟩, ?_, by show xs.length - (i + 1) < xs.length - i; omega⟩
   ·rcases Nat.lt_or_ge k i with h1 | h1
    ·exact hk k h1
    ·obtain rfl : k = i := by omega
     exact hxy
   ·simp only [wn, wq, simprocAttr]
    rw [wrap64 (by omega) (by omega)]
    rfl
 ·have hc : xs.length ≤ i := by simpa using hc
  refine VW.exit ?_
  show vthen _ _ _ .normal _
  refine vthen_n ?_
  repeat refine VW.seq ?_
  refine VW.regl hT fun K hK => ?_
  simp only [wq, simprocAttr]
  refine hK _ ?_
  clear hK K
  try refine vthen_n ?_
  refine VW.ret ⟨.inl rfl, _, rfl, ?_⟩
  rw [row_eq 0 hlen fun k h => hk k (by omega)]
  simp
def isReplay (x : Fab) (ks : List Ac) (ns : List Int) : Bool := fabOk x && (decide (ks.length ≤ 40) && decide ((runActs x ks).2 = ns))
set_option maxRecDepth 20000 in
set_option maxHeartbeats 1000000 in
theorem isReplay_vc (x : Fab) (ks : List Ac) (ns : List Int) (hx : FabL x) (hgl : x.2.2.2.2.length ≤ 2000000) (hal : ks.length ≤ 2000000) (hnl : ns.length * 8 ≤ 140737488351232) : VC Tryz.prog 27 [.v true sFi x, .v false sAS ks, .v false sI ns] (· = .v false .bool (isReplay x ks ns)) := by
 refine VC.of_body hT Tryz.func27 rfl (by kernel_rfl) [(.tmp 6, false, .bool)] (by kernel_rfl) ?_
 have hra := runActs_vc x ks hx hgl hal
 have hfo := fabricOk_vc x hx
 generalize hr : isReplay x ks ns = r
 rw [isReplay] at hr
 have hrl := (runActs_sh x ks).2
 generalize runActs x ks = p at *
 obtain ⟨G, os⟩ := p
 have hrl : os.length ≤ 40 := hrl
 show VW _ _ ([.v true sFi x, .v false sAS ks, .v false sI ns, D, D, D, D, D, D, D, D, D, D, D, D, D, D, D, D, D, D, D, D, D, D, D, D]) _
 repeat refine VW.seq ?_
 refine VW.regl hT fun K hK => ?_
 simp only [wq, simprocAttr]
 refine hK _ ?_
 clear hK K
 try refine vthen_n ?_
 repeat refine VW.seq ?_
 refine VW.regl hT fun K hK => ?_
 simp only [wq, simprocAttr]
 refine vcall_of (hra) ?_
 simp only [wq, simprocAttr]
 refine hK _ ?_
 clear hK K
 try refine vthen_n ?_
 repeat refine VW.seq ?_
 refine VW.regl hT fun K hK => ?_
 simp only [wq, simprocAttr]
 refine vcall_of hfo ?_
 simp only [wq, simprocAttr]
 refine vbr (fun h => ?_) (fun h => ?_) <;> simp only [wq, simprocAttr]
 case refine_2 =>
  have h : fabOk x = false := h
  refine hK _ ?_
  clear hK K
  try refine vthen_n ?_
  refine VW.ret ⟨.inl rfl, _, rfl, ?_⟩
  rw [← hr, h, Bool.false_and]
 have hf : fabOk x = true := h
 rw [hf, Bool.true_and] at hr
 refine vbr (fun h => ?_) (fun h => ?_) <;> simp only [wq, simprocAttr]
 case refine_2 =>
  have h : decide ((ks.length : Int) ≤ 40) = false := h
  have h2 : ¬ ks.length ≤ 40 := by have := of_decide_eq_false h; omega
  refine hK _ ?_
  clear hK K
  try refine vthen_n ?_
  refine VW.ret ⟨.inl rfl, _, rfl, ?_⟩
  rw [← hr, decide_eq_false h2, Bool.false_and]
 have h : decide ((ks.length : Int) ≤ 40) = true := h
 have h2 : ks.length ≤ 40 := by have := of_decide_eq_true h; omega
 rw [decide_eq_true h2, Bool.true_and] at hr
 refine vcall_of (libIntEq_vc os ns (by omega)) ?_
 simp only [wq, simprocAttr]
 refine hK _ ?_
 clear hK K
 try refine vthen_n ?_
 refine VW.ret ⟨.inl rfl, _, rfl, ?_⟩
 rw [← hr]
theorem wrap_ne {v : Int} : ¬ IntKind.i64.wrap (v + 1) = v := by
 intro h
 simp [IntKind.wrap, IntKind.bits, IntKind.signed] at h
 omega
set_option maxRecDepth 40000 in
set_option maxHeartbeats 4000000 in
theorem law_fnReplays (b : List Int) : VC Tryz.prog 5 [.v false sB b] (· = .v false .bool true) := by
 refine VC.of_body hT Tryz.func5 rfl (by kernel_rfl) [(.tmp 2, false, .bool)] (by kernel_rfl) ?_
 show VW _ _ ([.v false sB b, D, D, D, D, D, D, D, D, D, D, D, D, D, D, D, D, D, D, D, D, D, D, D, D, D, D, D, D, D, D, D, D, D, D, D, D, D, D, D, D, D, D, D, D, D, D, D, D, D, D, D, D, D, D, D]) _
 repeat refine VW.seq ?_
 refine VW.regl hT fun K hK => ?_
 simp only [wq, simprocAttr]
 refine hK _ ?_
 clear hK K
 try refine vthen_n ?_
 repeat refine VW.seq ?_
 refine VW.regl hT fun K hK => ?_
 simp only [wq, simprocAttr]
 refine vcall_of (big_vc b) ?_
 simp only [wq, simprocAttr]
 refine hK _ ?_
 clear hK K
 try refine vthen_n ?_
 repeat refine VW.seq ?_
 refine VW.cond rfl (fun hc => ?_) (fun hc => ?_)
 ·repeat refine VW.seq ?_
  refine VW.regl hT fun K hK => ?_
  simp only [wq, simprocAttr]
  refine hK _ ?_
  clear hK K
  try refine vthen_n ?_
  exact VW.ret ⟨.inl rfl, _, rfl, rfl⟩
 have hb : b.length ≤ 1048576 := by
  have : ¬ (b.length : Int) > 1048576 := of_decide_eq_false hc
  omega
 refine VW.skip (vthen_n ?_)
 repeat refine VW.seq ?_
 refine VW.regl hT fun K hK => ?_
 simp only [wq, simprocAttr]
 refine vcall_ex (drawActs_vc b hb) ?_
 rintro pv ⟨x, ks, rfl, hx, hk⟩
 simp only [wq, simprocAttr]
 refine hK _ ?_
 clear hK K
 try refine vthen_n ?_
 obtain ⟨hL, hgl⟩ := fab_L hx
 obtain ⟨hrt, hro, hrx, hrl⟩ := runActs_ok hx (ks := ks) (by omega)
 have hrun := runActs_vc x ks hL (by omega) (by omega)
 have hir := fun ms (h : ms.length * 8 ≤ 140737488351232) => isReplay_vc x ks ms hL (by omega) (by omega) h
 have hie : ∀ ms, isReplay x ks ms = decide ((runActs x ks).2 = ms) := fun ms => by rw [isReplay, hx, decide_eq_true (show ks.length ≤ 40 by omega), Bool.true_and, Bool.true_and]
 generalize runActs x ks = p at *
 obtain ⟨G, ns⟩ := p
 have hrl : ns.length = ks.length := hrl
 have hie : ∀ ms, isReplay x ks ms = decide (ns = ms) := hie
 repeat refine VW.seq ?_
 refine VW.regl hT fun K hK => ?_
 simp only [wq, simprocAttr]
 refine vcall_of (hrun) ?_
 simp only [wq, simprocAttr]
 refine hK _ ?_
 clear hK K
 try refine vthen_n ?_
 repeat refine VW.seq ?_
 refine VW.regl hT fun K hK => ?_
 simp only [wq, simprocAttr]
 refine vcall_of (hir ns (by omega)) ?_
 rw [hie, decide_eq_true rfl]
 simp only [wq, simprocAttr]
 refine hK _ ?_
 clear hK K
 try refine vthen_n ?_
 repeat refine VW.seq ?_
 refine VW.cond rfl (fun hc => ?_) (fun hc => ?_)
 ·cases hc
 refine VW.skip (vthen_n ?_)
 repeat refine VW.seq ?_
 refine VW.regl hT fun K hK => ?_
 simp only [wq, simprocAttr]
 refine hK _ ?_
 clear hK K
 try refine vthen_n ?_
 repeat refine VW.seq ?_
 refine VW.cond rfl (fun hc => ?_) (fun hc => ?_)
 ·have hz : ns.length = 0 := by
   have hc : ((ns.length : Int) == 0) = true := hc
   have := eq_of_beq hc
   omega
  have hnil := List.eq_nil_of_length_eq_zero hz
  repeat refine VW.seq ?_
  refine VW.regl hT fun K hK => ?_
  simp only [wq, simprocAttr]
  refine vcall_of (hir [1] (by simp)) ?_
  rw [hie, decide_eq_false (by rw [hnil]; simp)]
  simp only [wq, simprocAttr]
  refine hK _ ?_
  clear hK K
  try refine vthen_n ?_
  exact VW.ret ⟨.inl rfl, _, rfl, rfl⟩
 have hz : 0 < ns.length := by
  have hc : ((ns.length : Int) == 0) = false := hc
  have := ne_of_beq_false hc
  omega
 refine VW.skip (vthen_n ?_)
 repeat refine VW.seq ?_
 refine VW.regl hT fun K hK => ?_
 simp only [wq, simprocAttr]
 refine vcall_ex (drawPlaces_vc b hb) ?_
 rintro pv ⟨ps, rfl, hp1, hp2⟩
 simp only [wq, simprocAttr]
 refine hK _ ?_
 clear hK K
 try refine vthen_n ?_
 repeat refine VW.seq ?_
 refine VW.regl hT fun K hK => ?_
 simp only [wq, simprocAttr]
 refine ⟨decide_eq_true (show (0 : Int) < (ps.length : Int) by omega), decide_eq_false (show ¬ (ns.length : Int) = 0 by omega), ?_⟩
 have hq0 := rem_lt (a := ps.getD 0 0) (n := (ns.length : Int)) (hp2 _ (getD_mem (by omega))).1 (by omega)
 refine hK _ ?_
 clear hK K
 try refine vthen_n ?_
 generalize Int.tmod (ps.getD 0 0) (ns.length : Int) = q at *
 have hJ : decide (0 ≤ q ∧ q < (ns.length : Int)) = true := decide_eq_true hq0
 repeat refine VW.seq ?_
 refine VW.regl hT fun K hK => ?_
 simp only [wq, simprocAttr]
 refine ⟨hJ, hJ, ?_⟩
 refine hK _ ?_
 clear hK K
 try refine vthen_n ?_
 have hne : ¬ ns = ns.set q.toNat (IntKind.i64.wrap (ns.getD q.toNat 0 + 1)) := fun e => by
  have h1 : (ns.set q.toNat (IntKind.i64.wrap (ns.getD q.toNat 0 + 1))).getD q.toNat 0 = IntKind.i64.wrap (ns.getD q.toNat 0 + 1) := by
   rw [List.getD_eq_getElem?_getD, List.getElem?_set_self (show q.toNat < ns.length by omega)]
   rfl
  rw [← e] at h1
  exact wrap_ne h1.symm
 repeat refine VW.seq ?_
 refine VW.regl hT fun K hK => ?_
 simp only [wq, simprocAttr]
 refine vcall_of (hir (ns.set q.toNat (IntKind.i64.wrap (ns.getD q.toNat 0 + 1))) (by rw [List.length_set]; omega)) ?_
 rw [hie, decide_eq_false hne]
 simp only [wq, simprocAttr]
 refine hK _ ?_
 clear hK K
 try refine vthen_n ?_
 exact VW.ret ⟨.inl rfl, _, rfl, rfl⟩
end Go.Proofs.YtmechjnfeidnkaaGreat.V.W
namespace Go.Proofs.YtmechjnfeidnkaaGreat.V
open Go Go.RowKit
theorem fnReplays_vc (b : List Int) (w0 : wfS Tryz.prog (.sl 5 (.int .u8)) b) : VC Tryz.prog 5 [.v false (.sl 5 (.int .u8)) b] (· = .v false .bool true) := W.law_fnReplays b
end Go.Proofs.YtmechjnfeidnkaaGreat.V
end

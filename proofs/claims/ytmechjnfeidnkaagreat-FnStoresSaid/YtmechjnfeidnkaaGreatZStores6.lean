/- Texts S7 in one. No condition. -/
import Derived.Test.YtmechjnfeidnkaaGreatZStores5
set_option linter.unnecessarySimpa false
set_option linter.unusedSimpArgs false
set_option linter.unusedVariables false
section
namespace Go.Proofs.YtmechjnfeidnkaaGreat.V.W
open Go Go.RowKit
set_option maxRecDepth 40000 in
set_option maxHeartbeats 4000000 in
theorem law_fnStores (b : List Int) : VC Tryz.prog 3 [.v false sB b] (· = .v false .bool true) := by
 refine VC.of_body hT Tryz.func3 rfl (by kernel_rfl) [(.tmp 2, false, .bool)] (by kernel_rfl) ?_
 show VW _ _ ([.v false sB b, D, D, D, D, D, D, D, D, D, D, D, D, D, D, D, D, D, D, D, D, D, D, D, D, D, D, D, D, D, D, D, D, D, D, D, D, D, D, D, D, D, D, D, D, D, D, D, D, D, D, D, D, D, D, D, D, D, D, D, D, D, D, D, D, D, D, D, D, D, D, D, D, D, D, D, D, D, D, D, D, D, D, D, D, D, D, D, D, D, D, D, D, D, D, D, D, D, D, D, D, D, D, D, D, D, D, D, D, D, D, D, D, D, D, D, D, D, D, D, D, D, D, D, D, D, D, D, D, D, D, D, D, D, D, D, D, D, D, D, D, D, D, D, D, D, D, D, D, D, D, D, D, D, D, D, D, D, D, D, D, D, D, D, D, D, D, D, D, D, D, D, D, D, D, D, D, D, D, D, D, D, D, D, D, D, D, D, D, D, D, D, D, D, D, D, D, D, D, D, D, D, D, D]) _
 repeat refine VW.seq ?_
 refine VW.regl hT fun K hK => ?_
 simp only [wq, simprocAttr]
 refine hK _ ?_
 clear hK K
 try refine vthen_n ?_
 repeat refine VW.seq ?_
 refine VW.regl hT fun K hK => ?_
 simp only [wq, simprocAttr]
 refine vcall_of (big_vc b) ?_
 simp only [wq, simprocAttr]
 refine hK _ ?_
 clear hK K
 try refine vthen_n ?_
 repeat refine VW.seq ?_
 refine VW.cond rfl (fun hc => ?_) (fun hc => ?_)
 ·repeat refine VW.seq ?_
  refine VW.regl hT fun K hK => ?_
  simp only [wq, simprocAttr]
  refine hK _ ?_
  clear hK K
  try refine vthen_n ?_
  exact VW.ret ⟨.inl rfl, _, rfl, rfl⟩
 have hb : b.length ≤ 1048576 := by
  have : ¬ (b.length : Int) > 1048576 := of_decide_eq_false hc
  omega
 refine VW.skip (vthen_n ?_)
 repeat refine VW.seq ?_
 refine VW.regl hT fun K hK => ?_
 simp only [wq, simprocAttr]
 refine vcall_ex (drawReach_vc b hb) ?_
 rintro pv ⟨x, fr, ad, rfl, hx, ha⟩
 simp only [wq, simprocAttr]
 refine hK _ ?_
 clear hK K
 try refine vthen_n ?_
 repeat refine VW.seq ?_
 refine VW.regl hT fun K hK => ?_
 simp only [wq, simprocAttr]
 refine vcall_ex (drawRead_vc b hb) ?_
 rintro pv ⟨pk, d0, rfl, hd0, hd1⟩
 simp only [wq, simprocAttr]
 refine hK _ ?_
 clear hK K
 try refine vthen_n ?_
 repeat refine VW.seq ?_
 refine VW.regl hT fun K hK => ?_
 simp only [wq, simprocAttr]
 refine vcall_ex (drawPlaces_vc b hb) ?_
 rintro pv ⟨ps, rfl, hp1, hp2⟩
 simp only [wq, simprocAttr]
 refine hK _ ?_
 clear hK K
 try refine vthen_n ?_
 obtain ⟨n, hn1, hn2, hn3⟩ : ∃ n : Nat, (if 4 < (d0.length : Int) then (4 : Int) else (d0.length : Int)) = (n : Int) ∧ n ≤ d0.length ∧ n ≤ 4 := by
  by_cases h4 : 4 < (d0.length : Int)
  ·exact ⟨4, by rw [if_pos h4]; rfl, by omega, Nat.le_refl _⟩
  ·exact ⟨d0.length, by rw [if_neg h4], Nat.le_refl _, by omega⟩
 repeat refine VW.seq ?_
 refine VW.regl hT fun K hK => ?_
 simp only [wq, simprocAttr]
 rw [hn1, Int.toNat_natCast]
 refine ⟨decide_eq_true ⟨Int.natCast_nonneg _, by omega⟩, ?_⟩
 refine hK _ ?_
 clear hK K
 try refine vthen_n ?_
 have hwd : words (d0.take n) = true := words_iff.2 fun y hy => words_iff.1 hd0 y (List.mem_of_mem_take hy)
 have hdl : (d0.take n).length ≤ 4 := by rw [List.length_take]; omega
 generalize d0.take n = d at *
 clear hd0 hd1 hn1 hn2 hn3
 obtain ⟨hL, hgl⟩ := fab_L hx
 have hst := storeWords_vc x fr ad d hL (by omega) ha (by omega)
 have hta := targetOf_vc x fr ad d.length hL
 obtain ⟨hso, hsx⟩ := storeW_ok (fr := fr) (d := d) hx ha
 have hsL := (fab_L hso).1
 have hsf := fabricOk_vc _ hsL
 rw [hso] at hsf
 obtain ⟨t, s, w, m, g⟩ := x
 obtain ⟨z1, z2, z3, z4, z5, z6⟩ := fab_szs hx
 have hk := target_fst (x := (t, s, w, m, g)) (fr := fr) (a := ad) (l := d.length) (by show 1 ≤ w.length; omega) z3
 have hsw : storeW (t, s, w, m, g) fr ad d = if (targetOf (t, s, w, m, g) fr ad d.length).2 = 0 then ((t, s, w, m.set (targetOf (t, s, w, m, g) fr ad d.length).1.toNat (over (m.getD (targetOf (t, s, w, m, g) fr ad d.length).1.toNat []) (IntKind.i64.wrap (ad - (w.getD (targetOf (t, s, w, m, g) fr ad d.length).1.toNat zb).2)).toNat d), g), 0) else ((t, s, w, m, g), (targetOf (t, s, w, m, g) fr ad d.length).2) := by
  rw [storeW, if_pos hwd]
 have hgood := fun k (h : targetOf (t, s, w, m, g) fr ad d.length = (k, 0)) => target_good h ha
 have hoth := fun k o M (h : targetOf (t, s, w, m, g) fr ad d.length = (k, 0)) (hf : fabOk (t, s, w, M, g) = true) (ho : inB o 0 (t.length - 1) = true) => target_other h hf ho
 have hsml : (storeW (t, s, w, m, g) fr ad d).1.2.2.2.1.length = m.length := (storeW_sh (t, s, w, m, g) fr ad d ha).d
 generalize targetOf (t, s, w, m, g) fr ad d.length = q at *
 obtain ⟨k, c⟩ := q
 have hk : 0 ≤ k ∧ k < (w.length : Int) := hk
 have hsw : storeW (t, s, w, m, g) fr ad d = if c = 0 then ((t, s, w, m.set k.toNat (over (m.getD k.toNat []) (IntKind.i64.wrap (ad - (w.getD k.toNat zb).2)).toNat d), g), 0) else ((t, s, w, m, g), c) := hsw
 have hs2 : (storeW (t, s, w, m, g) fr ad d).2 = c := by
  rw [hsw]
  split
  ·rename_i h; exact h.symm
  ·rfl
 generalize storeW (t, s, w, m, g) fr ad d = G at *
 obtain ⟨G, c'⟩ := G
 obtain rfl : c' = c := hs2
 obtain ⟨Gt, Gs, Gw, Gm, Gg⟩ := G
 have hsml : Gm.length = m.length := hsml
 repeat refine VW.seq ?_
 refine VW.regl hT fun K hK => ?_
 simp only [wq, simprocAttr]
 refine vcall_of (hst) ?_
 simp only [wq, simprocAttr]
 refine hK _ ?_
 clear hK K
 try refine vthen_n ?_
 repeat refine VW.seq ?_
 refine VW.regl hT fun K hK => ?_
 simp only [wq, simprocAttr]
 refine vcall_of (hta) ?_
 simp only [wq, simprocAttr]
 refine hK _ ?_
 clear hK K
 try refine vthen_n ?_
 repeat refine VW.seq ?_
 refine VW.regl hT fun K hK => ?_
 simp only [wq, simprocAttr]
 refine vcall_of hsf ?_
 simp only [wq, simprocAttr]
 have hk0 : decide (k < 0) = false := decide_eq_false (by omega)
 rw [hk0]
 simp only [wq, simprocAttr]
 have hk1 : decide (k ≥ (w.length : Int)) = false := decide_eq_false (by omega)
 rw [hk1]
 simp only [wq, simprocAttr]
 refine hK _ ?_
 clear hK K
 try refine vthen_n ?_
 repeat refine VW.seq ?_
 refine VW.cond rfl (fun hc => ?_) (fun hc => ?_)
 ·have hc : (!((Gm.length : Int) == (m.length : Int))) = true := hc
  rw [hsml, beq_self_eq_true] at hc
  cases hc
 refine VW.skip (vthen_n ?_)
 repeat refine VW.seq ?_
 refine VW.regl hT fun K hK => ?_
 simp only [wq, simprocAttr]
 refine hK _ ?_
 clear hK K
 try refine vthen_n ?_
 repeat refine VW.seq ?_
 refine VW.cond rfl (fun hc => ?_) (fun hc => ?_)
 ·have hc : ¬ c' = 0 := by simpa using hc
  rw [if_neg hc] at hsw
  obtain ⟨rfl, rfl, rfl, rfl, rfl⟩ : Gt = t ∧ Gs = s ∧ Gw = w ∧ Gm = m ∧ Gg = g := by
   have := (Prod.mk.inj hsw).1
   simp only [Prod.mk.injEq] at this
   exact this
  have hB : FabB (Gt, Gs, Gw, Gm, Gg) := ⟨by have := hL.a; show Gt.length * 24 ≤ _; omega, by show Gs.length * 8 ≤ _; omega, by show Gw.length * 16 ≤ _; omega, by show Gm.length * 24 ≤ _; omega, fun k => by have := hL.e k; show (Gm.getD k []).length * 8 ≤ _; have : (Gm.getD k []).length ≤ 2000000 := this; omega, by show Gg.length * 1 ≤ _; omega⟩
  repeat refine VW.seq ?_
  refine VW.regl hT fun K hK => ?_
  simp only [wq, simprocAttr]
  refine vcall_of (sameFabric_vc _ _ hB) ?_
  simp only [wq, simprocAttr]
  refine hK _ ?_
  clear hK K
  try refine vthen_n ?_
  exact VW.ret ⟨.inl rfl, _, rfl, rfl⟩
 have hc : c' = 0 := by simpa using hc
 subst hc
 rw [if_pos rfl] at hsw
 obtain ⟨j, lo, dn, rfl, hdn, g1, g2, g3, g4, g5, g6, -⟩ := hgood k rfl
 obtain rfl : d.length = dn := by omega
 have hsw : ((Gt, Gs, Gw, Gm, Gg), (0 : Int)) = ((t, s, w, m.set ((j : Int)).toNat (over (m.getD ((j : Int)).toNat []) (IntKind.i64.wrap (ad - (w.getD ((j : Int)).toNat zb).2)).toNat d), g), 0) := hsw
 rw [Int.toNat_natCast, g3, Int.toNat_natCast] at hsw
 obtain ⟨e1, e2, e3, e4, e5⟩ : t = Gt ∧ s = Gs ∧ w = Gw ∧ m.set j (over (m.getD j []) lo d) = Gm ∧ g = Gg := by
  have := (Prod.mk.inj hsw).1
  simp only [Prod.mk.injEq] at this
  exact ⟨this.1.symm, this.2.1.symm, this.2.2.1.symm, this.2.2.2.1.symm, this.2.2.2.2.symm⟩
 subst e1 e2 e3 e5
 have hMj : Gm.getD j [] = over (m.getD j []) lo d := by
  rw [← e4, getD_setL _ _ _ _ _ g1, if_pos rfl]
 have hMo : ∀ i, ¬ i = j → Gm.getD i [] = m.getD i [] := fun i hi => by
  rw [← e4, getD_setL _ _ _ _ _ g1, if_neg hi]
 have hMl : ∀ i, (Gm.getD i []).length = (m.getD i []).length := fun i => by
  by_cases e : i = j
  ·rw [e, hMj, over_len g5]
  ·rw [hMo i e]
 clear e4 hsw
 refine VW.skip (vthen_n ?_)
 have hA : decide ((0 : Int) < (ps.length : Int)) = true := decide_eq_true (by omega)
 have hB : decide ((t.length : Int) = 0) = false := decide_eq_false (by omega)
 have hq0 := rem_lt (a := ps.getD 0 0) (n := (t.length : Int)) (hp2 _ (getD_mem (by omega))).1 (by omega)
 repeat refine VW.seq ?_
 refine VW.mixl hT hm 0 7 (by kernel_rfl) fun K hK => ?_
 simp only [wq, simprocAttr]
 repeat (first | refine ⟨hA, ?_⟩ | refine ⟨hB, ?_⟩ | refine ⟨by kernel_rfl, ?_⟩)
 refine hK _ ?_
 clear hK K
 try refine vthen_n ?_
 generalize Int.tmod (ps.getD 0 0) (t.length : Int) = q at *
 have hin : inB q 0 (t.length - 1) = true := inB_iff.2 (by omega)
 have hTg := hoth j q Gm rfl hso hin
 have hlw := loadWords_vc (t, s, w, Gm, g) q ad d.length hsL ha
 have hcr := canReach_vc t g q j (by omega)
 have hlo : IntKind.i64.wrap (ad - (w.getD j zb).2) = (lo : Int) := g3
 apply cutl
 ·intro tail
  by_cases hr : canReach t g q j = true
  ·rw [if_pos hr] at hTg
   have hld : loadW (t, s, w, Gm, g) q ad d.length = (d, 0) := by
    rw [loadW, hTg, if_pos rfl]
    show (((Gm.getD ((j : Int)).toNat []).drop (IntKind.i64.wrap (ad - (w.getD ((j : Int)).toNat zb).2)).toNat).take ((d.length : Int)).toNat, (0 : Int)) = _
    rw [Int.toNat_natCast, Int.toNat_natCast, g3, Int.toNat_natCast, hMj, over_read g5]
   rw [hld] at hlw
   rw [hr] at hcr
   repeat refine VW.seq ?_
   refine VW.regl hT fun K hK => ?_
   simp only [wq, simprocAttr]
   refine vcall_of hlw ?_
   simp only [wq, simprocAttr]
   refine hK _ ?_
   clear hK K
   try refine vthen_n ?_
   repeat refine VW.seq ?_
   refine VW.regl hT fun K hK => ?_
   simp only [wq, simprocAttr]
   refine vcall_of hcr ?_
   simp only [wq, simprocAttr]
   rw [show (!eqv Sh.bool true true) = false from rfl]
   simp only [wq, simprocAttr]
   refine vcall_of (sameInts_vc d d (by omega)) ?_
   simp only [wq, simprocAttr]
   refine hK _ ?_
   clear hK K
   try refine vthen_n ?_
   repeat refine VW.seq ?_
   refine VW.cond rfl (fun hc => ?_) (fun hc => ?_)
   ·simp at hc
   refine VW.skip (vthen_n ?_)
   refine VW.weak (weak_norm [(3, none), (5, none), (7, none), (9, none), (11, none)] _) ?_
   simp only [wn, wq, simprocAttr]
   exact tail.h
  ·rw [if_neg hr] at hTg
   have hr : canReach t g q j = false := by simpa using hr
   have hld : loadW (t, s, w, Gm, g) q ad d.length = ([], 2) := by
    rw [loadW, hTg, if_neg (show ¬ (2 : Int) = 0 by decide)]
   rw [hld] at hlw
   rw [hr] at hcr
   repeat refine VW.seq ?_
   refine VW.regl hT fun K hK => ?_
   simp only [wq, simprocAttr]
   refine vcall_of hlw ?_
   simp only [wq, simprocAttr]
   refine hK _ ?_
   clear hK K
   try refine vthen_n ?_
   repeat refine VW.seq ?_
   refine VW.regl hT fun K hK => ?_
   simp only [wq, simprocAttr]
   refine vcall_of hcr ?_
   simp only [wq, simprocAttr]
   rw [show (!eqv Sh.bool false false) = false from rfl]
   simp only [wq, simprocAttr]
   refine hK _ ?_
   clear hK K
   try refine vthen_n ?_
   repeat refine VW.seq ?_
   refine VW.cond rfl (fun hc => ?_) (fun hc => ?_)
   ·cases hc
   refine VW.skip (vthen_n ?_)
   refine VW.weak (weak_norm [(3, none), (5, none), (7, none), (9, none), (11, none)] _) ?_
   simp only [wn, wq, simprocAttr]
   exact tail.h
 repeat refine VW.seq ?_
 refine VW.regl hT fun K hK => ?_
 simp only [wq, simprocAttr]
 refine ⟨decide_eq_true ⟨Int.natCast_nonneg _, by show (j : Int) < (w.length : Int); omega⟩, ?_⟩
 refine hK _ ?_
 clear hK K
 try refine vthen_n ?_
 rw [hlo]
 repeat refine VW.seq ?_
 refine VW.regl hT fun K hK => ?_
 simp only [wq, simprocAttr]
 refine hK _ ?_
 clear hK K
 try refine vthen_n ?_
 have hmr : ∀ i, (m.getD i []).length ≤ 2000000 := hL.e
 have hval : ∀ i, i < m.length → ∀ n, (Gm.getD i []).getD n 0 = if i = j ∧ lo ≤ n ∧ n < lo + d.length then d.getD (n - lo) 0 else (m.getD i []).getD n 0 := fun i hi n => by
  by_cases e : i = j
  ·subst e
   rw [hMj, over_get g5]
   by_cases h2 : lo ≤ n ∧ n < lo + d.length
   ·rw [if_pos h2, if_pos ⟨rfl, h2⟩]
   ·rw [if_neg h2, if_neg fun h => h2 h.2]
  ·rw [hMo i e, if_neg fun h => e h.1]
 clear hst hta hsf hsL hso hgood hoth hlw hcr hTg
 repeat refine VW.seq ?_
 refine VW.block ?_
 refine VW.loop (α := Nat) [(3, none), (7, none), (9, none), (11, none), (16, none), (17, none)] (fun i => [D, D, D, .root (.box 32) sFi fFab (t, s, w, m, g), D, D, D, .root (.val false) sI .own d, D, .root (.box 32) sFi fFab (t, s, w, Gm, g), D, .v false (.int .i64) ((j : Nat)), D, D, D, D, .v false (.int .i64) ((lo : Nat)), .v false (.int .i64) ((i : Nat)), D, D, D, D, D, D, D, D, D, D, D, D, D, D, D, D, D, D, D, D, D, D, D, D, D, D, D, D, D, D, D, D, D, D, D, D, D, D, D, D, D, D, D, D, D, D, D, D, D, D, D, D, D, D, D, D, D, D, D, D, D, D, D, D, D, D, D, D, D, D, D, D, D, D, D, D, D, D, D, D, D, D, D, D, D, D, D, D, D, D, D, D, D, D, D, D, D, D, D, D, D, D, D, D, D, D, D, D, D, D, D, D, D, D, D, D, D, D, D, D, D, D, D, D, D, D, D, D, D, D, D, D, D, D, D, D, D, D, D, D, D, D, D, D, D, D, D, D, D, D, D, D, D, D, D, D, D, D, D, D, D, D, D, D, D, D, D, D, D, D, D, D, D, D, D, D, D, D, D, D, D, D, D, D, D, D]) (fun i => i ≤ m.length) (fun i => m.length - i) ⟨0, Nat.zero_le _, ?_⟩ fun i hi => ?_
 ·simp only [wn, wq, simprocAttr]
  try rfl
 repeat refine VW.seq ?_
 refine VW.regl hT fun K hK => ?_
 simp only [wq, simprocAttr]
 refine hK _ ?_
 clear hK K
 try refine vthen_n ?_
 repeat refine VW.seq ?_
 refine VW.cond rfl (fun hc => ?_) (fun hc => ?_)
 ·have hlt : i < m.length := by simpa using hc
  have hI : decide (0 ≤ (i : Int) ∧ (i : Int) < (m.length : Int)) = true := decide_eq_true ⟨Int.natCast_nonneg _, by omega⟩
  have hIG : decide (0 ≤ (i : Int) ∧ (i : Int) < (Gm.length : Int)) = true := decide_eq_true ⟨Int.natCast_nonneg _, by omega⟩
  have hmri := hmr i
  have hMli := hMl i
  have hvi := hval i hlt
  refine VW.skip (vthen_n ?_)
  repeat refine VW.seq ?_
  refine VW.block ?_
  repeat refine VW.seq ?_
  refine VW.drawl hT hm (by kernel_rfl) fun K hK => ?_
  simp only [wq, simprocAttr]
  repeat (first | refine ⟨hI, ?_⟩ | refine ⟨hIG, ?_⟩ | refine ⟨by kernel_rfl, ?_⟩)
  refine hK _ ?_
  clear hK K
  try refine vthen_n ?_
  repeat refine VW.seq ?_
  refine VW.cond rfl (fun hc => ?_) (fun hc => ?_)
  ·have hc : (!(((Gm.getD i []).length : Int) == ((m.getD i []).length : Int))) = true := hc
   rw [hMli, beq_self_eq_true] at hc
   cases hc
  refine VW.skip (vthen_n ?_)
  repeat refine VW.seq ?_
  refine VW.regl hT fun K hK => ?_
  simp only [wq, simprocAttr]
  refine hK _ ?_
  clear hK K
  try refine vthen_n ?_
  repeat refine VW.seq ?_
  refine VW.block ?_
  refine VW.loop (α := Nat) [(3, none), (7, none), (9, none), (11, none), (16, none), (17, none), (18, none)] (fun n => [D, D, D, .root (.box 32) sFi fFab (t, s, w, m, g), D, D, D, .root (.val false) sI .own d, D, .root (.box 32) sFi fFab (t, s, w, Gm, g), D, .v false (.int .i64) ((j : Nat)), D, D, D, D, .v false (.int .i64) ((lo : Nat)), .v false (.int .i64) ((i : Nat)), .v false (.int .i64) ((n : Nat)), D, D, D, D, D, D, D, D, D, D, D, D, D, D, D, D, D, D, D, D, D, D, D, D, D, D, D, D, D, D, D, D, D, D, D, D, D, D, D, D, D, D, D, D, D, D, D, D, D, D, D, D, D, D, D, D, D, D, D, D, D, D, D, D, D, D, D, D, D, D, D, D, D, D, D, D, D, D, D, D, D, D, D, D, D, D, D, D, D, D, D, D, D, D, D, D, D, D, D, D, D, D, D, D, D, D, D, D, D, D, D, D, D, D, D, D, D, D, D, D, D, D, D, D, D, D, D, D, D, D, D, D, D, D, D, D, D, D, D, D, D, D, D, D, D, D, D, D, D, D, D, D, D, D, D, D, D, D, D, D, D, D, D, D, D, D, D, D, D, D, D, D, D, D, D, D, D, D, D, D, D, D, D, D, D]) (fun n => n ≤ (m.getD i []).length) (fun n => (m.getD i []).length - n) ⟨0, Nat.zero_le _, ?_⟩ fun n hn => ?_
  ·simp only [wn, wq, simprocAttr]
   try rfl
  repeat refine VW.seq ?_
  refine VW.regl hT fun K hK => ?_
  simp only [wq, simprocAttr]
  refine ⟨hI, ?_⟩
  refine hK _ ?_
  clear hK K
  try refine vthen_n ?_
  repeat refine VW.seq ?_
  refine VW.cond rfl (fun hc => ?_) (fun hc => ?_)
  ·have hnl : n < (m.getD i []).length := by
    have : (n : Int) < ((m.getD i []).length : Int) := of_decide_eq_true hc
    omega
   have hN : decide (0 ≤ (n : Int) ∧ (n : Int) < ((m.getD i []).length : Int)) = true := decide_eq_true ⟨Int.natCast_nonneg _, by omega⟩
   have hNG : decide (0 ≤ (n : Int) ∧ (n : Int) < ((Gm.getD i []).length : Int)) = true := decide_eq_true ⟨Int.natCast_nonneg _, by omega⟩
   have hvn := hvi n
   refine VW.skip (vthen_n ?_)
   repeat refine VW.seq ?_
   refine VW.block ?_
   repeat refine VW.seq ?_
   refine VW.regl hT fun K hK => ?_
   simp only [wq, simprocAttr]
   refine ⟨hI, hN, ?_⟩
   refine hK _ ?_
   clear hK K
   try refine vthen_n ?_
   apply cutl
   ·intro tail
    have other : ¬ (i = j ∧ lo ≤ n ∧ n < lo + d.length) → (m.getD i []).getD n 0 = (Gm.getD i []).getD n 0 := fun h => by rw [hvn, if_neg h]
    repeat refine VW.seq ?_
    refine VW.regl hT fun K hK => ?_
    simp only [wq, simprocAttr]
    refine vbr (fun e1 => ?_) (fun e1 => ?_) <;> simp only [wq, simprocAttr]
    ·have e1 : i = j := by
      have e1 : ((i : Int) == (j : Int)) = true := e1
      have := eq_of_beq e1
      omega
     refine vbr (fun e2 => ?_) (fun e2 => ?_) <;> simp only [wq, simprocAttr]
     ·have e2 : lo ≤ n := by
       have : (n : Int) ≥ (lo : Int) := of_decide_eq_true e2
       omega
      rw [wrap64 (by omega) (by omega)]
      refine hK _ ?_
      clear hK K
      try refine vthen_n ?_
      repeat refine VW.seq ?_
      refine VW.cond rfl (fun hc => ?_) (fun hc => ?_)
      ·have e3 : n < lo + d.length := by
        have : (n : Int) < (lo : Int) + (d.length : Int) := of_decide_eq_true hc
        omega
       repeat refine VW.seq ?_
       refine VW.regl hT fun K hK => ?_
       simp only [wq, simprocAttr]
       rw [wrap64 (by omega) (by omega), show (n : Int) - (lo : Int) = ((n - lo : Nat) : Int) by omega, Int.toNat_natCast]
       refine ⟨decide_eq_true ⟨Int.natCast_nonneg _, by show ((n - lo : Nat) : Int) < (d.length : Int); omega⟩, ?_⟩
       refine hK _ ?_
       clear hK K
       try refine vthen_n ?_
       show vthen _ _ _ .normal _
       refine vthen_n ?_
       refine VW.weak (weak_norm [(3, none), (7, none), (9, none), (11, none), (16, none), (17, none), (18, none), (19, none)] _) ?_
       simp only [wn, wq, simprocAttr]
       rw [show d.getD (n - lo) 0 = (Gm.getD i []).getD n 0 from by rw [hvn, if_pos ⟨e1, e2, e3⟩]]
       exact tail.h
      ·have e3 : ¬ n < lo + d.length := by
        have : ¬ (n : Int) < (lo : Int) + (d.length : Int) := of_decide_eq_false hc
        omega
       refine VW.skip (vthen_n ?_)
       refine VW.weak (weak_norm [(3, none), (7, none), (9, none), (11, none), (16, none), (17, none), (18, none), (19, none)] _) ?_
       simp only [wn, wq, simprocAttr]
       rw [show (m.getD i []).getD n 0 = (Gm.getD i []).getD n 0 from other fun h => e3 h.2.2]
       exact tail.h
     ·have e2 : ¬ lo ≤ n := by
       have : ¬ (n : Int) ≥ (lo : Int) := of_decide_eq_false e2
       omega
      refine hK _ ?_
      clear hK K
      try refine vthen_n ?_
      repeat refine VW.seq ?_
      refine VW.cond rfl (fun hc => ?_) (fun hc => ?_)
      ·cases hc
      refine VW.skip (vthen_n ?_)
      refine VW.weak (weak_norm [(3, none), (7, none), (9, none), (11, none), (16, none), (17, none), (18, none), (19, none)] _) ?_
      simp only [wn, wq, simprocAttr]
      rw [show (m.getD i []).getD n 0 = (Gm.getD i []).getD n 0 from other fun h => e2 h.2.1]
      exact tail.h
    ·have e1 : ¬ i = j := fun e => by
      have e1 : ((i : Int) == (j : Int)) = false := e1
      rw [e, beq_self_eq_true] at e1
      cases e1
     refine hK _ ?_
     clear hK K
     try refine vthen_n ?_
     repeat refine VW.seq ?_
     refine VW.cond rfl (fun hc => ?_) (fun hc => ?_)
     ·cases hc
     refine VW.skip (vthen_n ?_)
     refine VW.weak (weak_norm [(3, none), (7, none), (9, none), (11, none), (16, none), (17, none), (18, none), (19, none)] _) ?_
     simp only [wn, wq, simprocAttr]
     rw [show (m.getD i []).getD n 0 = (Gm.getD i []).getD n 0 from other fun h => e1 h.1]
     exact tail.h
   repeat refine VW.seq ?_
   refine VW.regl hT fun K hK => ?_
   simp only [wq, simprocAttr]
   refine ⟨hIG, hNG, ?_⟩
   refine hK _ ?_
   clear hK K
   try refine vthen_n ?_
   repeat refine VW.seq ?_
   refine VW.cond rfl (fun hc => ?_) (fun hc => ?_)
   ·simp at hc
   refine VW.skip ?_
   show vthen _ _ _ .normal _
   refine vthen_n ?_
   repeat refine VW.seq ?_
   refine VW.regl hT fun K hK => ?_
   simp only [wq, simprocAttr]
   refine hK _ ?_
   clear hK K
   try refine vthen_n ?_
   refine ⟨n + 1, hnl, ?_, by show (m.getD i []).length - (n + 1) < (m.getD i []).length - n; omega⟩
   simp only [wn, wq, simprocAttr]
   rw [wrap64 (by omega) (by omega), show (n : Int) + 1 = ((n + 1 : Nat) : Int) by omega]
  ·refine VW.exit ?_
   show vthen _ _ _ .normal _
   refine vthen_n ?_
   repeat refine VW.seq ?_
   refine VW.regl hT fun K hK => ?_
   simp only [wq, simprocAttr]
   refine hK _ ?_
   clear hK K
   try refine vthen_n ?_
   refine ⟨i + 1, hlt, ?_, by show m.length - (i + 1) < m.length - i; omega⟩
   simp only [wn, wq, simprocAttr]
   rw [wrap64 (by omega) (by omega), show (i : Int) + 1 = ((i + 1 : Nat) : Int) by omega]
 ·refine VW.exit ?_
  show vthen _ _ _ .normal _
  refine vthen_n ?_
  repeat refine VW.seq ?_
  refine VW.regl hT fun K hK => ?_
  simp only [wq, simprocAttr]
  refine hK _ ?_
  clear hK K
  try refine vthen_n ?_
  exact VW.ret ⟨.inl rfl, _, rfl, rfl⟩
end Go.Proofs.YtmechjnfeidnkaaGreat.V.W
namespace Go.Proofs.YtmechjnfeidnkaaGreat.V
open Go Go.RowKit
theorem fnStores_vc (b : List Int) (w0 : wfS Tryz.prog (.sl 5 (.int .u8)) b) : VC Tryz.prog 3 [.v false (.sl 5 (.int .u8)) b] (· = .v false .bool true) := W.law_fnStores b
end Go.Proofs.YtmechjnfeidnkaaGreat.V
end

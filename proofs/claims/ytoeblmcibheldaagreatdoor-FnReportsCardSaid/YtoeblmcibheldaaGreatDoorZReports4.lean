/- Texts T2 E3 I1 W10 F0 F1 F2 W5 W6 F3 F4 N2 F5 F6 F7 F8 N1 F9 F10 F11 F12 R1 R2 R3 F13 F14 F15 in one. No condition. -/
import Derived.Test.YtoeblmcibheldaaGreatDoorZReports3
import Derived.Orders
set_option linter.unnecessarySimpa false
set_option linter.unusedSimpArgs false
set_option linter.unusedVariables false
section
namespace Go.Proofs.YtoeblmcibheldaaGreatDoor.V.W
open Go Go.RowKit
/-- the first and the last i turned -/
def revTo (xs : List Int) (i : Nat) : List Int := (List.range xs.length).map fun m => if m < i ∨ xs.length ≤ m + i then xs.getD (xs.length - 1 - m) 0 else xs.getD m 0
theorem revTo_len (xs : List Int) (i : Nat) : (revTo xs i).length = xs.length := by simp [revTo]
theorem revTo_get {xs : List Int} {i m : Nat} (h : m < xs.length) : (revTo xs i).getD m 0 = if m < i ∨ xs.length ≤ m + i then xs.getD (xs.length - 1 - m) 0 else xs.getD m 0 := by
 rw [revTo, List.getD_eq_getElem?_getD, List.getElem?_map, List.getElem?_range h]; rfl
theorem list_ext {xs ys : List Int} (h : xs.length = ys.length) (hg : ∀ m, m < xs.length → xs.getD m 0 = ys.getD m 0) : xs = ys := by
 refine List.ext_getElem h fun m h1 h2 => ?_
 have := hg m h1
 rwa [List.getD_eq_getElem?_getD, List.getElem?_eq_getElem h1, List.getD_eq_getElem?_getD, List.getElem?_eq_getElem h2] at this
theorem set_getD {xs : List Int} {j m : Nat} {y : Int} (h : m < xs.length) : (xs.set j y).getD m 0 = if j = m then y else xs.getD m 0 := by
 rw [List.getD_eq_getElem?_getD, List.getElem?_set, List.getD_eq_getElem?_getD]
 by_cases e : j = m
 ·subst e; simp [h]
 ·simp [e]
theorem revTo_zero (xs : List Int) : revTo xs 0 = xs := by
 refine list_ext (revTo_len _ _) fun m hm => ?_
 rw [revTo_len] at hm
 rw [revTo_get hm, if_neg (by omega)]
theorem revTo_done {xs : List Int} {i : Nat} (h : xs.length - 1 - i ≤ i) : revTo xs i = xs.reverse := by
 refine list_ext (by rw [revTo_len, List.length_reverse]) fun m hm => ?_
 rw [revTo_len] at hm
 rw [revTo_get hm, List.getD_eq_getElem?_getD (l := xs.reverse), List.getElem?_reverse hm, ← List.getD_eq_getElem?_getD]
 split
 ·rfl
 ·congr 1; omega
theorem revTo_step {xs : List Int} {i : Nat} (h : i < xs.length - 1 - i) : ((revTo xs i).set i (xs.getD (xs.length - 1 - i) 0)).set (xs.length - 1 - i) (xs.getD i 0) = revTo xs (i + 1) := by
 refine list_ext (by simp only [List.length_set, revTo_len]) fun m hm => ?_
 simp only [List.length_set, revTo_len] at hm
 rw [set_getD (by simp only [List.length_set, revTo_len]; exact hm), set_getD (by rw [revTo_len]; exact hm), revTo_get hm, revTo_get hm]
 by_cases e1 : xs.length - 1 - i = m
 ·rw [if_pos e1, if_pos (by omega)]; congr 1; omega
 ·rw [if_neg e1]
  by_cases e2 : i = m
  ·subst e2; rw [if_pos rfl, if_pos (by omega)]
  ·rw [if_neg e2]
   by_cases e3 : m < i ∨ xs.length ≤ m + i
   ·rw [if_pos e3, if_pos (by omega)]
   ·rw [if_neg e3, if_neg (by omega)]
set_option maxRecDepth 20000 in
theorem reverse_vx (xs : List Int) (h0 : 0 < xs.length) (hl : xs.length ≤ 2000000) :
  VX Tryz.prog 133 [.root (.val false) sI .own xs] 0 (fun pv ot => pv = nil0 ∧ ot = .root (.val false) sI .own xs.reverse) := by
 refine VX.of_rows hT Tryz.func133 rfl (by kernel_rfl) [] (by kernel_rfl) rfl rfl h0 fun l fi li e1 e2 => ?_
 obtain ⟨n, cp, rfl, rfl⟩ := io1 e1 e2
 show VW _ _ ([.root (.val false) sI (.io n cp) xs, D, D, D, D, D, D, D, D, D, D, D, D, D, D, D, D, D, D, D, D, D, D, D, D, D, D, D]) _
 repeat refine VW.seq ?_
 refine VW.regl hT fun K hK => ?_
 simp only [wq, simprocAttr]
 refine hK _ ?_
 clear hK K
 try refine vthen_n ?_
 rw [wrap64 (by omega) (by omega)]
 repeat refine VW.seq ?_
 refine VW.block ?_
 refine VW.loop (α := Nat) [(0, none), (2, none), (3, none)] (fun i => [.root (.val false) sI (.io n cp) (revTo xs i), D, .v false (.int .i64) (i), .v false (.int .i64) ((xs.length : Int) - 1 - i), D, D, D, D, D, D, D, D, D, D, D, D, D, D, D, D, D, D, D, D, D, D, D, D]) (fun i => 2 * i ≤ xs.length + 1) (fun i => xs.length + 1 - i) ⟨0, by omega, ?_⟩ fun i hi => ?_
 ·simp only [wn, wq, simprocAttr]
  rw [revTo_zero]
  simp
 repeat refine VW.seq ?_
 refine VW.regl hT fun K hK => ?_
 simp only [wq, simprocAttr]
 refine hK _ ?_
 clear hK K
 try refine vthen_n ?_
 have hrl := revTo_len xs i
 repeat refine VW.seq ?_
 refine VW.cond rfl (fun hc => ?_) (fun hc => ?_)
 ·have hlt : (i : Int) < (xs.length : Int) - 1 - i := of_decide_eq_true hc
  have hj : (xs.length : Int) - 1 - i = ((xs.length - 1 - i : Nat) : Int) := by omega
  rw [hj]
  refine VW.skip (vthen_n ?_)
  repeat refine VW.seq ?_
  refine VW.block ?_
  repeat refine VW.seq ?_
  refine VW.mixl hT hm 4 12 (by kernel_rfl) fun K hK => ?_
  simp only [wq, simprocAttr]
  refine ⟨by kernel_rfl, by kernel_rfl, decide_eq_true ⟨Int.natCast_nonneg _, by show ((xs.length - 1 - i : Nat) : Int) < ((revTo xs i).length : Int); omega⟩, by kernel_rfl, by kernel_rfl, by kernel_rfl, decide_eq_true ⟨Int.natCast_nonneg _, by show (i : Int) < ((revTo xs i).length : Int); omega⟩, by kernel_rfl, decide_eq_true ⟨Int.natCast_nonneg _, by show (i : Int) < ((revTo xs i).length : Int); omega⟩, decide_eq_true ⟨Int.natCast_nonneg _, by show ((xs.length - 1 - i : Nat) : Int) < ((List.set _ _ _).length : Int); rw [List.length_set]; omega⟩, ?_⟩
  have g1 : (revTo xs i).getD (xs.length - 1 - i) 0 = xs.getD (xs.length - 1 - i) 0 := by rw [revTo_get (by omega), if_neg (by omega)]
  have g2 : (revTo xs i).getD i 0 = xs.getD i 0 := by rw [revTo_get (by omega), if_neg (by omega)]
  rw [g1, g2, revTo_step (by omega)]
  refine hK _ ?_
  clear hK K
  try refine vthen_n ?_
  repeat refine VW.seq ?_
  refine VW.regl hT fun K hK => ?_
  simp only [wq, simprocAttr]
  refine hK _ ?_
  clear hK K
  try refine vthen_n ?_
  refine ⟨i + 1, by omega, ?_, by show xs.length + 1 - (i + 1) < xs.length + 1 - i; omega⟩
  simp only [wn, wq, simprocAttr]
  rw [wrap64 (by omega) (by omega), wrap64 (by omega) (by omega), show ((xs.length - 1 - i : Nat) : Int) - 1 = (xs.length : Int) - 1 - ((i + 1 : Nat) : Int) by omega]
  rfl
 ·have hge : ¬ (i : Int) < (xs.length : Int) - 1 - i := of_decide_eq_false hc
  refine VW.exit ?_
  refine ⟨.inr rfl, _, _, _, _, rfl, ⟨0, _, rfl⟩, ?_, rfl, ?_⟩
  ·show some [Value.slice (some ⟨n, 0, none⟩) (revTo xs i).length cp] = some [Value.slice (some ⟨n, 0, none⟩) xs.length cp]
   rw [hrl]
  ·show PV.root (.val false) sI .own (revTo xs i) = _
   rw [revTo_done (by omega)]
/-- the bridge i steps above -/
def anc (t : List Nd) (k : Int) : Nat → Int
 | 0 => k
 | i + 1 => (t.getD (anc t k i).toNat z).1
/-- a node and all above it, from the root on -/
def pathTo (t : List Nd) (k : Int) : List Int := if (treeOk t && inB k 0 (t.length - 1)) = true then (((List.range t.length).map (anc t k)).filter fun x => decide (0 ≤ x)).reverse else []
theorem anc_lt {t : List Nd} {k : Int} (h : treeOk t = true) (hk : k < t.length) : ∀ i, -1 ≤ k → -1 ≤ anc t k i ∧ anc t k i < t.length ∧ (0 ≤ anc t k i → anc t k i ≤ k - i)
 | 0, h0 => ⟨h0, hk, fun _ => by show k ≤ k - 0; omega⟩
 | i + 1, h0 => by
  have h1 := anc_lt h hk i h0
  have hl := treeOk_len h
  show -1 ≤ (t.getD (anc t k i).toNat z).1 ∧ (t.getD (anc t k i).toNat z).1 < t.length ∧ (0 ≤ (t.getD (anc t k i).toNat z).1 → (t.getD (anc t k i).toNat z).1 ≤ k - ((i + 1 : Nat) : Int))
  rcases Nat.eq_zero_or_pos (anc t k i).toNat with e | e
  ·rw [e, (tree_parts h).2.1]
   exact ⟨by decide, by show (-1 : Int) < _; omega, fun h => absurd h (by decide)⟩
  ·obtain ⟨p, hp, hpl⟩ := par h (j := (anc t k i).toNat) (by omega) (by omega)
   rw [hp]
   omega
theorem anc_out {t : List Nd} {k : Int} (h : treeOk t = true) {i : Nat} (hi : anc t k i < 0) : ∀ j, i ≤ j → anc t k j < 0
 | 0, hj => by
  obtain rfl : i = 0 := by omega
  exact hi
 | j + 1, hj => by
  rcases Nat.lt_or_ge j i with h1 | h1
  ·obtain rfl : i = j + 1 := by omega
   exact hi
  ·have := anc_out h hi j h1
   show (t.getD (anc t k j).toNat z).1 < 0
   rw [show (anc t k j).toNat = 0 by omega, (tree_parts h).2.1]
   decide
/-- the first i -/
def accTo (t : List Nd) (k : Int) (i : Nat) : List Int := (List.range i).map (anc t k)
theorem accTo_succ (t : List Nd) (k : Int) (i : Nat) : accTo t k (i + 1) = accTo t k i ++ [anc t k i] := by simp [accTo, List.range_succ]
theorem accTo_all {t : List Nd} {k : Int} (h : treeOk t = true) {i : Nat} (hi : anc t k i < 0) (hj : ∀ j, j < i → 0 ≤ anc t k j) : ∀ n, i ≤ n → (((List.range n).map (anc t k)).filter fun x => decide (0 ≤ x)) = accTo t k i
 | 0, hn => by
  obtain rfl : i = 0 := by omega
  rfl
 | n + 1, hn => by
  rcases Nat.lt_or_ge n i with h1 | h1
  ·obtain rfl : i = n + 1 := by omega
   unfold accTo
   rw [List.filter_eq_self]
   intro x hx
   obtain ⟨j, h2, rfl⟩ := List.mem_map.1 hx
   exact decide_eq_true (hj j (List.mem_range.1 h2))
  ·rw [List.range_succ, List.map_append, List.filter_append, accTo_all h hi hj n h1]
   have := anc_out h hi n h1
   simp only [List.map_cons, List.map_nil, List.filter_cons, List.filter_nil]
   rw [if_neg (by rw [decide_eq_true_iff]; omega), List.append_nil]
set_option maxRecDepth 20000 in
theorem pathTo_vc (t : List Nd) (k : Int) (hl : t.length ≤ 2000000) : VC Tryz.prog 132 [.v false sNS t, .v false (.int .i64) (k)] (· = .root (.val false) sI .own (pathTo t k)) := by
 refine VC.of_body hT Tryz.func132 rfl (by kernel_rfl) [(.tmp 4, false, sI)] (by kernel_rfl) ?_
 show VW _ _ ([.v false sNS t, .v false (.int .i64) (k), D, D, D, D, D, D, D, D, D, D, D, D, D, D, D, D, D, D, D, D, D, D, D, D]) _
 repeat refine VW.seq ?_
 refine VW.regl hT fun K hK => ?_
 simp only [wq, simprocAttr]
 refine hK _ ?_
 clear hK K
 try refine vthen_n ?_
 repeat refine VW.seq ?_
 refine VW.regl hT fun K hK => ?_
 simp only [wq, simprocAttr]
 refine hK _ ?_
 clear hK K
 try refine vthen_n ?_
 repeat refine VW.seq ?_
 refine VW.regl hT fun K hK => ?_
 simp only [wq, simprocAttr]
 refine vcall_of (isNode_vc t k hl) ?_
 simp only [wq, simprocAttr]
 refine hK _ ?_
 clear hK K
 try refine vthen_n ?_
 repeat refine VW.seq ?_
 refine VW.cond rfl (fun hc => ?_) (fun hc => ?_)
 ·repeat refine VW.seq ?_
  refine VW.regl hT fun K hK => ?_
  simp only [wq, simprocAttr]
  refine hK _ ?_
  clear hK K
  try refine vthen_n ?_
  refine VW.ret ⟨.inl rfl, _, rfl, ?_⟩
  have h' : (treeOk t && inB k 0 (t.length - 1)) = false := (Bool.not_eq_true' _).mp hc
  rw [pathTo, h']
  rfl
 have hok : (treeOk t && inB k 0 (t.length - 1)) = true := by
  have := hc
  rwa [Bool.not_eq_false'] at this
 have hk := hok
 simp only [Bool.and_eq_true] at hk
 have htr := hk.1
 have hk := inB_iff.1 hk.2
 have htl := treeOk_len htr
 refine VW.skip ?_
 show vthen _ _ _ .normal _
 refine vthen_n ?_
 repeat refine VW.seq ?_
 refine VW.block ?_
 refine VW.loop (α := Nat) [(0, none), (1, none), (5, some (3, .int .i64))] (fun i => [.v false sNS t, .v false (.int .i64) (anc t k i), D, D, D, .root (.val false) sI .own (accTo t k i), D, D, D, D, D, D, D, D, D, D, D, D, D, D, D, D, D, D, D, D]) (fun i => i ≤ t.length ∧ ∀ j, j < i → 0 ≤ anc t k j) (fun i => t.length - i) ⟨0, ⟨by omega, fun j hj => by omega⟩, ?_⟩ fun i ⟨hi, hj⟩ => ?_
 ·simp only [wn, wq, simprocAttr]
  try rfl
 have ha := anc_lt htr (show k < t.length by omega) i (by omega)
 have hal : (accTo t k i).length = i := by simp [accTo]
 repeat refine VW.seq ?_
 refine VW.regl hT fun K hK => ?_
 simp only [wq, simprocAttr]
 refine hK _ ?_
 clear hK K
 try refine vthen_n ?_
 repeat refine VW.seq ?_
 refine VW.cond rfl (fun hc => ?_) (fun hc => ?_)
 ·have hge : 0 ≤ anc t k i := of_decide_eq_true hc
  have := ha.2.2 hge
  refine VW.skip (vthen_n ?_)
  repeat refine VW.seq ?_
  refine VW.block ?_
  repeat refine VW.seq ?_
  refine VW.regl hT fun K hK => ?_
  simp only [wq, simprocAttr]
  refine ⟨by simp [limOk]; omega, ?_⟩
  refine hK _ ?_
  clear hK K
  try refine vthen_n ?_
  repeat refine VW.seq ?_
  refine VW.regl hT fun K hK => ?_
  simp only [wq, simprocAttr]
  refine ⟨decide_eq_true ⟨hge, ha.2.1⟩, ?_⟩
  refine hK _ ?_
  clear hK K
  try refine vthen_n ?_
  refine ⟨i + 1, ⟨by omega, fun j h => ?_⟩, ?_, by show t.length - (i + 1) < t.length - i; omega⟩
  ·rcases Nat.lt_or_ge j i with h1 | h1
   ·exact hj j h1
   ·obtain rfl : j = i := by omega
    exact hge
  ·simp only [wn, wq, simprocAttr]
   rw [accTo_succ]
   rfl
 ·have hlt : anc t k i < 0 := by
   have : ¬ 0 ≤ anc t k i := of_decide_eq_false hc
   omega
  refine VW.exit ?_
  show vthen _ _ _ .normal _
  refine vthen_n ?_
  have h0 : 0 < (accTo t k i).length := by
   rcases Nat.eq_zero_or_pos i with rfl | h
   ·exact absurd hk.1 (by show ¬ 0 ≤ k; exact (by have : anc t k 0 = k := rfl; omega))
   ·omega
  repeat refine VW.seq ?_
  refine VW.regl hT fun K hK => ?_
  simp only [wq, simprocAttr]
  refine vcall_io 0 ?_
  simp only [wq, simprocAttr]
  refine vxcall_of (reverse_vx _ h0 (by omega)) ?_
  simp only [wq, simprocAttr]
  refine hK _ ?_
  clear hK K
  try refine vthen_n ?_
  repeat refine VW.seq ?_
  refine VW.regl hT fun K hK => ?_
  simp only [wq, simprocAttr]
  refine hK _ ?_
  clear hK K
  try refine vthen_n ?_
  refine VW.ret ⟨.inl rfl, _, rfl, ?_⟩
  rw [pathTo, if_pos hok, accTo_all htr hlt hj _ hi]
end Go.Proofs.YtoeblmcibheldaaGreatDoor.V.W
end
section
namespace Go.Proofs.YtoeblmcibheldaaGreatDoor.V
open Go Go.RowKit
/-- what holds nothing frozen -/
def clean1 : PV → PV
 | .v agg s x => if s.plain = true then .v agg s x else .dead
 | .root k s f x => if Fl.nofz s f = true then .root k s f x else .dead
 | .emp => .emp
 | _ => .dead
def clean (st : St) : St := st.map clean1
theorem clean_len (st : St) : (clean st).length = st.length := by simp [clean]
theorem clean_at (st : St) (t : Nat) : (clean st).at t = clean1 (st.at t) := by
 unfold clean St.at
 rw [List.getD_eq_getElem?_getD, List.getD_eq_getElem?_getD, List.getElem?_map]
 cases st[t]? <;> rfl
section
variable {L : Lay} {st : St} {a : Act} {w : World} {R : Nat → Prop}
/-- what is let go is frozen from then on -/
theorem Rel.frozen (h : Rel L st a w R) : Rel ⟨fun b => L.Z b ∨ R b, L.F, L.C, L.D⟩ st a w Free where
 size := h.size
 defers := h.defers
 zlt := ⟨fun b hb => hb.elim (h.zlt b) fun q => (h.rlt b q).1, h.zlt.gl.up fun b hb => .inl hb⟩
 flt := fun t b hb => ⟨(h.flt t b hb).1, fun q => q.elim (h.flt t b hb).2 (h.rdj t b hb)⟩
 dj := h.dj
 rlt := fun b hb => hb.elim
 rdj := fun t b _ hb => hb.elim
 tmp := fun t ht => by
  have := h.tmp t ht
  rcases PV.root_or (st.at t) with ⟨k, s, f, x, e⟩ | e
  ·rw [e] at this ⊢
   obtain ⟨q1, B, q2, q3, q4⟩ := this
   exact ⟨q1, B, q2, q3, q4.frame (fun b hb => .inl hb) (fun _ _ => rfl)⟩
  ·rw [PVRep.of e] at this ⊢
   exact ORep.places (L' := ⟨fun b => L.Z b ∨ R b, L.F, L.C, L.D⟩) (fun b hb => Or.inl hb) (fun _ _ => rfl) (fun agg g p _ s1 cs1 ad1 h1 h2 h3 => ⟨s1, cs1, ad1, h1, h2, h3⟩) (fun g p _ s1 cs1 A h1 => ⟨cs1, h1⟩) this
theorem put_same {g : Nat} : a.put (some g) (a.tmps.getD g undef) = a := by
 show ({ a with tmps := a.tmps.setIfInBounds g (a.tmps.getD g undef) } : Act) = a
 have : a.tmps.setIfInBounds g (a.tmps.getD g undef) = a.tmps := by
  apply Array.ext
  ·simp
  ·intro j h1 h2
   rw [Array.getElem_setIfInBounds h2]
   split
   ·rename_i e
    subst e
    simp [Array.getD, h2]
   ·rfl
 rw [this]
theorem Rel.clean (h : Rel L st a w Free) {Z : Nat → Prop} (hZ : ∀ b, Z b → L.Z b) (hG : GOk Z w) : Rel ⟨Z, L.F, L.C, L.D⟩ (V.clean st) a w Free where
 size := by rw [clean_len]; exact h.size
 defers := h.defers
 zlt := ⟨fun b hb => h.zlt b (hZ b hb), hG⟩
 flt := fun t b hb => ⟨(h.flt t b hb).1, fun q => (h.flt t b hb).2 (hZ b q)⟩
 dj := h.dj
 rlt := fun b hb => hb.elim
 rdj := fun t b _ hb => hb.elim
 tmp := fun t ht => by
  rw [clean_len] at ht
  have := h.tmp t ht
  rw [clean_at]
  generalize a.tmps.getD t undef = v at this ⊢
  cases hp : st.at t with
  | v agg s x =>
   rw [hp] at this
   simp only [clean1]
   split
   ·rename_i hs
    obtain ⟨cs, q1, q2⟩ := this
    exact ⟨cs, q1, q2.plain hs⟩
   ·trivial
  | root k s f x =>
   rw [hp] at this
   simp only [clean1]
   split
   ·rename_i hs
    obtain ⟨q1, B, q2, q3, q4⟩ := this
    exact ⟨q1, B, q2, q3, q4.nofz hs⟩
   ·trivial
  | emp =>
   rw [hp] at this
   exact this
  | dead => trivial
  | h => trivial
  | adr => trivial
  | fadr => trivial
  | fn => trivial
end
/-- one's own memory that is read alone till the end: it counts as frozen -/
theorem VW.giveup {P : Program} {c : Code} {st : St} {Q : Exit → St → Prop} (g : Nat) {s : Sh} {fl : Fl} {x : s.ty} (hg : st.at g = .root (.val false) s fl x) (hs : Fl.sound s fl = true) (h : VW P c ((st.map (V.drop g)).set g (.v false s x)) (fun e st2 => Q e (clean st2))) : VW P c st Q := by
 intro L a w hr
 obtain ⟨B, r1, r2, r3⟩ := hr.gone hg
 have r4 := r1.frozen
 have hroot := (hr.root hg).1
 have hgl : g < st.length := root_lt hg
 have hdead : (St.at ((st.map (V.drop g)).set g .dead) g).isRoot = false := by
  rw [St.at_set, if_pos ⟨rfl, by rw [List.length_map]; exact hgl⟩]
  rfl
 have r5 := r4.setO (d := g) (v := a.tmps.getD g undef) hdead (pv := .v false s x) rfl ⟨L.C g, hroot.1, r3.freeze (fun b hb => .inl hb) hs (fun b hb => .inr (.inr (r2 b hb)))⟩
 rw [put_same, List.set_set] at r5
 refine wp_mono (h _ a w r5) fun e a' w' ⟨L', st', s', r', q⟩ => ⟨⟨L.Z, L'.F, L'.C, L'.D⟩, _, ?_, r'.clean (fun b hb => by rw [s'.Z]; exact .inl hb) (hr.zlt.gl.step fun b hb => s'.block b (hr.zlt b hb) fun t ht => (r5.flt t b ht).2 (.inl hb)), q⟩
 refine ⟨s'.os, s'.tape, s'.output, s'.size, fun n hn hL => s'.block n hn fun t ht => ?_, rfl, fun t n hn => ?_⟩
 ·simp only at ht
  split at ht
  ·exact ht
  ·exact hL t ht
 ·rcases s'.F t n hn with ⟨t', ht⟩ | hn
  ·simp only at ht
   split at ht
   ·exact ht.elim
   ·exact .inl ⟨t', ht⟩
  ·exact .inr hn
end Go.Proofs.YtoeblmcibheldaaGreatDoor.V
end
section
namespace Go.Proofs.YtoeblmcibheldaaGreatDoor.V.W
open Go Go.RowKit
/-- where p holds first -/
def IdxI (p : Int → Bool) (xs : List Int) (m : Int) : Prop := (m = -1 ∧ ∀ k, k < xs.length → p (xs.getD k 0) = false) ∨ ∃ i : Nat, i < xs.length ∧ m = i ∧ p (xs.getD i 0) = true ∧ ∀ k, k < i → p (xs.getD k 0) = false
theorem indexI_vc (xs : List Int) (f : FuncId) (caps : List Cap) (p : Int → Bool) (hcap : caps.any isAdr = false) (hp : ∀ x, VC Tryz.prog f (.v false (.int .i64) (x) :: caps.map capPV) (· = .v false .bool (p x))) (hl : xs.length ≤ 2000000) :
  VC Tryz.prog 157 [.v false sI xs, .fn f caps] (fun r => ∃ m : Int, r = .v false (.int .i64) (m) ∧ IdxI p xs m) := by
 refine VC.of_body hT Tryz.func157 rfl (by kernel_rfl) [(.tmp 4, false, .int .i64)] (by kernel_rfl) ?_
 show VW _ _ ([.v false sI xs, .fn f caps, D, D, D, D, D, D, D, D, D, D, D, D, D, D, D, D, D]) _
 repeat refine VW.seq ?_
 refine VW.regl hT fun K hK => ?_
 simp only [wq, simprocAttr]
 refine hK _ ?_
 clear hK K
 try refine vthen_n ?_
 repeat refine VW.seq ?_
 refine VW.regl hT fun K hK => ?_
 simp only [wq, simprocAttr]
 refine hK _ ?_
 clear hK K
 try refine vthen_n ?_
 repeat refine VW.seq ?_
 refine VW.block ?_
 refine VW.loop (α := Nat) [(0, none), (1, none), (7, none), (8, none)] (fun i => [.v false sI xs, .fn f caps, D, D, D, D, D, .v false (.int .i64) (xs.length), .v false (.int .i64) (i), D, D, D, D, D, D, D, D, D, D]) (fun i => i ≤ xs.length ∧ ∀ k, k < i → p (xs.getD k 0) = false) (fun i => xs.length - i) ⟨0, ⟨by omega, fun k hk => by omega⟩, ?_⟩ fun i ⟨hi, hk⟩ => ?_
 ·simp only [capOut_any hcap, wn, wq, simprocAttr]
  try rfl
 repeat refine VW.seq ?_
 refine VW.regl hT fun K hK => ?_
 simp only [wq, simprocAttr]
 refine hK _ ?_
 clear hK K
 try refine vthen_n ?_
 repeat refine VW.seq ?_
 refine VW.cond rfl (fun hc => ?_) (fun hc => ?_)
 ·have hlt : i < xs.length := by simpa using hc
  refine VW.skip (vthen_n ?_)
  repeat refine VW.seq ?_
  refine VW.block ?_
  repeat refine VW.seq ?_
  refine VW.regl hT fun K hK => ?_
  simp only [wq, simprocAttr]
  refine hK _ ?_
  clear hK K
  try refine vthen_n ?_
  repeat refine VW.seq ?_
  refine VW.regl hT fun K hK => ?_
  simp only [wq, simprocAttr]
  simp only [lendCaps_all _ caps hcap, wq, simprocAttr]
  refine ⟨by simp; omega, ?_⟩
  refine vcall_of (hp _) ?_
  rw [hcap]
  simp only [wq, simprocAttr]
  refine hK _ ?_
  clear hK K
  try refine vthen_n ?_
  repeat refine VW.seq ?_
  refine VW.cond rfl (fun hc => ?_) (fun hc => ?_)
  ·repeat refine VW.seq ?_
   refine VW.regl hT fun K hK => ?_
   simp only [wq, simprocAttr]
   refine hK _ ?_
   clear hK K
   try refine vthen_n ?_
   refine VW.ret ⟨.inl rfl, _, rfl, _, rfl, .inr ⟨i, hlt, rfl, hc, hk⟩⟩
  ·refine VW.skip ?_
   show vthen _ _ _ .normal _
   refine vthen_n ?_
   repeat refine VW.seq ?_
   refine VW.regl hT fun K hK => ?_
   simp only [wq, simprocAttr]
   refine hK _ ?_
   clear hK K
   try refine vthen_n ?_
   refine ⟨i + 1, ⟨hlt, fun k h => ?_⟩, ?_, by show xs.length - (i + 1) < xs.length - i; omega⟩
   ·rcases Nat.lt_or_ge k i with h1 | h1
    ·exact hk k h1
    ·obtain rfl : k = i := by omega
     exact hc
   ·simp only [capOut_any hcap, wn, wq, simprocAttr]
    rw [wrap64 (by omega) (by omega)]
    rfl
 ·have hc : xs.length ≤ i := by simpa using hc
  refine VW.exit ?_
  show vthen _ _ _ .normal _
  refine vthen_n ?_
  repeat refine VW.seq ?_
  refine VW.regl hT fun K hK => ?_
  simp only [wq, simprocAttr]
  refine hK _ ?_
  clear hK K
  try refine vthen_n ?_
  refine VW.ret ⟨.inl rfl, _, rfl, _, rfl, .inl ⟨rfl, fun k h => hk k (by omega)⟩⟩
theorem IdxI.any {p : Int → Bool} {xs : List Int} {m : Int} (h : IdxI p xs m) : decide (m ≥ 0) = xs.any p := by
 rcases h with ⟨rfl, h⟩ | ⟨i, h1, rfl, h2, _⟩
 ·have : xs.any p = false := by
   rw [List.any_eq_false]
   intro x hx
   obtain ⟨k, hk, rfl⟩ := List.mem_iff_getElem.1 hx
   have := h k hk
   rw [List.getD_eq_getElem?_getD, List.getElem?_eq_getElem hk] at this
   simpa using this
  rw [this]; rfl
 ·have : xs.any p = true := by
   rw [List.any_eq_true]
   refine ⟨xs[i], List.getElem_mem h1, ?_⟩
   rw [List.getD_eq_getElem?_getD, List.getElem?_eq_getElem h1] at h2
   exact h2
  rw [this]; simp
theorem containsI_vc (xs : List Int) (f : FuncId) (caps : List Cap) (p : Int → Bool) (hcap : caps.any isAdr = false) (hp : ∀ x, VC Tryz.prog f (.v false (.int .i64) (x) :: caps.map capPV) (· = .v false .bool (p x))) (hl : xs.length ≤ 2000000) :
  VC Tryz.prog 122 [.v false sI xs, .fn f caps] (· = .v false .bool (xs.any p)) := by
 refine VC.of_body hT Tryz.func122 rfl (by kernel_rfl) [(.tmp 4, false, .bool)] (by kernel_rfl) ?_
 show VW _ _ ([.v false sI xs, .fn f caps, D, D, D, D, D, D, D]) _
 repeat refine VW.seq ?_
 refine VW.regl hT fun K hK => ?_
 simp only [wq, simprocAttr]
 refine hK _ ?_
 clear hK K
 try refine vthen_n ?_
 repeat refine VW.seq ?_
 refine VW.regl hT fun K hK => ?_
 simp only [wq, simprocAttr]
 simp only [lendCaps_all _ caps hcap, wq, simprocAttr]
 refine vcall_ex (indexI_vc xs f caps p hcap hp hl) ?_
 rintro pv ⟨m, rfl, hm⟩
 rw [hcap]
 simp only [wq, simprocAttr]
 refine hK _ ?_
 clear hK K
 try refine vthen_n ?_
 refine VW.ret ⟨.inl rfl, _, rfl, ?_⟩
 rw [← hm.any]
theorem cloneI_vc (t : List Int) (hl : t.length ≤ 2000000) : VC Tryz.prog 104 [.v false sI t] (· = .root (.val false) sI .own t) := by
 refine VC.of_body hT Tryz.func104 rfl (by kernel_rfl) [(.tmp 2, false, sI)] (by kernel_rfl) ?_
 show VW _ _ ([.v false sI t, D, D, D, D, D, D, D]) _
 repeat refine VW.seq ?_
 refine VW.regl hT fun K hK => ?_
 simp only [wq, simprocAttr]
 refine hK _ ?_
 clear hK K
 try refine vthen_n ?_
 repeat refine VW.seq ?_
 refine VW.regl hT fun K hK => ?_
 simp only [wq, simprocAttr]
 intro b hb
 refine hK _ ?_
 clear hK K
 try refine vthen_n ?_
 repeat refine VW.seq ?_
 refine VW.cond rfl (fun hc => ?_) (fun hc => ?_)
 ·repeat refine VW.seq ?_
  refine VW.regl hT fun K hK => ?_
  simp only [wq, simprocAttr]
  refine hK _ ?_
  clear hK K
  try refine vthen_n ?_
  refine VW.ret ⟨.inl rfl, _, rfl, ?_⟩
  have : t = [] := by
   rcases Nat.eq_zero_or_pos t.length with h | h
   ·exact List.eq_nil_of_length_eq_zero h
   ·have := hb h; rw [this] at hc; cases hc
  subst this; rfl
 ·refine VW.skip (vthen_n ?_)
  repeat refine VW.seq ?_
  refine VW.regl hT fun K hK => ?_
  simp only [wq, simprocAttr]
  refine ⟨by simp [limOk]; omega, ?_⟩
  refine hK _ ?_
  clear hK K
  try refine vthen_n ?_
  exact VW.ret ⟨.inl rfl, _, rfl, rfl⟩
end Go.Proofs.YtoeblmcibheldaaGreatDoor.V.W
end
section
namespace Go.Proofs.YtoeblmcibheldaaGreatDoor.V.W
open Go Go.RowKit
set_option maxRecDepth 20000 in
theorem specTreeOk_vc (t : List Nd) (hl : t.length ≤ 2000000) : VC Tryz.prog 117 [.v false sNS t] (· = .v false .bool (treeOk t)) := by
 refine VC.of_body hT Tryz.func117 rfl (by kernel_rfl) [(.tmp 2, false, .bool)] (by kernel_rfl) ?_
 show VW _ _ ([.v false sNS t, D, D, D, D, D, D, D, D, D, D, D, D, D, D, D, D, D, D, D, D, D, D, D, D, D, D, D, D, D, D, D, D, D, D, D, D, D, D, D, D, D, D, D, D, D, D, D, D, D, D, D, D, D, D, D, D, D, D, D, D, D, D, D, D, D, D, D, D, D, D, D, D, D, D, D, D]) _
 repeat refine VW.seq ?_
 refine VW.regl hT fun K hK => ?_
 simp only [wq, simprocAttr]
 refine hK _ ?_
 clear hK K
 try refine vthen_n ?_
 repeat refine VW.seq ?_
 refine VW.regl hT fun K hK => ?_
 simp only [wq, simprocAttr]
 refine vcall_of (in_vc _ _ _) ?_
 simp only [wq, simprocAttr]
 refine vbr (fun h1 => ?_) (fun h1 => ?_) <;> simp only [wq, simprocAttr]
 case refine_2 =>
  refine hK _ ?_
  clear hK K
  try refine vthen_n ?_
  repeat refine VW.seq ?_
  refine VW.cond rfl (fun hc => ?_) (fun hc => ?_)
  ·repeat refine VW.seq ?_
   refine VW.regl hT fun K hK => ?_
   simp only [wq, simprocAttr]
   refine hK _ ?_
   clear hK K
   try refine vthen_n ?_
   refine VW.ret ⟨.inl rfl, _, rfl, ?_⟩
   have h1 : inB t.length 1 12 = false := by simpa using h1
   simp only [treeOk, h1, Bool.false_and]
  ·cases hc
 have h1 : inB t.length 1 12 = true := by simpa using h1
 have hlen := inB_iff.1 h1
 refine ⟨by simp; omega, ?_⟩
 refine hK _ ?_
 clear hK K
 try refine vthen_n ?_
 repeat refine VW.seq ?_
 refine VW.cond rfl (fun hc => ?_) (fun hc => ?_)
 ·repeat refine VW.seq ?_
  refine VW.regl hT fun K hK => ?_
  simp only [wq, simprocAttr]
  refine hK _ ?_
  clear hK K
  try refine vthen_n ?_
  refine VW.ret ⟨.inl rfl, _, rfl, ?_⟩
  have hc' : (!eqv sN (t.getD 0 z) (-1, 0, 0)) = true := hc
  rw [eqN] at hc'
  have : (t.getD 0 z == (-1, 0, 0)) = false := by simpa using hc'
  have e : treeOk t = false := by simp only [treeOk, this, Bool.false_and, Bool.and_false]
  rw [e]
 have h2 : (t.getD 0 z == (-1, 0, 0)) = true := by
  have hc' : (!eqv sN (t.getD 0 z) (-1, 0, 0)) = false := hc
  rw [eqN] at hc'
  simpa using hc'
 have h20 : t.getD 0 z = (-1, 0, 0) := by simpa using h2
 refine VW.skip (vthen_n ?_)
 repeat refine VW.seq ?_
 refine VW.regl hT fun K hK => ?_
 simp only [wq, simprocAttr]
 refine hK _ ?_
 clear hK K
 try refine vthen_n ?_
 repeat refine VW.seq ?_
 refine VW.block ?_
 refine VW.loop (α := Nat) [(0, none), (3, none)] (fun i => [.v false sNS t, D, D, .v false (.int .i64) (((i + 1 : Nat) : Int)), D, D, D, D, D, D, D, D, D, D, D, D, D, D, D, D, D, D, D, D, D, D, D, D, D, D, D, D, D, D, D, D, D, D, D, D, D, D, D, D, D, D, D, D, D, D, D, D, D, D, D, D, D, D, D, D, D, D, D, D, D, D, D, D, D, D, D, D, D, D, D, D, D]) (fun i => i + 1 ≤ t.length ∧ ∀ k, k < i → bad t k = false) (fun i => t.length - i) ⟨0, ⟨by omega, fun k hk => by omega⟩, ?_⟩ fun i ⟨hi, hk⟩ => ?_
 ·simp only [wn, wq, simprocAttr]
  try rfl
 repeat refine VW.seq ?_
 refine VW.regl hT fun K hK => ?_
 simp only [wq, simprocAttr]
 refine hK _ ?_
 clear hK K
 try refine vthen_n ?_
 repeat refine VW.seq ?_
 refine VW.cond rfl (fun hc => ?_) (fun hc => ?_)
 ·have hlt : i + 1 < t.length := by
   have : ((i + 1 : Nat) : Int) < (t.length : Int) := by simpa using hc
   omega
  refine VW.skip (vthen_n ?_)
  repeat refine VW.seq ?_
  refine VW.block ?_
  repeat refine VW.seq ?_
  refine VW.regl hT fun K hK => ?_
  simp only [wq, simprocAttr]
  refine ⟨decide_eq_true ⟨Int.natCast_nonneg _, by show ((i + 1 : Nat) : Int) < (t.length : Int); omega⟩, ?_⟩
  refine hK _ ?_
  clear hK K
  try refine vthen_n ?_
  generalize hn : (t.getD (i + 1) z : Nd) = n
  have ex : ∀ b : Bool, bad1 t i n = b → bad t i = (b || (t.take (i + 1)).any (same n)) := by
   intro b hb; unfold bad; rw [hn, hb]
  repeat refine VW.seq ?_
  refine VW.regl hT fun K hK => ?_
  simp only [wq, simprocAttr]
  have hw : IntKind.i64.wrap (((i + 1 : Nat) : Int) - 1) = (i : Int) := by rw [wrap64 (by omega) (by omega)]; omega
  rw [hw]
  refine vcall_of (in_vc _ _ _) ?_
  simp only [wq, simprocAttr]
  refine vbr (fun g1 => ?_) (fun g1 => ?_) <;> simp only [wq, simprocAttr]
  ·have g1' : inB n.1 0 i = true := by simpa using g1
   have gi := inB_iff.1 g1'
   refine ⟨decide_eq_true ⟨gi.1, by show n.1 < (t.length : Int); omega⟩, ?_⟩
   refine vbr (fun g2 => ?_) (fun g2 => ?_) <;> simp only [wq, simprocAttr]
   ·refine vcall_of (in_vc _ _ _) ?_
    simp only [wq, simprocAttr]
    refine vbr (fun g3 => ?_) (fun g3 => ?_) <;> simp only [wq, simprocAttr]
    ·refine vcall_of (in_vc _ _ _) ?_
     simp only [wq, simprocAttr]
     refine hK _ ?_
     clear hK K
     try refine vthen_n ?_
     have b123 : bad1 t i n = !inB n.2.2 0 4 := by
      have g2' : ((t.getD n.1.toNat z).2.2 == 0) = true := by simpa using g2
      have g3' : inB n.2.1 0 3 = true := by simpa using g3
      simp only [bad1, g1', g2', g3', Bool.not_true, Bool.false_or]
     repeat refine VW.seq ?_
     refine VW.cond rfl (fun hc => ?_) (fun hc => ?_)
     ·repeat refine VW.seq ?_
      refine VW.regl hT fun K hK => ?_
      simp only [wq, simprocAttr]
      refine hK _ ?_
      clear hK K
      try refine vthen_n ?_
      refine VW.ret ⟨.inl rfl, _, rfl, ?_⟩
      rw [treeOk_false hlt ((ex true (b123.trans hc)).trans rfl)]
     ·have hb1 : bad1 t i n = false := b123.trans hc
      refine VW.skip ?_
      show vthen _ _ _ .normal _
      refine vthen_n ?_
      repeat refine VW.seq ?_
      refine VW.regl hT fun K hK => ?_
      simp only [wq, simprocAttr]
      refine hK _ ?_
      clear hK K
      try refine vthen_n ?_
      repeat refine VW.seq ?_
      refine VW.block ?_
      refine VW.loop (α := Nat) [(0, none), (3, none), (4, none), (5, none)] (fun j => [.v false sNS t, D, D, .v false (.int .i64) (((i + 1 : Nat) : Int)), .root (.box 68) sN .fz n, .v false (.int .i64) (((j + 1 : Nat) : Int)), D, D, D, D, D, D, D, D, D, D, D, D, D, D, D, D, D, D, D, D, D, D, D, D, D, D, D, D, D, D, D, D, D, D, D, D, D, D, D, D, D, D, D, D, D, D, D, D, D, D, D, D, D, D, D, D, D, D, D, D, D, D, D, D, D, D, D, D, D, D, D]) (fun j => j ≤ i ∧ ∀ k, k < j + 1 → same n (t.getD k z) = false) (fun j => t.length - j) ⟨0, ⟨by omega, fun k hk => ?_⟩, ?_⟩ fun j ⟨hj, hjk⟩ => ?_
      ·obtain rfl : k = 0 := by omega
       rw [h20]
       have : ¬ (-1 : Int) = n.1 := by omega
       simp only [same]
       rw [show ((-1 : Int) == n.1) = false by simpa using this]
       rfl
      ·simp only [wn, wq, simprocAttr]
       try rfl
      repeat refine VW.seq ?_
      refine VW.regl hT fun K hK => ?_
      simp only [wq, simprocAttr]
      refine hK _ ?_
      clear hK K
      try refine vthen_n ?_
      repeat refine VW.seq ?_
      refine VW.cond rfl (fun hc => ?_) (fun hc => ?_)
      ·have hjl : j + 1 < i + 1 := by
        have : ((j + 1 : Nat) : Int) < ((i + 1 : Nat) : Int) := by simpa using hc
        omega
       refine VW.skip (vthen_n ?_)
       repeat refine VW.seq ?_
       refine VW.block ?_
       repeat refine VW.seq ?_
       refine VW.drawl hT hm (by kernel_rfl) fun K hK => ?_
       simp only [wq, simprocAttr]
       have hjx : decide (0 ≤ ((j + 1 : Nat) : Int) ∧ ((j + 1 : Nat) : Int) < (t.length : Int)) = true := decide_eq_true ⟨by omega, by omega⟩
       have hin : t.getD (j + 1) z ∈ t.take (i + 1) := by
        rw [List.getD_eq_getElem?_getD, List.getElem?_eq_getElem (by omega)]
        have : (t.take (i + 1))[j + 1]? = some t[j + 1] := by rw [List.getElem?_take_of_lt (by omega), List.getElem?_eq_getElem (by omega)]
        exact List.mem_of_getElem? this
       refine ⟨hjx, by kernel_rfl, by kernel_rfl, ?_⟩
       refine vbr (fun q1 => ?_) (fun q1 => ?_) <;> simp only [wq, simprocAttr]
       ·refine ⟨hjx, by kernel_rfl, by kernel_rfl, ?_⟩
        refine hK _ ?_
        clear hK K
        try refine vthen_n ?_
        repeat refine VW.seq ?_
        refine VW.cond rfl (fun hc => ?_) (fun hc => ?_)
        ·repeat refine VW.seq ?_
         refine VW.regl hT fun K hK => ?_
         simp only [wq, simprocAttr]
         refine hK _ ?_
         clear hK K
         try refine vthen_n ?_
         refine VW.ret ⟨.inl rfl, _, rfl, ?_⟩
         have q2 : ((t.getD (j + 1) z).2.1 == n.2.1) = true := hc
         have q1' : ((t.getD (j + 1) z).1 == n.1) = true := q1
         have : (t.take (i + 1)).any (same n) = true := by
          rw [List.any_eq_true]
          exact ⟨_, hin, by simp only [same, q1', q2, Bool.and_self]⟩
         rw [treeOk_false hlt ((ex false hb1).trans this)]
        ·refine VW.skip ?_
         show vthen _ _ _ .normal _
         refine vthen_n ?_
         repeat refine VW.seq ?_
         refine VW.regl hT fun K hK => ?_
         simp only [wq, simprocAttr]
         refine hK _ ?_
         clear hK K
         try refine vthen_n ?_
         refine ⟨j + 1, ⟨by omega, fun k hk' => ?_⟩, ?_, by show t.length - (j + 1) < t.length - j; omega⟩
         ·rcases Nat.lt_or_ge k (j + 1) with h3 | h3
          ·exact hjk k h3
          ·obtain rfl : k = j + 1 := by omega
           have q2 : ((t.getD (j + 1) z).2.1 == n.2.1) = false := hc
           simp only [same, q2, Bool.and_false]
         ·simp only [wn, wq, simprocAttr]
          rw [wrap64 (by omega) (by omega)]
          rfl
       ·refine hK _ ?_
        clear hK K
        try refine vthen_n ?_
        repeat refine VW.seq ?_
        refine VW.cond rfl (fun hc => ?_) (fun hc => ?_)
        ·cases hc
        ·refine VW.skip ?_
         show vthen _ _ _ .normal _
         refine vthen_n ?_
         repeat refine VW.seq ?_
         refine VW.regl hT fun K hK => ?_
         simp only [wq, simprocAttr]
         refine hK _ ?_
         clear hK K
         try refine vthen_n ?_
         refine ⟨j + 1, ⟨by omega, fun k hk' => ?_⟩, ?_, by show t.length - (j + 1) < t.length - j; omega⟩
         ·rcases Nat.lt_or_ge k (j + 1) with h3 | h3
          ·exact hjk k h3
          ·obtain rfl : k = j + 1 := by omega
           have q1' : ((t.getD (j + 1) z).1 == n.1) = false := q1
           simp only [same, q1', Bool.false_and]
         ·simp only [wn, wq, simprocAttr]
          rw [wrap64 (by omega) (by omega)]
          rfl
      ·have hje : j = i := by
        have : ¬ ((j + 1 : Nat) : Int) < ((i + 1 : Nat) : Int) := by simpa using hc
        omega
       subst hje
       have hno : (t.take (j + 1)).any (same n) = false := by
        rw [List.any_eq_false]
        intro x hx
        obtain ⟨k, hk1, rfl⟩ := List.mem_iff_getElem.1 hx
        have h3 := hjk k (by rw [List.length_take] at hk1; omega)
        rw [List.getD_eq_getElem?_getD, List.getElem?_eq_getElem (by rw [List.length_take] at hk1; omega)] at h3
        simpa using h3
       refine VW.exit ?_
       show vthen _ _ _ .normal _
       refine vthen_n ?_
       repeat refine VW.seq ?_
       refine VW.regl hT fun K hK => ?_
       simp only [wq, simprocAttr]
       refine hK _ ?_
       clear hK K
       try refine vthen_n ?_
       refine ⟨j + 1, ⟨by omega, fun k h => ?_⟩, ?_, by show t.length - (j + 1) < t.length - j; omega⟩
       ·rcases Nat.lt_or_ge k j with h3 | h3
        ·exact hk k h3
        ·obtain rfl : k = j := by omega
         exact (ex false hb1).trans hno
       ·simp only [wn, wq, simprocAttr]
        rw [wrap64 (by omega) (by omega)]
        rfl
    ·refine hK _ ?_
     clear hK K
     try refine vthen_n ?_
     repeat refine VW.seq ?_
     refine VW.cond rfl (fun hc => ?_) (fun hc => ?_)
     ·repeat refine VW.seq ?_
      refine VW.regl hT fun K hK => ?_
      simp only [wq, simprocAttr]
      refine hK _ ?_
      clear hK K
      try refine vthen_n ?_
      refine VW.ret ⟨.inl rfl, _, rfl, ?_⟩
      have g3' : inB n.2.1 0 3 = false := by simpa using g3
      rw [treeOk_false hlt ((ex true (by simp only [bad1, g3', Bool.not_false, Bool.true_or, Bool.or_true])).trans rfl)]
     ·cases hc
   ·refine hK _ ?_
    clear hK K
    try refine vthen_n ?_
    repeat refine VW.seq ?_
    refine VW.cond rfl (fun hc => ?_) (fun hc => ?_)
    ·repeat refine VW.seq ?_
     refine VW.regl hT fun K hK => ?_
     simp only [wq, simprocAttr]
     refine hK _ ?_
     clear hK K
     try refine vthen_n ?_
     refine VW.ret ⟨.inl rfl, _, rfl, ?_⟩
     have g2' : ((t.getD n.1.toNat z).2.2 == 0) = false := by simpa using g2
     rw [treeOk_false hlt ((ex true (by simp only [bad1, g2', Bool.not_false, Bool.true_or, Bool.or_true])).trans rfl)]
    ·cases hc
  ·refine hK _ ?_
   clear hK K
   try refine vthen_n ?_
   repeat refine VW.seq ?_
   refine VW.cond rfl (fun hc => ?_) (fun hc => ?_)
   ·repeat refine VW.seq ?_
    refine VW.regl hT fun K hK => ?_
    simp only [wq, simprocAttr]
    refine hK _ ?_
    clear hK K
    try refine vthen_n ?_
    refine VW.ret ⟨.inl rfl, _, rfl, ?_⟩
    have g1' : inB n.1 0 i = false := by simpa using g1
    rw [treeOk_false hlt ((ex true (by simp only [bad1, g1', Bool.not_false, Bool.true_or])).trans rfl)]
   ·cases hc
 ·have hge : t.length ≤ i + 1 := by
   have : ¬ ((i + 1 : Nat) : Int) < (t.length : Int) := by simpa using hc
   omega
  refine VW.exit ?_
  show vthen _ _ _ .normal _
  refine vthen_n ?_
  repeat refine VW.seq ?_
  refine VW.regl hT fun K hK => ?_
  simp only [wq, simprocAttr]
  refine hK _ ?_
  clear hK K
  try refine vthen_n ?_
  refine VW.ret ⟨.inl rfl, _, rfl, ?_⟩
  rw [treeOk_true h1 h2 fun k hk' => hk k (by omega)]
end Go.Proofs.YtoeblmcibheldaaGreatDoor.V.W
end
section
namespace Go.Proofs.YtoeblmcibheldaaGreatDoor.V.W
open Go Go.RowKit
/-- the library's counting of ones, step by step -/
def an (x c : Int) : Int := IntKind.u64.wrap (BitVec.ofInt IntKind.u64.bits x &&& BitVec.ofInt IntKind.u64.bits c).toNat
def shr (x : Int) (k : Nat) : Int := x.fdiv (2 ^ min k IntKind.u64.bits)
def ad (x y : Int) : Int := IntKind.u64.wrap (x + y)
def pop1 (x : Int) : Int := ad (an (shr x 1) 6148914691236517205) (an x 6148914691236517205)
def pop2 (x : Int) : Int := ad (an (shr x 2) 3689348814741910323) (an x 3689348814741910323)
def pop3 (x : Int) : Int := an (ad (shr x 4) x) 1085102592571150095
def pop4 (x : Int) : Int := ad x (shr x 8)
def pop5 (x : Int) : Int := ad x (shr x 16)
def pop6 (x : Int) : Int := ad x (shr x 32)
def pop7 (x : Int) : Int := IntKind.i64.wrap (BitVec.ofInt IntKind.i64.bits (IntKind.i64.wrap x) &&& BitVec.ofInt IntKind.i64.bits 127).toNat
def popc (x : Int) : Int := pop7 (pop6 (pop5 (pop4 (pop3 (pop2 (pop1 x))))))
set_option maxRecDepth 20000 in
theorem ones64_vc (n : Int) : VC Tryz.prog 212 [.v false (.int .u64) n] (· = .v false (.int .i64) (popc n)) := by
 refine VC.of_body hT Tryz.func212 rfl (by kernel_rfl) [(.tmp 2, false, .int .i64)] (by kernel_rfl) ?_
 show VW _ _ ([.v false (.int .u64) n, D, D, D, D, D, D, D, D, D, D, D, D, D, D, D, D, D, D, D, D, D, D, D, D, D, D, D, D, D, D, D, D, D, D]) _
 repeat refine VW.seq ?_
 refine VW.regl hT fun K hK => ?_
 simp only [wq, Nat.reduceMul, reduceCtorEq, Nat.reduceBEq, Nat.reduceAdd, Nat.reduceLT, Nat.reduceLeDiff, Nat.reduceSub, Nat.reduceEqDiff]
 refine hK _ ?_
 clear hK K
 try refine vthen_n ?_
 repeat refine VW.seq ?_
 refine VW.regl hT fun K hK => ?_
 simp only [wq, Nat.reduceMul, reduceCtorEq, Nat.reduceBEq, Nat.reduceAdd, Nat.reduceLT, Nat.reduceLeDiff, Nat.reduceSub, Nat.reduceEqDiff]
 refine ⟨by decide, ?_⟩
 refine hK _ ?_
 clear hK K
 try refine vthen_n ?_
 refine VW.weak (weak_norm [(0, none), (2, none)] _) ?_
 simp only [wn, wq, Nat.reduceMul, reduceCtorEq, Nat.reduceBEq, Nat.reduceAdd, Nat.reduceLT, Nat.reduceLeDiff, Nat.reduceSub, Nat.reduceEqDiff]
 show VW _ _ (.v false (.int .u64) (pop1 n) :: _) _
 generalize hx1 : pop1 n = x1
 repeat refine VW.seq ?_
 refine VW.regl hT fun K hK => ?_
 simp only [wq, Nat.reduceMul, reduceCtorEq, Nat.reduceBEq, Nat.reduceAdd, Nat.reduceLT, Nat.reduceLeDiff, Nat.reduceSub, Nat.reduceEqDiff]
 refine ⟨by decide, ?_⟩
 refine hK _ ?_
 clear hK K
 try refine vthen_n ?_
 refine VW.weak (weak_norm [(0, none), (2, none)] _) ?_
 simp only [wn, wq, Nat.reduceMul, reduceCtorEq, Nat.reduceBEq, Nat.reduceAdd, Nat.reduceLT, Nat.reduceLeDiff, Nat.reduceSub, Nat.reduceEqDiff]
 show VW _ _ (.v false (.int .u64) (pop2 x1) :: _) _
 generalize hx2 : pop2 x1 = x2
 repeat refine VW.seq ?_
 refine VW.regl hT fun K hK => ?_
 simp only [wq, Nat.reduceMul, reduceCtorEq, Nat.reduceBEq, Nat.reduceAdd, Nat.reduceLT, Nat.reduceLeDiff, Nat.reduceSub, Nat.reduceEqDiff]
 refine ⟨by decide, ?_⟩
 refine hK _ ?_
 clear hK K
 try refine vthen_n ?_
 refine VW.weak (weak_norm [(0, none), (2, none)] _) ?_
 simp only [wn, wq, Nat.reduceMul, reduceCtorEq, Nat.reduceBEq, Nat.reduceAdd, Nat.reduceLT, Nat.reduceLeDiff, Nat.reduceSub, Nat.reduceEqDiff]
 show VW _ _ (.v false (.int .u64) (pop3 x2) :: _) _
 generalize hx3 : pop3 x2 = x3
 repeat refine VW.seq ?_
 refine VW.regl hT fun K hK => ?_
 simp only [wq, Nat.reduceMul, reduceCtorEq, Nat.reduceBEq, Nat.reduceAdd, Nat.reduceLT, Nat.reduceLeDiff, Nat.reduceSub, Nat.reduceEqDiff]
 refine ⟨by decide, ?_⟩
 refine hK _ ?_
 clear hK K
 try refine vthen_n ?_
 refine VW.weak (weak_norm [(0, none), (2, none)] _) ?_
 simp only [wn, wq, Nat.reduceMul, reduceCtorEq, Nat.reduceBEq, Nat.reduceAdd, Nat.reduceLT, Nat.reduceLeDiff, Nat.reduceSub, Nat.reduceEqDiff]
 show VW _ _ (.v false (.int .u64) (pop4 x3) :: _) _
 generalize hx4 : pop4 x3 = x4
 repeat refine VW.seq ?_
 refine VW.regl hT fun K hK => ?_
 simp only [wq, Nat.reduceMul, reduceCtorEq, Nat.reduceBEq, Nat.reduceAdd, Nat.reduceLT, Nat.reduceLeDiff, Nat.reduceSub, Nat.reduceEqDiff]
 refine ⟨by decide, ?_⟩
 refine hK _ ?_
 clear hK K
 try refine vthen_n ?_
 refine VW.weak (weak_norm [(0, none), (2, none)] _) ?_
 simp only [wn, wq, Nat.reduceMul, reduceCtorEq, Nat.reduceBEq, Nat.reduceAdd, Nat.reduceLT, Nat.reduceLeDiff, Nat.reduceSub, Nat.reduceEqDiff]
 show VW _ _ (.v false (.int .u64) (pop5 x4) :: _) _
 generalize hx5 : pop5 x4 = x5
 repeat refine VW.seq ?_
 refine VW.regl hT fun K hK => ?_
 simp only [wq, Nat.reduceMul, reduceCtorEq, Nat.reduceBEq, Nat.reduceAdd, Nat.reduceLT, Nat.reduceLeDiff, Nat.reduceSub, Nat.reduceEqDiff]
 refine ⟨by decide, ?_⟩
 refine hK _ ?_
 clear hK K
 try refine vthen_n ?_
 refine VW.weak (weak_norm [(0, none), (2, none)] _) ?_
 simp only [wn, wq, Nat.reduceMul, reduceCtorEq, Nat.reduceBEq, Nat.reduceAdd, Nat.reduceLT, Nat.reduceLeDiff, Nat.reduceSub, Nat.reduceEqDiff]
 show VW _ _ (.v false (.int .u64) (pop6 x5) :: _) _
 generalize hx6 : pop6 x5 = x6
 repeat refine VW.seq ?_
 refine VW.regl hT fun K hK => ?_
 simp only [wq, Nat.reduceMul, reduceCtorEq, Nat.reduceBEq, Nat.reduceAdd, Nat.reduceLT, Nat.reduceLeDiff, Nat.reduceSub, Nat.reduceEqDiff]
 refine hK _ ?_
 clear hK K
 try refine vthen_n ?_
 refine VW.ret ⟨.inl rfl, _, rfl, ?_⟩
 subst hx1 hx2 hx3 hx4 hx5 hx6
 rfl
theorem ones_vc (n : Int) : VC Tryz.prog 181 [.v false (.int .u64) n] (· = .v false (.int .i64) (popc n)) := by
 refine VC.of_body hT Tryz.func181 rfl (by kernel_rfl) [(.tmp 2, false, .int .i64)] (by kernel_rfl) ?_
 show VW _ _ ([.v false (.int .u64) n, D, D, D, D, D, D, D]) _
 repeat refine VW.seq ?_
 refine VW.regl hT fun K hK => ?_
 simp only [wq, simprocAttr]
 refine hK _ ?_
 clear hK K
 try refine vthen_n ?_
 repeat refine VW.seq ?_
 refine VW.cond rfl (fun hc => ?_) (fun hc => ?_)
 ·cases hc
 refine VW.skip (vthen_n ?_)
 repeat refine VW.seq ?_
 refine VW.regl hT fun K hK => ?_
 simp only [wq, simprocAttr]
 refine vcall_of (ones64_vc n) ?_
 simp only [wq, simprocAttr]
 refine hK _ ?_
 clear hK K
 try refine vthen_n ?_
 exact VW.ret ⟨.inl rfl, _, rfl, rfl⟩
/-- a size that is a power of two -/
def pw (n : Int) : Bool := n == 16 || n == 32 || n == 64 || n == 128 || n == 256 || n == 512 || n == 1024 || n == 2048 || n == 4096
theorem pop_all : ((List.range 4097).all fun n => decide (n < 16) || ((popc (n : Int) == 1) == pw (n : Int))) = true := by kernel_rfl
theorem pop_pw {n : Int} (h1 : 16 ≤ n) (h2 : n ≤ 4096) : (popc n == 1) = pw n := by
 have := List.all_eq_true.1 pop_all n.toNat (List.mem_range.2 (by omega))
 rw [show ((n.toNat : Nat) : Int) = n by omega, decide_eq_false (by omega), Bool.false_or, beq_iff_eq] at this
 exact this
theorem isPower_vc (n : Int) : VC Tryz.prog 156 [.v false (.int .i64) (n)] (fun pv => ∃ b : Bool, pv = .v false .bool (b) ∧ (16 ≤ n → n ≤ 4096 → b = pw n)) := by
 refine VC.of_body hT Tryz.func156 rfl (by kernel_rfl) [(.tmp 2, false, .bool)] (by kernel_rfl) ?_
 show VW _ _ ([.v false (.int .i64) (n), D, D, D, D, D, D, D, D, D, D]) _
 repeat refine VW.seq ?_
 refine VW.regl hT fun K hK => ?_
 simp only [wq, simprocAttr]
 refine hK _ ?_
 clear hK K
 try refine vthen_n ?_
 repeat refine VW.seq ?_
 refine VW.regl hT fun K hK => ?_
 simp only [wq, simprocAttr]
 refine vcall_of (within_vc n 1 1048576) ?_
 simp only [wq, simprocAttr]
 refine vbr (fun h => ?_) (fun h => ?_) <;> simp only [wq, simprocAttr]
 ·have hin := inB_iff.1 h
  have hw : IntKind.u64.wrap n = n := by simp [IntKind.wrap, IntKind.bits, IntKind.signed]; omega
  rw [hw]
  refine vcall_of (ones_vc n) ?_
  simp only [wq, simprocAttr]
  refine hK _ ?_
  clear hK K
  try refine vthen_n ?_
  exact VW.ret ⟨.inl rfl, _, rfl, _, rfl, fun h1 h2 => pop_pw h1 h2⟩
 ·refine hK _ ?_
  clear hK K
  try refine vthen_n ?_
  refine VW.ret ⟨.inl rfl, _, rfl, _, rfl, fun h1 h2 => ?_⟩
  rw [inB_iff.2 (by omega)] at h
  cases h
end Go.Proofs.YtoeblmcibheldaaGreatDoor.V.W
end
section
namespace Go.Proofs.YtoeblmcibheldaaGreatDoor.V.W
open Go Go.RowKit
theorem pw_in {n : Int} (h : pw n = true) : 16 ≤ n ∧ n ≤ 4096 := by
 simp only [pw, Bool.or_eq_true, beq_iff_eq] at h
 omega
/-- a size that does not fit -/
def sizeBad (t : List Nd) (s : List Int) (k : Nat) : Bool := !(s.getD k 0 == 0) && ((t.getD k z).2.2 == 0 || !pw (s.getD k 0))
def sizesOk (t : List Nd) (s : List Int) : Bool := treeOk t && ((s.length == t.length) && (List.range t.length).all fun k => !sizeBad t s k)
theorem sizesOk_false {t : List Nd} {s : List Int} {k : Nat} (hk : k < t.length) (h : sizeBad t s k = true) : sizesOk t s = false := by
 have : ((List.range t.length).all fun k => !sizeBad t s k) = false := by
  rw [List.all_eq_false]
  exact ⟨k, List.mem_range.2 hk, by rw [h]; simp⟩
 rw [sizesOk, this, Bool.and_false, Bool.and_false]
theorem sizesOk_iff {t : List Nd} {s : List Int} : sizesOk t s = true ↔ treeOk t = true ∧ s.length = t.length ∧ ∀ k, k < t.length → sizeBad t s k = false := by
 unfold sizesOk
 rw [Bool.and_eq_true, Bool.and_eq_true, beq_iff_eq, List.all_eq_true]
 refine and_congr Iff.rfl (and_congr Iff.rfl ⟨fun h k hk => ?_, fun h k hk => ?_⟩)
 ·have := h k (List.mem_range.2 hk)
  simpa using this
 ·rw [h k (List.mem_range.1 hk)]; rfl
theorem lenEq {a b : Nat} : ((a : Int) == (b : Int)) = (a == b) := by
 rw [Bool.eq_iff_iff, beq_iff_eq, beq_iff_eq]; omega
set_option maxRecDepth 20000 in
theorem sizesOk_vc (t : List Nd) (s : List Int) (hl : t.length ≤ 2000000) (hs : s.length ≤ 2000000) : VC Tryz.prog 121 [.v false sNS t, .v false sI s] (· = .v false .bool (sizesOk t s)) := by
 refine VC.of_body hT Tryz.func121 rfl (by kernel_rfl) [(.tmp 4, false, .bool)] (by kernel_rfl) ?_
 show VW _ _ ([.v false sNS t, .v false sI s, D, D, D, D, D, D, D, D, D, D, D, D, D, D, D, D, D, D, D, D, D, D, D, D, D, D, D, D, D, D, D, D, D, D, D, D, D, D, D, D]) _
 repeat refine VW.seq ?_
 refine VW.regl hT fun K hK => ?_
 simp only [wq, simprocAttr]
 refine hK _ ?_
 clear hK K
 try refine vthen_n ?_
 repeat refine VW.seq ?_
 refine VW.regl hT fun K hK => ?_
 simp only [wq, simprocAttr]
 refine vcall_of (treeOk_vc t hl) ?_
 simp only [wq, simprocAttr]
 refine vbr (fun h => ?_) (fun h => ?_) <;> simp only [wq, simprocAttr]
 case refine_2 =>
  refine hK _ ?_
  clear hK K
  try refine vthen_n ?_
  repeat refine VW.seq ?_
  refine VW.cond rfl (fun hc => ?_) (fun hc => ?_)
  ·repeat refine VW.seq ?_
   refine VW.regl hT fun K hK => ?_
   simp only [wq, simprocAttr]
   refine hK _ ?_
   clear hK K
   try refine vthen_n ?_
   refine VW.ret ⟨.inl rfl, _, rfl, ?_⟩
   have h' : treeOk t = false := (Bool.not_eq_true' _).mp h
   rw [sizesOk, h', Bool.false_and]
  ·cases hc
 have hok : treeOk t = true := by
  have := h
  rwa [Bool.not_eq_false'] at this
 have htl := treeOk_len hok
 refine hK _ ?_
 clear hK K
 try refine vthen_n ?_
 rw [lenEq]
 repeat refine VW.seq ?_
 refine VW.cond rfl (fun hc => ?_) (fun hc => ?_)
 ·repeat refine VW.seq ?_
  refine VW.regl hT fun K hK => ?_
  simp only [wq, simprocAttr]
  refine hK _ ?_
  clear hK K
  try refine vthen_n ?_
  refine VW.ret ⟨.inl rfl, _, rfl, ?_⟩
  have h' : (s.length == t.length) = false := (Bool.not_eq_true' _).mp hc
  rw [sizesOk, h', Bool.false_and, Bool.and_false]
 have hsl : s.length = t.length := by simpa using hc
 refine VW.skip (vthen_n ?_)
 repeat refine VW.seq ?_
 refine VW.regl hT fun K hK => ?_
 simp only [wq, simprocAttr]
 refine hK _ ?_
 clear hK K
 try refine vthen_n ?_
 repeat refine VW.seq ?_
 refine VW.block ?_
 refine VW.loop (α := Nat) [(0, none), (17, none), (18, none), (19, none)] (fun i => [.v false sNS t, D, D, D, D, D, D, D, D, D, D, D, D, D, D, D, D, .v false sI s, .v false (.int .i64) (s.length), .v false (.int .i64) (i), D, D, D, D, D, D, D, D, D, D, D, D, D, D, D, D, D, D, D, D, D, D]) (fun i => i ≤ s.length ∧ ∀ k, k < i → sizeBad t s k = false) (fun i => s.length - i) ⟨0, ⟨by omega, fun k hk => by omega⟩, ?_⟩ fun i ⟨hi, hk⟩ => ?_
 ·simp only [wn, wq, simprocAttr]
  try rfl
 repeat refine VW.seq ?_
 refine VW.regl hT fun K hK => ?_
 simp only [wq, simprocAttr]
 refine hK _ ?_
 clear hK K
 try refine vthen_n ?_
 repeat refine VW.seq ?_
 refine VW.cond rfl (fun hc => ?_) (fun hc => ?_)
 ·have hlt : i < s.length := by simpa using hc
  refine VW.skip (vthen_n ?_)
  repeat refine VW.seq ?_
  refine VW.block ?_
  repeat refine VW.seq ?_
  refine VW.regl hT fun K hK => ?_
  simp only [wq, simprocAttr]
  refine ⟨decide_eq_true ⟨Int.natCast_nonneg _, by show (i : Int) < (s.length : Int); omega⟩, ?_⟩
  refine hK _ ?_
  clear hK K
  try refine vthen_n ?_
  apply cutl
  ·intro tail
   repeat refine VW.seq ?_
   refine VW.regl hT fun K hK => ?_
   simp only [wq, simprocAttr]
   refine vbr (fun g => ?_) (fun g => ?_) <;> simp only [wq, simprocAttr]
   case refine_2 =>
    refine hK _ ?_
    try refine vthen_n ?_
    refine VW.cond rfl (fun hc => by cases hc) (fun hc => ?_)
    refine VW.skip ?_
    show vthen _ _ _ .normal _
    refine vthen_n ?_
    refine VW.weak (weak_norm [(0, none), (17, none), (18, none), (19, none)] _) ?_
    simp only [wn, wq, simprocAttr]
    have hb : sizeBad t s i = false := by
     have g2 : (!(s.getD i 0 == 0)) = false := g
     rw [sizeBad, g2, Bool.false_and]
    revert hb
    exact tail.h
   have g2 : (!(s.getD i 0 == 0)) = true := g
   have bad : ((t.getD i z).2.2 == 0 || !pw (s.getD i 0)) = true → sizesOk t s = false := fun h => sizesOk_false (k := i) (by omega) (by rw [sizeBad, g2, h]; rfl)
   refine vcall_of (isBridge_vc t i (by omega) (by omega)) ?_
   simp only [wq, simprocAttr]
   refine vbr (fun g3 => ?_) (fun g3 => ?_) <;> simp only [wq, simprocAttr]
   case refine_2 =>
    refine hK _ ?_
    try refine vthen_n ?_
    refine VW.cond rfl (fun hc => ?_) (fun hc => by cases hc)
    repeat refine VW.seq ?_
    refine VW.regl hT fun K hK => ?_
    simp only [wq, simprocAttr]
    refine hK _ ?_
    clear hK K
    try refine vthen_n ?_
    refine VW.ret ⟨.inl rfl, _, rfl, ?_⟩
    rw [bad (by rw [show ((t.getD i z).2.2 == 0) = true from g3]; rfl)]
   have g3 : ((t.getD i z).2.2 == 0) = false := g3
   refine vcall_ex (isPower_vc _) ?_
   rintro pv ⟨b, rfl, hb⟩
   simp only [wq, simprocAttr]
   refine vbr (fun g4 => ?_) (fun g4 => ?_) <;> simp only [wq, simprocAttr]
   case refine_2 =>
    refine hK _ ?_
    try refine vthen_n ?_
    refine VW.cond rfl (fun hc => ?_) (fun hc => by cases hc)
    repeat refine VW.seq ?_
    refine VW.regl hT fun K hK => ?_
    simp only [wq, simprocAttr]
    refine hK _ ?_
    clear hK K
    try refine vthen_n ?_
    refine VW.ret ⟨.inl rfl, _, rfl, ?_⟩
    have g4 : b = false := by simpa using g4
    have : pw (s.getD i 0) = false := by
     rw [← Bool.not_eq_true]
     intro h
     have h2 := pw_in h
     have h3 := hb h2.1 h2.2
     rw [g4, h] at h3
     cases h3
    rw [bad (by rw [this]; simp)]
   have g4 : b = true := by simpa using g4
   refine vcall_of (within_vc _ 16 4096) ?_
   simp only [wq, simprocAttr]
   refine hK _ ?_
   try refine vthen_n ?_
   refine VW.cond rfl (fun hc => ?_) (fun hc => ?_)
   ·repeat refine VW.seq ?_
    refine VW.regl hT fun K hK => ?_
    simp only [wq, simprocAttr]
    refine hK _ ?_
    clear hK K
    try refine vthen_n ?_
    refine VW.ret ⟨.inl rfl, _, rfl, ?_⟩
    have hc : inB (s.getD i 0) 16 4096 = false := (Bool.not_eq_true' _).mp hc
    have : pw (s.getD i 0) = false := by
     rw [← Bool.not_eq_true]
     intro h
     rw [inB_iff.2 (pw_in h)] at hc
     cases hc
    rw [bad (by rw [this]; simp)]
   ·refine VW.skip ?_
    show vthen _ _ _ .normal _
    refine vthen_n ?_
    refine VW.weak (weak_norm [(0, none), (17, none), (18, none), (19, none)] _) ?_
    simp only [wn, wq, simprocAttr]
    have hb : sizeBad t s i = false := by
     have hc : inB (s.getD i 0) 16 4096 = true := by
      have := hc
      rwa [Bool.not_eq_false'] at this
     have h2 := inB_iff.1 hc
     have h3 := hb h2.1 h2.2
     rw [g4] at h3
     rw [sizeBad, g3, ← h3]
     simp
    revert hb
    exact tail.h
  ·intro hb
   repeat refine VW.seq ?_
   refine VW.regl hT fun K hK => ?_
   simp only [wq, simprocAttr]
   refine hK _ ?_
   clear hK K
   try refine vthen_n ?_
   refine ⟨i + 1, ⟨hlt, fun k h => ?_⟩, ?_, by show s.length - (i + 1) < s.length - i; omega⟩
   ·rcases Nat.lt_or_ge k i with h1 | h1
    ·exact hk k h1
    ·obtain rfl : k = i := by omega
     exact hb
   ·simp only [wn, wq, simprocAttr]
    rw [wrap64 (by omega) (by omega)]
    rfl
 ·have hge : s.length ≤ i := by simpa using hc
  refine VW.exit ?_
  show vthen _ _ _ .normal _
  refine vthen_n ?_
  repeat refine VW.seq ?_
  refine VW.regl hT fun K hK => ?_
  simp only [wq, simprocAttr]
  refine hK _ ?_
  clear hK K
  try refine vthen_n ?_
  refine VW.ret ⟨.inl rfl, _, rfl, ?_⟩
  rw [sizesOk_iff.2 ⟨hok, hsl, fun k hk' => hk k (by omega)⟩]
end Go.Proofs.YtoeblmcibheldaaGreatDoor.V.W
end
section
namespace Go.Proofs.YtoeblmcibheldaaGreatDoor.V.W
open Go Go.RowKit
theorem pow_pw : ((List.range 21).all fun i => decide ((2 ^ i : Nat) < 16) || decide ((2 ^ i : Nat) > 4096) || pw ((2 ^ i : Nat) : Int)) = true := by decide
theorem pow_pw' {i : Nat} (hi : i < 21) (h1 : (16 : Int) ≤ ((2 ^ i : Nat) : Int)) (h2 : ((2 ^ i : Nat) : Int) ≤ 4096) : pw ((2 ^ i : Nat) : Int) = true := by
 have := List.all_eq_true.1 pow_pw i (List.mem_range.2 hi)
 rw [decide_eq_false (by omega), decide_eq_false (by omega)] at this
 simpa using this
theorem pw_pow {n : Int} (h : pw n = true) : ∃ i : Nat, i < 21 ∧ n = ((2 ^ i : Nat) : Int) := by
 simp only [pw, Bool.or_eq_true, beq_iff_eq] at h
 rcases h with (((((((h | h) | h) | h) | h) | h) | h) | h) | h
 ·exact ⟨4, by omega, h⟩
 ·exact ⟨5, by omega, h⟩
 ·exact ⟨6, by omega, h⟩
 ·exact ⟨7, by omega, h⟩
 ·exact ⟨8, by omega, h⟩
 ·exact ⟨9, by omega, h⟩
 ·exact ⟨10, by omega, h⟩
 ·exact ⟨11, by omega, h⟩
 ·exact ⟨12, by omega, h⟩
theorem specPower_vc (n : Int) : VC Tryz.prog 179 [.v false (.int .i64) (n)] (fun pv => ∃ b : Bool, pv = .v false .bool (b) ∧ (16 ≤ n → n ≤ 4096 → b = pw n)) := by
 refine VC.of_body hT Tryz.func179 rfl (by kernel_rfl) [(.tmp 2, false, .bool)] (by kernel_rfl) ?_
 show VW _ _ ([.v false (.int .i64) (n), D, D, D, D, D, D, D, D, D, D, D]) _
 repeat refine VW.seq ?_
 refine VW.regl hT fun K hK => ?_
 simp only [wq, simprocAttr]
 refine hK _ ?_
 clear hK K
 try refine vthen_n ?_
 repeat refine VW.seq ?_
 refine VW.regl hT fun K hK => ?_
 simp only [wq, simprocAttr]
 refine hK _ ?_
 clear hK K
 try refine vthen_n ?_
 repeat refine VW.seq ?_
 refine VW.block ?_
 refine VW.loop (α := Nat) [(0, none), (3, none)] (fun i => [.v false (.int .i64) (n), D, D, .v false (.int .i64) (i), D, D, D, D, D, D, D, D]) (fun i => i ≤ 21 ∧ ∀ j, j < i → n ≠ ((2 ^ j : Nat) : Int)) (fun i => 21 - i) ⟨0, ⟨by omega, fun j hj => by omega⟩, ?_⟩ fun i ⟨hi, hj⟩ => ?_
 ·simp only [wn, wq, simprocAttr]
  try rfl
 repeat refine VW.seq ?_
 refine VW.regl hT fun K hK => ?_
 simp only [wq, simprocAttr]
 refine hK _ ?_
 clear hK K
 try refine vthen_n ?_
 repeat refine VW.seq ?_
 refine VW.cond rfl (fun hc => ?_) (fun hc => ?_)
 ·have hlt : i < 21 := by
   have : (i : Int) ≤ 20 := of_decide_eq_true hc
   omega
  refine VW.skip (vthen_n ?_)
  repeat refine VW.seq ?_
  refine VW.block ?_
  repeat refine VW.seq ?_
  refine VW.regl hT fun K hK => ?_
  simp only [wq, simprocAttr]
  have hle : (2 ^ i : Nat) ≤ 2 ^ 20 := Nat.pow_le_pow_right (by decide) (by omega)
  have hw : IntKind.i64.wrap (1 * 2 ^ min i IntKind.i64.bits) = ((2 ^ i : Nat) : Int) := by
   rw [show min i IntKind.i64.bits = i from Nat.min_eq_left (by show i ≤ 64; omega), Int.one_mul, show (2 : Int) ^ i = ((2 ^ i : Nat) : Int) by simp]
   generalize (2 ^ i : Nat) = p at hle ⊢
   exact wrap64 (by omega) (by omega)
  rw [hw]
  refine ⟨decide_eq_true (Int.natCast_nonneg _), ?_⟩
  refine hK _ ?_
  clear hK K
  try refine vthen_n ?_
  repeat refine VW.seq ?_
  refine VW.cond rfl (fun hc => ?_) (fun hc => ?_)
  ·repeat refine VW.seq ?_
   refine VW.regl hT fun K hK => ?_
   simp only [wq, simprocAttr]
   refine hK _ ?_
   clear hK K
   try refine vthen_n ?_
   refine VW.ret ⟨.inl rfl, _, rfl, _, rfl, fun h1 h2 => ?_⟩
   have e : n = ((2 ^ i : Nat) : Int) := by simpa using hc
   show true = pw n
   rw [e] at h1 h2 ⊢
   exact (pow_pw' hlt h1 h2).symm
  ·refine VW.skip ?_
   show vthen _ _ _ .normal _
   refine vthen_n ?_
   repeat refine VW.seq ?_
   refine VW.regl hT fun K hK => ?_
   simp only [wq, simprocAttr]
   refine hK _ ?_
   clear hK K
   try refine vthen_n ?_
   refine ⟨i + 1, ⟨by omega, fun j h => ?_⟩, ?_, by show 21 - (i + 1) < 21 - i; omega⟩
   ·rcases Nat.lt_or_ge j i with h1 | h1
    ·exact hj j h1
    ·obtain rfl : j = i := by omega
     simpa using hc
   ·simp only [wn, wq, simprocAttr]
    rw [wrap64 (by omega) (by omega)]
    rfl
 ·have hge : i = 21 := by
   have : ¬ (i : Int) ≤ 20 := of_decide_eq_false hc
   omega
  refine VW.exit ?_
  show vthen _ _ _ .normal _
  refine vthen_n ?_
  repeat refine VW.seq ?_
  refine VW.regl hT fun K hK => ?_
  simp only [wq, simprocAttr]
  refine hK _ ?_
  clear hK K
  try refine vthen_n ?_
  refine VW.ret ⟨.inl rfl, _, rfl, _, rfl, fun h1 h2 => ?_⟩
  symm
  show pw n = false
  rw [← Bool.not_eq_true]
  intro h
  obtain ⟨j, hj2, hj3⟩ := pw_pow h
  exact hj j (by omega) hj3
set_option maxRecDepth 20000 in
theorem specSizes_vc (t : List Nd) (s : List Int) (hl : t.length ≤ 2000000) (hs : s.length ≤ 2000000) : VC Tryz.prog 151 [.v false sNS t, .v false sI s] (· = .v false .bool (sizesOk t s)) := by
 refine VC.of_body hT Tryz.func151 rfl (by kernel_rfl) [(.tmp 4, false, .bool)] (by kernel_rfl) ?_
 show VW _ _ ([.v false sNS t, .v false sI s, D, D, D, D, D, D, D, D, D, D, D, D, D, D, D, D, D, D, D, D, D, D, D, D, D, D, D, D, D, D, D, D, D, D, D, D, D, D, D, D, D, D, D, D, D, D, D, D, D]) _
 repeat refine VW.seq ?_
 refine VW.regl hT fun K hK => ?_
 simp only [wq, simprocAttr]
 refine hK _ ?_
 clear hK K
 try refine vthen_n ?_
 repeat refine VW.seq ?_
 refine VW.regl hT fun K hK => ?_
 simp only [wq, simprocAttr]
 refine vcall_of (specTreeOk_vc t hl) ?_
 simp only [wq, simprocAttr]
 refine vbr (fun h => ?_) (fun h => ?_) <;> simp only [wq, simprocAttr]
 case refine_2 =>
  refine hK _ ?_
  clear hK K
  try refine vthen_n ?_
  repeat refine VW.seq ?_
  refine VW.cond rfl (fun hc => ?_) (fun hc => ?_)
  ·repeat refine VW.seq ?_
   refine VW.regl hT fun K hK => ?_
   simp only [wq, simprocAttr]
   refine hK _ ?_
   clear hK K
   try refine vthen_n ?_
   refine VW.ret ⟨.inl rfl, _, rfl, ?_⟩
   have h' : treeOk t = false := (Bool.not_eq_true' _).mp h
   rw [sizesOk, h', Bool.false_and]
  ·cases hc
 have hok : treeOk t = true := by
  have := h
  rwa [Bool.not_eq_false'] at this
 have htl := treeOk_len hok
 refine hK _ ?_
 clear hK K
 try refine vthen_n ?_
 rw [lenEq]
 repeat refine VW.seq ?_
 refine VW.cond rfl (fun hc => ?_) (fun hc => ?_)
 ·repeat refine VW.seq ?_
  refine VW.regl hT fun K hK => ?_
  simp only [wq, simprocAttr]
  refine hK _ ?_
  clear hK K
  try refine vthen_n ?_
  refine VW.ret ⟨.inl rfl, _, rfl, ?_⟩
  have h' : (s.length == t.length) = false := (Bool.not_eq_true' _).mp hc
  rw [sizesOk, h', Bool.false_and, Bool.and_false]
 have hsl : s.length = t.length := by simpa using hc
 refine VW.skip (vthen_n ?_)
 repeat refine VW.seq ?_
 refine VW.regl hT fun K hK => ?_
 simp only [wq, simprocAttr]
 refine hK _ ?_
 clear hK K
 try refine vthen_n ?_
 repeat refine VW.seq ?_
 refine VW.block ?_
 refine VW.loop (α := Nat) [(0, none), (1, none), (5, none)] (fun i => [.v false sNS t, .v false sI s, D, D, D, .v false (.int .i64) (i), D, D, D, D, D, D, D, D, D, D, D, D, D, D, D, D, D, D, D, D, D, D, D, D, D, D, D, D, D, D, D, D, D, D, D, D, D, D, D, D, D, D, D, D, D]) (fun i => i ≤ t.length ∧ ∀ k, k < i → sizeBad t s k = false) (fun i => t.length - i) ⟨0, ⟨by omega, fun k hk => by omega⟩, ?_⟩ fun i ⟨hi, hk⟩ => ?_
 ·simp only [wn, wq, simprocAttr]
  try rfl
 repeat refine VW.seq ?_
 refine VW.regl hT fun K hK => ?_
 simp only [wq, simprocAttr]
 refine hK _ ?_
 clear hK K
 try refine vthen_n ?_
 repeat refine VW.seq ?_
 refine VW.cond rfl (fun hc => ?_) (fun hc => ?_)
 ·have hlt : i < t.length := by simpa using hc
  have hi1 : decide (0 ≤ (i : Int) ∧ (i : Int) < (s.length : Int)) = true := decide_eq_true ⟨Int.natCast_nonneg _, by omega⟩
  have hi2 : decide (0 ≤ (i : Int) ∧ (i : Int) < (t.length : Int)) = true := decide_eq_true ⟨Int.natCast_nonneg _, by omega⟩
  refine VW.skip (vthen_n ?_)
  repeat refine VW.seq ?_
  refine VW.block ?_
  apply cutl
  ·intro tail
   repeat refine VW.seq ?_
   refine VW.regl hT fun K hK => ?_
   simp only [wq, simprocAttr]
   refine ⟨hi1, ?_⟩
   refine vbr (fun g => ?_) (fun g => ?_) <;> simp only [wq, simprocAttr]
   case refine_2 =>
    refine hK _ ?_
    try refine vthen_n ?_
    refine VW.cond rfl (fun hc => by cases hc) (fun hc => ?_)
    refine VW.skip ?_
    show vthen _ _ _ .normal _
    refine vthen_n ?_
    refine VW.weak (weak_norm [(0, none), (1, none), (5, none)] _) ?_
    simp only [wn, wq, simprocAttr]
    have hb : sizeBad t s i = false := by
     have g2 : (!(s.getD i 0 == 0)) = false := g
     rw [sizeBad, g2, Bool.false_and]
    revert hb
    exact tail.h
   have g2 : (!(s.getD i 0 == 0)) = true := g
   have bad : ((t.getD i z).2.2 == 0 || !pw (s.getD i 0)) = true → sizesOk t s = false := fun h => sizesOk_false (k := i) (by omega) (by rw [sizeBad, g2, h]; rfl)
   refine ⟨hi2, ?_⟩
   refine vbr (fun g3 => ?_) (fun g3 => ?_) <;> simp only [wq, simprocAttr]
   case refine_2 =>
    refine hK _ ?_
    try refine vthen_n ?_
    refine VW.cond rfl (fun hc => ?_) (fun hc => by cases hc)
    repeat refine VW.seq ?_
    refine VW.regl hT fun K hK => ?_
    simp only [wq, simprocAttr]
    refine hK _ ?_
    clear hK K
    try refine vthen_n ?_
    refine VW.ret ⟨.inl rfl, _, rfl, ?_⟩
    rw [bad (by rw [show ((t.getD i z).2.2 == 0) = true from g3]; rfl)]
   have g3 : ((t.getD i z).2.2 == 0) = false := g3
   refine ⟨hi1, ?_⟩
   refine vcall_ex (specPower_vc _) ?_
   rintro pv ⟨b, rfl, hb⟩
   simp only [wq, simprocAttr]
   refine vbr (fun g4 => ?_) (fun g4 => ?_) <;> simp only [wq, simprocAttr]
   case refine_2 =>
    refine hK _ ?_
    try refine vthen_n ?_
    refine VW.cond rfl (fun hc => ?_) (fun hc => by cases hc)
    repeat refine VW.seq ?_
    refine VW.regl hT fun K hK => ?_
    simp only [wq, simprocAttr]
    refine hK _ ?_
    clear hK K
    try refine vthen_n ?_
    refine VW.ret ⟨.inl rfl, _, rfl, ?_⟩
    have g4 : b = false := by simpa using g4
    have : pw (s.getD i 0) = false := by
     rw [← Bool.not_eq_true]
     intro h
     have h2 := pw_in h
     have h3 := hb h2.1 h2.2
     rw [g4] at h3
     rw [show pw (s.getD i 0) = false from h3.symm] at h
     cases h
    rw [bad (by rw [this]; simp)]
   have g4 : b = true := by simpa using g4
   refine ⟨hi1, ?_⟩
   refine vcall_of (in_vc _ 16 4096) ?_
   simp only [wq, simprocAttr]
   refine hK _ ?_
   try refine vthen_n ?_
   refine VW.cond rfl (fun hc => ?_) (fun hc => ?_)
   ·repeat refine VW.seq ?_
    refine VW.regl hT fun K hK => ?_
    simp only [wq, simprocAttr]
    refine hK _ ?_
    clear hK K
    try refine vthen_n ?_
    refine VW.ret ⟨.inl rfl, _, rfl, ?_⟩
    have hc : inB (s.getD i 0) 16 4096 = false := (Bool.not_eq_true' _).mp hc
    have : pw (s.getD i 0) = false := by
     rw [← Bool.not_eq_true]
     intro h
     rw [inB_iff.2 (pw_in h)] at hc
     cases hc
    rw [bad (by rw [this]; simp)]
   ·refine VW.skip ?_
    show vthen _ _ _ .normal _
    refine vthen_n ?_
    refine VW.weak (weak_norm [(0, none), (1, none), (5, none)] _) ?_
    simp only [wn, wq, simprocAttr]
    have hb : sizeBad t s i = false := by
     have hc : inB (s.getD i 0) 16 4096 = true := by
      have := hc
      rwa [Bool.not_eq_false'] at this
     have h2 := inB_iff.1 hc
     have h3 := hb h2.1 h2.2
     rw [g4] at h3
     rw [sizeBad, g3, show pw (s.getD i 0) = true from h3.symm]
     simp
    revert hb
    exact tail.h
  ·intro hb
   repeat refine VW.seq ?_
   refine VW.regl hT fun K hK => ?_
   simp only [wq, simprocAttr]
   refine hK _ ?_
   clear hK K
   try refine vthen_n ?_
   refine ⟨i + 1, ⟨hlt, fun k h => ?_⟩, ?_, by show t.length - (i + 1) < t.length - i; omega⟩
   ·rcases Nat.lt_or_ge k i with h1 | h1
    ·exact hk k h1
    ·obtain rfl : k = i := by omega
     exact hb
   ·simp only [wn, wq, simprocAttr]
    rw [wrap64 (by omega) (by omega)]
    rfl
 ·have hge : t.length ≤ i := by simpa using hc
  refine VW.exit ?_
  show vthen _ _ _ .normal _
  refine vthen_n ?_
  repeat refine VW.seq ?_
  refine VW.regl hT fun K hK => ?_
  simp only [wq, simprocAttr]
  refine hK _ ?_
  clear hK K
  try refine vthen_n ?_
  refine VW.ret ⟨.inl rfl, _, rfl, ?_⟩
  rw [sizesOk_iff.2 ⟨hok, hsl, fun k hk' => hk k (by omega)⟩]
theorem specNode_vc (t : List Nd) (k : Int) (hl : t.length ≤ 2000000) : VC Tryz.prog 193 [.v false sNS t, .v false (.int .i64) (k)] (· = .v false .bool (treeOk t && inB k 0 (t.length - 1))) := by
 refine VC.of_body hT Tryz.func193 rfl (by kernel_rfl) [(.tmp 4, false, .bool)] (by kernel_rfl) ?_
 show VW _ _ ([.v false sNS t, .v false (.int .i64) (k), D, D, D, D, D, D, D, D, D, D, D, D]) _
 repeat refine VW.seq ?_
 refine VW.regl hT fun K hK => ?_
 simp only [wq, simprocAttr]
 refine hK _ ?_
 clear hK K
 try refine vthen_n ?_
 repeat refine VW.seq ?_
 refine VW.regl hT fun K hK => ?_
 simp only [wq, simprocAttr]
 refine vcall_of (specTreeOk_vc t hl) ?_
 simp only [wq, simprocAttr]
 refine vbr (fun h => ?_) (fun h => ?_) <;> simp only [wq, simprocAttr]
 ·rw [wrap64 (by omega) (by omega)]
  refine vcall_of (in_vc k 0 (t.length - 1)) ?_
  simp only [wq, simprocAttr]
  refine hK _ ?_
  clear hK K
  try refine vthen_n ?_
  refine VW.ret ⟨.inl rfl, _, rfl, ?_⟩
  simp only [h, Bool.true_and]
 ·refine hK _ ?_
  clear hK K
  try refine vthen_n ?_
  refine VW.ret ⟨.inl rfl, _, rfl, ?_⟩
  simp only [h, Bool.not_true, Bool.false_and]
/-- the nodes below k with device d among the first i -/
def kidsD (t : List Nd) (k : Int) (d i : Nat) : List Int := ((List.range i).filter fun j : Nat => decide (1 ≤ j) && ((t.getD j z).1 == k && (t.getD j z).2.1 == (d : Int))).map fun j : Nat => (j : Int)
theorem kidsD_succ (t : List Nd) (k : Int) (d i : Nat) : kidsD t k d (i + 1) = kidsD t k d i ++ (if (decide (1 ≤ i) && ((t.getD i z).1 == k && (t.getD i z).2.1 == (d : Int))) = true then [(i : Int)] else []) := by
 unfold kidsD
 rw [List.range_succ, List.filter_append, List.map_append]
 congr 1
 simp only [List.filter_cons, List.filter_nil]
 split <;> rfl
theorem kidsD_len (t : List Nd) (k : Int) (d i : Nat) : (kidsD t k d i).length ≤ i := by
 unfold kidsD
 rw [List.length_map]
 refine Nat.le_trans (List.length_filter_le _ _) ?_
 simp
def kidsTo (t : List Nd) (k : Int) (d : Nat) : List Int := (List.range d).flatMap fun d => kidsD t k d t.length
theorem kidsTo_succ (t : List Nd) (k : Int) (d : Nat) : kidsTo t k (d + 1) = kidsTo t k d ++ kidsD t k d t.length := by
 unfold kidsTo
 rw [List.range_succ, List.flatMap_append]
 simp
theorem kidsTo_len (t : List Nd) (k : Int) : ∀ d, (kidsTo t k d).length ≤ d * t.length
 | 0 => by simp [kidsTo]
 | d + 1 => by
  rw [kidsTo_succ, List.length_append, Nat.succ_mul]
  have := kidsTo_len t k d
  have := kidsD_len t k d t.length
  omega
def skids (t : List Nd) (k : Int) : List Int := if (treeOk t && inB k 0 (t.length - 1)) = true then kidsTo t k 4 else []
set_option maxRecDepth 20000 in
theorem specChildren_vc (t : List Nd) (k : Int) (hl : t.length ≤ 2000000) : VC Tryz.prog 180 [.v false sNS t, .v false (.int .i64) (k)] (· = .root (.val false) sI .own (skids t k)) := by
 refine VC.of_body hT Tryz.func180 rfl (by kernel_rfl) [(.tmp 4, false, sI)] (by kernel_rfl) ?_
 show VW _ _ ([.v false sNS t, .v false (.int .i64) (k), D, D, D, D, D, D, D, D, D, D, D, D, D, D, D, D, D, D, D, D, D, D, D, D, D, D, D, D, D, D, D, D, D, D, D, D, D, D, D, D, D, D, D]) _
 repeat refine VW.seq ?_
 refine VW.regl hT fun K hK => ?_
 simp only [wq, simprocAttr]
 refine hK _ ?_
 clear hK K
 try refine vthen_n ?_
 repeat refine VW.seq ?_
 refine VW.regl hT fun K hK => ?_
 simp only [wq, simprocAttr]
 refine hK _ ?_
 clear hK K
 try refine vthen_n ?_
 repeat refine VW.seq ?_
 refine VW.regl hT fun K hK => ?_
 simp only [wq, simprocAttr]
 refine vcall_of (specNode_vc t k hl) ?_
 simp only [wq, simprocAttr]
 refine hK _ ?_
 clear hK K
 try refine vthen_n ?_
 repeat refine VW.seq ?_
 refine VW.cond rfl (fun hc => ?_) (fun hc => ?_)
 ·repeat refine VW.seq ?_
  refine VW.regl hT fun K hK => ?_
  simp only [wq, simprocAttr]
  refine hK _ ?_
  clear hK K
  try refine vthen_n ?_
  refine VW.ret ⟨.inl rfl, _, rfl, ?_⟩
  have h' : (treeOk t && inB k 0 (t.length - 1)) = false := (Bool.not_eq_true' _).mp hc
  rw [skids, h']
  try rfl
 have hok : (treeOk t && inB k 0 (t.length - 1)) = true := by
  have := hc
  rwa [Bool.not_eq_false'] at this
 have htl : 1 ≤ t.length ∧ t.length ≤ 12 := by
  simp only [Bool.and_eq_true] at hok
  exact treeOk_len hok.1
 refine VW.skip (vthen_n ?_)
 repeat refine VW.seq ?_
 refine VW.regl hT fun K hK => ?_
 simp only [wq, simprocAttr]
 refine hK _ ?_
 clear hK K
 try refine vthen_n ?_
 repeat refine VW.seq ?_
 refine VW.block ?_
 refine VW.loop (α := Nat) [(0, none), (1, none), (5, some (3, .int .i64)), (6, none)] (fun d => [.v false sNS t, .v false (.int .i64) (k), D, D, D, .root (.val false) sI .own (kidsTo t k d), .v false (.int .i64) (d), D, D, D, D, D, D, D, D, D, D, D, D, D, D, D, D, D, D, D, D, D, D, D, D, D, D, D, D, D, D, D, D, D, D, D, D, D, D]) (fun d => d ≤ 4) (fun d => 4 - d) ⟨0, by omega, ?_⟩ fun d hd => ?_
 ·simp only [wn, wq, simprocAttr]
  try rfl
 repeat refine VW.seq ?_
 refine VW.regl hT fun K hK => ?_
 simp only [wq, simprocAttr]
 refine hK _ ?_
 clear hK K
 try refine vthen_n ?_
 repeat refine VW.seq ?_
 refine VW.cond rfl (fun hc => ?_) (fun hc => ?_)
 ·have hlt : d < 4 := by
   have : (d : Int) ≤ 3 := of_decide_eq_true hc
   omega
  have hkt := kidsTo_len t k d
  have hmul : d * t.length ≤ 4 * 12 := Nat.mul_le_mul (by omega) (by omega)
  refine VW.skip (vthen_n ?_)
  repeat refine VW.seq ?_
  refine VW.block ?_
  repeat refine VW.seq ?_
  refine VW.regl hT fun K hK => ?_
  simp only [wq, simprocAttr]
  refine hK _ ?_
  clear hK K
  try refine vthen_n ?_
  repeat refine VW.seq ?_
  refine VW.block ?_
  refine VW.loop (α := Nat) [(0, none), (1, none), (5, some (3, .int .i64)), (6, none), (7, none)] (fun i => [.v false sNS t, .v false (.int .i64) (k), D, D, D, .root (.val false) sI .own (kidsTo t k d ++ kidsD t k d i), .v false (.int .i64) (d), .v false (.int .i64) (i), D, D, D, D, D, D, D, D, D, D, D, D, D, D, D, D, D, D, D, D, D, D, D, D, D, D, D, D, D, D, D, D, D, D, D, D, D]) (fun i => 1 ≤ i ∧ i ≤ t.length) (fun i => t.length - i) ⟨1, ⟨by omega, by omega⟩, ?_⟩ fun i ⟨hi1, hi⟩ => ?_
  ·simp only [wn, wq, simprocAttr]
   rw [show kidsD t k d 1 = [] from rfl, List.append_nil]
   try rfl
  have hkd := kidsD_len t k d i
  repeat refine VW.seq ?_
  refine VW.regl hT fun K hK => ?_
  simp only [wq, simprocAttr]
  refine hK _ ?_
  clear hK K
  try refine vthen_n ?_
  repeat refine VW.seq ?_
  refine VW.cond rfl (fun hc => ?_) (fun hc => ?_)
  ·have hlti : i < t.length := by simpa using hc
   have hi2 : decide (0 ≤ (i : Int) ∧ (i : Int) < (t.length : Int)) = true := decide_eq_true ⟨Int.natCast_nonneg _, by omega⟩
   have hd1 : decide (1 ≤ i) = true := decide_eq_true hi1
   refine VW.skip (vthen_n ?_)
   repeat refine VW.seq ?_
   refine VW.block ?_
   apply cutl
   ·intro tail
    repeat refine VW.seq ?_
    refine VW.regl hT fun K hK => ?_
    simp only [wq, simprocAttr]
    refine ⟨hi2, ?_⟩
    refine vbr (fun g => ?_) (fun g => ?_) <;> simp only [wq, simprocAttr]
    case refine_2 =>
     refine hK _ ?_
     try refine vthen_n ?_
     refine VW.cond rfl (fun hc => by cases hc) (fun hc => ?_)
     refine VW.skip ?_
     show vthen _ _ _ .normal _
     refine vthen_n ?_
     refine VW.weak (weak_norm [(0, none), (1, none), (5, none), (6, none), (7, none)] _) ?_
     simp only [wn, wq, simprocAttr]
     have e : kidsTo t k d ++ kidsD t k d i = kidsTo t k d ++ kidsD t k d (i + 1) := by
      rw [kidsD_succ, show ((t.getD i z).1 == k) = false from g]
      simp
     rw [e]
     exact tail.h
    refine ⟨hi2, ?_⟩
    refine hK _ ?_
    try refine vthen_n ?_
    refine VW.cond rfl (fun hc => ?_) (fun hc => ?_)
    ·repeat refine VW.seq ?_
     refine VW.regl hT fun K hK => ?_
     simp only [wq, simprocAttr]
     refine ⟨by simp [limOk]; omega, ?_⟩
     refine hK _ ?_
     try refine vthen_n ?_
     show vthen _ _ _ .normal _
     refine vthen_n ?_
     refine VW.weak (weak_norm [(0, none), (1, none), (5, none), (6, none), (7, none)] _) ?_
     simp only [wn, wq, simprocAttr]
     have e : kidsTo t k d ++ kidsD t k d i ++ [(i : Int)] = kidsTo t k d ++ kidsD t k d (i + 1) := by
      rw [kidsD_succ, hd1, show ((t.getD i z).1 == k) = true from g, show ((t.getD i z).2.1 == (d : Int)) = true from hc]
      simp
     rw [e]
     exact tail.h
    ·refine VW.skip ?_
     show vthen _ _ _ .normal _
     refine vthen_n ?_
     refine VW.weak (weak_norm [(0, none), (1, none), (5, none), (6, none), (7, none)] _) ?_
     simp only [wn, wq, simprocAttr]
     have e : kidsTo t k d ++ kidsD t k d i = kidsTo t k d ++ kidsD t k d (i + 1) := by
      rw [kidsD_succ, show ((t.getD i z).2.1 == (d : Int)) = false from hc]
      simp
     rw [e]
     exact tail.h
   ·repeat refine VW.seq ?_
    refine VW.regl hT fun K hK => ?_
    simp only [wq, simprocAttr]
    refine hK _ ?_
    clear hK K
    try refine vthen_n ?_
    refine ⟨i + 1, ⟨by omega, by omega⟩, ?_, by show t.length - (i + 1) < t.length - i; omega⟩
    simp only [wn, wq, simprocAttr]
    rw [wrap64 (by omega) (by omega)]
    try rfl
  ·have hge : i = t.length := by
    have : t.length ≤ i := by simpa using hc
    omega
   subst hge
   refine VW.exit ?_
   show vthen _ _ _ .normal _
   refine vthen_n ?_
   repeat refine VW.seq ?_
   refine VW.regl hT fun K hK => ?_
   simp only [wq, simprocAttr]
   refine hK _ ?_
   clear hK K
   try refine vthen_n ?_
   refine ⟨d + 1, by omega, ?_, by show 4 - (d + 1) < 4 - d; omega⟩
   simp only [wn, wq, simprocAttr]
   rw [wrap64 (by omega) (by omega), kidsTo_succ]
   try rfl
 ·have hge : d = 4 := by
   have : ¬ (d : Int) ≤ 3 := of_decide_eq_false hc
   omega
  subst hge
  refine VW.exit ?_
  show vthen _ _ _ .normal _
  refine vthen_n ?_
  repeat refine VW.seq ?_
  refine VW.regl hT fun K hK => ?_
  simp only [wq, simprocAttr]
  refine hK _ ?_
  clear hK K
  try refine vthen_n ?_
  refine VW.ret ⟨.inl rfl, _, rfl, ?_⟩
  rw [skids, if_pos hok]
end Go.Proofs.YtoeblmcibheldaaGreatDoor.V.W
end
section
namespace Go.Proofs.YtoeblmcibheldaaGreatDoor.V.W
open Go Go.RowKit
set_option maxRecDepth 100000 in
theorem len64_vc (n : Int) (h1 : 0 ≤ n) (h2 : n < 256) : VC Tryz.prog 189 [.v false (.int .u64) n] (fun r => ∃ m : Int, r = .v false (.int .i64) (m)) := by
 refine VC.of_body hT Tryz.func189 rfl (by kernel_rfl) [(.tmp 2, false, .int .i64)] (by kernel_rfl) ?_
 show VW _ _ ([.v false (.int .u64) n, D, D, D, D, D, D, D, D, D, D, D, D, D, D, D, D, D, D, D, D, D, D, D, D]) _
 repeat refine VW.seq ?_
 refine VW.regl hT fun K hK => ?_
 simp only [wq, simprocAttr]
 refine hK _ ?_
 clear hK K
 try refine vthen_n ?_
 repeat refine VW.seq ?_
 refine VW.regl hT fun K hK => ?_
 simp only [wq, simprocAttr]
 refine hK _ ?_
 clear hK K
 try refine vthen_n ?_
 repeat refine VW.seq ?_
 refine VW.cond rfl (fun hc => ?_) (fun hc => ?_)
 ·have hc : n ≥ 4294967296 := by simpa using hc
  omega
 refine VW.skip (vthen_n ?_)
 repeat refine VW.seq ?_
 refine VW.regl hT fun K hK => ?_
 simp only [wq, simprocAttr]
 refine hK _ ?_
 clear hK K
 try refine vthen_n ?_
 repeat refine VW.seq ?_
 refine VW.cond rfl (fun hc => ?_) (fun hc => ?_)
 ·have hc : n ≥ 65536 := by simpa using hc
  omega
 refine VW.skip (vthen_n ?_)
 repeat refine VW.seq ?_
 refine VW.regl hT fun K hK => ?_
 simp only [wq, simprocAttr]
 refine hK _ ?_
 clear hK K
 try refine vthen_n ?_
 repeat refine VW.seq ?_
 refine VW.cond rfl (fun hc => ?_) (fun hc => ?_)
 ·have hc : n ≥ 256 := by simpa using hc
  omega
 refine VW.skip (vthen_n ?_)
 repeat refine VW.seq ?_
 refine VW.regl hT fun K hK => ?_
 simp only [wq, simprocAttr]
 have hw : IntKind.u8.wrap n = n := by rw [IntKind.wrap_u8]; omega
 rw [hw]
 refine ⟨decide_eq_true ⟨h1, h2⟩, ?_⟩
 refine hK _ ?_
 clear hK K
 try refine vthen_n ?_
 exact VW.ret ⟨.inl rfl, _, rfl, _, rfl⟩
theorem len_vc (n : Int) (h1 : 0 ≤ n) (h2 : n < 256) : VC Tryz.prog 217 [.v false (.int .u64) n] (fun r => ∃ m : Int, r = .v false (.int .i64) (m)) := by
 refine VC.of_body hT Tryz.func217 rfl (by kernel_rfl) [(.tmp 2, false, .int .i64)] (by kernel_rfl) ?_
 show VW _ _ ([.v false (.int .u64) n, D, D, D, D, D, D, D]) _
 repeat refine VW.seq ?_
 refine VW.regl hT fun K hK => ?_
 simp only [wq, simprocAttr]
 refine hK _ ?_
 clear hK K
 try refine vthen_n ?_
 repeat refine VW.seq ?_
 refine VW.cond rfl (fun hc => ?_) (fun hc => ?_)
 ·cases hc
 refine VW.skip (vthen_n ?_)
 repeat refine VW.seq ?_
 refine VW.regl hT fun K hK => ?_
 simp only [wq, simprocAttr]
 refine vcall_ex (len64_vc n h1 h2) ?_
 rintro pv ⟨m, rfl⟩
 simp only [wq, simprocAttr]
 refine hK _ ?_
 clear hK K
 try refine vthen_n ?_
 exact VW.ret ⟨.inl rfl, _, rfl, _, rfl⟩
theorem isort_len (c : Int → Int → Int) (xs : List Int) : (isort c xs).length = xs.length := by
 rw [isort, List.length_reverse, pre_len c xs _ (Nat.le_refl _)]
set_option maxRecDepth 20000 in
theorem pdq_vx (xs : List Int) (f : FuncId) (sc : Sh) (xc : sc.ty) (c : Int → Int → Int) (m : Int) (hp : ∀ a b, a ∈ xs → b ∈ xs → VC Tryz.prog f [.v false (.int .i64) (a), .v false (.int .i64) (b), .fadr sc xc] (· = .v false (.int .i64) (c a b))) (h0 : 0 < xs.length) (hl : xs.length ≤ 12) :
  VX Tryz.prog 216 [.root (.val false) sI .own xs, .v false (.int .i64) (0), .v false (.int .i64) (xs.length), .v false (.int .i64) (m), .fn f [.fadr sc xc]] 0 (fun pv ot => pv = nil0 ∧ ot = .root (.val false) sI .own (isort c xs)) := by
 refine VX.of_rows hT Tryz.func216 rfl (by kernel_rfl) [] (by kernel_rfl) rfl rfl h0 fun l fi li e1 e2 => ?_
 obtain ⟨n, cp, rfl, rfl⟩ := io1 e1 e2
 show VW _ _ ([.root (.val false) sI (.io n cp) xs, .v false (.int .i64) (0), .v false (.int .i64) (xs.length), .v false (.int .i64) (m), .fn f [.fadr sc xc], D, D, D, D, D, D, D, D, D, D, D, D, D, D, D, D, D, D, D, D, D, D, D, D, D, D, D, D, D, D, D, D, D, D, D, D, D, D, D, D, D, D, D, D, D, D, D, D, D, D, D, D, D, D, D, D, D, D, D, D, D, D, D, D, D, D, D, D, D, D, D, D, D, D, D, D, D, D, D, D, D, D, D, D, D, D, D, D, D, D, D, D, D, D, D, D, D, D, D, D, D, D, D, D, D, D, D, D, D, D, D, D, D, D, D, D, D, D, D, D, D, D, D, D, D, D, D, D, D, D, D, D, D, D, D, D, D, D, D, D, D, D, D]) _
 repeat refine VW.seq ?_
 refine VW.regl hT fun K hK => ?_
 simp only [wq, simprocAttr]
 refine hK _ ?_
 clear hK K
 try refine vthen_n ?_
 repeat refine VW.seq ?_
 refine VW.regl hT fun K hK => ?_
 simp only [wq, simprocAttr]
 refine hK _ ?_
 clear hK K
 try refine vthen_n ?_
 repeat refine VW.seq ?_
 refine VW.block ?_
 refine VW.loop (α := Unit) [(0, none), (1, none), (2, none), (3, none), (4, none)] (fun _ => [.root (.val false) sI (.io n cp) xs, .v false (.int .i64) (0), .v false (.int .i64) (xs.length), .v false (.int .i64) (m), .fn f [.fadr sc xc], D, D, D, D, D, D, D, D, D, D, D, D, D, D, D, D, D, D, D, D, D, D, D, D, D, D, D, D, D, D, D, D, D, D, D, D, D, D, D, D, D, D, D, D, D, D, D, D, D, D, D, D, D, D, D, D, D, D, D, D, D, D, D, D, D, D, D, D, D, D, D, D, D, D, D, D, D, D, D, D, D, D, D, D, D, D, D, D, D, D, D, D, D, D, D, D, D, D, D, D, D, D, D, D, D, D, D, D, D, D, D, D, D, D, D, D, D, D, D, D, D, D, D, D, D, D, D, D, D, D, D, D, D, D, D, D, D, D, D, D, D, D, D]) (fun _ => True) (fun _ => 0) ⟨(), trivial, ?_⟩ fun _ _ => ?_
 ·simp only [wn, wq, simprocAttr]
 repeat refine VW.seq ?_
 refine VW.block ?_
 repeat refine VW.seq ?_
 refine VW.regl hT fun K hK => ?_
 simp only [wq, simprocAttr]
 refine hK _ ?_
 clear hK K
 try refine vthen_n ?_
 rw [wrap64 (by omega) (by omega), Int.sub_zero]
 repeat refine VW.seq ?_
 refine VW.regl hT fun K hK => ?_
 simp only [wq, simprocAttr]
 refine hK _ ?_
 clear hK K
 try refine vthen_n ?_
 repeat refine VW.seq ?_
 refine VW.cond rfl (fun hc => ?_) (fun hc => ?_)
 ·repeat refine VW.seq ?_
  refine VW.regl hT fun K hK => ?_
  simp only [wq, simprocAttr]
  refine vcall_io 0 ?_
  simp only [wq, simprocAttr]
  refine vxcall_of (VX.tag1 (insSort_vx xs f sc xc c hp h0 (by omega)) rfl rfl rfl (by show some [Value.slice (some ⟨n, 0, none⟩) (isort c xs).length cp] = _; rw [isort_len])) ?_
  simp only [wq, simprocAttr]
  refine hK _ ?_
  clear hK K
  try refine vthen_n ?_
  refine VW.ret ⟨.inl rfl, _, _, _, _, rfl, ⟨0, _, rfl⟩, ?_, rfl, rfl⟩
  show some [Value.slice (some ⟨n, 0, none⟩) (isort c xs).length cp] = some [Value.slice (some ⟨n, 0, none⟩) xs.length cp]
  rw [isort_len]
 ·have : ¬ ((xs.length : Int) ≤ 12) := by simpa using hc
  omega
set_option maxRecDepth 20000 in
theorem sort_vx (xs : List Int) (f : FuncId) (sc : Sh) (xc : sc.ty) (c : Int → Int → Int) (hp : ∀ a b, a ∈ xs → b ∈ xs → VC Tryz.prog f [.v false (.int .i64) (a), .v false (.int .i64) (b), .fadr sc xc] (· = .v false (.int .i64) (c a b))) (h0 : 0 < xs.length) (hl : xs.length ≤ 12) :
  VX Tryz.prog 184 [.root (.val false) sI .own xs, .fn f [.fadr sc xc]] 0 (fun pv ot => pv = nil0 ∧ ot = .root (.val false) sI .own (isort c xs)) := by
 refine VX.of_rows hT Tryz.func184 rfl (by kernel_rfl) [] (by kernel_rfl) rfl rfl h0 fun l fi li e1 e2 => ?_
 obtain ⟨n, cp, rfl, rfl⟩ := io1 e1 e2
 show VW _ _ ([.root (.val false) sI (.io n cp) xs, .fn f [.fadr sc xc], D, D, D, D, D, D, D, D, D, D, D, D]) _
 repeat refine VW.seq ?_
 refine VW.regl hT fun K hK => ?_
 simp only [wq, simprocAttr]
 refine hK _ ?_
 clear hK K
 try refine vthen_n ?_
 repeat refine VW.seq ?_
 refine VW.regl hT fun K hK => ?_
 simp only [wq, simprocAttr]
 have hw : IntKind.u64.wrap (xs.length : Int) = xs.length := by simp [IntKind.wrap, IntKind.bits, IntKind.signed]; omega
 rw [hw]
 refine vcall_ex (len_vc _ (by omega) (by omega)) ?_
 rintro pv ⟨m, rfl⟩
 simp only [wq, simprocAttr]
 refine vcall_io 0 ?_
 simp only [wq, simprocAttr]
 refine vxcall_of (VX.tag1 (pdq_vx xs f sc xc c m hp h0 hl) rfl rfl rfl (by show some [Value.slice (some ⟨n, 0, none⟩) (isort c xs).length cp] = _; rw [isort_len])) ?_
 simp only [wq, simprocAttr]
 refine hK _ ?_
 clear hK K
 try refine vthen_n ?_
 refine ⟨.inr rfl, _, _, _, _, rfl, ⟨0, _, rfl⟩, ?_, rfl, rfl⟩
 show some [Value.slice (some ⟨n, 0, none⟩) (isort c xs).length cp] = some [Value.slice (some ⟨n, 0, none⟩) xs.length cp]
 rw [isort_len]
/-- nothing to sort -/
theorem insSort0_vc (f : FuncId) (sc : Sh) (xc : sc.ty) : VC Tryz.prog 229 [.v false sI [], .v false (.int .i64) (0), .v false (.int .i64) (0), .fn f [.fadr sc xc]] (· = nil0) := by
 refine VC.of_body hT Tryz.func229 rfl (by kernel_rfl) [] (by kernel_rfl) ?_
 show VW _ _ ([.v false sI [], .v false (.int .i64) (0), .v false (.int .i64) (0), .fn f [.fadr sc xc], D, D, D, D, D, D, D, D, D, D, D, D, D, D, D, D, D, D, D, D, D, D, D, D, D, D, D, D, D, D, D, D, D, D, D, D, D, D, D, D, D, D, D, D, D, D, D, D, D]) _
 repeat refine VW.seq ?_
 refine VW.regl hT fun K hK => ?_
 simp only [wq, simprocAttr]
 refine hK _ ?_
 clear hK K
 try refine vthen_n ?_
 repeat refine VW.seq ?_
 refine VW.block ?_
 refine VW.loop (α := Unit) [(2, none), (8, none)] (fun _ => [D, D, .v false (.int .i64) (0), D, D, D, D, D, .v false (.int .i64) (1), D, D, D, D, D, D, D, D, D, D, D, D, D, D, D, D, D, D, D, D, D, D, D, D, D, D, D, D, D, D, D, D, D, D, D, D, D, D, D, D, D, D, D, D]) (fun _ => True) (fun _ => 0) ⟨(), trivial, ?_⟩ fun _ _ => ?_
 ·simp only [wn, wq, simprocAttr]
  try rfl
 repeat refine VW.seq ?_
 refine VW.regl hT fun K hK => ?_
 simp only [wq, simprocAttr]
 refine hK _ ?_
 clear hK K
 try refine vthen_n ?_
 repeat refine VW.seq ?_
 refine VW.cond rfl (fun hc => ?_) (fun hc => ?_)
 ·cases hc
 ·refine VW.exit ?_
  exact ⟨.inr rfl, _, rfl, rfl⟩
set_option maxRecDepth 20000 in
theorem pdq0_vc (f : FuncId) (sc : Sh) (xc : sc.ty) (m : Int) : VC Tryz.prog 216 [.v false sI [], .v false (.int .i64) (0), .v false (.int .i64) (0), .v false (.int .i64) (m), .fn f [.fadr sc xc]] (· = nil0) := by
 refine VC.of_body hT Tryz.func216 rfl (by kernel_rfl) [] (by kernel_rfl) ?_
 show VW _ _ ([.v false sI [], .v false (.int .i64) (0), .v false (.int .i64) (0), .v false (.int .i64) (m), .fn f [.fadr sc xc], D, D, D, D, D, D, D, D, D, D, D, D, D, D, D, D, D, D, D, D, D, D, D, D, D, D, D, D, D, D, D, D, D, D, D, D, D, D, D, D, D, D, D, D, D, D, D, D, D, D, D, D, D, D, D, D, D, D, D, D, D, D, D, D, D, D, D, D, D, D, D, D, D, D, D, D, D, D, D, D, D, D, D, D, D, D, D, D, D, D, D, D, D, D, D, D, D, D, D, D, D, D, D, D, D, D, D, D, D, D, D, D, D, D, D, D, D, D, D, D, D, D, D, D, D, D, D, D, D, D, D, D, D, D, D, D, D, D, D, D, D, D, D]) _
 repeat refine VW.seq ?_
 refine VW.regl hT fun K hK => ?_
 simp only [wq, Nat.reduceMul, reduceCtorEq, Nat.reduceBEq, Nat.reduceAdd, Nat.reduceLT, Nat.reduceLeDiff, Nat.reduceSub, Nat.reduceEqDiff]
 refine hK _ ?_
 clear hK K
 try refine vthen_n ?_
 repeat refine VW.seq ?_
 refine VW.regl hT fun K hK => ?_
 simp only [wq, Nat.reduceMul, reduceCtorEq, Nat.reduceBEq, Nat.reduceAdd, Nat.reduceLT, Nat.reduceLeDiff, Nat.reduceSub, Nat.reduceEqDiff]
 refine hK _ ?_
 clear hK K
 try refine vthen_n ?_
 repeat refine VW.seq ?_
 refine VW.block ?_
 refine VW.loop (α := Unit) [(0, none), (1, none), (2, none), (3, none), (4, none)] (fun _ => [.v false sI [], .v false (.int .i64) (0), .v false (.int .i64) (0), .v false (.int .i64) (m), .fn f [.fadr sc xc], D, D, D, D, D, D, D, D, D, D, D, D, D, D, D, D, D, D, D, D, D, D, D, D, D, D, D, D, D, D, D, D, D, D, D, D, D, D, D, D, D, D, D, D, D, D, D, D, D, D, D, D, D, D, D, D, D, D, D, D, D, D, D, D, D, D, D, D, D, D, D, D, D, D, D, D, D, D, D, D, D, D, D, D, D, D, D, D, D, D, D, D, D, D, D, D, D, D, D, D, D, D, D, D, D, D, D, D, D, D, D, D, D, D, D, D, D, D, D, D, D, D, D, D, D, D, D, D, D, D, D, D, D, D, D, D, D, D, D, D, D, D, D]) (fun _ => True) (fun _ => 0) ⟨(), trivial, ?_⟩ fun _ _ => ?_
 ·simp only [wn, wq, Nat.reduceMul, reduceCtorEq, Nat.reduceBEq, Nat.reduceAdd, Nat.reduceLT, Nat.reduceLeDiff, Nat.reduceSub, Nat.reduceEqDiff]
 repeat refine VW.seq ?_
 refine VW.block ?_
 repeat refine VW.seq ?_
 refine VW.regl hT fun K hK => ?_
 simp only [wq, Nat.reduceMul, reduceCtorEq, Nat.reduceBEq, Nat.reduceAdd, Nat.reduceLT, Nat.reduceLeDiff, Nat.reduceSub, Nat.reduceEqDiff]
 refine hK _ ?_
 clear hK K
 try refine vthen_n ?_
 rw [wrap64 (by omega) (by omega), Int.sub_zero]
 repeat refine VW.seq ?_
 refine VW.regl hT fun K hK => ?_
 simp only [wq, Nat.reduceMul, reduceCtorEq, Nat.reduceBEq, Nat.reduceAdd, Nat.reduceLT, Nat.reduceLeDiff, Nat.reduceSub, Nat.reduceEqDiff]
 refine hK _ ?_
 clear hK K
 try refine vthen_n ?_
 repeat refine VW.seq ?_
 refine VW.cond rfl (fun hc => ?_) (fun hc => ?_)
 ·repeat refine VW.seq ?_
  refine VW.regl hT fun K hK => ?_
  simp only [wq, Nat.reduceMul, reduceCtorEq, Nat.reduceBEq, Nat.reduceAdd, Nat.reduceLT, Nat.reduceLeDiff, Nat.reduceSub, Nat.reduceEqDiff]
  refine vcall_of (insSort0_vc f sc xc) ?_
  simp only [wq, Nat.reduceMul, reduceCtorEq, Nat.reduceBEq, Nat.reduceAdd, Nat.reduceLT, Nat.reduceLeDiff, Nat.reduceSub, Nat.reduceEqDiff]
  refine hK _ ?_
  clear hK K
  try refine vthen_n ?_
  exact VW.ret ⟨.inl rfl, _, rfl, rfl⟩
 ·have : ¬ ((0 : Int) ≤ 12) := by simpa using hc
  omega
theorem sort0_vc (f : FuncId) (sc : Sh) (xc : sc.ty) : VC Tryz.prog 184 [.v false sI [], .fn f [.fadr sc xc]] (· = nil0) := by
 refine VC.of_body hT Tryz.func184 rfl (by kernel_rfl) [] (by kernel_rfl) ?_
 show VW _ _ ([.v false sI [], .fn f [.fadr sc xc], D, D, D, D, D, D, D, D, D, D, D, D]) _
 repeat refine VW.seq ?_
 refine VW.regl hT fun K hK => ?_
 simp only [wq, Nat.reduceMul, reduceCtorEq, Nat.reduceBEq, Nat.reduceAdd, Nat.reduceLT, Nat.reduceLeDiff, Nat.reduceSub, Nat.reduceEqDiff]
 refine hK _ ?_
 clear hK K
 try refine vthen_n ?_
 repeat refine VW.seq ?_
 refine VW.regl hT fun K hK => ?_
 simp only [wq, Nat.reduceMul, reduceCtorEq, Nat.reduceBEq, Nat.reduceAdd, Nat.reduceLT, Nat.reduceLeDiff, Nat.reduceSub, Nat.reduceEqDiff]
 have hw : IntKind.u64.wrap ((0 : Nat) : Int) = 0 := by simp [IntKind.wrap, IntKind.bits, IntKind.signed]
 rw [hw]
 refine vcall_ex (len_vc _ (by omega) (by omega)) ?_
 rintro pv ⟨m, rfl⟩
 simp only [wq, Nat.reduceMul, reduceCtorEq, Nat.reduceBEq, Nat.reduceAdd, Nat.reduceLT, Nat.reduceLeDiff, Nat.reduceSub, Nat.reduceEqDiff]
 refine vcall_of (pdq0_vc f sc xc m) ?_
 simp only [wq, Nat.reduceMul, reduceCtorEq, Nat.reduceBEq, Nat.reduceAdd, Nat.reduceLT, Nat.reduceLeDiff, Nat.reduceSub, Nat.reduceEqDiff]
 refine hK _ ?_
 clear hK K
 try refine vthen_n ?_
 exact ⟨.inr rfl, _, rfl, rfl⟩
end Go.Proofs.YtoeblmcibheldaaGreatDoor.V.W
end
section
namespace Go.Proofs.YtoeblmcibheldaaGreatDoor.V.W
open Go Go.RowKit
/-- the nodes below k among the first i -/
def kids (t : List Nd) (k : Int) (i : Nat) : List Int := ((List.range i).filter fun j : Nat => (t.getD j z).1 == k).map fun j : Nat => (j : Int)
theorem kids_succ (t : List Nd) (k : Int) (i : Nat) : kids t k (i + 1) = kids t k i ++ (if ((t.getD i z).1 == k) = true then [(i : Int)] else []) := by
 unfold kids
 rw [List.range_succ, List.filter_append, List.map_append]
 congr 1
 simp only [List.filter_cons, List.filter_nil]
 split <;> rfl
theorem kids_mem {t : List Nd} {k : Int} {i : Nat} {a : Int} (h : a ∈ kids t k i) : 0 ≤ a ∧ a < i := by
 unfold kids at h
 obtain ⟨j, h1, rfl⟩ := List.mem_map.1 h
 have := List.mem_range.1 (List.mem_filter.1 h1).1
 omega
theorem kids_len (t : List Nd) (k : Int) (i : Nat) : (kids t k i).length ≤ i := by
 unfold kids
 rw [List.length_map]
 have := List.length_filter_le (fun j : Nat => (t.getD j z).1 == k) (List.range i)
 rwa [List.length_range] at this
def byDev (t : List Nd) (a b : Int) : Int := cmpI (t.getD a.toNat z).2.1 (t.getD b.toNat z).2.1
def children (t : List Nd) (k : Int) : List Int := if (treeOk t && inB k 0 (t.length - 1)) = true then isort (byDev t) (kids t k t.length) else []
theorem children1_vc (t : List Nd) (a b : Int) (h1 : 0 ≤ a ∧ a < t.length) (h2 : 0 ≤ b ∧ b < t.length) : VC Tryz.prog 215 [.v false (.int .i64) (a), .v false (.int .i64) (b), .fadr sNS t] (· = .v false (.int .i64) (byDev t a b)) := by
 refine VC.of_body hT Tryz.func215 rfl (by kernel_rfl) [(.tmp 5, false, .int .i64)] (by kernel_rfl) ?_
 show VW _ _ ([.v false (.int .i64) (a), .v false (.int .i64) (b), .fadr sNS t, D, D, D, D, D, D, D, D, D, D, D, D, D, D]) _
 repeat refine VW.seq ?_
 refine VW.regl hT fun K hK => ?_
 simp only [wq, simprocAttr]
 refine hK _ ?_
 clear hK K
 try refine vthen_n ?_
 repeat refine VW.seq ?_
 refine VW.mixl hT hm 0 11 (by kernel_rfl) fun K hK => ?_
 simp only [wq, simprocAttr]
 refine ⟨decide_eq_true h1, decide_eq_true h2, ?_⟩
 refine vcallD_of (compare_vc _ _) ?_
 simp only [wq, simprocAttr]
 refine hK _ ?_
 clear hK K
 try refine vthen_n ?_
 exact VW.ret ⟨.inl rfl, _, rfl, rfl⟩
set_option maxRecDepth 20000 in
theorem children_vc (t : List Nd) (k : Int) (hl : t.length ≤ 2000000) : VC Tryz.prog 183 [.v false sNS t, .v false (.int .i64) (k)] (· = .root (.val false) sI .own (children t k)) := by
 refine VC.of_body hT Tryz.func183 rfl (by kernel_rfl) [(.tmp 4, false, sI)] (by kernel_rfl) ?_
 show VW _ _ ([.v false sNS t, .v false (.int .i64) (k), D, D, D, D, D, D, D, D, D, D, D, D, D, D, D, D, D, D, D, D, D, D, D, D, D, D, D, D, D, D, D, D]) _
 repeat refine VW.seq ?_
 refine VW.regl hT fun K hK => ?_
 simp only [wq, simprocAttr]
 refine hK _ ?_
 clear hK K
 try refine vthen_n ?_
 repeat refine VW.seq ?_
 refine VW.regl hT fun K hK => ?_
 simp only [wq, simprocAttr]
 refine hK _ ?_
 clear hK K
 try refine vthen_n ?_
 repeat refine VW.seq ?_
 refine VW.regl hT fun K hK => ?_
 simp only [wq, simprocAttr]
 refine vcall_of (isNode_vc t k hl) ?_
 simp only [wq, simprocAttr]
 refine hK _ ?_
 clear hK K
 try refine vthen_n ?_
 repeat refine VW.seq ?_
 refine VW.cond rfl (fun hc => ?_) (fun hc => ?_)
 ·repeat refine VW.seq ?_
  refine VW.regl hT fun K hK => ?_
  simp only [wq, simprocAttr]
  refine hK _ ?_
  clear hK K
  try refine vthen_n ?_
  refine VW.ret ⟨.inl rfl, _, rfl, ?_⟩
  have hc : (treeOk t && inB k 0 (t.length - 1)) = false := (Bool.not_eq_true' _).mp hc
  simp only [children, hc, Bool.false_eq_true, if_false]
  rfl
 have hok : (treeOk t && inB k 0 (t.length - 1)) = true := by simpa using hc
 have hlen : (t.length : Int) ≤ 12 := by
  simp only [Bool.and_eq_true, treeOk] at hok
  exact (inB_iff.1 hok.1.1).2
 refine VW.skip (vthen_n ?_)
 repeat refine VW.seq ?_
 refine VW.regl hT fun K hK => ?_
 simp only [wq, simprocAttr]
 refine hK _ ?_
 clear hK K
 try refine vthen_n ?_
 repeat refine VW.seq ?_
 refine VW.block ?_
 refine VW.loop (α := Nat) [(1, none), (2, none), (5, some (3, .int .i64)), (14, none), (15, none), (16, none)] (fun i => [D, .v false (.int .i64) (k), .root (.box 24) sNS .fz t, D, D, .root (.val false) sI .own (kids t k i), D, D, D, D, D, D, D, D, .v false sNS t, .v false (.int .i64) (t.length), .v false (.int .i64) (i), D, D, D, D, D, D, D, D, D, D, D, D, D, D, D, D, D]) (fun i => i ≤ t.length) (fun i => t.length - i) ⟨0, by omega, ?_⟩ fun i hi => ?_
 ·simp only [wn, wq, simprocAttr]
  try rfl
 repeat refine VW.seq ?_
 refine VW.regl hT fun K hK => ?_
 simp only [wq, simprocAttr]
 refine hK _ ?_
 clear hK K
 try refine vthen_n ?_
 repeat refine VW.seq ?_
 refine VW.cond rfl (fun hc => ?_) (fun hc => ?_)
 ·have hlt : i < t.length := by simpa using hc
  have hkl := kids_len t k i
  refine VW.skip (vthen_n ?_)
  repeat refine VW.seq ?_
  refine VW.block ?_
  repeat refine VW.seq ?_
  refine VW.regl hT fun K hK => ?_
  simp only [wq, simprocAttr]
  refine ⟨by simp; omega, ?_⟩
  refine hK _ ?_
  clear hK K
  try refine vthen_n ?_
  repeat refine VW.seq ?_
  refine VW.regl hT fun K hK => ?_
  simp only [wq, simprocAttr]
  refine hK _ ?_
  clear hK K
  try refine vthen_n ?_
  repeat refine VW.seq ?_
  refine VW.cond rfl (fun hc => ?_) (fun hc => ?_)
  ·repeat refine VW.seq ?_
   refine VW.regl hT fun K hK => ?_
   simp only [wq, simprocAttr]
   refine ⟨by simp [limOk]; omega, ?_⟩
   refine hK _ ?_
   clear hK K
   try refine vthen_n ?_
   show vthen _ _ _ .normal _
   refine vthen_n ?_
   repeat refine VW.seq ?_
   refine VW.regl hT fun K hK => ?_
   simp only [wq, simprocAttr]
   refine hK _ ?_
   clear hK K
   try refine vthen_n ?_
   refine ⟨i + 1, hlt, ?_, by show t.length - (i + 1) < t.length - i; omega⟩
   simp only [wn, wq, simprocAttr]
   rw [wrap64 (by omega) (by omega), kids_succ, if_pos (by simpa using hc)]
   rfl
  ·refine VW.skip ?_
   show vthen _ _ _ .normal _
   refine vthen_n ?_
   repeat refine VW.seq ?_
   refine VW.regl hT fun K hK => ?_
   simp only [wq, simprocAttr]
   refine hK _ ?_
   clear hK K
   try refine vthen_n ?_
   refine ⟨i + 1, hlt, ?_, by show t.length - (i + 1) < t.length - i; omega⟩
   simp only [wn, wq, simprocAttr]
   rw [wrap64 (by omega) (by omega), kids_succ, if_neg (by simpa using hc), List.append_nil]
   rfl
 ·have hge : t.length ≤ i := by simpa using hc
  obtain rfl : i = t.length := by omega
  have hkl := kids_len t k t.length
  refine VW.exit ?_
  show vthen _ _ _ .normal _
  refine vthen_n ?_
  rcases Nat.eq_zero_or_pos (kids t k t.length).length with h0 | h0
  ·have h0 := List.eq_nil_of_length_eq_zero h0
   rw [h0]
   repeat refine VW.seq ?_
   refine VW.regl hT fun K hK => ?_
   simp only [wq, simprocAttr]
   refine vcall_of (sort0_vc 215 sNS t) ?_
   simp only [wq, simprocAttr]
   refine hK _ ?_
   clear hK K
   try refine vthen_n ?_
   repeat refine VW.seq ?_
   refine VW.regl hT fun K hK => ?_
   simp only [wq, simprocAttr]
   refine hK _ ?_
   clear hK K
   try refine vthen_n ?_
   refine VW.ret ⟨.inl rfl, _, rfl, ?_⟩
   simp only [children, hok, if_true, h0]
   rfl
  ·repeat refine VW.seq ?_
   refine VW.regl hT fun K hK => ?_
   simp only [wq, simprocAttr]
   refine vcall_io 0 ?_
   simp only [wq, simprocAttr]
   refine vxcall_of (sort_vx (kids t k t.length) 215 sNS t (byDev t) (fun a b ha hb => children1_vc t a b (kids_mem ha) (kids_mem hb)) h0 (by omega)) ?_
   simp only [wq, simprocAttr]
   refine hK _ ?_
   clear hK K
   try refine vthen_n ?_
   repeat refine VW.seq ?_
   refine VW.regl hT fun K hK => ?_
   simp only [wq, simprocAttr]
   refine hK _ ?_
   clear hK K
   try refine vthen_n ?_
   refine VW.ret ⟨.inl rfl, _, rfl, ?_⟩
   simp only [children, hok, if_true]
end Go.Proofs.YtoeblmcibheldaaGreatDoor.V.W
end
section
namespace Go.Proofs.YtoeblmcibheldaaGreatDoor.V.W
open Go Go.RowKit
theorem ins_perm (c : Int → Int → Int) (x : Int) : ∀ P : List Int, (ins c x P).Perm (x :: P)
 | [] => .refl _
 | y :: r => by
  unfold ins
  split
  ·exact ((ins_perm c x r).cons y).trans (.swap x y r)
  ·exact .refl _
theorem pre_perm (c : Int → Int → Int) (xs : List Int) : ∀ i : Nat, (pre c xs i).Perm (xs.take i)
 | 0 => by simp [pre]
 | i + 1 => by
  have h := pre_perm c xs i
  unfold pre at h ⊢
  rw [List.take_add_one]
  cases hx : xs[i]? with
  | none => simpa using h
  | some x =>
   rw [Option.toList, List.foldl_append]
   refine (ins_perm c x _).trans ?_
   refine (h.cons x).trans ?_
   exact (List.perm_append_singleton x _).symm
theorem isort_perm (c : Int → Int → Int) (xs : List Int) : (isort c xs).Perm xs := by
 unfold isort
 refine (List.reverse_perm _).trans ?_
 have := pre_perm c xs xs.length
 rwa [List.take_length] at this
theorem nodup_ints {xs : List Nat} (h : xs.Nodup) : (xs.map fun j : Nat => (j : Int)).Nodup :=
 List.Pairwise.map _ (fun a b (hn : a ≠ b) => show (a : Int) ≠ (b : Int) by omega) h
theorem kids_nodup (t : List Nd) (k : Int) (i : Nat) : (kids t k i).Nodup := by
 unfold kids
 exact nodup_ints (List.nodup_range.sublist List.filter_sublist)
theorem kids_iff {t : List Nd} {k : Int} {i : Nat} {a : Int} : a ∈ kids t k i ↔ 0 ≤ a ∧ a < i ∧ (t.getD a.toNat z).1 = k := by
 unfold kids
 rw [List.mem_map]
 constructor
 ·rintro ⟨j, h1, rfl⟩
  have h2 := List.mem_filter.1 h1
  have := List.mem_range.1 h2.1
  exact ⟨by omega, by omega, by simpa using h2.2⟩
 ·rintro ⟨h1, h2, h3⟩
  exact ⟨a.toNat, List.mem_filter.2 ⟨List.mem_range.2 (by omega), by simpa using h3⟩, by omega⟩
theorem kidsD_iff {t : List Nd} {k : Int} {d i : Nat} {a : Int} : a ∈ kidsD t k d i ↔ 1 ≤ a ∧ a < i ∧ (t.getD a.toNat z).1 = k ∧ (t.getD a.toNat z).2.1 = d := by
 unfold kidsD
 rw [List.mem_map]
 constructor
 ·rintro ⟨j, h1, rfl⟩
  have h2 := List.mem_filter.1 h1
  have := List.mem_range.1 h2.1
  simp only [Bool.and_eq_true, decide_eq_true_eq, beq_iff_eq] at h2
  exact ⟨by omega, by omega, by simpa using h2.2.2.1, by simpa using h2.2.2.2⟩
 ·rintro ⟨h1, h2, h3, h4⟩
  refine ⟨a.toNat, List.mem_filter.2 ⟨List.mem_range.2 (by omega), ?_⟩, by omega⟩
  simp only [Bool.and_eq_true, decide_eq_true_eq, beq_iff_eq]
  exact ⟨by omega, h3, h4⟩
theorem kidsD_nodup (t : List Nd) (k : Int) (d i : Nat) : (kidsD t k d i).Nodup := by
 unfold kidsD
 exact nodup_ints (List.nodup_range.sublist List.filter_sublist)
theorem kidsTo_iff {t : List Nd} {k : Int} {a : Int} : ∀ {d : Nat}, a ∈ kidsTo t k d ↔ ∃ e, e < d ∧ a ∈ kidsD t k e t.length := by
 intro d
 unfold kidsTo
 simp only [List.mem_flatMap, List.mem_range]
theorem kidsTo_nodup (t : List Nd) (k : Int) : ∀ d, (kidsTo t k d).Nodup
 | 0 => by simp [kidsTo]
 | d + 1 => by
  rw [kidsTo_succ]
  refine List.nodup_append.2 ⟨kidsTo_nodup t k d, kidsD_nodup t k d _, fun a ha b hb => ?_⟩
  rintro rfl
  obtain ⟨e, he, h1⟩ := kidsTo_iff.1 ha
  have h1 := (kidsD_iff.1 h1).2.2.2
  have h2 := (kidsD_iff.1 hb).2.2.2
  rw [h1] at h2
  omega
theorem node_ok {t : List Nd} (hok : treeOk t = true) {k : Nat} (hk : k < t.length) : (treeOk t && inB (k : Int) 0 (t.length - 1)) = true := by
 rw [hok, Bool.true_and]
 exact inB_iff.2 ⟨by omega, by omega⟩
theorem children_perm {t : List Nd} (hok : treeOk t = true) {k : Nat} (hk : k < t.length) : (children t k).Perm (kids t k t.length) := by
 rw [children, if_pos (node_ok hok hk)]
 exact isort_perm _ _
theorem kids_pos {t : List Nd} (hok : treeOk t = true) {k : Nat} {a : Int} (h : a ∈ kids t k t.length) : ∃ j : Nat, a = j ∧ 1 ≤ j ∧ j < t.length ∧ (t.getD j z).1 = k ∧ k < j := by
 have h := kids_iff.1 h
 have h0 : a ≠ 0 := by
  rintro rfl
  have h1 := (tree_parts hok).2.1
  rw [show (t.getD (0 : Int).toNat z) = (-1, 0, 0) from h1] at h
  have := h.2.2
  simp at this
 have h1 := tree_node hok (j := a.toNat) (by omega) (by omega)
 exact ⟨a.toNat, by omega, by omega, by omega, h.2.2, by omega⟩
theorem skids_perm {t : List Nd} (hok : treeOk t = true) {k : Nat} (hk : k < t.length) : (skids t k).Perm (kids t k t.length) := by
 rw [skids, if_pos (node_ok hok hk)]
 refine (List.perm_ext_iff_of_nodup (kidsTo_nodup _ _ _) (kids_nodup _ _ _)).2 fun a => ⟨fun h => ?_, fun h => ?_⟩
 ·obtain ⟨e, he, h1⟩ := kidsTo_iff.1 h
  have := kidsD_iff.1 h1
  exact kids_iff.2 ⟨by omega, by omega, this.2.2.1⟩
 ·obtain ⟨j, rfl, h1, h2, h3, h4⟩ := kids_pos hok h
  have hn := tree_node hok h1 h2
  refine kidsTo_iff.2 ⟨(t.getD j z).2.1.toNat, by omega, kidsD_iff.2 ⟨by omega, by omega, h3, ?_⟩⟩
  show (t.getD j z).2.1 = _
  omega
/-- a sum over nodes -/
def wsum (f : Nat → Nat) (xs : List Int) : Nat := (xs.map fun a : Int => f a.toNat).sum
theorem wsum_perm {f : Nat → Nat} {xs ys : List Int} (h : xs.Perm ys) : wsum f xs = wsum f ys := (h.map _).sum_nat
theorem wsum_nil (f : Nat → Nat) : wsum f [] = 0 := rfl
theorem wsum_cons (f : Nat → Nat) (a : Int) (xs : List Int) : wsum f (a :: xs) = f a.toNat + wsum f xs := rfl
theorem wsum_app (f : Nat → Nat) (xs ys : List Int) : wsum f (xs ++ ys) = wsum f xs + wsum f ys := by
 unfold wsum
 rw [List.map_append, List.sum_append_nat]
theorem wsum_take (f : Nat → Nat) {xs : List Int} {i : Nat} (h : i < xs.length) : wsum f (xs.take (i + 1)) = wsum f (xs.take i) + f (xs.getD i 0).toNat := by
 rw [List.take_add_one, List.getElem?_eq_getElem h, wsum_app, List.getD_eq_getElem?_getD, List.getElem?_eq_getElem h]
 rfl
theorem wsum_le (f : Nat → Nat) : ∀ (xs : List Int) (i : Nat), wsum f (xs.take i) ≤ wsum f xs
 | xs, i => by
  have := wsum_app f (xs.take i) (xs.drop i)
  rw [List.take_append_drop] at this
  omega
theorem wsum_ext {f g : Nat → Nat} : ∀ {xs : List Int}, (∀ a, a ∈ xs → f a.toNat = g a.toNat) → wsum f xs = wsum g xs
 | [], _ => rfl
 | a :: xs, h => by
  rw [wsum_cons, wsum_cons, h a (List.mem_cons_self ..), wsum_ext fun b hb => h b (List.mem_cons_of_mem _ hb)]
theorem wsum_bd {f g : Nat → Nat} : ∀ {xs : List Int}, (∀ a, a ∈ xs → f a.toNat ≤ g a.toNat) → wsum f xs ≤ wsum g xs
 | [], _ => Nat.le_refl _
 | a :: xs, h => by
  rw [wsum_cons, wsum_cons]
  exact Nat.add_le_add (h a (List.mem_cons_self ..)) (wsum_bd fun b hb => h b (List.mem_cons_of_mem _ hb))
/-- the least power of two from n on; nothing for nothing -/
def up (n : Nat) : Nat := if n = 0 then 0 else 2 ^ (2 * n - 1).log2
theorem up_eq {n i : Nat} (h1 : 1 ≤ n) (h2 : n ≤ 2 ^ i) (h3 : i = 0 ∨ 2 ^ (i - 1) < n) : up n = 2 ^ i := by
 rw [up, if_neg (by omega), (Nat.log2_eq_iff (by omega)).2]
 rcases h3 with rfl | h3
 ·simp at h2 ⊢
  omega
 ·cases i with
  | zero => simp at h2 ⊢; omega
  | succ i =>
   simp only [Nat.add_sub_cancel] at h3
   rw [Nat.pow_succ] at h2 ⊢
   rw [Nat.pow_succ, Nat.pow_succ]
   omega
theorem up_pow {n : Nat} (h : 1 ≤ n) : ∃ i, up n = 2 ^ i := ⟨_, by rw [up, if_neg (by omega)]⟩
theorem up_le (n : Nat) : n ≤ up n ∧ up n ≤ 2 * n := by
 rcases Nat.eq_zero_or_pos n with rfl | h
 ·simp [up]
 ·rw [up, if_neg (by omega)]
  have h1 := Nat.log2_self_le (n := 2 * n - 1) (by omega)
  have h2 := Nat.lt_log2_self (n := 2 * n - 1)
  rw [Nat.pow_succ] at h2
  omega
/-- the size of a node's window -/
def winF (t : List Nd) (s : List Int) : Nat → Nat → Nat
 | 0, _ => 0
 | f + 1, k => if (t.getD k z).2.2 = 0 then up (wsum (winF t s f) (kids t k t.length)) else (s.getD k 0).toNat
theorem winF_same {t : List Nd} (hok : treeOk t = true) (s : List Int) : ∀ (f g k : Nat), k < t.length → t.length - k ≤ f → t.length - k ≤ g → winF t s f k = winF t s g k
 | 0, g, k, hk, h1, h2 => by omega
 | f + 1, 0, k, hk, h1, h2 => by omega
 | f + 1, g + 1, k, hk, h1, h2 => by
  rw [winF, winF]
  split
  ·congr 1
   refine wsum_ext fun a ha => ?_
   obtain ⟨j, rfl, h3, h4, h5, h6⟩ := kids_pos hok ha
   exact winF_same hok s f g j h4 (by omega) (by omega)
  ·rfl
def win (t : List Nd) (s : List Int) (k : Nat) : Nat := winF t s t.length k
/-- the sum of the windows below a node -/
def ksum (t : List Nd) (s : List Int) (k : Nat) : Nat := wsum (win t s) (kids t k t.length)
theorem win_eq {t : List Nd} (hok : treeOk t = true) (s : List Int) {k : Nat} (hk : k < t.length) : win t s k = if (t.getD k z).2.2 = 0 then up (ksum t s k) else (s.getD k 0).toNat := by
 unfold win ksum
 obtain ⟨n, hn⟩ : ∃ n, t.length = n + 1 := ⟨t.length - 1, by omega⟩
 rw [winF_same hok s t.length (n + 1) k hk (by omega) (by omega), winF]
 split
 ·congr 1
  refine wsum_ext fun a ha => ?_
  obtain ⟨j, rfl, h3, h4, h5, h6⟩ := kids_pos hok ha
  exact winF_same hok s n t.length j h4 (by omega) (by omega)
 ·rfl
theorem sizes_node {t : List Nd} {s : List Int} (h : sizesOk t s = true) {k : Nat} (hk : k < t.length) : s.getD k 0 = 0 ∨ (pw (s.getD k 0) = true ∧ (t.getD k z).2.2 ≠ 0) := by
 have := (sizesOk_iff.1 h).2.2 k hk
 simp only [sizeBad, Bool.and_eq_false_iff, Bool.not_eq_false', beq_iff_eq, Bool.or_eq_false_iff, beq_eq_false_iff_ne] at this
 rcases this with h | ⟨h1, h2⟩
 ·exact .inl h
 ·exact .inr ⟨by simpa using h2, h1⟩
def bd (n : Nat) : Nat := 4096 * 3 ^ n
theorem kids_sum (g : Nat → Nat) (t : List Nd) (k : Int) : ∀ n, wsum g (kids t k n) ≤ ((List.range n).map g).sum
 | 0 => by simp [kids, wsum]
 | n + 1 => by
  rw [kids_succ, wsum_app, List.range_succ, List.map_append, List.sum_append_nat]
  have := kids_sum g t k n
  have e1 : ((List.map g [n]).sum) = g n := by simp
  have e2 : wsum g [(n : Int)] = g n := by simp [wsum]
  split
  ·omega
  ·rw [wsum_nil]; omega
theorem kids_above (g : Nat → Nat) (t : List Nd) (k : Nat) (hk : ∀ a, a ∈ kids t k t.length → k < a.toNat) : wsum g (kids t k t.length) ≤ ((List.range t.length).map fun j => if k < j then g j else 0).sum := by
 refine Nat.le_trans (Nat.le_of_eq ?_) (kids_sum _ t k t.length)
 exact wsum_ext fun a ha => by rw [if_pos (hk a ha)]
theorem bd_sum (n : Nat) : ∀ m, m ≤ n → ∀ k, (2 * ((List.range m).map fun j => if k < j then bd (n - j) else 0).sum) + bd (n + 1 - m) ≤ bd (n - k) ∨ m ≤ k + 1 ∧ ((List.range m).map fun j => if k < j then bd (n - j) else 0).sum = 0
 | 0, _, k => .inr ⟨by omega, rfl⟩
 | m + 1, h, k => by
  rw [List.range_succ, List.map_append, List.sum_append_nat]
  simp only [List.map_cons, List.map_nil, List.sum_cons, List.sum_nil, Nat.add_zero]
  have h3 : bd (n + 1 - m) = 3 * bd (n - m) := by
   rw [show n + 1 - m = (n - m) + 1 by omega, bd, bd, Nat.pow_succ]
   omega
  rw [show n + 1 - (m + 1) = n - m by omega]
  rcases bd_sum n m (by omega) k with h1 | ⟨h1, h2⟩
  ·refine .inl ?_
   split <;> omega
  ·rw [h2]
   split
   ·obtain rfl : m = k + 1 := by omega
    refine .inl ?_
    have : bd (n - k) = 3 * bd (n - (k + 1)) := by
     rw [show n - k = (n - (k + 1)) + 1 by omega, bd, bd, Nat.pow_succ]
     omega
    omega
   ·exact .inr ⟨by omega, rfl⟩
theorem ksum_bd {t : List Nd} (hok : treeOk t = true) {s : List Int} {k : Nat} (hk : k < t.length) (h : ∀ j, k < j → j < t.length → win t s j ≤ bd (t.length - j)) : 2 * ksum t s k ≤ bd (t.length - k) := by
 have h1 : ksum t s k ≤ wsum (fun j => bd (t.length - j)) (kids t k t.length) := by
  refine wsum_bd fun a ha => ?_
  obtain ⟨j, rfl, h3, h4, h5, h6⟩ := kids_pos hok ha
  exact h j h6 h4
 have h2 := kids_above (fun j => bd (t.length - j)) t k fun a ha => by
  obtain ⟨j, rfl, h3, h4, h5, h6⟩ := kids_pos hok ha
  omega
 rcases bd_sum t.length t.length (Nat.le_refl _) k with h3 | ⟨h3, h4⟩ <;> omega
theorem win_bd {t : List Nd} {s : List Int} (hs : sizesOk t s = true) : ∀ (f k : Nat), t.length - k ≤ f → k < t.length → win t s k ≤ bd (t.length - k)
 | 0, k, h, hk => by omega
 | f + 1, k, h, hk => by
  have hok := (sizesOk_iff.1 hs).1
  rw [win_eq hok s hk]
  split
  ·have h1 := ksum_bd hok (s := s) hk fun j h1 h2 => win_bd hs f j (by omega) h2
   have h2 := up_le (ksum t s k)
   omega
  ·have h0 : bd 0 ≤ bd (t.length - k) := Nat.mul_le_mul_left _ (Nat.pow_le_pow_right (by omega) (by omega))
   have h0 : 4096 ≤ bd (t.length - k) := h0
   rcases sizes_node hs hk with h1 | ⟨h1, _⟩
   ·rw [h1]; simp
   ·have := pw_in h1
    omega
/-- no sum of windows runs over -/
theorem ksum_lim {t : List Nd} {s : List Int} (hs : sizesOk t s = true) {k : Nat} (hk : k < t.length) : ksum t s k ≤ 1088391168 := by
 have hok := (sizesOk_iff.1 hs).1
 have h1 := ksum_bd hok (s := s) hk fun j h1 h2 => win_bd hs _ j (Nat.le_refl _) h2
 have h2 := treeOk_len hok
 have h3 : bd (t.length - k) ≤ bd 12 := Nat.mul_le_mul_left _ (Nat.pow_le_pow_right (by omega) (by omega))
 have : bd 12 = 2176782336 := by decide
 omega
theorem win_lim {t : List Nd} {s : List Int} (hs : sizesOk t s = true) {k : Nat} (hk : k < t.length) : win t s k ≤ 2176782336 := by
 have hok := (sizesOk_iff.1 hs).1
 rw [win_eq hok s hk]
 split
 ·have := up_le (ksum t s k)
  have := ksum_lim hs hk
  omega
 ·rcases sizes_node hs hk with h1 | ⟨h1, _⟩
  ·rw [h1]; simp
  ·have := pw_in h1
   omega
/-- a window is a power of two, or nothing -/
theorem win_pow {t : List Nd} {s : List Int} (hs : sizesOk t s = true) {k : Nat} (hk : k < t.length) : win t s k = 0 ∨ ∃ i, win t s k = 2 ^ i := by
 have hok := (sizesOk_iff.1 hs).1
 rw [win_eq hok s hk]
 split
 ·rcases Nat.eq_zero_or_pos (ksum t s k) with h | h
  ·rw [h]; exact .inl rfl
  ·exact .inr (up_pow h)
 ·rcases sizes_node hs hk with h1 | ⟨h1, _⟩
  ·rw [h1]; exact .inl rfl
  ·obtain ⟨i, -, h2⟩ := pw_pow h1
   rw [h2]
   exact .inr ⟨i, Int.toNat_natCast _⟩
/-- a node's number of functions -/
theorem tree_fun {t : List Nd} (h : treeOk t = true) {k : Nat} (hk : k < t.length) : 0 ≤ (t.getD k z).2.2 ∧ (t.getD k z).2.2 ≤ 4 := by
 rcases Nat.eq_zero_or_pos k with rfl | h1
 ·rw [(tree_parts h).2.1]; decide
 ·obtain ⟨i, rfl⟩ : ∃ i, k = i + 1 := ⟨k - 1, by omega⟩
  have hb := (tree_parts h).2.2 i hk
  simp only [bad, bad1, Bool.or_eq_false_iff, Bool.not_eq_false'] at hb
  exact inB_iff.1 hb.1.2.2.2
end Go.Proofs.YtoeblmcibheldaaGreatDoor.V.W
end
section
namespace Go.Proofs.YtoeblmcibheldaaGreatDoor.V.W
open Go Go.RowKit
theorem getD_mem {xs : List Int} {i : Nat} (h : i < xs.length) : xs.getD i 0 ∈ xs := by
 rw [List.getD_eq_getElem?_getD, List.getElem?_eq_getElem h]
 exact List.getElem_mem h
set_option maxRecDepth 20000 in
theorem win_vc {t : List Nd} {s : List Int} (hs : sizesOk t s = true) : ∀ (f k : Nat), t.length - k ≤ f → k < t.length → VC Tryz.prog 160 [.v false sNS t, .v false sI s, .v false (.int .i64) ((k : Nat))] (· = .v false (.int .i64) ((win t s k : Nat)))
 := by
 intro f
 induction f with
 | zero =>
  intro k hf hk
  omega
 | succ f ih =>
  intro k hf hk
  have hok := (sizesOk_iff.1 hs).1
  have hsl := (sizesOk_iff.1 hs).2.1
  have htl := treeOk_len hok
  have hwin := win_eq hok s hk
  have hlim := ksum_lim hs hk
  have hperm := children_perm hok hk
  have hcl : (children t k).length ≤ 12 := by
   rw [hperm.length_eq]
   have := kids_len t k t.length
   omega
  have hsum : wsum (win t s) (children t k) = ksum t s k := wsum_perm hperm
  refine VC.of_body hT Tryz.func160 rfl (by kernel_rfl) [(.tmp 6, false, .int .i64)] (by kernel_rfl) ?_
  show VW _ _ ([.v false sNS t, .v false sI s, .v false (.int .i64) ((k : Nat)), D, D, D, D, D, D, D, D, D, D, D, D, D, D, D, D, D, D, D, D, D, D, D, D, D, D, D, D, D, D, D, D, D, D, D, D, D, D, D]) _
  repeat refine VW.seq ?_
  refine VW.regl hT fun K hK => ?_
  simp only [wq, simprocAttr]
  refine hK _ ?_
  clear hK K
  try refine vthen_n ?_
  repeat refine VW.seq ?_
  refine VW.regl hT fun K hK => ?_
  simp only [wq, simprocAttr]
  refine vcall_of (isBridge_vc t k (by omega) (by omega)) ?_
  simp only [wq, simprocAttr]
  refine hK _ ?_
  clear hK K
  try refine vthen_n ?_
  repeat refine VW.seq ?_
  refine VW.cond rfl (fun hc => ?_) (fun hc => ?_)
  ·repeat refine VW.seq ?_
   refine VW.regl hT fun K hK => ?_
   simp only [wq, simprocAttr]
   refine ⟨decide_eq_true ⟨Int.natCast_nonneg _, by show (k : Int) < (s.length : Int); omega⟩, ?_⟩
   refine hK _ ?_
   clear hK K
   try refine vthen_n ?_
   refine VW.ret ⟨.inl rfl, _, rfl, ?_⟩
   have hc : ((t.getD k z).2.2 == 0) = false := (Bool.not_eq_true' _).mp hc
   have hc : (t.getD k z).2.2 ≠ 0 := by simpa using hc
   have : s.getD k 0 = ((s.getD k 0).toNat : Int) := by
    rcases sizes_node hs hk with h | ⟨h, _⟩
    ·rw [h]; rfl
    ·have := pw_in h
     omega
   rw [hwin, if_neg hc, ← this]
  have hb : (t.getD k z).2.2 = 0 := by
   have hc : ((t.getD k z).2.2 == 0) = true := by
    have := hc
    rwa [Bool.not_eq_false'] at this
   simpa using hc
  rw [if_pos hb] at hwin
  rw [hwin]
  generalize hL : children t k = L at *
  refine VW.skip (vthen_n ?_)
  repeat refine VW.seq ?_
  refine VW.regl hT fun K hK => ?_
  simp only [wq, simprocAttr]
  refine hK _ ?_
  clear hK K
  try refine vthen_n ?_
  repeat refine VW.seq ?_
  refine VW.regl hT fun K hK => ?_
  simp only [wq, simprocAttr]
  refine vcall_of (children_vc t k (by omega)) ?_
  rw [hL]
  simp only [wq, simprocAttr]
  refine hK _ ?_
  clear hK K
  try refine vthen_n ?_
  repeat refine VW.seq ?_
  refine VW.block ?_
  refine VW.loop (α := Nat) [(0, none), (1, none), (7, none), (21, none), (22, none), (23, none)] (fun i => [.v false sNS t, .v false sI s, D, D, D, D, D, .v false (.int .i64) ((wsum (win t s) (L.take i) : Nat)), D, D, D, D, D, D, D, D, D, D, D, D, D, .root (.val false) sI .own L, .v false (.int .i64) ((L.length : Nat)), .v false (.int .i64) ((i : Nat)), D, D, D, D, D, D, D, D, D, D, D, D, D, D, D, D, D, D]) (fun i => i ≤ L.length) (fun i => L.length - i) ⟨0, by omega, ?_⟩ fun i hi => ?_
  ·simp only [wn, wq, simprocAttr]
   try rfl
  repeat refine VW.seq ?_
  refine VW.regl hT fun K hK => ?_
  simp only [wq, simprocAttr]
  refine hK _ ?_
  clear hK K
  try refine vthen_n ?_
  repeat refine VW.seq ?_
  refine VW.cond rfl (fun hc => ?_) (fun hc => ?_)
  ·have hlt : i < L.length := by simpa using hc
   obtain ⟨j, hj, h1, h2, h3, h4⟩ := kids_pos hok (hperm.mem_iff.1 (getD_mem hlt))
   have hle := wsum_le (win t s) L (i + 1)
   have htk := wsum_take (win t s) hlt
   rw [hj, Int.toNat_natCast] at htk
   refine VW.skip (vthen_n ?_)
   repeat refine VW.seq ?_
   refine VW.block ?_
   repeat refine VW.seq ?_
   refine VW.regl hT fun K hK => ?_
   simp only [wq, simprocAttr]
   refine ⟨decide_eq_true ⟨Int.natCast_nonneg _, by show (i : Int) < (L.length : Int); omega⟩, ?_⟩
   refine hK _ ?_
   clear hK K
   try refine vthen_n ?_
   repeat refine VW.seq ?_
   refine VW.regl hT fun K hK => ?_
   simp only [wq, simprocAttr]
   rw [show L.getD i 0 = (j : Int) from hj]
   refine vcall_of (ih j (by omega) h2) ?_
   simp only [wq, simprocAttr]
   refine hK _ ?_
   clear hK K
   try refine vthen_n ?_
   repeat refine VW.seq ?_
   refine VW.regl hT fun K hK => ?_
   simp only [wq, simprocAttr]
   refine hK _ ?_
   clear hK K
   try refine vthen_n ?_
   refine ⟨i + 1, hlt, ?_, by show L.length - (i + 1) < L.length - i; omega⟩
   simp only [wn, wq, simprocAttr]
   rw [wrap64 (by omega) (by omega), wrap64 (by omega) (by omega), htk]
   rfl
  ·have hge : i = L.length := by
    have : L.length ≤ i := by simpa using hc
    omega
   subst hge
   refine VW.exit ?_
   show vthen _ _ _ .normal _
   refine vthen_n ?_
   rw [List.take_length, hsum]
   generalize ksum t s k = S at *
   repeat refine VW.seq ?_
   refine VW.regl hT fun K hK => ?_
   simp only [wq, simprocAttr]
   refine hK _ ?_
   clear hK K
   try refine vthen_n ?_
   repeat refine VW.seq ?_
   refine VW.cond rfl (fun hc => ?_) (fun hc => ?_)
   ·repeat refine VW.seq ?_
    refine VW.regl hT fun K hK => ?_
    simp only [wq, simprocAttr]
    refine hK _ ?_
    clear hK K
    try refine vthen_n ?_
    refine VW.ret ⟨.inl rfl, _, rfl, ?_⟩
    have : S = 0 := by
     have : (S : Int) = 0 := by simpa using hc
     omega
    rw [this]
    rfl
   have hS : 1 ≤ S := by
    have : ¬ (S : Int) = 0 := by simpa using hc
    omega
   refine VW.skip (vthen_n ?_)
   repeat refine VW.seq ?_
   refine VW.regl hT fun K hK => ?_
   simp only [wq, simprocAttr]
   refine hK _ ?_
   clear hK K
   try refine vthen_n ?_
   repeat refine VW.seq ?_
   refine VW.block ?_
   refine VW.loop (α := Nat) [(7, none), (10, none)] (fun i => [D, D, D, D, D, D, D, .v false (.int .i64) ((S : Nat)), D, D, .v false (.int .i64) ((2 ^ i : Nat)), D, D, D, D, D, D, D, D, D, D, D, D, D, D, D, D, D, D, D, D, D, D, D, D, D, D, D, D, D, D, D]) (fun i => i = 0 ∨ 2 ^ (i - 1) < S) (fun i => 2 * S - 2 ^ i) ⟨0, .inl rfl, ?_⟩ fun i hi => ?_
   ·simp only [wn, wq, simprocAttr]
    try rfl
   have h2i : 2 ^ i ≤ 2 * S := by
    rcases hi with rfl | hi
    ·simp; omega
    ·cases i with
     | zero => simp; omega
     | succ i =>
      simp only [Nat.add_sub_cancel] at hi
      rw [Nat.pow_succ]
      omega
   repeat refine VW.seq ?_
   refine VW.regl hT fun K hK => ?_
   simp only [wq, simprocAttr]
   refine hK _ ?_
   clear hK K
   try refine vthen_n ?_
   repeat refine VW.seq ?_
   refine VW.cond rfl (fun hc => ?_) (fun hc => ?_)
   ·have hlt : 2 ^ i < S := by
     have : ((2 ^ i : Nat) : Int) < (S : Int) := of_decide_eq_true hc
     omega
    have hps : 2 ^ (i + 1) = 2 ^ i * 2 := Nat.pow_succ ..
    refine VW.skip (vthen_n ?_)
    repeat refine VW.seq ?_
    refine VW.block ?_
    repeat refine VW.seq ?_
    refine VW.regl hT fun K hK => ?_
    simp only [wq, simprocAttr]
    refine hK _ ?_
    clear hK K
    try refine vthen_n ?_
    refine ⟨i + 1, .inr (by simpa using hlt), ?_, by show 2 * S - 2 ^ (i + 1) < 2 * S - 2 ^ i; have := Nat.two_pow_pos i; omega⟩
    simp only [wn, wq, simprocAttr]
    rw [hps]
    generalize 2 ^ i = P at *
    rw [wrap64 (by omega) (by omega)]
    rfl
   ·have hge : S ≤ 2 ^ i := by
     have : ¬ ((2 ^ i : Nat) : Int) < (S : Int) := of_decide_eq_false hc
     omega
    refine VW.exit ?_
    show vthen _ _ _ .normal _
    refine vthen_n ?_
    repeat refine VW.seq ?_
    refine VW.regl hT fun K hK => ?_
    simp only [wq, simprocAttr]
    refine hK _ ?_
    clear hK K
    try refine vthen_n ?_
    refine VW.ret ⟨.inl rfl, _, rfl, ?_⟩
    rw [up_eq hS hge hi]
end Go.Proofs.YtoeblmcibheldaaGreatDoor.V.W
end
section
namespace Go.Proofs.YtoeblmcibheldaaGreatDoor.V.W
open Go Go.RowKit
/-- how long two rows agree -/
def cpl : List Int → List Int → Nat
 | a :: x, b :: y => if a = b then cpl x y + 1 else 0
 | _, _ => 0
theorem cpl_eq : ∀ (x y : List Int) (n : Nat), n ≤ x.length → n ≤ y.length → (∀ j, j < n → x.getD j 0 = y.getD j 0) → (n = x.length ∨ n = y.length ∨ x.getD n 0 ≠ y.getD n 0) → cpl x y = n
 | [], y, n, h1, h2, h3, h4 => by
  obtain rfl : n = 0 := by simpa using h1
  simp [cpl]
 | a :: x, [], n, h1, h2, h3, h4 => by
  obtain rfl : n = 0 := by simpa using h2
  simp [cpl]
 | a :: x, b :: y, 0, h1, h2, h3, h4 => by
  have : a ≠ b := by
   rcases h4 with h | h | h
   ·simp at h
   ·simp at h
   ·simpa using h
  simp [cpl, this]
 | a :: x, b :: y, n + 1, h1, h2, h3, h4 => by
  have h0 : a = b := by simpa using h3 0 (by omega)
  have ih := cpl_eq x y n (by simpa using h1) (by simpa using h2) (fun j hj => by simpa using h3 (j + 1) (by omega)) (by simpa using h4)
  simp [cpl, h0, ih]
theorem cpl_pos {x y : List Int} (h1 : 0 < x.length) (h2 : 0 < y.length) (h : x.getD 0 0 = y.getD 0 0) : 1 ≤ cpl x y := by
 match x, y, h1, h2 with
 | a :: x, b :: y, _, _ =>
  have : a = b := by simpa using h
  simp [cpl, this]
theorem path_head {t : List Nd} {k : Int} (h : (treeOk t && inB k 0 (t.length - 1)) = true) : 0 < (pathTo t k).length ∧ (pathTo t k).getD 0 0 = 0 ∧ (pathTo t k).length ≤ 12 := by
 have hok : treeOk t = true := by
  rw [Bool.and_eq_true] at h
  exact h.1
 have hk := inB_iff.1 (by rw [Bool.and_eq_true] at h; exact h.2 : inB k 0 (t.length - 1) = true)
 have htl := treeOk_len hok
 have hneg : ∃ i, i ≤ t.length ∧ anc t k i < 0 ∧ ∀ j, j < i → 0 ≤ anc t k j := by
  have hend : anc t k t.length < 0 := by
   have := anc_lt hok (k := k) (by omega) t.length (by omega)
   omega
  have : ∀ n, anc t k n < 0 → ∃ i, i ≤ n ∧ anc t k i < 0 ∧ ∀ j, j < i → 0 ≤ anc t k j := by
   intro n
   induction n using Nat.strongRecOn with
   | _ n ih =>
    intro hn
    by_cases hex : ∃ j, j < n ∧ anc t k j < 0
    ·obtain ⟨j, h1, h2⟩ := hex
     obtain ⟨i, q1, q2, q3⟩ := ih j h1 h2
     exact ⟨i, by omega, q2, q3⟩
    ·refine ⟨n, Nat.le_refl _, hn, fun j hj => ?_⟩
     have : ¬ anc t k j < 0 := fun q => hex ⟨j, hj, q⟩
     omega
  exact this _ hend
 obtain ⟨i, hi, h1, h2⟩ := hneg
 rw [pathTo, if_pos h, accTo_all hok h1 h2 _ hi]
 have hi0 : i ≠ 0 := by
  rintro rfl
  have h1 : k < 0 := h1
  omega
 obtain ⟨m, rfl⟩ : ∃ m, i = m + 1 := ⟨i - 1, by omega⟩
 have hm : anc t k m = 0 := by
  have h3 := h2 m (by omega)
  have h1 : (t.getD (anc t k m).toNat z).1 < 0 := h1
  have h4 := anc_lt hok (k := k) (by omega) m (by omega)
  rcases Nat.eq_zero_or_pos (anc t k m).toNat with e | e
  ·omega
  ·obtain ⟨p, hp, _⟩ := par hok (j := (anc t k m).toNat) (by omega) (by omega)
   omega
 rw [accTo_succ, hm, List.reverse_append]
 refine ⟨by simp, by simp, ?_⟩
 simp [accTo]
 omega
def isNd (t : List Nd) (k : Int) : Bool := treeOk t && inB k 0 (t.length - 1)
/-- the nodes from one node to another -/
def between (t : List Nd) (a b : Int) : List Int := if (isNd t a && isNd t b) = true then ((pathTo t a).drop (cpl (pathTo t a) (pathTo t b) - 1)).reverse ++ (pathTo t b).drop (cpl (pathTo t a) (pathTo t b)) else []
set_option maxRecDepth 20000 in
set_option maxHeartbeats 1000000 in
theorem between_vc (t : List Nd) (a b : Int) (hl : t.length ≤ 2000000) : VC Tryz.prog 82 [.v false sNS t, .v false (.int .i64) (a), .v false (.int .i64) (b)] (· = .root (.val false) sI .own (between t a b)) := by
 refine VC.of_body hT Tryz.func82 rfl (by kernel_rfl) [(.tmp 6, false, sI)] (by kernel_rfl) ?_
 show VW _ _ ([.v false sNS t, .v false (.int .i64) (a), .v false (.int .i64) (b), D, D, D, D, D, D, D, D, D, D, D, D, D, D, D, D, D, D, D, D, D, D, D, D, D, D, D, D, D, D, D, D, D, D, D, D, D, D, D, D, D, D, D, D, D, D, D, D, D, D, D, D, D, D, D, D]) _
 repeat refine VW.seq ?_
 refine VW.regl hT fun K hK => ?_
 simp only [wq, simprocAttr]
 refine hK _ ?_
 clear hK K
 try refine vthen_n ?_
 repeat refine VW.seq ?_
 refine VW.regl hT fun K hK => ?_
 simp only [wq, simprocAttr]
 refine vcall_of (isNode_vc t a hl) ?_
 simp only [wq, simprocAttr]
 refine vbr (fun h => ?_) (fun h => ?_) <;> simp only [wq, simprocAttr]
 case refine_2 =>
  have h : isNd t a = false := (Bool.not_eq_true' _).mp h
  refine hK _ ?_
  clear hK K
  try refine vthen_n ?_
  repeat refine VW.seq ?_
  refine VW.cond rfl (fun hc => ?_) (fun hc => ?_)
  ·repeat refine VW.seq ?_
   refine VW.regl hT fun K hK => ?_
   simp only [wq, simprocAttr]
   refine hK _ ?_
   clear hK K
   try refine vthen_n ?_
   refine VW.ret ⟨.inl rfl, _, rfl, ?_⟩
   rw [between, if_neg (by rw [h, Bool.false_and]; decide)]
   rfl
  ·cases hc
 have ha : isNd t a = true := by
  have := h
  rwa [Bool.not_eq_false'] at this
 refine vcall_of (isNode_vc t b hl) ?_
 simp only [wq, simprocAttr]
 refine hK _ ?_
 clear hK K
 try refine vthen_n ?_
 repeat refine VW.seq ?_
 refine VW.cond rfl (fun hc => ?_) (fun hc => ?_)
 ·have hc : isNd t b = false := (Bool.not_eq_true' _).mp hc
  repeat refine VW.seq ?_
  refine VW.regl hT fun K hK => ?_
  simp only [wq, simprocAttr]
  refine hK _ ?_
  clear hK K
  try refine vthen_n ?_
  refine VW.ret ⟨.inl rfl, _, rfl, ?_⟩
  rw [between, if_neg (by rw [ha, hc]; decide)]
  rfl
 have hb : isNd t b = true := by
  have := hc
  rwa [Bool.not_eq_false'] at this
 have hpa := path_head ha
 have hpb := path_head hb
 have hbt : between t a b = ((pathTo t a).drop (cpl (pathTo t a) (pathTo t b) - 1)).reverse ++ (pathTo t b).drop (cpl (pathTo t a) (pathTo t b)) := by rw [between, if_pos (by rw [ha, hb]; rfl)]
 rw [hbt]
 refine VW.skip (vthen_n ?_)
 repeat refine VW.seq ?_
 refine VW.regl hT fun K hK => ?_
 simp only [wq, simprocAttr]
 refine vcall_of (pathTo_vc t a hl) ?_
 simp only [wq, simprocAttr]
 refine vcall_of (pathTo_vc t b hl) ?_
 simp only [wq, simprocAttr]
 refine hK _ ?_
 clear hK K
 try refine vthen_n ?_
 generalize pathTo t a = x at *
 generalize pathTo t b = y at *
 refine VW.weak (weak_norm [(7, none), (8, none)] _) ?_
 simp only [wn, wq, simprocAttr]
 refine VW.giveup 7 rfl rfl ?_
 refine VW.giveup 8 rfl rfl ?_
 simp only [V.drop, usesG, wq, simprocAttr]
 obtain ⟨px1, px2, px3⟩ := hpa
 obtain ⟨py1, py2, py3⟩ := hpb
 have hcp := cpl_pos px1 py1 (by rw [px2, py2])
 repeat refine VW.seq ?_
 refine VW.regl hT fun K hK => ?_
 simp only [wq, simprocAttr]
 refine hK _ ?_
 clear hK K
 try refine vthen_n ?_
 repeat refine VW.seq ?_
 refine VW.block ?_
 refine VW.loop (α := Nat) [(7, none), (8, none), (9, none)] (fun i => [D, D, D, D, D, D, D, .v false sI x, .v false sI y, .v false (.int .i64) ((i : Nat)), D, D, D, D, D, D, D, D, D, D, D, D, D, D, D, D, D, D, D, D, D, D, D, D, D, D, D, D, D, D, D, D, D, D, D, D, D, D, D, D, D, D, D, D, D, D, D, D, D]) (fun i => i ≤ x.length ∧ i ≤ y.length ∧ ∀ j, j < i → x.getD j 0 = y.getD j 0) (fun i => x.length - i) ⟨0, ⟨by omega, by omega, fun j h => by omega⟩, ?_⟩ fun i ⟨hx, hy, hj⟩ => ?_
 ·simp only [wn, wq, simprocAttr]
  try rfl
 apply cutl
 ·intro tail
  repeat refine VW.seq ?_
  refine VW.drawl hT hm (by kernel_rfl) fun K hK => ?_
  simp only [wq, simprocAttr]
  refine vbr (fun h => ?_) (fun h => ?_) <;> simp only [wq, simprocAttr]
  case refine_2 =>
   have h : decide ((i : Int) < if (y.length : Int) < (x.length : Int) then (y.length : Int) else (x.length : Int)) = false := h
   have h := of_decide_eq_false h
   have hend : i = x.length ∨ i = y.length ∨ x.getD i 0 ≠ y.getD i 0 := by
    split at h
    ·exact .inr (.inl (by omega))
    ·exact .inl (by omega)
   refine hK _ ?_
   try refine vthen_n ?_
   refine VW.cond rfl (fun hc => by cases hc) (fun hc => ?_)
   refine VW.exit ?_
   show vthen _ _ _ .normal _
   refine vthen_n ?_
   refine VW.weak (weak_norm [(7, none), (8, none), (9, none)] _) ?_
   simp only [wn, wq, simprocAttr]
   revert hend
   exact tail.h
  have h : decide ((i : Int) < if (y.length : Int) < (x.length : Int) then (y.length : Int) else (x.length : Int)) = true := h
  have h := of_decide_eq_true h
  have hlx : i < x.length := by split at h <;> omega
  have hly : i < y.length := by split at h <;> omega
  refine ⟨decide_eq_true ⟨Int.natCast_nonneg _, by show (i : Int) < (x.length : Int); omega⟩, decide_eq_true ⟨Int.natCast_nonneg _, by show (i : Int) < (y.length : Int); omega⟩, ?_⟩
  refine hK _ ?_
  try refine vthen_n ?_
  refine VW.cond rfl (fun hc => ?_) (fun hc => ?_)
  ·have hc : (x.getD i 0 == y.getD i 0) = true := hc
   refine VW.skip (vthen_n ?_)
   repeat refine VW.seq ?_
   refine VW.block ?_
   repeat refine VW.seq ?_
   refine VW.regl hT fun K hK => ?_
   simp only [wq, simprocAttr]
   refine hK _ ?_
   clear hK K
   try refine vthen_n ?_
   refine ⟨i + 1, ⟨hlx, hly, fun j hj2 => ?_⟩, ?_, by show x.length - (i + 1) < x.length - i; omega⟩
   ·rcases Nat.lt_or_ge j i with h1 | h1
    ·exact hj j h1
    ·obtain rfl : j = i := by omega
     simpa using hc
   simp only [wn, wq, simprocAttr]
   rw [wrap64 (by omega) (by omega)]
   rfl
  ·have hc : (x.getD i 0 == y.getD i 0) = false := hc
   have hend : i = x.length ∨ i = y.length ∨ x.getD i 0 ≠ y.getD i 0 := .inr (.inr (by simpa using hc))
   refine VW.exit ?_
   show vthen _ _ _ .normal _
   refine vthen_n ?_
   refine VW.weak (weak_norm [(7, none), (8, none), (9, none)] _) ?_
   simp only [wn, wq, simprocAttr]
   revert hend
   exact tail.h
 ·intro hend
  have hi := cpl_eq x y i hx hy hj hend
  rw [hi] at hcp
  rw [hi]
  obtain ⟨m, hm1⟩ : ∃ m, i = m + 1 := ⟨i - 1, by omega⟩
  have hdl : (x.drop m).length = x.length - m := List.length_drop ..
  rw [show i - 1 = m by omega]
  repeat refine VW.seq ?_
  refine VW.regl hT fun K hK => ?_
  simp only [wq, simprocAttr]
  rw [wrap64 (by omega) (by omega), show (i : Int) - 1 = (m : Int) by omega, Int.toNat_natCast, List.take_length]
  refine ⟨decide_eq_true ⟨by omega, by omega, by omega⟩, ?_⟩
  refine vcall_of (cloneI_vc (x.drop m) (by omega)) ?_
  simp only [wq, simprocAttr]
  refine hK _ ?_
  clear hK K
  try refine vthen_n ?_
  repeat refine VW.seq ?_
  refine VW.regl hT fun K hK => ?_
  simp only [wq, simprocAttr]
  refine vcall_io 0 ?_
  simp only [wq, simprocAttr]
  refine vxcall_of (reverse_vx (x.drop m) (by omega) (by omega)) ?_
  simp only [wq, simprocAttr]
  refine hK _ ?_
  clear hK K
  try refine vthen_n ?_
  repeat refine VW.seq ?_
  refine VW.regl hT fun K hK => ?_
  simp only [wq, simprocAttr]
  rw [List.take_length]
  refine ⟨decide_eq_true ⟨by omega, by omega, by omega⟩, ?_, ?_⟩
  ·have e1 : (x.drop m).reverse.length + (y.drop i).length ≤ 24 := by
    rw [List.length_reverse, List.length_drop, List.length_drop]
    omega
   generalize (x.drop m).reverse.length + (y.drop i).length = q at *
   simp [limOk]
   omega
  refine hK _ ?_
  clear hK K
  try refine vthen_n ?_
  refine VW.weak (weak_norm [(6, none)] _) ?_
  simp only [wn, wq, simprocAttr]
  exact VW.ret ⟨.inl rfl, _, rfl, rfl⟩
end Go.Proofs.YtoeblmcibheldaaGreatDoor.V.W
end
section
namespace Go.Proofs.YtoeblmcibheldaaGreatDoor.V.W
open Go Go.RowKit
/-- a lies before b: the greater window first, then the lower number -/
def lt (w : Nat → Nat) (a b : Int) : Prop := w b.toNat < w a.toNat ∨ (w a.toNat = w b.toNat ∧ a < b)
instance (w : Nat → Nat) (a b : Int) : Decidable (lt w a b) := by unfold lt; infer_instance
def byWin (w : Nat → Nat) (a b : Int) : Int := if cmpI (w b.toNat) (w a.toNat) = 0 then cmpI a b else cmpI (w b.toNat) (w a.toNat)
theorem byWin_lt {w : Nat → Nat} {a b : Int} : byWin w a b < 0 ↔ lt w a b := by
 unfold byWin cmpI lt
 constructor
 ·intro h
  repeat' split at h
  all_goals omega
 ·intro h
  repeat' split
  all_goals omega
theorem ins_mem' {c : Int → Int → Int} {x y : Int} {P : List Int} : y ∈ ins c x P ↔ y = x ∨ y ∈ P := by
 rw [(ins_perm c x P).mem_iff, List.mem_cons]
theorem ins_sorted (w : Nat → Nat) (x : Int) : ∀ P : List Int, P.Pairwise (fun a b => ¬ lt w a b) → (ins (byWin w) x P).Pairwise (fun a b => ¬ lt w a b)
 | [], _ => List.pairwise_singleton _ _
 | y :: r, h => by
  have h' := List.pairwise_cons.1 h
  unfold ins
  split
  ·rename_i hc
   have hc := byWin_lt.1 hc
   refine List.pairwise_cons.2 ⟨fun v hv => ?_, ins_sorted w x r h'.2⟩
   rcases ins_mem'.1 hv with rfl | hv
   ·unfold lt at hc ⊢; omega
   ·exact h'.1 v hv
  ·rename_i hc
   have hc : ¬ lt w x y := fun h => hc (byWin_lt.2 h)
   refine List.pairwise_cons.2 ⟨fun v hv => ?_, h⟩
   rcases List.mem_cons.1 hv with rfl | hv
   ·exact hc
   ·have := h'.1 v hv
    unfold lt at hc this ⊢
    omega
theorem pre_sorted (w : Nat → Nat) (xs : List Int) : ∀ ys P : List Int, P.Pairwise (fun a b => ¬ lt w a b) → (ys.foldl (fun P x => ins (byWin w) x P) P).Pairwise (fun a b => ¬ lt w a b)
 | [], P, h => h
 | y :: ys, P, h => pre_sorted w xs ys _ (ins_sorted w y P h)
theorem isort_sorted (w : Nat → Nat) {xs : List Int} (hn : xs.Nodup) : (isort (byWin w) xs).Pairwise (lt w) := by
 have h1 : (pre (byWin w) xs xs.length).Pairwise (fun a b => ¬ lt w a b) := pre_sorted w xs _ [] List.Pairwise.nil
 have h2 : (isort (byWin w) xs).Pairwise (fun a b => ¬ lt w b a) := by
  unfold isort
  exact List.pairwise_reverse.2 h1
 have h3 : (isort (byWin w) xs).Nodup := (isort_perm (byWin w) xs).nodup_iff.2 hn
 refine (h2.and h3).imp fun {a b} h => ?_
 obtain ⟨h4, h5⟩ := h
 unfold lt at h4 ⊢
 omega
theorem take_filter (w : Nat → Nat) : ∀ (l : List Int), l.Pairwise (lt w) → ∀ i, i < l.length → l.filter (fun a => decide (lt w a (l.getD i 0))) = l.take i
 | a :: r, h, 0, _ => by
  have h' := List.pairwise_cons.1 h
  rw [List.take_zero, List.filter_eq_nil_iff]
  intro b hb
  have : ¬ lt w b a := by
   rcases List.mem_cons.1 hb with rfl | hb
   ·unfold lt; omega
   ·have := h'.1 b hb
    unfold lt at this ⊢
    omega
  simpa using this
 | a :: r, h, i + 1, hi => by
  have h' := List.pairwise_cons.1 h
  have hi : i < r.length := by simpa using hi
  have : lt w a (r.getD i 0) := by
   refine h'.1 _ ?_
   rw [List.getD_eq_getElem?_getD, List.getElem?_eq_getElem hi]
   exact List.getElem_mem hi
  rw [List.getD_cons_succ, List.filter_cons_of_pos (by simpa using this), List.take_succ_cons, take_filter w r h'.2 i hi]
theorem wsum_filter (f : Nat → Nat) (p : Int → Bool) : ∀ {xs : List Int} {a : Int}, a ∈ xs → p a = false → wsum f (xs.filter p) + f a.toNat ≤ wsum f xs
 | b :: xs, a, h, hp => by
  have hle : ∀ ys : List Int, wsum f (ys.filter p) ≤ wsum f ys := by
   intro ys
   induction ys with
   | nil => exact Nat.le_refl _
   | cons y ys ih =>
    rw [List.filter_cons]
    split
    ·rw [wsum_cons, wsum_cons]; omega
    ·rw [wsum_cons]; omega
  rcases List.mem_cons.1 h with rfl | h
  ·rw [List.filter_cons, if_neg (by simp [hp]), wsum_cons]
   have := hle xs
   omega
  ·have := wsum_filter f p h hp
   rw [List.filter_cons]
   split
   ·rw [wsum_cons, wsum_cons]; omega
   ·rw [wsum_cons]; omega
/-- what is laid down before j -/
def befs (t : List Nd) (s : List Int) (k : Int) (j : Nat) : Nat := wsum (win t s) ((kids t k t.length).filter fun a => decide (lt (win t s) a j))
/-- where the window of a node begins -/
def posF (t : List Nd) (s : List Int) : Nat → Nat → Nat
 | 0, _ => 0
 | f + 1, j => if j = 0 ∨ win t s j = 0 then 0 else posF t s f (t.getD j z).1.toNat + befs t s (t.getD j z).1 j
def pos (t : List Nd) (s : List Int) (j : Nat) : Nat := posF t s j j
theorem posF_same {t : List Nd} (hok : treeOk t = true) (s : List Int) : ∀ (f g j : Nat), j < t.length → j ≤ f → j ≤ g → posF t s f j = posF t s g j
 | 0, 0, j, hj, h1, h2 => rfl
 | 0, g + 1, j, hj, h1, h2 => by
  obtain rfl : j = 0 := by omega
  rw [posF, posF, if_pos (.inl rfl)]
 | f + 1, 0, j, hj, h1, h2 => by
  obtain rfl : j = 0 := by omega
  rw [posF, posF, if_pos (.inl rfl)]
 | f + 1, g + 1, j, hj, h1, h2 => by
  rw [posF, posF]
  split
  ·rfl
  ·rename_i hn
   have := tree_node hok (j := j) (by omega) hj
   rw [posF_same hok s f g _ (by omega) (by omega) (by omega)]
theorem pos_root (t : List Nd) (s : List Int) : pos t s 0 = 0 := rfl
theorem pos_zero {t : List Nd} {s : List Int} {j : Nat} (h : win t s j = 0) : pos t s j = 0 := by
 unfold pos
 cases j with
 | zero => rfl
 | succ j => rw [posF, if_pos (.inr h)]
theorem pos_eq {t : List Nd} (hok : treeOk t = true) {s : List Int} {j k : Nat} (h1 : 1 ≤ j) (h2 : j < t.length) (hw : win t s j ≠ 0) (hp : (t.getD j z).1 = (k : Int)) : pos t s j = pos t s k + befs t s k j := by
 have hn := tree_node hok h1 h2
 unfold pos
 obtain ⟨f, rfl⟩ : ∃ f, j = f + 1 := ⟨j - 1, by omega⟩
 rw [posF, if_neg (by omega), hp]
 congr 1
 exact posF_same hok s f k _ (by show k < _; omega) (by show k ≤ _; omega) (Nat.le_refl k)
theorem befs_le {t : List Nd} {s : List Int} {j k : Nat} (h2 : j < t.length) (hp : (t.getD j z).1 = (k : Int)) : befs t s k j + win t s j ≤ ksum t s k := by
 unfold befs ksum
 have hm : (j : Int) ∈ kids t k t.length := kids_iff.2 ⟨by omega, by omega, hp⟩
 have h := wsum_filter (win t s) (fun a => decide (lt (win t s) a j)) hm (by
  have : ¬ lt (win t s) (j : Int) j := by unfold lt; omega
  simpa using this)
 exact h
theorem bridge_win {t : List Nd} (hok : treeOk t = true) (s : List Int) {k j : Nat} (h1 : 1 ≤ j) (h2 : j < t.length) (hp : (t.getD j z).1 = (k : Int)) : win t s k = up (ksum t s k) := by
 have hn := tree_node hok h1 h2
 rw [hp] at hn
 rw [Int.toNat_natCast] at hn
 rw [win_eq hok s (by omega), if_pos hn.2.2.1]
theorem ksum_le {t : List Nd} (hok : treeOk t = true) (s : List Int) {k j : Nat} (h1 : 1 ≤ j) (h2 : j < t.length) (hp : (t.getD j z).1 = (k : Int)) : ksum t s k ≤ win t s k := by
 rw [bridge_win hok s h1 h2 hp]
 exact (up_le _).1
theorem pos_bd {t : List Nd} (hok : treeOk t = true) (s : List Int) : ∀ (f j : Nat), j ≤ f → j < t.length → pos t s j + win t s j ≤ win t s 0
 | f, j, hf, hj => by
  rcases Nat.eq_zero_or_pos j with rfl | h1
  ·rw [pos_root]; omega
  rcases Nat.eq_zero_or_pos (win t s j) with h0 | h0
  ·rw [pos_zero h0]; omega
  obtain ⟨k, hp, hk⟩ := par hok h1 hj
  cases f with
  | zero => omega
  | succ f =>
   have := pos_bd hok s f k (by omega) (by omega)
   have := befs_le (s := s) hj hp
   have := ksum_le hok s h1 hj hp
   rw [pos_eq hok h1 hj (by omega) hp]
   omega
theorem par_win {t : List Nd} (hok : treeOk t = true) (s : List Int) {k j : Nat} (h1 : 1 ≤ j) (h2 : j < t.length) (hp : (t.getD j z).1 = (k : Int)) : win t s j ≤ win t s k := by
 have := befs_le (s := s) h2 hp
 have := ksum_le hok s h1 h2 hp
 omega
/-- j lies below k -/
inductive Bel (t : List Nd) (k : Nat) : Nat → Prop
 | kid {j : Nat} : 1 ≤ j → j < t.length → (t.getD j z).1 = (k : Int) → Bel t k j
 | low {i j : Nat} : Bel t k i → 1 ≤ j → j < t.length → (t.getD j z).1 = (i : Int) → Bel t k j
theorem bel_cases {t : List Nd} {k j : Nat} (h : Bel t k j) : ∃ c : Nat, 1 ≤ c ∧ c < t.length ∧ (t.getD c z).1 = (k : Int) ∧ (j = c ∨ Bel t c j) := by
 induction h with
 | kid h1 h2 h3 => exact ⟨_, h1, h2, h3, .inl rfl⟩
 | low h h1 h2 h3 ih =>
  obtain ⟨c, q1, q2, q3, q4⟩ := ih
  refine ⟨c, q1, q2, q3, .inr ?_⟩
  rcases q4 with rfl | q4
  ·exact .kid h1 h2 h3
  ·exact .low q4 h1 h2 h3
theorem bel_root {t : List Nd} (hok : treeOk t = true) : ∀ (f j : Nat), j ≤ f → 1 ≤ j → j < t.length → Bel t 0 j
 | f, j, hf, h1, h2 => by
  obtain ⟨p, hp, hl⟩ := par hok h1 h2
  cases p with
  | zero => exact .kid h1 h2 hp
  | succ p =>
   cases f with
   | zero => omega
   | succ f => exact .low (bel_root hok f (p + 1) (by omega) (by omega) (by omega)) h1 h2 hp
theorem bel_win {t : List Nd} (hok : treeOk t = true) (s : List Int) {k j : Nat} (h : Bel t k j) : win t s j ≤ win t s k := by
 induction h with
 | kid h1 h2 h3 => exact par_win hok s h1 h2 h3
 | low h h1 h2 h3 ih => exact Nat.le_trans (par_win hok s h1 h2 h3) ih
theorem bel_bridge {t : List Nd} (hok : treeOk t = true) {k j : Nat} (h : Bel t k j) : (t.getD k z).2.2 = 0 := by
 induction h with
 | kid h1 h2 h3 =>
  have hn := tree_node hok h1 h2
  rw [h3] at hn
  exact hn.2.2.1
 | low h h1 h2 h3 ih => exact ih
/-- the windows, those of D laid down -/
def bars (t : List Nd) (s : List Int) (D : Nat → Bool) : List (Int × Int) := (List.range t.length).map fun i => ((win t s i : Int), if D i = true then (pos t s i : Int) else 0)
theorem bars_len (t : List Nd) (s : List Int) (D : Nat → Bool) : (bars t s D).length = t.length := by simp [bars]
theorem bars_get (t : List Nd) (s : List Int) (D : Nat → Bool) {i : Nat} (h : i < t.length) (d : Int × Int) : (bars t s D).getD i d = ((win t s i : Int), if D i = true then (pos t s i : Int) else 0) := by
 rw [List.getD_eq_getElem?_getD, List.getElem?_eq_getElem (by rw [bars_len]; exact h)]
 simp [bars]
theorem bars_set (t : List Nd) (s : List Int) (D : Nat → Bool) {j : Nat} (h : j < t.length) : (bars t s D).set j ((win t s j : Int), (pos t s j : Int)) = bars t s (fun i => D i || i == j) := by
 refine List.ext_getElem (by simp [bars]) fun i h1 h2 => ?_
 rw [List.getElem_set]
 simp only [bars, List.getElem_map, List.getElem_range]
 split
 ·rename_i e
  subst e
  simp
 ·rename_i e
  have : (i == j) = false := by simpa using fun h => e h.symm
  simp only [this, Bool.or_false]
theorem bars_same (t : List Nd) (s : List Int) {D E : Nat → Bool} (h : ∀ i, i < t.length → win t s i ≠ 0 → i ≠ 0 → D i = E i) : bars t s D = bars t s E := by
 refine List.ext_getElem (by simp [bars]) fun i h1 h2 => ?_
 have hi : i < t.length := by simpa [bars] using h1
 simp only [bars, List.getElem_map, List.getElem_range]
 rcases Nat.eq_zero_or_pos i with rfl | h0
 ·simp [pos_root]
 rcases Nat.eq_zero_or_pos (win t s i) with h1 | h1
 ·simp [pos_zero h1]
 ·rw [h i hi (by omega) (by omega)]
/-- all laid down -/
def allBars (t : List Nd) (s : List Int) : List (Int × Int) := bars t s fun _ => true
theorem bars_all {t : List Nd} (hok : treeOk t = true) {s : List Int} {D : Nat → Bool} (h : ∀ j, Bel t 0 j → win t s j ≠ 0 → D j = true) : bars t s D = allBars t s :=
 bars_same t s fun i h1 h2 h3 => h i (bel_root hok i i (Nat.le_refl _) (by omega) h1) h2
/-- the sorted row's sums are the places -/
theorem sort_pos {t : List Nd} (hok : treeOk t = true) {s : List Int} {k : Nat} {xs : List Int} (hp : xs.Perm (kids t k t.length)) {i : Nat} (hi : i < xs.length) : wsum (win t s) ((isort (byWin (win t s)) xs).take i) = befs t s k ((isort (byWin (win t s)) xs).getD i 0).toNat := by
 have hn : xs.Nodup := hp.nodup_iff.2 (kids_nodup _ _ _)
 have hq : (isort (byWin (win t s)) xs).Perm (kids t k t.length) := (isort_perm _ _).trans hp
 have hl : i < (isort (byWin (win t s)) xs).length := by rw [(isort_perm _ _).length_eq]; exact hi
 have hm : (isort (byWin (win t s)) xs).getD i 0 ∈ kids t k t.length := by
  rw [← hq.mem_iff, List.getD_eq_getElem?_getD, List.getElem?_eq_getElem hl]
  exact List.getElem_mem hl
 have h0 := (kids_iff.1 hm).1
 rw [← take_filter (win t s) _ (isort_sorted (win t s) hn) i hl]
 unfold befs
 rw [Int.toNat_of_nonneg h0]
 exact wsum_perm (hq.filter _)
end Go.Proofs.YtoeblmcibheldaaGreatDoor.V.W
end
section
namespace Go.Proofs.YtoeblmcibheldaaGreatDoor.V.W
open Go Go.RowKit
/-- what is laid down before the number i comes up in the round of a size -/
def atS (t : List Nd) (s : List Int) (k : Nat) (size i : Nat) : Nat := wsum (win t s) ((kids t k t.length).filter fun a => decide (size < win t s a.toNat ∨ (win t s a.toNat = size ∧ a < (i : Int))))
theorem wsum_one (f : Nat → Nat) (p q : Int → Bool) (b : Int) (hq : ∀ a, q a = (p a || a == b)) : ∀ {xs : List Int}, xs.Nodup → b ∈ xs → p b = false → wsum f (xs.filter q) = wsum f (xs.filter p) + f b.toNat
 | a :: xs, hn, h, hp => by
  have hn' := List.nodup_cons.1 hn
  by_cases e : a = b
  ·subst e
   have h1 : xs.filter q = xs.filter p := List.filter_congr fun c hc => by
    have : (c == a) = false := by
     rw [beq_eq_false_iff_ne]
     rintro rfl
     exact hn'.1 hc
    rw [hq, this, Bool.or_false]
   rw [List.filter_cons_of_pos (by rw [hq]; simp), List.filter_cons_of_neg (by simp [hp]), wsum_cons, h1]
   omega
  ·have h2 : b ∈ xs := by
    rcases List.mem_cons.1 h with h | h
    ·exact absurd h.symm e
    ·exact h
   have ih := wsum_one f p q b hq hn'.2 h2 hp
   have hqa : q a = p a := by rw [hq, (beq_eq_false_iff_ne.2 e), Bool.or_false]
   rw [List.filter_cons, List.filter_cons, hqa]
   split
   ·rw [wsum_cons, wsum_cons, ih]; omega
   ·exact ih
theorem atS_hit {t : List Nd} {s : List Int} {k size i : Nat} (hi : i < t.length) (hp : (t.getD i z).1 = (k : Int)) (hw : win t s i = size) : atS t s k size (i + 1) = atS t s k size i + size := by
 unfold atS
 have := wsum_one (win t s) (fun a => decide (size < win t s a.toNat ∨ (win t s a.toNat = size ∧ a < (i : Int)))) (fun a => decide (0 ≤ a ∧ (size < win t s a.toNat ∨ (win t s a.toNat = size ∧ a < (i : Int)))) || a == (i : Int)) (i : Int)
 have h1 := wsum_one (win t s) (fun a => decide (0 ≤ a ∧ (size < win t s a.toNat ∨ (win t s a.toNat = size ∧ a < (i : Int))))) (fun a => decide (0 ≤ a ∧ (size < win t s a.toNat ∨ (win t s a.toNat = size ∧ a < (i : Int)))) || a == (i : Int)) (i : Int) (fun a => rfl) (kids_nodup t k t.length) (kids_iff.2 ⟨by omega, by omega, hp⟩) (by simp [hw])
 rw [Int.toNat_natCast, hw] at h1
 rw [show ((kids t k t.length).filter fun a => decide (size < win t s a.toNat ∨ (win t s a.toNat = size ∧ a < ((i + 1 : Nat) : Int)))) = (kids t k t.length).filter (fun a => decide (0 ≤ a ∧ (size < win t s a.toNat ∨ (win t s a.toNat = size ∧ a < (i : Int)))) || a == (i : Int)) from List.filter_congr fun a ha => ?_, h1, show ((kids t k t.length).filter fun a => decide (size < win t s a.toNat ∨ (win t s a.toNat = size ∧ a < (i : Int)))) = (kids t k t.length).filter (fun a => decide (0 ≤ a ∧ (size < win t s a.toNat ∨ (win t s a.toNat = size ∧ a < (i : Int))))) from List.filter_congr fun a ha => ?_]
 ·have h0 := (kids_iff.1 ha).1
  rw [decide_eq_decide]
  exact ⟨fun h => ⟨h0, h⟩, fun h => h.2⟩
 ·have h0 := (kids_iff.1 ha).1
  rw [Bool.eq_iff_iff, Bool.or_eq_true, decide_eq_true_eq, decide_eq_true_eq, beq_iff_eq]
  by_cases e : a = (i : Int)
  ·subst e
   simp [hw]
   omega
  ·omega
theorem atS_miss {t : List Nd} {s : List Int} {k size i : Nat} (h : (t.getD i z).1 ≠ (k : Int) ∨ win t s i ≠ size) : atS t s k size (i + 1) = atS t s k size i := by
 unfold atS
 congr 1
 refine List.filter_congr fun a ha => ?_
 have h0 := kids_iff.1 ha
 rw [decide_eq_decide]
 by_cases e : a = (i : Int)
 ·subst e
  rw [Int.toNat_natCast] at h0 ⊢
  have h0 := h0.2.2
  rcases h with h | h
  ·exact absurd h0 h
  ·constructor <;> intro h2 <;> omega
 ·omega
theorem pow_lt_half {a e : Nat} (h : a = 0 ∨ ∃ i, a = 2 ^ i) : 2 ^ e < a ↔ 2 ^ (e + 1) < a ∨ a = 2 ^ (e + 1) := by
 rcases h with rfl | ⟨i, rfl⟩
 ·have h1 := Nat.two_pow_pos e
  have h2 := Nat.two_pow_pos (e + 1)
  omega
 ·constructor
  ·intro h
   have := (Nat.pow_lt_pow_iff_right (by omega)).1 h
   have : 2 ^ (e + 1) ≤ 2 ^ i := Nat.pow_le_pow_right (by omega) (by omega)
   omega
  ·intro h
   have := Nat.two_pow_pos e
   rw [Nat.pow_succ] at h
   omega
theorem atS_next {t : List Nd} {s : List Int} (hs : sizesOk t s = true) {k : Nat} (e : Nat) : atS t s k (2 ^ (e + 1)) t.length = atS t s k (2 ^ e) 1 := by
 unfold atS
 congr 1
 refine List.filter_congr fun a ha => ?_
 obtain ⟨j, rfl, h1, h2, h3, h4⟩ := kids_pos (sizesOk_iff.1 hs).1 ha
 have := pow_lt_half (e := e) (win_pow hs h2)
 rw [decide_eq_decide, Int.toNat_natCast]
 omega
theorem atS_first {t : List Nd} {s : List Int} (hok : treeOk t = true) {k m : Nat} (h : ∀ j, j < t.length → win t s j ≤ m) : atS t s k m 1 = 0 := by
 unfold atS
 rw [show ((kids t k t.length).filter fun a => decide (m < win t s a.toNat ∨ (win t s a.toNat = m ∧ a < ((1 : Nat) : Int)))) = [] from ?_]
 ·rfl
 rw [List.filter_eq_nil_iff]
 intro a ha
 obtain ⟨j, rfl, h1, h2, h3, h4⟩ := kids_pos hok ha
 have := h j h2
 rw [decide_eq_true_eq, Int.toNat_natCast]
 omega
theorem atS_befs {t : List Nd} {s : List Int} {k j : Nat} : atS t s k (win t s j) j = befs t s k j := rfl
theorem atS_le (t : List Nd) (s : List Int) (k size i : Nat) : atS t s k size i ≤ ksum t s k := by
 unfold atS ksum
 have hle : ∀ (p : Int → Bool) (ys : List Int), wsum (win t s) (ys.filter p) ≤ wsum (win t s) ys := by
  intro p ys
  induction ys with
  | nil => exact Nat.le_refl _
  | cons y ys ih =>
   rw [List.filter_cons]
   split
   ·rw [wsum_cons, wsum_cons]; omega
   ·rw [wsum_cons]; omega
 exact hle _ _
/-- what is laid down when the number i comes up in the round of a size -/
def dS (t : List Nd) (s : List Int) (k : Nat) (D : Nat → Bool) (size i : Nat) (j : Nat) : Bool := D j || ((t.getD j z).1 == (k : Int) && (decide (size < win t s j) || (win t s j == size && decide (j < i))))
theorem dS_hit {t : List Nd} {s : List Int} {k : Nat} {D : Nat → Bool} {size i : Nat} (hp : (t.getD i z).1 = (k : Int)) (hw : win t s i = size) : (fun j => dS t s k D size i j || j == i) = dS t s k D size (i + 1) := by
 funext j
 unfold dS
 by_cases e : j = i
 ·subst e
  rw [hp, hw]
  simp
 ·have h1 : (j == i) = false := by simpa using e
  have h2 : decide (j < i + 1) = decide (j < i) := by rw [decide_eq_decide]; omega
  rw [h1, h2, Bool.or_false]
theorem dS_miss {t : List Nd} {s : List Int} {k : Nat} {D : Nat → Bool} {size i : Nat} (h : (t.getD i z).1 ≠ (k : Int) ∨ win t s i ≠ size) : dS t s k D size i = dS t s k D size (i + 1) := by
 funext j
 unfold dS
 by_cases e : j = i
 ·subst e
  rcases h with h | h
  ·rw [beq_eq_false_iff_ne.2 h]; rfl
  ·rw [beq_eq_false_iff_ne.2 h]; rfl
 ·have h2 : decide (j < i + 1) = decide (j < i) := by rw [decide_eq_decide]; omega
  rw [h2]
end Go.Proofs.YtoeblmcibheldaaGreatDoor.V.W
end
section
namespace Go.Proofs.YtoeblmcibheldaaGreatDoor.V.W
open Go Go.RowKit
/-- the bridges from j down, if j is one -/
def visF (t : List Nd) : Nat → Nat → Nat
 | 0, _ => 0
 | f + 1, j => if (t.getD j z).2.2 = 0 then 1 + wsum (visF t f) (kids t j t.length) else 0
theorem visF_same {t : List Nd} (hok : treeOk t = true) : ∀ (f g k : Nat), k < t.length → t.length - k ≤ f → t.length - k ≤ g → visF t f k = visF t g k
 | 0, g, k, hk, h1, h2 => by omega
 | f + 1, 0, k, hk, h1, h2 => by omega
 | f + 1, g + 1, k, hk, h1, h2 => by
  rw [visF, visF]
  split
  ·congr 1
   refine wsum_ext fun a ha => ?_
   obtain ⟨j, rfl, h3, h4, h5, h6⟩ := kids_pos hok ha
   exact visF_same hok f g j h4 (by omega) (by omega)
  ·rfl
def vis (t : List Nd) (k : Nat) : Nat := visF t t.length k
/-- the bridges below k -/
def subs (t : List Nd) (k : Nat) : Nat := wsum (vis t) (kids t k t.length)
theorem vis_eq {t : List Nd} (hok : treeOk t = true) {k : Nat} (hk : k < t.length) : vis t k = if (t.getD k z).2.2 = 0 then 1 + subs t k else 0 := by
 unfold vis subs
 obtain ⟨n, hn⟩ : ∃ n, t.length = n + 1 := ⟨t.length - 1, by omega⟩
 rw [visF_same hok t.length (n + 1) k hk (by omega) (by omega), visF]
 split
 ·congr 1
  refine wsum_ext fun a ha => ?_
  obtain ⟨j, rfl, h3, h4, h5, h6⟩ := kids_pos hok ha
  exact visF_same hok n t.length j h4 (by omega) (by omega)
 ·rfl
def rsum (n : Nat) (f : Nat → Nat) : Nat := ((List.range n).map f).sum
theorem rsum_succ (n : Nat) (f : Nat → Nat) : rsum (n + 1) f = rsum n f + f n := by
 unfold rsum
 rw [List.range_succ, List.map_append, List.sum_append_nat]
 simp
theorem rsum_le {f g : Nat → Nat} : ∀ {n : Nat}, (∀ j, j < n → f j ≤ g j) → rsum n f ≤ rsum n g
 | 0, _ => Nat.le_refl _
 | n + 1, h => by
  rw [rsum_succ, rsum_succ]
  exact Nat.add_le_add (rsum_le fun j hj => h j (by omega)) (h n (by omega))
theorem rsum_add (f g : Nat → Nat) : ∀ n : Nat, rsum n (fun j => f j + g j) = rsum n f + rsum n g
 | 0 => rfl
 | n + 1 => by
  rw [rsum_succ, rsum_succ, rsum_succ, rsum_add f g n]
  omega
theorem rsum_one (m c : Nat) : ∀ n : Nat, rsum n (fun j => if j = m then c else 0) ≤ c
 | n => by
  have : rsum n (fun j => if j = m then c else 0) ≤ c ∧ (n ≤ m → rsum n (fun j => if j = m then c else 0) = 0) := by
   induction n with
   | zero => exact ⟨Nat.zero_le _, fun _ => rfl⟩
   | succ n ih =>
    rw [rsum_succ]
    split
    ·rename_i e
     have := ih.2 (by omega)
     exact ⟨by omega, fun h => by omega⟩
    ·exact ⟨by omega, fun h => by have := ih.2 (by omega); omega⟩
  exact this.1
theorem kids_rsum (g : Nat → Nat) (t : List Nd) (k : Int) : ∀ n, wsum g (kids t k n) = rsum n fun j => if (t.getD j z).1 = k then g j else 0
 | 0 => rfl
 | n + 1 => by
  rw [kids_succ, wsum_app, rsum_succ, kids_rsum g t k n]
  congr 1
  by_cases h : (t.getD n z).1 = k
  ·rw [if_pos (by simpa using h), if_pos h]; simp [wsum]
  ·rw [if_neg (by simpa using h), if_neg h]; rfl
def front (t : List Nd) (m : Nat) : Nat := rsum t.length fun j => if m ≤ j ∧ (t.getD j z).1 < (m : Int) then vis t j else 0
theorem front_step {t : List Nd} (hok : treeOk t = true) {m : Nat} (h1 : 1 ≤ m) (h2 : m < t.length) : front t m ≤ 1 + front t (m + 1) := by
 have hA : front t m ≤ rsum t.length (fun j => (if j = m then vis t m else 0) + (if m + 1 ≤ j ∧ (t.getD j z).1 < (m : Int) then vis t j else 0)) := by
  refine rsum_le fun j hj => ?_
  by_cases e : j = m
  ·subst e
   rw [if_pos (rfl : j = j)]
   split <;> omega
  ·rw [if_neg e]
   split
   ·rw [if_pos (by omega)]; omega
   ·omega
 have hB : subs t m + rsum t.length (fun j => if m + 1 ≤ j ∧ (t.getD j z).1 < (m : Int) then vis t j else 0) ≤ front t (m + 1) := by
  unfold subs front
  rw [kids_rsum, ← rsum_add]
  refine rsum_le fun j hj => ?_
  by_cases e : (t.getD j z).1 = (m : Int)
  ·have hj1 : j ≠ 0 := by
    rintro rfl
    rw [(tree_parts hok).2.1] at e
    have e : (-1 : Int) = m := e
    omega
   have := tree_node hok (j := j) (by omega) hj
   rw [if_pos e, if_neg (by omega), if_pos (by omega)]
   omega
  ·rw [if_neg e]
   split
   ·rw [if_pos (by omega)]; omega
   ·omega
 have hC := vis_eq hok h2
 have hD := rsum_one m (vis t m) t.length
 rw [rsum_add] at hA
 have hE : vis t m ≤ 1 + subs t m := by
  rw [hC]; split <;> omega
 omega
theorem front_bd {t : List Nd} (hok : treeOk t = true) : ∀ (f m : Nat), 1 ≤ m → m + f = t.length → front t m ≤ f
 | 0, m, h1, h2 => by
  have : front t m ≤ rsum t.length fun j => 0 := rsum_le fun j hj => by rw [if_neg (by omega)]; omega
  have h0 : ∀ n, rsum n (fun _ => 0) = 0 := by
   intro n
   induction n with
   | zero => rfl
   | succ n ih => rw [rsum_succ, ih]
  rw [h0] at this
  exact this
 | f + 1, m, h1, h2 => by
  have := front_step hok h1 (by omega)
  have := front_bd hok f (m + 1) (by omega) (by omega)
  omega
theorem subs_root {t : List Nd} (hok : treeOk t = true) : subs t 0 ≤ 11 := by
 have hl := treeOk_len hok
 have h1 := front_bd hok (t.length - 1) 1 (by omega) (by omega)
 have h2 : subs t 0 ≤ front t 1 := by
  unfold subs front
  rw [kids_rsum]
  refine rsum_le fun j hj => ?_
  by_cases e : (t.getD j z).1 = ((0 : Nat) : Int)
  ·have hj1 : j ≠ 0 := by
    rintro rfl
    rw [(tree_parts hok).2.1] at e
    have e : (-1 : Int) = ((0 : Nat) : Int) := e
    omega
   rw [if_pos e, if_pos (by omega)]
   omega
  ·rw [if_neg e]
   omega
 omega
end Go.Proofs.YtoeblmcibheldaaGreatDoor.V.W
end
section
namespace Go.Proofs.YtoeblmcibheldaaGreatDoor.V.W
open Go Go.RowKit
abbrev sBr : Sh := .pr (.int .i64) (.int .i64)
abbrev sBS : Sh := .sl 110 sBr
abbrev zb : Int × Int := (0, 0)
set_option maxRecDepth 20000 in
theorem or_vc (x y : Int) : VC Tryz.prog 186 [.v false sI [x, y]] (· = .v false (.int .i64) (if x = 0 then y else x)) := by
 refine VC.of_body hT Tryz.func186 rfl (by kernel_rfl) [(.tmp 2, false, .int .i64)] (by kernel_rfl) ?_
 show VW _ _ ([.v false sI [x, y], D, D, D, D, D, D, D, D, D, D, D, D, D, D, D, D, D]) _
 repeat refine VW.seq ?_
 refine VW.regl hT fun K hK => ?_
 simp only [wq, simprocAttr]
 refine hK _ ?_
 clear hK K
 try refine vthen_n ?_
 repeat refine VW.seq ?_
 refine VW.regl hT fun K hK => ?_
 simp only [wq, simprocAttr]
 refine hK _ ?_
 clear hK K
 try refine vthen_n ?_
 repeat refine VW.seq ?_
 refine VW.regl hT fun K hK => ?_
 simp only [wq, simprocAttr]
 refine hK _ ?_
 clear hK K
 try refine vthen_n ?_
 repeat refine VW.seq ?_
 refine VW.block ?_
 refine VW.loop (α := Nat) [(3, none), (6, none), (7, none), (8, none)] (fun i => [D, D, D, .v false (.int .i64) (0), D, D, .v false sI [x, y], .v false (.int .i64) (2), .v false (.int .i64) ((i : Nat)), D, D, D, D, D, D, D, D, D]) (fun i => i ≤ 2 ∧ (1 ≤ i → x = 0) ∧ (2 ≤ i → y = 0)) (fun i => 2 - i) ⟨0, ⟨by omega, by omega, by omega⟩, ?_⟩ fun i ⟨hi, h1, h2⟩ => ?_
 ·simp only [wn, wq, simprocAttr]
  try rfl
 repeat refine VW.seq ?_
 refine VW.regl hT fun K hK => ?_
 simp only [wq, simprocAttr]
 refine hK _ ?_
 clear hK K
 try refine vthen_n ?_
 repeat refine VW.seq ?_
 refine VW.cond rfl (fun hc => ?_) (fun hc => ?_)
 ·have hlt : i < 2 := by
   have : (i : Int) < 2 := of_decide_eq_true hc
   omega
  refine VW.skip (vthen_n ?_)
  repeat refine VW.seq ?_
  refine VW.block ?_
  repeat refine VW.seq ?_
  refine VW.regl hT fun K hK => ?_
  simp only [wq, simprocAttr]
  refine ⟨decide_eq_true ⟨Int.natCast_nonneg _, by show (i : Int) < 2; omega⟩, ?_⟩
  refine hK _ ?_
  clear hK K
  try refine vthen_n ?_
  repeat refine VW.seq ?_
  refine VW.regl hT fun K hK => ?_
  simp only [wq, simprocAttr]
  refine hK _ ?_
  clear hK K
  try refine vthen_n ?_
  rcases (show i = 0 ∨ i = 1 by omega) with rfl | rfl
  ·repeat refine VW.seq ?_
   refine VW.cond rfl (fun hc => ?_) (fun hc => ?_)
   ·repeat refine VW.seq ?_
    refine VW.regl hT fun K hK => ?_
    simp only [wq, simprocAttr]
    refine hK _ ?_
    clear hK K
    try refine vthen_n ?_
    refine VW.ret ⟨.inl rfl, _, rfl, ?_⟩
    have hc : x ≠ 0 := by simpa using hc
    rw [if_neg hc]
    rfl
   ·refine VW.skip ?_
    show vthen _ _ _ .normal _
    refine vthen_n ?_
    repeat refine VW.seq ?_
    refine VW.regl hT fun K hK => ?_
    simp only [wq, simprocAttr]
    refine hK _ ?_
    clear hK K
    try refine vthen_n ?_
    have hc : x = 0 := by simpa using hc
    refine ⟨1, ⟨by omega, fun _ => hc, fun h => by omega⟩, ?_, by decide⟩
    simp only [wn, wq, simprocAttr]
    try rfl
  ·have hx := h1 (by omega)
   repeat refine VW.seq ?_
   refine VW.cond rfl (fun hc => ?_) (fun hc => ?_)
   ·repeat refine VW.seq ?_
    refine VW.regl hT fun K hK => ?_
    simp only [wq, simprocAttr]
    refine hK _ ?_
    clear hK K
    try refine vthen_n ?_
    refine VW.ret ⟨.inl rfl, _, rfl, ?_⟩
    rw [if_pos hx]
    rfl
   ·refine VW.skip ?_
    show vthen _ _ _ .normal _
    refine vthen_n ?_
    repeat refine VW.seq ?_
    refine VW.regl hT fun K hK => ?_
    simp only [wq, simprocAttr]
    refine hK _ ?_
    clear hK K
    try refine vthen_n ?_
    have hc : y = 0 := by simpa using hc
    refine ⟨2, ⟨by omega, fun _ => hx, fun _ => hc⟩, ?_, by decide⟩
    simp only [wn, wq, simprocAttr]
    try rfl
 ·have hge : i = 2 := by
   have : ¬ (i : Int) < 2 := of_decide_eq_false hc
   omega
  refine VW.exit ?_
  show vthen _ _ _ .normal _
  refine vthen_n ?_
  repeat refine VW.seq ?_
  refine VW.regl hT fun K hK => ?_
  simp only [wq, simprocAttr]
  refine hK _ ?_
  clear hK K
  try refine vthen_n ?_
  refine VW.ret ⟨.inl rfl, _, rfl, ?_⟩
  rw [if_pos (h1 (by omega)), h2 (by omega)]
theorem alloc1_vc (bs : List (Int × Int)) (a b : Int) (h1 : 0 ≤ a ∧ a < bs.length) (h2 : 0 ≤ b ∧ b < bs.length) : VC Tryz.prog 185 [.v false (.int .i64) (a), .v false (.int .i64) (b), .fadr sBS bs] (· = .v false (.int .i64) (if cmpI (bs.getD b.toNat zb).1 (bs.getD a.toNat zb).1 = 0 then cmpI a b else cmpI (bs.getD b.toNat zb).1 (bs.getD a.toNat zb).1)) := by
 refine VC.of_body hT Tryz.func185 rfl (by kernel_rfl) [(.tmp 5, false, .int .i64)] (by kernel_rfl) ?_
 show VW _ _ ([.v false (.int .i64) (a), .v false (.int .i64) (b), .fadr sBS bs, D, D, D, D, D, D, D, D, D, D, D, D, D, D, D, D, D, D, D]) _
 repeat refine VW.seq ?_
 refine VW.regl hT fun K hK => ?_
 simp only [wq, simprocAttr]
 refine hK _ ?_
 clear hK K
 try refine vthen_n ?_
 repeat refine VW.seq ?_
 refine VW.mixl hT hm 0 14 (by kernel_rfl) fun K hK => ?_
 simp only [wq, simprocAttr]
 refine ⟨decide_eq_true h2, decide_eq_true h1, ?_⟩
 refine vcallD_of (compare_vc _ _) ?_
 simp only [wq, simprocAttr]
 refine vcallD_of (compare_vc _ _) ?_
 simp only [wq, simprocAttr]
 refine vcall_of (or_vc _ _) ?_
 simp only [wq, simprocAttr]
 refine hK _ ?_
 clear hK K
 try refine vthen_n ?_
 exact VW.ret ⟨.inl rfl, _, rfl, rfl⟩
end Go.Proofs.YtoeblmcibheldaaGreatDoor.V.W
end
section
namespace Go.Proofs.YtoeblmcibheldaaGreatDoor.V.W
open Go Go.RowKit
end Go.Proofs.YtoeblmcibheldaaGreatDoor.V.W
end
section
namespace Go.Proofs.YtoeblmcibheldaaGreatDoor.V.W
open Go Go.RowKit
theorem tagE {P : Program} {f : FuncId} {args : List PV} {i : Nat} {agg : Bool} {s : Sh} {fi f0 : Fl} {x : s.ty} {Φ : s.ty → Prop} {l : List Value} {a : PV} (h : VX P f args i (fun pv ot => pv = a ∧ ∃ y, Φ y ∧ ot = .root (.val agg) s f0 y)) (ha : args[i]? = some (.root (.val agg) s f0 x)) (hu : Fl.untag s fi = f0) (he : encI s fi x = some l) (he' : ∀ y, Φ y → encI s fi y = some l) :
  VX P f (args.set i (.root (.val agg) s fi x)) i (fun pv ot => pv = a ∧ ∃ y, Φ y ∧ ot = .root (.val agg) s fi y) := by
 refine (h.tag ha hu he).mono fun pv ot ⟨ot0, ⟨h1, y, hy, h2⟩, h3⟩ => ⟨h1, y, hy, ?_⟩
 rcases h3 with ⟨y', e1, e2, e3⟩ | ⟨h3, _⟩
 ·rw [h2] at e1
  cases e1
  exact e3
 ·exact absurd (he' y hy) (h3 y h2)
/-- where the next window begins -/
def baseAt (t : List Nd) (s : List Int) (k : Nat) (M : List Int) (i : Nat) : Nat := pos t s k + wsum (win t s) (M.take i)
set_option maxRecDepth 20000 in
theorem alloc_vx {t : List Nd} {s : List Int} (hs : sizesOk t s = true) : ∀ (f k : Nat) (A : Nat → Bool), t.length - k ≤ f → k < t.length → (A k = true ∨ k = 0 ∨ win t s k = 0) →
  VX Tryz.prog 161 [.v false sNS t, .root (.val false) sBS .own (bars t s A), .v false (.int .i64) ((k : Nat))] 1 (fun pv ot => pv = nil0 ∧ ∃ bs : List (Int × Int), (∃ E : Nat → Bool, bs = bars t s E ∧ (∀ j, A j = true → E j = true) ∧ ∀ j, Bel t k j → win t s j ≠ 0 → E j = true) ∧ ot = .root (.val false) sBS .own bs)
 := by
 intro f
 induction f with
 | zero =>
  intro k A hf hk hD
  omega
 | succ f ih =>
  intro k A hf hk hD
  have hok := (sizesOk_iff.1 hs).1
  have htl := treeOk_len hok
  have hperm := children_perm hok hk
  have hcl : (children t k).length ≤ 12 := by
   rw [hperm.length_eq]
   have := kids_len t k t.length
   omega
  have hbl := bars_len t s A
  refine VX.of_rows hT Tryz.func161 rfl (by kernel_rfl) [] (by kernel_rfl) rfl rfl (by show 0 < (bars t s A).length; omega) fun l fi li e1 e2 => ?_
  obtain ⟨n, cp, rfl, rfl⟩ := io1 e1 e2
  show VW _ _ ([.v false sNS t, .root (.val false) sBS (.io n cp) (bars t s A), .v false (.int .i64) ((k : Nat)), D, D, D, D, D, D, D, D, D, D, D, D, D, D, D, D, D, D, D, D, D, D, D, D, D, D, D, D, D, D, D, D, D, D, D, D, D, D, D, D, D, D, D, D, D, D, D, D, D, D]) _
  generalize hL : children t k = L at *
  repeat refine VW.seq ?_
  refine VW.regl hT fun K hK => ?_
  simp only [wq, simprocAttr]
  refine hK _ ?_
  clear hK K
  try refine vthen_n ?_
  repeat refine VW.seq ?_
  refine VW.regl hT fun K hK => ?_
  simp only [wq, simprocAttr]
  refine vcall_of (children_vc t k (by omega)) ?_
  rw [hL]
  simp only [wq, simprocAttr]
  refine hK _ ?_
  clear hK K
  try refine vthen_n ?_
  apply cutl
  ·intro tail
   rcases Nat.lt_or_ge 0 L.length with h0 | h0
   ·repeat refine VW.seq ?_
    refine VW.regl hT fun K hK => ?_
    simp only [wq, simprocAttr]
    refine vcall_io 0 ?_
    simp only [wq, simprocAttr]
    refine vxcall_of (sort_vx L 185 sBS (bars t s A) (byWin (win t s)) (fun a b ha hb => ?_) h0 (by omega)) ?_
    ·obtain ⟨a, rfl, a1, a2, a3, a4⟩ := kids_pos hok (hperm.mem_iff.1 ha)
     obtain ⟨b, rfl, b1, b2, b3, b4⟩ := kids_pos hok (hperm.mem_iff.1 hb)
     have := alloc1_vc (bars t s A) a b ⟨by omega, by omega⟩ ⟨by omega, by omega⟩
     rw [Int.toNat_natCast, Int.toNat_natCast, bars_get _ _ _ a2, bars_get _ _ _ b2] at this
     exact this
    simp only [wq, simprocAttr]
    refine hK _ ?_
    try refine vthen_n ?_
    exact tail.h
   ·have h0 : L = [] := List.eq_nil_of_length_eq_zero (by omega)
    subst h0
    repeat refine VW.seq ?_
    refine VW.regl hT fun K hK => ?_
    simp only [wq, simprocAttr]
    refine vcall_of (sort0_vc 185 sBS (bars t s A)) ?_
    simp only [wq, simprocAttr]
    refine hK _ ?_
    try refine vthen_n ?_
    exact tail.h
  have hsp := fun i (h : i < L.length) => sort_pos hok (s := s) hperm h
  have hsorted : (isort (byWin (win t s)) L).Perm (kids t k t.length) := (isort_perm _ _).trans hperm
  have hsl : (isort (byWin (win t s)) L).length = L.length := isort_len _ _
  generalize hM : isort (byWin (win t s)) L = M at *
  have hbk : (bars t s A).getD k zb = ((win t s k : Int), (pos t s k : Int)) := by
   rw [bars_get _ _ _ hk]
   rcases hD with h | rfl | h
   ·rw [if_pos h]
   ·rw [pos_root]; simp
   ·rw [pos_zero h]; simp
  have hpb := fun j (h : j < t.length) => pos_bd hok s j j (Nat.le_refl _) h
  have hpk := hpb k hk
  have hw0 := win_lim hs (k := 0) (by omega)
  repeat refine VW.seq ?_
  refine VW.regl hT fun K hK => ?_
  simp only [wq, simprocAttr]
  refine ⟨decide_eq_true ⟨Int.natCast_nonneg _, by show (k : Int) < ((bars t s A).length : Int); omega⟩, ?_⟩
  rw [hbk]
  refine hK _ ?_
  clear hK K
  try refine vthen_n ?_
  repeat refine VW.seq ?_
  refine VW.regl hT fun K hK => ?_
  simp only [wq, simprocAttr]
  refine hK _ ?_
  clear hK K
  try refine vthen_n ?_
  repeat refine VW.seq ?_
  refine VW.block ?_
  refine VW.loop (α := Nat × (Nat → Bool)) [(0, none), (4, none), (7, none), (21, none), (22, none), (23, none)] (fun p => [.v false sNS t, D, D, D, .root (.box 26) sBS (.io n cp) (bars t s p.2), D, D, .v false (.int .i64) ((baseAt t s k M p.1 : Nat)), D, D, D, D, D, D, D, D, D, D, D, D, D, .root (.val false) sI .own M, .v false (.int .i64) ((M.length : Nat)), .v false (.int .i64) ((p.1 : Nat)), D, D, D, D, D, D, D, D, D, D, D, D, D, D, D, D, D, D, D, D, D, D, D, D, D, D, D, D, D]) (fun p => p.1 ≤ M.length ∧ (∀ j, A j = true → p.2 j = true) ∧ ∀ m, m < p.1 → ∀ j, (j = (M.getD m 0).toNat ∨ Bel t (M.getD m 0).toNat j) → win t s j ≠ 0 → p.2 j = true) (fun p => M.length - p.1) ⟨(0, A), ⟨by omega, fun j h => h, fun m h => by omega⟩, ?_⟩ fun ⟨i, E⟩ ⟨hi, hE1, hE2⟩ => ?_
  ·simp only [wn, wq, simprocAttr]
   try rfl
  have hi : i ≤ M.length := hi
  have hE1 : ∀ j, A j = true → E j = true := hE1
  have hE2 : ∀ m, m < i → ∀ j, (j = (M.getD m 0).toNat ∨ Bel t (M.getD m 0).toNat j) → win t s j ≠ 0 → E j = true := hE2
  repeat refine VW.seq ?_
  refine VW.regl hT fun K hK => ?_
  simp only [wq, simprocAttr]
  refine hK _ ?_
  clear hK K
  try refine vthen_n ?_
  repeat refine VW.seq ?_
  refine VW.cond rfl (fun hc => ?_) (fun hc => ?_)
  ·have hlt : i < M.length := by simpa using hc
   obtain ⟨c, hc0, h1, h2, h3, h4⟩ := kids_pos hok (hsorted.mem_iff.1 (getD_mem hlt))
   have hbe := bars_len t s E
   have hbc := bars_get t s E h2 zb
   have hpc := hpb c h2
   have hidx : decide (0 ≤ (c : Int) ∧ (c : Int) < ((bars t s E).length : Int)) = true := decide_eq_true ⟨Int.natCast_nonneg _, by omega⟩
   have htk := wsum_take (win t s) hlt
   have hsc := hsp i (by omega)
   rw [hc0, Int.toNat_natCast] at hsc htk
   have hpe := pos_eq hok (s := s) (k := k) h1 h2
   have hb0 : baseAt t s k M i = pos t s k + wsum (win t s) (M.take i) := rfl
   have hb1 : baseAt t s k M (i + 1) = pos t s k + wsum (win t s) (M.take (i + 1)) := rfl
   have hlim : baseAt t s k M (i + 1) ≤ 2176782336 := by
    have e1 := wsum_le (win t s) M (i + 1)
    have e2 : wsum (win t s) M = ksum t s k := wsum_perm hsorted
    have e3 := ksum_le hok s h1 h2 h3
    omega
   refine VW.skip (vthen_n ?_)
   repeat refine VW.seq ?_
   refine VW.block ?_
   repeat refine VW.seq ?_
   refine VW.regl hT fun K hK => ?_
   simp only [wq, simprocAttr]
   refine ⟨decide_eq_true ⟨Int.natCast_nonneg _, by show (i : Int) < (M.length : Int); omega⟩, ?_⟩
   rw [show M.getD i 0 = (c : Int) from hc0]
   refine hK _ ?_
   clear hK K
   try refine vthen_n ?_
   repeat refine VW.seq ?_
   refine VW.regl hT fun K hK => ?_
   simp only [wq, simprocAttr]
   refine ⟨hidx, ?_⟩
   rw [hbc]
   refine hK _ ?_
   clear hK K
   try refine vthen_n ?_
   obtain ⟨G, hG⟩ : ∃ G : Nat → Bool, G = fun j => E j || j == c := ⟨_, rfl⟩
   have hGE : ∀ j, E j = true → G j = true := fun j h => by rw [hG]; simp [h]
   have hGc : G c = true := by rw [hG]; simp
   have hbg := bars_get t s G h2 zb
   have hlg := bars_len t s G
   apply cutl
   ·intro tail
    repeat refine VW.seq ?_
    refine VW.cond rfl (fun hc => ?_) (fun hc => ?_)
    ·have hw : 0 < win t s c := by
      have : ((win t s c : Nat) : Int) > 0 := of_decide_eq_true hc
      omega
     have hpe := hpe (by omega) h3
     have hset : (bars t s E).set c (((win t s c : Int), if E c = true then (pos t s c : Int) else 0).1, ((baseAt t s k M i : Nat) : Int)) = bars t s G := by
      rw [hb0, hsc, ← hpe, hG]
      exact bars_set t s E h2
     repeat refine VW.seq ?_
     refine VW.regl hT fun K hK => ?_
     simp only [wq, simprocAttr]
     refine ⟨hidx, ?_⟩
     refine hK _ ?_
     try refine vthen_n ?_
     rw [hbc, hset]
     repeat refine VW.seq ?_
     refine VW.regl hT fun K hK => ?_
     simp only [wq, simprocAttr]
     refine ⟨decide_eq_true ⟨Int.natCast_nonneg _, by show (c : Int) < ((bars t s G).length : Int); omega⟩, ?_⟩
     rw [hbg]
     refine hK _ ?_
     try refine vthen_n ?_
     refine VW.weak (weak_norm [(0, none), (4, none), (7, none), (9, none), (21, none), (22, none), (23, none)] _) ?_
     simp only [wn, wq, simprocAttr]
     rw [wrap64 (by omega) (by omega), show ((baseAt t s k M i : Nat) : Int) + (win t s c : Int) = ((baseAt t s k M (i + 1) : Nat) : Int) by omega]
     exact tail.h
    ·have hw : win t s c = 0 := by
      have : ¬ ((win t s c : Nat) : Int) > 0 := of_decide_eq_false hc
      omega
     refine VW.skip ?_
     show vthen _ _ _ .normal _
     refine vthen_n ?_
     refine VW.weak (weak_norm [(0, none), (4, none), (7, none), (9, none), (21, none), (22, none), (23, none)] _) ?_
     simp only [wn, wq, simprocAttr]
     rw [show baseAt t s k M i = baseAt t s k M (i + 1) by omega, show bars t s E = bars t s G from bars_same t s fun j q1 q2 q3 => by
      have : j ≠ c := by rintro rfl; exact q2 hw
      rw [hG]
      simp [this]]
     exact tail.h
   have hGo : ∀ H : Nat → Bool, (∀ j, G j = true → H j = true) → (∀ j, Bel t c j → win t s j ≠ 0 → H j = true) → (∀ j, A j = true → H j = true) ∧ ∀ m, m < i + 1 → ∀ j, (j = (M.getD m 0).toNat ∨ Bel t (M.getD m 0).toNat j) → win t s j ≠ 0 → H j = true := fun H q1 q2 => by
    refine ⟨fun j h => q1 j (hGE j (hE1 j h)), fun m q3 j q4 q5 => ?_⟩
    rcases Nat.lt_or_ge m i with q6 | q6
    ·exact q1 j (hGE j (hE2 m q6 j q4 q5))
    ·obtain rfl : m = i := by omega
     rw [hc0, Int.toNat_natCast] at q4
     rcases q4 with rfl | q4
     ·exact q1 _ hGc
     ·exact q2 j q4 q5
   repeat refine VW.seq ?_
   refine VW.regl hT fun K hK => ?_
   simp only [wq, simprocAttr]
   refine vcall_of (isBridge_vc t c (by omega) (by omega)) ?_
   simp only [wq, simprocAttr]
   refine hK _ ?_
   clear hK K
   try refine vthen_n ?_
   repeat refine VW.seq ?_
   refine VW.cond rfl (fun hc => ?_) (fun hc => ?_)
   ·repeat refine VW.seq ?_
    refine VW.regl hT fun K hK => ?_
    simp only [wq, simprocAttr]
    refine vcall_io 1 ?_
    simp only [wq, simprocAttr]
    have hal := ih c G (by omega) h2 (.inl hGc)
    have hrec := tagE (agg := false) (s := sBS) (fi := .io n cp) (f0 := .own) (x := bars t s G) (l := [Value.slice (some ⟨n, 0, none⟩) (bars t s G).length cp]) hal rfl rfl rfl (fun y hy => by
     obtain ⟨H, q1, _⟩ := hy
     show some [Value.slice (some ⟨n, 0, none⟩) (List.length y) cp] = some [Value.slice (some ⟨n, 0, none⟩) (List.length (bars t s G)) cp]
     rw [q1, bars_len, bars_len])
    refine vxcall_ex hrec ?_
    rintro pv ot ⟨rfl, bs, ⟨H, rfl, q1, q2⟩, rfl⟩
    simp only [wq, simprocAttr]
    refine hK _ ?_
    clear hK K
    try refine vthen_n ?_
    show vthen _ _ _ .normal _
    refine vthen_n ?_
    repeat refine VW.seq ?_
    refine VW.regl hT fun K hK => ?_
    simp only [wq, simprocAttr]
    refine hK _ ?_
    clear hK K
    try refine vthen_n ?_
    refine ⟨(i + 1, H), ⟨hlt, hGo H q1 q2⟩, ?_, by show M.length - (i + 1) < M.length - i; omega⟩
    simp only [wn, wq, simprocAttr]
    rw [wrap64 (by omega) (by omega)]
    rfl
   ·have hb : ¬ (t.getD c z).2.2 = 0 := by simpa using hc
    refine VW.skip ?_
    show vthen _ _ _ .normal _
    refine vthen_n ?_
    repeat refine VW.seq ?_
    refine VW.regl hT fun K hK => ?_
    simp only [wq, simprocAttr]
    refine hK _ ?_
    clear hK K
    try refine vthen_n ?_
    refine ⟨(i + 1, G), ⟨hlt, hGo G (fun j h => h) (fun j h _ => absurd (bel_bridge hok h) hb)⟩, ?_, by show M.length - (i + 1) < M.length - i; omega⟩
    simp only [wn, wq, simprocAttr]
    rw [wrap64 (by omega) (by omega)]
    rfl
  ·have hge : i = M.length := by
    have : M.length ≤ i := by simpa using hc
    omega
   refine VW.exit ?_
   refine ⟨.inr rfl, _, _, _, _, rfl, ⟨4, _, rfl⟩, ?_, rfl, _, ⟨E, rfl, hE1, fun j h hw => ?_⟩, rfl⟩
   ·show some [Value.slice (some ⟨n, 0, none⟩) (List.length (bars t s E)) cp] = some [Value.slice (some ⟨n, 0, none⟩) (List.length (bars t s A)) cp]
    rw [bars_len, bars_len]
   ·obtain ⟨c, h1, h2, h3, h4⟩ := bel_cases h
    have hmem : (c : Int) ∈ M := hsorted.mem_iff.2 (kids_iff.2 ⟨by omega, by omega, h3⟩)
    obtain ⟨m, q1, q2⟩ := List.getElem_of_mem hmem
    have q3 : M.getD m 0 = (c : Int) := by rw [List.getD_eq_getElem?_getD, List.getElem?_eq_getElem q1, q2]; rfl
    exact hE2 m (by omega) j (by rw [q3, Int.toNat_natCast]; exact h4) hw
end Go.Proofs.YtoeblmcibheldaaGreatDoor.V.W
end
section
namespace Go.Proofs.YtoeblmcibheldaaGreatDoor.V.W
open Go Go.RowKit
set_option maxRecDepth 20000 in
theorem swin_vc {t : List Nd} {s : List Int} (hs : sizesOk t s = true) : ∀ (f k : Nat), t.length - k ≤ f → k < t.length → VC Tryz.prog 152 [.v false sNS t, .v false sI s, .v false (.int .i64) ((k : Nat))] (· = .v false (.int .i64) ((win t s k : Nat)))
 := by
 intro f
 induction f with
 | zero =>
  intro k hf hk
  omega
 | succ f ih =>
  intro k hf hk
  have hok := (sizesOk_iff.1 hs).1
  have hsl := (sizesOk_iff.1 hs).2.1
  have htl := treeOk_len hok
  have hwin := win_eq hok s hk
  have hlim := ksum_lim hs hk
  have hperm := skids_perm hok hk
  have hfun := tree_fun hok hk
  have hcl : (skids t k).length ≤ 12 := by
   rw [hperm.length_eq]
   have := kids_len t k t.length
   omega
  have hsum : wsum (win t s) (skids t k) = ksum t s k := wsum_perm hperm
  refine VC.of_body hT Tryz.func152 rfl (by kernel_rfl) [(.tmp 6, false, .int .i64)] (by kernel_rfl) ?_
  show VW _ _ ([.v false sNS t, .v false sI s, .v false (.int .i64) ((k : Nat)), D, D, D, D, D, D, D, D, D, D, D, D, D, D, D, D, D, D, D, D, D, D, D, D, D, D, D, D, D, D, D, D, D, D, D, D, D, D, D, D, D, D, D, D, D, D]) _
  repeat refine VW.seq ?_
  refine VW.regl hT fun K hK => ?_
  simp only [wq, simprocAttr]
  refine hK _ ?_
  clear hK K
  try refine vthen_n ?_
  repeat refine VW.seq ?_
  refine VW.regl hT fun K hK => ?_
  simp only [wq, simprocAttr]
  refine ⟨decide_eq_true ⟨Int.natCast_nonneg _, by show (k : Int) < (t.length : Int); omega⟩, ?_⟩
  refine hK _ ?_
  clear hK K
  try refine vthen_n ?_
  repeat refine VW.seq ?_
  refine VW.cond rfl (fun hc => ?_) (fun hc => ?_)
  ·repeat refine VW.seq ?_
   refine VW.regl hT fun K hK => ?_
   simp only [wq, simprocAttr]
   refine ⟨decide_eq_true ⟨Int.natCast_nonneg _, by show (k : Int) < (s.length : Int); omega⟩, ?_⟩
   refine hK _ ?_
   clear hK K
   try refine vthen_n ?_
   refine VW.ret ⟨.inl rfl, _, rfl, ?_⟩
   have hc : (t.getD k z).2.2 > 0 := of_decide_eq_true hc
   have : s.getD k 0 = ((s.getD k 0).toNat : Int) := by
    rcases sizes_node hs hk with h | ⟨h, _⟩
    ·rw [h]; rfl
    ·have := pw_in h
     omega
   rw [hwin, if_neg (by omega), ← this]
  have hb : (t.getD k z).2.2 = 0 := by
   have : ¬ (t.getD k z).2.2 > 0 := of_decide_eq_false hc
   omega
  rw [if_pos hb] at hwin
  rw [hwin]
  generalize hL : skids t k = L at *
  refine VW.skip (vthen_n ?_)
  repeat refine VW.seq ?_
  refine VW.regl hT fun K hK => ?_
  simp only [wq, simprocAttr]
  refine vcall_of (specChildren_vc t k (by omega)) ?_
  rw [hL]
  simp only [wq, simprocAttr]
  refine hK _ ?_
  clear hK K
  try refine vthen_n ?_
  repeat refine VW.seq ?_
  refine VW.regl hT fun K hK => ?_
  simp only [wq, simprocAttr]
  refine hK _ ?_
  clear hK K
  try refine vthen_n ?_
  repeat refine VW.seq ?_
  refine VW.regl hT fun K hK => ?_
  simp only [wq, simprocAttr]
  refine hK _ ?_
  clear hK K
  try refine vthen_n ?_
  repeat refine VW.seq ?_
  refine VW.block ?_
  refine VW.loop (α := Nat) [(0, none), (1, none), (7, none), (8, none), (9, none)] (fun i => [.v false sNS t, .v false sI s, D, D, D, D, D, .root (.val false) sI .own L, .v false (.int .i64) ((wsum (win t s) (L.take i) : Nat)), .v false (.int .i64) ((i : Nat)), D, D, D, D, D, D, D, D, D, D, D, D, D, D, D, D, D, D, D, D, D, D, D, D, D, D, D, D, D, D, D, D, D, D, D, D, D, D, D]) (fun i => i ≤ L.length) (fun i => L.length - i) ⟨0, by omega, ?_⟩ fun i hi => ?_
  ·simp only [wn, wq, simprocAttr]
   try rfl
  repeat refine VW.seq ?_
  refine VW.regl hT fun K hK => ?_
  simp only [wq, simprocAttr]
  refine hK _ ?_
  clear hK K
  try refine vthen_n ?_
  repeat refine VW.seq ?_
  refine VW.cond rfl (fun hc => ?_) (fun hc => ?_)
  ·have hlt : i < L.length := by simpa using hc
   obtain ⟨j, hj, h1, h2, h3, h4⟩ := kids_pos hok (hperm.mem_iff.1 (getD_mem hlt))
   have hle := wsum_le (win t s) L (i + 1)
   have htk := wsum_take (win t s) hlt
   rw [hj, Int.toNat_natCast] at htk
   refine VW.skip (vthen_n ?_)
   repeat refine VW.seq ?_
   refine VW.block ?_
   repeat refine VW.seq ?_
   refine VW.regl hT fun K hK => ?_
   simp only [wq, simprocAttr]
   refine ⟨decide_eq_true ⟨Int.natCast_nonneg _, by show (i : Int) < (L.length : Int); omega⟩, ?_⟩
   rw [show L.getD i 0 = (j : Int) from hj]
   refine vcall_of (ih j (by omega) h2) ?_
   simp only [wq, simprocAttr]
   refine hK _ ?_
   clear hK K
   try refine vthen_n ?_
   repeat refine VW.seq ?_
   refine VW.regl hT fun K hK => ?_
   simp only [wq, simprocAttr]
   refine hK _ ?_
   clear hK K
   try refine vthen_n ?_
   refine ⟨i + 1, hlt, ?_, by show L.length - (i + 1) < L.length - i; omega⟩
   simp only [wn, wq, simprocAttr]
   rw [wrap64 (by omega) (by omega), wrap64 (by omega) (by omega), htk]
   rfl
  ·have hge : i = L.length := by
    have : L.length ≤ i := by simpa using hc
    omega
   subst hge
   refine VW.exit ?_
   show vthen _ _ _ .normal _
   refine vthen_n ?_
   rw [List.take_length, hsum]
   generalize ksum t s k = S at *
   repeat refine VW.seq ?_
   refine VW.regl hT fun K hK => ?_
   simp only [wq, simprocAttr]
   refine hK _ ?_
   clear hK K
   try refine vthen_n ?_
   repeat refine VW.seq ?_
   refine VW.block ?_
   refine VW.loop (α := Nat) [(8, none), (10, none)] (fun i => [D, D, D, D, D, D, D, D, .v false (.int .i64) ((S : Nat)), D, .v false (.int .i64) ((2 ^ i : Nat)), D, D, D, D, D, D, D, D, D, D, D, D, D, D, D, D, D, D, D, D, D, D, D, D, D, D, D, D, D, D, D, D, D, D, D, D, D, D]) (fun i => i = 0 ∨ 2 ^ (i - 1) < S) (fun i => 2 * S - 2 ^ i) ⟨0, .inl rfl, ?_⟩ fun i hi => ?_
   ·simp only [wn, wq, simprocAttr]
    try rfl
   have h2i : i = 0 ∨ 2 ^ i ≤ 2 * S := by
    rcases hi with rfl | hi
    ·exact .inl rfl
    ·refine .inr ?_
     cases i with
     | zero => simp; omega
     | succ i =>
      simp only [Nat.add_sub_cancel] at hi
      rw [Nat.pow_succ]
      omega
   repeat refine VW.seq ?_
   refine VW.regl hT fun K hK => ?_
   simp only [wq, simprocAttr]
   refine hK _ ?_
   clear hK K
   try refine vthen_n ?_
   repeat refine VW.seq ?_
   refine VW.cond rfl (fun hc => ?_) (fun hc => ?_)
   ·have hlt : 2 ^ i < S := by
     have : ((2 ^ i : Nat) : Int) < (S : Int) := of_decide_eq_true hc
     omega
    have hps : 2 ^ (i + 1) = 2 ^ i * 2 := Nat.pow_succ ..
    have hpp := Nat.two_pow_pos i
    refine VW.skip (vthen_n ?_)
    repeat refine VW.seq ?_
    refine VW.block ?_
    repeat refine VW.seq ?_
    refine VW.regl hT fun K hK => ?_
    simp only [wq, simprocAttr]
    refine hK _ ?_
    clear hK K
    try refine vthen_n ?_
    refine ⟨i + 1, .inr (by simpa using hlt), ?_, by show 2 * S - 2 ^ (i + 1) < 2 * S - 2 ^ i; omega⟩
    simp only [wn, wq, simprocAttr]
    rw [hps]
    generalize 2 ^ i = P at *
    rw [wrap64 (by omega) (by omega)]
    rfl
   ·have hge : S ≤ 2 ^ i := by
     have : ¬ ((2 ^ i : Nat) : Int) < (S : Int) := of_decide_eq_false hc
     omega
    have hup : (S = 0 ∧ 2 ^ i = 1 ∧ up S = 0) ∨ (1 ≤ S ∧ up S = 2 ^ i) := by
     rcases Nat.eq_zero_or_pos S with h0 | h0
     ·subst h0
      rcases hi with rfl | hi
      ·exact .inl ⟨rfl, rfl, rfl⟩
      ·exact absurd hi (Nat.not_lt_zero _)
     ·exact .inr ⟨h0, up_eq h0 hge hi⟩
    have hP : 1 ≤ 2 ^ i ∧ 2 ^ i ≤ 2176782336 := by
     refine ⟨Nat.two_pow_pos i, ?_⟩
     rcases h2i with rfl | h
     ·decide
     ·omega
    refine VW.exit ?_
    show vthen _ _ _ .normal _
    refine vthen_n ?_
    generalize 2 ^ i = P at *
    have hmul : S * P ≤ 1088391168 * 2176782336 := Nat.mul_le_mul (by omega) hP.2
    have hmul2 : (S : Int) * (P : Int) = ((S * P : Nat) : Int) := by rw [Int.natCast_mul]
    repeat refine VW.seq ?_
    refine VW.regl hT fun K hK => ?_
    simp only [wq, simprocAttr]
    rw [hmul2, wrap64 (by omega) (by omega)]
    refine hK _ ?_
    clear hK K
    try refine vthen_n ?_
    refine VW.ret ⟨.inl rfl, _, rfl, ?_⟩
    show PV.v false (.int .i64) (if ((S * P : Nat) : Int) < (P : Int) then ((S * P : Nat) : Int) else (P : Int)) = _
    rcases hup with ⟨h1, h2, h3⟩ | ⟨h1, h2⟩
    ·subst h1
     rw [h3, Nat.zero_mul, if_pos (by omega)]
    ·have : 1 * P ≤ S * P := Nat.mul_le_mul h1 (Nat.le_refl P)
     rw [h2, if_neg (by omega)]
end Go.Proofs.YtoeblmcibheldaaGreatDoor.V.W
end
section
namespace Go.Proofs.YtoeblmcibheldaaGreatDoor.V.W
open Go Go.RowKit
/-- the sizes, from the greatest down to nothing -/
def sz : Nat → Nat
 | 0 => 0
 | m + 1 => 2 ^ m
def atP (t : List Nd) (s : List Int) (k size i : Nat) : Nat := pos t s k + atS t s k size i
theorem atS_step {t : List Nd} {s : List Int} (hs : sizesOk t s = true) {k : Nat} : ∀ m : Nat, atS t s k (sz (m + 1)) t.length = atS t s k (sz m) 1
 | m + 1 => atS_next hs m
 | 0 => by
  unfold atS
  congr 1
  refine List.filter_congr fun a ha => ?_
  obtain ⟨j, rfl, h1, h2, h3, h4⟩ := kids_pos (sizesOk_iff.1 hs).1 ha
  rw [decide_eq_decide, Int.toNat_natCast]
  simp only [sz]
  omega
theorem dS_step {t : List Nd} {s : List Int} (hs : sizesOk t s = true) {k : Nat} {A : Nat → Bool} (m : Nat) : bars t s (dS t s k A (sz (m + 1)) t.length) = bars t s (dS t s k A (sz m) 1) := by
 refine bars_same t s fun i h1 h2 h3 => ?_
 have h4 : (decide (sz (m + 1) < win t s i) || (win t s i == sz (m + 1) && decide (i < t.length))) = (decide (sz m < win t s i) || (win t s i == sz m && decide (i < 1))) := by
  rw [Bool.eq_iff_iff]
  simp only [Bool.or_eq_true, Bool.and_eq_true, decide_eq_true_eq, beq_iff_eq]
  cases m with
  | zero => simp only [sz]; omega
  | succ m =>
   have := pow_lt_half (e := m) (win_pow hs h1)
   simp only [sz]
   omega
 unfold dS
 rw [h4]
theorem dS_first {t : List Nd} {s : List Int} {k : Nat} {A : Nat → Bool} (h : ∀ j, j < t.length → win t s j ≤ 65536) : bars t s A = bars t s (dS t s k A (sz 17) 1) := by
 refine bars_same t s fun i h1 h2 h3 => ?_
 have h4 : (decide (sz 17 < win t s i) || (win t s i == sz 17 && decide (i < 1))) = false := by
  have := h i h1
  rw [show sz 17 = 65536 from rfl, Bool.eq_false_iff]
  simp only [ne_eq, Bool.or_eq_true, Bool.and_eq_true, decide_eq_true_eq, beq_iff_eq]
  omega
 unfold dS
 rw [h4, Bool.and_false, Bool.or_false]
theorem fuel_step {n k i f : Nat} (h : n - k ≤ f + 1) (h2 : k < i) (h3 : i < n) : n - i ≤ f := by omega
theorem half_sz (m : Nat) (h : sz (m + 1) ≤ 65536) : IntKind.i64.wrap (Int.tdiv ((sz (m + 1) : Nat) : Int) 2) = ((sz m : Nat) : Int) := by
 cases m with
 | zero => rfl
 | succ m =>
  have h0 : (2 ^ m : Nat) * 2 = 2 ^ (m + 1) := (Nat.pow_succ ..).symm
  show IntKind.i64.wrap (Int.tdiv ((2 ^ (m + 1) : Nat) : Int) 2) = ((2 ^ m : Nat) : Int)
  have h1 : Int.tdiv ((2 ^ (m + 1) : Nat) : Int) 2 = ((2 ^ m : Nat) : Int) := by
   rw [← h0, Int.natCast_mul]
   exact Int.mul_tdiv_cancel _ (by decide)
  rw [h1]
  have h2 : sz (m + 1 + 1) ≤ 65536 := h
  have h2 : 2 ^ (m + 1) ≤ 65536 := h2
  generalize (2 ^ m : Nat) = P at *
  exact wrap64 (by omega) (by omega)
set_option maxRecDepth 20000 in
theorem place_vx {t : List Nd} {s : List Int} (hs : sizesOk t s = true) (h65 : win t s 0 ≤ 65536) : ∀ (f k : Nat) (A : Nat → Bool), t.length - k ≤ f → k < t.length → (A k = true ∨ k = 0 ∨ win t s k = 0) →
  VX Tryz.prog 153 [.v false sNS t, .root (.val false) sBS .own (bars t s A), .v false (.int .i64) ((k : Nat))] 1 (fun pv ot => pv = nil0 ∧ ∃ bs : List (Int × Int), (∃ E : Nat → Bool, bs = bars t s E ∧ (∀ j, A j = true → E j = true) ∧ ∀ j, Bel t k j → win t s j ≠ 0 → E j = true) ∧ ot = .root (.val false) sBS .own bs)
 := by
 intro f
 induction f with
 | zero =>
  intro k A hf hk hA
  omega
 | succ f ih =>
  intro k A hf hk hA
  have hok := (sizesOk_iff.1 hs).1
  have htl := treeOk_len hok
  have hbl := bars_len t s A
  have hpb := fun j (h : j < t.length) => pos_bd hok s j j (Nat.le_refl _) h
  have hw65 : ∀ j, j < t.length → win t s j ≤ 65536 := fun j h => by have := hpb j h; omega
  have hpk := hpb k hk
  refine VX.of_rows hT Tryz.func153 rfl (by kernel_rfl) [] (by kernel_rfl) rfl rfl (by show 0 < (bars t s A).length; omega) fun l fi li e1 e2 => ?_
  obtain ⟨n, cp, rfl, rfl⟩ := io1 e1 e2
  show VW _ _ ([.v false sNS t, .root (.val false) sBS (.io n cp) (bars t s A), .v false (.int .i64) ((k : Nat)), D, D, D, D, D, D, D, D, D, D, D, D, D, D, D, D, D, D, D, D, D, D, D, D, D, D, D, D, D, D, D, D, D, D, D, D, D, D, D, D, D, D, D, D, D, D, D, D, D, D, D, D, D, D, D, D, D, D, D, D, D, D, D, D, D, D, D, D, D, D, D, D, D, D, D, D, D, D, D]) _
  have hbk : (bars t s A).getD k zb = ((win t s k : Int), (pos t s k : Int)) := by
   rw [bars_get _ _ _ hk]
   rcases hA with h | rfl | h
   ·rw [if_pos h]
   ·rw [pos_root]; simp
   ·rw [pos_zero h]; simp
  have hA0 : bars t s A = bars t s (dS t s k A (sz 17) 1) := dS_first hw65
  have hat0 : pos t s k = atP t s k (sz 17) 1 := by
   unfold atP
   rw [atS_first hok (m := sz 17) (fun j h => hw65 j h)]
   rfl
  have hatl : ∀ size i, atP t s k size i ≤ 2200000000 := fun size i => by
   have h1 := atS_le t s k size i
   have h2 := ksum_lim hs hk
   unfold atP
   omega
  repeat refine VW.seq ?_
  refine VW.regl hT fun K hK => ?_
  simp only [wq, simprocAttr]
  refine ⟨decide_eq_true ⟨Int.natCast_nonneg _, by show (k : Int) < ((bars t s A).length : Int); omega⟩, ?_⟩
  rw [hbk]
  refine hK _ ?_
  clear hK K
  try refine vthen_n ?_
  repeat refine VW.seq ?_
  refine VW.regl hT fun K hK => ?_
  simp only [wq, simprocAttr]
  refine hK _ ?_
  clear hK K
  try refine vthen_n ?_
  repeat refine VW.seq ?_
  refine VW.block ?_
  refine VW.loop (α := Nat) [(0, none), (1, none), (2, none), (6, none), (7, none)] (fun m => [.v false sNS t, .root (.val false) sBS (.io n cp) (bars t s (dS t s k A (sz m) 1)), .v false (.int .i64) ((k : Nat)), D, D, D, .v false (.int .i64) ((atP t s k (sz m) 1 : Nat)), .v false (.int .i64) ((sz m : Nat)), D, D, D, D, D, D, D, D, D, D, D, D, D, D, D, D, D, D, D, D, D, D, D, D, D, D, D, D, D, D, D, D, D, D, D, D, D, D, D, D, D, D, D, D, D, D, D, D, D, D, D, D, D, D, D, D, D, D, D, D, D, D, D, D, D, D, D, D, D, D, D, D, D, D]) (fun m => m ≤ 17) (fun m => m) ⟨17, by omega, ?_⟩ fun m hm1 => ?_
  ·simp only [wn, wq, simprocAttr]
   rw [hA0, hat0]
   rfl
  repeat refine VW.seq ?_
  refine VW.regl hT fun K hK => ?_
  simp only [wq, simprocAttr]
  refine hK _ ?_
  clear hK K
  try refine vthen_n ?_
  repeat refine VW.seq ?_
  refine VW.cond rfl (fun hc => ?_) (fun hc => ?_)
  ·obtain ⟨m, rfl⟩ : ∃ m', m = m' + 1 := by
    cases m with
    | zero =>
     have : ((sz 0 : Nat) : Int) > 0 := of_decide_eq_true hc
     exact absurd this (by decide)
    | succ m => exact ⟨m, rfl⟩
   have hsz : sz (m + 1) ≤ 65536 := Nat.pow_le_pow_right (n := 2) (by omega) (show m ≤ 16 by omega)
   have hS0 : 0 < sz (m + 1) := Nat.two_pow_pos m
   refine VW.skip (vthen_n ?_)
   repeat refine VW.seq ?_
   refine VW.block ?_
   repeat refine VW.seq ?_
   refine VW.regl hT fun K hK => ?_
   simp only [wq, simprocAttr]
   refine hK _ ?_
   clear hK K
   try refine vthen_n ?_
   repeat refine VW.seq ?_
   refine VW.block ?_
   refine VW.loop (α := Nat) [(0, none), (1, none), (2, none), (6, none), (7, none), (8, none)] (fun i => [.v false sNS t, .root (.val false) sBS (.io n cp) (bars t s (dS t s k A (sz (m + 1)) i)), .v false (.int .i64) ((k : Nat)), D, D, D, .v false (.int .i64) ((atP t s k (sz (m + 1)) i : Nat)), .v false (.int .i64) ((sz (m + 1) : Nat)), .v false (.int .i64) ((i : Nat)), D, D, D, D, D, D, D, D, D, D, D, D, D, D, D, D, D, D, D, D, D, D, D, D, D, D, D, D, D, D, D, D, D, D, D, D, D, D, D, D, D, D, D, D, D, D, D, D, D, D, D, D, D, D, D, D, D, D, D, D, D, D, D, D, D, D, D, D, D, D, D, D, D]) (fun i => 1 ≤ i ∧ i ≤ t.length) (fun i => t.length - i) ⟨1, ⟨by omega, by omega⟩, ?_⟩ fun i ⟨hi1, hi⟩ => ?_
   ·simp only [wn, wq, simprocAttr]
    try rfl
   repeat refine VW.seq ?_
   refine VW.regl hT fun K hK => ?_
   simp only [wq, simprocAttr]
   refine hK _ ?_
   clear hK K
   try refine vthen_n ?_
   repeat refine VW.seq ?_
   refine VW.cond rfl (fun hc => ?_) (fun hc => ?_)
   ·have hlt : i < t.length := by simpa using hc
    generalize hS : sz (m + 1) = S at *
    have hbe := bars_len t s (dS t s k A S i)
    have hbg := bars_get t s (dS t s k A S i) hlt zb
    have hidx : decide (0 ≤ (i : Int) ∧ (i : Int) < (t.length : Int)) = true := decide_eq_true ⟨Int.natCast_nonneg _, by omega⟩
    have hidb : decide (0 ≤ (i : Int) ∧ (i : Int) < ((bars t s (dS t s k A S i)).length : Int)) = true := decide_eq_true ⟨Int.natCast_nonneg _, by omega⟩
    have hl1 := hatl S i
    have hl2 := hatl S (i + 1)
    refine VW.skip (vthen_n ?_)
    repeat refine VW.seq ?_
    refine VW.block ?_
    apply cutl
    ·intro tail
     repeat refine VW.seq ?_
     refine VW.regl hT fun K hK => ?_
     simp only [wq, simprocAttr]
     refine ⟨hidx, ?_⟩
     refine vbr (fun g => ?_) (fun g => ?_) <;> simp only [wq, simprocAttr]
     case refine_2 =>
      have g : ((t.getD i z).1 == (k : Int)) = false := g
      have g : (t.getD i z).1 ≠ (k : Int) := by simpa using g
      refine hK _ ?_
      try refine vthen_n ?_
      refine VW.cond rfl (fun hc => by cases hc) (fun hc => ?_)
      refine VW.skip ?_
      show vthen _ _ _ .normal _
      refine vthen_n ?_
      refine VW.weak (weak_norm [(0, none), (1, none), (2, none), (6, none), (7, none), (8, none)] _) ?_
      simp only [wn, wq, simprocAttr]
      rw [dS_miss (.inl g), show atP t s k S i = atP t s k S (i + 1) by unfold atP; rw [atS_miss (.inl g)]]
      exact tail.h
     have g : ((t.getD i z).1 == (k : Int)) = true := g
     have g : (t.getD i z).1 = (k : Int) := by simpa using g
     refine ⟨hidb, ?_⟩
     rw [hbg]
     refine hK _ ?_
     try refine vthen_n ?_
     refine VW.cond rfl (fun hc => ?_) (fun hc => ?_)
     ·have hw : win t s i = S := by
       have : ((win t s i : Nat) : Int) = (S : Int) := by simpa using hc
       omega
      have hset : (bars t s (dS t s k A S i)).set i (((win t s i : Int), if dS t s k A S i i = true then (pos t s i : Int) else 0).1, ((atP t s k S i : Nat) : Int)) = bars t s (dS t s k A S (i + 1)) := by
       rw [← dS_hit g hw, ← bars_set t s _ hlt, pos_eq hok hi1 hlt (by omega) g, ← atS_befs, hw]
       rfl
      have hat : atP t s k S (i + 1) = atP t s k S i + S := by
       unfold atP
       rw [atS_hit hlt g hw]
       omega
      repeat refine VW.seq ?_
      refine VW.regl hT fun K hK => ?_
      simp only [wq, simprocAttr]
      refine ⟨hidb, ?_⟩
      rw [hbg, hset]
      refine hK _ ?_
      try refine vthen_n ?_
      repeat refine VW.seq ?_
      refine VW.regl hT fun K hK => ?_
      simp only [wq, simprocAttr]
      rw [wrap64 (by omega) (by omega), show ((atP t s k S i : Nat) : Int) + (S : Int) = ((atP t s k S (i + 1) : Nat) : Int) by omega]
      refine hK _ ?_
      try refine vthen_n ?_
      show vthen _ _ _ .normal _
      refine vthen_n ?_
      refine VW.weak (weak_norm [(0, none), (1, none), (2, none), (6, none), (7, none), (8, none)] _) ?_
      simp only [wn, wq, simprocAttr]
      exact tail.h
     ·have hw : win t s i ≠ S := by
       have : ¬ ((win t s i : Nat) : Int) = (S : Int) := by simpa using hc
       omega
      refine VW.skip ?_
      show vthen _ _ _ .normal _
      refine vthen_n ?_
      refine VW.weak (weak_norm [(0, none), (1, none), (2, none), (6, none), (7, none), (8, none)] _) ?_
      simp only [wn, wq, simprocAttr]
      rw [dS_miss (.inr hw), show atP t s k S i = atP t s k S (i + 1) by unfold atP; rw [atS_miss (.inr hw)]]
      exact tail.h
    ·repeat refine VW.seq ?_
     refine VW.regl hT fun K hK => ?_
     simp only [wq, simprocAttr]
     refine hK _ ?_
     clear hK K
     try refine vthen_n ?_
     refine ⟨i + 1, ⟨by omega, by omega⟩, ?_, by show t.length - (i + 1) < t.length - i; omega⟩
     simp only [wn, wq, simprocAttr]
     rw [wrap64 (by omega) (by omega)]
     rfl
   ·have hge : i = t.length := by
     have : t.length ≤ i := by simpa using hc
     omega
    subst hge
    refine VW.exit ?_
    show vthen _ _ _ .normal _
    refine vthen_n ?_
    repeat refine VW.seq ?_
    refine VW.regl hT fun K hK => ?_
    simp only [wq, simprocAttr]
    refine ⟨by decide, ?_⟩
    refine hK _ ?_
    clear hK K
    try refine vthen_n ?_
    refine ⟨m, by omega, ?_, by show m < m + 1; omega⟩
    simp only [wn, wq, simprocAttr]
    rw [half_sz m hsz, dS_step hs m, show atP t s k (sz (m + 1)) t.length = atP t s k (sz m) 1 by unfold atP; rw [atS_step hs m]]
  ·have hm0 : m = 0 := by
    cases m with
    | zero => rfl
    | succ m =>
     have : ¬ ((sz (m + 1) : Nat) : Int) > 0 := of_decide_eq_false hc
     have h1 := Nat.two_pow_pos m
     have h2 : ((sz (m + 1) : Nat) : Int) > 0 := by show ((2 ^ m : Nat) : Int) > 0; omega
     exact absurd h2 this
   subst hm0
   refine VW.exit ?_
   show vthen _ _ _ .normal _
   refine vthen_n ?_
   repeat refine VW.seq ?_
   refine VW.regl hT fun K hK => ?_
   simp only [wq, simprocAttr]
   refine hK _ ?_
   clear hK K
   try refine vthen_n ?_
   repeat refine VW.seq ?_
   refine VW.block ?_
   refine VW.loop (α := Nat × (Nat → Bool)) [(0, none), (1, none), (2, none), (9, none)] (fun p => [.v false sNS t, .root (.val false) sBS (.io n cp) (bars t s p.2), .v false (.int .i64) ((k : Nat)), D, D, D, D, D, D, .v false (.int .i64) ((p.1 : Nat)), D, D, D, D, D, D, D, D, D, D, D, D, D, D, D, D, D, D, D, D, D, D, D, D, D, D, D, D, D, D, D, D, D, D, D, D, D, D, D, D, D, D, D, D, D, D, D, D, D, D, D, D, D, D, D, D, D, D, D, D, D, D, D, D, D, D, D, D, D, D, D, D]) (fun p => 1 ≤ p.1 ∧ p.1 ≤ t.length ∧ (∀ j, A j = true → p.2 j = true) ∧ (∀ j, 1 ≤ j → j < t.length → (t.getD j z).1 = (k : Int) → win t s j ≠ 0 → p.2 j = true) ∧ ∀ c, 1 ≤ c → c < p.1 → (t.getD c z).1 = (k : Int) → ∀ j, Bel t c j → win t s j ≠ 0 → p.2 j = true) (fun p => t.length - p.1) ⟨(1, dS t s k A (sz 0) 1), ⟨by omega, by omega, fun j h => by show (A j || _) = true; rw [h]; rfl, fun j h1 h2 h3 h4 => ?_, fun c h1 h2 => by omega⟩, ?_⟩ fun ⟨i, E⟩ ⟨hi1, hi, hE1, hE2, hE3⟩ => ?_
   ·show dS t s k A (sz 0) 1 j = true
    unfold dS
    rw [h3, show decide (sz 0 < win t s j) = true from decide_eq_true (by simp only [sz]; omega)]
    simp
   ·simp only [wn, wq, simprocAttr]
    try rfl
   have hi1 : 1 ≤ i := hi1
   have hi : i ≤ t.length := hi
   have hE1 : ∀ j, A j = true → E j = true := hE1
   have hE2 : ∀ j, 1 ≤ j → j < t.length → (t.getD j z).1 = (k : Int) → win t s j ≠ 0 → E j = true := hE2
   have hE3 : ∀ c, 1 ≤ c → c < i → (t.getD c z).1 = (k : Int) → ∀ j, Bel t c j → win t s j ≠ 0 → E j = true := hE3
   repeat refine VW.seq ?_
   refine VW.regl hT fun K hK => ?_
   simp only [wq, simprocAttr]
   refine hK _ ?_
   clear hK K
   try refine vthen_n ?_
   repeat refine VW.seq ?_
   refine VW.cond rfl (fun hc => ?_) (fun hc => ?_)
   ·have hlt : i < t.length := by simpa using hc
    have hbe := bars_len t s E
    have hbg := bars_get t s E hlt zb
    have hidx : decide (0 ≤ (i : Int) ∧ (i : Int) < (t.length : Int)) = true := decide_eq_true ⟨Int.natCast_nonneg _, by omega⟩
    have hidb : decide (0 ≤ (i : Int) ∧ (i : Int) < ((bars t s E).length : Int)) = true := decide_eq_true ⟨Int.natCast_nonneg _, by omega⟩
    have hgo : ∀ H : Nat → Bool, (∀ j, E j = true → H j = true) → ((t.getD i z).1 = (k : Int) → ∀ j, Bel t i j → win t s j ≠ 0 → H j = true) → 1 ≤ i + 1 ∧ i + 1 ≤ t.length ∧ (∀ j, A j = true → H j = true) ∧ (∀ j, 1 ≤ j → j < t.length → (t.getD j z).1 = (k : Int) → win t s j ≠ 0 → H j = true) ∧ ∀ c, 1 ≤ c → c < i + 1 → (t.getD c z).1 = (k : Int) → ∀ j, Bel t c j → win t s j ≠ 0 → H j = true := fun H q1 q2 => by
     refine ⟨by omega, by omega, fun j h => q1 j (hE1 j h), fun j h1 h2 h3 h4 => q1 j (hE2 j h1 h2 h3 h4), fun c h1 h2 h3 j h4 h5 => ?_⟩
     rcases Nat.lt_or_ge c i with h6 | h6
     ·exact q1 j (hE3 c h1 h6 h3 j h4 h5)
     ·obtain rfl : c = i := by omega
      exact q2 h3 j h4 h5
    refine VW.skip (vthen_n ?_)
    repeat refine VW.seq ?_
    refine VW.block ?_
    apply cutl
    ·intro tail
     repeat refine VW.seq ?_
     refine VW.regl hT fun K hK => ?_
     simp only [wq, simprocAttr]
     refine ⟨hidx, ?_⟩
     refine vbr (fun g => ?_) (fun g => ?_) <;> simp only [wq, simprocAttr]
     case refine_2 =>
      have g : ((t.getD i z).1 == (k : Int)) = false := g
      have g : (t.getD i z).1 ≠ (k : Int) := by simpa using g
      refine hK _ ?_
      try refine vthen_n ?_
      refine VW.cond rfl (fun hc => by cases hc) (fun hc => ?_)
      refine VW.skip ?_
      show vthen _ _ _ .normal _
      refine vthen_n ?_
      refine VW.weak (weak_norm [(0, none), (1, none), (2, none), (9, none)] _) ?_
      simp only [wn, wq, simprocAttr]
      have hnew := hgo E (fun j h => h) (fun h => absurd h g)
      revert hnew
      exact tail.h
     have g : ((t.getD i z).1 == (k : Int)) = true := g
     have g : (t.getD i z).1 = (k : Int) := by simpa using g
     refine ⟨hidx, ?_⟩
     refine vbr (fun g2 => ?_) (fun g2 => ?_) <;> simp only [wq, simprocAttr]
     case refine_2 =>
      have g2 : ((t.getD i z).2.2 == 0) = false := g2
      have g2 : ¬ (t.getD i z).2.2 = 0 := by simpa using g2
      refine hK _ ?_
      try refine vthen_n ?_
      refine VW.cond rfl (fun hc => by cases hc) (fun hc => ?_)
      refine VW.skip ?_
      show vthen _ _ _ .normal _
      refine vthen_n ?_
      refine VW.weak (weak_norm [(0, none), (1, none), (2, none), (9, none)] _) ?_
      simp only [wn, wq, simprocAttr]
      have hnew := hgo E (fun j h => h) (fun _ j h _ => absurd (bel_bridge hok h) g2)
      revert hnew
      exact tail.h
     refine ⟨hidb, ?_⟩
     rw [hbg]
     refine hK _ ?_
     try refine vthen_n ?_
     refine VW.cond rfl (fun hc => ?_) (fun hc => ?_)
     ·have hw : win t s i ≠ 0 := by
       have : ((win t s i : Nat) : Int) > 0 := of_decide_eq_true hc
       omega
      have hn := tree_node hok hi1 hlt
      rw [g] at hn
      repeat refine VW.seq ?_
      refine VW.regl hT fun K hK => ?_
      simp only [wq, simprocAttr]
      refine vcall_io 1 ?_
      simp only [wq, simprocAttr]
      have hal := ih i E (fuel_step hf (Int.ofNat_lt.1 hn.2.1) hlt) hlt (.inl (hE2 i hi1 hlt g hw))
      have hrec := tagE (agg := false) (s := sBS) (fi := .io n cp) (f0 := .own) (x := bars t s E) (l := [Value.slice (some ⟨n, 0, none⟩) (bars t s E).length cp]) hal rfl rfl rfl (fun y hy => by
       obtain ⟨H, q1, _⟩ := hy
       show some [Value.slice (some ⟨n, 0, none⟩) (List.length y) cp] = some [Value.slice (some ⟨n, 0, none⟩) (List.length (bars t s E)) cp]
       rw [q1, bars_len, bars_len])
      refine vxcall_ex hrec ?_
      rintro pv ot ⟨rfl, bs, ⟨H, rfl, q1, q2⟩, rfl⟩
      simp only [wq, simprocAttr]
      refine hK _ ?_
      clear hK K
      try refine vthen_n ?_
      show vthen _ _ _ .normal _
      refine vthen_n ?_
      repeat refine VW.seq ?_
      refine VW.regl hT fun K hK => ?_
      simp only [wq, simprocAttr]
      refine hK _ ?_
      clear hK K
      try refine vthen_n ?_
      refine ⟨(i + 1, H), hgo H q1 (fun _ => q2), ?_, by show t.length - (i + 1) < t.length - i; omega⟩
      simp only [wn, wq, simprocAttr]
      rw [wrap64 (by omega) (by omega)]
      rfl
     ·have hw : win t s i = 0 := by
       have : ¬ ((win t s i : Nat) : Int) > 0 := of_decide_eq_false hc
       omega
      refine VW.skip ?_
      show vthen _ _ _ .normal _
      refine vthen_n ?_
      refine VW.weak (weak_norm [(0, none), (1, none), (2, none), (9, none)] _) ?_
      simp only [wn, wq, simprocAttr]
      have hnew := hgo E (fun j h => h) (fun _ j h h2 => absurd (bel_win hok s h) (by omega))
      revert hnew
      exact tail.h
    ·intro hnew
     repeat refine VW.seq ?_
     refine VW.regl hT fun K hK => ?_
     simp only [wq, simprocAttr]
     refine hK _ ?_
     clear hK K
     try refine vthen_n ?_
     refine ⟨(i + 1, E), hnew, ?_, by show t.length - (i + 1) < t.length - i; omega⟩
     simp only [wn, wq, simprocAttr]
     rw [wrap64 (by omega) (by omega)]
     rfl
   ·have hge : i = t.length := by
     have : t.length ≤ i := by simpa using hc
     omega
    refine VW.exit ?_
    refine ⟨.inr rfl, _, _, _, _, rfl, ⟨1, _, rfl⟩, ?_, rfl, _, ⟨E, rfl, hE1, fun j h hw => ?_⟩, rfl⟩
    ·show some [Value.slice (some ⟨n, 0, none⟩) (List.length (bars t s E)) cp] = some [Value.slice (some ⟨n, 0, none⟩) (List.length (bars t s A)) cp]
     rw [bars_len, bars_len]
    ·obtain ⟨c, h1, h2, h3, h4⟩ := bel_cases h
     rcases h4 with rfl | h4
     ·exact hE2 _ h1 h2 h3 hw
     ·exact hE3 c h1 (by omega) h3 j h4 hw
end Go.Proofs.YtoeblmcibheldaaGreatDoor.V.W
end
section
namespace Go.Proofs.YtoeblmcibheldaaGreatDoor.V.W
open Go Go.RowKit
/-- the windows fit -/
def fits (t : List Nd) (s : List Int) : Bool := sizesOk t s && decide (win t s 0 ≤ 65536)
/-- the first i windows, none laid down -/
def rowsTo (t : List Nd) (s : List Int) (i : Nat) : List (Int × Int) := (List.range i).map fun j => ((win t s j : Int), (0 : Int))
theorem rowsTo_succ (t : List Nd) (s : List Int) (i : Nat) : rowsTo t s (i + 1) = rowsTo t s i ++ [((win t s i : Int), (0 : Int))] := by
 unfold rowsTo
 rw [List.range_succ, List.map_append]
 rfl
theorem rowsTo_len (t : List Nd) (s : List Int) (i : Nat) : (rowsTo t s i).length = i := by simp [rowsTo]
theorem rowsTo_all (t : List Nd) (s : List Int) : rowsTo t s t.length = bars t s fun _ => false := by
 unfold rowsTo bars
 simp
abbrev rBars (b : Bool) (x : List (Int × Int)) : PV := .root (.tup [false, false]) (.pr sBS .bool) (.pr .own .fz) (x, b)
set_option maxRecDepth 20000 in
theorem allocate_vc (t : List Nd) (s : List Int) (hl : t.length ≤ 2000000) (hs : s.length ≤ 2000000) : VC Tryz.prog 125 [.v false sNS t, .v false sI s] (fun pv => if fits t s = true then pv = rBars true (allBars t s) else ∃ x, pv = rBars false x) := by
 refine VC.of_body hT Tryz.func125 rfl (by kernel_rfl) [(.tmp 4, false, sBS), (.tmp 5, false, .bool)] (by kernel_rfl) ?_
 show VW _ _ ([.v false sNS t, .v false sI s, D, D, D, D, D, D, D, D, D, D, D, D, D, D, D, D, D, D, D, D, D, D, D, D, D, D, D, D, D, D, D, D, D, D, D]) _
 repeat refine VW.seq ?_
 refine VW.regl hT fun K hK => ?_
 simp only [wq, simprocAttr]
 refine hK _ ?_
 clear hK K
 try refine vthen_n ?_
 repeat refine VW.seq ?_
 refine VW.regl hT fun K hK => ?_
 simp only [wq, simprocAttr]
 refine vcall_of (sizesOk_vc t s hl hs) ?_
 simp only [wq, simprocAttr]
 refine vbr (fun h => ?_) (fun h => ?_) <;> simp only [wq, simprocAttr]
 case refine_2 =>
  refine hK _ ?_
  clear hK K
  try refine vthen_n ?_
  repeat refine VW.seq ?_
  refine VW.cond rfl (fun hc => ?_) (fun hc => ?_)
  ·repeat refine VW.seq ?_
   refine VW.regl hT fun K hK => ?_
   simp only [wq, simprocAttr]
   refine hK _ ?_
   clear hK K
   try refine vthen_n ?_
   have h' : sizesOk t s = false := (Bool.not_eq_true' _).mp h
   refine VW.ret ⟨.inl rfl, _, rfl, ?_⟩
   rw [if_neg (by rw [fits, h', Bool.false_and]; decide)]
   exact ⟨_, rfl⟩
  ·cases hc
 have hok0 : sizesOk t s = true := by
  have := h
  rwa [Bool.not_eq_false'] at this
 have hok := (sizesOk_iff.1 hok0).1
 have htl := treeOk_len hok
 have hlim := win_lim hok0 (k := 0) (by omega)
 refine vcall_of (win_vc hok0 t.length 0 (by omega) (by omega)) ?_
 simp only [wq, simprocAttr]
 refine hK _ ?_
 clear hK K
 try refine vthen_n ?_
 repeat refine VW.seq ?_
 refine VW.cond rfl (fun hc => ?_) (fun hc => ?_)
 ·have hc : ((win t s 0 : Nat) : Int) > 65536 := of_decide_eq_true hc
  have hf : fits t s = false := by rw [fits, decide_eq_false (by omega), Bool.and_false]
  repeat refine VW.seq ?_
  refine VW.regl hT fun K hK => ?_
  simp only [wq, simprocAttr]
  refine hK _ ?_
  clear hK K
  try refine vthen_n ?_
  refine VW.ret ⟨.inl rfl, _, rfl, ?_⟩
  rw [if_neg (by rw [hf]; decide)]
  exact ⟨_, rfl⟩
 have hc : ¬ ((win t s 0 : Nat) : Int) > 65536 := of_decide_eq_false hc
 have hf : fits t s = true := by rw [fits, hok0, decide_eq_true (by omega)]; rfl
 refine VW.skip (vthen_n ?_)
 repeat refine VW.seq ?_
 refine VW.regl hT fun K hK => ?_
 simp only [wq, simprocAttr]
 refine hK _ ?_
 clear hK K
 try refine vthen_n ?_
 repeat refine VW.seq ?_
 refine VW.regl hT fun K hK => ?_
 simp only [wq, simprocAttr]
 refine hK _ ?_
 clear hK K
 try refine vthen_n ?_
 repeat refine VW.seq ?_
 refine VW.block ?_
 refine VW.loop (α := Nat) [(0, none), (1, none), (6, some (110, sBr)), (20, none), (21, none)] (fun i => [.v false sNS t, .v false sI s, D, D, D, D, .root (.val false) sBS .own (rowsTo t s i), D, D, D, D, D, D, D, D, D, D, D, D, D, .v false (.int .i64) ((t.length : Nat)), .v false (.int .i64) ((i : Nat)), D, D, D, D, D, D, D, D, D, D, D, D, D, D, D]) (fun i => i ≤ t.length) (fun i => t.length - i) ⟨0, by omega, ?_⟩ fun i hi => ?_
 ·simp only [wn, wq, simprocAttr]
  try rfl
 repeat refine VW.seq ?_
 refine VW.regl hT fun K hK => ?_
 simp only [wq, simprocAttr]
 refine hK _ ?_
 clear hK K
 try refine vthen_n ?_
 repeat refine VW.seq ?_
 refine VW.cond rfl (fun hc => ?_) (fun hc => ?_)
 ·have hlt : i < t.length := by simpa using hc
  have hrl := rowsTo_len t s i
  refine VW.skip (vthen_n ?_)
  repeat refine VW.seq ?_
  refine VW.block ?_
  repeat refine VW.seq ?_
  refine VW.regl hT fun K hK => ?_
  simp only [wq, simprocAttr]
  refine hK _ ?_
  clear hK K
  try refine vthen_n ?_
  repeat refine VW.seq ?_
  refine VW.regl hT fun K hK => ?_
  simp only [wq, simprocAttr]
  refine vcall_of (win_vc hok0 t.length i (by omega) (by omega)) ?_
  simp only [wq, simprocAttr]
  refine ⟨by simp [limOk, hrl]; omega, ?_⟩
  refine hK _ ?_
  clear hK K
  try refine vthen_n ?_
  repeat refine VW.seq ?_
  refine VW.regl hT fun K hK => ?_
  simp only [wq, simprocAttr]
  refine hK _ ?_
  clear hK K
  try refine vthen_n ?_
  refine ⟨i + 1, hlt, ?_, by show t.length - (i + 1) < t.length - i; omega⟩
  simp only [wn, wq, simprocAttr]
  rw [wrap64 (by omega) (by omega), rowsTo_succ]
  rfl
 ·have hge : i = t.length := by
   have : t.length ≤ i := by simpa using hc
   omega
  subst hge
  refine VW.exit ?_
  show vthen _ _ _ .normal _
  refine vthen_n ?_
  rw [rowsTo_all]
  repeat refine VW.seq ?_
  refine VW.regl hT fun K hK => ?_
  simp only [wq, simprocAttr]
  refine vcall_io 1 ?_
  simp only [wq, simprocAttr]
  refine vxcall_ex (alloc_vx hok0 t.length 0 (fun _ => false) (by omega) (by omega) (.inr (.inl rfl))) ?_
  rintro pv ot ⟨rfl, bs, ⟨E, rfl, q1, q2⟩, rfl⟩
  simp only [wq, simprocAttr]
  rw [bars_all hok q2]
  refine hK _ ?_
  clear hK K
  try refine vthen_n ?_
  repeat refine VW.seq ?_
  refine VW.regl hT fun K hK => ?_
  simp only [wq, simprocAttr]
  refine hK _ ?_
  clear hK K
  try refine vthen_n ?_
  refine VW.ret ⟨.inl rfl, _, rfl, ?_⟩
  rw [if_pos hf]
set_option maxRecDepth 20000 in
theorem specAllocate_vc (t : List Nd) (s : List Int) (hl : t.length ≤ 2000000) (hs : s.length ≤ 2000000) : VC Tryz.prog 118 [.v false sNS t, .v false sI s] (fun pv => if fits t s = true then pv = rBars true (allBars t s) else ∃ x, pv = rBars false x) := by
 refine VC.of_body hT Tryz.func118 rfl (by kernel_rfl) [(.tmp 4, false, sBS), (.tmp 5, false, .bool)] (by kernel_rfl) ?_
 show VW _ _ ([.v false sNS t, .v false sI s, D, D, D, D, D, D, D, D, D, D, D, D, D, D, D, D, D, D, D, D, D, D, D, D, D, D, D, D, D, D, D, D, D, D, D, D]) _
 repeat refine VW.seq ?_
 refine VW.regl hT fun K hK => ?_
 simp only [wq, simprocAttr]
 refine hK _ ?_
 clear hK K
 try refine vthen_n ?_
 repeat refine VW.seq ?_
 refine VW.regl hT fun K hK => ?_
 simp only [wq, simprocAttr]
 refine vcall_of (specSizes_vc t s hl hs) ?_
 simp only [wq, simprocAttr]
 refine vbr (fun h => ?_) (fun h => ?_) <;> simp only [wq, simprocAttr]
 case refine_2 =>
  refine hK _ ?_
  clear hK K
  try refine vthen_n ?_
  repeat refine VW.seq ?_
  refine VW.cond rfl (fun hc => ?_) (fun hc => ?_)
  ·repeat refine VW.seq ?_
   refine VW.regl hT fun K hK => ?_
   simp only [wq, simprocAttr]
   refine hK _ ?_
   clear hK K
   try refine vthen_n ?_
   have h' : sizesOk t s = false := (Bool.not_eq_true' _).mp h
   refine VW.ret ⟨.inl rfl, _, rfl, ?_⟩
   rw [if_neg (by rw [fits, h', Bool.false_and]; decide)]
   exact ⟨_, rfl⟩
  ·cases hc
 have hok0 : sizesOk t s = true := by
  have := h
  rwa [Bool.not_eq_false'] at this
 have hok := (sizesOk_iff.1 hok0).1
 have htl := treeOk_len hok
 have hlim := win_lim hok0 (k := 0) (by omega)
 refine vcall_of (swin_vc hok0 t.length 0 (by omega) (by omega)) ?_
 simp only [wq, simprocAttr]
 refine hK _ ?_
 clear hK K
 try refine vthen_n ?_
 repeat refine VW.seq ?_
 refine VW.cond rfl (fun hc => ?_) (fun hc => ?_)
 ·have hc : ((win t s 0 : Nat) : Int) > 65536 := of_decide_eq_true hc
  have hf : fits t s = false := by rw [fits, decide_eq_false (by omega), Bool.and_false]
  repeat refine VW.seq ?_
  refine VW.regl hT fun K hK => ?_
  simp only [wq, simprocAttr]
  refine hK _ ?_
  clear hK K
  try refine vthen_n ?_
  refine VW.ret ⟨.inl rfl, _, rfl, ?_⟩
  rw [if_neg (by rw [hf]; decide)]
  exact ⟨_, rfl⟩
 have hc : ¬ ((win t s 0 : Nat) : Int) > 65536 := of_decide_eq_false hc
 have hf : fits t s = true := by rw [fits, hok0, decide_eq_true (by omega)]; rfl
 refine VW.skip (vthen_n ?_)
 repeat refine VW.seq ?_
 refine VW.regl hT fun K hK => ?_
 simp only [wq, simprocAttr]
 refine hK _ ?_
 clear hK K
 try refine vthen_n ?_
 repeat refine VW.seq ?_
 refine VW.regl hT fun K hK => ?_
 simp only [wq, simprocAttr]
 refine hK _ ?_
 clear hK K
 try refine vthen_n ?_
 repeat refine VW.seq ?_
 refine VW.block ?_
 refine VW.loop (α := Nat) [(0, none), (1, none), (6, some (110, sBr)), (7, none)] (fun i => [.v false sNS t, .v false sI s, D, D, D, D, .root (.val false) sBS .own (rowsTo t s i), .v false (.int .i64) ((i : Nat)), D, D, D, D, D, D, D, D, D, D, D, D, D, D, D, D, D, D, D, D, D, D, D, D, D, D, D, D, D, D]) (fun i => i ≤ t.length) (fun i => t.length - i) ⟨0, by omega, ?_⟩ fun i hi => ?_
 ·simp only [wn, wq, simprocAttr]
  try rfl
 repeat refine VW.seq ?_
 refine VW.regl hT fun K hK => ?_
 simp only [wq, simprocAttr]
 refine hK _ ?_
 clear hK K
 try refine vthen_n ?_
 repeat refine VW.seq ?_
 refine VW.cond rfl (fun hc => ?_) (fun hc => ?_)
 ·have hlt : i < t.length := by simpa using hc
  have hrl := rowsTo_len t s i
  refine VW.skip (vthen_n ?_)
  repeat refine VW.seq ?_
  refine VW.block ?_
  repeat refine VW.seq ?_
  refine VW.regl hT fun K hK => ?_
  simp only [wq, simprocAttr]
  refine vcall_of (swin_vc hok0 t.length i (by omega) (by omega)) ?_
  simp only [wq, simprocAttr]
  refine ⟨by simp [limOk, hrl]; omega, ?_⟩
  refine hK _ ?_
  clear hK K
  try refine vthen_n ?_
  repeat refine VW.seq ?_
  refine VW.regl hT fun K hK => ?_
  simp only [wq, simprocAttr]
  refine hK _ ?_
  clear hK K
  try refine vthen_n ?_
  refine ⟨i + 1, hlt, ?_, by show t.length - (i + 1) < t.length - i; omega⟩
  simp only [wn, wq, simprocAttr]
  rw [wrap64 (by omega) (by omega), rowsTo_succ]
  rfl
 ·have hge : i = t.length := by
   have : t.length ≤ i := by simpa using hc
   omega
  subst hge
  refine VW.exit ?_
  show vthen _ _ _ .normal _
  refine vthen_n ?_
  rw [rowsTo_all]
  repeat refine VW.seq ?_
  refine VW.regl hT fun K hK => ?_
  simp only [wq, simprocAttr]
  refine vcall_io 1 ?_
  simp only [wq, simprocAttr]
  refine vxcall_ex (place_vx hok0 (by omega) t.length 0 (fun _ => false) (by omega) (by omega) (.inr (.inl rfl))) ?_
  rintro pv ot ⟨rfl, bs, ⟨E, rfl, q1, q2⟩, rfl⟩
  simp only [wq, simprocAttr]
  rw [bars_all hok q2]
  refine hK _ ?_
  clear hK K
  try refine vthen_n ?_
  repeat refine VW.seq ?_
  refine VW.regl hT fun K hK => ?_
  simp only [wq, simprocAttr]
  refine hK _ ?_
  clear hK K
  try refine vthen_n ?_
  refine VW.ret ⟨.inl rfl, _, rfl, ?_⟩
  rw [if_pos hf]
end Go.Proofs.YtoeblmcibheldaaGreatDoor.V.W
end
section
namespace Go.Proofs.YtoeblmcibheldaaGreatDoor.V
open Go Go.RowKit
section
variable {P : Program}
def ints (ys : List Int) : List Value := ys.map fun y => .int .i64 y
theorem ints_len (ys : List Int) : (ints ys).length = ys.length := by simp [ints]
theorem run_copyInts {w : World} {Z : Nat → Prop} {t e : TypeId} {ti : TypeInfo} {xs ys : List Int} {v src : Value} {B : Nat → Prop} {i ls : Nat} {A : Option Addr} {c : Nat} {ats : Array TypeId} {ty : TypeId} (hu : P.underlying t = some (.slice e)) (ha : ats[0]? = some t) (i1 : P.info? e = some ti) (i2 : ti.size = 1)
  (hR : Rep w Z (.sl e (.int .i64)) .own xs [v] B) (hv : v = .slice A xs.length c) (hi : i + ys.length ≤ xs.length) (hk : 1 ≤ ys.length) (hm : Nat.min ls (xs.length - i) = ys.length)
  (h1 : (Builtin.lenOf src).run P w = .ok ls w) (h2 : (Builtin.firstCells 1 ys.length src).run P w = .ok (ints ys).toArray w) :
  ∃ w', (Builtin.copy_ ats ty #[sliced A i xs.length c 1, src]).run P w = .ok (goInt ys.length) w' ∧ ExtF w w' B ∧ w'.heap.size = w.heap.size ∧ Rep w' Z (.sl e (.int .i64)) .own (xs.take i ++ ys ++ xs.drop (i + ys.length)) [v] B := by
 have hR : OwnR w e 1 (fun x c B' => Rep w Z (.int .i64) .own x c B') 0 xs [v] B := hR
 rcases hR with ⟨A', _, rfl⟩ | ⟨g, cap, cur, rows, Bs, hA, q2, q3, q4, q5, q6, q7, q8⟩
 ·have : ([] : List Int).length = 0 := rfl
  omega
 have hA : v = .slice (some ⟨g, 0, none⟩) xs.length cap := by simpa using hA
 rw [hv] at hA
 injection hA with a1 a2 a3
 subst a1; subst a3
 have hsz : cur.size = c := by omega
 let cs0 : List Value := ((cur.toList.drop i).take ys.length)
 have hcs0 : cs0.length = ys.length := by simp only [cs0, List.length_take, List.length_drop, Array.length_toList]; omega
 have hAt : At w (some ⟨g, i, none⟩) cs0 := by
  intro A' hA' j hj
  obtain rfl := Option.some.inj hA'
  rw [cell_at rfl q2 j]
  simp only [cs0]
  rw [List.getElem?_take_of_lt (by rw [hcs0] at hj; exact hj), List.getElem?_drop]
  simp
 obtain ⟨w', r1, r2, r3, r4, r5, r6, r7⟩ := run_storeAt (P := P) (n := ints ys) hAt (by rw [hcs0, ints_len]) (by rw [hcs0]; exact hk) q2 (fun u hu => by
  obtain ⟨y, _, rfl⟩ := List.mem_map.1 hu
  rfl)
 have hc' := r2.here _ _ _ q2
 refine ⟨w', ?_, ⟨r5, r6, r7, by omega, fun b hb hn => r2.other b (fun e => hn (by rw [e]; exact q6))⟩, r4, ?_⟩
 ·have hc9 : ¬ c = i := by omega
  have hsl : sliced (some ⟨g, 0, none⟩) i xs.length c 1 = .slice (some ⟨g, i, none⟩) (xs.length - i) (c - i) := by
   have ha : (⟨g, 0, none⟩ : Addr).add (i * 1) = ⟨g, i, none⟩ := by unfold Addr.add; split <;> simp_all
   unfold sliced
   rw [if_neg hc9, Option.map_some, ha]
  have hz : (sizeOf e).run P w = .ok 1 w := by rw [run_size i1, i2]
  rw [hsl]
  simp [Builtin.copy_, ha, run_underlying hu, h1, hm, hz, h2, r1]
 ·have hlen : (xs.take i ++ ys ++ xs.drop (i + ys.length)).length = xs.length := by simp only [List.length_append, List.length_take, List.length_drop]; omega
  show OwnR w' e 1 (fun x c B' => Rep w' Z (.int .i64) .own x c B') 0 (xs.take i ++ ys ++ xs.drop (i + ys.length)) [v] B
  refine .inr ⟨g, c, wrArr cur i (ints ys), fun j => [.int .i64 ((xs.take i ++ ys ++ xs.drop (i + ys.length)).getD j 0)], fun _ _ => False, by rw [hv, hlen], hc', by rw [hlen]; exact q3, q4, by rw [wrArr_size]; exact q5, q6, fun j hj => ⟨rfl, fun k hk2 => ?_, fun b hb => hb.elim, rfl⟩, fun _ _ _ _ _ _ h => h.elim⟩
  rw [hlen] at hj
  obtain rfl : k = 0 := by omega
  rw [Nat.mul_one, Nat.add_zero]
  have hold : ∀ m, m < xs.length → cur[m]? = some (.int .i64 (xs.getD m 0)) := fun m hm => by
   obtain ⟨p1, p2, p3, p4⟩ := q7 m hm
   have p4 : rows m = [.int .i64 (xs.getD m 0)] := p4
   have := p2 0 (by omega)
   rw [p4] at this
   simpa using this
  show (wrArr cur i (ints ys))[j]? = some (.int .i64 _)
  rw [List.append_assoc, List.getD_eq_getElem?_getD]
  rcases Nat.lt_or_ge j i with h | h
  ·rw [wrArr_out _ _ _ _ (.inl h), hold j hj, List.getElem?_append_left (by simp; omega), List.getElem?_take_of_lt h, ← List.getD_eq_getElem?_getD]
  ·rcases Nat.lt_or_ge j (i + ys.length) with h3 | h3
   ·obtain ⟨d, rfl⟩ : ∃ d, j = i + d := ⟨j - i, by omega⟩
    rw [wrArr_in _ _ _ _ (by rw [ints_len]; omega) (by rw [ints_len]; omega), List.getElem?_append_right (by simp; omega), List.getElem?_append_left (by simp; omega)]
    have e1 : i + d - (xs.take i).length = d := by simp; omega
    rw [e1]
    have hd : d < ys.length := by omega
    simp [ints, hd]
   ·rw [wrArr_out _ _ _ _ (.inr (by rw [ints_len]; exact h3)), hold j hj, List.getElem?_append_right (by simp; omega), List.getElem?_append_right (by simp; omega), List.getElem?_drop]
    have e1 : i + ys.length + (j - (xs.take i).length - ys.length) = j := by simp; omega
    rw [e1, ← List.getD_eq_getElem?_getD]
theorem run_loadInts {w : World} {ad : Addr} {ys : List Int} (h : ∀ j, j < ys.length → w.cell? (ad.add j) = some (.int .i64 (ys.getD j 0))) : (loadCells ad ys.length).run P w = .ok (ints ys).toArray w := by
 have := run_loadCells_list (P := P) w ad (ints ys) (fun j v hv => by
  have hj : j < ys.length := by
   have := (List.getElem?_eq_some_iff.1 hv).1
   rwa [ints_len] at this
  rw [h j hj, ← hv]
  simp [ints, hj])
 rw [ints_len] at this
 exact this
/-- a row of frozen numbers, its head read -/
theorem run_headFz {w : World} {Z : Nat → Prop} {e : TypeId} {ys : List Int} {v : Value} {k : Nat} (hk : 1 ≤ k) (hkl : k ≤ ys.length) (h : Rep w Z (.sl e (.int .i64)) .fz ys [v] (fun _ => False)) : (Builtin.lenOf v).run P w = .ok ys.length w ∧ (Builtin.firstCells 1 k v).run P w = .ok (ints (ys.take k)).toArray w := by
 obtain ⟨A, c, h1, h2, h3, h4⟩ := (h : FzR w Z 1 (fun x c => Rep w Z (.int .i64) .fz x c (fun _ => False)) 0 ys [v])
 obtain ⟨ad, rfl, e2, e3⟩ := h4 (by omega)
 obtain rfl : v = .slice (some ad) ys.length c := by simpa using h1
 have hl : (ys.take k).length = k := by simp; omega
 refine ⟨by simp [Builtin.lenOf], ?_⟩
 have := run_loadInts (P := P) (w := w) (ad := ad) (ys := ys.take k) (fun j hj => by
  rw [hl] at hj
  obtain ⟨c', q1, q2, q3⟩ := e3 j (by omega)
  have q3 : c' = [.int .i64 (ys.getD j 0)] := q3
  have q2 : w.cell? (ad.add (j * 1 + 0)) = c'[0]? := q2 0 (Nat.lt_succ_self 0)
  rw [q3, Nat.mul_one, Nat.add_zero] at q2
  rw [q2, List.getD_eq_getElem?_getD, List.getD_eq_getElem?_getD, List.getElem?_take_of_lt hj]
  rfl)
 rw [hl] at this
 simp [Builtin.firstCells, this]
/-- a row of one's own, its head read -/
theorem run_headOwn {w : World} {Z : Nat → Prop} {e : TypeId} {xs : List Int} {v : Value} {B : Nat → Prop} {i k : Nat} {A : Option Addr} {c : Nat} (hk : 1 ≤ k) (hki : k ≤ i) (hi : i < xs.length) (h : Rep w Z (.sl e (.int .i64)) .own xs [v] B) (hv : v = .slice A xs.length c) : (Builtin.lenOf (sliced A 0 i c 1)).run P w = .ok i w ∧ (Builtin.firstCells 1 k (sliced A 0 i c 1)).run P w = .ok (ints (xs.take k)).toArray w := by
 have h : OwnR w e 1 (fun x c B' => Rep w Z (.int .i64) .own x c B') 0 xs [v] B := h
 rcases h with ⟨A', _, rfl⟩ | ⟨g, cap, cur, rows, Bs, hA, q2, q3, q4, q5, q6, q7, q8⟩
 ·have : ([] : List Int).length = 0 := rfl
  omega
 have hA : v = .slice (some ⟨g, 0, none⟩) xs.length cap := by simpa using hA
 rw [hv] at hA
 injection hA with a1 a2 a3
 subst a1; subst a3
 have hsl : sliced (some ⟨g, 0, none⟩) 0 i c 1 = .slice (some ⟨g, 0, none⟩) i c := by
  unfold sliced
  rw [if_neg (by omega)]
  simp [Addr.add]
 have hl : (xs.take k).length = k := by simp; omega
 rw [hsl]
 refine ⟨by simp [Builtin.lenOf], ?_⟩
 have := run_loadInts (P := P) (w := w) (ad := ⟨g, 0, none⟩) (ys := xs.take k) (fun j hj => by
  rw [hl] at hj
  obtain ⟨p1, p2, p3, p4⟩ := q7 j (by omega)
  have p4 : rows j = [.int .i64 (xs.getD j 0)] := p4
  have p2 := p2 0 (by omega)
  rw [p4, Nat.mul_one, Nat.add_zero] at p2
  rw [cell_at rfl q2 j]
  show cur[0 + j]? = _
  rw [Nat.zero_add, p2, List.getD_eq_getElem?_getD, List.getD_eq_getElem?_getD, List.getElem?_take_of_lt hj]
  rfl)
 rw [hl] at this
 simp [Builtin.firstCells, this]
theorem own_whole {w : World} {Z : Nat → Prop} {e : TypeId} {xs : List Int} {v : Value} {B : Nat → Prop} {A : Option Addr} {c : Nat} (h0 : 0 < xs.length) (h : Rep w Z (.sl e (.int .i64)) .own xs [v] B) (hv : v = .slice A xs.length c) : sliced A 0 xs.length c 1 = .slice A xs.length c := by
 have h : OwnR w e 1 (fun x c B' => Rep w Z (.int .i64) .own x c B') 0 xs [v] B := h
 rcases h with ⟨A', _, rfl⟩ | ⟨g, cap, cur, rows, Bs, hA, q2, q3, q4, q5, q6, q7, q8⟩
 ·have : ([] : List Int).length = 0 := rfl
  omega
 have hA : v = .slice (some ⟨g, 0, none⟩) xs.length cap := by simpa using hA
 rw [hv] at hA
 injection hA with a1 a2 a3
 subst a1; subst a3
 unfold sliced
 rw [if_neg (by omega)]
 simp [Addr.add]
end
end Go.Proofs.YtoeblmcibheldaaGreatDoor.V
end
section
namespace Go.Proofs.YtoeblmcibheldaaGreatDoor.V
open Go Go.RowKit
section
variable {P : Program} {T : List (Nat × TI)}
abbrev D0 : PV := .dead
/-- the state of slices.Repeat's loop -/
def rst (e : TypeId) (xs : List Int) (i : Int) : St := [D0, D0, D0, D0, D0, D0, D0, .root (.val false) (.sl e (.int .i64)) .own xs, .v false (.int .i64) i, D0, D0, D0, D0, D0, D0, D0, D0, D0, D0, D0, D0, D0, D0, D0, D0, D0, D0, D0, D0, D0, D0, D0, D0, D0, D0, D0, D0, D0, D0, D0, D0, D0, D0, D0, D0, D0, D0, D0]
def rst0 (e : TypeId) (ys xs : List Int) : St := [.v false (.sl e (.int .i64)) ys, D0, D0, D0, D0, D0, D0, .root (.val false) (.sl e (.int .i64)) .own xs, D0, D0, D0, D0, D0, D0, D0, D0, D0, D0, D0, D0, D0, D0, D0, D0, D0, D0, D0, D0, D0, D0, D0, D0, D0, D0, D0, D0, D0, D0, D0, D0, D0, D0, D0, D0, D0, D0, D0, D0]
def lst : Nat → Array Bool
 | 0 => Array.replicate 10 false
 | i + 1 => (lst i).setIfInBounds i true
def takeB (ops : Array Oper) (i : Nat) : Bool := Region.free .any ops (lst i) i && (Region.ready .any ops (lst i)).contains i
def repOk (ops : Array Oper) : Bool := Region.noSelect ops && (takeB ops 0 && takeB ops 1 && takeB ops 2 && takeB ops 3 && takeB ops 4 && takeB ops 5 && takeB ops 6 && takeB ops 8 && takeB ops 9) && (Region.ready .any ops (lst 7) == [7]) && (Region.ready .any ops (lst 10) == [])
theorem ev_put {a : Act} {d t : Nat} {v : Value} (h : d < a.tmps.size) : (a.put (some d) v).eval (.tmp t) = if t = d then v else a.eval (.tmp t) := getD_put h
theorem sz_put {a : Act} {d : Nat} {v : Value} : (a.put (some d) v).tmps.size = a.tmps.size := Array.size_setIfInBounds ..
theorem wanted_none {ops : Array Oper} {o : Oper} {a : Act} (h : o.guard = none) : Region.wanted o (yielded ops a.tmps) = true := by unfold Region.wanted; rw [h]
theorem take_step {ops : Array Oper} {Q : Exit → Act → World → Prop} (hQ : ∀ c a w, ¬ Q (.panic c) a w) {i : Nat} {o : Oper} {d : Tmp} {v : Value} {fuel : Nat} {a : Act} {w : World} (ho : ops[i]? = some o) (hs : Region.noSelect ops = true) (ht : takeB ops i = true) (hd : o.dst = some d) (hg : o.guard = none)
  (hy : ∀ w, (execOp a.eval o).run P w = .ok (.value v) w) (h : wpAny P .any ops Q fuel (lst (i + 1)) (a.put (some d) v) w) : wpAny P .any ops Q (fuel + 1) (lst i) a w := by
 simp only [takeB, Bool.and_eq_true] at ht
 refine wpAny_take ho hs ht.1 ht.2 (fun c a w hq => absurd hq (hQ _ _ _)) (.inl ⟨wanted_none hg, hy⟩) ?_
 rw [hd]
 exact h
set_option maxRecDepth 20000 in
set_option maxHeartbeats 1000000 in
theorem VW.rep9 (hT : TabOk P T) (hm : P.follows .mixedOrders = true) {rid : Nat} {o0 o1 o2 o3 o4 o5 o6 o7 o8 o9 : Oper} {t t3 e : TypeId} {bb nf : Nat} {fs : List (Bool × Sh)} {cm : Bool} {ats : Array TypeId} {xs : List Int} {i : Nat} {Q : Exit → St → Prop}
  (ht : tget T t = some ⟨.sl e (.int .i64), false, bb, nf, fs, cm⟩) (hok : repOk #[o0, o1, o2, o3, o4, o5, o6, o7, o8, o9] = true)
  (e0 : o0.op = .move (.tmp 8)) (d0 : o0.dst = some 38) (q0 : o0.guard = none) (e1 : o1.op = .move (.tmp 7)) (d1 : o1.dst = some 39) (q1 : o1.guard = none)
  (e2 : o2.op = .move (.tmp 8)) (d2 : o2.dst = some 40) (q2 : o2.guard = none) (e3 : o3.op = .slice t (.tmp 39) (some (.tmp 40)) none none) (d3 : o3.dst = some 41) (q3 : o3.guard = none)
  (e4 : o4.op = .move (.tmp 7)) (d4 : o4.dst = some 42) (q4 : o4.guard = none) (e5 : o5.op = .move (.tmp 8)) (d5 : o5.dst = some 43) (q5 : o5.guard = none)
  (e6 : o6.op = .slice t (.tmp 42) none (some (.tmp 43)) none) (d6 : o6.dst = some 44) (q6 : o6.guard = none)
  (e7 : o7.op = .call ⟨.builtin .copy, #[.tmp 41, .tmp 44], ats⟩) (e7' : ats = #[t, t]) (d7 : o7.dst = some 45) (q7 : o7.guard = none)
  (e8 : o8.op = .binOp .add t3 (.tmp 38) (.tmp 45) t3) (d8 : o8.dst = some 46) (q8 : o8.guard = none) (e9 : o9.op = .assign (.tmp 46)) (d9 : o9.dst = some 8) (q9 : o9.guard = none)
  (p1 : ∀ (xs : List Int) (i : Int), V.put (rst e xs i) 7 [] (.sl e (.int .i64)) .junk xs hitS = some ((rst e xs i).set 7 (.root (.val false) (.sl e (.int .i64)) .junk xs)))
  (p2 : ∀ (xs ys : List Int) (i : Int), V.put ((rst e xs i).set 7 (.root (.val false) (.sl e (.int .i64)) .junk xs)) 7 [] (.sl e (.int .i64)) .own ys hitS = some (rst e ys i))
  (hl : xs.length ≤ 2000000) (hi0 : 1 ≤ i) (hi : i < xs.length) (hQ : ∀ xs' : List Int, xs'.length = xs.length → Q .normal (rst e xs' ((i + Nat.min i (xs.length - i) : Nat) : Int))) : VW P (.region rid #[o0, o1, o2, o3, o4, o5, o6, o7, o8, o9] true) (rst e xs i) Q := by
 intro L a w0 hr0
 obtain ⟨hu, ti, z, i1, i2, i3, i4, hpos⟩ := (hT t _ ht).sl e (.int .i64) rfl rfl
 have i2 : ti.size = 1 := i2
 refine wp_mono (Q := fun e a' w' => match e with | .normal => ∃ L' st', Stp L L' w0 w' ∧ Rel L' st' a' w' Free ∧ Q .normal st' | _ => False) ?_ (fun e a' w' hq => ?_)
 case refine_2 =>
  cases e with
  | normal => exact hq
  | _ => exact hq.elim
 refine wp_region_any hm ?_
 have hx : Ext w0 { w0 with drawn := w0.drawn + 1 } := Ext.drew w0
 have hr := hr0.grow hx
 have hst := Stp.ext (L := L) hx
 generalize hw : ({ w0 with drawn := w0.drawn + 1 } : World) = w at hr hst ⊢
 clear hw hx
 have hg : (rst e xs i).at 7 = .root (.val false) (.sl e (.int .i64)) .own xs := rfl
 obtain ⟨rt1, B0, rt2, rt3, rt4⟩ := hr.root hg
 have hC : L.C 7 = [a.tmps.getD 7 undef] := by simpa [mkV] using rt1.1
 rw [hC] at rt4
 obtain ⟨A, c, hval, hcap, _⟩ := OwnR.take rt4
 have hcap : xs.length ≤ c := hcap
 have hsz : a.tmps.size = 48 := hr.size
 have E7 : a.eval (.tmp 7) = .slice A xs.length c := hval
 have E8 : a.eval (.tmp 8) = .int .i64 (i : Int) := by
  have := hr.orep (t := 8) (by rfl)
  exact this.int
 simp only [repOk, Bool.and_eq_true, beq_iff_eq] at hok
 obtain ⟨⟨⟨hs, ⟨⟨⟨⟨⟨⟨⟨⟨k0, k1⟩, k2⟩, k3⟩, k4⟩, k5⟩, k6⟩, k8⟩, k9⟩⟩, k7⟩, k10⟩ := hok
 have hz : ∀ w, (sizeOf e).run P w = .ok 1 w := fun w => by rw [run_size i1, i2]
 show wpAny P .any _ _ 10 (lst 0) a w
 refine take_step (fun _ _ _ h => h) (i := 0) (o := o0) (v := .int .i64 (i : Int)) rfl hs k0 d0 q0 (fun w => by simp [execOp, e0, ev_put, sz_put, hsz, E7, E8]) ?_
 refine take_step (fun _ _ _ h => h) (i := 1) (o := o1) (v := .slice A xs.length c) rfl hs k1 d1 q1 (fun w => by simp [execOp, e1, ev_put, sz_put, hsz, E7, E8]) ?_
 refine take_step (fun _ _ _ h => h) (i := 2) (o := o2) (v := .int .i64 (i : Int)) rfl hs k2 d2 q2 (fun w => by simp [execOp, e2, ev_put, sz_put, hsz, E7, E8]) ?_
 refine take_step (fun _ _ _ h => h) (i := 3) (o := o3) (v := sliced A i xs.length c 1) rfl hs k3 d3 q3 (fun w => by simp [execOp, e3, ev_put, sz_put, hsz, E7, E8, run_slice_gen (P := P) hu hz A xs.length c (some (.int .i64 (i : Int))) none i xs.length (.inr ⟨_, rfl⟩) (.inl ⟨rfl, rfl⟩) (Nat.le_of_lt hi) hcap]) ?_
 refine take_step (fun _ _ _ h => h) (i := 4) (o := o4) (v := .slice A xs.length c) rfl hs k4 d4 q4 (fun w => by simp [execOp, e4, ev_put, sz_put, hsz, E7, E8]) ?_
 refine take_step (fun _ _ _ h => h) (i := 5) (o := o5) (v := .int .i64 (i : Int)) rfl hs k5 d5 q5 (fun w => by simp [execOp, e5, ev_put, sz_put, hsz, E7, E8]) ?_
 refine take_step (fun _ _ _ h => h) (i := 6) (o := o6) (v := sliced A 0 i c 1) rfl hs k6 d6 q6 (fun w => by simp [execOp, e6, ev_put, sz_put, hsz, E7, E8, run_slice_gen (P := P) hu hz A xs.length c none (some (.int .i64 (i : Int))) 0 i (.inl ⟨rfl, rfl⟩) (.inr ⟨_, rfl⟩) (Nat.zero_le _) (by omega)]) ?_
 have r0 := hr.setO (d := 38) (v := .int .i64 (i : Int)) rfl (pv := .dead) rfl trivial
 have r1 := r0.setO (d := 39) (v := .slice A xs.length c) rfl (pv := .dead) rfl trivial
 have r2 := r1.setO (d := 40) (v := .int .i64 (i : Int)) rfl (pv := .dead) rfl trivial
 have r3 := r2.setO (d := 41) (v := sliced A i xs.length c 1) rfl (pv := .dead) rfl trivial
 have r4 := r3.setO (d := 42) (v := .slice A xs.length c) rfl (pv := .dead) rfl trivial
 have r5 := r4.setO (d := 43) (v := .int .i64 (i : Int)) rfl (pv := .dead) rfl trivial
 have r6 := r5.setO (d := 44) (v := sliced A 0 i c 1) rfl (pv := .dead) rfl trivial
 have sz6 : (((((((a.put (some 38) (.int .i64 (i : Int))).put (some 39) (.slice A xs.length c)).put (some 40) (.int .i64 (i : Int))).put (some 41) (sliced A i xs.length c 1)).put (some 42) (.slice A xs.length c)).put (some 43) (.int .i64 (i : Int))).put (some 44) (sliced A 0 i c 1)).tmps.size = 48 := by simp [sz_put, hsz]
 have v38 : (((((((a.put (some 38) (.int .i64 (i : Int))).put (some 39) (.slice A xs.length c)).put (some 40) (.int .i64 (i : Int))).put (some 41) (sliced A i xs.length c 1)).put (some 42) (.slice A xs.length c)).put (some 43) (.int .i64 (i : Int))).put (some 44) (sliced A 0 i c 1)).eval (.tmp 38) = .int .i64 (i : Int) := by simp [ev_put, sz_put, hsz]
 have v41 : (((((((a.put (some 38) (.int .i64 (i : Int))).put (some 39) (.slice A xs.length c)).put (some 40) (.int .i64 (i : Int))).put (some 41) (sliced A i xs.length c 1)).put (some 42) (.slice A xs.length c)).put (some 43) (.int .i64 (i : Int))).put (some 44) (sliced A 0 i c 1)).eval (.tmp 41) = sliced A i xs.length c 1 := by simp [ev_put, sz_put, hsz]
 have v44 : (((((((a.put (some 38) (.int .i64 (i : Int))).put (some 39) (.slice A xs.length c)).put (some 40) (.int .i64 (i : Int))).put (some 41) (sliced A i xs.length c 1)).put (some 42) (.slice A xs.length c)).put (some 43) (.int .i64 (i : Int))).put (some 44) (sliced A 0 i c 1)).eval (.tmp 44) = sliced A 0 i c 1 := by simp [ev_put, sz_put, hsz]
 generalize (((((((a.put (some 38) (.int .i64 (i : Int))).put (some 39) (.slice A xs.length c)).put (some 40) (.int .i64 (i : Int))).put (some 41) (sliced A i xs.length c 1)).put (some 42) (.slice A xs.length c)).put (some 43) (.int .i64 (i : Int))).put (some 44) (sliced A 0 i c 1)) = a6 at r6 sz6 v38 v41 v44 ⊢
 clear r0 r1 r2 r3 r4 r5
 generalize hk : Nat.min i (xs.length - i) = k at hQ
 have hk1 : 1 ≤ k ∧ k ≤ i ∧ i + k ≤ xs.length := by
  have : k = min i (xs.length - i) := hk.symm
  omega
 have hyl : (xs.take k).length = k := by simp; omega
 have go : ∀ B : Nat → Prop, Rep w L.Z (.sl e (.int .i64)) .own xs [a.tmps.getD 7 undef] B → ∃ w', (Builtin.copy_ #[t, t] o7.type #[sliced A i xs.length c 1, sliced A 0 i c 1]).run P w = .ok (goInt k) w' ∧ ExtF w w' B ∧ w'.heap.size = w.heap.size ∧ Rep w' L.Z (.sl e (.int .i64)) .own (xs.take i ++ xs.take k ++ xs.drop (i + k)) [a.tmps.getD 7 undef] B := fun B hB => by
  obtain ⟨g1, g2⟩ := run_headOwn (P := P) hk1.1 hk1.2.1 hi hB hval
  have := run_copyInts (P := P) (ats := #[t, t]) (ty := o7.type) (ys := xs.take k) (i := i) hu rfl i1 i2 hB hval (by rw [hyl]; omega) (by rw [hyl]; omega) (by rw [hyl]; exact hk) g1 (by rw [hyl]; exact g2)
  rw [hyl] at this
  exact this
 obtain ⟨w1, c1, c2, c3, c4⟩ := go B0 rt4
 have x7 : (execOp a6.eval o7).run P w = .ok (.value (goInt k)) w1 := by
  subst e7'
  have hb : ∀ cs u v, builtin .copy #[t, t] o7.type cs #[u, v] = (do pure (.value (← Builtin.copy_ #[t, t] o7.type #[u, v]))) := fun cs u v => rfl
  simp [execOp, e7, resolve, invoke, v41, v44, hb, c1]
 refine wpAny_all (rs := [7]) k7 (by simp) (fun j hj => ?_)
 obtain rfl : j = 7 := by simpa using hj
 unfold wpOp
 show (if Region.wanted o7 _ then o7.wp P a6 w _ _ ∨ _ else _)
 rw [wanted_none q7, if_pos rfl]
 refine .inl ?_
 unfold Oper.wp
 rw [x7, Oper.upon_value, d7]
 have r6 : Rel L (rst e xs i) a6 w Free := r6
 obtain ⟨L', s1, r7⟩ := r6.turn hg (p1 _ _) (p2 _ (xs.take i ++ xs.take k ++ xs.drop (i + k)) _) (w' := w1) fun B hB hBF => by
  rw [hC] at hB ⊢
  obtain ⟨w2, y1, y2, y3, y4⟩ := go B hB
  rw [c1] at y1
  obtain rfl : w1 = w2 := by injection y1
  exact ⟨y2, y4⟩
 have r8 := r7.setO (d := 45) (v := goInt k) rfl (pv := .dead) rfl trivial
 have sz7 : (a6.put (some 45) (goInt k)).tmps.size = 48 := by simp [sz_put, sz6]
 have u38 : (a6.put (some 45) (goInt k)).eval (.tmp 38) = .int .i64 (i : Int) := by simp [ev_put, sz6, v38]
 have u45 : (a6.put (some 45) (goInt k)).eval (.tmp 45) = .int .i64 (k : Int) := by simp [ev_put, sz6]; rfl
 generalize a6.put (some 45) (goInt k) = a7 at r8 sz7 u38 u45 ⊢
 have x8 : ∀ W : World, (execOp a7.eval o8).run P W = .ok (.value (.int .i64 ((i + k : Nat) : Int))) W := fun W => by
  have hg : (eqGuard .add t3 (.tmp 38) (.tmp 45) (.int .i64 (i : Int)) (.int .i64 (k : Int))).run P W = .ok () W := by unfold eqGuard; simp
  have hw : IntKind.i64.wrap ((i : Int) + (k : Int)) = ((i + k : Nat) : Int) := by rw [wrap64 (by omega) (by omega)]; omega
  simp [execOp, e8, u38, u45, hg, binOp, Op.intArith, hw]
 refine take_step (fun _ _ _ h => h) (i := 8) (o := o8) (v := .int .i64 ((i + k : Nat) : Int)) rfl hs k8 d8 q8 x8 ?_
 refine take_step (fun _ _ _ h => h) (i := 9) (o := o9) (v := .int .i64 ((i + k : Nat) : Int)) rfl hs k9 d9 q9 (fun W => by simp [execOp, e9, ev_put, sz7]) ?_
 have r9 := r8.setO (d := 46) (v := .int .i64 ((i + k : Nat) : Int)) rfl (pv := .dead) rfl trivial
 have r10 := r9.setO (d := 8) (v := .int .i64 ((i + k : Nat) : Int)) rfl (pv := .v false (.int .i64) ((i + k : Nat) : Int)) rfl ⟨[_], rfl, rfl⟩
 refine wpAny_done k10 ?_ _
 exact ⟨L', _, hst.trans s1, r10, hQ _ (by simp only [List.length_append, List.length_take, List.length_drop]; omega)⟩
set_option maxRecDepth 20000 in
theorem VW.rep7 (hT : TabOk P T) {rid : Nat} {o0 o1 o2 o3 : Oper} {t e : TypeId} {bb nf : Nat} {fs : List (Bool × Sh)} {cm : Bool} {ats : Array TypeId} {xs ys : List Int} {Q : Exit → St → Prop}
  (ht : tget T t = some ⟨.sl e (.int .i64), false, bb, nf, fs, cm⟩)
  (e0 : o0.op = .move (.tmp 7)) (d0 : o0.dst = some 31) (q0 : o0.guard = none) (e1 : o1.op = .move (.tmp 0)) (d1 : o1.dst = some 32) (q1 : o1.guard = none)
  (e2 : o2.op = .call ⟨.builtin .copy, #[.tmp 31, .tmp 32], ats⟩) (e2' : ats = #[t, t]) (d2 : o2.dst = some 33) (q2 : o2.guard = none) (e3 : o3.op = .assign (.tmp 33)) (d3 : o3.dst = some 8) (q3 : o3.guard = none)
  (p1 : ∀ (ys xs : List Int), V.put (rst0 e ys xs) 7 [] (.sl e (.int .i64)) .junk xs hitS = some ((rst0 e ys xs).set 7 (.root (.val false) (.sl e (.int .i64)) .junk xs)))
  (p2 : ∀ (zs xs ys : List Int), V.put ((rst0 e zs xs).set 7 (.root (.val false) (.sl e (.int .i64)) .junk xs)) 7 [] (.sl e (.int .i64)) .own ys hitS = some (rst0 e zs ys))
  (hl : xs.length ≤ 2000000) (h1 : 1 ≤ ys.length) (h2 : ys.length ≤ xs.length) (hQ : ∀ xs' : List Int, xs'.length = xs.length → Q .normal ((rst0 e ys xs').set 8 (.v false (.int .i64) (ys.length : Int)))) : VW P (.region rid #[o0, o1, o2, o3] false) (rst0 e ys xs) Q := by
 intro L a w hr
 obtain ⟨hu, ti, z, i1, i2, i3, i4, hpos⟩ := (hT t _ ht).sl e (.int .i64) rfl rfl
 have i2 : ti.size = 1 := i2
 have hg : (rst0 e ys xs).at 7 = .root (.val false) (.sl e (.int .i64)) .own xs := rfl
 obtain ⟨rt1, B0, rt2, rt3, rt4⟩ := hr.root hg
 have hC : L.C 7 = [a.tmps.getD 7 undef] := by simpa [mkV] using rt1.1
 rw [hC] at rt4
 obtain ⟨A, c, hval, hcap, _⟩ := OwnR.take rt4
 have hcap : xs.length ≤ c := hcap
 have hsz : a.tmps.size = 48 := hr.size
 have E7 : a.eval (.tmp 7) = .slice A xs.length c := hval
 obtain ⟨cs, hmk, hfz⟩ := (hr.orep (t := 0) (by rfl) : ORep L _ w (.v false (.sl e (.int .i64)) ys) _)
 have hcs : cs = [a.tmps.getD 0 undef] := by simpa [mkV] using hmk
 subst hcs
 refine wp_region ?_
 show wpOps P #[o0, o1, o2, o3] _ [0, 1, 2, 3] a w
 refine wpOps_step (o := o0) rfl q0 ?_
 have x0 : (execOp a.eval o0).run P w = .ok (.value (.slice A xs.length c)) w := by simp [execOp, e0, E7]
 unfold Oper.wp
 rw [x0, Oper.upon_value, d0]
 refine wpOps_step (o := o1) rfl q1 ?_
 have x1 : (execOp (a.put (some 31) (.slice A xs.length c)).eval o1).run P w = .ok (.value (a.eval (.tmp 0))) w := by simp [execOp, e1, ev_put, hsz]
 unfold Oper.wp
 rw [x1, Oper.upon_value, d1]
 have r0 := hr.setO (d := 31) (v := .slice A xs.length c) rfl (pv := .dead) rfl trivial
 have r1 := r0.setO (d := 32) (v := a.eval (.tmp 0)) rfl (pv := .dead) rfl trivial
 have sz2 : ((a.put (some 31) (.slice A xs.length c)).put (some 32) (a.eval (.tmp 0))).tmps.size = 48 := by simp [sz_put, hsz]
 have v31 : ((a.put (some 31) (.slice A xs.length c)).put (some 32) (a.eval (.tmp 0))).eval (.tmp 31) = .slice A xs.length c := by simp [ev_put, sz_put, hsz]
 have v32 : ((a.put (some 31) (.slice A xs.length c)).put (some 32) (a.eval (.tmp 0))).eval (.tmp 32) = a.eval (.tmp 0) := by simp [ev_put, sz_put, hsz]
 have r1 : Rel L (rst0 e ys xs) ((a.put (some 31) (.slice A xs.length c)).put (some 32) (a.eval (.tmp 0))) w Free := r1
 generalize ((a.put (some 31) (.slice A xs.length c)).put (some 32) (a.eval (.tmp 0))) = a2 at r1 sz2 v31 v32 ⊢
 have go : ∀ B : Nat → Prop, Rep w L.Z (.sl e (.int .i64)) .own xs [a.tmps.getD 7 undef] B → ∃ w', (Builtin.copy_ #[t, t] o2.type #[.slice A xs.length c, a.eval (.tmp 0)]).run P w = .ok (goInt ys.length) w' ∧ ExtF w w' B ∧ w'.heap.size = w.heap.size ∧ Rep w' L.Z (.sl e (.int .i64)) .own (xs.take 0 ++ ys ++ xs.drop (0 + ys.length)) [a.tmps.getD 7 undef] B := fun B hB => by
  obtain ⟨g1, g2⟩ := run_headFz (P := P) (k := ys.length) h1 (Nat.le_refl _) hfz
  rw [List.take_length] at g2
  have := run_copyInts (P := P) (ats := #[t, t]) (ty := o2.type) (ys := ys) (i := 0) hu rfl i1 i2 hB hval (by omega) h1 (by show min ys.length (xs.length - 0) = ys.length; omega) g1 g2
  rw [own_whole (by omega) hB hval] at this
  exact this
 obtain ⟨w1, c1, c2, c3, c4⟩ := go B0 rt4
 have x2 : (execOp a2.eval o2).run P w = .ok (.value (goInt ys.length)) w1 := by
  subst e2'
  have hb : ∀ cs u v, builtin .copy #[t, t] o2.type cs #[u, v] = (do pure (.value (← Builtin.copy_ #[t, t] o2.type #[u, v]))) := fun cs u v => rfl
  simp [execOp, e2, resolve, invoke, v31, v32, hb, c1]
 refine wpOps_step (o := o2) rfl q2 ?_
 unfold Oper.wp
 rw [x2, Oper.upon_value, d2]
 obtain ⟨L', s1, r7⟩ := r1.turn hg (p1 _ _) (p2 _ _ (xs.take 0 ++ ys ++ xs.drop (0 + ys.length))) (w' := w1) fun B hB hBF => by
  rw [hC] at hB ⊢
  obtain ⟨w2, y1, y2, y3, y4⟩ := go B hB
  rw [c1] at y1
  obtain rfl : w1 = w2 := by injection y1
  exact ⟨y2, y4⟩
 have r8 := r7.setO (d := 33) (v := goInt ys.length) rfl (pv := .dead) rfl trivial
 refine wpOps_step (o := o3) rfl q3 ?_
 have x3 : (execOp (a2.put (some 33) (goInt ys.length)).eval o3).run P w1 = .ok (.value (goInt ys.length)) w1 := by simp [execOp, e3, ev_put, sz2]
 unfold Oper.wp
 rw [x3, Oper.upon_value, d3]
 have r10 := r8.setO (d := 8) (v := goInt ys.length) rfl (pv := .v false (.int .i64) (ys.length : Int)) rfl ⟨[_], rfl, rfl⟩
 exact ⟨L', _, s1, r10, hQ _ (by simp only [List.length_append, List.length_take, List.length_drop]; omega)⟩
end
end Go.Proofs.YtoeblmcibheldaaGreatDoor.V
end
section
namespace Go.Proofs.YtoeblmcibheldaaGreatDoor.V.W
open Go Go.RowKit
def mu (x y : Int) : Int := IntKind.u64.wrap (x * y)
def midOf (x y : Int) : Int := ad (mu (shr x 32) (an y 4294967295)) (shr (mu (an x 4294967295) (an y 4294967295)) 32)
def hiOf (x y : Int) : Int := ad (ad (mu (shr x 32) (shr y 32)) (shr (midOf x y) 32)) (shr (ad (an (midOf x y) 4294967295) (mu (an x 4294967295) (shr y 32))) 32)
theorem mul_small : ((List.range 13).all fun n => hiOf 1 (n : Int) == 0 && mu 1 (n : Int) == (n : Int)) = true := by kernel_rfl
abbrev sU : Sh := .int .u64
set_option maxRecDepth 20000 in
theorem mul64_vc (x y : Int) : VC Tryz.prog 214 [.v false sU x, .v false sU y] (· = .root (.tup [false, false]) (.pr sU sU) (.pr .fz .fz) (hiOf x y, mu x y)) := by
 refine VC.of_body hT Tryz.func214 rfl (by kernel_rfl) [(.tmp 4, false, .int .u64), (.tmp 5, false, .int .u64)] (by kernel_rfl) ?_
 show VW _ _ ([.v false (.int .u64) x, .v false (.int .u64) y, D, D, D, D, D, D, D, D, D, D, D, D, D, D, D, D, D, D, D, D, D, D, D, D, D, D, D, D, D, D, D, D, D, D, D, D, D, D, D, D, D, D, D, D, D, D, D, D, D]) _
 repeat refine VW.seq ?_
 refine VW.regl hT fun K hK => ?_
 simp only [wq, Nat.reduceMul, reduceCtorEq, Nat.reduceBEq, Nat.reduceAdd, Nat.reduceLT, Nat.reduceLeDiff, Nat.reduceSub, Nat.reduceEqDiff]
 refine hK _ ?_
 clear hK K
 try refine vthen_n ?_
 repeat refine VW.seq ?_
 refine VW.regl hT fun K hK => ?_
 simp only [wq, Nat.reduceMul, reduceCtorEq, Nat.reduceBEq, Nat.reduceAdd, Nat.reduceLT, Nat.reduceLeDiff, Nat.reduceSub, Nat.reduceEqDiff]
 refine hK _ ?_
 clear hK K
 try refine vthen_n ?_
 repeat refine VW.seq ?_
 refine VW.regl hT fun K hK => ?_
 simp only [wq, Nat.reduceMul, reduceCtorEq, Nat.reduceBEq, Nat.reduceAdd, Nat.reduceLT, Nat.reduceLeDiff, Nat.reduceSub, Nat.reduceEqDiff]
 refine ⟨by decide, ?_⟩
 refine hK _ ?_
 clear hK K
 try refine vthen_n ?_
 repeat refine VW.seq ?_
 refine VW.regl hT fun K hK => ?_
 simp only [wq, Nat.reduceMul, reduceCtorEq, Nat.reduceBEq, Nat.reduceAdd, Nat.reduceLT, Nat.reduceLeDiff, Nat.reduceSub, Nat.reduceEqDiff]
 refine hK _ ?_
 clear hK K
 try refine vthen_n ?_
 repeat refine VW.seq ?_
 refine VW.regl hT fun K hK => ?_
 simp only [wq, Nat.reduceMul, reduceCtorEq, Nat.reduceBEq, Nat.reduceAdd, Nat.reduceLT, Nat.reduceLeDiff, Nat.reduceSub, Nat.reduceEqDiff]
 refine ⟨by decide, ?_⟩
 refine hK _ ?_
 clear hK K
 try refine vthen_n ?_
 repeat refine VW.seq ?_
 refine VW.regl hT fun K hK => ?_
 simp only [wq, Nat.reduceMul, reduceCtorEq, Nat.reduceBEq, Nat.reduceAdd, Nat.reduceLT, Nat.reduceLeDiff, Nat.reduceSub, Nat.reduceEqDiff]
 refine hK _ ?_
 clear hK K
 try refine vthen_n ?_
 repeat refine VW.seq ?_
 refine VW.regl hT fun K hK => ?_
 simp only [wq, Nat.reduceMul, reduceCtorEq, Nat.reduceBEq, Nat.reduceAdd, Nat.reduceLT, Nat.reduceLeDiff, Nat.reduceSub, Nat.reduceEqDiff]
 refine ⟨by decide, ?_⟩
 refine hK _ ?_
 clear hK K
 try refine vthen_n ?_
 repeat refine VW.seq ?_
 refine VW.regl hT fun K hK => ?_
 simp only [wq, Nat.reduceMul, reduceCtorEq, Nat.reduceBEq, Nat.reduceAdd, Nat.reduceLT, Nat.reduceLeDiff, Nat.reduceSub, Nat.reduceEqDiff]
 refine hK _ ?_
 clear hK K
 try refine vthen_n ?_
 repeat refine VW.seq ?_
 refine VW.regl hT fun K hK => ?_
 simp only [wq, Nat.reduceMul, reduceCtorEq, Nat.reduceBEq, Nat.reduceAdd, Nat.reduceLT, Nat.reduceLeDiff, Nat.reduceSub, Nat.reduceEqDiff]
 refine ⟨by decide, ?_⟩
 refine hK _ ?_
 clear hK K
 try refine vthen_n ?_
 repeat refine VW.seq ?_
 refine VW.regl hT fun K hK => ?_
 simp only [wq, Nat.reduceMul, reduceCtorEq, Nat.reduceBEq, Nat.reduceAdd, Nat.reduceLT, Nat.reduceLeDiff, Nat.reduceSub, Nat.reduceEqDiff]
 refine hK _ ?_
 clear hK K
 try refine vthen_n ?_
 repeat refine VW.seq ?_
 refine VW.regl hT fun K hK => ?_
 simp only [wq, Nat.reduceMul, reduceCtorEq, Nat.reduceBEq, Nat.reduceAdd, Nat.reduceLT, Nat.reduceLeDiff, Nat.reduceSub, Nat.reduceEqDiff]
 refine ⟨by decide, ?_⟩
 refine hK _ ?_
 clear hK K
 try refine vthen_n ?_
 repeat refine VW.seq ?_
 refine VW.regl hT fun K hK => ?_
 simp only [wq, Nat.reduceMul, reduceCtorEq, Nat.reduceBEq, Nat.reduceAdd, Nat.reduceLT, Nat.reduceLeDiff, Nat.reduceSub, Nat.reduceEqDiff]
 refine hK _ ?_
 clear hK K
 try refine vthen_n ?_
 exact VW.ret ⟨.inl rfl, _, rfl, rfl⟩
set_option maxRecDepth 20000 in
theorem mul_vc (n : Nat) (hn : n ≤ 12) : VC Tryz.prog 182 [.v false sU 1, .v false sU (n : Int)] (· = .root (.tup [false, false]) (.pr sU sU) (.pr .fz .fz) (0, (n : Int))) := by
 have hs := List.all_eq_true.1 mul_small n (List.mem_range.2 (by omega))
 simp only [Bool.and_eq_true, beq_iff_eq] at hs
 refine VC.of_body hT Tryz.func182 rfl (by kernel_rfl) [(.tmp 4, false, .int .u64), (.tmp 5, false, .int .u64)] (by kernel_rfl) ?_
 show VW _ _ ([.v false (.int .u64) 1, .v false (.int .u64) (n : Int), D, D, D, D, D, D, D, D, D, D, D, D, D, D, D, D, D, D, D, D, D, D, D, D, D, D, D, D]) _
 repeat refine VW.seq ?_
 refine VW.regl hT fun K hK => ?_
 simp only [wq, simprocAttr]
 refine hK _ ?_
 clear hK K
 try refine vthen_n ?_
 repeat refine VW.seq ?_
 refine VW.cond rfl (fun hc => ?_) (fun hc => ?_)
 ·cases hc
 refine VW.skip (vthen_n ?_)
 repeat refine VW.seq ?_
 refine VW.regl hT fun K hK => ?_
 simp only [wq, simprocAttr]
 refine vcall_of (mul64_vc _ _) ?_
 rw [hs.1, hs.2]
 simp only [wq, simprocAttr]
 refine hK _ ?_
 clear hK K
 try refine vthen_n ?_
 repeat refine VW.seq ?_
 refine VW.regl hT fun K hK => ?_
 simp only [wq, simprocAttr]
 refine hK _ ?_
 clear hK K
 try refine vthen_n ?_
 exact VW.ret ⟨.inl rfl, _, rfl, rfl⟩
abbrev rI (xs : List Int) : PV := .root (.val false) sI .own xs
set_option maxRecDepth 20000 in
theorem repeat_vc (n : Nat) (h1 : 1 ≤ n) (hn : n ≤ 12) : VC Tryz.prog 158 [.v false sI [-1], .v false (.int .i64) ((n : Nat))] (fun pv => ∃ xs : List Int, xs.length = n ∧ pv = rI xs) := by
 refine VC.of_body hT Tryz.func158 rfl (by kernel_rfl) [(.tmp 4, false, sI)] (by kernel_rfl) ?_
 show VW _ _ ([.v false sI [-1], .v false (.int .i64) ((n : Nat)), D, D, D, D, D, D, D, D, D, D, D, D, D, D, D, D, D, D, D, D, D, D, D, D, D, D, D, D, D, D, D, D, D, D, D, D, D, D, D, D, D, D, D, D, D, D]) _
 repeat refine VW.seq ?_
 refine VW.regl hT fun K hK => ?_
 simp only [wq, Nat.reduceMul, reduceCtorEq, Nat.reduceBEq, Nat.reduceAdd, Nat.reduceLT, Nat.reduceLeDiff, Nat.reduceSub, Nat.reduceEqDiff]
 refine hK _ ?_
 clear hK K
 try refine vthen_n ?_
 repeat refine VW.seq ?_
 refine VW.regl hT fun K hK => ?_
 simp only [wq, Nat.reduceMul, reduceCtorEq, Nat.reduceBEq, Nat.reduceAdd, Nat.reduceLT, Nat.reduceLeDiff, Nat.reduceSub, Nat.reduceEqDiff]
 refine hK _ ?_
 clear hK K
 try refine vthen_n ?_
 repeat refine VW.seq ?_
 refine VW.cond rfl (fun hc => ?_) (fun hc => ?_)
 ·have hc : (n : Int) < 0 := of_decide_eq_true hc
  omega
 refine VW.skip (vthen_n ?_)
 repeat refine VW.seq ?_
 refine VW.regl hT fun K hK => ?_
 simp only [wq, Nat.reduceMul, reduceCtorEq, Nat.reduceBEq, Nat.reduceAdd, Nat.reduceLT, Nat.reduceLeDiff, Nat.reduceSub, Nat.reduceEqDiff]
 have hw1 : IntKind.u64.wrap ((1 : Nat) : Int) = 1 := by decide
 have hwn : IntKind.u64.wrap (n : Int) = n := by simp [IntKind.wrap, IntKind.bits, IntKind.signed]; omega
 rw [hwn, show IntKind.u64.wrap _ = 1 from hw1]
 refine vcall_of (mul_vc n hn) ?_
 simp only [wq, Nat.reduceMul, reduceCtorEq, Nat.reduceBEq, Nat.reduceAdd, Nat.reduceLT, Nat.reduceLeDiff, Nat.reduceSub, Nat.reduceEqDiff]
 refine hK _ ?_
 clear hK K
 try refine vthen_n ?_
 repeat refine VW.seq ?_
 refine VW.regl hT fun K hK => ?_
 simp only [wq, Nat.reduceMul, reduceCtorEq, Nat.reduceBEq, Nat.reduceAdd, Nat.reduceLT, Nat.reduceLeDiff, Nat.reduceSub, Nat.reduceEqDiff]
 refine vbr (fun h => ?_) (fun h => ?_) <;> simp only [wq, Nat.reduceMul, reduceCtorEq, Nat.reduceBEq, Nat.reduceAdd, Nat.reduceLT, Nat.reduceLeDiff, Nat.reduceSub, Nat.reduceEqDiff]
 case refine_2 =>
  exact absurd h (by decide)
 refine hK _ ?_
 clear hK K
 try refine vthen_n ?_
 repeat refine VW.seq ?_
 refine VW.cond rfl (fun hc => ?_) (fun hc => ?_)
 ·have hc : (n : Int) > 9223372036854775807 := of_decide_eq_true hc
  omega
 refine VW.skip (vthen_n ?_)
 repeat refine VW.seq ?_
 refine VW.regl hT fun K hK => ?_
 simp only [wq, Nat.reduceMul, reduceCtorEq, Nat.reduceBEq, Nat.reduceAdd, Nat.reduceLT, Nat.reduceLeDiff, Nat.reduceSub, Nat.reduceEqDiff]
 rw [wrap64 (by omega) (by omega), Int.toNat_natCast]
 refine ⟨by simp [limOk]; omega, ?_⟩
 refine hK _ ?_
 clear hK K
 try refine vthen_n ?_
 refine VW.weak (weak_norm [(0, none), (7, none)] _) ?_
 simp only [wn, wq, Nat.reduceMul, reduceCtorEq, Nat.reduceBEq, Nat.reduceAdd, Nat.reduceLT, Nat.reduceLeDiff, Nat.reduceSub, Nat.reduceEqDiff]
 show VW _ _ (rst0 3 [-1] (List.replicate n 0)) _
 repeat refine VW.seq ?_
 refine VW.rep7 hT (t := 25) rfl rfl rfl rfl rfl rfl rfl rfl rfl rfl rfl rfl rfl rfl (fun _ _ => rfl) (fun _ _ _ => rfl) (by simp; omega) (by simp) (by simp; omega) (fun xs hxs => ?_)
 have hxs : xs.length = n := by simpa using hxs
 show vthen _ _ _ .normal _
 refine vthen_n ?_
 refine VW.weak (weak_norm [(7, none), (8, none)] _) ?_
 show VW _ _ [D, D, D, D, D, D, D, rI xs, .v false (.int .i64) ((1 : Nat)), D, D, D, D, D, D, D, D, D, D, D, D, D, D, D, D, D, D, D, D, D, D, D, D, D, D, D, D, D, D, D, D, D, D, D, D, D, D, D] _
 repeat refine VW.seq ?_
 refine VW.block ?_
 refine VW.loop (α := Nat × List Int) [(7, none), (8, none)] (fun p => [D, D, D, D, D, D, D, rI p.2, .v false (.int .i64) ((p.1 : Nat)), D, D, D, D, D, D, D, D, D, D, D, D, D, D, D, D, D, D, D, D, D, D, D, D, D, D, D, D, D, D, D, D, D, D, D, D, D, D, D]) (fun p => 1 ≤ p.1 ∧ p.1 ≤ n ∧ p.2.length = n) (fun p => n - p.1) ⟨(1, xs), ⟨by omega, h1, hxs⟩, ?_⟩ fun ⟨i, ys⟩ ⟨hi0, hi, hys⟩ => ?_
 ·simp only [wn, wq, Nat.reduceMul, reduceCtorEq, Nat.reduceBEq, Nat.reduceAdd, Nat.reduceLT, Nat.reduceLeDiff, Nat.reduceSub, Nat.reduceEqDiff]
 have hi0 : 1 ≤ i := hi0
 have hi : i ≤ n := hi
 have hys : ys.length = n := hys
 repeat refine VW.seq ?_
 refine VW.regl hT fun K hK => ?_
 simp only [wq, Nat.reduceMul, reduceCtorEq, Nat.reduceBEq, Nat.reduceAdd, Nat.reduceLT, Nat.reduceLeDiff, Nat.reduceSub, Nat.reduceEqDiff]
 refine hK _ ?_
 clear hK K
 try refine vthen_n ?_
 repeat refine VW.seq ?_
 refine VW.cond rfl (fun hc => ?_) (fun hc => ?_)
 ·have hlt : i < n := by
   have : (i : Int) < (ys.length : Int) := of_decide_eq_true hc
   omega
  refine VW.skip (vthen_n ?_)
  repeat refine VW.seq ?_
  refine VW.block ?_
  refine VW.weak (weak_norm [(7, none), (8, none)] _) ?_
  simp only [wn, wq, Nat.reduceMul, reduceCtorEq, Nat.reduceBEq, Nat.reduceAdd, Nat.reduceLT, Nat.reduceLeDiff, Nat.reduceSub, Nat.reduceEqDiff]
  show VW _ _ (rst 3 ys ((i : Nat) : Int)) _
  refine VW.rep9 hT hm (t := 25) (t3 := 3) rfl (by kernel_rfl) rfl rfl rfl rfl rfl rfl rfl rfl rfl rfl rfl rfl rfl rfl rfl rfl rfl rfl rfl rfl rfl rfl rfl rfl rfl rfl rfl rfl rfl rfl rfl (fun _ _ => rfl) (fun _ _ _ => rfl) (by omega) hi0 (by omega) (fun zs hzs => ?_)
  have hk : Nat.min i (ys.length - i) = min i (n - i) := by rw [hys]
  rw [hk]
  refine ⟨(i + min i (n - i), zs), ⟨by show 1 ≤ i + min i (n - i); omega, by show i + min i (n - i) ≤ n; omega, by show zs.length = n; omega⟩, ?_, by show n - (i + min i (n - i)) < n - i; omega⟩
  rfl
 ·have hge : i = n := by
   have : ¬ (i : Int) < (ys.length : Int) := of_decide_eq_false hc
   omega
  refine VW.exit ?_
  show vthen _ _ _ .normal _
  refine vthen_n ?_
  repeat refine VW.seq ?_
  refine VW.regl hT fun K hK => ?_
  simp only [wq, Nat.reduceMul, reduceCtorEq, Nat.reduceBEq, Nat.reduceAdd, Nat.reduceLT, Nat.reduceLeDiff, Nat.reduceSub, Nat.reduceEqDiff]
  refine hK _ ?_
  clear hK K
  try refine vthen_n ?_
  exact VW.ret ⟨.inl rfl, _, rfl, ys, hys, rfl⟩
end Go.Proofs.YtoeblmcibheldaaGreatDoor.V.W
end
section
namespace Go.Proofs.YtoeblmcibheldaaGreatDoor.V.W
open Go Go.RowKit
abbrev sI3 : Sh := .pr sI (.pr sI sI)
abbrev sNum : Sh := .pr sNS (.pr sI3 (.int .i64))
abbrev bNum : RK := .box 184
abbrev fNum (r : Fl) : Fl := .pr .fz (.pr (.pr .own (.pr .own .own)) r)
abbrev I3 := List Int × List Int × List Int
def Len3 (n : Nat) (x : I3) : Prop := x.1.length = n ∧ x.2.1.length = n ∧ x.2.2.length = n
def visR (t : List Nd) (u : Nat) (pv ot : PV) : Prop := ∃ (m : Int) (x : I3) (r : Fl), Len3 t.length x ∧ pv = .v false (.int .i64) (m) ∧ ot = .root bNum sNum (fNum r) (t, x, (u : Int))
set_option maxRecDepth 20000 in
set_option maxHeartbeats 2000000 in
theorem visit_vx {t : List Nd} (hok : treeOk t = true) : ∀ (f k : Nat), t.length - k ≤ f → k < t.length → ∀ (x : I3) (u : Nat) (bus : Int) (r : Fl), Len3 t.length x → u + subs t k ≤ 1000 →
  VX Tryz.prog 159 [.root bNum sNum (fNum r) (t, x, (u : Int)), .v false (.int .i64) ((k : Nat)), .v false (.int .i64) (bus)] 0 (visR t (u + subs t k)) := by
 have htl := treeOk_len hok
 intro f
 induction f with
 | zero =>
  intro k hf hk
  omega
 | succ f ih =>
  intro k hf hk x u bus r hx hu
  obtain ⟨b, s, l⟩ := x
  obtain ⟨hb, hs, hl⟩ := hx
  have hb : b.length = t.length := hb
  have hs : s.length = t.length := hs
  have hl : l.length = t.length := hl
  have hperm := children_perm hok hk
  have hcl : (children t k).length ≤ 12 := by
   rw [hperm.length_eq]
   have := kids_len t k t.length
   omega
  have hsum : wsum (vis t) (children t k) = subs t k := wsum_perm hperm
  refine VX.of_box hT Tryz.func159 rfl (by kernel_rfl) [(.tmp 6, false, .int .i64)] (by kernel_rfl) rfl fun bb => ?_
  show VW _ _ ([.root (.ibox 184 bb) sNum (fNum r) (t, (b, s, l), (u : Int)), .v false (.int .i64) ((k : Nat)), .v false (.int .i64) (bus), D, D, D, D, D, D, D, D, D, D, D, D, D, D, D, D, D, D, D, D, D, D, D, D, D, D, D, D, D, D, D, D, D, D, D, D, D, D, D, D, D, D, D, D, D, D, D, D, D, D, D, D, D, D, D, D, D, D, D, D, D, D, D, D, D, D, D]) _
  repeat refine VW.seq ?_
  refine VW.regl hT fun K hK => ?_
  simp only [wq, simprocAttr]
  refine hK _ ?_
  clear hK K
  try refine vthen_n ?_
  repeat refine VW.seq ?_
  refine VW.regl hT fun K hK => ?_
  simp only [wq, simprocAttr]
  refine ⟨decide_eq_true ⟨Int.natCast_nonneg _, by show (k : Int) < (s.length : Int); omega⟩, ?_⟩
  refine hK _ ?_
  clear hK K
  try refine vthen_n ?_
  repeat refine VW.seq ?_
  refine VW.regl hT fun K hK => ?_
  simp only [wq, simprocAttr]
  refine hK _ ?_
  clear hK K
  try refine vthen_n ?_
  repeat refine VW.seq ?_
  refine VW.regl hT fun K hK => ?_
  simp only [wq, simprocAttr]
  refine vcall_of (children_vc t k (by omega)) ?_
  generalize hL : children t k = L at *
  simp only [wq, simprocAttr]
  refine hK _ ?_
  clear hK K
  try refine vthen_n ?_
  have hs' : (s.set k bus).length = t.length := by rw [List.length_set]; exact hs
  generalize s.set k bus = s' at hs' ⊢
  clear hs
  repeat refine VW.seq ?_
  refine VW.block ?_
  refine VW.loop (α := Nat × Int × Fl × I3) [(0, none), (1, none), (2, none), (7, none), (24, none), (25, none), (26, none)] (fun p => [.root (.ibox 184 bb) sNum (fNum p.2.2.1) (t, p.2.2.2, ((u + wsum (vis t) (L.take p.1) : Nat) : Int)), .v false (.int .i64) ((k : Nat)), .v false (.int .i64) (bus), D, D, D, D, .v false (.int .i64) (p.2.1), D, D, D, D, D, D, D, D, D, D, D, D, D, D, D, D, .root (.val false) sI .own L, .v false (.int .i64) ((L.length : Nat)), .v false (.int .i64) ((p.1 : Nat)), D, D, D, D, D, D, D, D, D, D, D, D, D, D, D, D, D, D, D, D, D, D, D, D, D, D, D, D, D, D, D, D, D, D, D, D, D, D, D, D, D, D, D]) (fun p => p.1 ≤ L.length ∧ Len3 t.length p.2.2.2) (fun p => L.length - p.1) ⟨(0, bus, r, b, s', l), ⟨by omega, hb, hs', hl⟩, ?_⟩ fun ⟨i, last, r, b, s, l⟩ ⟨hi, hb, hs, hl⟩ => ?_
  ·simp only [wn, wq, simprocAttr]
   try rfl
  have hi : i ≤ L.length := hi
  have hb : b.length = t.length := hb
  have hs : s.length = t.length := hs
  have hl : l.length = t.length := hl
  repeat refine VW.seq ?_
  refine VW.regl hT fun K hK => ?_
  simp only [wq, simprocAttr]
  refine hK _ ?_
  clear hK K
  try refine vthen_n ?_
  repeat refine VW.seq ?_
  refine VW.cond rfl (fun hc => ?_) (fun hc => ?_)
  ·have hlt : i < L.length := by simpa using hc
   obtain ⟨c, hc0, h1, h2, h3, h4⟩ := kids_pos hok (hperm.mem_iff.1 (getD_mem hlt))
   have hle := wsum_le (vis t) L (i + 1)
   have htk := wsum_take (vis t) hlt
   have hv := vis_eq hok h2
   rw [hc0, Int.toNat_natCast] at htk
   refine VW.skip (vthen_n ?_)
   repeat refine VW.seq ?_
   refine VW.block ?_
   repeat refine VW.seq ?_
   refine VW.regl hT fun K hK => ?_
   simp only [wq, simprocAttr]
   refine ⟨decide_eq_true ⟨Int.natCast_nonneg _, by show (i : Int) < (L.length : Int); omega⟩, ?_⟩
   rw [show L.getD i 0 = (c : Int) from hc0]
   refine hK _ ?_
   clear hK K
   try refine vthen_n ?_
   repeat refine VW.seq ?_
   refine VW.regl hT fun K hK => ?_
   simp only [wq, simprocAttr]
   refine ⟨decide_eq_true ⟨Int.natCast_nonneg _, by show (c : Int) < (b.length : Int); omega⟩, ?_⟩
   refine hK _ ?_
   clear hK K
   try refine vthen_n ?_
   have hb' : (b.set c bus).length = t.length := by rw [List.length_set]; exact hb
   generalize b.set c bus = b' at hb' ⊢
   clear hb
   repeat refine VW.seq ?_
   refine VW.regl hT fun K hK => ?_
   simp only [wq, simprocAttr]
   refine vcall_of (isBridge_vc t c (by omega) (by omega)) ?_
   simp only [wq, simprocAttr]
   refine hK _ ?_
   clear hK K
   try refine vthen_n ?_
   repeat refine VW.seq ?_
   refine VW.cond rfl (fun hc => ?_) (fun hc => ?_)
   ·have hbr : (t.getD c z).2.2 = 0 := by simpa using hc
    rw [if_pos hbr] at hv
    generalize hU : u + wsum (vis t) (L.take i) = U at *
    repeat refine VW.seq ?_
    refine VW.regl hT fun K hK => ?_
    simp only [wq, simprocAttr]
    refine hK _ ?_
    clear hK K
    try refine vthen_n ?_
    rw [wrap64 (by omega) (by omega), show (U : Int) + 1 = ((U + 1 : Nat) : Int) by omega]
    repeat refine VW.seq ?_
    refine VW.regl hT fun K hK => ?_
    simp only [wq, simprocAttr]
    refine vcall_io 0 ?_
    simp only [wq, simprocAttr]
    refine vxcall_ex (ih c (by omega) h2 (b', s, l) (U + 1) ((U + 1 : Nat) : Int) _ ⟨hb', hs, hl⟩ (by omega)) ?_
    rintro pv ot ⟨m, ⟨b2, s2, l2⟩, r2, ⟨g1, g2, g3⟩, rfl, rfl⟩
    simp only [wq, simprocAttr]
    refine hK _ ?_
    clear hK K
    try refine vthen_n ?_
    show vthen _ _ _ .normal _
    refine vthen_n ?_
    repeat refine VW.seq ?_
    refine VW.regl hT fun K hK => ?_
    simp only [wq, simprocAttr]
    refine hK _ ?_
    clear hK K
    try refine vthen_n ?_
    rw [show U + 1 + subs t c = u + wsum (vis t) (L.take (i + 1)) by omega]
    refine ⟨(i + 1, if last < m then m else last, r2, b2, s2, l2), ⟨hlt, g1, g2, g3⟩, ?_, by show L.length - (i + 1) < L.length - i; omega⟩
    simp only [wn, wq, simprocAttr]
    rw [wrap64 (by omega) (by omega)]
    rfl
   ·have hbr : ¬ (t.getD c z).2.2 = 0 := by simpa using hc
    rw [if_neg hbr] at hv
    refine VW.skip ?_
    show vthen _ _ _ .normal _
    refine vthen_n ?_
    repeat refine VW.seq ?_
    refine VW.regl hT fun K hK => ?_
    simp only [wq, simprocAttr]
    refine hK _ ?_
    clear hK K
    try refine vthen_n ?_
    rw [show wsum (vis t) (L.take i) = wsum (vis t) (L.take (i + 1)) by omega]
    refine ⟨(i + 1, last, r, b', s, l), ⟨hlt, hb', hs, hl⟩, ?_, by show L.length - (i + 1) < L.length - i; omega⟩
    simp only [wn, wq, simprocAttr]
    rw [wrap64 (by omega) (by omega)]
    rfl
  ·have hge : i = L.length := by
    have : L.length ≤ i := by simpa using hc
    omega
   subst hge
   refine VW.exit ?_
   show vthen _ _ _ .normal _
   refine vthen_n ?_
   rw [List.take_length, hsum]
   repeat refine VW.seq ?_
   refine VW.regl hT fun K hK => ?_
   simp only [wq, simprocAttr]
   refine ⟨decide_eq_true ⟨Int.natCast_nonneg _, by show (k : Int) < (l.length : Int); omega⟩, ?_⟩
   refine hK _ ?_
   clear hK K
   try refine vthen_n ?_
   repeat refine VW.seq ?_
   refine VW.regl hT fun K hK => ?_
   simp only [wq, simprocAttr]
   refine hK _ ?_
   clear hK K
   try refine vthen_n ?_
   exact VW.ret ⟨.inl rfl, _, _, _, _, rfl, ⟨0, rfl⟩, last, (b, s, l.set k last), r, ⟨hb, hs, by show (l.set k last).length = _; rw [List.length_set]; exact hl⟩, rfl, rfl⟩
end Go.Proofs.YtoeblmcibheldaaGreatDoor.V.W
end
section
namespace Go.Proofs.YtoeblmcibheldaaGreatDoor.V.W
open Go Go.RowKit
abbrev rNum (fl : Fl) (x : I3) (b : Bool) : PV := .root (.tup [true, false]) (.pr sI3 .bool) (.pr fl .fz) (x, b)
set_option maxRecDepth 20000 in
theorem enum_vc (t : List Nd) (hl : t.length ≤ 2000000) : VC Tryz.prog 124 [.v false sNS t] (fun pv => if treeOk t = true then ∃ x, pv = rNum (.pr .own (.pr .own .own)) x true else pv = rNum .own ([], [], []) false) := by
 refine VC.of_body hT Tryz.func124 rfl (by kernel_rfl) [(.cell 2 145, true, sI3), (.tmp 3, false, .bool)] (by kernel_rfl) ?_
 show VW _ _ ([.v false sNS t, D, D, D, D, D, D, D, D, D, D, D, D, D, D, D, D, D, D, D, D, D, D, D, D, D, D, D, D, D, D, D, D, D, D, D]) _
 repeat refine VW.seq ?_
 refine VW.regl hT fun K hK => ?_
 simp only [wq, simprocAttr]
 refine hK _ ?_
 clear hK K
 try refine vthen_n ?_
 repeat refine VW.seq ?_
 refine VW.regl hT fun K hK => ?_
 simp only [wq, simprocAttr]
 refine vcall_of (treeOk_vc t hl) ?_
 simp only [wq, simprocAttr]
 refine hK _ ?_
 clear hK K
 try refine vthen_n ?_
 repeat refine VW.seq ?_
 refine VW.cond rfl (fun hc => ?_) (fun hc => ?_)
 ·repeat refine VW.seq ?_
  refine VW.regl hT fun K hK => ?_
  simp only [wq, simprocAttr]
  refine hK _ ?_
  clear hK K
  try refine vthen_n ?_
  refine VW.ret ⟨.inl rfl, _, rfl, ?_⟩
  have h' : treeOk t = false := (Bool.not_eq_true' _).mp hc
  rw [if_neg (by rw [h']; decide)]
 have hok : treeOk t = true := by
  have := hc
  rwa [Bool.not_eq_false'] at this
 have htl := treeOk_len hok
 refine VW.skip (vthen_n ?_)
 repeat refine VW.seq ?_
 refine VW.regl hT fun K hK => ?_
 simp only [wq, simprocAttr]
 refine vcall_ex (repeat_vc t.length (by omega) (by omega)) ?_
 rintro pv ⟨xs, hxs, rfl⟩
 simp only [wq, simprocAttr]
 refine hK _ ?_
 clear hK K
 try refine vthen_n ?_
 repeat refine VW.seq ?_
 refine VW.regl hT fun K hK => ?_
 simp only [wq, simprocAttr]
 have hxl : xs.length ≤ 2000000 := by omega
 refine vcall_of (cloneI_vc xs hxl) ?_
 simp only [wq, simprocAttr]
 refine vcall_of (cloneI_vc xs hxl) ?_
 simp only [wq, simprocAttr]
 refine vcall_of (cloneI_vc xs hxl) ?_
 simp only [wq, simprocAttr]
 refine hK _ ?_
 clear hK K
 try refine vthen_n ?_
 repeat refine VW.seq ?_
 refine VW.regl hT fun K hK => ?_
 simp only [wq, simprocAttr]
 refine vcall_io 0 ?_
 simp only [wq, simprocAttr]
 refine vxcall_ex (visit_vx hok t.length 0 (by omega) (by omega) (xs, xs, xs) 0 0 _ ⟨hxs, hxs, hxs⟩ (by have := subs_root hok; omega)) ?_
 rintro pv ot ⟨m, x, r, hx, rfl, rfl⟩
 simp only [wq, simprocAttr]
 refine hK _ ?_
 clear hK K
 try refine vthen_n ?_
 repeat refine VW.seq ?_
 refine VW.regl hT fun K hK => ?_
 simp only [wq, simprocAttr]
 refine hK _ ?_
 clear hK K
 try refine vthen_n ?_
 have hs0 := subs_root hok
 repeat refine VW.seq ?_
 refine VW.cond rfl (fun hc => ?_) (fun hc => ?_)
 ·have hc : ((subs t 0 : Nat) : Int) > 15 := of_decide_eq_true hc
  omega
 refine VW.skip (vthen_n ?_)
 repeat refine VW.seq ?_
 refine VW.regl hT fun K hK => ?_
 simp only [wq, simprocAttr]
 refine hK _ ?_
 clear hK K
 try refine vthen_n ?_
 refine VW.ret ⟨.inl rfl, _, rfl, ?_⟩
 rw [if_pos hok]
 exact ⟨x, rfl⟩
end Go.Proofs.YtoeblmcibheldaaGreatDoor.V.W
end
section
namespace Go.Proofs.YtoeblmcibheldaaGreatDoor.V.W
open Go Go.RowKit
abbrev fI3 : Fl := .pr .own (.pr .own .own)
theorem io3 {x : I3} {l : List (Nat × Nat)} {fi : Fl} {li : List Value} (h : (tagF sI3 l).1 = fi) (k : encI sI3 fi x = some li) : ∃ n1 c1 n2 c2 n3 c3, fi = .pr (.io n1 c1) (.pr (.io n2 c2) (.io n3 c3)) ∧ li = [.slice (some ⟨n1, 0, none⟩) x.1.length c1, .slice (some ⟨n2, 0, none⟩) x.2.1.length c2, .slice (some ⟨n3, 0, none⟩) x.2.2.length c3] := by
 rcases l with _ | ⟨⟨n1, c1⟩, _ | ⟨⟨n2, c2⟩, _ | ⟨⟨n3, c3⟩, l⟩⟩⟩
 ·subst h; cases k
 ·subst h; cases k
 ·subst h; cases k
 ·subst h
  exact ⟨n1, c1, n2, c2, n3, c3, rfl, (Option.some.inj k).symm⟩
set_option maxRecDepth 20000 in
set_option maxHeartbeats 2000000 in
theorem svisit_vx {t : List Nd} (hok : treeOk t = true) : ∀ (f k : Nat), t.length - k ≤ f → k < t.length → ∀ (x : I3) (u : Nat), Len3 t.length x → u + subs t k ≤ 1000 →
  VX Tryz.prog 154 [.v false sNS t, .root (.val true) sI3 fI3 x, .v false (.int .i64) ((k : Nat)), .v false (.int .i64) ((u : Nat))] 1 (fun pv ot => pv = .v false (.int .i64) (((u + subs t k : Nat) : Int)) ∧ ∃ y : I3, Len3 t.length y ∧ ot = .root (.val true) sI3 fI3 y) := by
 have htl := treeOk_len hok
 intro f
 induction f with
 | zero =>
  intro k hf hk
  omega
 | succ f ih =>
  intro k hf hk x u hx hu
  obtain ⟨b0, s0, l0⟩ := x
  obtain ⟨hb0, hs0, hl0⟩ := hx
  have hb0 : b0.length = t.length := hb0
  have hs0 : s0.length = t.length := hs0
  have hl0 : l0.length = t.length := hl0
  have hperm := skids_perm hok hk
  have hcl : (skids t k).length ≤ 12 := by
   rw [hperm.length_eq]
   have := kids_len t k t.length
   omega
  have hsum : wsum (vis t) (skids t k) = subs t k := wsum_perm hperm
  refine VX.of_rows hT Tryz.func154 rfl (by kernel_rfl) [(.tmp 8, false, .int .i64)] (by kernel_rfl) rfl rfl ⟨by show 0 < b0.length; omega, by show 0 < s0.length; omega, by show 0 < l0.length; omega⟩ fun ll fi li e1 e2 => ?_
  obtain ⟨n1, c1, n2, c2, n3, c3, rfl, rfl⟩ := io3 e1 e2
  show VW _ _ ([.v false sNS t, .root (.val true) sI3 (.pr (.io n1 c1) (.pr (.io n2 c2) (.io n3 c3))) (b0, s0, l0), .v false (.int .i64) ((k : Nat)), .v false (.int .i64) ((u : Nat)), D, D, D, D, D, D, D, D, D, D, D, D, D, D, D, D, D, D, D, D, D, D, D, D, D, D, D, D, D, D, D, D, D, D, D, D, D, D, D, D, D, D, D, D, D, D, D, D, D, D, D, D, D, D, D, D, D, D, D, D, D]) _
  repeat refine VW.seq ?_
  refine VW.regl hT fun K hK => ?_
  simp only [wq, simprocAttr]
  refine hK _ ?_
  clear hK K
  try refine vthen_n ?_
  repeat refine VW.seq ?_
  refine VW.regl hT fun K hK => ?_
  simp only [wq, simprocAttr]
  refine vcall_of (specChildren_vc t k (by omega)) ?_
  generalize hL : skids t k = L at *
  simp only [wq, simprocAttr]
  refine hK _ ?_
  clear hK K
  try refine vthen_n ?_
  repeat refine VW.seq ?_
  refine VW.regl hT fun K hK => ?_
  simp only [wq, simprocAttr]
  refine hK _ ?_
  clear hK K
  try refine vthen_n ?_
  repeat refine VW.seq ?_
  refine VW.block ?_
  refine VW.loop (α := Nat × I3) [(0, none), (2, none), (3, none), (5, none), (9, none), (10, none)] (fun p => [.v false sNS t, D, .v false (.int .i64) ((k : Nat)), .v false (.int .i64) (((u + wsum (vis t) (L.take p.1) : Nat) : Int)), D, .root (.box 145) sI3 (.pr (.io n1 c1) (.pr (.io n2 c2) (.io n3 c3))) p.2, D, D, D, .root (.val false) sI .own L, .v false (.int .i64) ((p.1 : Nat)), D, D, D, D, D, D, D, D, D, D, D, D, D, D, D, D, D, D, D, D, D, D, D, D, D, D, D, D, D, D, D, D, D, D, D, D, D, D, D, D, D, D, D, D, D, D, D, D, D, D, D, D, D, D]) (fun p => p.1 ≤ L.length ∧ Len3 t.length p.2) (fun p => L.length - p.1) ⟨(0, b0, s0, l0), ⟨by omega, hb0, hs0, hl0⟩, ?_⟩ fun ⟨i, b, s, l⟩ ⟨hi, hb, hs, hl⟩ => ?_
  ·simp only [wn, wq, simprocAttr]
   try rfl
  have hi : i ≤ L.length := hi
  have hb : b.length = t.length := hb
  have hs : s.length = t.length := hs
  have hl : l.length = t.length := hl
  repeat refine VW.seq ?_
  refine VW.regl hT fun K hK => ?_
  simp only [wq, simprocAttr]
  refine hK _ ?_
  clear hK K
  try refine vthen_n ?_
  repeat refine VW.seq ?_
  refine VW.cond rfl (fun hc => ?_) (fun hc => ?_)
  ·have hlt : i < L.length := by simpa using hc
   obtain ⟨c, hc0, h1, h2, h3, h4⟩ := kids_pos hok (hperm.mem_iff.1 (getD_mem hlt))
   have hle := wsum_le (vis t) L (i + 1)
   have htk := wsum_take (vis t) hlt
   have hv := vis_eq hok h2
   rw [hc0, Int.toNat_natCast] at htk
   refine VW.skip (vthen_n ?_)
   repeat refine VW.seq ?_
   refine VW.block ?_
   have hiL : decide (0 ≤ (i : Int) ∧ (i : Int) < (L.length : Int)) = true := decide_eq_true ⟨Int.natCast_nonneg _, by omega⟩
   repeat refine VW.seq ?_
   refine VW.mixl hT hm 0 11 (by kernel_rfl) fun K hK => ?_
   simp only [wq, simprocAttr]
   refine ⟨by kernel_rfl, by kernel_rfl, by kernel_rfl, by kernel_rfl, hiL, by kernel_rfl, by kernel_rfl, by kernel_rfl, by kernel_rfl, decide_eq_true ⟨Int.natCast_nonneg _, by show (k : Int) < (s.length : Int); omega⟩, by kernel_rfl, decide_eq_true ?_, ?_⟩
   ·show 0 ≤ L.getD i 0 ∧ L.getD i 0 < (b.length : Int)
    rw [hc0]
    omega
   rw [show L.getD i 0 = (c : Int) from hc0]
   refine hK _ ?_
   clear hK K
   try refine vthen_n ?_
   have hb' : (b.set (Int.toNat (c : Int)) (s.getD k 0)).length = t.length := by rw [List.length_set]; exact hb
   generalize b.set (Int.toNat (c : Int)) (s.getD k 0) = b' at hb' ⊢
   clear hb
   repeat refine VW.seq ?_
   refine VW.regl hT fun K hK => ?_
   simp only [wq, simprocAttr]
   refine ⟨hiL, ?_⟩
   rw [show L.getD i 0 = (c : Int) from hc0]
   refine ⟨decide_eq_true ⟨Int.natCast_nonneg _, by show (c : Int) < (t.length : Int); omega⟩, ?_⟩
   refine hK _ ?_
   clear hK K
   try refine vthen_n ?_
   generalize hU : u + wsum (vis t) (L.take i) = U at *
   repeat refine VW.seq ?_
   refine VW.cond rfl (fun hc => ?_) (fun hc => ?_)
   ·have hbr : (t.getD c z).2.2 = 0 := by simpa using hc
    rw [if_pos hbr] at hv
    repeat refine VW.seq ?_
    refine VW.regl hT fun K hK => ?_
    simp only [wq, simprocAttr]
    refine hK _ ?_
    clear hK K
    try refine vthen_n ?_
    rw [wrap64 (by omega) (by omega), show (U : Int) + 1 = ((U + 1 : Nat) : Int) by omega]
    refine VW.weak (weak_norm [(0, none), (2, none), (3, none), (5, none), (9, none), (10, none)] _) ?_
    simp only [wn, wq, simprocAttr]
    repeat refine VW.seq ?_
    refine VW.mixl hT hm 0 7 (by kernel_rfl) fun K hK => ?_
    simp only [wq, simprocAttr]
    refine ⟨by kernel_rfl, by kernel_rfl, by kernel_rfl, by kernel_rfl, hiL, by kernel_rfl, decide_eq_true ?_, ?_⟩
    ·show 0 ≤ L.getD i 0 ∧ L.getD i 0 < (s.length : Int)
     rw [hc0]
     omega
    rw [show L.getD i 0 = (c : Int) from hc0]
    refine hK _ ?_
    clear hK K
    try refine vthen_n ?_
    have hs' : (s.set (Int.toNat (c : Int)) ((U + 1 : Nat) : Int)).length = t.length := by rw [List.length_set]; exact hs
    generalize s.set (Int.toNat (c : Int)) ((U + 1 : Nat) : Int) = s' at hs' ⊢
    clear hs
    refine VW.weak (weak_norm [(0, none), (2, none), (3, none), (5, none), (9, none), (10, none)] _) ?_
    simp only [wn, wq, simprocAttr]
    repeat refine VW.seq ?_
    refine VW.mixl hT hm 0 7 (by kernel_rfl) fun K hK => ?_
    simp only [wq, simprocAttr]
    refine ⟨by kernel_rfl, by kernel_rfl, by kernel_rfl, hiL, by kernel_rfl, ?_⟩
    rw [show L.getD i 0 = (c : Int) from hc0]
    refine vcall_io 1 ?_
    simp only [wq, simprocAttr]
    have hal := ih c (by omega) h2 (b', s', l) (U + 1) ⟨hb', hs', hl⟩ (by omega)
    have hrec := tagE (agg := true) (s := sI3) (fi := .pr (.io n1 c1) (.pr (.io n2 c2) (.io n3 c3))) (f0 := fI3) (x := (b', s', l)) (l := [.slice (some ⟨n1, 0, none⟩) b'.length c1, .slice (some ⟨n2, 0, none⟩) s'.length c2, .slice (some ⟨n3, 0, none⟩) l.length c3]) hal rfl rfl rfl (fun y hy => by
     obtain ⟨y1, y2, y3⟩ := hy
     show some [Value.slice (some ⟨n1, 0, none⟩) y.1.length c1, Value.slice (some ⟨n2, 0, none⟩) y.2.1.length c2, Value.slice (some ⟨n3, 0, none⟩) y.2.2.length c3] = some _
     rw [y1, y2, y3, hb', hs', hl])
    refine vxcall_ex hrec ?_
    rintro pv ot ⟨rfl, ⟨b2, s2, l2⟩, ⟨g1, g2, g3⟩, rfl⟩
    simp only [wq, simprocAttr]
    refine hK _ ?_
    clear hK K
    try refine vthen_n ?_
    show vthen _ _ _ .normal _
    refine vthen_n ?_
    repeat refine VW.seq ?_
    refine VW.regl hT fun K hK => ?_
    simp only [wq, simprocAttr]
    refine hK _ ?_
    clear hK K
    try refine vthen_n ?_
    rw [show U + 1 + subs t c = u + wsum (vis t) (L.take (i + 1)) by omega]
    refine ⟨(i + 1, b2, s2, l2), ⟨hlt, g1, g2, g3⟩, ?_, by show L.length - (i + 1) < L.length - i; omega⟩
    simp only [wn, wq, simprocAttr]
    rw [wrap64 (by omega) (by omega)]
    rfl
   ·have hbr : ¬ (t.getD c z).2.2 = 0 := by simpa using hc
    rw [if_neg hbr] at hv
    refine VW.skip ?_
    show vthen _ _ _ .normal _
    refine vthen_n ?_
    repeat refine VW.seq ?_
    refine VW.regl hT fun K hK => ?_
    simp only [wq, simprocAttr]
    refine hK _ ?_
    clear hK K
    try refine vthen_n ?_
    rw [show U = u + wsum (vis t) (L.take (i + 1)) by omega]
    refine ⟨(i + 1, b', s, l), ⟨hlt, hb', hs, hl⟩, ?_, by show L.length - (i + 1) < L.length - i; omega⟩
    simp only [wn, wq, simprocAttr]
    rw [wrap64 (by omega) (by omega)]
    rfl
  ·have hge : i = L.length := by
    have : L.length ≤ i := by simpa using hc
    omega
   subst hge
   refine VW.exit ?_
   show vthen _ _ _ .normal _
   refine vthen_n ?_
   rw [List.take_length, hsum]
   repeat refine VW.seq ?_
   refine VW.regl hT fun K hK => ?_
   simp only [wq, simprocAttr]
   refine ⟨decide_eq_true ⟨Int.natCast_nonneg _, by show (k : Int) < (l.length : Int); omega⟩, ?_⟩
   refine hK _ ?_
   clear hK K
   try refine vthen_n ?_
   repeat refine VW.seq ?_
   refine VW.regl hT fun K hK => ?_
   simp only [wq, simprocAttr]
   refine hK _ ?_
   clear hK K
   try refine vthen_n ?_
   have hl2 : (l.set k ((u + subs t k : Nat) : Int)).length = t.length := by rw [List.length_set]; exact hl
   refine VW.ret ⟨.inl rfl, _, _, _, _, rfl, ⟨5, _, rfl⟩, ?_, rfl, (b, s, l.set k ((u + subs t k : Nat) : Int)), ⟨hb, hs, hl2⟩, rfl⟩
   show some [Value.slice (some ⟨n1, 0, none⟩) b.length c1, Value.slice (some ⟨n2, 0, none⟩) s.length c2, Value.slice (some ⟨n3, 0, none⟩) (l.set k ((u + subs t k : Nat) : Int)).length c3] = some [Value.slice (some ⟨n1, 0, none⟩) b0.length c1, Value.slice (some ⟨n2, 0, none⟩) s0.length c2, Value.slice (some ⟨n3, 0, none⟩) l0.length c3]
   rw [hb, hs, hl2, hb0, hs0, hl0]
end Go.Proofs.YtoeblmcibheldaaGreatDoor.V.W
end

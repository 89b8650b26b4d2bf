/- Texts D3 U3 D4 J10 in one. No condition. -/
import Derived.Test.YtoeblmcibheldaaDoorZActTexts4
set_option linter.unnecessarySimpa false
set_option linter.unusedSimpArgs false
set_option linter.unusedVariables false
section
namespace Go.Proofs.YtoeblmcibheldaaDoor.V.W
open Go Go.RowKit
theorem words_iff {xs : List Int} : words xs = true ↔ ∀ x, x ∈ xs → inB x 0 65535 = true := by
 rw [words, Bool.not_eq_true', List.any_eq_false]
 refine ⟨fun h x hx => ?_, fun h x hx => ?_⟩
 ·have := h x hx
  simpa using this
 ·rw [h x hx]; decide
theorem words_set {xs : List Int} (h : words xs = true) (i : Nat) {v : Int} (h0 : 0 ≤ v) (h1 : v ≤ 65535) : words (xs.set i v) = true := by
 rw [words_iff] at h ⊢
 intro x hx
 rcases List.mem_or_eq_of_mem_set hx with h2 | rfl
 ·exact h x h2
 ·exact inB_iff.2 ⟨h0, h1⟩
/-- rows of memory that go with sizes -/
structure MemR (s : List Int) (m : List (List Int)) : Prop where
 len : m.length = s.length
 row : ∀ k, k < m.length → ((m.getD k []).length : Int) = s.getD k 0 ∧ words (m.getD k []) = true
theorem memR_new {s : List Int} (h : ∀ k, k < s.length → 0 ≤ s.getD k 0) : MemR s (memTo s s.length) := by
 have hl : (memTo s s.length).length = s.length := memTo_len (Nat.le_refl _)
 refine ⟨hl, fun k hk => ?_⟩
 have e : (memTo s s.length).getD k [] = List.replicate (s.getD k 0).toNat 0 := by
  unfold memTo
  rw [List.getD_eq_getElem?_getD, List.getElem?_map, List.getElem?_take_of_lt (by omega), List.getElem?_eq_getElem (by omega), List.getD_eq_getElem?_getD, List.getElem?_eq_getElem (by omega)]
  rfl
 rw [e]
 have h0 := h k (by omega)
 refine ⟨by rw [List.length_replicate]; omega, words_iff.2 fun x hx => ?_⟩
 rw [(List.mem_replicate.1 hx).2]
 rfl
theorem memR_set {s : List Int} {m : List (List Int)} (h : MemR s m) {k : Nat} (hk : k < m.length) {i : Nat} {v : Int} (h0 : 0 ≤ v) (h1 : v ≤ 65535) : MemR s (m.set k ((m.getD k []).set i v)) := by
 refine ⟨by rw [List.length_set]; exact h.len, fun j hj => ?_⟩
 rw [List.length_set] at hj
 rw [List.getD_eq_getElem?_getD, List.getElem?_set]
 by_cases e : k = j
 ·subst e
  rw [if_pos rfl, if_pos hk]
  exact ⟨by show (((m.getD k []).set i v).length : Int) = _; rw [List.length_set]; exact (h.row k hk).1, words_set (h.row k hk).2 i h0 h1⟩
 ·rw [if_neg e, ← List.getD_eq_getElem?_getD]
  exact h.row j hj
theorem fab_mk {t : List Nd} {s : List Int} {m : List (List Int)} {g : List Bool} (hn : newOk t s = true) (hm : MemR s m) (hl : g.length = t.length) (h0 : 0 < t.length → g.getD 0 false = true) : fabOk (t, s, allBars t s, m, g) = true := by
 have hok : treeOk t = true := by
  have := hn
  rw [newOk, fits, Bool.and_eq_true, Bool.and_eq_true] at this
  exact (sizesOk_iff.1 this.1.1).1
 have htl := treeOk_len hok
 rw [fabOk, Bool.and_eq_true, Bool.and_eq_true, Bool.and_eq_true, Bool.and_eq_true]
 refine ⟨hn, decide_eq_true rfl, ?_, ?_, ?_⟩
 ·show ((m.length : Int) == (s.length : Int)) = true
  rw [hm.len]
  exact beq_self_eq_true _
 ·show guardOk t g = true
  rw [guardOk, hok, hl, h0 (by omega), beq_self_eq_true]
  rfl
 ·show ((List.range m.length).all fun k => !memBad m s k) = true
  rw [List.all_eq_true]
  intro k hk
  obtain ⟨e1, e2⟩ := hm.row k (List.mem_range.1 hk)
  rw [memBad, e1, e2, beq_self_eq_true]
  rfl
def fabR (A : Option Addr) (c : Nat) (b : List Int) (pv ot : PV) : Prop := ∃ (x : Fab) (i h : Int) (r : Fl), pv = .root (.val true) sFi fFab x ∧ (fabOk x = true ∧ x.1.length ≤ 11) ∧ 0 ≤ i ∧ ot = .root bC sC (.pr (.kz A c) r) (b, i, h)
set_option maxRecDepth 20000 in
set_option maxHeartbeats 8000000 in
theorem fabD_vx (A : Option Addr) (c : Nat) (r : Fl) (b : List Int) (i h : Int) (hi : 0 ≤ i) (hl : b.length ≤ 1048576) :
  VX Tryd.prog 33 [.root bC sC (.pr (.kz A c) r) (b, i, h)] 0 (fabR A c b) := by
 refine VX.of_box hT Tryd.func33 rfl (by kernel_rfl) [(.cell 2 50, true, sFi)] (by kernel_rfl) rfl fun bb => ?_
 show VW _ _ ([.root (.ibox 82 bb) sC (.pr (.kz A c) r) (b, i, h), D, D, D, D, D, D, D, D, D, D, D, D, D, D, D, D, D, D, D, D, D, D, D, D, D, D, D, D, D, D, D, D, D, D, D, D, D, D, D, D, D, D, D, D, D, D, D, D, D, D, D, D, D, D, D, D, D, D, D, D, D, D, D, D, D, D, D, D, D, D, D, D, D, D, D, D, D, D, D]) _
 repeat refine VW.seq ?_
 refine VW.regl hT fun K hK => ?_
 simp only [wq, simprocAttr]
 refine hK _ ?_
 clear hK K
 try refine vthen_n ?_
 repeat refine VW.seq ?_
 refine VW.regl hT fun K hK => ?_
 simp only [wq, simprocAttr]
 refine vcall_io 0 ?_
 simp only [wq, simprocAttr]
 refine vxcall_ex (tree_vx A c r b i h hi hl) ?_
 rintro pv ot ⟨t, i, h, r, rfl, ⟨hok, ht11⟩, hi, rfl⟩
 have htl := treeOk_len hok
 simp only [wq, simprocAttr]
 refine hK _ ?_
 clear hK K
 try refine vthen_n ?_
 repeat refine VW.seq ?_
 refine VW.regl hT fun K hK => ?_
 simp only [wq, simprocAttr]
 refine hK _ ?_
 clear hK K
 try refine vthen_n ?_
 repeat refine VW.seq ?_
 refine VW.regl hT fun K hK => ?_
 simp only [wq, simprocAttr]
 refine hK _ ?_
 clear hK K
 try refine vthen_n ?_
 repeat refine VW.seq ?_
 refine VW.block ?_
 refine VW.loop (α := List Int × Int × Int × Fl) [(0, none), (2, none), (3, none), (4, some (3, .int .i64)), (5, none)] (fun q => [.root (.ibox 82 bb) sC (.pr (.kz A c) q.2.2.2) (b, q.2.1, q.2.2.1), D, .root (.box 50) sFi .own ([], [], [], [], []), .root (.val false) sNS .own t, .root (.val false) sI .own q.1, .v false (.int .i64) (q.1.length), D, D, D, D, D, D, D, D, D, D, D, D, D, D, D, D, D, D, D, D, D, D, D, D, D, D, D, D, D, D, D, D, D, D, D, D, D, D, D, D, D, D, D, D, D, D, D, D, D, D, D, D, D, D, D, D, D, D, D, D, D, D, D, D, D, D, D, D, D, D, D, D, D, D]) (fun q => q.1.length ≤ t.length ∧ (∀ j, j < q.1.length → (q.1.getD j 0 = 0 ∨ q.1.getD j 0 = 16 ∨ q.1.getD j 0 = 32 ∨ q.1.getD j 0 = 64) ∧ ((t.getD j z).2.2 = 0 → q.1.getD j 0 = 0)) ∧ 0 ≤ q.2.1) (fun q => t.length - q.1.length) ⟨([], i, h, r), ⟨Nat.zero_le _, fun j h => absurd h (Nat.not_lt_zero _), hi⟩, ?_⟩ fun q hq => ?_
 ·simp only [wn, wq, simprocAttr]
  try rfl
 clear hi
 clear i h r
 obtain ⟨s, i, h, r⟩ := q
 obtain ⟨hk, hs, hi⟩ := hq
 simp only at hk hs hi ⊢
 repeat refine VW.seq ?_
 refine VW.regl hT fun K hK => ?_
 simp only [wq, simprocAttr]
 refine hK _ ?_
 clear hK K
 try refine vthen_n ?_
 repeat refine VW.seq ?_
 refine VW.cond rfl (fun hc => ?_) (fun hc => ?_)
 ·have hlt : s.length < t.length := by simpa using hc
  have hsn : ∀ v : Int, (v = 0 ∨ v = 16 ∨ v = 32 ∨ v = 64) → ((t.getD s.length z).2.2 = 0 → v = 0) → ∀ j, j < (s ++ [v]).length → ((s ++ [v]).getD j 0 = 0 ∨ (s ++ [v]).getD j 0 = 16 ∨ (s ++ [v]).getD j 0 = 32 ∨ (s ++ [v]).getD j 0 = 64) ∧ ((t.getD j z).2.2 = 0 → (s ++ [v]).getD j 0 = 0) := fun v h1 h2 j hj => by
   rw [List.length_append, List.length_singleton] at hj
   rcases Nat.lt_or_ge j s.length with h3 | h3
   ·rw [List.getD_eq_getElem?_getD, List.getElem?_append_left h3, ← List.getD_eq_getElem?_getD]
    exact hs j h3
   ·obtain rfl : j = s.length := by omega
    have e : (s ++ [v]).getD s.length 0 = v := by rw [List.getD_eq_getElem?_getD, List.getElem?_append_right (Nat.le_refl _), Nat.sub_self]; rfl
    rw [e]
    exact ⟨h1, h2⟩
  have hnl : ∀ v : Int, (s ++ [v]).length = s.length + 1 := fun v => by rw [List.length_append, List.length_singleton]
  have hL : limOk (s.length + 1) 8 = true := by simp only [limOk]; exact decide_eq_true (by omega)
  refine VW.skip (vthen_n ?_)
  repeat refine VW.seq ?_
  refine VW.block ?_
  repeat refine VW.seq ?_
  refine VW.regl hT fun K hK => ?_
  simp only [wq, simprocAttr]
  refine vcall_io 0 ?_
  simp only [wq, simprocAttr]
  refine vxcall_ex (pick_vx A c r b i h [16, 64, 32, 16, 0] hi hl (by decide) (by decide)) ?_
  rintro pv ot ⟨m1, i1, h1, r1, rfl, ha1, hi1, rfl⟩
  have hm1 : m1 = 0 ∨ m1 = 16 ∨ m1 = 32 ∨ m1 = 64 := by
   simp only [List.mem_cons, List.not_mem_nil, or_false] at ha1
   omega
  simp only [wq, simprocAttr]
  refine hK _ ?_
  clear hK K
  try refine vthen_n ?_
  repeat refine VW.seq ?_
  refine VW.regl hT fun K hK => ?_
  simp only [wq, simprocAttr]
  refine ⟨decide_eq_true ⟨Int.natCast_nonneg _, by show (s.length : Int) < (t.length : Int); omega⟩, ?_⟩
  refine hK _ ?_
  clear hK K
  try refine vthen_n ?_
  repeat refine VW.seq ?_
  refine VW.cond rfl (fun hc => ?_) (fun hc => ?_)
  ·have hc : (t.getD s.length z).2.2 = 0 := eq_of_beq hc
   repeat refine VW.seq ?_
   refine VW.regl hT fun K hK => ?_
   simp only [wq, simprocAttr]
   refine hK _ ?_
   clear hK K
   try refine vthen_n ?_
   show vthen _ _ _ .normal _
   refine vthen_n ?_
   repeat refine VW.seq ?_
   refine VW.regl hT fun K hK => ?_
   simp only [wq, simprocAttr]
   refine ⟨hL, ?_⟩
   refine hK _ ?_
   clear hK K
   try refine vthen_n ?_
   show vthen _ _ _ .normal _
   refine vthen_n ?_
   repeat refine VW.seq ?_
   refine VW.regl hT fun K hK => ?_
   simp only [wq, simprocAttr]
   refine hK _ ?_
   clear hK K
   try refine vthen_n ?_
   refine ⟨(s ++ [0], i1, h1, r1), ⟨by show (s ++ [0]).length ≤ _; rw [hnl]; exact hlt, hsn 0 (.inl rfl) (fun _ => rfl), hi1⟩, ?_, by show t.length - (s ++ [0]).length < t.length - s.length; rw [hnl]; omega⟩
   simp only [wn, wq, simprocAttr]
   rw [hnl, wrap64 (by omega) (by omega), show (s.length : Int) + 1 = ((s.length + 1 : Nat) : Int) by omega]
  ·have hc : ¬ (t.getD s.length z).2.2 = 0 := fun e => by
    have hc : ((t.getD s.length z).2.2 == 0) = false := hc
    rw [e] at hc; cases hc
   refine VW.skip (vthen_n ?_)
   repeat refine VW.seq ?_
   refine VW.regl hT fun K hK => ?_
   simp only [wq, simprocAttr]
   refine ⟨hL, ?_⟩
   refine hK _ ?_
   clear hK K
   try refine vthen_n ?_
   show vthen _ _ _ .normal _
   refine vthen_n ?_
   repeat refine VW.seq ?_
   refine VW.regl hT fun K hK => ?_
   simp only [wq, simprocAttr]
   refine hK _ ?_
   clear hK K
   try refine vthen_n ?_
   refine ⟨(s ++ [m1], i1, h1, r1), ⟨by show (s ++ [m1]).length ≤ _; rw [hnl]; exact hlt, hsn m1 hm1 (fun e => absurd e hc), hi1⟩, ?_, by show t.length - (s ++ [m1]).length < t.length - s.length; rw [hnl]; omega⟩
   simp only [wn, wq, simprocAttr]
   rw [hnl, wrap64 (by omega) (by omega), show (s.length : Int) + 1 = ((s.length + 1 : Nat) : Int) by omega]
 have hsl : s.length = t.length := by
  have hc : ¬ (s.length : Int) < (t.length : Int) := of_decide_eq_false hc
  omega
 have hno : newOk t s = true := small_fits hok hsl fun j hj => hs j (by omega)
 have hs0 : ∀ k, k < s.length → 0 ≤ s.getD k 0 := fun k hk => by
  have := (hs k hk).1
  omega
 have hmem := memR_new hs0
 refine VW.exit ?_
 show vthen _ _ _ .normal _
 refine vthen_n ?_
 repeat refine VW.seq ?_
 refine VW.regl hT fun K hK => ?_
 simp only [wq, simprocAttr]
 refine vcall_ex (specNew_vc t s (by omega) (by omega)) ?_
 intro pv hpv
 rw [if_pos hno] at hpv
 subst hpv
 have hnf : newFab t s = (t, s, allBars t s, memTo s s.length, List.replicate s.length true) := rfl
 rw [hnf]
 clear hnf
 have hg0 : (List.replicate s.length true).length = t.length := by rw [List.length_replicate]; exact hsl
 have hg1 : 0 < t.length → (List.replicate s.length true).getD 0 false = true := fun h => by
  rw [List.getD_eq_getElem?_getD, List.getElem?_replicate_of_lt (by omega)]
  rfl
 generalize memTo s s.length = m at *
 generalize List.replicate s.length true = g at *
 have hfm : ∀ (m : List (List Int)) (g : List Bool), MemR s m → g.length = t.length → (0 < t.length → g.getD 0 false = true) → fabOk (t, s, allBars t s, m, g) = true := fun m g h1 h2 h3 => fab_mk hno h1 h2 h3
 generalize allBars t s = w at *
 simp only [wq, simprocAttr]
 refine hK _ ?_
 clear hK K
 try refine vthen_n ?_
 repeat refine VW.seq ?_
 refine VW.regl hT fun K hK => ?_
 simp only [wq, simprocAttr]
 refine hK _ ?_
 clear hK K
 try refine vthen_n ?_
 repeat refine VW.seq ?_
 refine VW.block ?_
 refine VW.loop (α := Nat × List (List Int) × Int × Int × Fl) [(0, none), (2, none), (3, none), (7, none), (9, none)] (fun q => [.root (.ibox 82 bb) sC (.pr (.kz A c) q.2.2.2.2) (b, q.2.2.1, q.2.2.2.1), D, .root (.box 50) sFi .own ([], [], [], [], []), .root (.val false) sNS .own t, D, D, D, .root (.box 50) sFi fFab (t, s, w, q.2.1, g), D, .v false (.int .i64) (q.1), D, D, D, D, D, D, D, D, D, D, D, D, D, D, D, D, D, D, D, D, D, D, D, D, D, D, D, D, D, D, D, D, D, D, D, D, D, D, D, D, D, D, D, D, D, D, D, D, D, D, D, D, D, D, D, D, D, D, D, D, D, D, D, D, D, D, D, D, D, D]) (fun q => q.1 ≤ s.length ∧ MemR s q.2.1 ∧ 0 ≤ q.2.2.1) (fun q => s.length - q.1) ⟨(0, m, i, h, r), ⟨Nat.zero_le _, hmem, hi⟩, ?_⟩ fun q hq => ?_
 ·simp only [wn, wq, simprocAttr]
  try rfl
 clear hi hmem
 clear i h r m
 obtain ⟨k, M, i, h, r⟩ := q
 obtain ⟨hk, hM, hi⟩ := hq
 simp only at hk hM hi ⊢
 have hMl := hM.len
 repeat refine VW.seq ?_
 refine VW.regl hT fun K hK => ?_
 simp only [wq, simprocAttr]
 refine hK _ ?_
 clear hK K
 try refine vthen_n ?_
 repeat refine VW.seq ?_
 refine VW.cond rfl (fun hc => ?_) (fun hc => ?_)
 ·have hlt : k < M.length := by simpa using hc
  have hJ : decide (0 ≤ (k : Int) ∧ (k : Int) < (M.length : Int)) = true := decide_eq_true ⟨Int.natCast_nonneg _, by omega⟩
  have hrow := (hM.row k hlt).1
  refine VW.skip (vthen_n ?_)
  repeat refine VW.seq ?_
  refine VW.block ?_
  repeat refine VW.seq ?_
  refine VW.regl hT fun K hK => ?_
  simp only [wq, simprocAttr]
  refine ⟨hJ, ?_⟩
  refine vbr (fun hp => ?_) (fun hp => ?_) <;> simp only [wq, simprocAttr]
  ·have hp : ((M.getD k []).length : Int) > 0 := of_decide_eq_true hp
   refine vcall_io 0 ?_
   simp only [wq, simprocAttr]
   refine vxcall_ex (once_vx A c r b i h 2 hi hl (by omega)) ?_
   rintro pv ot ⟨d, i0, h0, r0, rfl, hi0, rfl⟩
   simp only [wq, simprocAttr]
   refine hK _ ?_
   clear hK K
   try refine vthen_n ?_
   repeat refine VW.seq ?_
   refine VW.cond rfl (fun hc => ?_) (fun hc => ?_)
   ·skip
    repeat refine VW.seq ?_
    refine VW.any hT hm fun K hK W hW => ?_
    apply cutl; intro tK
    apply cutl; intro t262143
    apply cutl; intro t131071
    apply cutl; intro t65535
    apply cutl; intro t65519
    apply cutl; intro t32767
    apply cutl; intro t65511
    apply cutl; intro t32751
    apply cutl; intro t16383
    apply cutl; intro t65509
    apply cutl; intro t32743
    apply cutl; intro t16367
    apply cutl; intro t12287
    apply cutl; intro t32741
    apply cutl; intro t16359
    apply cutl; intro t12271
    apply cutl; intro t10239
    apply cutl; intro t16357
    apply cutl; intro t12263
    apply cutl; intro t10223
    apply cutl; intro t9215
    apply cutl; intro t12261
    apply cutl; intro t10215
    apply cutl; intro t9199
    apply cutl; intro t8703
    apply cutl; intro t10213
    apply cutl; intro t9191
    apply cutl; intro t8687
    apply cutl; intro t8575
    apply cutl; intro t9189
    apply cutl; intro t8679
    apply cutl; intro t8559
    apply cutl; intro t8677
    apply cutl; intro t8551
    ·refine hW.takeF 0 0 1 _ (by kernel_rfl) ?_
     simp only [wy, wq, simprocAttr]
     refine hW.take 1 2 5 _ (by kernel_rfl) ?_
     simp only [wy, wq, simprocAttr]
     refine hW.take 5 5 37 _ (by kernel_rfl) ?_
     simp only [wy, wq, simprocAttr]
     refine hW.takeF 37 6 101 _ (by kernel_rfl) ?_
     simp only [wy, wq, simprocAttr]
     refine hW.take 101 8 357 _ (by kernel_rfl) ?_
     simp only [wy, wq, simprocAttr]
     refine hW.take 357 13 8549 _ (by kernel_rfl) ?_
     simp only [wy, wq, simprocAttr]
     refine hW.all 8549 [(1, 8551), (7, 8677)] _ (by kernel_rfl) (by simp) ?_
     simp only [wy, wq, simprocAttr]
     exact ⟨t8551.h, t8677.h⟩
    ·refine hW.all 8551 [(3, 8559), (7, 8679)] _ (by kernel_rfl) (by simp) ?_
     simp only [wy, wq, simprocAttr]
     exact ⟨⟨hJ, t8559.h⟩, t8679.h⟩
    ·refine hW.all 8677 [(1, 8679), (9, 9189)] _ (by kernel_rfl) (by simp) ?_
     simp only [wy, wq, simprocAttr]
     exact ⟨t8679.h, ⟨hJ, t9189.h⟩⟩
    ·refine hW.all 8559 [(4, 8575), (7, 8687)] _ (by kernel_rfl) (by simp) ?_
     simp only [wy, wq, simprocAttr]
     exact ⟨t8575.h, t8687.h⟩
    ·refine hW.all 8679 [(3, 8687), (9, 9191)] _ (by kernel_rfl) (by simp) ?_
     simp only [wy, wq, simprocAttr]
     exact ⟨⟨hJ, t8687.h⟩, ⟨hJ, t9191.h⟩⟩
    ·refine hW.all 9189 [(1, 9191), (10, 10213)] _ (by kernel_rfl) (by simp) ?_
     simp only [wy, wq, simprocAttr]
     exact ⟨t9191.h, t10213.h⟩
    ·refine hW.all 8575 [(7, 8703)] _ (by kernel_rfl) (by simp) ?_
     simp only [wy, wq, simprocAttr]
     exact t8703.h
    ·refine hW.all 8687 [(4, 8703), (9, 9199)] _ (by kernel_rfl) (by simp) ?_
     simp only [wy, wq, simprocAttr]
     exact ⟨t8703.h, ⟨hJ, t9199.h⟩⟩
    ·refine hW.all 9191 [(3, 9199), (10, 10215)] _ (by kernel_rfl) (by simp) ?_
     simp only [wy, wq, simprocAttr]
     exact ⟨⟨hJ, t9199.h⟩, t10215.h⟩
    ·refine hW.all 10213 [(1, 10215), (11, 12261)] _ (by kernel_rfl) (by simp) ?_
     simp only [wy, wq, simprocAttr]
     exact ⟨t10215.h, t12261.h⟩
    ·refine hW.all 8703 [(9, 9215)] _ (by kernel_rfl) (by simp) ?_
     simp only [wy, wq, simprocAttr]
     exact ⟨hJ, t9215.h⟩
    ·refine hW.all 9199 [(4, 9215), (10, 10223)] _ (by kernel_rfl) (by simp) ?_
     simp only [wy, wq, simprocAttr]
     exact ⟨t9215.h, t10223.h⟩
    ·refine hW.all 10215 [(3, 10223), (11, 12263)] _ (by kernel_rfl) (by simp) ?_
     simp only [wy, wq, simprocAttr]
     exact ⟨⟨hJ, t10223.h⟩, t12263.h⟩
    ·refine hW.all 12261 [(1, 12263), (12, 16357)] _ (by kernel_rfl) (by simp) ?_
     simp only [wy, wq, simprocAttr]
     refine ⟨?_, ?_⟩
     ·exact t12263.h
     ·refine vcall_io 0 ?_
      simp only [wq, simprocAttr]
      refine vxcall_ex (below_vx A c r0 b i0 h0 ((M.getD k []).length : Nat) hi0 hl (by omega)) ?_
      rintro pv ot ⟨m1, i1, h1, r1, rfl, ha1, hb1, hi1, rfl⟩
      simp only [wq, simprocAttr]
      revert m1 i1 h1 r1 ha1 hb1 hi1
      exact t16357.h
    ·refine hW.all 9215 [(10, 10239)] _ (by kernel_rfl) (by simp) ?_
     simp only [wy, wq, simprocAttr]
     exact t10239.h
    ·refine hW.all 10223 [(4, 10239), (11, 12271)] _ (by kernel_rfl) (by simp) ?_
     simp only [wy, wq, simprocAttr]
     exact ⟨t10239.h, t12271.h⟩
    ·refine hW.all 12263 [(3, 12271), (12, 16359)] _ (by kernel_rfl) (by simp) ?_
     simp only [wy, wq, simprocAttr]
     refine ⟨?_, ?_⟩
     ·refine ⟨hJ, ?_⟩
      exact t12271.h
     ·refine vcall_io 0 ?_
      simp only [wq, simprocAttr]
      refine vxcall_ex (below_vx A c r0 b i0 h0 ((M.getD k []).length : Nat) hi0 hl (by omega)) ?_
      rintro pv ot ⟨m1, i1, h1, r1, rfl, ha1, hb1, hi1, rfl⟩
      simp only [wq, simprocAttr]
      revert m1 i1 h1 r1 ha1 hb1 hi1
      exact t16359.h
    ·intro m1 i1 h1 r1 ha1 hb1 hi1
     refine hW.all 16357 [(1, 16359), (14, 32741)] _ (by kernel_rfl) (by simp) ?_
     simp only [wy, wq, simprocAttr]
     refine ⟨?_, ?_⟩
     ·revert m1 i1 h1 r1 ha1 hb1 hi1
      exact t16359.h
     ·refine vcall_io 0 ?_
      simp only [wq, simprocAttr]
      refine vxcall_ex (below_vx A c r1 b i1 h1 9 hi1 hl (by omega)) ?_
      rintro pv ot ⟨m2, i2, h2, r2, rfl, ha2, hb2, hi2, rfl⟩
      simp only [wq, simprocAttr]
      revert m1 i1 h1 r1 ha1 hb1 hi1 m2 i2 h2 r2 ha2 hb2 hi2
      exact t32741.h
    ·refine hW.all 10239 [(11, 12287)] _ (by kernel_rfl) (by simp) ?_
     simp only [wy, wq, simprocAttr]
     exact t12287.h
    ·refine hW.all 12271 [(4, 12287), (12, 16367)] _ (by kernel_rfl) (by simp) ?_
     simp only [wy, wq, simprocAttr]
     refine ⟨?_, ?_⟩
     ·exact t12287.h
     ·refine vcall_io 0 ?_
      simp only [wq, simprocAttr]
      refine vxcall_ex (below_vx A c r0 b i0 h0 ((M.getD k []).length : Nat) hi0 hl (by omega)) ?_
      rintro pv ot ⟨m1, i1, h1, r1, rfl, ha1, hb1, hi1, rfl⟩
      simp only [wq, simprocAttr]
      revert m1 i1 h1 r1 ha1 hb1 hi1
      exact t16367.h
    ·intro m1 i1 h1 r1 ha1 hb1 hi1
     refine hW.all 16359 [(3, 16367), (14, 32743)] _ (by kernel_rfl) (by simp) ?_
     simp only [wy, wq, simprocAttr]
     refine ⟨?_, ?_⟩
     ·refine ⟨hJ, ?_⟩
      revert m1 i1 h1 r1 ha1 hb1 hi1
      exact t16367.h
     ·refine vcall_io 0 ?_
      simp only [wq, simprocAttr]
      refine vxcall_ex (below_vx A c r1 b i1 h1 9 hi1 hl (by omega)) ?_
      rintro pv ot ⟨m2, i2, h2, r2, rfl, ha2, hb2, hi2, rfl⟩
      simp only [wq, simprocAttr]
      revert m1 i1 h1 r1 ha1 hb1 hi1 m2 i2 h2 r2 ha2 hb2 hi2
      exact t32743.h
    ·intro m1 i1 h1 r1 ha1 hb1 hi1 m2 i2 h2 r2 ha2 hb2 hi2
     refine hW.all 32741 [(1, 32743), (15, 65509)] _ (by kernel_rfl) (by simp) ?_
     simp only [wy, wq, simprocAttr]
     refine ⟨?_, ?_⟩
     ·revert m1 i1 h1 r1 ha1 hb1 hi1 m2 i2 h2 r2 ha2 hb2 hi2
      exact t32743.h
     ·revert m1 i1 h1 r1 ha1 hb1 hi1 m2 i2 h2 r2 ha2 hb2 hi2
      exact t65509.h
    ·refine hW.all 12287 [(12, 16383)] _ (by kernel_rfl) (by simp) ?_
     simp only [wy, wq, simprocAttr]
     skip
     refine vcall_io 0 ?_
     simp only [wq, simprocAttr]
     refine vxcall_ex (below_vx A c r0 b i0 h0 ((M.getD k []).length : Nat) hi0 hl (by omega)) ?_
     rintro pv ot ⟨m1, i1, h1, r1, rfl, ha1, hb1, hi1, rfl⟩
     simp only [wq, simprocAttr]
     revert m1 i1 h1 r1 ha1 hb1 hi1
     exact t16383.h
    ·intro m1 i1 h1 r1 ha1 hb1 hi1
     refine hW.all 16367 [(4, 16383), (14, 32751)] _ (by kernel_rfl) (by simp) ?_
     simp only [wy, wq, simprocAttr]
     refine ⟨?_, ?_⟩
     ·revert m1 i1 h1 r1 ha1 hb1 hi1
      exact t16383.h
     ·refine vcall_io 0 ?_
      simp only [wq, simprocAttr]
      refine vxcall_ex (below_vx A c r1 b i1 h1 9 hi1 hl (by omega)) ?_
      rintro pv ot ⟨m2, i2, h2, r2, rfl, ha2, hb2, hi2, rfl⟩
      simp only [wq, simprocAttr]
      revert m1 i1 h1 r1 ha1 hb1 hi1 m2 i2 h2 r2 ha2 hb2 hi2
      exact t32751.h
    ·intro m1 i1 h1 r1 ha1 hb1 hi1 m2 i2 h2 r2 ha2 hb2 hi2
     refine hW.all 32743 [(3, 32751), (15, 65511)] _ (by kernel_rfl) (by simp) ?_
     simp only [wy, wq, simprocAttr]
     refine ⟨?_, ?_⟩
     ·refine ⟨hJ, ?_⟩
      revert m1 i1 h1 r1 ha1 hb1 hi1 m2 i2 h2 r2 ha2 hb2 hi2
      exact t32751.h
     ·revert m1 i1 h1 r1 ha1 hb1 hi1 m2 i2 h2 r2 ha2 hb2 hi2
      exact t65511.h
    ·intro m1 i1 h1 r1 ha1 hb1 hi1 m2 i2 h2 r2 ha2 hb2 hi2
     refine hW.all 65509 [(1, 65511)] _ (by kernel_rfl) (by simp) ?_
     simp only [wy, wq, simprocAttr]
     skip
     revert m1 i1 h1 r1 ha1 hb1 hi1 m2 i2 h2 r2 ha2 hb2 hi2
     exact t65511.h
    ·intro m1 i1 h1 r1 ha1 hb1 hi1
     refine hW.all 16383 [(14, 32767)] _ (by kernel_rfl) (by simp) ?_
     simp only [wy, wq, simprocAttr]
     skip
     refine vcall_io 0 ?_
     simp only [wq, simprocAttr]
     refine vxcall_ex (below_vx A c r1 b i1 h1 9 hi1 hl (by omega)) ?_
     rintro pv ot ⟨m2, i2, h2, r2, rfl, ha2, hb2, hi2, rfl⟩
     simp only [wq, simprocAttr]
     revert m1 i1 h1 r1 ha1 hb1 hi1 m2 i2 h2 r2 ha2 hb2 hi2
     exact t32767.h
    ·intro m1 i1 h1 r1 ha1 hb1 hi1 m2 i2 h2 r2 ha2 hb2 hi2
     refine hW.all 32751 [(4, 32767), (15, 65519)] _ (by kernel_rfl) (by simp) ?_
     simp only [wy, wq, simprocAttr]
     refine ⟨?_, ?_⟩
     ·revert m1 i1 h1 r1 ha1 hb1 hi1 m2 i2 h2 r2 ha2 hb2 hi2
      exact t32767.h
     ·revert m1 i1 h1 r1 ha1 hb1 hi1 m2 i2 h2 r2 ha2 hb2 hi2
      exact t65519.h
    ·intro m1 i1 h1 r1 ha1 hb1 hi1 m2 i2 h2 r2 ha2 hb2 hi2
     refine hW.all 65511 [(3, 65519)] _ (by kernel_rfl) (by simp) ?_
     simp only [wy, wq, simprocAttr]
     skip
     refine ⟨hJ, ?_⟩
     revert m1 i1 h1 r1 ha1 hb1 hi1 m2 i2 h2 r2 ha2 hb2 hi2
     exact t65519.h
    ·intro m1 i1 h1 r1 ha1 hb1 hi1 m2 i2 h2 r2 ha2 hb2 hi2
     refine hW.all 32767 [(15, 65535)] _ (by kernel_rfl) (by simp) ?_
     simp only [wy, wq, simprocAttr]
     skip
     revert m1 i1 h1 r1 ha1 hb1 hi1 m2 i2 h2 r2 ha2 hb2 hi2
     exact t65535.h
    ·intro m1 i1 h1 r1 ha1 hb1 hi1 m2 i2 h2 r2 ha2 hb2 hi2
     refine hW.all 65519 [(4, 65535)] _ (by kernel_rfl) (by simp) ?_
     simp only [wy, wq, simprocAttr]
     skip
     revert m1 i1 h1 r1 ha1 hb1 hi1 m2 i2 h2 r2 ha2 hb2 hi2
     exact t65535.h
    ·intro m1 i1 h1 r1 ha1 hb1 hi1 m2 i2 h2 r2 ha2 hb2 hi2
     refine hW.all 65535 [(16, 131071)] _ (by kernel_rfl) (by simp) ?_
     simp only [wy, wq, simprocAttr]
     skip
     refine ⟨decide_eq_true ⟨ha1, hb1⟩, ?_⟩
     revert m1 i1 h1 r1 ha1 hb1 hi1 m2 i2 h2 r2 ha2 hb2 hi2
     exact t131071.h
    ·intro m1 i1 h1 r1 ha1 hb1 hi1 m2 i2 h2 r2 ha2 hb2 hi2
     refine hW.all 131071 [(17, 262143)] _ (by kernel_rfl) (by simp) ?_
     simp only [wy, wq, simprocAttr]
     skip
     revert m1 i1 h1 r1 ha1 hb1 hi1 m2 i2 h2 r2 ha2 hb2 hi2
     exact t262143.h
    ·intro m1 i1 h1 r1 ha1 hb1 hi1 m2 i2 h2 r2 ha2 hb2 hi2
     refine hW.done 262143 _ (by kernel_rfl) ?_
     revert m1 i1 h1 r1 ha1 hb1 hi1 m2 i2 h2 r2 ha2 hb2 hi2
     exact tK.h
    intro m1 i1 h1 r1 ha1 hb1 hi1 m2 i2 h2 r2 ha2 hb2 hi2
    refine hK _ ?_
    clear hW W hK K
    show vthen _ _ _ .normal _
    refine vthen_n ?_
    repeat refine VW.seq ?_
    refine VW.regl hT fun K hK => ?_
    simp only [wq, simprocAttr]
    refine hK _ ?_
    clear hK K
    try refine vthen_n ?_
    refine ⟨(k + 1, M.set k ((M.getD k []).set m1.toNat (IntKind.i64.wrap (1 + m2))), i2, h2, r2), ⟨by show k + 1 ≤ _; omega, memR_set hM hlt (by rw [wrap64 (by omega) (by omega)]; omega) (by rw [wrap64 (by omega) (by omega)]; omega), hi2⟩, ?_, by show s.length - (k + 1) < s.length - k; omega⟩
    simp only [wn, wq, simprocAttr]
    rw [wrap64 (x := 1 + m2) (by omega) (by omega), wrap64 (by omega) (by omega), show (k : Int) + 1 = ((k + 1 : Nat) : Int) by omega]
   ·refine VW.skip ?_
    show vthen _ _ _ .normal _
    refine vthen_n ?_
    repeat refine VW.seq ?_
    refine VW.regl hT fun K hK => ?_
    simp only [wq, simprocAttr]
    refine hK _ ?_
    clear hK K
    try refine vthen_n ?_
    refine ⟨(k + 1, M, i0, h0, r0), ⟨by show k + 1 ≤ _; omega, hM, hi0⟩, ?_, by show s.length - (k + 1) < s.length - k; omega⟩
    simp only [wn, wq, simprocAttr]
    rw [wrap64 (by omega) (by omega), show (k : Int) + 1 = ((k + 1 : Nat) : Int) by omega]
  ·refine hK _ ?_
   clear hK K
   try refine vthen_n ?_
   repeat refine VW.seq ?_
   refine VW.cond rfl (fun hc => ?_) (fun hc => ?_)
   ·cases hc
   ·refine VW.skip ?_
    show vthen _ _ _ .normal _
    refine vthen_n ?_
    repeat refine VW.seq ?_
    refine VW.regl hT fun K hK => ?_
    simp only [wq, simprocAttr]
    refine hK _ ?_
    clear hK K
    try refine vthen_n ?_
    refine ⟨(k + 1, M, i, h, r), ⟨by show k + 1 ≤ _; omega, hM, hi⟩, ?_, by show s.length - (k + 1) < s.length - k; omega⟩
    simp only [wn, wq, simprocAttr]
    rw [wrap64 (by omega) (by omega), show (k : Int) + 1 = ((k + 1 : Nat) : Int) by omega]
 have hfx := fun g h1 h2 => hfm M g hM h1 h2
 refine VW.exit ?_
 show vthen _ _ _ .normal _
 refine vthen_n ?_
 repeat refine VW.seq ?_
 refine VW.regl hT fun K hK => ?_
 simp only [wq, simprocAttr]
 refine vcall_io 0 ?_
 simp only [wq, simprocAttr]
 refine vxcall_ex (once_vx A c r b i h 3 hi hl (by omega)) ?_
 rintro pv ot ⟨d, i0, h0, r0, rfl, hi0, rfl⟩
 simp only [wq, simprocAttr]
 refine hK _ ?_
 clear hK K
 try refine vthen_n ?_
 repeat refine VW.seq ?_
 refine VW.cond rfl (fun hc => ?_) (fun hc => ?_)
 ·repeat refine VW.seq ?_
  refine VW.regl hT fun K hK => ?_
  simp only [wq, simprocAttr]
  refine vcall_io 0 ?_
  simp only [wq, simprocAttr]
  refine vxcall_ex (guardD_vx A c r0 b i0 h0 t hi0 hl (by omega)) ?_
  rintro pv ot ⟨g2, i1, h1, r1, rfl, hg2, hg3, hi1, rfl⟩
  simp only [wq, simprocAttr]
  refine hK _ ?_
  clear hK K
  try refine vthen_n ?_
  show vthen _ _ _ .normal _
  refine vthen_n ?_
  repeat refine VW.seq ?_
  refine VW.regl hT fun K hK => ?_
  simp only [wq, simprocAttr]
  refine hK _ ?_
  clear hK K
  try refine vthen_n ?_
  exact VW.ret ⟨.inl rfl, _, _, _, _, rfl, ⟨0, rfl⟩, _, i1, h1, r1, rfl, ⟨hfx g2 hg2 hg3, ht11⟩, hi1, rfl⟩
 ·refine VW.skip (vthen_n ?_)
  repeat refine VW.seq ?_
  refine VW.regl hT fun K hK => ?_
  simp only [wq, simprocAttr]
  refine hK _ ?_
  clear hK K
  try refine vthen_n ?_
  exact VW.ret ⟨.inl rfl, _, _, _, _, rfl, ⟨0, rfl⟩, _, i0, h0, r0, rfl, ⟨hfx g hg0 hg1, ht11⟩, hi0, rfl⟩
end Go.Proofs.YtoeblmcibheldaaDoor.V.W
end
section
namespace Go.Proofs.YtoeblmcibheldaaDoor.V.W
open Go Go.RowKit
theorem guard_sz {t : List Nd} {g : List Bool} (h : guardOk t g = true) : g.length = t.length ∧ treeOk t = true := by
 rw [guardOk, Bool.and_eq_true, Bool.and_eq_true] at h
 exact ⟨eq_of_beq h.2.1, h.1⟩
theorem fab_szs {t : List Nd} {s : List Int} {w : List (Int × Int)} {m : List (List Int)} {g : List Bool} (h : fabOk (t, s, w, m, g) = true) : 1 ≤ t.length ∧ t.length ≤ 12 ∧ w.length = t.length ∧ s.length = t.length ∧ m.length = t.length ∧ g.length = t.length := by
 obtain ⟨h1, h2, h3, h4, h5⟩ := fab_parts h
 have hn := h1
 rw [newOk, fits, Bool.and_eq_true, Bool.and_eq_true] at hn
 have hok := sizesOk_iff.1 hn.1.1
 have htl := treeOk_len hok.1
 have hg := guard_sz h4
 refine ⟨htl.1, htl.2, ?_, hok.2.1, by omega, hg.1⟩
 rw [← h2, allBars, bars_len]
end Go.Proofs.YtoeblmcibheldaaDoor.V.W
end
section
namespace Go.Proofs.YtoeblmcibheldaaDoor.V.W
open Go Go.RowKit
def intR (A : Option Addr) (c : Nat) (b : List Int) (pv ot : PV) : Prop := ∃ (m i h : Int) (r : Fl), pv = .v false (.int .i64) (m) ∧ m ≤ 65535 ∧ 0 ≤ i ∧ ot = .root bC sC (.pr (.kz A c) r) (b, i, h)
theorem fab_top {t : List Nd} {s : List Int} {w : List (Int × Int)} {m : List (List Int)} {g : List Bool} (h : fabOk (t, s, w, m, g) = true) {j : Nat} (hj : j < t.length) : 0 ≤ (w.getD j (0, 0)).2 ∧ (w.getD j (0, 0)).2 + (w.getD j (0, 0)).1 ≤ 65536 := by
 rw [fabOk, Bool.and_eq_true, Bool.and_eq_true] at h
 obtain ⟨h1, h2, -⟩ := h
 have h1 : newOk t s = true := h1
 have h2 : allBars t s = w := of_decide_eq_true h2
 rw [newOk, fits, Bool.and_eq_true, Bool.and_eq_true] at h1
 have hs := h1.1.1
 have h65 : win t s 0 ≤ 65536 := of_decide_eq_true h1.1.2
 have hok : treeOk t = true := (sizesOk_iff.1 hs).1
 have := pos_bd hok s j j (Nat.le_refl _) hj
 rw [← h2, allBars, bars_get _ _ _ hj]
 refine ⟨?_, ?_⟩
 ·show 0 ≤ (if true = true then (pos t s j : Int) else 0)
  rw [if_pos rfl]
  omega
 ·show (if true = true then (pos t s j : Int) else 0) + (win t s j : Int) ≤ 65536
  rw [if_pos rfl]
  omega
set_option maxRecDepth 20000 in
set_option maxHeartbeats 4000000 in
theorem addrD_vx (A : Option Addr) (c : Nat) (r : Fl) (b : List Int) (i h : Int) (x : Fab) (hx : fabOk x = true) (hi : 0 ≤ i) (hl : b.length ≤ 1048576) :
  VX Tryd.prog 61 [.root bC sC (.pr (.kz A c) r) (b, i, h), .v true sFi x] 0 (intR A c b) := by
 obtain ⟨t, s, w, m, g⟩ := x
 obtain ⟨z1, z2, z3, -, -, -⟩ := fab_szs hx
 refine VX.of_box hT Tryd.func61 rfl (by kernel_rfl) [(.tmp 4, false, .int .i64)] (by kernel_rfl) rfl fun bb => ?_
 show VW _ _ ([.root (.ibox 82 bb) sC (.pr (.kz A c) r) (b, i, h), .v true sFi (t, s, w, m, g), D, D, D, D, D, D, D, D, D, D, D, D, D, D, D, D, D, D, D, D, D, D, D, D, D, D, D, D, D, D, D, D, D, D, D, D, D, D, D, D, D, D, D, D, D, D, D, D, D, D, D, D]) _
 repeat refine VW.seq ?_
 refine VW.regl hT fun K hK => ?_
 simp only [wq, simprocAttr]
 refine hK _ ?_
 clear hK K
 try refine vthen_n ?_
 repeat refine VW.seq ?_
 refine VW.regl hT fun K hK => ?_
 simp only [wq, simprocAttr]
 refine vcall_io 0 ?_
 simp only [wq, simprocAttr]
 refine vxcall_ex (below_vx A c r b i h 300 hi hl (by omega)) ?_
 rintro pv ot ⟨m0, i0, h0, r0, rfl, ha0, hb0, hi0, rfl⟩
 simp only [wq, simprocAttr]
 refine vcall_io 0 ?_
 simp only [wq, simprocAttr]
 refine vxcall_ex (pick_vx A c r0 b i0 h0 [0, -1, 1000, 65535, m0] hi0 hl (by simp) (by simp)) ?_
 rintro pv ot ⟨m1, i1, h1, r1, rfl, ha1, hi1, rfl⟩
 have hm1 : m1 ≤ 65535 := by
  simp only [List.mem_cons, List.not_mem_nil, or_false] at ha1
  omega
 simp only [wq, simprocAttr]
 refine hK _ ?_
 clear hK K
 try refine vthen_n ?_
 repeat refine VW.seq ?_
 refine VW.regl hT fun K hK => ?_
 simp only [wq, simprocAttr]
 refine hK _ ?_
 clear hK K
 try refine vthen_n ?_
 repeat refine VW.seq ?_
 refine VW.block ?_
 refine VW.loop (α := Nat × Int × Int × Int × Fl) [(0, none), (3, none), (5, none), (6, none)] (fun q => [.root (.ibox 82 bb) sC (.pr (.kz A c) q.2.2.2.2) (b, q.2.2.1, q.2.2.2.1), D, D, .root (.box 50) sFi .fz (t, s, w, m, g), D, .v false (.int .i64) (q.2.1), .v false (.int .i64) (q.1), D, D, D, D, D, D, D, D, D, D, D, D, D, D, D, D, D, D, D, D, D, D, D, D, D, D, D, D, D, D, D, D, D, D, D, D, D, D, D, D, D, D, D, D, D, D, D]) (fun q => q.1 ≤ 3 ∧ q.2.1 ≤ 65535 ∧ 0 ≤ q.2.2.1) (fun q => 3 - q.1) ⟨(0, m1, i1, h1, r1), ⟨Nat.zero_le _, hm1, hi1⟩, ?_⟩ fun q hq => ?_
 ·simp only [wn, wq, simprocAttr]
  try rfl
 obtain ⟨k, v, i, h, r⟩ := q
 obtain ⟨hk, hv, hi⟩ := hq
 simp only at hk hv hi ⊢
 repeat refine VW.seq ?_
 refine VW.regl hT fun K hK => ?_
 simp only [wq, simprocAttr]
 refine hK _ ?_
 clear hK K
 try refine vthen_n ?_
 repeat refine VW.seq ?_
 refine VW.cond rfl (fun hc => ?_) (fun hc => ?_)
 ·have hlt : k < 3 := by
   have : (k : Int) < 3 := of_decide_eq_true hc
   omega
  refine VW.skip (vthen_n ?_)
  repeat refine VW.seq ?_
  refine VW.block ?_
  repeat refine VW.seq ?_
  refine VW.regl hT fun K hK => ?_
  simp only [wq, simprocAttr]
  refine vcall_io 0 ?_
  simp only [wq, simprocAttr]
  refine vxcall_ex (below_vx A c r b i h (w.length : Nat) hi hl (by omega)) ?_
  rintro pv ot ⟨m1, i1, h1, r1, rfl, ha1, hb1, hi1, rfl⟩
  simp only [wq, simprocAttr]
  refine hK _ ?_
  clear hK K
  try refine vthen_n ?_
  have hJ : decide (0 ≤ m1 ∧ m1 < (w.length : Int)) = true := decide_eq_true ⟨ha1, hb1⟩
  have hJt : decide (0 ≤ m1 ∧ m1 < (t.length : Int)) = true := decide_eq_true ⟨ha1, by omega⟩
  repeat refine VW.seq ?_
  refine VW.regl hT fun K hK => ?_
  simp only [wq, simprocAttr]
  refine ⟨hJ, ?_⟩
  refine vbr (fun hp => ?_) (fun hp => ?_) <;> simp only [wq, simprocAttr]
  ·have hp : (w.getD m1.toNat (0, 0)).1 > 0 := of_decide_eq_true hp
   refine ⟨hJt, ?_⟩
   refine hK _ ?_
   clear hK K
   try refine vthen_n ?_
   repeat refine VW.seq ?_
   refine VW.cond rfl (fun hc => ?_) (fun hc => ?_)
   ·skip
    repeat refine VW.seq ?_
    refine VW.any hT hm fun K hK W hW => ?_
    apply cutl; intro tK
    apply cutl; intro t65535
    apply cutl; intro t32767
    apply cutl; intro t16383
    apply cutl; intro t16351
    apply cutl; intro t8191
    apply cutl; intro t16335
    apply cutl; intro t8159
    apply cutl; intro t4095
    apply cutl; intro t16327
    apply cutl; intro t8143
    apply cutl; intro t4063
    apply cutl; intro t2047
    apply cutl; intro t16325
    apply cutl; intro t8135
    apply cutl; intro t4047
    apply cutl; intro t2015
    apply cutl; intro t1023
    apply cutl; intro t8133
    apply cutl; intro t4039
    apply cutl; intro t1999
    apply cutl; intro t991
    apply cutl; intro t767
    apply cutl; intro t4037
    apply cutl; intro t1991
    apply cutl; intro t975
    apply cutl; intro t735
    apply cutl; intro t1989
    apply cutl; intro t967
    apply cutl; intro t719
    apply cutl; intro t965
    apply cutl; intro t711
    ·refine hW.takeF 0 0 1 _ (by kernel_rfl) ?_
     simp only [wy, wq, simprocAttr]
     refine hW.take 1 2 5 _ (by kernel_rfl) ?_
     simp only [wy, wq, simprocAttr]
     refine hW.take 5 6 69 _ (by kernel_rfl) ?_
     simp only [wy, wq, simprocAttr]
     refine hW.takeF 69 7 197 _ (by kernel_rfl) ?_
     simp only [wy, wq, simprocAttr]
     refine hW.take 197 9 709 _ (by kernel_rfl) ?_
     simp only [wy, wq, simprocAttr]
     refine hW.all 709 [(1, 711), (8, 965)] _ (by kernel_rfl) (by simp) ?_
     simp only [wy, wq, simprocAttr]
     exact ⟨t711.h, t965.h⟩
    ·refine hW.all 711 [(3, 719), (8, 967)] _ (by kernel_rfl) (by simp) ?_
     simp only [wy, wq, simprocAttr]
     exact ⟨⟨hJ, t719.h⟩, t967.h⟩
    ·refine hW.all 965 [(1, 967), (10, 1989)] _ (by kernel_rfl) (by simp) ?_
     simp only [wy, wq, simprocAttr]
     exact ⟨t967.h, ⟨hJ, t1989.h⟩⟩
    ·refine hW.all 719 [(4, 735), (8, 975)] _ (by kernel_rfl) (by simp) ?_
     simp only [wy, wq, simprocAttr]
     exact ⟨t735.h, t975.h⟩
    ·refine hW.all 967 [(3, 975), (10, 1991)] _ (by kernel_rfl) (by simp) ?_
     simp only [wy, wq, simprocAttr]
     exact ⟨⟨hJ, t975.h⟩, ⟨hJ, t1991.h⟩⟩
    ·refine hW.all 1989 [(1, 1991), (11, 4037)] _ (by kernel_rfl) (by simp) ?_
     simp only [wy, wq, simprocAttr]
     exact ⟨t1991.h, t4037.h⟩
    ·refine hW.all 735 [(5, 767), (8, 991)] _ (by kernel_rfl) (by simp) ?_
     simp only [wy, wq, simprocAttr]
     exact ⟨t767.h, t991.h⟩
    ·refine hW.all 975 [(4, 991), (10, 1999)] _ (by kernel_rfl) (by simp) ?_
     simp only [wy, wq, simprocAttr]
     exact ⟨t991.h, ⟨hJ, t1999.h⟩⟩
    ·refine hW.all 1991 [(3, 1999), (11, 4039)] _ (by kernel_rfl) (by simp) ?_
     simp only [wy, wq, simprocAttr]
     exact ⟨⟨hJ, t1999.h⟩, t4039.h⟩
    ·refine hW.all 4037 [(1, 4039), (12, 8133)] _ (by kernel_rfl) (by simp) ?_
     simp only [wy, wq, simprocAttr]
     exact ⟨t4039.h, t8133.h⟩
    ·refine hW.all 767 [(8, 1023)] _ (by kernel_rfl) (by simp) ?_
     simp only [wy, wq, simprocAttr]
     exact t1023.h
    ·refine hW.all 991 [(5, 1023), (10, 2015)] _ (by kernel_rfl) (by simp) ?_
     simp only [wy, wq, simprocAttr]
     exact ⟨t1023.h, ⟨hJ, t2015.h⟩⟩
    ·refine hW.all 1999 [(4, 2015), (11, 4047)] _ (by kernel_rfl) (by simp) ?_
     simp only [wy, wq, simprocAttr]
     exact ⟨t2015.h, t4047.h⟩
    ·refine hW.all 4039 [(3, 4047), (12, 8135)] _ (by kernel_rfl) (by simp) ?_
     simp only [wy, wq, simprocAttr]
     exact ⟨⟨hJ, t4047.h⟩, t8135.h⟩
    ·refine hW.all 8133 [(1, 8135), (13, 16325)] _ (by kernel_rfl) (by simp) ?_
     simp only [wy, wq, simprocAttr]
     refine ⟨?_, ?_⟩
     ·exact t8135.h
     ·refine vcall_io 0 ?_
      simp only [wq, simprocAttr]
      refine vxcall_ex (below_vx A c r1 b i1 h1 (w.getD m1.toNat (0, 0)).1 hi1 hl (by omega)) ?_
      rintro pv ot ⟨m2, i2, h2, r2, rfl, ha2, hb2, hi2, rfl⟩
      simp only [wq, simprocAttr]
      revert m2 i2 h2 r2 ha2 hb2 hi2
      exact t16325.h
    ·refine hW.all 1023 [(10, 2047)] _ (by kernel_rfl) (by simp) ?_
     simp only [wy, wq, simprocAttr]
     exact ⟨hJ, t2047.h⟩
    ·refine hW.all 2015 [(5, 2047), (11, 4063)] _ (by kernel_rfl) (by simp) ?_
     simp only [wy, wq, simprocAttr]
     exact ⟨t2047.h, t4063.h⟩
    ·refine hW.all 4047 [(4, 4063), (12, 8143)] _ (by kernel_rfl) (by simp) ?_
     simp only [wy, wq, simprocAttr]
     exact ⟨t4063.h, t8143.h⟩
    ·refine hW.all 8135 [(3, 8143), (13, 16327)] _ (by kernel_rfl) (by simp) ?_
     simp only [wy, wq, simprocAttr]
     refine ⟨?_, ?_⟩
     ·refine ⟨hJ, ?_⟩
      exact t8143.h
     ·refine vcall_io 0 ?_
      simp only [wq, simprocAttr]
      refine vxcall_ex (below_vx A c r1 b i1 h1 (w.getD m1.toNat (0, 0)).1 hi1 hl (by omega)) ?_
      rintro pv ot ⟨m2, i2, h2, r2, rfl, ha2, hb2, hi2, rfl⟩
      simp only [wq, simprocAttr]
      revert m2 i2 h2 r2 ha2 hb2 hi2
      exact t16327.h
    ·intro m2 i2 h2 r2 ha2 hb2 hi2
     refine hW.all 16325 [(1, 16327)] _ (by kernel_rfl) (by simp) ?_
     simp only [wy, wq, simprocAttr]
     skip
     revert m2 i2 h2 r2 ha2 hb2 hi2
     exact t16327.h
    ·refine hW.all 2047 [(11, 4095)] _ (by kernel_rfl) (by simp) ?_
     simp only [wy, wq, simprocAttr]
     exact t4095.h
    ·refine hW.all 4063 [(5, 4095), (12, 8159)] _ (by kernel_rfl) (by simp) ?_
     simp only [wy, wq, simprocAttr]
     exact ⟨t4095.h, t8159.h⟩
    ·refine hW.all 8143 [(4, 8159), (13, 16335)] _ (by kernel_rfl) (by simp) ?_
     simp only [wy, wq, simprocAttr]
     refine ⟨?_, ?_⟩
     ·exact t8159.h
     ·refine vcall_io 0 ?_
      simp only [wq, simprocAttr]
      refine vxcall_ex (below_vx A c r1 b i1 h1 (w.getD m1.toNat (0, 0)).1 hi1 hl (by omega)) ?_
      rintro pv ot ⟨m2, i2, h2, r2, rfl, ha2, hb2, hi2, rfl⟩
      simp only [wq, simprocAttr]
      revert m2 i2 h2 r2 ha2 hb2 hi2
      exact t16335.h
    ·intro m2 i2 h2 r2 ha2 hb2 hi2
     refine hW.all 16327 [(3, 16335)] _ (by kernel_rfl) (by simp) ?_
     simp only [wy, wq, simprocAttr]
     skip
     refine ⟨hJ, ?_⟩
     revert m2 i2 h2 r2 ha2 hb2 hi2
     exact t16335.h
    ·refine hW.all 4095 [(12, 8191)] _ (by kernel_rfl) (by simp) ?_
     simp only [wy, wq, simprocAttr]
     exact t8191.h
    ·refine hW.all 8159 [(5, 8191), (13, 16351)] _ (by kernel_rfl) (by simp) ?_
     simp only [wy, wq, simprocAttr]
     refine ⟨?_, ?_⟩
     ·exact t8191.h
     ·refine vcall_io 0 ?_
      simp only [wq, simprocAttr]
      refine vxcall_ex (below_vx A c r1 b i1 h1 (w.getD m1.toNat (0, 0)).1 hi1 hl (by omega)) ?_
      rintro pv ot ⟨m2, i2, h2, r2, rfl, ha2, hb2, hi2, rfl⟩
      simp only [wq, simprocAttr]
      revert m2 i2 h2 r2 ha2 hb2 hi2
      exact t16351.h
    ·intro m2 i2 h2 r2 ha2 hb2 hi2
     refine hW.all 16335 [(4, 16351)] _ (by kernel_rfl) (by simp) ?_
     simp only [wy, wq, simprocAttr]
     skip
     revert m2 i2 h2 r2 ha2 hb2 hi2
     exact t16351.h
    ·refine hW.all 8191 [(13, 16383)] _ (by kernel_rfl) (by simp) ?_
     simp only [wy, wq, simprocAttr]
     skip
     refine vcall_io 0 ?_
     simp only [wq, simprocAttr]
     refine vxcall_ex (below_vx A c r1 b i1 h1 (w.getD m1.toNat (0, 0)).1 hi1 hl (by omega)) ?_
     rintro pv ot ⟨m2, i2, h2, r2, rfl, ha2, hb2, hi2, rfl⟩
     simp only [wq, simprocAttr]
     revert m2 i2 h2 r2 ha2 hb2 hi2
     exact t16383.h
    ·intro m2 i2 h2 r2 ha2 hb2 hi2
     refine hW.all 16351 [(5, 16383)] _ (by kernel_rfl) (by simp) ?_
     simp only [wy, wq, simprocAttr]
     skip
     revert m2 i2 h2 r2 ha2 hb2 hi2
     exact t16383.h
    ·intro m2 i2 h2 r2 ha2 hb2 hi2
     refine hW.all 16383 [(14, 32767)] _ (by kernel_rfl) (by simp) ?_
     simp only [wy, wq, simprocAttr]
     skip
     revert m2 i2 h2 r2 ha2 hb2 hi2
     exact t32767.h
    ·intro m2 i2 h2 r2 ha2 hb2 hi2
     refine hW.all 32767 [(15, 65535)] _ (by kernel_rfl) (by simp) ?_
     simp only [wy, wq, simprocAttr]
     skip
     revert m2 i2 h2 r2 ha2 hb2 hi2
     exact t65535.h
    ·intro m2 i2 h2 r2 ha2 hb2 hi2
     refine hW.done 65535 _ (by kernel_rfl) ?_
     revert m2 i2 h2 r2 ha2 hb2 hi2
     exact tK.h
    intro m2 i2 h2 r2 ha2 hb2 hi2
    refine hK _ ?_
    clear hW W hK K
    have ht1 := fab_top hx (j := m1.toNat) (by omega)
    have ht2 : IntKind.i64.wrap ((w.getD m1.toNat (0, 0)).2 + m2) ≤ 65535 := by
     rw [wrap64 (by omega) (by omega)]
     omega
    show vthen _ _ _ .normal _
    refine vthen_n ?_
    repeat refine VW.seq ?_
    refine VW.regl hT fun K hK => ?_
    simp only [wq, simprocAttr]
    refine hK _ ?_
    clear hK K
    try refine vthen_n ?_
    refine ⟨(k + 1, IntKind.i64.wrap ((w.getD m1.toNat (0, 0)).2 + m2), i2, h2, r2), ⟨hlt, ht2, hi2⟩, ?_, by show 3 - (k + 1) < 3 - k; omega⟩
    simp only [wn, wq, simprocAttr]
    rw [wrap64 (x := (k : Int) + 1) (by omega) (by omega), show (k : Int) + 1 = ((k + 1 : Nat) : Int) by omega]
   ·refine VW.skip ?_
    show vthen _ _ _ .normal _
    refine vthen_n ?_
    repeat refine VW.seq ?_
    refine VW.regl hT fun K hK => ?_
    simp only [wq, simprocAttr]
    refine hK _ ?_
    clear hK K
    try refine vthen_n ?_
    refine ⟨(k + 1, v, i1, h1, r1), ⟨hlt, hv, hi1⟩, ?_, by show 3 - (k + 1) < 3 - k; omega⟩
    simp only [wn, wq, simprocAttr]
    rw [wrap64 (by omega) (by omega), show (k : Int) + 1 = ((k + 1 : Nat) : Int) by omega]
  ·refine hK _ ?_
   clear hK K
   try refine vthen_n ?_
   repeat refine VW.seq ?_
   refine VW.cond rfl (fun hc => ?_) (fun hc => ?_)
   ·cases hc
   ·refine VW.skip ?_
    show vthen _ _ _ .normal _
    refine vthen_n ?_
    repeat refine VW.seq ?_
    refine VW.regl hT fun K hK => ?_
    simp only [wq, simprocAttr]
    refine hK _ ?_
    clear hK K
    try refine vthen_n ?_
    refine ⟨(k + 1, v, i1, h1, r1), ⟨hlt, hv, hi1⟩, ?_, by show 3 - (k + 1) < 3 - k; omega⟩
    simp only [wn, wq, simprocAttr]
    rw [wrap64 (by omega) (by omega), show (k : Int) + 1 = ((k + 1 : Nat) : Int) by omega]
 ·refine VW.exit ?_
  show vthen _ _ _ .normal _
  refine vthen_n ?_
  repeat refine VW.seq ?_
  refine VW.regl hT fun K hK => ?_
  simp only [wq, simprocAttr]
  refine hK _ ?_
  clear hK K
  try refine vthen_n ?_
  exact VW.ret ⟨.inl rfl, _, _, _, _, rfl, ⟨0, rfl⟩, _, i, h, r, rfl, hv, hi, rfl⟩
theorem actOk1 {n x y : Int} (hn : inB n 0 11 = true) (hx : inB x 0 65535 = true) (hy : inB y 0 65535 = true) : actOk (1, n, x, y) = true := by simp [actOk, hn, hx, hy]
theorem actOk2 {n x : Int} (hn : inB n 0 11 = true) (hx : inB x 0 65535 = true) : actOk (2, n, x, 0) = true := by simp [actOk, hn, hx]
theorem actOk3 {k n : Int} (hk : k = 3 ∨ k = 4) (hn : inB n 0 11 = true) : actOk (k, n, 0, 0) = true := by rcases hk with rfl | rfl <;> simp [actOk, hn]
def actR (A : Option Addr) (c : Nat) (b : List Int) (pv ot : PV) : Prop := ∃ (a : Ac) (i h : Int) (r : Fl), pv = .v true sAct a ∧ actOk a = true ∧ 0 ≤ i ∧ ot = .root bC sC (.pr (.kz A c) r) (b, i, h)
set_option maxRecDepth 20000 in
set_option maxHeartbeats 4000000 in
theorem actD_vx (A : Option Addr) (c : Nat) (r : Fl) (b : List Int) (i h : Int) (x : Fab) (hx : fabOk x = true) (h11 : x.1.length ≤ 11) (hi : 0 ≤ i) (hl : b.length ≤ 1048576) :
  VX Tryd.prog 49 [.root bC sC (.pr (.kz A c) r) (b, i, h), .v true sFi x] 0 (actR A c b) := by
 have had := fun i h r (hi : 0 ≤ i) => addrD_vx A c r b i h x hx hi hl
 obtain ⟨t, s, w, m, g⟩ := x
 obtain ⟨z1, z2, z3, -, -, -⟩ := fab_szs hx
 have h11 : t.length ≤ 11 := h11
 refine VX.of_box hT Tryd.func49 rfl (by kernel_rfl) [(.cell 4 26, true, sAct)] (by kernel_rfl) rfl fun bb => ?_
 show VW _ _ ([.root (.ibox 82 bb) sC (.pr (.kz A c) r) (b, i, h), .v true sFi (t, s, w, m, g), D, D, D, D, D, D, D, D, D, D, D, D, D, D, D, D, D, D, D, D, D, D, D, D, D, D, D, D, D, D, D, D]) _
 repeat refine VW.seq ?_
 refine VW.regl hT fun K hK => ?_
 simp only [wq, simprocAttr]
 refine hK _ ?_
 clear hK K
 try refine vthen_n ?_
 repeat refine VW.seq ?_
 refine VW.any hT hm fun K hK W hW => ?_
 apply cutl; intro tK
 apply cutl; intro t4095
 apply cutl; intro t2047
 apply cutl; intro t1535
 apply cutl; intro t1023
 apply cutl; intro t1531
 apply cutl; intro t1279
 apply cutl; intro t511
 apply cutl; intro t1275
 apply cutl; intro t1151
 apply cutl; intro t507
 apply cutl; intro t255
 apply cutl; intro t1273
 apply cutl; intro t1147
 apply cutl; intro t1087
 apply cutl; intro t251
 apply cutl; intro t127
 apply cutl; intro t1145
 apply cutl; intro t1083
 apply cutl; intro t1055
 apply cutl; intro t249
 apply cutl; intro t123
 apply cutl; intro t63
 apply cutl; intro t1081
 apply cutl; intro t1051
 apply cutl; intro t121
 apply cutl; intro t59
 apply cutl; intro t31
 apply cutl; intro t1049
 apply cutl; intro t57
 apply cutl; intro t27
 ·refine hW.take 0 0 1 _ (by kernel_rfl) ?_
  simp only [wy, wq, simprocAttr]
  refine hW.take 1 3 9 _ (by kernel_rfl) ?_
  simp only [wy, wq, simprocAttr]
  refine hW.takeF 9 4 25 _ (by kernel_rfl) ?_
  simp only [wy, wq, simprocAttr]
  refine hW.all 25 [(1, 27), (5, 57), (10, 1049)] _ (by kernel_rfl) (by simp) ?_
  simp only [wy, wq, simprocAttr]
  refine ⟨?_, ?_, ?_⟩
  ·refine vcall_io 0 ?_
   simp only [wq, simprocAttr]
   refine vxcall_ex (below_vx A c r b i h 4 hi hl (by omega)) ?_
   rintro pv ot ⟨m1, i1, h1, r1, rfl, ha1, hb1, hi1, rfl⟩
   simp only [wq, simprocAttr]
   revert m1 i1 h1 r1 ha1 hb1 hi1
   exact t27.h
  ·exact t57.h
  ·exact t1049.h
 ·intro m1 i1 h1 r1 ha1 hb1 hi1
  refine hW.all 27 [(2, 31), (5, 59), (10, 1051)] _ (by kernel_rfl) (by simp) ?_
  simp only [wy, wq, simprocAttr]
  refine ⟨?_, ?_, ?_⟩
  ·revert m1 i1 h1 r1 ha1 hb1 hi1
   exact t31.h
  ·revert m1 i1 h1 r1 ha1 hb1 hi1
   exact t59.h
  ·revert m1 i1 h1 r1 ha1 hb1 hi1
   exact t1051.h
 ·refine hW.all 57 [(1, 59), (6, 121), (10, 1081)] _ (by kernel_rfl) (by simp) ?_
  simp only [wy, wq, simprocAttr]
  refine ⟨?_, ?_, ?_⟩
  ·refine vcall_io 0 ?_
   simp only [wq, simprocAttr]
   refine vxcall_ex (below_vx A c r b i h 4 hi hl (by omega)) ?_
   rintro pv ot ⟨m1, i1, h1, r1, rfl, ha1, hb1, hi1, rfl⟩
   simp only [wq, simprocAttr]
   revert m1 i1 h1 r1 ha1 hb1 hi1
   exact t59.h
  ·exact t121.h
  ·exact t1081.h
 ·refine hW.all 1049 [(1, 1051), (5, 1081)] _ (by kernel_rfl) (by simp) ?_
  simp only [wy, wq, simprocAttr]
  refine ⟨?_, ?_⟩
  ·refine vcall_io 0 ?_
   simp only [wq, simprocAttr]
   refine vxcall_ex (below_vx A c r b i h 4 hi hl (by omega)) ?_
   rintro pv ot ⟨m1, i1, h1, r1, rfl, ha1, hb1, hi1, rfl⟩
   simp only [wq, simprocAttr]
   revert m1 i1 h1 r1 ha1 hb1 hi1
   exact t1051.h
  ·exact t1081.h
 ·intro m1 i1 h1 r1 ha1 hb1 hi1
  refine hW.all 31 [(5, 63), (10, 1055)] _ (by kernel_rfl) (by simp) ?_
  simp only [wy, wq, simprocAttr]
  refine ⟨?_, ?_⟩
  ·revert m1 i1 h1 r1 ha1 hb1 hi1
   exact t63.h
  ·revert m1 i1 h1 r1 ha1 hb1 hi1
   exact t1055.h
 ·intro m1 i1 h1 r1 ha1 hb1 hi1
  refine hW.all 59 [(2, 63), (6, 123), (10, 1083)] _ (by kernel_rfl) (by simp) ?_
  simp only [wy, wq, simprocAttr]
  refine ⟨?_, ?_, ?_⟩
  ·revert m1 i1 h1 r1 ha1 hb1 hi1
   exact t63.h
  ·revert m1 i1 h1 r1 ha1 hb1 hi1
   exact t123.h
  ·revert m1 i1 h1 r1 ha1 hb1 hi1
   exact t1083.h
 ·refine hW.all 121 [(1, 123), (7, 249), (10, 1145)] _ (by kernel_rfl) (by simp) ?_
  simp only [wy, wq, simprocAttr]
  refine ⟨?_, ?_, ?_⟩
  ·refine vcall_io 0 ?_
   simp only [wq, simprocAttr]
   refine vxcall_ex (below_vx A c r b i h 4 hi hl (by omega)) ?_
   rintro pv ot ⟨m1, i1, h1, r1, rfl, ha1, hb1, hi1, rfl⟩
   simp only [wq, simprocAttr]
   revert m1 i1 h1 r1 ha1 hb1 hi1
   exact t123.h
  ·exact t249.h
  ·exact t1145.h
 ·intro m1 i1 h1 r1 ha1 hb1 hi1
  refine hW.all 1051 [(2, 1055), (5, 1083)] _ (by kernel_rfl) (by simp) ?_
  simp only [wy, wq, simprocAttr]
  refine ⟨?_, ?_⟩
  ·revert m1 i1 h1 r1 ha1 hb1 hi1
   exact t1055.h
  ·revert m1 i1 h1 r1 ha1 hb1 hi1
   exact t1083.h
 ·refine hW.all 1081 [(1, 1083), (6, 1145)] _ (by kernel_rfl) (by simp) ?_
  simp only [wy, wq, simprocAttr]
  refine ⟨?_, ?_⟩
  ·refine vcall_io 0 ?_
   simp only [wq, simprocAttr]
   refine vxcall_ex (below_vx A c r b i h 4 hi hl (by omega)) ?_
   rintro pv ot ⟨m1, i1, h1, r1, rfl, ha1, hb1, hi1, rfl⟩
   simp only [wq, simprocAttr]
   revert m1 i1 h1 r1 ha1 hb1 hi1
   exact t1083.h
  ·exact t1145.h
 ·intro m1 i1 h1 r1 ha1 hb1 hi1
  refine hW.all 63 [(6, 127), (10, 1087)] _ (by kernel_rfl) (by simp) ?_
  simp only [wy, wq, simprocAttr]
  refine ⟨?_, ?_⟩
  ·revert m1 i1 h1 r1 ha1 hb1 hi1
   exact t127.h
  ·revert m1 i1 h1 r1 ha1 hb1 hi1
   exact t1087.h
 ·intro m1 i1 h1 r1 ha1 hb1 hi1
  refine hW.all 123 [(2, 127), (7, 251), (10, 1147)] _ (by kernel_rfl) (by simp) ?_
  simp only [wy, wq, simprocAttr]
  refine ⟨?_, ?_, ?_⟩
  ·revert m1 i1 h1 r1 ha1 hb1 hi1
   exact t127.h
  ·revert m1 i1 h1 r1 ha1 hb1 hi1
   exact t251.h
  ·revert m1 i1 h1 r1 ha1 hb1 hi1
   exact t1147.h
 ·refine hW.all 249 [(1, 251), (10, 1273)] _ (by kernel_rfl) (by simp) ?_
  simp only [wy, wq, simprocAttr]
  refine ⟨?_, ?_⟩
  ·refine vcall_io 0 ?_
   simp only [wq, simprocAttr]
   refine vxcall_ex (below_vx A c r b i h 4 hi hl (by omega)) ?_
   rintro pv ot ⟨m1, i1, h1, r1, rfl, ha1, hb1, hi1, rfl⟩
   simp only [wq, simprocAttr]
   revert m1 i1 h1 r1 ha1 hb1 hi1
   exact t251.h
  ·exact t1273.h
 ·intro m1 i1 h1 r1 ha1 hb1 hi1
  refine hW.all 1055 [(5, 1087)] _ (by kernel_rfl) (by simp) ?_
  simp only [wy, wq, simprocAttr]
  skip
  revert m1 i1 h1 r1 ha1 hb1 hi1
  exact t1087.h
 ·intro m1 i1 h1 r1 ha1 hb1 hi1
  refine hW.all 1083 [(2, 1087), (6, 1147)] _ (by kernel_rfl) (by simp) ?_
  simp only [wy, wq, simprocAttr]
  refine ⟨?_, ?_⟩
  ·revert m1 i1 h1 r1 ha1 hb1 hi1
   exact t1087.h
  ·revert m1 i1 h1 r1 ha1 hb1 hi1
   exact t1147.h
 ·refine hW.all 1145 [(1, 1147), (7, 1273)] _ (by kernel_rfl) (by simp) ?_
  simp only [wy, wq, simprocAttr]
  refine ⟨?_, ?_⟩
  ·refine vcall_io 0 ?_
   simp only [wq, simprocAttr]
   refine vxcall_ex (below_vx A c r b i h 4 hi hl (by omega)) ?_
   rintro pv ot ⟨m1, i1, h1, r1, rfl, ha1, hb1, hi1, rfl⟩
   simp only [wq, simprocAttr]
   revert m1 i1 h1 r1 ha1 hb1 hi1
   exact t1147.h
  ·exact t1273.h
 ·intro m1 i1 h1 r1 ha1 hb1 hi1
  refine hW.all 127 [(7, 255), (10, 1151)] _ (by kernel_rfl) (by simp) ?_
  simp only [wy, wq, simprocAttr]
  refine ⟨?_, ?_⟩
  ·revert m1 i1 h1 r1 ha1 hb1 hi1
   exact t255.h
  ·revert m1 i1 h1 r1 ha1 hb1 hi1
   exact t1151.h
 ·intro m1 i1 h1 r1 ha1 hb1 hi1
  refine hW.all 251 [(2, 255), (8, 507), (10, 1275)] _ (by kernel_rfl) (by simp) ?_
  simp only [wy, wq, simprocAttr]
  refine ⟨?_, ?_, ?_⟩
  ·revert m1 i1 h1 r1 ha1 hb1 hi1
   exact t255.h
  ·rw [wrap64 (by omega) (by omega)]
   refine vcall_io 0 ?_
   simp only [wq, simprocAttr]
   refine vxcall_ex (below_vx A c r1 b i1 h1 ((t.length : Int) + 1) hi1 hl (by omega)) ?_
   rintro pv ot ⟨m2, i2, h2, r2, rfl, ha2, hb2, hi2, rfl⟩
   simp only [wq, simprocAttr]
   revert m1 i1 h1 r1 ha1 hb1 hi1 m2 i2 h2 r2 ha2 hb2 hi2
   exact t507.h
  ·revert m1 i1 h1 r1 ha1 hb1 hi1
   exact t1275.h
 ·intro m1 i1 h1 r1 ha1 hb1 hi1
  refine hW.all 1087 [(6, 1151)] _ (by kernel_rfl) (by simp) ?_
  simp only [wy, wq, simprocAttr]
  skip
  revert m1 i1 h1 r1 ha1 hb1 hi1
  exact t1151.h
 ·intro m1 i1 h1 r1 ha1 hb1 hi1
  refine hW.all 1147 [(2, 1151), (7, 1275)] _ (by kernel_rfl) (by simp) ?_
  simp only [wy, wq, simprocAttr]
  refine ⟨?_, ?_⟩
  ·revert m1 i1 h1 r1 ha1 hb1 hi1
   exact t1151.h
  ·revert m1 i1 h1 r1 ha1 hb1 hi1
   exact t1275.h
 ·refine hW.all 1273 [(1, 1275)] _ (by kernel_rfl) (by simp) ?_
  simp only [wy, wq, simprocAttr]
  skip
  refine vcall_io 0 ?_
  simp only [wq, simprocAttr]
  refine vxcall_ex (below_vx A c r b i h 4 hi hl (by omega)) ?_
  rintro pv ot ⟨m1, i1, h1, r1, rfl, ha1, hb1, hi1, rfl⟩
  simp only [wq, simprocAttr]
  revert m1 i1 h1 r1 ha1 hb1 hi1
  exact t1275.h
 ·intro m1 i1 h1 r1 ha1 hb1 hi1
  refine hW.all 255 [(8, 511), (10, 1279)] _ (by kernel_rfl) (by simp) ?_
  simp only [wy, wq, simprocAttr]
  refine ⟨?_, ?_⟩
  ·rw [wrap64 (by omega) (by omega)]
   refine vcall_io 0 ?_
   simp only [wq, simprocAttr]
   refine vxcall_ex (below_vx A c r1 b i1 h1 ((t.length : Int) + 1) hi1 hl (by omega)) ?_
   rintro pv ot ⟨m2, i2, h2, r2, rfl, ha2, hb2, hi2, rfl⟩
   simp only [wq, simprocAttr]
   revert m1 i1 h1 r1 ha1 hb1 hi1 m2 i2 h2 r2 ha2 hb2 hi2
   exact t511.h
  ·revert m1 i1 h1 r1 ha1 hb1 hi1
   exact t1279.h
 ·intro m1 i1 h1 r1 ha1 hb1 hi1 m2 i2 h2 r2 ha2 hb2 hi2
  refine hW.all 507 [(2, 511), (10, 1531)] _ (by kernel_rfl) (by simp) ?_
  simp only [wy, wq, simprocAttr]
  refine ⟨?_, ?_⟩
  ·revert m1 i1 h1 r1 ha1 hb1 hi1 m2 i2 h2 r2 ha2 hb2 hi2
   exact t511.h
  ·revert m1 i1 h1 r1 ha1 hb1 hi1 m2 i2 h2 r2 ha2 hb2 hi2
   exact t1531.h
 ·intro m1 i1 h1 r1 ha1 hb1 hi1
  refine hW.all 1151 [(7, 1279)] _ (by kernel_rfl) (by simp) ?_
  simp only [wy, wq, simprocAttr]
  skip
  revert m1 i1 h1 r1 ha1 hb1 hi1
  exact t1279.h
 ·intro m1 i1 h1 r1 ha1 hb1 hi1
  refine hW.all 1275 [(2, 1279), (8, 1531)] _ (by kernel_rfl) (by simp) ?_
  simp only [wy, wq, simprocAttr]
  refine ⟨?_, ?_⟩
  ·revert m1 i1 h1 r1 ha1 hb1 hi1
   exact t1279.h
  ·rw [wrap64 (by omega) (by omega)]
   refine vcall_io 0 ?_
   simp only [wq, simprocAttr]
   refine vxcall_ex (below_vx A c r1 b i1 h1 ((t.length : Int) + 1) hi1 hl (by omega)) ?_
   rintro pv ot ⟨m2, i2, h2, r2, rfl, ha2, hb2, hi2, rfl⟩
   simp only [wq, simprocAttr]
   revert m1 i1 h1 r1 ha1 hb1 hi1 m2 i2 h2 r2 ha2 hb2 hi2
   exact t1531.h
 ·intro m1 i1 h1 r1 ha1 hb1 hi1 m2 i2 h2 r2 ha2 hb2 hi2
  refine hW.all 511 [(9, 1023), (10, 1535)] _ (by kernel_rfl) (by simp) ?_
  simp only [wy, wq, simprocAttr]
  refine ⟨?_, ?_⟩
  ·revert m1 i1 h1 r1 ha1 hb1 hi1 m2 i2 h2 r2 ha2 hb2 hi2
   exact t1023.h
  ·revert m1 i1 h1 r1 ha1 hb1 hi1 m2 i2 h2 r2 ha2 hb2 hi2
   exact t1535.h
 ·intro m1 i1 h1 r1 ha1 hb1 hi1
  refine hW.all 1279 [(8, 1535)] _ (by kernel_rfl) (by simp) ?_
  simp only [wy, wq, simprocAttr]
  skip
  rw [wrap64 (by omega) (by omega)]
  refine vcall_io 0 ?_
  simp only [wq, simprocAttr]
  refine vxcall_ex (below_vx A c r1 b i1 h1 ((t.length : Int) + 1) hi1 hl (by omega)) ?_
  rintro pv ot ⟨m2, i2, h2, r2, rfl, ha2, hb2, hi2, rfl⟩
  simp only [wq, simprocAttr]
  revert m1 i1 h1 r1 ha1 hb1 hi1 m2 i2 h2 r2 ha2 hb2 hi2
  exact t1535.h
 ·intro m1 i1 h1 r1 ha1 hb1 hi1 m2 i2 h2 r2 ha2 hb2 hi2
  refine hW.all 1531 [(2, 1535)] _ (by kernel_rfl) (by simp) ?_
  simp only [wy, wq, simprocAttr]
  skip
  revert m1 i1 h1 r1 ha1 hb1 hi1 m2 i2 h2 r2 ha2 hb2 hi2
  exact t1535.h
 ·intro m1 i1 h1 r1 ha1 hb1 hi1 m2 i2 h2 r2 ha2 hb2 hi2
  refine hW.all 1023 [(10, 2047)] _ (by kernel_rfl) (by simp) ?_
  simp only [wy, wq, simprocAttr]
  skip
  revert m1 i1 h1 r1 ha1 hb1 hi1 m2 i2 h2 r2 ha2 hb2 hi2
  exact t2047.h
 ·intro m1 i1 h1 r1 ha1 hb1 hi1 m2 i2 h2 r2 ha2 hb2 hi2
  refine hW.all 1535 [(9, 2047)] _ (by kernel_rfl) (by simp) ?_
  simp only [wy, wq, simprocAttr]
  skip
  revert m1 i1 h1 r1 ha1 hb1 hi1 m2 i2 h2 r2 ha2 hb2 hi2
  exact t2047.h
 ·intro m1 i1 h1 r1 ha1 hb1 hi1 m2 i2 h2 r2 ha2 hb2 hi2
  refine hW.all 2047 [(11, 4095)] _ (by kernel_rfl) (by simp) ?_
  simp only [wy, wq, simprocAttr]
  skip
  revert m1 i1 h1 r1 ha1 hb1 hi1 m2 i2 h2 r2 ha2 hb2 hi2
  exact t4095.h
 ·intro m1 i1 h1 r1 ha1 hb1 hi1 m2 i2 h2 r2 ha2 hb2 hi2
  refine hW.done 4095 _ (by kernel_rfl) ?_
  revert m1 i1 h1 r1 ha1 hb1 hi1 m2 i2 h2 r2 ha2 hb2 hi2
  exact tK.h
 intro m1 i1 h1 r1 ha1 hb1 hi1 m2 i2 h2 r2 ha2 hb2 hi2
 refine hK _ ?_
 clear hW W hK K
 have hm2 : inB m2 0 11 = true := inB_iff.2 ⟨ha2, by omega⟩
 refine vthen_n ?_
 repeat refine VW.seq ?_
 refine VW.regl hT fun K hK => ?_
 simp only [wq, simprocAttr]
 refine hK _ ?_
 clear hK K
 try refine vthen_n ?_
 repeat refine VW.seq ?_
 refine VW.cond rfl (fun hc => ?_) (fun hc => ?_)
 ·repeat refine VW.seq ?_
  refine VW.regl hT fun K hK => ?_
  simp only [wq, simprocAttr]
  refine vcall_io 0 ?_
  simp only [wq, simprocAttr]
  refine vxcall_ex (had i2 h2 r2 hi2) ?_
  rintro pv ot ⟨m3, i3, h3, r3, rfl, hb3, hi3, rfl⟩
  simp only [wq, simprocAttr]
  refine hK _ ?_
  clear hK K
  try refine vthen_n ?_
  repeat refine VW.seq ?_
  refine VW.regl hT fun K hK => ?_
  simp only [wq, simprocAttr]
  refine hK _ ?_
  clear hK K
  try refine vthen_n ?_
  repeat refine VW.seq ?_
  refine VW.cond rfl (fun hc => ?_) (fun hc => ?_)
  ·repeat refine VW.seq ?_
   refine VW.regl hT fun K hK => ?_
   simp only [wq, simprocAttr]
   refine vcall_io 0 ?_
   simp only [wq, simprocAttr]
   refine vxcall_ex (below_vx A c r3 b i3 h3 1000 hi3 hl (by omega)) ?_
   rintro pv ot ⟨m4, i4, h4, r4, rfl, ha4, hb4, hi4, rfl⟩
   simp only [wq, simprocAttr]
   refine vcall_io 0 ?_
   simp only [wq, simprocAttr]
   refine vxcall_ex (pick_vx A c r4 b i4 h4 [1, 65535, m4] hi4 hl (by simp) (by simp)) ?_
   rintro pv ot ⟨m5, i5, h5, r5, rfl, ha5, hi5, rfl⟩
   have hB : inB m5 0 65535 = true := by
    simp only [List.mem_cons, List.not_mem_nil, or_false] at ha5
    exact inB_iff.2 ⟨by omega, by omega⟩
   simp only [wq, simprocAttr]
   refine hK _ ?_
   clear hK K
   try refine vthen_n ?_
   show vthen _ _ _ .normal _
   refine vthen_n ?_
   repeat refine VW.seq ?_
   refine VW.regl hT fun K hK => ?_
   simp only [wq, simprocAttr]
   refine hK _ ?_
   clear hK K
   try refine vthen_n ?_
   refine VW.ret ⟨.inl rfl, _, _, _, _, rfl, ⟨0, rfl⟩, _, i5, h5, r5, rfl, ?_, hi5, rfl⟩
   show actOk (IntKind.i64.wrap (1 + m1), m2, (if 0 < m3 then m3 else 0), m5) = true
   have hA : inB (if 0 < m3 then m3 else 0) 0 65535 = true := by
    split
    ·exact inB_iff.2 ⟨by omega, by omega⟩
    ·rfl
   rw [wrap64 (by omega) (by omega)] at hc ⊢
   rw [of_decide_eq_true hc]
   exact actOk1 hm2 hA hB
  ·refine VW.skip ?_
   show vthen _ _ _ .normal _
   refine vthen_n ?_
   repeat refine VW.seq ?_
   refine VW.regl hT fun K hK => ?_
   simp only [wq, simprocAttr]
   refine hK _ ?_
   clear hK K
   try refine vthen_n ?_
   refine VW.ret ⟨.inl rfl, _, _, _, _, rfl, ⟨0, rfl⟩, _, i3, h3, r3, rfl, ?_, hi3, rfl⟩
   rename_i hc0
   show actOk (IntKind.i64.wrap (1 + m1), m2, (if 0 < m3 then m3 else 0), 0) = true
   have hA : inB (if 0 < m3 then m3 else 0) 0 65535 = true := by
    split
    ·exact inB_iff.2 ⟨by omega, by omega⟩
    ·rfl
   rw [wrap64 (by omega) (by omega)] at hc hc0 ⊢
   have h1 : ¬ 1 + m1 = 1 := of_decide_eq_false hc
   have h2 : 1 + m1 ≤ 2 := of_decide_eq_true hc0
   rw [show 1 + m1 = 2 by omega]
   exact actOk2 hm2 hA
 ·refine VW.skip (vthen_n ?_)
  repeat refine VW.seq ?_
  refine VW.regl hT fun K hK => ?_
  simp only [wq, simprocAttr]
  refine hK _ ?_
  clear hK K
  try refine vthen_n ?_
  refine VW.ret ⟨.inl rfl, _, _, _, _, rfl, ⟨0, rfl⟩, _, i2, h2, r2, rfl, ?_, hi2, rfl⟩
  show actOk (IntKind.i64.wrap (1 + m1), m2, 0, 0) = true
  rw [wrap64 (by omega) (by omega)] at hc ⊢
  have h1 : ¬ 1 + m1 ≤ 2 := of_decide_eq_false hc
  exact actOk3 (by omega) hm2
def actsR (A : Option Addr) (c : Nat) (b : List Int) (pv ot : PV) : Prop := ∃ (ks : List Ac) (i h : Int) (r : Fl), pv = .root (.val false) sAS .own ks ∧ (ks.length ≤ 9 ∧ ks.all actOk = true) ∧ 0 ≤ i ∧ ot = .root bC sC (.pr (.kz A c) r) (b, i, h)
set_option maxRecDepth 20000 in
set_option maxHeartbeats 4000000 in
theorem actsD_vx (A : Option Addr) (c : Nat) (r : Fl) (b : List Int) (i h : Int) (x : Fab) (hx : fabOk x = true) (h11 : x.1.length ≤ 11) (hi : 0 ≤ i) (hl : b.length ≤ 1048576) :
  VX Tryd.prog 34 [.root bC sC (.pr (.kz A c) r) (b, i, h), .v true sFi x] 0 (actsR A c b) := by
 have had := fun i h r (hi : 0 ≤ i) => actD_vx A c r b i h x hx h11 hi hl
 refine VX.of_box hT Tryd.func34 rfl (by kernel_rfl) [(.tmp 4, false, sAS)] (by kernel_rfl) rfl fun bb => ?_
 show VW _ _ ([.root (.ibox 82 bb) sC (.pr (.kz A c) r) (b, i, h), .v true sFi x, D, D, D, D, D, D, D, D, D, D, D, D, D, D, D, D, D, D, D]) _
 repeat refine VW.seq ?_
 refine VW.regl hT fun K hK => ?_
 simp only [wq, simprocAttr]
 refine hK _ ?_
 clear hK K
 try refine vthen_n ?_
 repeat refine VW.seq ?_
 refine VW.regl hT fun K hK => ?_
 simp only [wq, simprocAttr]
 refine hK _ ?_
 clear hK K
 try refine vthen_n ?_
 repeat refine VW.seq ?_
 refine VW.regl hT fun K hK => ?_
 simp only [wq, simprocAttr]
 refine hK _ ?_
 clear hK K
 try refine vthen_n ?_
 repeat refine VW.seq ?_
 refine VW.block ?_
 refine VW.loop (α := List Ac × Int × Int × Fl) [(0, none), (3, none), (5, some (26, sAct)), (6, none)] (fun q => [.root (.ibox 82 bb) sC (.pr (.kz A c) q.2.2.2) (b, q.2.1, q.2.2.1), D, D, .root (.box 50) sFi .fz x, D, .root (.val false) sAS .own q.1, .v false (.int .i64) (q.1.length), D, D, D, D, D, D, D, D, D, D, D, D, D, D]) (fun q => q.1.length ≤ 9 ∧ q.1.all actOk = true ∧ 0 ≤ q.2.1) (fun q => 9 - q.1.length) ⟨([], i, h, r), ⟨Nat.zero_le _, rfl, hi⟩, ?_⟩ fun q hq => ?_
 ·simp only [wn, wq, simprocAttr]
  try rfl
 obtain ⟨ks, i, h, r⟩ := q
 obtain ⟨hk, hks, hi⟩ := hq
 simp only at hk hks hi ⊢
 repeat refine VW.seq ?_
 refine VW.regl hT fun K hK => ?_
 simp only [wq, simprocAttr]
 refine vcall_io 0 ?_
 simp only [wq, simprocAttr]
 refine vxcall_ex (below_vx A c r b i h 9 hi hl (by omega)) ?_
 rintro pv ot ⟨m1, i1, h1, r1, rfl, ha1, hb1, hi1, rfl⟩
 simp only [wq, simprocAttr]
 refine hK _ ?_
 clear hK K
 try refine vthen_n ?_
 repeat refine VW.seq ?_
 refine VW.cond rfl (fun hc => ?_) (fun hc => ?_)
 ·have hlt : ks.length < 9 := by
   have : (ks.length : Int) < m1 := of_decide_eq_true hc
   omega
  refine VW.skip (vthen_n ?_)
  repeat refine VW.seq ?_
  refine VW.block ?_
  repeat refine VW.seq ?_
  refine VW.regl hT fun K hK => ?_
  simp only [wq, simprocAttr]
  refine vcall_io 0 ?_
  simp only [wq, simprocAttr]
  refine vxcall_ex (had i1 h1 r1 hi1) ?_
  rintro pv ot ⟨a, i2, h2, r2, rfl, hao, hi2, rfl⟩
  simp only [wq, simprocAttr]
  refine ⟨by simp only [limOk]; exact decide_eq_true (by omega), ?_⟩
  refine hK _ ?_
  clear hK K
  try refine vthen_n ?_
  show vthen _ _ _ .normal _
  refine vthen_n ?_
  repeat refine VW.seq ?_
  refine VW.regl hT fun K hK => ?_
  simp only [wq, simprocAttr]
  refine hK _ ?_
  clear hK K
  try refine vthen_n ?_
  refine ⟨(ks ++ [a], i2, h2, r2), ⟨by show (ks ++ [a]).length ≤ 9; rw [List.length_append]; exact hlt, by show (ks ++ [a]).all actOk = true; rw [List.all_append, hks, List.all_cons, hao]; rfl, hi2⟩, ?_, by show 9 - (ks ++ [a]).length < 9 - ks.length; rw [List.length_append, List.length_singleton]; omega⟩
  simp only [wn, wq, simprocAttr]
  rw [wrap64 (by omega) (by omega), List.length_append, List.length_singleton, show (ks.length : Int) + 1 = ((ks.length + 1 : Nat) : Int) by omega]
 ·refine VW.exit ?_
  show vthen _ _ _ .normal _
  refine vthen_n ?_
  repeat refine VW.seq ?_
  refine VW.regl hT fun K hK => ?_
  simp only [wq, simprocAttr]
  refine hK _ ?_
  clear hK K
  try refine vthen_n ?_
  exact VW.ret ⟨.inl rfl, _, _, _, _, rfl, ⟨0, rfl⟩, ks, i1, h1, r1, rfl, ⟨hk, hks⟩, hi1, rfl⟩
abbrev rFA (x : Fab) (ks : List Ac) : PV := .root (.tup [true, false]) (.pr sFi sAS) (.pr fFab .own) (x, ks)
set_option maxRecDepth 20000 in
set_option maxHeartbeats 4000000 in
theorem drawActs_vc (b : List Int) (hl : b.length ≤ 1048576) : VC Tryd.prog 19 [.v false sB b] (fun pv => ∃ (x : Fab) (ks : List Ac), pv = rFA x ks ∧ fabOk x = true ∧ ks.length ≤ 9 ∧ ks.all actOk = true) := by
 refine VC.of_body hT Tryd.func19 rfl (by kernel_rfl) [(.cell 2 50, true, sFi), (.tmp 3, false, sAS)] (by kernel_rfl) ?_
 show VW _ _ ([.v false sB b, D, D, D, D, D, D, D, D, D, D, D, D, D]) _
 repeat refine VW.seq ?_
 refine VW.regl hT fun K hK => ?_
 simp only [wq, simprocAttr]
 refine hK _ ?_
 clear hK K
 try refine vthen_n ?_
 repeat refine VW.seq ?_
 refine VW.regl hT fun K hK => ?_
 simp only [wq, simprocAttr]
 refine vcall_ex (new_vc b hl) ?_
 rintro pv ⟨A, c, r, h, rfl⟩
 simp only [wq, simprocAttr]
 refine hK _ ?_
 clear hK K
 try refine vthen_n ?_
 repeat refine VW.seq ?_
 refine VW.regl hT fun K hK => ?_
 simp only [wq, simprocAttr]
 refine vcall_io 0 ?_
 simp only [wq, simprocAttr]
 refine vxcall_ex (fabD_vx A c r b 0 h (by decide) hl) ?_
 rintro pv ot ⟨x, i, h, r, rfl, ⟨hx, h11⟩, hi, rfl⟩
 simp only [wq, simprocAttr]
 refine hK _ ?_
 clear hK K
 try refine vthen_n ?_
 repeat refine VW.seq ?_
 refine VW.any hT hm fun K hK W hW => ?_
 apply cutl; intro tK
 apply cutl; intro t63
 apply cutl; intro t31
 apply cutl; intro t15
 apply cutl; intro t14
 apply cutl; intro t7
 apply cutl; intro t6
 apply cutl; intro t3
 ·refine hW.take 0 1 2 _ (by kernel_rfl) ?_
  simp only [wy, wq, simprocAttr]
  refine hW.all 2 [(0, 3), (2, 6)] _ (by kernel_rfl) (by simp) ?_
  simp only [wy, wq, simprocAttr]
  exact ⟨t3.h, t6.h⟩
 ·refine hW.all 3 [(2, 7)] _ (by kernel_rfl) (by simp) ?_
  simp only [wy, wq, simprocAttr]
  exact t7.h
 ·refine hW.all 6 [(0, 7), (3, 14)] _ (by kernel_rfl) (by simp) ?_
  simp only [wy, wq, simprocAttr]
  refine ⟨?_, ?_⟩
  ·exact t7.h
  ·refine vcall_io 0 ?_
   simp only [wq, simprocAttr]
   refine vxcall_ex (actsD_vx A c r b i h x hx h11 hi hl) ?_
   rintro pv ot ⟨ks, i1, h1, r1, rfl, hk1, hi1, rfl⟩
   simp only [wq, simprocAttr]
   revert ks i1 h1 r1 hk1 hi1
   exact t14.h
 ·refine hW.all 7 [(3, 15)] _ (by kernel_rfl) (by simp) ?_
  simp only [wy, wq, simprocAttr]
  skip
  refine vcall_io 0 ?_
  simp only [wq, simprocAttr]
  refine vxcall_ex (actsD_vx A c r b i h x hx h11 hi hl) ?_
  rintro pv ot ⟨ks, i1, h1, r1, rfl, hk1, hi1, rfl⟩
  simp only [wq, simprocAttr]
  revert ks i1 h1 r1 hk1 hi1
  exact t15.h
 ·intro ks i1 h1 r1 hk1 hi1
  refine hW.all 14 [(0, 15)] _ (by kernel_rfl) (by simp) ?_
  simp only [wy, wq, simprocAttr]
  skip
  revert ks i1 h1 r1 hk1 hi1
  exact t15.h
 ·intro ks i1 h1 r1 hk1 hi1
  refine hW.all 15 [(4, 31)] _ (by kernel_rfl) (by simp) ?_
  simp only [wy, wq, simprocAttr]
  skip
  revert ks i1 h1 r1 hk1 hi1
  exact t31.h
 ·intro ks i1 h1 r1 hk1 hi1
  refine hW.all 31 [(5, 63)] _ (by kernel_rfl) (by simp) ?_
  simp only [wy, wq, simprocAttr]
  skip
  revert ks i1 h1 r1 hk1 hi1
  exact t63.h
 ·intro ks i1 h1 r1 hk1 hi1
  refine hW.done 63 _ (by kernel_rfl) ?_
  revert ks i1 h1 r1 hk1 hi1
  exact tK.h
 intro ks i1 h1 r1 hk1 hi1
 refine hK _ ?_
 clear hW W hK K
 refine vthen_n ?_
 exact VW.ret ⟨.inl rfl, _, rfl, x, ks, rfl, hx, hk1.1, hk1.2⟩
end Go.Proofs.YtoeblmcibheldaaDoor.V.W
end
section
namespace Go.Proofs.YtoeblmcibheldaaDoor.V.W
open Go Go.RowKit Go.Proofs.YtoeblmcibheldaaDoor.V
def nosp (f : List UInt8) : Prop := f ≠ [] ∧ ∀ b ∈ f, inR b = true ∧ Lib.isSp b = false
theorem nosp_dig {f : List UInt8} (h0 : f ≠ []) (h : f.all isD = true) : nosp f := by
 refine ⟨h0, fun b hb => ?_⟩
 have h1 : 48 ≤ b.toNat ∧ b.toNat ≤ 57 := by simpa [isD] using List.all_eq_true.1 h b hb
 have h2 : inR b = true := by simp [inR]; omega
 exact ⟨h2, by rw [sp_inR h2]; exact decide_eq_false (by omega)⟩
theorem nosp_itoa {v : Int} (h0 : 0 ≤ v) (h1 : v ≤ 65535) : nosp (Lib.itoa v) ∧ (Lib.itoa v).length ≤ 10 := by
 obtain ⟨n, rfl⟩ := Int.eq_ofNat_of_zero_le h0
 obtain ⟨a, b, _, d⟩ := itoa_facts (v := n) (by omega)
 exact ⟨nosp_dig d b, a⟩
theorem nosp_word (k : Int) : nosp (word k) := by
 unfold word
 split
 ·exact ⟨by decide, by decide⟩
 split
 ·exact ⟨by decide, by decide⟩
 split
 ·exact ⟨by decide, by decide⟩
 ·exact ⟨by decide, by decide⟩
theorem fieldsGo_word : ∀ (f cur rest : List UInt8), (∀ b ∈ f, Lib.isSp b = false) → cur ++ f ≠ [] → Lib.fieldsGo cur (f ++ 32 :: rest) = (cur ++ f) :: Lib.fieldsGo [] rest
 | [], cur, rest, _, hn => by
  rw [List.nil_append, Lib.fieldsGo, if_pos (by decide), if_neg, List.append_nil]
  intro h
  rw [List.append_nil] at hn
  exact hn (List.isEmpty_iff.1 h)
 | b :: f, cur, rest, h, hn => by
  rw [List.cons_append, Lib.fieldsGo, if_neg (by rw [h b (List.mem_cons_self ..)]; decide), fieldsGo_word f (cur ++ [b]) rest (fun x hx => h x (List.mem_cons_of_mem _ hx)) (by simp), List.append_assoc]
  rfl
theorem fw {f : List UInt8} (h : nosp f) (rest : List UInt8) : Lib.fieldsGo [] (f ++ 32 :: rest) = f :: Lib.fieldsGo [] rest := by
 rw [fieldsGo_word f [] rest (fun b hb => (h.2 b hb).2) h.1]
 rfl
theorem f_nil : Lib.fieldsGo [] [] = [] := rfl
def actF (a : Ac) : List (List UInt8) := word a.1 :: Lib.itoa a.2.1 :: ((if a.1 ≤ 2 then [Lib.itoa a.2.2.1] else []) ++ (if a.1 = 1 then [Lib.itoa a.2.2.2] else []))
def actLine (a : Ac) : List UInt8 := 32 :: 32 :: (actText a ++ [32])
theorem inR_all {f : List UInt8} (h : nosp f) : f.all inR = true := List.all_eq_true.2 fun b hb => (h.2 b hb).1
theorem kind_word2 {k : Int} (h : k = 1 ∨ k = 2 ∨ k = 3 ∨ k = 4) : 1 + Lib.idxOfS actWds (bs (word k)) = k := by
 rcases h with rfl | rfl | rfl | rfl <;> kernel_rfl
theorem actText_small {a : Ac} (h : actOk a = true) : (actText a).length ≤ 71 := by
 obtain ⟨k, n, x, y⟩ := a
 obtain ⟨hn, hx, hy, hk⟩ := actOk_iff h
 obtain ⟨-, n2⟩ := nosp_itoa hn.1 (by omega)
 obtain ⟨-, x2⟩ := nosp_itoa hx.1 hx.2
 obtain ⟨-, y2⟩ := nosp_itoa hy.1 hy.2
 have w2 := word_len k
 unfold actText
 rcases hk with rfl | rfl | rfl | rfl <;> simp only [List.length_append, List.length_cons, List.length_nil, Int.reduceLE, Int.reduceEq, if_true, if_false] <;> omega
theorem parse_line {a : Ac} (h : actOk a = true) : parseF (actLine a) = (a, true) := by
 obtain ⟨k, n, x, y⟩ := a
 obtain ⟨hn, hx, hy, hk⟩ := actOk_iff h
 obtain ⟨n1, n2⟩ := nosp_itoa hn.1 (by omega)
 obtain ⟨x1, x2⟩ := nosp_itoa hx.1 hx.2
 obtain ⟨y1, y2⟩ := nosp_itoa hy.1 hy.2
 have w1 := nosp_word k
 have w2 := word_len k
 have hF : Lib.fields (actLine (k, n, x, y)) = actF (k, n, x, y) := by
  show Lib.fieldsGo [] (32 :: 32 :: (actText (k, n, x, y) ++ [32])) = _
  rw [show Lib.fieldsGo [] (32 :: 32 :: (actText (k, n, x, y) ++ [32])) = Lib.fieldsGo [] (actText (k, n, x, y) ++ [32]) from by rw [Lib.fieldsGo]; exact (if_pos (by decide)).trans ((if_pos rfl).trans (by rw [Lib.fieldsGo]; exact (if_pos (by decide)).trans (if_pos rfl)))]
  unfold actText actF
  rcases hk with rfl | rfl | rfl | rfl
  ·simp only [List.append_assoc, List.cons_append, List.nil_append, if_pos, Int.reduceLE]
   rw [fw w1, fw n1, fw x1, fw y1, f_nil]
  ·simp only [List.append_assoc, List.cons_append, List.nil_append, List.append_nil, if_pos, if_neg, Int.reduceLE, Int.reduceEq, if_false]
   rw [fw w1, fw n1, fw x1, f_nil]
  ·simp only [List.append_assoc, List.cons_append, List.nil_append, List.append_nil, if_neg, Int.reduceLE, Int.reduceEq, if_false]
   rw [fw w1, fw n1, f_nil]
  ·simp only [List.append_assoc, List.cons_append, List.nil_append, List.append_nil, if_neg, Int.reduceLE, Int.reduceEq, if_false]
   rw [fw w1, fw n1, f_nil]
 have hlen : (actLine (k, n, x, y)).length ≤ 600 := by
  show ((actText (k, n, x, y) ++ [32]).length + 1) + 1 ≤ 600
  unfold actText
  rcases hk with rfl | rfl | rfl | rfl <;> simp only [List.length_append, List.length_cons, List.length_nil, Int.reduceLE, Int.reduceEq, if_true, if_false] <;> omega
 have hall : (actLine (k, n, x, y)).all inR = true := by
  have i1 := inR_all w1; have i2 := inR_all n1; have i3 := inR_all x1; have i4 := inR_all y1
  have h32 : inR 32 = true := by decide
  unfold actLine actText
  rcases hk with rfl | rfl | rfl | rfl <;> simp only [List.all_cons, List.all_append, List.all_nil, i1, i2, i3, i4, h32, Int.reduceLE, Int.reduceEq, if_true, if_false, Bool.and_true]
 have p1 : pu (Lib.itoa n) = (n, true) := pu_of hn.1 (by omega) rfl
 have p2 : pu (Lib.itoa x) = (x, true) := pu_of hx.1 (by omega) rfl
 have p3 : pu (Lib.itoa y) = (y, true) := pu_of hy.1 (by omega) rfl
 have hA : actOf (actF (k, n, x, y)) = (k, n, x, y) := by
  have e0 : kindOf (actF (k, n, x, y)) = k := kind_word2 hk
  unfold actOf
  rw [e0]
  simp only [actOk, Bool.and_eq_true] at h
  obtain ⟨-, h⟩ := h
  rcases hk with rfl | rfl | rfl | rfl
  ·simp [actF, numOf, p1, p2, p3]
  ·simp at h
   simp [actF, numOf, p1, p2, h.2]
  ·simp at h
   simp [actF, numOf, p1, h.1, h.2]
  ·simp at h
   simp [actF, numOf, p1, h.1, h.2]
 have hJ : actText (k, n, x, y) = joinF (actF (k, n, x, y)) := by
  unfold actText joinF actF
  rcases hk with rfl | rfl | rfl | rfl <;> simp [Lib.join, List.intercalate]
 have hc2 : inB ((actF (k, n, x, y)).length : Int) 2 4 = true ∧ (actF (k, n, x, y)).length ≤ 24 := by
  unfold actF
  rcases hk with rfl | rfl | rfl | rfl <;> simp [inB]
 rw [parseF, if_pos, hF, hA]
 rw [hF, Bool.and_eq_true, Bool.and_eq_true, splitOk, Bool.and_eq_true, Bool.and_eq_true, hF, paOk, hA, Bool.and_eq_true]
 exact ⟨⟨decide_eq_true hlen, hall, decide_eq_true hc2.2⟩, hc2.1, h, decide_eq_true hJ⟩
set_option maxRecDepth 20000 in
set_option maxHeartbeats 2000000 in
theorem law_actTexts (b : List Int) : VC Tryd.prog 6 [.v false sB b] (· = .v false .bool true) := by
 refine VC.of_body hT Tryd.func6 rfl (by kernel_rfl) [(.tmp 2, false, .bool)] (by kernel_rfl) ?_
 show VW _ _ ([.v false sB b, D, D, D, D, D, D, D, D, D, D, D, D, D, D, D, D, D, D, D, D, D, D, D, D, D, D, D, D, D, D, D, D, D, D, D, D, D, D, D, D, D, D, D, D, D, D, D, D, D, D, D]) _
 repeat refine VW.seq ?_
 refine VW.regl hT fun K hK => ?_
 simp only [wq, simprocAttr]
 refine hK _ ?_
 clear hK K
 try refine vthen_n ?_
 repeat refine VW.seq ?_
 refine VW.regl hT fun K hK => ?_
 simp only [wq, simprocAttr]
 refine vcall_of (big_vc b) ?_
 simp only [wq, simprocAttr]
 refine hK _ ?_
 clear hK K
 try refine vthen_n ?_
 repeat refine VW.seq ?_
 refine VW.cond rfl (fun hc => ?_) (fun hc => ?_)
 ·repeat refine VW.seq ?_
  refine VW.regl hT fun K hK => ?_
  simp only [wq, simprocAttr]
  refine hK _ ?_
  clear hK K
  try refine vthen_n ?_
  exact VW.ret ⟨.inl rfl, _, rfl, rfl⟩
 have hb : b.length ≤ 1048576 := by
  have : ¬ (b.length : Int) > 1048576 := of_decide_eq_false hc
  omega
 refine VW.skip (vthen_n ?_)
 repeat refine VW.seq ?_
 refine VW.regl hT fun K hK => ?_
 simp only [wq, simprocAttr]
 refine vcall_ex (drawActs_vc b hb) ?_
 rintro pv ⟨x, ks, rfl, hx, hk, hks⟩
 simp only [wq, simprocAttr]
 refine hK _ ?_
 clear hK K
 try refine vthen_n ?_
 repeat refine VW.seq ?_
 refine VW.regl hT fun K hK => ?_
 simp only [wq, simprocAttr]
 refine hK _ ?_
 clear hK K
 try refine vthen_n ?_
 repeat refine VW.seq ?_
 refine VW.block ?_
 refine VW.loop (α := Nat) [(2, none), (4, none), (5, none), (12, none)] (fun k => [D, D, .v false .bool false, D, .h false 12 [.r], .v false (.int .i64) (k), D, D, D, D, D, D, .root (.tup [true, false]) (.pr sFi sAS) (.pr .junk .own) (x, ks), D, D, D, D, D, D, D, D, D, D, D, D, D, D, D, D, D, D, D, D, D, D, D, D, D, D, D, D, D, D, D, D, D, D, D, D, D, D, D]) (fun k => k ≤ ks.length) (fun k => ks.length - k) ⟨0, Nat.zero_le _, ?_⟩ fun k hk2 => ?_
 ·simp only [wn, wq, simprocAttr]
  try rfl
 repeat refine VW.seq ?_
 refine VW.regl hT fun K hK => ?_
 simp only [wq, simprocAttr]
 refine hK _ ?_
 clear hK K
 try refine vthen_n ?_
 repeat refine VW.seq ?_
 refine VW.cond rfl (fun hc => ?_) (fun hc => ?_)
 ·have hlt : k < ks.length := by
   have : (k : Int) < (ks.length : Int) := of_decide_eq_true hc
   omega
  have hJ : decide (0 ≤ (k : Int) ∧ (k : Int) < (ks.length : Int)) = true := decide_eq_true ⟨Int.natCast_nonneg _, by omega⟩
  have hao : actOk (ks.getD k zA) = true := by
   rw [List.getD_eq_getElem?_getD, List.getElem?_eq_getElem hlt]
   exact List.all_eq_true.1 hks _ (List.getElem_mem hlt)
  refine VW.skip (vthen_n ?_)
  repeat refine VW.seq ?_
  refine VW.block ?_
  repeat refine VW.seq ?_
  refine VW.regl hT fun K hK => ?_
  simp only [wq, simprocAttr]
  refine ⟨hJ, ?_⟩
  refine vcall_of (fmtAct_vc _) ?_
  simp only [wq, simprocAttr]
  refine hK _ ?_
  clear hK K
  try refine vthen_n ?_
  have hao : actOk (ks.getD k (0, 0, 0, 0)) = true := hao
  have hfa : fmtAct (ks.getD k (0, 0, 0, 0)) = (bs (actText (ks.getD k (0, 0, 0, 0))), true) := if_pos hao
  have hpa := parse_line hao
  have hsz := actText_small hao
  have hli : (⟨#[32, 32]⟩ : ByteArray) ++ bs (actText (ks.getD k (0, 0, 0, 0))) ++ (⟨#[32]⟩ : ByteArray) = bs (actLine (ks.getD k (0, 0, 0, 0))) := by
   rw [show (⟨#[32, 32]⟩ : ByteArray) = bs [32, 32] from rfl, bs32, bs_app, bs_app]
   rfl
  have hj1 : decide ((⟨#[32, 32]⟩ : ByteArray).size + (bs (actText (ks.getD k (0, 0, 0, 0)))).size ≤ 9223372036854775807) = true := decide_eq_true (by rw [bs_size]; show 2 + _ ≤ _; omega)
  have hj2 : decide (((⟨#[32, 32]⟩ : ByteArray) ++ bs (actText (ks.getD k (0, 0, 0, 0)))).size + (⟨#[32]⟩ : ByteArray).size ≤ 9223372036854775807) = true := decide_eq_true (by rw [show (⟨#[32, 32]⟩ : ByteArray) = bs [32, 32] from rfl, bs_app, bs_size, List.length_append]; show 2 + _ + 1 ≤ _; omega)
  rw [hfa]
  simp only [wq, simprocAttr]
  repeat refine VW.seq ?_
  refine VW.regl hT fun K hK => ?_
  simp only [wq, simprocAttr]
  refine ⟨hj1, hj2, ?_⟩
  rw [hli]
  refine vcall_of (parseAct_vc _ (by rw [bs_size]; show (actText (ks.getD k (0, 0, 0, 0)) ++ [32]).length + 1 + 1 ≤ _; rw [List.length_append]; show _ + 1 + 1 + 1 ≤ _; omega)) ?_
  rw [bs_back, hpa]
  simp only [wq, simprocAttr]
  refine hK _ ?_
  clear hK K
  try refine vthen_n ?_
  repeat refine VW.seq ?_
  refine VW.drawl hT hm (by kernel_rfl) fun K hK => ?_
  simp only [wq, simprocAttr]
  refine ⟨by kernel_rfl, by kernel_rfl, by kernel_rfl, hJ, by kernel_rfl, ?_⟩
  refine hK _ ?_
  clear hK K
  try refine vthen_n ?_
  repeat refine VW.seq ?_
  refine VW.cond rfl (fun hc => ?_) (fun hc => ?_)
  ·have hc : (!eqv sAct (ks.getD k (0, 0, 0, 0)) (ks.getD k (0, 0, 0, 0))) = true := hc
   rw [(eqv_eq rfl).2 rfl] at hc
   cases hc
  refine VW.skip ?_
  show vthen _ _ _ .normal _
  refine vthen_n ?_
  repeat refine VW.seq ?_
  refine VW.regl hT fun K hK => ?_
  simp only [wq, simprocAttr]
  refine hK _ ?_
  clear hK K
  try refine vthen_n ?_
  refine ⟨k + 1, hlt, ?_, by show ks.length - (k + 1) < ks.length - k; omega⟩
  simp only [wn, wq, simprocAttr]
  rw [wrap64 (by omega) (by omega), show (k : Int) + 1 = ((k + 1 : Nat) : Int) by omega]
 ·refine VW.exit ?_
  show vthen _ _ _ .normal _
  refine vthen_n ?_
  repeat refine VW.seq ?_
  refine VW.regl hT fun K hK => ?_
  simp only [wq, simprocAttr]
  refine hK _ ?_
  clear hK K
  try refine vthen_n ?_
  exact VW.ret ⟨.inl rfl, _, rfl, rfl⟩
end Go.Proofs.YtoeblmcibheldaaDoor.V.W
namespace Go.Proofs.YtoeblmcibheldaaDoor.V
open Go Go.RowKit
theorem fnActTexts_vc (b : List Int) (w0 : wfS Tryd.prog (.sl 5 (.int .u8)) b) : VC Tryd.prog 6 [.v false (.sl 5 (.int .u8)) b] (· = .v false .bool true) := W.law_actTexts b
end Go.Proofs.YtoeblmcibheldaaDoor.V
end

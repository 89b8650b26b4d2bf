/- Texts F10 F11 F12 R1 R2 R3 F13 F14 F15 F16 G1 G2 G3 Y1 F17 F18 F19 N3 N8 N5 G4 G5 F20 N4 F21 N9 F23 N11 N12 C1 E5 N14 C2 N15 N17 N18 M1 M2 M3 M4 M6 M7 M8 C0 C3 N19 K3 in one. No condition. -/
import Derived.Test.YtoeblmcibheldaaGreatDoorZScripts4
import Derived.Orders
set_option linter.unnecessarySimpa false
set_option linter.unusedSimpArgs false
set_option linter.unusedVariables false
section
namespace Go.Proofs.YtoeblmcibheldaaGreatDoor.V.W
open Go Go.RowKit
set_option maxRecDepth 20000 in
theorem swin_vc {t : List Nd} {s : List Int} (hs : sizesOk t s = true) : ∀ (f k : Nat), t.length - k ≤ f → k < t.length → VC Tryz.prog 152 [.v false sNS t, .v false sI s, .v false (.int .i64) ((k : Nat))] (· = .v false (.int .i64) ((win t s k : Nat)))
 := by
 intro f
 induction f with
 | zero =>
  intro k hf hk
  omega
 | succ f ih =>
  intro k hf hk
  have hok := (sizesOk_iff.1 hs).1
  have hsl := (sizesOk_iff.1 hs).2.1
  have htl := treeOk_len hok
  have hwin := win_eq hok s hk
  have hlim := ksum_lim hs hk
  have hperm := skids_perm hok hk
  have hfun := tree_fun hok hk
  have hcl : (skids t k).length ≤ 12 := by
   rw [hperm.length_eq]
   have := kids_len t k t.length
   omega
  have hsum : wsum (win t s) (skids t k) = ksum t s k := wsum_perm hperm
  refine VC.of_body hT Tryz.func152 rfl (by kernel_rfl) [(.tmp 6, false, .int .i64)] (by kernel_rfl) ?_
  show VW _ _ ([.v false sNS t, .v false sI s, .v false (.int .i64) ((k : Nat)), D, D, D, D, D, D, D, D, D, D, D, D, D, D, D, D, D, D, D, D, D, D, D, D, D, D, D, D, D, D, D, D, D, D, D, D, D, D, D, D, D, D, D, D, D, D]) _
  repeat refine VW.seq ?_
  refine VW.regl hT fun K hK => ?_
  simp only [wq, simprocAttr]
  refine hK _ ?_
  clear hK K
  try refine vthen_n ?_
  repeat refine VW.seq ?_
  refine VW.regl hT fun K hK => ?_
  simp only [wq, simprocAttr]
  refine ⟨decide_eq_true ⟨Int.natCast_nonneg _, by show (k : Int) < (t.length : Int); omega⟩, ?_⟩
  refine hK _ ?_
  clear hK K
  try refine vthen_n ?_
  repeat refine VW.seq ?_
  refine VW.cond rfl (fun hc => ?_) (fun hc => ?_)
  ·repeat refine VW.seq ?_
   refine VW.regl hT fun K hK => ?_
   simp only [wq, simprocAttr]
   refine ⟨decide_eq_true ⟨Int.natCast_nonneg _, by show (k : Int) < (s.length : Int); omega⟩, ?_⟩
   refine hK _ ?_
   clear hK K
   try refine vthen_n ?_
   refine VW.ret ⟨.inl rfl, _, rfl, ?_⟩
   have hc : (t.getD k z).2.2 > 0 := of_decide_eq_true hc
   have : s.getD k 0 = ((s.getD k 0).toNat : Int) := by
    rcases sizes_node hs hk with h | ⟨h, _⟩
    ·rw [h]; rfl
    ·have := pw_in h
     omega
   rw [hwin, if_neg (by omega), ← this]
  have hb : (t.getD k z).2.2 = 0 := by
   have : ¬ (t.getD k z).2.2 > 0 := of_decide_eq_false hc
   omega
  rw [if_pos hb] at hwin
  rw [hwin]
  generalize hL : skids t k = L at *
  refine VW.skip (vthen_n ?_)
  repeat refine VW.seq ?_
  refine VW.regl hT fun K hK => ?_
  simp only [wq, simprocAttr]
  refine vcall_of (specChildren_vc t k (by omega)) ?_
  rw [hL]
  simp only [wq, simprocAttr]
  refine hK _ ?_
  clear hK K
  try refine vthen_n ?_
  repeat refine VW.seq ?_
  refine VW.regl hT fun K hK => ?_
  simp only [wq, simprocAttr]
  refine hK _ ?_
  clear hK K
  try refine vthen_n ?_
  repeat refine VW.seq ?_
  refine VW.regl hT fun K hK => ?_
  simp only [wq, simprocAttr]
  refine hK _ ?_
  clear hK K
  try refine vthen_n ?_
  repeat refine VW.seq ?_
  refine VW.block ?_
  refine VW.loop (α := Nat) [(0, none), (1, none), (7, none), (8, none), (9, none)] (fun i => [.v false sNS t, .v false sI s, D, D, D, D, D, .root (.val false) sI .own L, .v false (.int .i64) ((wsum (win t s) (L.take i) : Nat)), .v false (.int .i64) ((i : Nat)), D, D, D, D, D, D, D, D, D, D, D, D, D, D, D, D, D, D, D, D, D, D, D, D, D, D, D, D, D, D, D, D, D, D, D, D, D, D, D]) (fun i => i ≤ L.length) (fun i => L.length - i) ⟨0, by omega, ?_⟩ fun i hi => ?_
  ·simp only [wn, wq, simprocAttr]
   try rfl
  repeat refine VW.seq ?_
  refine VW.regl hT fun K hK => ?_
  simp only [wq, simprocAttr]
  refine hK _ ?_
  clear hK K
  try refine vthen_n ?_
  repeat refine VW.seq ?_
  refine VW.cond rfl (fun hc => ?_) (fun hc => ?_)
  ·have hlt : i < L.length := by simpa using hc
   obtain ⟨j, hj, h1, h2, h3, h4⟩ := kids_pos hok (hperm.mem_iff.1 (getD_mem hlt))
   have hle := wsum_le (win t s) L (i + 1)
   have htk := wsum_take (win t s) hlt
   rw [hj, Int.toNat_natCast] at htk
   refine VW.skip (vthen_n ?_)
   repeat refine VW.seq ?_
   refine VW.block ?_
   repeat refine VW.seq ?_
   refine VW.regl hT fun K hK => ?_
   simp only [wq, simprocAttr]
   refine ⟨decide_eq_true ⟨Int.natCast_nonneg _, by show (i : Int) < (L.length : Int); omega⟩, ?_⟩
   rw [show L.getD i 0 = (j : Int) from hj]
   refine vcall_of (ih j (by omega) h2) ?_
   simp only [wq, simprocAttr]
   refine hK _ ?_
   clear hK K
   try refine vthen_n ?_
   repeat refine VW.seq ?_
   refine VW.regl hT fun K hK => ?_
   simp only [wq, simprocAttr]
   refine hK _ ?_
   clear hK K
   try refine vthen_n ?_
   refine ⟨i + 1, hlt, ?_, by show L.length - (i + 1) < L.length - i; omega⟩
   simp only [wn, wq, simprocAttr]
   rw [wrap64 (by omega) (by omega), wrap64 (by omega) (by omega), htk]
   rfl
  ·have hge : i = L.length := by
    have : L.length ≤ i := by simpa using hc
    omega
   subst hge
   refine VW.exit ?_
   show vthen _ _ _ .normal _
   refine vthen_n ?_
   rw [List.take_length, hsum]
   generalize ksum t s k = S at *
   repeat refine VW.seq ?_
   refine VW.regl hT fun K hK => ?_
   simp only [wq, simprocAttr]
   refine hK _ ?_
   clear hK K
   try refine vthen_n ?_
   repeat refine VW.seq ?_
   refine VW.block ?_
   refine VW.loop (α := Nat) [(8, none), (10, none)] (fun i => [D, D, D, D, D, D, D, D, .v false (.int .i64) ((S : Nat)), D, .v false (.int .i64) ((2 ^ i : Nat)), D, D, D, D, D, D, D, D, D, D, D, D, D, D, D, D, D, D, D, D, D, D, D, D, D, D, D, D, D, D, D, D, D, D, D, D, D, D]) (fun i => i = 0 ∨ 2 ^ (i - 1) < S) (fun i => 2 * S - 2 ^ i) ⟨0, .inl rfl, ?_⟩ fun i hi => ?_
   ·simp only [wn, wq, simprocAttr]
    try rfl
   have h2i : i = 0 ∨ 2 ^ i ≤ 2 * S := by
    rcases hi with rfl | hi
    ·exact .inl rfl
    ·refine .inr ?_
     cases i with
     | zero => simp; omega
     | succ i =>
      simp only [Nat.add_sub_cancel] at hi
      rw [Nat.pow_succ]
      omega
   repeat refine VW.seq ?_
   refine VW.regl hT fun K hK => ?_
   simp only [wq, simprocAttr]
   refine hK _ ?_
   clear hK K
   try refine vthen_n ?_
   repeat refine VW.seq ?_
   refine VW.cond rfl (fun hc => ?_) (fun hc => ?_)
   ·have hlt : 2 ^ i < S := by
     have : ((2 ^ i : Nat) : Int) < (S : Int) := of_decide_eq_true hc
     omega
    have hps : 2 ^ (i + 1) = 2 ^ i * 2 := Nat.pow_succ ..
    have hpp := Nat.two_pow_pos i
    refine VW.skip (vthen_n ?_)
    repeat refine VW.seq ?_
    refine VW.block ?_
    repeat refine VW.seq ?_
    refine VW.regl hT fun K hK => ?_
    simp only [wq, simprocAttr]
    refine hK _ ?_
    clear hK K
    try refine vthen_n ?_
    refine ⟨i + 1, .inr (by simpa using hlt), ?_, by show 2 * S - 2 ^ (i + 1) < 2 * S - 2 ^ i; omega⟩
    simp only [wn, wq, simprocAttr]
    rw [hps]
    generalize 2 ^ i = P at *
    rw [wrap64 (by omega) (by omega)]
    rfl
   ·have hge : S ≤ 2 ^ i := by
     have : ¬ ((2 ^ i : Nat) : Int) < (S : Int) := of_decide_eq_false hc
     omega
    have hup : (S = 0 ∧ 2 ^ i = 1 ∧ up S = 0) ∨ (1 ≤ S ∧ up S = 2 ^ i) := by
     rcases Nat.eq_zero_or_pos S with h0 | h0
     ·subst h0
      rcases hi with rfl | hi
      ·exact .inl ⟨rfl, rfl, rfl⟩
      ·exact absurd hi (Nat.not_lt_zero _)
     ·exact .inr ⟨h0, up_eq h0 hge hi⟩
    have hP : 1 ≤ 2 ^ i ∧ 2 ^ i ≤ 2176782336 := by
     refine ⟨Nat.two_pow_pos i, ?_⟩
     rcases h2i with rfl | h
     ·decide
     ·omega
    refine VW.exit ?_
    show vthen _ _ _ .normal _
    refine vthen_n ?_
    generalize 2 ^ i = P at *
    have hmul : S * P ≤ 1088391168 * 2176782336 := Nat.mul_le_mul (by omega) hP.2
    have hmul2 : (S : Int) * (P : Int) = ((S * P : Nat) : Int) := by rw [Int.natCast_mul]
    repeat refine VW.seq ?_
    refine VW.regl hT fun K hK => ?_
    simp only [wq, simprocAttr]
    rw [hmul2, wrap64 (by omega) (by omega)]
    refine hK _ ?_
    clear hK K
    try refine vthen_n ?_
    refine VW.ret ⟨.inl rfl, _, rfl, ?_⟩
    show PV.v false (.int .i64) (if ((S * P : Nat) : Int) < (P : Int) then ((S * P : Nat) : Int) else (P : Int)) = _
    rcases hup with ⟨h1, h2, h3⟩ | ⟨h1, h2⟩
    ·subst h1
     rw [h3, Nat.zero_mul, if_pos (by omega)]
    ·have : 1 * P ≤ S * P := Nat.mul_le_mul h1 (Nat.le_refl P)
     rw [h2, if_neg (by omega)]
end Go.Proofs.YtoeblmcibheldaaGreatDoor.V.W
end
section
namespace Go.Proofs.YtoeblmcibheldaaGreatDoor.V.W
open Go Go.RowKit
/-- the sizes, from the greatest down to nothing -/
def sz : Nat → Nat
 | 0 => 0
 | m + 1 => 2 ^ m
def atP (t : List Nd) (s : List Int) (k size i : Nat) : Nat := pos t s k + atS t s k size i
theorem atS_step {t : List Nd} {s : List Int} (hs : sizesOk t s = true) {k : Nat} : ∀ m : Nat, atS t s k (sz (m + 1)) t.length = atS t s k (sz m) 1
 | m + 1 => atS_next hs m
 | 0 => by
  unfold atS
  congr 1
  refine List.filter_congr fun a ha => ?_
  obtain ⟨j, rfl, h1, h2, h3, h4⟩ := kids_pos (sizesOk_iff.1 hs).1 ha
  rw [decide_eq_decide, Int.toNat_natCast]
  simp only [sz]
  omega
theorem dS_step {t : List Nd} {s : List Int} (hs : sizesOk t s = true) {k : Nat} {A : Nat → Bool} (m : Nat) : bars t s (dS t s k A (sz (m + 1)) t.length) = bars t s (dS t s k A (sz m) 1) := by
 refine bars_same t s fun i h1 h2 h3 => ?_
 have h4 : (decide (sz (m + 1) < win t s i) || (win t s i == sz (m + 1) && decide (i < t.length))) = (decide (sz m < win t s i) || (win t s i == sz m && decide (i < 1))) := by
  rw [Bool.eq_iff_iff]
  simp only [Bool.or_eq_true, Bool.and_eq_true, decide_eq_true_eq, beq_iff_eq]
  cases m with
  | zero => simp only [sz]; omega
  | succ m =>
   have := pow_lt_half (e := m) (win_pow hs h1)
   simp only [sz]
   omega
 unfold dS
 rw [h4]
theorem dS_first {t : List Nd} {s : List Int} {k : Nat} {A : Nat → Bool} (h : ∀ j, j < t.length → win t s j ≤ 65536) : bars t s A = bars t s (dS t s k A (sz 17) 1) := by
 refine bars_same t s fun i h1 h2 h3 => ?_
 have h4 : (decide (sz 17 < win t s i) || (win t s i == sz 17 && decide (i < 1))) = false := by
  have := h i h1
  rw [show sz 17 = 65536 from rfl, Bool.eq_false_iff]
  simp only [ne_eq, Bool.or_eq_true, Bool.and_eq_true, decide_eq_true_eq, beq_iff_eq]
  omega
 unfold dS
 rw [h4, Bool.and_false, Bool.or_false]
theorem fuel_step {n k i f : Nat} (h : n - k ≤ f + 1) (h2 : k < i) (h3 : i < n) : n - i ≤ f := by omega
theorem half_sz (m : Nat) (h : sz (m + 1) ≤ 65536) : IntKind.i64.wrap (Int.tdiv ((sz (m + 1) : Nat) : Int) 2) = ((sz m : Nat) : Int) := by
 cases m with
 | zero => rfl
 | succ m =>
  have h0 : (2 ^ m : Nat) * 2 = 2 ^ (m + 1) := (Nat.pow_succ ..).symm
  show IntKind.i64.wrap (Int.tdiv ((2 ^ (m + 1) : Nat) : Int) 2) = ((2 ^ m : Nat) : Int)
  have h1 : Int.tdiv ((2 ^ (m + 1) : Nat) : Int) 2 = ((2 ^ m : Nat) : Int) := by
   rw [← h0, Int.natCast_mul]
   exact Int.mul_tdiv_cancel _ (by decide)
  rw [h1]
  have h2 : sz (m + 1 + 1) ≤ 65536 := h
  have h2 : 2 ^ (m + 1) ≤ 65536 := h2
  generalize (2 ^ m : Nat) = P at *
  exact wrap64 (by omega) (by omega)
set_option maxRecDepth 20000 in
theorem place_vx {t : List Nd} {s : List Int} (hs : sizesOk t s = true) (h65 : win t s 0 ≤ 65536) : ∀ (f k : Nat) (A : Nat → Bool), t.length - k ≤ f → k < t.length → (A k = true ∨ k = 0 ∨ win t s k = 0) →
  VX Tryz.prog 153 [.v false sNS t, .root (.val false) sBS .own (bars t s A), .v false (.int .i64) ((k : Nat))] 1 (fun pv ot => pv = nil0 ∧ ∃ bs : List (Int × Int), (∃ E : Nat → Bool, bs = bars t s E ∧ (∀ j, A j = true → E j = true) ∧ ∀ j, Bel t k j → win t s j ≠ 0 → E j = true) ∧ ot = .root (.val false) sBS .own bs)
 := by
 intro f
 induction f with
 | zero =>
  intro k A hf hk hA
  omega
 | succ f ih =>
  intro k A hf hk hA
  have hok := (sizesOk_iff.1 hs).1
  have htl := treeOk_len hok
  have hbl := bars_len t s A
  have hpb := fun j (h : j < t.length) => pos_bd hok s j j (Nat.le_refl _) h
  have hw65 : ∀ j, j < t.length → win t s j ≤ 65536 := fun j h => by have := hpb j h; omega
  have hpk := hpb k hk
  refine VX.of_rows hT Tryz.func153 rfl (by kernel_rfl) [] (by kernel_rfl) rfl rfl (by show 0 < (bars t s A).length; omega) fun l fi li e1 e2 => ?_
  obtain ⟨n, cp, rfl, rfl⟩ := io1 e1 e2
  show VW _ _ ([.v false sNS t, .root (.val false) sBS (.io n cp) (bars t s A), .v false (.int .i64) ((k : Nat)), D, D, D, D, D, D, D, D, D, D, D, D, D, D, D, D, D, D, D, D, D, D, D, D, D, D, D, D, D, D, D, D, D, D, D, D, D, D, D, D, D, D, D, D, D, D, D, D, D, D, D, D, D, D, D, D, D, D, D, D, D, D, D, D, D, D, D, D, D, D, D, D, D, D, D, D, D, D, D]) _
  have hbk : (bars t s A).getD k zb = ((win t s k : Int), (pos t s k : Int)) := by
   rw [bars_get _ _ _ hk]
   rcases hA with h | rfl | h
   ·rw [if_pos h]
   ·rw [pos_root]; simp
   ·rw [pos_zero h]; simp
  have hA0 : bars t s A = bars t s (dS t s k A (sz 17) 1) := dS_first hw65
  have hat0 : pos t s k = atP t s k (sz 17) 1 := by
   unfold atP
   rw [atS_first hok (m := sz 17) (fun j h => hw65 j h)]
   rfl
  have hatl : ∀ size i, atP t s k size i ≤ 2200000000 := fun size i => by
   have h1 := atS_le t s k size i
   have h2 := ksum_lim hs hk
   unfold atP
   omega
  repeat refine VW.seq ?_
  refine VW.regl hT fun K hK => ?_
  simp only [wq, simprocAttr]
  refine ⟨decide_eq_true ⟨Int.natCast_nonneg _, by show (k : Int) < ((bars t s A).length : Int); omega⟩, ?_⟩
  rw [hbk]
  refine hK _ ?_
  clear hK K
  try refine vthen_n ?_
  repeat refine VW.seq ?_
  refine VW.regl hT fun K hK => ?_
  simp only [wq, simprocAttr]
  refine hK _ ?_
  clear hK K
  try refine vthen_n ?_
  repeat refine VW.seq ?_
  refine VW.block ?_
  refine VW.loop (α := Nat) [(0, none), (1, none), (2, none), (6, none), (7, none)] (fun m => [.v false sNS t, .root (.val false) sBS (.io n cp) (bars t s (dS t s k A (sz m) 1)), .v false (.int .i64) ((k : Nat)), D, D, D, .v false (.int .i64) ((atP t s k (sz m) 1 : Nat)), .v false (.int .i64) ((sz m : Nat)), D, D, D, D, D, D, D, D, D, D, D, D, D, D, D, D, D, D, D, D, D, D, D, D, D, D, D, D, D, D, D, D, D, D, D, D, D, D, D, D, D, D, D, D, D, D, D, D, D, D, D, D, D, D, D, D, D, D, D, D, D, D, D, D, D, D, D, D, D, D, D, D, D, D]) (fun m => m ≤ 17) (fun m => m) ⟨17, by omega, ?_⟩ fun m hm1 => ?_
  ·simp only [wn, wq, simprocAttr]
   rw [hA0, hat0]
   rfl
  repeat refine VW.seq ?_
  refine VW.regl hT fun K hK => ?_
  simp only [wq, simprocAttr]
  refine hK _ ?_
  clear hK K
  try refine vthen_n ?_
  repeat refine VW.seq ?_
  refine VW.cond rfl (fun hc => ?_) (fun hc => ?_)
  ·obtain ⟨m, rfl⟩ : ∃ m', m = m' + 1 := by
    cases m with
    | zero =>
     have : ((sz 0 : Nat) : Int) > 0 := of_decide_eq_true hc
     exact absurd this (by decide)
    | succ m => exact ⟨m, rfl⟩
   have hsz : sz (m + 1) ≤ 65536 := Nat.pow_le_pow_right (n := 2) (by omega) (show m ≤ 16 by omega)
   have hS0 : 0 < sz (m + 1) := Nat.two_pow_pos m
   refine VW.skip (vthen_n ?_)
   repeat refine VW.seq ?_
   refine VW.block ?_
   repeat refine VW.seq ?_
   refine VW.regl hT fun K hK => ?_
   simp only [wq, simprocAttr]
   refine hK _ ?_
   clear hK K
   try refine vthen_n ?_
   repeat refine VW.seq ?_
   refine VW.block ?_
   refine VW.loop (α := Nat) [(0, none), (1, none), (2, none), (6, none), (7, none), (8, none)] (fun i => [.v false sNS t, .root (.val false) sBS (.io n cp) (bars t s (dS t s k A (sz (m + 1)) i)), .v false (.int .i64) ((k : Nat)), D, D, D, .v false (.int .i64) ((atP t s k (sz (m + 1)) i : Nat)), .v false (.int .i64) ((sz (m + 1) : Nat)), .v false (.int .i64) ((i : Nat)), D, D, D, D, D, D, D, D, D, D, D, D, D, D, D, D, D, D, D, D, D, D, D, D, D, D, D, D, D, D, D, D, D, D, D, D, D, D, D, D, D, D, D, D, D, D, D, D, D, D, D, D, D, D, D, D, D, D, D, D, D, D, D, D, D, D, D, D, D, D, D, D, D]) (fun i => 1 ≤ i ∧ i ≤ t.length) (fun i => t.length - i) ⟨1, ⟨by omega, by omega⟩, ?_⟩ fun i ⟨hi1, hi⟩ => ?_
   ·simp only [wn, wq, simprocAttr]
    try rfl
   repeat refine VW.seq ?_
   refine VW.regl hT fun K hK => ?_
   simp only [wq, simprocAttr]
   refine hK _ ?_
   clear hK K
   try refine vthen_n ?_
   repeat refine VW.seq ?_
   refine VW.cond rfl (fun hc => ?_) (fun hc => ?_)
   ·have hlt : i < t.length := by simpa using hc
    generalize hS : sz (m + 1) = S at *
    have hbe := bars_len t s (dS t s k A S i)
    have hbg := bars_get t s (dS t s k A S i) hlt zb
    have hidx : decide (0 ≤ (i : Int) ∧ (i : Int) < (t.length : Int)) = true := decide_eq_true ⟨Int.natCast_nonneg _, by omega⟩
    have hidb : decide (0 ≤ (i : Int) ∧ (i : Int) < ((bars t s (dS t s k A S i)).length : Int)) = true := decide_eq_true ⟨Int.natCast_nonneg _, by omega⟩
    have hl1 := hatl S i
    have hl2 := hatl S (i + 1)
    refine VW.skip (vthen_n ?_)
    repeat refine VW.seq ?_
    refine VW.block ?_
    apply cutl
    ·intro tail
     repeat refine VW.seq ?_
     refine VW.regl hT fun K hK => ?_
     simp only [wq, simprocAttr]
     refine ⟨hidx, ?_⟩
     refine vbr (fun g => ?_) (fun g => ?_) <;> simp only [wq, simprocAttr]
     case refine_2 =>
      have g : ((t.getD i z).1 == (k : Int)) = false := g
      have g : (t.getD i z).1 ≠ (k : Int) := by simpa using g
      refine hK _ ?_
      try refine vthen_n ?_
      refine VW.cond rfl (fun hc => by cases hc) (fun hc => ?_)
      refine VW.skip ?_
      show vthen _ _ _ .normal _
      refine vthen_n ?_
      refine VW.weak (weak_norm [(0, none), (1, none), (2, none), (6, none), (7, none), (8, none)] _) ?_
      simp only [wn, wq, simprocAttr]
      rw [dS_miss (.inl g), show atP t s k S i = atP t s k S (i + 1) by unfold atP; rw [atS_miss (.inl g)]]
      exact tail.h
     have g : ((t.getD i z).1 == (k : Int)) = true := g
     have g : (t.getD i z).1 = (k : Int) := by simpa using g
     refine ⟨hidb, ?_⟩
     rw [hbg]
     refine hK _ ?_
     try refine vthen_n ?_
     refine VW.cond rfl (fun hc => ?_) (fun hc => ?_)
     ·have hw : win t s i = S := by
       have : ((win t s i : Nat) : Int) = (S : Int) := by simpa using hc
       omega
      have hset : (bars t s (dS t s k A S i)).set i (((win t s i : Int), if dS t s k A S i i = true then (pos t s i : Int) else 0).1, ((atP t s k S i : Nat) : Int)) = bars t s (dS t s k A S (i + 1)) := by
       rw [← dS_hit g hw, ← bars_set t s _ hlt, pos_eq hok hi1 hlt (by omega) g, ← atS_befs, hw]
       rfl
      have hat : atP t s k S (i + 1) = atP t s k S i + S := by
       unfold atP
       rw [atS_hit hlt g hw]
       omega
      repeat refine VW.seq ?_
      refine VW.regl hT fun K hK => ?_
      simp only [wq, simprocAttr]
      refine ⟨hidb, ?_⟩
      rw [hbg, hset]
      refine hK _ ?_
      try refine vthen_n ?_
      repeat refine VW.seq ?_
      refine VW.regl hT fun K hK => ?_
      simp only [wq, simprocAttr]
      rw [wrap64 (by omega) (by omega), show ((atP t s k S i : Nat) : Int) + (S : Int) = ((atP t s k S (i + 1) : Nat) : Int) by omega]
      refine hK _ ?_
      try refine vthen_n ?_
      show vthen _ _ _ .normal _
      refine vthen_n ?_
      refine VW.weak (weak_norm [(0, none), (1, none), (2, none), (6, none), (7, none), (8, none)] _) ?_
      simp only [wn, wq, simprocAttr]
      exact tail.h
     ·have hw : win t s i ≠ S := by
       have : ¬ ((win t s i : Nat) : Int) = (S : Int) := by simpa using hc
       omega
      refine VW.skip ?_
      show vthen _ _ _ .normal _
      refine vthen_n ?_
      refine VW.weak (weak_norm [(0, none), (1, none), (2, none), (6, none), (7, none), (8, none)] _) ?_
      simp only [wn, wq, simprocAttr]
      rw [dS_miss (.inr hw), show atP t s k S i = atP t s k S (i + 1) by unfold atP; rw [atS_miss (.inr hw)]]
      exact tail.h
    ·repeat refine VW.seq ?_
     refine VW.regl hT fun K hK => ?_
     simp only [wq, simprocAttr]
     refine hK _ ?_
     clear hK K
     try refine vthen_n ?_
     refine ⟨i + 1, ⟨by omega, by omega⟩, ?_, by show t.length - (i + 1) < t.length - i; omega⟩
     simp only [wn, wq, simprocAttr]
     rw [wrap64 (by omega) (by omega)]
     rfl
   ·have hge : i = t.length := by
     have : t.length ≤ i := by simpa using hc
     omega
    subst hge
    refine VW.exit ?_
    show vthen _ _ _ .normal _
    refine vthen_n ?_
    repeat refine VW.seq ?_
    refine VW.regl hT fun K hK => ?_
    simp only [wq, simprocAttr]
    refine ⟨by decide, ?_⟩
    refine hK _ ?_
    clear hK K
    try refine vthen_n ?_
    refine ⟨m, by omega, ?_, by show m < m + 1; omega⟩
    simp only [wn, wq, simprocAttr]
    rw [half_sz m hsz, dS_step hs m, show atP t s k (sz (m + 1)) t.length = atP t s k (sz m) 1 by unfold atP; rw [atS_step hs m]]
  ·have hm0 : m = 0 := by
    cases m with
    | zero => rfl
    | succ m =>
     have : ¬ ((sz (m + 1) : Nat) : Int) > 0 := of_decide_eq_false hc
     have h1 := Nat.two_pow_pos m
     have h2 : ((sz (m + 1) : Nat) : Int) > 0 := by show ((2 ^ m : Nat) : Int) > 0; omega
     exact absurd h2 this
   subst hm0
   refine VW.exit ?_
   show vthen _ _ _ .normal _
   refine vthen_n ?_
   repeat refine VW.seq ?_
   refine VW.regl hT fun K hK => ?_
   simp only [wq, simprocAttr]
   refine hK _ ?_
   clear hK K
   try refine vthen_n ?_
   repeat refine VW.seq ?_
   refine VW.block ?_
   refine VW.loop (α := Nat × (Nat → Bool)) [(0, none), (1, none), (2, none), (9, none)] (fun p => [.v false sNS t, .root (.val false) sBS (.io n cp) (bars t s p.2), .v false (.int .i64) ((k : Nat)), D, D, D, D, D, D, .v false (.int .i64) ((p.1 : Nat)), D, D, D, D, D, D, D, D, D, D, D, D, D, D, D, D, D, D, D, D, D, D, D, D, D, D, D, D, D, D, D, D, D, D, D, D, D, D, D, D, D, D, D, D, D, D, D, D, D, D, D, D, D, D, D, D, D, D, D, D, D, D, D, D, D, D, D, D, D, D, D, D]) (fun p => 1 ≤ p.1 ∧ p.1 ≤ t.length ∧ (∀ j, A j = true → p.2 j = true) ∧ (∀ j, 1 ≤ j → j < t.length → (t.getD j z).1 = (k : Int) → win t s j ≠ 0 → p.2 j = true) ∧ ∀ c, 1 ≤ c → c < p.1 → (t.getD c z).1 = (k : Int) → ∀ j, Bel t c j → win t s j ≠ 0 → p.2 j = true) (fun p => t.length - p.1) ⟨(1, dS t s k A (sz 0) 1), ⟨by omega, by omega, fun j h => by show (A j || _) = true; rw [h]; rfl, fun j h1 h2 h3 h4 => ?_, fun c h1 h2 => by omega⟩, ?_⟩ fun ⟨i, E⟩ ⟨hi1, hi, hE1, hE2, hE3⟩ => ?_
   ·show dS t s k A (sz 0) 1 j = true
    unfold dS
    rw [h3, show decide (sz 0 < win t s j) = true from decide_eq_true (by simp only [sz]; omega)]
    simp
   ·simp only [wn, wq, simprocAttr]
    try rfl
   have hi1 : 1 ≤ i := hi1
   have hi : i ≤ t.length := hi
   have hE1 : ∀ j, A j = true → E j = true := hE1
   have hE2 : ∀ j, 1 ≤ j → j < t.length → (t.getD j z).1 = (k : Int) → win t s j ≠ 0 → E j = true := hE2
   have hE3 : ∀ c, 1 ≤ c → c < i → (t.getD c z).1 = (k : Int) → ∀ j, Bel t c j → win t s j ≠ 0 → E j = true := hE3
   repeat refine VW.seq ?_
   refine VW.regl hT fun K hK => ?_
   simp only [wq, simprocAttr]
   refine hK _ ?_
   clear hK K
   try refine vthen_n ?_
   repeat refine VW.seq ?_
   refine VW.cond rfl (fun hc => ?_) (fun hc => ?_)
   ·have hlt : i < t.length := by simpa using hc
    have hbe := bars_len t s E
    have hbg := bars_get t s E hlt zb
    have hidx : decide (0 ≤ (i : Int) ∧ (i : Int) < (t.length : Int)) = true := decide_eq_true ⟨Int.natCast_nonneg _, by omega⟩
    have hidb : decide (0 ≤ (i : Int) ∧ (i : Int) < ((bars t s E).length : Int)) = true := decide_eq_true ⟨Int.natCast_nonneg _, by omega⟩
    have hgo : ∀ H : Nat → Bool, (∀ j, E j = true → H j = true) → ((t.getD i z).1 = (k : Int) → ∀ j, Bel t i j → win t s j ≠ 0 → H j = true) → 1 ≤ i + 1 ∧ i + 1 ≤ t.length ∧ (∀ j, A j = true → H j = true) ∧ (∀ j, 1 ≤ j → j < t.length → (t.getD j z).1 = (k : Int) → win t s j ≠ 0 → H j = true) ∧ ∀ c, 1 ≤ c → c < i + 1 → (t.getD c z).1 = (k : Int) → ∀ j, Bel t c j → win t s j ≠ 0 → H j = true := fun H q1 q2 => by
     refine ⟨by omega, by omega, fun j h => q1 j (hE1 j h), fun j h1 h2 h3 h4 => q1 j (hE2 j h1 h2 h3 h4), fun c h1 h2 h3 j h4 h5 => ?_⟩
     rcases Nat.lt_or_ge c i with h6 | h6
     ·exact q1 j (hE3 c h1 h6 h3 j h4 h5)
     ·obtain rfl : c = i := by omega
      exact q2 h3 j h4 h5
    refine VW.skip (vthen_n ?_)
    repeat refine VW.seq ?_
    refine VW.block ?_
    apply cutl
    ·intro tail
     repeat refine VW.seq ?_
     refine VW.regl hT fun K hK => ?_
     simp only [wq, simprocAttr]
     refine ⟨hidx, ?_⟩
     refine vbr (fun g => ?_) (fun g => ?_) <;> simp only [wq, simprocAttr]
     case refine_2 =>
      have g : ((t.getD i z).1 == (k : Int)) = false := g
      have g : (t.getD i z).1 ≠ (k : Int) := by simpa using g
      refine hK _ ?_
      try refine vthen_n ?_
      refine VW.cond rfl (fun hc => by cases hc) (fun hc => ?_)
      refine VW.skip ?_
      show vthen _ _ _ .normal _
      refine vthen_n ?_
      refine VW.weak (weak_norm [(0, none), (1, none), (2, none), (9, none)] _) ?_
      simp only [wn, wq, simprocAttr]
      have hnew := hgo E (fun j h => h) (fun h => absurd h g)
      revert hnew
      exact tail.h
     have g : ((t.getD i z).1 == (k : Int)) = true := g
     have g : (t.getD i z).1 = (k : Int) := by simpa using g
     refine ⟨hidx, ?_⟩
     refine vbr (fun g2 => ?_) (fun g2 => ?_) <;> simp only [wq, simprocAttr]
     case refine_2 =>
      have g2 : ((t.getD i z).2.2 == 0) = false := g2
      have g2 : ¬ (t.getD i z).2.2 = 0 := by simpa using g2
      refine hK _ ?_
      try refine vthen_n ?_
      refine VW.cond rfl (fun hc => by cases hc) (fun hc => ?_)
      refine VW.skip ?_
      show vthen _ _ _ .normal _
      refine vthen_n ?_
      refine VW.weak (weak_norm [(0, none), (1, none), (2, none), (9, none)] _) ?_
      simp only [wn, wq, simprocAttr]
      have hnew := hgo E (fun j h => h) (fun _ j h _ => absurd (bel_bridge hok h) g2)
      revert hnew
      exact tail.h
     refine ⟨hidb, ?_⟩
     rw [hbg]
     refine hK _ ?_
     try refine vthen_n ?_
     refine VW.cond rfl (fun hc => ?_) (fun hc => ?_)
     ·have hw : win t s i ≠ 0 := by
       have : ((win t s i : Nat) : Int) > 0 := of_decide_eq_true hc
       omega
      have hn := tree_node hok hi1 hlt
      rw [g] at hn
      repeat refine VW.seq ?_
      refine VW.regl hT fun K hK => ?_
      simp only [wq, simprocAttr]
      refine vcall_io 1 ?_
      simp only [wq, simprocAttr]
      have hal := ih i E (fuel_step hf (Int.ofNat_lt.1 hn.2.1) hlt) hlt (.inl (hE2 i hi1 hlt g hw))
      have hrec := tagE (agg := false) (s := sBS) (fi := .io n cp) (f0 := .own) (x := bars t s E) (l := [Value.slice (some ⟨n, 0, none⟩) (bars t s E).length cp]) hal rfl rfl rfl (fun y hy => by
       obtain ⟨H, q1, _⟩ := hy
       show some [Value.slice (some ⟨n, 0, none⟩) (List.length y) cp] = some [Value.slice (some ⟨n, 0, none⟩) (List.length (bars t s E)) cp]
       rw [q1, bars_len, bars_len])
      refine vxcall_ex hrec ?_
      rintro pv ot ⟨rfl, bs, ⟨H, rfl, q1, q2⟩, rfl⟩
      simp only [wq, simprocAttr]
      refine hK _ ?_
      clear hK K
      try refine vthen_n ?_
      show vthen _ _ _ .normal _
      refine vthen_n ?_
      repeat refine VW.seq ?_
      refine VW.regl hT fun K hK => ?_
      simp only [wq, simprocAttr]
      refine hK _ ?_
      clear hK K
      try refine vthen_n ?_
      refine ⟨(i + 1, H), hgo H q1 (fun _ => q2), ?_, by show t.length - (i + 1) < t.length - i; omega⟩
      simp only [wn, wq, simprocAttr]
      rw [wrap64 (by omega) (by omega)]
      rfl
     ·have hw : win t s i = 0 := by
       have : ¬ ((win t s i : Nat) : Int) > 0 := of_decide_eq_false hc
       omega
      refine VW.skip ?_
      show vthen _ _ _ .normal _
      refine vthen_n ?_
      refine VW.weak (weak_norm [(0, none), (1, none), (2, none), (9, none)] _) ?_
      simp only [wn, wq, simprocAttr]
      have hnew := hgo E (fun j h => h) (fun _ j h h2 => absurd (bel_win hok s h) (by omega))
      revert hnew
      exact tail.h
    ·intro hnew
     repeat refine VW.seq ?_
     refine VW.regl hT fun K hK => ?_
     simp only [wq, simprocAttr]
     refine hK _ ?_
     clear hK K
     try refine vthen_n ?_
     refine ⟨(i + 1, E), hnew, ?_, by show t.length - (i + 1) < t.length - i; omega⟩
     simp only [wn, wq, simprocAttr]
     rw [wrap64 (by omega) (by omega)]
     rfl
   ·have hge : i = t.length := by
     have : t.length ≤ i := by simpa using hc
     omega
    refine VW.exit ?_
    refine ⟨.inr rfl, _, _, _, _, rfl, ⟨1, _, rfl⟩, ?_, rfl, _, ⟨E, rfl, hE1, fun j h hw => ?_⟩, rfl⟩
    ·show some [Value.slice (some ⟨n, 0, none⟩) (List.length (bars t s E)) cp] = some [Value.slice (some ⟨n, 0, none⟩) (List.length (bars t s A)) cp]
     rw [bars_len, bars_len]
    ·obtain ⟨c, h1, h2, h3, h4⟩ := bel_cases h
     rcases h4 with rfl | h4
     ·exact hE2 _ h1 h2 h3 hw
     ·exact hE3 c h1 (by omega) h3 j h4 hw
end Go.Proofs.YtoeblmcibheldaaGreatDoor.V.W
end
section
namespace Go.Proofs.YtoeblmcibheldaaGreatDoor.V.W
open Go Go.RowKit
/-- the windows fit -/
def fits (t : List Nd) (s : List Int) : Bool := sizesOk t s && decide (win t s 0 ≤ 65536)
/-- the first i windows, none laid down -/
def rowsTo (t : List Nd) (s : List Int) (i : Nat) : List (Int × Int) := (List.range i).map fun j => ((win t s j : Int), (0 : Int))
theorem rowsTo_succ (t : List Nd) (s : List Int) (i : Nat) : rowsTo t s (i + 1) = rowsTo t s i ++ [((win t s i : Int), (0 : Int))] := by
 unfold rowsTo
 rw [List.range_succ, List.map_append]
 rfl
theorem rowsTo_len (t : List Nd) (s : List Int) (i : Nat) : (rowsTo t s i).length = i := by simp [rowsTo]
theorem rowsTo_all (t : List Nd) (s : List Int) : rowsTo t s t.length = bars t s fun _ => false := by
 unfold rowsTo bars
 simp
abbrev rBars (b : Bool) (x : List (Int × Int)) : PV := .root (.tup [false, false]) (.pr sBS .bool) (.pr .own .fz) (x, b)
set_option maxRecDepth 20000 in
theorem allocate_vc (t : List Nd) (s : List Int) (hl : t.length ≤ 2000000) (hs : s.length ≤ 2000000) : VC Tryz.prog 125 [.v false sNS t, .v false sI s] (fun pv => if fits t s = true then pv = rBars true (allBars t s) else ∃ x, pv = rBars false x) := by
 refine VC.of_body hT Tryz.func125 rfl (by kernel_rfl) [(.tmp 4, false, sBS), (.tmp 5, false, .bool)] (by kernel_rfl) ?_
 show VW _ _ ([.v false sNS t, .v false sI s, D, D, D, D, D, D, D, D, D, D, D, D, D, D, D, D, D, D, D, D, D, D, D, D, D, D, D, D, D, D, D, D, D, D, D]) _
 repeat refine VW.seq ?_
 refine VW.regl hT fun K hK => ?_
 simp only [wq, simprocAttr]
 refine hK _ ?_
 clear hK K
 try refine vthen_n ?_
 repeat refine VW.seq ?_
 refine VW.regl hT fun K hK => ?_
 simp only [wq, simprocAttr]
 refine vcall_of (sizesOk_vc t s hl hs) ?_
 simp only [wq, simprocAttr]
 refine vbr (fun h => ?_) (fun h => ?_) <;> simp only [wq, simprocAttr]
 case refine_2 =>
  refine hK _ ?_
  clear hK K
  try refine vthen_n ?_
  repeat refine VW.seq ?_
  refine VW.cond rfl (fun hc => ?_) (fun hc => ?_)
  ·repeat refine VW.seq ?_
   refine VW.regl hT fun K hK => ?_
   simp only [wq, simprocAttr]
   refine hK _ ?_
   clear hK K
   try refine vthen_n ?_
   have h' : sizesOk t s = false := (Bool.not_eq_true' _).mp h
   refine VW.ret ⟨.inl rfl, _, rfl, ?_⟩
   rw [if_neg (by rw [fits, h', Bool.false_and]; decide)]
   exact ⟨_, rfl⟩
  ·cases hc
 have hok0 : sizesOk t s = true := by
  have := h
  rwa [Bool.not_eq_false'] at this
 have hok := (sizesOk_iff.1 hok0).1
 have htl := treeOk_len hok
 have hlim := win_lim hok0 (k := 0) (by omega)
 refine vcall_of (win_vc hok0 t.length 0 (by omega) (by omega)) ?_
 simp only [wq, simprocAttr]
 refine hK _ ?_
 clear hK K
 try refine vthen_n ?_
 repeat refine VW.seq ?_
 refine VW.cond rfl (fun hc => ?_) (fun hc => ?_)
 ·have hc : ((win t s 0 : Nat) : Int) > 65536 := of_decide_eq_true hc
  have hf : fits t s = false := by rw [fits, decide_eq_false (by omega), Bool.and_false]
  repeat refine VW.seq ?_
  refine VW.regl hT fun K hK => ?_
  simp only [wq, simprocAttr]
  refine hK _ ?_
  clear hK K
  try refine vthen_n ?_
  refine VW.ret ⟨.inl rfl, _, rfl, ?_⟩
  rw [if_neg (by rw [hf]; decide)]
  exact ⟨_, rfl⟩
 have hc : ¬ ((win t s 0 : Nat) : Int) > 65536 := of_decide_eq_false hc
 have hf : fits t s = true := by rw [fits, hok0, decide_eq_true (by omega)]; rfl
 refine VW.skip (vthen_n ?_)
 repeat refine VW.seq ?_
 refine VW.regl hT fun K hK => ?_
 simp only [wq, simprocAttr]
 refine hK _ ?_
 clear hK K
 try refine vthen_n ?_
 repeat refine VW.seq ?_
 refine VW.regl hT fun K hK => ?_
 simp only [wq, simprocAttr]
 refine hK _ ?_
 clear hK K
 try refine vthen_n ?_
 repeat refine VW.seq ?_
 refine VW.block ?_
 refine VW.loop (α := Nat) [(0, none), (1, none), (6, some (110, sBr)), (20, none), (21, none)] (fun i => [.v false sNS t, .v false sI s, D, D, D, D, .root (.val false) sBS .own (rowsTo t s i), D, D, D, D, D, D, D, D, D, D, D, D, D, .v false (.int .i64) ((t.length : Nat)), .v false (.int .i64) ((i : Nat)), D, D, D, D, D, D, D, D, D, D, D, D, D, D, D]) (fun i => i ≤ t.length) (fun i => t.length - i) ⟨0, by omega, ?_⟩ fun i hi => ?_
 ·simp only [wn, wq, simprocAttr]
  try rfl
 repeat refine VW.seq ?_
 refine VW.regl hT fun K hK => ?_
 simp only [wq, simprocAttr]
 refine hK _ ?_
 clear hK K
 try refine vthen_n ?_
 repeat refine VW.seq ?_
 refine VW.cond rfl (fun hc => ?_) (fun hc => ?_)
 ·have hlt : i < t.length := by simpa using hc
  have hrl := rowsTo_len t s i
  refine VW.skip (vthen_n ?_)
  repeat refine VW.seq ?_
  refine VW.block ?_
  repeat refine VW.seq ?_
  refine VW.regl hT fun K hK => ?_
  simp only [wq, simprocAttr]
  refine hK _ ?_
  clear hK K
  try refine vthen_n ?_
  repeat refine VW.seq ?_
  refine VW.regl hT fun K hK => ?_
  simp only [wq, simprocAttr]
  refine vcall_of (win_vc hok0 t.length i (by omega) (by omega)) ?_
  simp only [wq, simprocAttr]
  refine ⟨by simp [limOk, hrl]; omega, ?_⟩
  refine hK _ ?_
  clear hK K
  try refine vthen_n ?_
  repeat refine VW.seq ?_
  refine VW.regl hT fun K hK => ?_
  simp only [wq, simprocAttr]
  refine hK _ ?_
  clear hK K
  try refine vthen_n ?_
  refine ⟨i + 1, hlt, ?_, by show t.length - (i + 1) < t.length - i; omega⟩
  simp only [wn, wq, simprocAttr]
  rw [wrap64 (by omega) (by omega), rowsTo_succ]
  rfl
 ·have hge : i = t.length := by
   have : t.length ≤ i := by simpa using hc
   omega
  subst hge
  refine VW.exit ?_
  show vthen _ _ _ .normal _
  refine vthen_n ?_
  rw [rowsTo_all]
  repeat refine VW.seq ?_
  refine VW.regl hT fun K hK => ?_
  simp only [wq, simprocAttr]
  refine vcall_io 1 ?_
  simp only [wq, simprocAttr]
  refine vxcall_ex (alloc_vx hok0 t.length 0 (fun _ => false) (by omega) (by omega) (.inr (.inl rfl))) ?_
  rintro pv ot ⟨rfl, bs, ⟨E, rfl, q1, q2⟩, rfl⟩
  simp only [wq, simprocAttr]
  rw [bars_all hok q2]
  refine hK _ ?_
  clear hK K
  try refine vthen_n ?_
  repeat refine VW.seq ?_
  refine VW.regl hT fun K hK => ?_
  simp only [wq, simprocAttr]
  refine hK _ ?_
  clear hK K
  try refine vthen_n ?_
  refine VW.ret ⟨.inl rfl, _, rfl, ?_⟩
  rw [if_pos hf]
set_option maxRecDepth 20000 in
theorem specAllocate_vc (t : List Nd) (s : List Int) (hl : t.length ≤ 2000000) (hs : s.length ≤ 2000000) : VC Tryz.prog 118 [.v false sNS t, .v false sI s] (fun pv => if fits t s = true then pv = rBars true (allBars t s) else ∃ x, pv = rBars false x) := by
 refine VC.of_body hT Tryz.func118 rfl (by kernel_rfl) [(.tmp 4, false, sBS), (.tmp 5, false, .bool)] (by kernel_rfl) ?_
 show VW _ _ ([.v false sNS t, .v false sI s, D, D, D, D, D, D, D, D, D, D, D, D, D, D, D, D, D, D, D, D, D, D, D, D, D, D, D, D, D, D, D, D, D, D, D, D]) _
 repeat refine VW.seq ?_
 refine VW.regl hT fun K hK => ?_
 simp only [wq, simprocAttr]
 refine hK _ ?_
 clear hK K
 try refine vthen_n ?_
 repeat refine VW.seq ?_
 refine VW.regl hT fun K hK => ?_
 simp only [wq, simprocAttr]
 refine vcall_of (specSizes_vc t s hl hs) ?_
 simp only [wq, simprocAttr]
 refine vbr (fun h => ?_) (fun h => ?_) <;> simp only [wq, simprocAttr]
 case refine_2 =>
  refine hK _ ?_
  clear hK K
  try refine vthen_n ?_
  repeat refine VW.seq ?_
  refine VW.cond rfl (fun hc => ?_) (fun hc => ?_)
  ·repeat refine VW.seq ?_
   refine VW.regl hT fun K hK => ?_
   simp only [wq, simprocAttr]
   refine hK _ ?_
   clear hK K
   try refine vthen_n ?_
   have h' : sizesOk t s = false := (Bool.not_eq_true' _).mp h
   refine VW.ret ⟨.inl rfl, _, rfl, ?_⟩
   rw [if_neg (by rw [fits, h', Bool.false_and]; decide)]
   exact ⟨_, rfl⟩
  ·cases hc
 have hok0 : sizesOk t s = true := by
  have := h
  rwa [Bool.not_eq_false'] at this
 have hok := (sizesOk_iff.1 hok0).1
 have htl := treeOk_len hok
 have hlim := win_lim hok0 (k := 0) (by omega)
 refine vcall_of (swin_vc hok0 t.length 0 (by omega) (by omega)) ?_
 simp only [wq, simprocAttr]
 refine hK _ ?_
 clear hK K
 try refine vthen_n ?_
 repeat refine VW.seq ?_
 refine VW.cond rfl (fun hc => ?_) (fun hc => ?_)
 ·have hc : ((win t s 0 : Nat) : Int) > 65536 := of_decide_eq_true hc
  have hf : fits t s = false := by rw [fits, decide_eq_false (by omega), Bool.and_false]
  repeat refine VW.seq ?_
  refine VW.regl hT fun K hK => ?_
  simp only [wq, simprocAttr]
  refine hK _ ?_
  clear hK K
  try refine vthen_n ?_
  refine VW.ret ⟨.inl rfl, _, rfl, ?_⟩
  rw [if_neg (by rw [hf]; decide)]
  exact ⟨_, rfl⟩
 have hc : ¬ ((win t s 0 : Nat) : Int) > 65536 := of_decide_eq_false hc
 have hf : fits t s = true := by rw [fits, hok0, decide_eq_true (by omega)]; rfl
 refine VW.skip (vthen_n ?_)
 repeat refine VW.seq ?_
 refine VW.regl hT fun K hK => ?_
 simp only [wq, simprocAttr]
 refine hK _ ?_
 clear hK K
 try refine vthen_n ?_
 repeat refine VW.seq ?_
 refine VW.regl hT fun K hK => ?_
 simp only [wq, simprocAttr]
 refine hK _ ?_
 clear hK K
 try refine vthen_n ?_
 repeat refine VW.seq ?_
 refine VW.block ?_
 refine VW.loop (α := Nat) [(0, none), (1, none), (6, some (110, sBr)), (7, none)] (fun i => [.v false sNS t, .v false sI s, D, D, D, D, .root (.val false) sBS .own (rowsTo t s i), .v false (.int .i64) ((i : Nat)), D, D, D, D, D, D, D, D, D, D, D, D, D, D, D, D, D, D, D, D, D, D, D, D, D, D, D, D, D, D]) (fun i => i ≤ t.length) (fun i => t.length - i) ⟨0, by omega, ?_⟩ fun i hi => ?_
 ·simp only [wn, wq, simprocAttr]
  try rfl
 repeat refine VW.seq ?_
 refine VW.regl hT fun K hK => ?_
 simp only [wq, simprocAttr]
 refine hK _ ?_
 clear hK K
 try refine vthen_n ?_
 repeat refine VW.seq ?_
 refine VW.cond rfl (fun hc => ?_) (fun hc => ?_)
 ·have hlt : i < t.length := by simpa using hc
  have hrl := rowsTo_len t s i
  refine VW.skip (vthen_n ?_)
  repeat refine VW.seq ?_
  refine VW.block ?_
  repeat refine VW.seq ?_
  refine VW.regl hT fun K hK => ?_
  simp only [wq, simprocAttr]
  refine vcall_of (swin_vc hok0 t.length i (by omega) (by omega)) ?_
  simp only [wq, simprocAttr]
  refine ⟨by simp [limOk, hrl]; omega, ?_⟩
  refine hK _ ?_
  clear hK K
  try refine vthen_n ?_
  repeat refine VW.seq ?_
  refine VW.regl hT fun K hK => ?_
  simp only [wq, simprocAttr]
  refine hK _ ?_
  clear hK K
  try refine vthen_n ?_
  refine ⟨i + 1, hlt, ?_, by show t.length - (i + 1) < t.length - i; omega⟩
  simp only [wn, wq, simprocAttr]
  rw [wrap64 (by omega) (by omega), rowsTo_succ]
  rfl
 ·have hge : i = t.length := by
   have : t.length ≤ i := by simpa using hc
   omega
  subst hge
  refine VW.exit ?_
  show vthen _ _ _ .normal _
  refine vthen_n ?_
  rw [rowsTo_all]
  repeat refine VW.seq ?_
  refine VW.regl hT fun K hK => ?_
  simp only [wq, simprocAttr]
  refine vcall_io 1 ?_
  simp only [wq, simprocAttr]
  refine vxcall_ex (place_vx hok0 (by omega) t.length 0 (fun _ => false) (by omega) (by omega) (.inr (.inl rfl))) ?_
  rintro pv ot ⟨rfl, bs, ⟨E, rfl, q1, q2⟩, rfl⟩
  simp only [wq, simprocAttr]
  rw [bars_all hok q2]
  refine hK _ ?_
  clear hK K
  try refine vthen_n ?_
  repeat refine VW.seq ?_
  refine VW.regl hT fun K hK => ?_
  simp only [wq, simprocAttr]
  refine hK _ ?_
  clear hK K
  try refine vthen_n ?_
  refine VW.ret ⟨.inl rfl, _, rfl, ?_⟩
  rw [if_pos hf]
end Go.Proofs.YtoeblmcibheldaaGreatDoor.V.W
end
section
namespace Go.Proofs.YtoeblmcibheldaaGreatDoor.V
open Go Go.RowKit
section
variable {P : Program}
def ints (ys : List Int) : List Value := ys.map fun y => .int .i64 y
theorem ints_len (ys : List Int) : (ints ys).length = ys.length := by simp [ints]
theorem run_copyInts {w : World} {Z : Nat → Prop} {t e : TypeId} {ti : TypeInfo} {xs ys : List Int} {v src : Value} {B : Nat → Prop} {i ls : Nat} {A : Option Addr} {c : Nat} {ats : Array TypeId} {ty : TypeId} (hu : P.underlying t = some (.slice e)) (ha : ats[0]? = some t) (i1 : P.info? e = some ti) (i2 : ti.size = 1)
  (hR : Rep w Z (.sl e (.int .i64)) .own xs [v] B) (hv : v = .slice A xs.length c) (hi : i + ys.length ≤ xs.length) (hk : 1 ≤ ys.length) (hm : Nat.min ls (xs.length - i) = ys.length)
  (h1 : (Builtin.lenOf src).run P w = .ok ls w) (h2 : (Builtin.firstCells 1 ys.length src).run P w = .ok (ints ys).toArray w) :
  ∃ w', (Builtin.copy_ ats ty #[sliced A i xs.length c 1, src]).run P w = .ok (goInt ys.length) w' ∧ ExtF w w' B ∧ w'.heap.size = w.heap.size ∧ Rep w' Z (.sl e (.int .i64)) .own (xs.take i ++ ys ++ xs.drop (i + ys.length)) [v] B := by
 have hR : OwnR w e 1 (fun x c B' => Rep w Z (.int .i64) .own x c B') 0 xs [v] B := hR
 rcases hR with ⟨A', _, rfl⟩ | ⟨g, cap, cur, rows, Bs, hA, q2, q3, q4, q5, q6, q7, q8⟩
 ·have : ([] : List Int).length = 0 := rfl
  omega
 have hA : v = .slice (some ⟨g, 0, none⟩) xs.length cap := by simpa using hA
 rw [hv] at hA
 injection hA with a1 a2 a3
 subst a1; subst a3
 have hsz : cur.size = c := by omega
 let cs0 : List Value := ((cur.toList.drop i).take ys.length)
 have hcs0 : cs0.length = ys.length := by simp only [cs0, List.length_take, List.length_drop, Array.length_toList]; omega
 have hAt : At w (some ⟨g, i, none⟩) cs0 := by
  intro A' hA' j hj
  obtain rfl := Option.some.inj hA'
  rw [cell_at rfl q2 j]
  simp only [cs0]
  rw [List.getElem?_take_of_lt (by rw [hcs0] at hj; exact hj), List.getElem?_drop]
  simp
 obtain ⟨w', r1, r2, r3, r4, r5, r6, r7⟩ := run_storeAt (P := P) (n := ints ys) hAt (by rw [hcs0, ints_len]) (by rw [hcs0]; exact hk) q2 (fun u hu => by
  obtain ⟨y, _, rfl⟩ := List.mem_map.1 hu
  rfl)
 have hc' := r2.here _ _ _ q2
 refine ⟨w', ?_, ⟨r5, r6, r7, by omega, fun b hb hn => r2.other b (fun e => hn (by rw [e]; exact q6))⟩, r4, ?_⟩
 ·have hc9 : ¬ c = i := by omega
  have hsl : sliced (some ⟨g, 0, none⟩) i xs.length c 1 = .slice (some ⟨g, i, none⟩) (xs.length - i) (c - i) := by
   have ha : (⟨g, 0, none⟩ : Addr).add (i * 1) = ⟨g, i, none⟩ := by unfold Addr.add; split <;> simp_all
   unfold sliced
   rw [if_neg hc9, Option.map_some, ha]
  have hz : (sizeOf e).run P w = .ok 1 w := by rw [run_size i1, i2]
  rw [hsl]
  simp [Builtin.copy_, ha, run_underlying hu, h1, hm, hz, h2, r1]
 ·have hlen : (xs.take i ++ ys ++ xs.drop (i + ys.length)).length = xs.length := by simp only [List.length_append, List.length_take, List.length_drop]; omega
  show OwnR w' e 1 (fun x c B' => Rep w' Z (.int .i64) .own x c B') 0 (xs.take i ++ ys ++ xs.drop (i + ys.length)) [v] B
  refine .inr ⟨g, c, wrArr cur i (ints ys), fun j => [.int .i64 ((xs.take i ++ ys ++ xs.drop (i + ys.length)).getD j 0)], fun _ _ => False, by rw [hv, hlen], hc', by rw [hlen]; exact q3, q4, by rw [wrArr_size]; exact q5, q6, fun j hj => ⟨rfl, fun k hk2 => ?_, fun b hb => hb.elim, rfl⟩, fun _ _ _ _ _ _ h => h.elim⟩
  rw [hlen] at hj
  obtain rfl : k = 0 := by omega
  rw [Nat.mul_one, Nat.add_zero]
  have hold : ∀ m, m < xs.length → cur[m]? = some (.int .i64 (xs.getD m 0)) := fun m hm => by
   obtain ⟨p1, p2, p3, p4⟩ := q7 m hm
   have p4 : rows m = [.int .i64 (xs.getD m 0)] := p4
   have := p2 0 (by omega)
   rw [p4] at this
   simpa using this
  show (wrArr cur i (ints ys))[j]? = some (.int .i64 _)
  rw [List.append_assoc, List.getD_eq_getElem?_getD]
  rcases Nat.lt_or_ge j i with h | h
  ·rw [wrArr_out _ _ _ _ (.inl h), hold j hj, List.getElem?_append_left (by simp; omega), List.getElem?_take_of_lt h, ← List.getD_eq_getElem?_getD]
  ·rcases Nat.lt_or_ge j (i + ys.length) with h3 | h3
   ·obtain ⟨d, rfl⟩ : ∃ d, j = i + d := ⟨j - i, by omega⟩
    rw [wrArr_in _ _ _ _ (by rw [ints_len]; omega) (by rw [ints_len]; omega), List.getElem?_append_right (by simp; omega), List.getElem?_append_left (by simp; omega)]
    have e1 : i + d - (xs.take i).length = d := by simp; omega
    rw [e1]
    have hd : d < ys.length := by omega
    simp [ints, hd]
   ·rw [wrArr_out _ _ _ _ (.inr (by rw [ints_len]; exact h3)), hold j hj, List.getElem?_append_right (by simp; omega), List.getElem?_append_right (by simp; omega), List.getElem?_drop]
    have e1 : i + ys.length + (j - (xs.take i).length - ys.length) = j := by simp; omega
    rw [e1, ← List.getD_eq_getElem?_getD]
theorem run_loadInts {w : World} {ad : Addr} {ys : List Int} (h : ∀ j, j < ys.length → w.cell? (ad.add j) = some (.int .i64 (ys.getD j 0))) : (loadCells ad ys.length).run P w = .ok (ints ys).toArray w := by
 have := run_loadCells_list (P := P) w ad (ints ys) (fun j v hv => by
  have hj : j < ys.length := by
   have := (List.getElem?_eq_some_iff.1 hv).1
   rwa [ints_len] at this
  rw [h j hj, ← hv]
  simp [ints, hj])
 rw [ints_len] at this
 exact this
/-- a row of frozen numbers, its head read -/
theorem run_headFz {w : World} {Z : Nat → Prop} {e : TypeId} {ys : List Int} {v : Value} {k : Nat} (hk : 1 ≤ k) (hkl : k ≤ ys.length) (h : Rep w Z (.sl e (.int .i64)) .fz ys [v] (fun _ => False)) : (Builtin.lenOf v).run P w = .ok ys.length w ∧ (Builtin.firstCells 1 k v).run P w = .ok (ints (ys.take k)).toArray w := by
 obtain ⟨A, c, h1, h2, h3, h4⟩ := (h : FzR w Z 1 (fun x c => Rep w Z (.int .i64) .fz x c (fun _ => False)) 0 ys [v])
 obtain ⟨ad, rfl, e2, e3⟩ := h4 (by omega)
 obtain rfl : v = .slice (some ad) ys.length c := by simpa using h1
 have hl : (ys.take k).length = k := by simp; omega
 refine ⟨by simp [Builtin.lenOf], ?_⟩
 have := run_loadInts (P := P) (w := w) (ad := ad) (ys := ys.take k) (fun j hj => by
  rw [hl] at hj
  obtain ⟨c', q1, q2, q3⟩ := e3 j (by omega)
  have q3 : c' = [.int .i64 (ys.getD j 0)] := q3
  have q2 : w.cell? (ad.add (j * 1 + 0)) = c'[0]? := q2 0 (Nat.lt_succ_self 0)
  rw [q3, Nat.mul_one, Nat.add_zero] at q2
  rw [q2, List.getD_eq_getElem?_getD, List.getD_eq_getElem?_getD, List.getElem?_take_of_lt hj]
  rfl)
 rw [hl] at this
 simp [Builtin.firstCells, this]
/-- a row of one's own, its head read -/
theorem run_headOwn {w : World} {Z : Nat → Prop} {e : TypeId} {xs : List Int} {v : Value} {B : Nat → Prop} {i k : Nat} {A : Option Addr} {c : Nat} (hk : 1 ≤ k) (hki : k ≤ i) (hi : i < xs.length) (h : Rep w Z (.sl e (.int .i64)) .own xs [v] B) (hv : v = .slice A xs.length c) : (Builtin.lenOf (sliced A 0 i c 1)).run P w = .ok i w ∧ (Builtin.firstCells 1 k (sliced A 0 i c 1)).run P w = .ok (ints (xs.take k)).toArray w := by
 have h : OwnR w e 1 (fun x c B' => Rep w Z (.int .i64) .own x c B') 0 xs [v] B := h
 rcases h with ⟨A', _, rfl⟩ | ⟨g, cap, cur, rows, Bs, hA, q2, q3, q4, q5, q6, q7, q8⟩
 ·have : ([] : List Int).length = 0 := rfl
  omega
 have hA : v = .slice (some ⟨g, 0, none⟩) xs.length cap := by simpa using hA
 rw [hv] at hA
 injection hA with a1 a2 a3
 subst a1; subst a3
 have hsl : sliced (some ⟨g, 0, none⟩) 0 i c 1 = .slice (some ⟨g, 0, none⟩) i c := by
  unfold sliced
  rw [if_neg (by omega)]
  simp [Addr.add]
 have hl : (xs.take k).length = k := by simp; omega
 rw [hsl]
 refine ⟨by simp [Builtin.lenOf], ?_⟩
 have := run_loadInts (P := P) (w := w) (ad := ⟨g, 0, none⟩) (ys := xs.take k) (fun j hj => by
  rw [hl] at hj
  obtain ⟨p1, p2, p3, p4⟩ := q7 j (by omega)
  have p4 : rows j = [.int .i64 (xs.getD j 0)] := p4
  have p2 := p2 0 (by omega)
  rw [p4, Nat.mul_one, Nat.add_zero] at p2
  rw [cell_at rfl q2 j]
  show cur[0 + j]? = _
  rw [Nat.zero_add, p2, List.getD_eq_getElem?_getD, List.getD_eq_getElem?_getD, List.getElem?_take_of_lt hj]
  rfl)
 rw [hl] at this
 simp [Builtin.firstCells, this]
theorem own_whole {w : World} {Z : Nat → Prop} {e : TypeId} {xs : List Int} {v : Value} {B : Nat → Prop} {A : Option Addr} {c : Nat} (h0 : 0 < xs.length) (h : Rep w Z (.sl e (.int .i64)) .own xs [v] B) (hv : v = .slice A xs.length c) : sliced A 0 xs.length c 1 = .slice A xs.length c := by
 have h : OwnR w e 1 (fun x c B' => Rep w Z (.int .i64) .own x c B') 0 xs [v] B := h
 rcases h with ⟨A', _, rfl⟩ | ⟨g, cap, cur, rows, Bs, hA, q2, q3, q4, q5, q6, q7, q8⟩
 ·have : ([] : List Int).length = 0 := rfl
  omega
 have hA : v = .slice (some ⟨g, 0, none⟩) xs.length cap := by simpa using hA
 rw [hv] at hA
 injection hA with a1 a2 a3
 subst a1; subst a3
 unfold sliced
 rw [if_neg (by omega)]
 simp [Addr.add]
end
end Go.Proofs.YtoeblmcibheldaaGreatDoor.V
end
section
namespace Go.Proofs.YtoeblmcibheldaaGreatDoor.V
open Go Go.RowKit
section
variable {P : Program} {T : List (Nat × TI)}
abbrev D0 : PV := .dead
/-- the state of slices.Repeat's loop -/
def rst (e : TypeId) (xs : List Int) (i : Int) : St := [D0, D0, D0, D0, D0, D0, D0, .root (.val false) (.sl e (.int .i64)) .own xs, .v false (.int .i64) i, D0, D0, D0, D0, D0, D0, D0, D0, D0, D0, D0, D0, D0, D0, D0, D0, D0, D0, D0, D0, D0, D0, D0, D0, D0, D0, D0, D0, D0, D0, D0, D0, D0, D0, D0, D0, D0, D0, D0]
def rst0 (e : TypeId) (ys xs : List Int) : St := [.v false (.sl e (.int .i64)) ys, D0, D0, D0, D0, D0, D0, .root (.val false) (.sl e (.int .i64)) .own xs, D0, D0, D0, D0, D0, D0, D0, D0, D0, D0, D0, D0, D0, D0, D0, D0, D0, D0, D0, D0, D0, D0, D0, D0, D0, D0, D0, D0, D0, D0, D0, D0, D0, D0, D0, D0, D0, D0, D0, D0]
def lst : Nat → Array Bool
 | 0 => Array.replicate 10 false
 | i + 1 => (lst i).setIfInBounds i true
def takeB (ops : Array Oper) (i : Nat) : Bool := Region.free .any ops (lst i) i && (Region.ready .any ops (lst i)).contains i
def repOk (ops : Array Oper) : Bool := Region.noSelect ops && (takeB ops 0 && takeB ops 1 && takeB ops 2 && takeB ops 3 && takeB ops 4 && takeB ops 5 && takeB ops 6 && takeB ops 8 && takeB ops 9) && (Region.ready .any ops (lst 7) == [7]) && (Region.ready .any ops (lst 10) == [])
theorem ev_put {a : Act} {d t : Nat} {v : Value} (h : d < a.tmps.size) : (a.put (some d) v).eval (.tmp t) = if t = d then v else a.eval (.tmp t) := getD_put h
theorem sz_put {a : Act} {d : Nat} {v : Value} : (a.put (some d) v).tmps.size = a.tmps.size := Array.size_setIfInBounds ..
theorem wanted_none {ops : Array Oper} {o : Oper} {a : Act} (h : o.guard = none) : Region.wanted o (yielded ops a.tmps) = true := by unfold Region.wanted; rw [h]
theorem take_step {ops : Array Oper} {Q : Exit → Act → World → Prop} (hQ : ∀ c a w, ¬ Q (.panic c) a w) {i : Nat} {o : Oper} {d : Tmp} {v : Value} {fuel : Nat} {a : Act} {w : World} (ho : ops[i]? = some o) (hs : Region.noSelect ops = true) (ht : takeB ops i = true) (hd : o.dst = some d) (hg : o.guard = none)
  (hy : ∀ w, (execOp a.eval o).run P w = .ok (.value v) w) (h : wpAny P .any ops Q fuel (lst (i + 1)) (a.put (some d) v) w) : wpAny P .any ops Q (fuel + 1) (lst i) a w := by
 simp only [takeB, Bool.and_eq_true] at ht
 refine wpAny_take ho hs ht.1 ht.2 (fun c a w hq => absurd hq (hQ _ _ _)) (.inl ⟨wanted_none hg, hy⟩) ?_
 rw [hd]
 exact h
set_option maxRecDepth 20000 in
set_option maxHeartbeats 1000000 in
theorem VW.rep9 (hT : TabOk P T) (hm : P.follows .mixedOrders = true) {rid : Nat} {o0 o1 o2 o3 o4 o5 o6 o7 o8 o9 : Oper} {t t3 e : TypeId} {bb nf : Nat} {fs : List (Bool × Sh)} {cm : Bool} {ats : Array TypeId} {xs : List Int} {i : Nat} {Q : Exit → St → Prop}
  (ht : tget T t = some ⟨.sl e (.int .i64), false, bb, nf, fs, cm⟩) (hok : repOk #[o0, o1, o2, o3, o4, o5, o6, o7, o8, o9] = true)
  (e0 : o0.op = .move (.tmp 8)) (d0 : o0.dst = some 38) (q0 : o0.guard = none) (e1 : o1.op = .move (.tmp 7)) (d1 : o1.dst = some 39) (q1 : o1.guard = none)
  (e2 : o2.op = .move (.tmp 8)) (d2 : o2.dst = some 40) (q2 : o2.guard = none) (e3 : o3.op = .slice t (.tmp 39) (some (.tmp 40)) none none) (d3 : o3.dst = some 41) (q3 : o3.guard = none)
  (e4 : o4.op = .move (.tmp 7)) (d4 : o4.dst = some 42) (q4 : o4.guard = none) (e5 : o5.op = .move (.tmp 8)) (d5 : o5.dst = some 43) (q5 : o5.guard = none)
  (e6 : o6.op = .slice t (.tmp 42) none (some (.tmp 43)) none) (d6 : o6.dst = some 44) (q6 : o6.guard = none)
  (e7 : o7.op = .call ⟨.builtin .copy, #[.tmp 41, .tmp 44], ats⟩) (e7' : ats = #[t, t]) (d7 : o7.dst = some 45) (q7 : o7.guard = none)
  (e8 : o8.op = .binOp .add t3 (.tmp 38) (.tmp 45) t3) (d8 : o8.dst = some 46) (q8 : o8.guard = none) (e9 : o9.op = .assign (.tmp 46)) (d9 : o9.dst = some 8) (q9 : o9.guard = none)
  (p1 : ∀ (xs : List Int) (i : Int), V.put (rst e xs i) 7 [] (.sl e (.int .i64)) .junk xs hitS = some ((rst e xs i).set 7 (.root (.val false) (.sl e (.int .i64)) .junk xs)))
  (p2 : ∀ (xs ys : List Int) (i : Int), V.put ((rst e xs i).set 7 (.root (.val false) (.sl e (.int .i64)) .junk xs)) 7 [] (.sl e (.int .i64)) .own ys hitS = some (rst e ys i))
  (hl : xs.length ≤ 2000000) (hi0 : 1 ≤ i) (hi : i < xs.length) (hQ : ∀ xs' : List Int, xs'.length = xs.length → Q .normal (rst e xs' ((i + Nat.min i (xs.length - i) : Nat) : Int))) : VW P (.region rid #[o0, o1, o2, o3, o4, o5, o6, o7, o8, o9] true) (rst e xs i) Q := by
 intro L a w0 hr0
 obtain ⟨hu, ti, z, i1, i2, i3, i4, hpos⟩ := (hT t _ ht).sl e (.int .i64) rfl rfl
 have i2 : ti.size = 1 := i2
 refine wp_mono (Q := fun e a' w' => match e with | .normal => ∃ L' st', Stp L L' w0 w' ∧ Rel L' st' a' w' Free ∧ Q .normal st' | _ => False) ?_ (fun e a' w' hq => ?_)
 case refine_2 =>
  cases e with
  | normal => exact hq
  | _ => exact hq.elim
 refine wp_region_any hm ?_
 have hx : Ext w0 { w0 with drawn := w0.drawn + 1 } := Ext.drew w0
 have hr := hr0.grow hx
 have hst := Stp.ext (L := L) hx
 generalize hw : ({ w0 with drawn := w0.drawn + 1 } : World) = w at hr hst ⊢
 clear hw hx
 have hg : (rst e xs i).at 7 = .root (.val false) (.sl e (.int .i64)) .own xs := rfl
 obtain ⟨rt1, B0, rt2, rt3, rt4⟩ := hr.root hg
 have hC : L.C 7 = [a.tmps.getD 7 undef] := by simpa [mkV] using rt1.1
 rw [hC] at rt4
 obtain ⟨A, c, hval, hcap, _⟩ := OwnR.take rt4
 have hcap : xs.length ≤ c := hcap
 have hsz : a.tmps.size = 48 := hr.size
 have E7 : a.eval (.tmp 7) = .slice A xs.length c := hval
 have E8 : a.eval (.tmp 8) = .int .i64 (i : Int) := by
  have := hr.orep (t := 8) (by rfl)
  exact this.int
 simp only [repOk, Bool.and_eq_true, beq_iff_eq] at hok
 obtain ⟨⟨⟨hs, ⟨⟨⟨⟨⟨⟨⟨⟨k0, k1⟩, k2⟩, k3⟩, k4⟩, k5⟩, k6⟩, k8⟩, k9⟩⟩, k7⟩, k10⟩ := hok
 have hz : ∀ w, (sizeOf e).run P w = .ok 1 w := fun w => by rw [run_size i1, i2]
 show wpAny P .any _ _ 10 (lst 0) a w
 refine take_step (fun _ _ _ h => h) (i := 0) (o := o0) (v := .int .i64 (i : Int)) rfl hs k0 d0 q0 (fun w => by simp [execOp, e0, ev_put, sz_put, hsz, E7, E8]) ?_
 refine take_step (fun _ _ _ h => h) (i := 1) (o := o1) (v := .slice A xs.length c) rfl hs k1 d1 q1 (fun w => by simp [execOp, e1, ev_put, sz_put, hsz, E7, E8]) ?_
 refine take_step (fun _ _ _ h => h) (i := 2) (o := o2) (v := .int .i64 (i : Int)) rfl hs k2 d2 q2 (fun w => by simp [execOp, e2, ev_put, sz_put, hsz, E7, E8]) ?_
 refine take_step (fun _ _ _ h => h) (i := 3) (o := o3) (v := sliced A i xs.length c 1) rfl hs k3 d3 q3 (fun w => by simp [execOp, e3, ev_put, sz_put, hsz, E7, E8, run_slice_gen (P := P) hu hz A xs.length c (some (.int .i64 (i : Int))) none i xs.length (.inr ⟨_, rfl⟩) (.inl ⟨rfl, rfl⟩) (Nat.le_of_lt hi) hcap]) ?_
 refine take_step (fun _ _ _ h => h) (i := 4) (o := o4) (v := .slice A xs.length c) rfl hs k4 d4 q4 (fun w => by simp [execOp, e4, ev_put, sz_put, hsz, E7, E8]) ?_
 refine take_step (fun _ _ _ h => h) (i := 5) (o := o5) (v := .int .i64 (i : Int)) rfl hs k5 d5 q5 (fun w => by simp [execOp, e5, ev_put, sz_put, hsz, E7, E8]) ?_
 refine take_step (fun _ _ _ h => h) (i := 6) (o := o6) (v := sliced A 0 i c 1) rfl hs k6 d6 q6 (fun w => by simp [execOp, e6, ev_put, sz_put, hsz, E7, E8, run_slice_gen (P := P) hu hz A xs.length c none (some (.int .i64 (i : Int))) 0 i (.inl ⟨rfl, rfl⟩) (.inr ⟨_, rfl⟩) (Nat.zero_le _) (by omega)]) ?_
 have r0 := hr.setO (d := 38) (v := .int .i64 (i : Int)) rfl (pv := .dead) rfl trivial
 have r1 := r0.setO (d := 39) (v := .slice A xs.length c) rfl (pv := .dead) rfl trivial
 have r2 := r1.setO (d := 40) (v := .int .i64 (i : Int)) rfl (pv := .dead) rfl trivial
 have r3 := r2.setO (d := 41) (v := sliced A i xs.length c 1) rfl (pv := .dead) rfl trivial
 have r4 := r3.setO (d := 42) (v := .slice A xs.length c) rfl (pv := .dead) rfl trivial
 have r5 := r4.setO (d := 43) (v := .int .i64 (i : Int)) rfl (pv := .dead) rfl trivial
 have r6 := r5.setO (d := 44) (v := sliced A 0 i c 1) rfl (pv := .dead) rfl trivial
 have sz6 : (((((((a.put (some 38) (.int .i64 (i : Int))).put (some 39) (.slice A xs.length c)).put (some 40) (.int .i64 (i : Int))).put (some 41) (sliced A i xs.length c 1)).put (some 42) (.slice A xs.length c)).put (some 43) (.int .i64 (i : Int))).put (some 44) (sliced A 0 i c 1)).tmps.size = 48 := by simp [sz_put, hsz]
 have v38 : (((((((a.put (some 38) (.int .i64 (i : Int))).put (some 39) (.slice A xs.length c)).put (some 40) (.int .i64 (i : Int))).put (some 41) (sliced A i xs.length c 1)).put (some 42) (.slice A xs.length c)).put (some 43) (.int .i64 (i : Int))).put (some 44) (sliced A 0 i c 1)).eval (.tmp 38) = .int .i64 (i : Int) := by simp [ev_put, sz_put, hsz]
 have v41 : (((((((a.put (some 38) (.int .i64 (i : Int))).put (some 39) (.slice A xs.length c)).put (some 40) (.int .i64 (i : Int))).put (some 41) (sliced A i xs.length c 1)).put (some 42) (.slice A xs.length c)).put (some 43) (.int .i64 (i : Int))).put (some 44) (sliced A 0 i c 1)).eval (.tmp 41) = sliced A i xs.length c 1 := by simp [ev_put, sz_put, hsz]
 have v44 : (((((((a.put (some 38) (.int .i64 (i : Int))).put (some 39) (.slice A xs.length c)).put (some 40) (.int .i64 (i : Int))).put (some 41) (sliced A i xs.length c 1)).put (some 42) (.slice A xs.length c)).put (some 43) (.int .i64 (i : Int))).put (some 44) (sliced A 0 i c 1)).eval (.tmp 44) = sliced A 0 i c 1 := by simp [ev_put, sz_put, hsz]
 generalize (((((((a.put (some 38) (.int .i64 (i : Int))).put (some 39) (.slice A xs.length c)).put (some 40) (.int .i64 (i : Int))).put (some 41) (sliced A i xs.length c 1)).put (some 42) (.slice A xs.length c)).put (some 43) (.int .i64 (i : Int))).put (some 44) (sliced A 0 i c 1)) = a6 at r6 sz6 v38 v41 v44 ⊢
 clear r0 r1 r2 r3 r4 r5
 generalize hk : Nat.min i (xs.length - i) = k at hQ
 have hk1 : 1 ≤ k ∧ k ≤ i ∧ i + k ≤ xs.length := by
  have : k = min i (xs.length - i) := hk.symm
  omega
 have hyl : (xs.take k).length = k := by simp; omega
 have go : ∀ B : Nat → Prop, Rep w L.Z (.sl e (.int .i64)) .own xs [a.tmps.getD 7 undef] B → ∃ w', (Builtin.copy_ #[t, t] o7.type #[sliced A i xs.length c 1, sliced A 0 i c 1]).run P w = .ok (goInt k) w' ∧ ExtF w w' B ∧ w'.heap.size = w.heap.size ∧ Rep w' L.Z (.sl e (.int .i64)) .own (xs.take i ++ xs.take k ++ xs.drop (i + k)) [a.tmps.getD 7 undef] B := fun B hB => by
  obtain ⟨g1, g2⟩ := run_headOwn (P := P) hk1.1 hk1.2.1 hi hB hval
  have := run_copyInts (P := P) (ats := #[t, t]) (ty := o7.type) (ys := xs.take k) (i := i) hu rfl i1 i2 hB hval (by rw [hyl]; omega) (by rw [hyl]; omega) (by rw [hyl]; exact hk) g1 (by rw [hyl]; exact g2)
  rw [hyl] at this
  exact this
 obtain ⟨w1, c1, c2, c3, c4⟩ := go B0 rt4
 have x7 : (execOp a6.eval o7).run P w = .ok (.value (goInt k)) w1 := by
  subst e7'
  have hb : ∀ cs u v, builtin .copy #[t, t] o7.type cs #[u, v] = (do pure (.value (← Builtin.copy_ #[t, t] o7.type #[u, v]))) := fun cs u v => rfl
  simp [execOp, e7, resolve, invoke, v41, v44, hb, c1]
 refine wpAny_all (rs := [7]) k7 (by simp) (fun j hj => ?_)
 obtain rfl : j = 7 := by simpa using hj
 unfold wpOp
 show (if Region.wanted o7 _ then o7.wp P a6 w _ _ ∨ _ else _)
 rw [wanted_none q7, if_pos rfl]
 refine .inl ?_
 unfold Oper.wp
 rw [x7, Oper.upon_value, d7]
 have r6 : Rel L (rst e xs i) a6 w Free := r6
 obtain ⟨L', s1, r7⟩ := r6.turn hg (p1 _ _) (p2 _ (xs.take i ++ xs.take k ++ xs.drop (i + k)) _) (w' := w1) fun B hB hBF => by
  rw [hC] at hB ⊢
  obtain ⟨w2, y1, y2, y3, y4⟩ := go B hB
  rw [c1] at y1
  obtain rfl : w1 = w2 := by injection y1
  exact ⟨y2, y4⟩
 have r8 := r7.setO (d := 45) (v := goInt k) rfl (pv := .dead) rfl trivial
 have sz7 : (a6.put (some 45) (goInt k)).tmps.size = 48 := by simp [sz_put, sz6]
 have u38 : (a6.put (some 45) (goInt k)).eval (.tmp 38) = .int .i64 (i : Int) := by simp [ev_put, sz6, v38]
 have u45 : (a6.put (some 45) (goInt k)).eval (.tmp 45) = .int .i64 (k : Int) := by simp [ev_put, sz6]; rfl
 generalize a6.put (some 45) (goInt k) = a7 at r8 sz7 u38 u45 ⊢
 have x8 : ∀ W : World, (execOp a7.eval o8).run P W = .ok (.value (.int .i64 ((i + k : Nat) : Int))) W := fun W => by
  have hg : (eqGuard .add t3 (.tmp 38) (.tmp 45) (.int .i64 (i : Int)) (.int .i64 (k : Int))).run P W = .ok () W := by unfold eqGuard; simp
  have hw : IntKind.i64.wrap ((i : Int) + (k : Int)) = ((i + k : Nat) : Int) := by rw [wrap64 (by omega) (by omega)]; omega
  simp [execOp, e8, u38, u45, hg, binOp, Op.intArith, hw]
 refine take_step (fun _ _ _ h => h) (i := 8) (o := o8) (v := .int .i64 ((i + k : Nat) : Int)) rfl hs k8 d8 q8 x8 ?_
 refine take_step (fun _ _ _ h => h) (i := 9) (o := o9) (v := .int .i64 ((i + k : Nat) : Int)) rfl hs k9 d9 q9 (fun W => by simp [execOp, e9, ev_put, sz7]) ?_
 have r9 := r8.setO (d := 46) (v := .int .i64 ((i + k : Nat) : Int)) rfl (pv := .dead) rfl trivial
 have r10 := r9.setO (d := 8) (v := .int .i64 ((i + k : Nat) : Int)) rfl (pv := .v false (.int .i64) ((i + k : Nat) : Int)) rfl ⟨[_], rfl, rfl⟩
 refine wpAny_done k10 ?_ _
 exact ⟨L', _, hst.trans s1, r10, hQ _ (by simp only [List.length_append, List.length_take, List.length_drop]; omega)⟩
set_option maxRecDepth 20000 in
theorem VW.rep7 (hT : TabOk P T) {rid : Nat} {o0 o1 o2 o3 : Oper} {t e : TypeId} {bb nf : Nat} {fs : List (Bool × Sh)} {cm : Bool} {ats : Array TypeId} {xs ys : List Int} {Q : Exit → St → Prop}
  (ht : tget T t = some ⟨.sl e (.int .i64), false, bb, nf, fs, cm⟩)
  (e0 : o0.op = .move (.tmp 7)) (d0 : o0.dst = some 31) (q0 : o0.guard = none) (e1 : o1.op = .move (.tmp 0)) (d1 : o1.dst = some 32) (q1 : o1.guard = none)
  (e2 : o2.op = .call ⟨.builtin .copy, #[.tmp 31, .tmp 32], ats⟩) (e2' : ats = #[t, t]) (d2 : o2.dst = some 33) (q2 : o2.guard = none) (e3 : o3.op = .assign (.tmp 33)) (d3 : o3.dst = some 8) (q3 : o3.guard = none)
  (p1 : ∀ (ys xs : List Int), V.put (rst0 e ys xs) 7 [] (.sl e (.int .i64)) .junk xs hitS = some ((rst0 e ys xs).set 7 (.root (.val false) (.sl e (.int .i64)) .junk xs)))
  (p2 : ∀ (zs xs ys : List Int), V.put ((rst0 e zs xs).set 7 (.root (.val false) (.sl e (.int .i64)) .junk xs)) 7 [] (.sl e (.int .i64)) .own ys hitS = some (rst0 e zs ys))
  (hl : xs.length ≤ 2000000) (h1 : 1 ≤ ys.length) (h2 : ys.length ≤ xs.length) (hQ : ∀ xs' : List Int, xs'.length = xs.length → Q .normal ((rst0 e ys xs').set 8 (.v false (.int .i64) (ys.length : Int)))) : VW P (.region rid #[o0, o1, o2, o3] false) (rst0 e ys xs) Q := by
 intro L a w hr
 obtain ⟨hu, ti, z, i1, i2, i3, i4, hpos⟩ := (hT t _ ht).sl e (.int .i64) rfl rfl
 have i2 : ti.size = 1 := i2
 have hg : (rst0 e ys xs).at 7 = .root (.val false) (.sl e (.int .i64)) .own xs := rfl
 obtain ⟨rt1, B0, rt2, rt3, rt4⟩ := hr.root hg
 have hC : L.C 7 = [a.tmps.getD 7 undef] := by simpa [mkV] using rt1.1
 rw [hC] at rt4
 obtain ⟨A, c, hval, hcap, _⟩ := OwnR.take rt4
 have hcap : xs.length ≤ c := hcap
 have hsz : a.tmps.size = 48 := hr.size
 have E7 : a.eval (.tmp 7) = .slice A xs.length c := hval
 obtain ⟨cs, hmk, hfz⟩ := (hr.orep (t := 0) (by rfl) : ORep L _ w (.v false (.sl e (.int .i64)) ys) _)
 have hcs : cs = [a.tmps.getD 0 undef] := by simpa [mkV] using hmk
 subst hcs
 refine wp_region ?_
 show wpOps P #[o0, o1, o2, o3] _ [0, 1, 2, 3] a w
 refine wpOps_step (o := o0) rfl q0 ?_
 have x0 : (execOp a.eval o0).run P w = .ok (.value (.slice A xs.length c)) w := by simp [execOp, e0, E7]
 unfold Oper.wp
 rw [x0, Oper.upon_value, d0]
 refine wpOps_step (o := o1) rfl q1 ?_
 have x1 : (execOp (a.put (some 31) (.slice A xs.length c)).eval o1).run P w = .ok (.value (a.eval (.tmp 0))) w := by simp [execOp, e1, ev_put, hsz]
 unfold Oper.wp
 rw [x1, Oper.upon_value, d1]
 have r0 := hr.setO (d := 31) (v := .slice A xs.length c) rfl (pv := .dead) rfl trivial
 have r1 := r0.setO (d := 32) (v := a.eval (.tmp 0)) rfl (pv := .dead) rfl trivial
 have sz2 : ((a.put (some 31) (.slice A xs.length c)).put (some 32) (a.eval (.tmp 0))).tmps.size = 48 := by simp [sz_put, hsz]
 have v31 : ((a.put (some 31) (.slice A xs.length c)).put (some 32) (a.eval (.tmp 0))).eval (.tmp 31) = .slice A xs.length c := by simp [ev_put, sz_put, hsz]
 have v32 : ((a.put (some 31) (.slice A xs.length c)).put (some 32) (a.eval (.tmp 0))).eval (.tmp 32) = a.eval (.tmp 0) := by simp [ev_put, sz_put, hsz]
 have r1 : Rel L (rst0 e ys xs) ((a.put (some 31) (.slice A xs.length c)).put (some 32) (a.eval (.tmp 0))) w Free := r1
 generalize ((a.put (some 31) (.slice A xs.length c)).put (some 32) (a.eval (.tmp 0))) = a2 at r1 sz2 v31 v32 ⊢
 have go : ∀ B : Nat → Prop, Rep w L.Z (.sl e (.int .i64)) .own xs [a.tmps.getD 7 undef] B → ∃ w', (Builtin.copy_ #[t, t] o2.type #[.slice A xs.length c, a.eval (.tmp 0)]).run P w = .ok (goInt ys.length) w' ∧ ExtF w w' B ∧ w'.heap.size = w.heap.size ∧ Rep w' L.Z (.sl e (.int .i64)) .own (xs.take 0 ++ ys ++ xs.drop (0 + ys.length)) [a.tmps.getD 7 undef] B := fun B hB => by
  obtain ⟨g1, g2⟩ := run_headFz (P := P) (k := ys.length) h1 (Nat.le_refl _) hfz
  rw [List.take_length] at g2
  have := run_copyInts (P := P) (ats := #[t, t]) (ty := o2.type) (ys := ys) (i := 0) hu rfl i1 i2 hB hval (by omega) h1 (by show min ys.length (xs.length - 0) = ys.length; omega) g1 g2
  rw [own_whole (by omega) hB hval] at this
  exact this
 obtain ⟨w1, c1, c2, c3, c4⟩ := go B0 rt4
 have x2 : (execOp a2.eval o2).run P w = .ok (.value (goInt ys.length)) w1 := by
  subst e2'
  have hb : ∀ cs u v, builtin .copy #[t, t] o2.type cs #[u, v] = (do pure (.value (← Builtin.copy_ #[t, t] o2.type #[u, v]))) := fun cs u v => rfl
  simp [execOp, e2, resolve, invoke, v31, v32, hb, c1]
 refine wpOps_step (o := o2) rfl q2 ?_
 unfold Oper.wp
 rw [x2, Oper.upon_value, d2]
 obtain ⟨L', s1, r7⟩ := r1.turn hg (p1 _ _) (p2 _ _ (xs.take 0 ++ ys ++ xs.drop (0 + ys.length))) (w' := w1) fun B hB hBF => by
  rw [hC] at hB ⊢
  obtain ⟨w2, y1, y2, y3, y4⟩ := go B hB
  rw [c1] at y1
  obtain rfl : w1 = w2 := by injection y1
  exact ⟨y2, y4⟩
 have r8 := r7.setO (d := 33) (v := goInt ys.length) rfl (pv := .dead) rfl trivial
 refine wpOps_step (o := o3) rfl q3 ?_
 have x3 : (execOp (a2.put (some 33) (goInt ys.length)).eval o3).run P w1 = .ok (.value (goInt ys.length)) w1 := by simp [execOp, e3, ev_put, sz2]
 unfold Oper.wp
 rw [x3, Oper.upon_value, d3]
 have r10 := r8.setO (d := 8) (v := goInt ys.length) rfl (pv := .v false (.int .i64) (ys.length : Int)) rfl ⟨[_], rfl, rfl⟩
 exact ⟨L', _, s1, r10, hQ _ (by simp only [List.length_append, List.length_take, List.length_drop]; omega)⟩
end
end Go.Proofs.YtoeblmcibheldaaGreatDoor.V
end
section
namespace Go.Proofs.YtoeblmcibheldaaGreatDoor.V.W
open Go Go.RowKit
def mu (x y : Int) : Int := IntKind.u64.wrap (x * y)
def midOf (x y : Int) : Int := ad (mu (shr x 32) (an y 4294967295)) (shr (mu (an x 4294967295) (an y 4294967295)) 32)
def hiOf (x y : Int) : Int := ad (ad (mu (shr x 32) (shr y 32)) (shr (midOf x y) 32)) (shr (ad (an (midOf x y) 4294967295) (mu (an x 4294967295) (shr y 32))) 32)
theorem mul_small : ((List.range 13).all fun n => hiOf 1 (n : Int) == 0 && mu 1 (n : Int) == (n : Int)) = true := by kernel_rfl
abbrev sU : Sh := .int .u64
set_option maxRecDepth 20000 in
theorem mul64_vc (x y : Int) : VC Tryz.prog 214 [.v false sU x, .v false sU y] (· = .root (.tup [false, false]) (.pr sU sU) (.pr .fz .fz) (hiOf x y, mu x y)) := by
 refine VC.of_body hT Tryz.func214 rfl (by kernel_rfl) [(.tmp 4, false, .int .u64), (.tmp 5, false, .int .u64)] (by kernel_rfl) ?_
 show VW _ _ ([.v false (.int .u64) x, .v false (.int .u64) y, D, D, D, D, D, D, D, D, D, D, D, D, D, D, D, D, D, D, D, D, D, D, D, D, D, D, D, D, D, D, D, D, D, D, D, D, D, D, D, D, D, D, D, D, D, D, D, D, D]) _
 repeat refine VW.seq ?_
 refine VW.regl hT fun K hK => ?_
 simp only [wq, Nat.reduceMul, reduceCtorEq, Nat.reduceBEq, Nat.reduceAdd, Nat.reduceLT, Nat.reduceLeDiff, Nat.reduceSub, Nat.reduceEqDiff]
 refine hK _ ?_
 clear hK K
 try refine vthen_n ?_
 repeat refine VW.seq ?_
 refine VW.regl hT fun K hK => ?_
 simp only [wq, Nat.reduceMul, reduceCtorEq, Nat.reduceBEq, Nat.reduceAdd, Nat.reduceLT, Nat.reduceLeDiff, Nat.reduceSub, Nat.reduceEqDiff]
 refine hK _ ?_
 clear hK K
 try refine vthen_n ?_
 repeat refine VW.seq ?_
 refine VW.regl hT fun K hK => ?_
 simp only [wq, Nat.reduceMul, reduceCtorEq, Nat.reduceBEq, Nat.reduceAdd, Nat.reduceLT, Nat.reduceLeDiff, Nat.reduceSub, Nat.reduceEqDiff]
 refine ⟨by decide, ?_⟩
 refine hK _ ?_
 clear hK K
 try refine vthen_n ?_
 repeat refine VW.seq ?_
 refine VW.regl hT fun K hK => ?_
 simp only [wq, Nat.reduceMul, reduceCtorEq, Nat.reduceBEq, Nat.reduceAdd, Nat.reduceLT, Nat.reduceLeDiff, Nat.reduceSub, Nat.reduceEqDiff]
 refine hK _ ?_
 clear hK K
 try refine vthen_n ?_
 repeat refine VW.seq ?_
 refine VW.regl hT fun K hK => ?_
 simp only [wq, Nat.reduceMul, reduceCtorEq, Nat.reduceBEq, Nat.reduceAdd, Nat.reduceLT, Nat.reduceLeDiff, Nat.reduceSub, Nat.reduceEqDiff]
 refine ⟨by decide, ?_⟩
 refine hK _ ?_
 clear hK K
 try refine vthen_n ?_
 repeat refine VW.seq ?_
 refine VW.regl hT fun K hK => ?_
 simp only [wq, Nat.reduceMul, reduceCtorEq, Nat.reduceBEq, Nat.reduceAdd, Nat.reduceLT, Nat.reduceLeDiff, Nat.reduceSub, Nat.reduceEqDiff]
 refine hK _ ?_
 clear hK K
 try refine vthen_n ?_
 repeat refine VW.seq ?_
 refine VW.regl hT fun K hK => ?_
 simp only [wq, Nat.reduceMul, reduceCtorEq, Nat.reduceBEq, Nat.reduceAdd, Nat.reduceLT, Nat.reduceLeDiff, Nat.reduceSub, Nat.reduceEqDiff]
 refine ⟨by decide, ?_⟩
 refine hK _ ?_
 clear hK K
 try refine vthen_n ?_
 repeat refine VW.seq ?_
 refine VW.regl hT fun K hK => ?_
 simp only [wq, Nat.reduceMul, reduceCtorEq, Nat.reduceBEq, Nat.reduceAdd, Nat.reduceLT, Nat.reduceLeDiff, Nat.reduceSub, Nat.reduceEqDiff]
 refine hK _ ?_
 clear hK K
 try refine vthen_n ?_
 repeat refine VW.seq ?_
 refine VW.regl hT fun K hK => ?_
 simp only [wq, Nat.reduceMul, reduceCtorEq, Nat.reduceBEq, Nat.reduceAdd, Nat.reduceLT, Nat.reduceLeDiff, Nat.reduceSub, Nat.reduceEqDiff]
 refine ⟨by decide, ?_⟩
 refine hK _ ?_
 clear hK K
 try refine vthen_n ?_
 repeat refine VW.seq ?_
 refine VW.regl hT fun K hK => ?_
 simp only [wq, Nat.reduceMul, reduceCtorEq, Nat.reduceBEq, Nat.reduceAdd, Nat.reduceLT, Nat.reduceLeDiff, Nat.reduceSub, Nat.reduceEqDiff]
 refine hK _ ?_
 clear hK K
 try refine vthen_n ?_
 repeat refine VW.seq ?_
 refine VW.regl hT fun K hK => ?_
 simp only [wq, Nat.reduceMul, reduceCtorEq, Nat.reduceBEq, Nat.reduceAdd, Nat.reduceLT, Nat.reduceLeDiff, Nat.reduceSub, Nat.reduceEqDiff]
 refine ⟨by decide, ?_⟩
 refine hK _ ?_
 clear hK K
 try refine vthen_n ?_
 repeat refine VW.seq ?_
 refine VW.regl hT fun K hK => ?_
 simp only [wq, Nat.reduceMul, reduceCtorEq, Nat.reduceBEq, Nat.reduceAdd, Nat.reduceLT, Nat.reduceLeDiff, Nat.reduceSub, Nat.reduceEqDiff]
 refine hK _ ?_
 clear hK K
 try refine vthen_n ?_
 exact VW.ret ⟨.inl rfl, _, rfl, rfl⟩
set_option maxRecDepth 20000 in
theorem mul_vc (n : Nat) (hn : n ≤ 12) : VC Tryz.prog 182 [.v false sU 1, .v false sU (n : Int)] (· = .root (.tup [false, false]) (.pr sU sU) (.pr .fz .fz) (0, (n : Int))) := by
 have hs := List.all_eq_true.1 mul_small n (List.mem_range.2 (by omega))
 simp only [Bool.and_eq_true, beq_iff_eq] at hs
 refine VC.of_body hT Tryz.func182 rfl (by kernel_rfl) [(.tmp 4, false, .int .u64), (.tmp 5, false, .int .u64)] (by kernel_rfl) ?_
 show VW _ _ ([.v false (.int .u64) 1, .v false (.int .u64) (n : Int), D, D, D, D, D, D, D, D, D, D, D, D, D, D, D, D, D, D, D, D, D, D, D, D, D, D, D, D]) _
 repeat refine VW.seq ?_
 refine VW.regl hT fun K hK => ?_
 simp only [wq, simprocAttr]
 refine hK _ ?_
 clear hK K
 try refine vthen_n ?_
 repeat refine VW.seq ?_
 refine VW.cond rfl (fun hc => ?_) (fun hc => ?_)
 ·cases hc
 refine VW.skip (vthen_n ?_)
 repeat refine VW.seq ?_
 refine VW.regl hT fun K hK => ?_
 simp only [wq, simprocAttr]
 refine vcall_of (mul64_vc _ _) ?_
 rw [hs.1, hs.2]
 simp only [wq, simprocAttr]
 refine hK _ ?_
 clear hK K
 try refine vthen_n ?_
 repeat refine VW.seq ?_
 refine VW.regl hT fun K hK => ?_
 simp only [wq, simprocAttr]
 refine hK _ ?_
 clear hK K
 try refine vthen_n ?_
 exact VW.ret ⟨.inl rfl, _, rfl, rfl⟩
abbrev rI (xs : List Int) : PV := .root (.val false) sI .own xs
set_option maxRecDepth 20000 in
theorem repeat_vc (n : Nat) (h1 : 1 ≤ n) (hn : n ≤ 12) : VC Tryz.prog 158 [.v false sI [-1], .v false (.int .i64) ((n : Nat))] (fun pv => ∃ xs : List Int, xs.length = n ∧ pv = rI xs) := by
 refine VC.of_body hT Tryz.func158 rfl (by kernel_rfl) [(.tmp 4, false, sI)] (by kernel_rfl) ?_
 show VW _ _ ([.v false sI [-1], .v false (.int .i64) ((n : Nat)), D, D, D, D, D, D, D, D, D, D, D, D, D, D, D, D, D, D, D, D, D, D, D, D, D, D, D, D, D, D, D, D, D, D, D, D, D, D, D, D, D, D, D, D, D, D]) _
 repeat refine VW.seq ?_
 refine VW.regl hT fun K hK => ?_
 simp only [wq, Nat.reduceMul, reduceCtorEq, Nat.reduceBEq, Nat.reduceAdd, Nat.reduceLT, Nat.reduceLeDiff, Nat.reduceSub, Nat.reduceEqDiff]
 refine hK _ ?_
 clear hK K
 try refine vthen_n ?_
 repeat refine VW.seq ?_
 refine VW.regl hT fun K hK => ?_
 simp only [wq, Nat.reduceMul, reduceCtorEq, Nat.reduceBEq, Nat.reduceAdd, Nat.reduceLT, Nat.reduceLeDiff, Nat.reduceSub, Nat.reduceEqDiff]
 refine hK _ ?_
 clear hK K
 try refine vthen_n ?_
 repeat refine VW.seq ?_
 refine VW.cond rfl (fun hc => ?_) (fun hc => ?_)
 ·have hc : (n : Int) < 0 := of_decide_eq_true hc
  omega
 refine VW.skip (vthen_n ?_)
 repeat refine VW.seq ?_
 refine VW.regl hT fun K hK => ?_
 simp only [wq, Nat.reduceMul, reduceCtorEq, Nat.reduceBEq, Nat.reduceAdd, Nat.reduceLT, Nat.reduceLeDiff, Nat.reduceSub, Nat.reduceEqDiff]
 have hw1 : IntKind.u64.wrap ((1 : Nat) : Int) = 1 := by decide
 have hwn : IntKind.u64.wrap (n : Int) = n := by simp [IntKind.wrap, IntKind.bits, IntKind.signed]; omega
 rw [hwn, show IntKind.u64.wrap _ = 1 from hw1]
 refine vcall_of (mul_vc n hn) ?_
 simp only [wq, Nat.reduceMul, reduceCtorEq, Nat.reduceBEq, Nat.reduceAdd, Nat.reduceLT, Nat.reduceLeDiff, Nat.reduceSub, Nat.reduceEqDiff]
 refine hK _ ?_
 clear hK K
 try refine vthen_n ?_
 repeat refine VW.seq ?_
 refine VW.regl hT fun K hK => ?_
 simp only [wq, Nat.reduceMul, reduceCtorEq, Nat.reduceBEq, Nat.reduceAdd, Nat.reduceLT, Nat.reduceLeDiff, Nat.reduceSub, Nat.reduceEqDiff]
 refine vbr (fun h => ?_) (fun h => ?_) <;> simp only [wq, Nat.reduceMul, reduceCtorEq, Nat.reduceBEq, Nat.reduceAdd, Nat.reduceLT, Nat.reduceLeDiff, Nat.reduceSub, Nat.reduceEqDiff]
 case refine_2 =>
  exact absurd h (by decide)
 refine hK _ ?_
 clear hK K
 try refine vthen_n ?_
 repeat refine VW.seq ?_
 refine VW.cond rfl (fun hc => ?_) (fun hc => ?_)
 ·have hc : (n : Int) > 9223372036854775807 := of_decide_eq_true hc
  omega
 refine VW.skip (vthen_n ?_)
 repeat refine VW.seq ?_
 refine VW.regl hT fun K hK => ?_
 simp only [wq, Nat.reduceMul, reduceCtorEq, Nat.reduceBEq, Nat.reduceAdd, Nat.reduceLT, Nat.reduceLeDiff, Nat.reduceSub, Nat.reduceEqDiff]
 rw [wrap64 (by omega) (by omega), Int.toNat_natCast]
 refine ⟨by simp [limOk]; omega, ?_⟩
 refine hK _ ?_
 clear hK K
 try refine vthen_n ?_
 refine VW.weak (weak_norm [(0, none), (7, none)] _) ?_
 simp only [wn, wq, Nat.reduceMul, reduceCtorEq, Nat.reduceBEq, Nat.reduceAdd, Nat.reduceLT, Nat.reduceLeDiff, Nat.reduceSub, Nat.reduceEqDiff]
 show VW _ _ (rst0 3 [-1] (List.replicate n 0)) _
 repeat refine VW.seq ?_
 refine VW.rep7 hT (t := 25) rfl rfl rfl rfl rfl rfl rfl rfl rfl rfl rfl rfl rfl rfl (fun _ _ => rfl) (fun _ _ _ => rfl) (by simp; omega) (by simp) (by simp; omega) (fun xs hxs => ?_)
 have hxs : xs.length = n := by simpa using hxs
 show vthen _ _ _ .normal _
 refine vthen_n ?_
 refine VW.weak (weak_norm [(7, none), (8, none)] _) ?_
 show VW _ _ [D, D, D, D, D, D, D, rI xs, .v false (.int .i64) ((1 : Nat)), D, D, D, D, D, D, D, D, D, D, D, D, D, D, D, D, D, D, D, D, D, D, D, D, D, D, D, D, D, D, D, D, D, D, D, D, D, D, D] _
 repeat refine VW.seq ?_
 refine VW.block ?_
 refine VW.loop (α := Nat × List Int) [(7, none), (8, none)] (fun p => [D, D, D, D, D, D, D, rI p.2, .v false (.int .i64) ((p.1 : Nat)), D, D, D, D, D, D, D, D, D, D, D, D, D, D, D, D, D, D, D, D, D, D, D, D, D, D, D, D, D, D, D, D, D, D, D, D, D, D, D]) (fun p => 1 ≤ p.1 ∧ p.1 ≤ n ∧ p.2.length = n) (fun p => n - p.1) ⟨(1, xs), ⟨by omega, h1, hxs⟩, ?_⟩ fun ⟨i, ys⟩ ⟨hi0, hi, hys⟩ => ?_
 ·simp only [wn, wq, Nat.reduceMul, reduceCtorEq, Nat.reduceBEq, Nat.reduceAdd, Nat.reduceLT, Nat.reduceLeDiff, Nat.reduceSub, Nat.reduceEqDiff]
 have hi0 : 1 ≤ i := hi0
 have hi : i ≤ n := hi
 have hys : ys.length = n := hys
 repeat refine VW.seq ?_
 refine VW.regl hT fun K hK => ?_
 simp only [wq, Nat.reduceMul, reduceCtorEq, Nat.reduceBEq, Nat.reduceAdd, Nat.reduceLT, Nat.reduceLeDiff, Nat.reduceSub, Nat.reduceEqDiff]
 refine hK _ ?_
 clear hK K
 try refine vthen_n ?_
 repeat refine VW.seq ?_
 refine VW.cond rfl (fun hc => ?_) (fun hc => ?_)
 ·have hlt : i < n := by
   have : (i : Int) < (ys.length : Int) := of_decide_eq_true hc
   omega
  refine VW.skip (vthen_n ?_)
  repeat refine VW.seq ?_
  refine VW.block ?_
  refine VW.weak (weak_norm [(7, none), (8, none)] _) ?_
  simp only [wn, wq, Nat.reduceMul, reduceCtorEq, Nat.reduceBEq, Nat.reduceAdd, Nat.reduceLT, Nat.reduceLeDiff, Nat.reduceSub, Nat.reduceEqDiff]
  show VW _ _ (rst 3 ys ((i : Nat) : Int)) _
  refine VW.rep9 hT hm (t := 25) (t3 := 3) rfl (by kernel_rfl) rfl rfl rfl rfl rfl rfl rfl rfl rfl rfl rfl rfl rfl rfl rfl rfl rfl rfl rfl rfl rfl rfl rfl rfl rfl rfl rfl rfl rfl rfl rfl (fun _ _ => rfl) (fun _ _ _ => rfl) (by omega) hi0 (by omega) (fun zs hzs => ?_)
  have hk : Nat.min i (ys.length - i) = min i (n - i) := by rw [hys]
  rw [hk]
  refine ⟨(i + min i (n - i), zs), ⟨by show 1 ≤ i + min i (n - i); omega, by show i + min i (n - i) ≤ n; omega, by show zs.length = n; omega⟩, ?_, by show n - (i + min i (n - i)) < n - i; omega⟩
  rfl
 ·have hge : i = n := by
   have : ¬ (i : Int) < (ys.length : Int) := of_decide_eq_false hc
   omega
  refine VW.exit ?_
  show vthen _ _ _ .normal _
  refine vthen_n ?_
  repeat refine VW.seq ?_
  refine VW.regl hT fun K hK => ?_
  simp only [wq, Nat.reduceMul, reduceCtorEq, Nat.reduceBEq, Nat.reduceAdd, Nat.reduceLT, Nat.reduceLeDiff, Nat.reduceSub, Nat.reduceEqDiff]
  refine hK _ ?_
  clear hK K
  try refine vthen_n ?_
  exact VW.ret ⟨.inl rfl, _, rfl, ys, hys, rfl⟩
end Go.Proofs.YtoeblmcibheldaaGreatDoor.V.W
end
section
namespace Go.Proofs.YtoeblmcibheldaaGreatDoor.V.W
open Go Go.RowKit
abbrev sI3 : Sh := .pr sI (.pr sI sI)
abbrev sNum : Sh := .pr sNS (.pr sI3 (.int .i64))
abbrev bNum : RK := .box 184
abbrev fNum (r : Fl) : Fl := .pr .fz (.pr (.pr .own (.pr .own .own)) r)
abbrev I3 := List Int × List Int × List Int
def Len3 (n : Nat) (x : I3) : Prop := x.1.length = n ∧ x.2.1.length = n ∧ x.2.2.length = n
def visR (t : List Nd) (u : Nat) (pv ot : PV) : Prop := ∃ (m : Int) (x : I3) (r : Fl), Len3 t.length x ∧ pv = .v false (.int .i64) (m) ∧ ot = .root (.box 184) sNum (fNum r) (t, x, (u : Int))
set_option maxRecDepth 20000 in
set_option maxHeartbeats 2000000 in
theorem visit_vx {t : List Nd} (hok : treeOk t = true) : ∀ (f k : Nat), t.length - k ≤ f → k < t.length → ∀ (x : I3) (u : Nat) (bus : Int) (r : Fl), Len3 t.length x → u + subs t k ≤ 1000 →
  VX Tryz.prog 159 [.root bNum sNum (fNum r) (t, x, (u : Int)), .v false (.int .i64) ((k : Nat)), .v false (.int .i64) (bus)] 0 (visR t (u + subs t k)) := by
 have htl := treeOk_len hok
 intro f
 induction f with
 | zero =>
  intro k hf hk
  omega
 | succ f ih =>
  intro k hf hk x u bus r hx hu
  obtain ⟨b, s, l⟩ := x
  obtain ⟨hb, hs, hl⟩ := hx
  have hb : b.length = t.length := hb
  have hs : s.length = t.length := hs
  have hl : l.length = t.length := hl
  have hperm := children_perm hok hk
  have hcl : (children t k).length ≤ 12 := by
   rw [hperm.length_eq]
   have := kids_len t k t.length
   omega
  have hsum : wsum (vis t) (children t k) = subs t k := wsum_perm hperm
  refine VX.of_box hT Tryz.func159 rfl (by kernel_rfl) [(.tmp 6, false, .int .i64)] (by kernel_rfl) rfl fun bb => ?_
  show VW _ _ ([.root (.ibox 184 bb) sNum (fNum r) (t, (b, s, l), (u : Int)), .v false (.int .i64) ((k : Nat)), .v false (.int .i64) (bus), D, D, D, D, D, D, D, D, D, D, D, D, D, D, D, D, D, D, D, D, D, D, D, D, D, D, D, D, D, D, D, D, D, D, D, D, D, D, D, D, D, D, D, D, D, D, D, D, D, D, D, D, D, D, D, D, D, D, D, D, D, D, D, D, D, D, D]) _
  repeat refine VW.seq ?_
  refine VW.regl hT fun K hK => ?_
  simp only [wq, simprocAttr]
  refine hK _ ?_
  clear hK K
  try refine vthen_n ?_
  repeat refine VW.seq ?_
  refine VW.regl hT fun K hK => ?_
  simp only [wq, simprocAttr]
  refine ⟨decide_eq_true ⟨Int.natCast_nonneg _, by show (k : Int) < (s.length : Int); omega⟩, ?_⟩
  refine hK _ ?_
  clear hK K
  try refine vthen_n ?_
  repeat refine VW.seq ?_
  refine VW.regl hT fun K hK => ?_
  simp only [wq, simprocAttr]
  refine hK _ ?_
  clear hK K
  try refine vthen_n ?_
  repeat refine VW.seq ?_
  refine VW.regl hT fun K hK => ?_
  simp only [wq, simprocAttr]
  refine vcall_of (children_vc t k (by omega)) ?_
  generalize hL : children t k = L at *
  simp only [wq, simprocAttr]
  refine hK _ ?_
  clear hK K
  try refine vthen_n ?_
  have hs' : (s.set k bus).length = t.length := by rw [List.length_set]; exact hs
  generalize s.set k bus = s' at hs' ⊢
  clear hs
  repeat refine VW.seq ?_
  refine VW.block ?_
  refine VW.loop (α := Nat × Int × Fl × I3) [(0, none), (1, none), (2, none), (7, none), (24, none), (25, none), (26, none)] (fun p => [.root (.ibox 184 bb) sNum (fNum p.2.2.1) (t, p.2.2.2, ((u + wsum (vis t) (L.take p.1) : Nat) : Int)), .v false (.int .i64) ((k : Nat)), .v false (.int .i64) (bus), D, D, D, D, .v false (.int .i64) (p.2.1), D, D, D, D, D, D, D, D, D, D, D, D, D, D, D, D, .root (.val false) sI .own L, .v false (.int .i64) ((L.length : Nat)), .v false (.int .i64) ((p.1 : Nat)), D, D, D, D, D, D, D, D, D, D, D, D, D, D, D, D, D, D, D, D, D, D, D, D, D, D, D, D, D, D, D, D, D, D, D, D, D, D, D, D, D, D, D]) (fun p => p.1 ≤ L.length ∧ Len3 t.length p.2.2.2) (fun p => L.length - p.1) ⟨(0, bus, r, b, s', l), ⟨by omega, hb, hs', hl⟩, ?_⟩ fun ⟨i, last, r, b, s, l⟩ ⟨hi, hb, hs, hl⟩ => ?_
  ·simp only [wn, wq, simprocAttr]
   try rfl
  have hi : i ≤ L.length := hi
  have hb : b.length = t.length := hb
  have hs : s.length = t.length := hs
  have hl : l.length = t.length := hl
  repeat refine VW.seq ?_
  refine VW.regl hT fun K hK => ?_
  simp only [wq, simprocAttr]
  refine hK _ ?_
  clear hK K
  try refine vthen_n ?_
  repeat refine VW.seq ?_
  refine VW.cond rfl (fun hc => ?_) (fun hc => ?_)
  ·have hlt : i < L.length := by simpa using hc
   obtain ⟨c, hc0, h1, h2, h3, h4⟩ := kids_pos hok (hperm.mem_iff.1 (getD_mem hlt))
   have hle := wsum_le (vis t) L (i + 1)
   have htk := wsum_take (vis t) hlt
   have hv := vis_eq hok h2
   rw [hc0, Int.toNat_natCast] at htk
   refine VW.skip (vthen_n ?_)
   repeat refine VW.seq ?_
   refine VW.block ?_
   repeat refine VW.seq ?_
   refine VW.regl hT fun K hK => ?_
   simp only [wq, simprocAttr]
   refine ⟨decide_eq_true ⟨Int.natCast_nonneg _, by show (i : Int) < (L.length : Int); omega⟩, ?_⟩
   rw [show L.getD i 0 = (c : Int) from hc0]
   refine hK _ ?_
   clear hK K
   try refine vthen_n ?_
   repeat refine VW.seq ?_
   refine VW.regl hT fun K hK => ?_
   simp only [wq, simprocAttr]
   refine ⟨decide_eq_true ⟨Int.natCast_nonneg _, by show (c : Int) < (b.length : Int); omega⟩, ?_⟩
   refine hK _ ?_
   clear hK K
   try refine vthen_n ?_
   have hb' : (b.set c bus).length = t.length := by rw [List.length_set]; exact hb
   generalize b.set c bus = b' at hb' ⊢
   clear hb
   repeat refine VW.seq ?_
   refine VW.regl hT fun K hK => ?_
   simp only [wq, simprocAttr]
   refine vcall_of (isBridge_vc t c (by omega) (by omega)) ?_
   simp only [wq, simprocAttr]
   refine hK _ ?_
   clear hK K
   try refine vthen_n ?_
   repeat refine VW.seq ?_
   refine VW.cond rfl (fun hc => ?_) (fun hc => ?_)
   ·have hbr : (t.getD c z).2.2 = 0 := by simpa using hc
    rw [if_pos hbr] at hv
    generalize hU : u + wsum (vis t) (L.take i) = U at *
    repeat refine VW.seq ?_
    refine VW.regl hT fun K hK => ?_
    simp only [wq, simprocAttr]
    refine hK _ ?_
    clear hK K
    try refine vthen_n ?_
    rw [wrap64 (by omega) (by omega), show (U : Int) + 1 = ((U + 1 : Nat) : Int) by omega]
    repeat refine VW.seq ?_
    refine VW.regl hT fun K hK => ?_
    simp only [wq, simprocAttr]
    refine vcall_io 0 ?_
    simp only [wq, simprocAttr]
    refine vxcall_ex (ih c (by omega) h2 (b', s, l) (U + 1) ((U + 1 : Nat) : Int) _ ⟨hb', hs, hl⟩ (by omega)) ?_
    rintro pv ot ⟨m, ⟨b2, s2, l2⟩, r2, ⟨g1, g2, g3⟩, rfl, rfl⟩
    simp only [wq, simprocAttr]
    refine hK _ ?_
    clear hK K
    try refine vthen_n ?_
    show vthen _ _ _ .normal _
    refine vthen_n ?_
    repeat refine VW.seq ?_
    refine VW.regl hT fun K hK => ?_
    simp only [wq, simprocAttr]
    refine hK _ ?_
    clear hK K
    try refine vthen_n ?_
    rw [show U + 1 + subs t c = u + wsum (vis t) (L.take (i + 1)) by omega]
    refine ⟨(i + 1, if last < m then m else last, r2, b2, s2, l2), ⟨hlt, g1, g2, g3⟩, ?_, by show L.length - (i + 1) < L.length - i; omega⟩
    simp only [wn, wq, simprocAttr]
    rw [wrap64 (by omega) (by omega)]
    rfl
   ·have hbr : ¬ (t.getD c z).2.2 = 0 := by simpa using hc
    rw [if_neg hbr] at hv
    refine VW.skip ?_
    show vthen _ _ _ .normal _
    refine vthen_n ?_
    repeat refine VW.seq ?_
    refine VW.regl hT fun K hK => ?_
    simp only [wq, simprocAttr]
    refine hK _ ?_
    clear hK K
    try refine vthen_n ?_
    rw [show wsum (vis t) (L.take i) = wsum (vis t) (L.take (i + 1)) by omega]
    refine ⟨(i + 1, last, r, b', s, l), ⟨hlt, hb', hs, hl⟩, ?_, by show L.length - (i + 1) < L.length - i; omega⟩
    simp only [wn, wq, simprocAttr]
    rw [wrap64 (by omega) (by omega)]
    rfl
  ·have hge : i = L.length := by
    have : L.length ≤ i := by simpa using hc
    omega
   subst hge
   refine VW.exit ?_
   show vthen _ _ _ .normal _
   refine vthen_n ?_
   rw [List.take_length, hsum]
   repeat refine VW.seq ?_
   refine VW.regl hT fun K hK => ?_
   simp only [wq, simprocAttr]
   refine ⟨decide_eq_true ⟨Int.natCast_nonneg _, by show (k : Int) < (l.length : Int); omega⟩, ?_⟩
   refine hK _ ?_
   clear hK K
   try refine vthen_n ?_
   repeat refine VW.seq ?_
   refine VW.regl hT fun K hK => ?_
   simp only [wq, simprocAttr]
   refine hK _ ?_
   clear hK K
   try refine vthen_n ?_
   exact VW.ret ⟨.inl rfl, _, _, _, _, rfl, ⟨0, rfl⟩, last, (b, s, l.set k last), r, ⟨hb, hs, by show (l.set k last).length = _; rw [List.length_set]; exact hl⟩, rfl, rfl⟩
end Go.Proofs.YtoeblmcibheldaaGreatDoor.V.W
end
section
namespace Go.Proofs.YtoeblmcibheldaaGreatDoor.V.W
open Go Go.RowKit
abbrev rNum (fl : Fl) (x : I3) (b : Bool) : PV := .root (.tup [true, false]) (.pr sI3 .bool) (.pr fl .fz) (x, b)
set_option maxRecDepth 20000 in
theorem enum_vc (t : List Nd) (hl : t.length ≤ 2000000) : VC Tryz.prog 124 [.v false sNS t] (fun pv => if treeOk t = true then ∃ x, pv = rNum (.pr .own (.pr .own .own)) x true else pv = rNum .own ([], [], []) false) := by
 refine VC.of_body hT Tryz.func124 rfl (by kernel_rfl) [(.cell 2 145, true, sI3), (.tmp 3, false, .bool)] (by kernel_rfl) ?_
 show VW _ _ ([.v false sNS t, D, D, D, D, D, D, D, D, D, D, D, D, D, D, D, D, D, D, D, D, D, D, D, D, D, D, D, D, D, D, D, D, D, D, D]) _
 repeat refine VW.seq ?_
 refine VW.regl hT fun K hK => ?_
 simp only [wq, simprocAttr]
 refine hK _ ?_
 clear hK K
 try refine vthen_n ?_
 repeat refine VW.seq ?_
 refine VW.regl hT fun K hK => ?_
 simp only [wq, simprocAttr]
 refine vcall_of (treeOk_vc t hl) ?_
 simp only [wq, simprocAttr]
 refine hK _ ?_
 clear hK K
 try refine vthen_n ?_
 repeat refine VW.seq ?_
 refine VW.cond rfl (fun hc => ?_) (fun hc => ?_)
 ·repeat refine VW.seq ?_
  refine VW.regl hT fun K hK => ?_
  simp only [wq, simprocAttr]
  refine hK _ ?_
  clear hK K
  try refine vthen_n ?_
  refine VW.ret ⟨.inl rfl, _, rfl, ?_⟩
  have h' : treeOk t = false := (Bool.not_eq_true' _).mp hc
  rw [if_neg (by rw [h']; decide)]
 have hok : treeOk t = true := by
  have := hc
  rwa [Bool.not_eq_false'] at this
 have htl := treeOk_len hok
 refine VW.skip (vthen_n ?_)
 repeat refine VW.seq ?_
 refine VW.regl hT fun K hK => ?_
 simp only [wq, simprocAttr]
 refine vcall_ex (repeat_vc t.length (by omega) (by omega)) ?_
 rintro pv ⟨xs, hxs, rfl⟩
 simp only [wq, simprocAttr]
 refine hK _ ?_
 clear hK K
 try refine vthen_n ?_
 repeat refine VW.seq ?_
 refine VW.regl hT fun K hK => ?_
 simp only [wq, simprocAttr]
 have hxl : xs.length ≤ 2000000 := by omega
 refine vcall_of (cloneI_vc xs hxl) ?_
 simp only [wq, simprocAttr]
 refine vcall_of (cloneI_vc xs hxl) ?_
 simp only [wq, simprocAttr]
 refine vcall_of (cloneI_vc xs hxl) ?_
 simp only [wq, simprocAttr]
 refine hK _ ?_
 clear hK K
 try refine vthen_n ?_
 repeat refine VW.seq ?_
 refine VW.regl hT fun K hK => ?_
 simp only [wq, simprocAttr]
 refine vcall_io 0 ?_
 simp only [wq, simprocAttr]
 refine vxcall_ex (visit_vx hok t.length 0 (by omega) (by omega) (xs, xs, xs) 0 0 _ ⟨hxs, hxs, hxs⟩ (by have := subs_root hok; omega)) ?_
 rintro pv ot ⟨m, x, r, hx, rfl, rfl⟩
 simp only [wq, simprocAttr]
 refine hK _ ?_
 clear hK K
 try refine vthen_n ?_
 repeat refine VW.seq ?_
 refine VW.regl hT fun K hK => ?_
 simp only [wq, simprocAttr]
 refine hK _ ?_
 clear hK K
 try refine vthen_n ?_
 have hs0 := subs_root hok
 repeat refine VW.seq ?_
 refine VW.cond rfl (fun hc => ?_) (fun hc => ?_)
 ·have hc : ((subs t 0 : Nat) : Int) > 15 := of_decide_eq_true hc
  omega
 refine VW.skip (vthen_n ?_)
 repeat refine VW.seq ?_
 refine VW.regl hT fun K hK => ?_
 simp only [wq, simprocAttr]
 refine hK _ ?_
 clear hK K
 try refine vthen_n ?_
 refine VW.ret ⟨.inl rfl, _, rfl, ?_⟩
 rw [if_pos hok]
 exact ⟨x, rfl⟩
end Go.Proofs.YtoeblmcibheldaaGreatDoor.V.W
end
section
namespace Go.Proofs.YtoeblmcibheldaaGreatDoor.V.W
open Go Go.RowKit
abbrev fI3 : Fl := .pr .own (.pr .own .own)
theorem io3 {x : I3} {l : List (Nat × Nat)} {fi : Fl} {li : List Value} (h : (tagF sI3 l).1 = fi) (k : encI sI3 fi x = some li) : ∃ n1 c1 n2 c2 n3 c3, fi = .pr (.io n1 c1) (.pr (.io n2 c2) (.io n3 c3)) ∧ li = [.slice (some ⟨n1, 0, none⟩) x.1.length c1, .slice (some ⟨n2, 0, none⟩) x.2.1.length c2, .slice (some ⟨n3, 0, none⟩) x.2.2.length c3] := by
 rcases l with _ | ⟨⟨n1, c1⟩, _ | ⟨⟨n2, c2⟩, _ | ⟨⟨n3, c3⟩, l⟩⟩⟩
 ·subst h; cases k
 ·subst h; cases k
 ·subst h; cases k
 ·subst h
  exact ⟨n1, c1, n2, c2, n3, c3, rfl, (Option.some.inj k).symm⟩
set_option maxRecDepth 20000 in
set_option maxHeartbeats 2000000 in
theorem svisit_vx {t : List Nd} (hok : treeOk t = true) : ∀ (f k : Nat), t.length - k ≤ f → k < t.length → ∀ (x : I3) (u : Nat), Len3 t.length x → u + subs t k ≤ 1000 →
  VX Tryz.prog 154 [.v false sNS t, .root (.val true) sI3 fI3 x, .v false (.int .i64) ((k : Nat)), .v false (.int .i64) ((u : Nat))] 1 (fun pv ot => pv = .v false (.int .i64) (((u + subs t k : Nat) : Int)) ∧ ∃ y : I3, Len3 t.length y ∧ ot = .root (.val true) sI3 fI3 y) := by
 have htl := treeOk_len hok
 intro f
 induction f with
 | zero =>
  intro k hf hk
  omega
 | succ f ih =>
  intro k hf hk x u hx hu
  obtain ⟨b0, s0, l0⟩ := x
  obtain ⟨hb0, hs0, hl0⟩ := hx
  have hb0 : b0.length = t.length := hb0
  have hs0 : s0.length = t.length := hs0
  have hl0 : l0.length = t.length := hl0
  have hperm := skids_perm hok hk
  have hcl : (skids t k).length ≤ 12 := by
   rw [hperm.length_eq]
   have := kids_len t k t.length
   omega
  have hsum : wsum (vis t) (skids t k) = subs t k := wsum_perm hperm
  refine VX.of_rows hT Tryz.func154 rfl (by kernel_rfl) [(.tmp 8, false, .int .i64)] (by kernel_rfl) rfl rfl ⟨by show 0 < b0.length; omega, by show 0 < s0.length; omega, by show 0 < l0.length; omega⟩ fun ll fi li e1 e2 => ?_
  obtain ⟨n1, c1, n2, c2, n3, c3, rfl, rfl⟩ := io3 e1 e2
  show VW _ _ ([.v false sNS t, .root (.val true) sI3 (.pr (.io n1 c1) (.pr (.io n2 c2) (.io n3 c3))) (b0, s0, l0), .v false (.int .i64) ((k : Nat)), .v false (.int .i64) ((u : Nat)), D, D, D, D, D, D, D, D, D, D, D, D, D, D, D, D, D, D, D, D, D, D, D, D, D, D, D, D, D, D, D, D, D, D, D, D, D, D, D, D, D, D, D, D, D, D, D, D, D, D, D, D, D, D, D, D, D, D, D, D, D]) _
  repeat refine VW.seq ?_
  refine VW.regl hT fun K hK => ?_
  simp only [wq, simprocAttr]
  refine hK _ ?_
  clear hK K
  try refine vthen_n ?_
  repeat refine VW.seq ?_
  refine VW.regl hT fun K hK => ?_
  simp only [wq, simprocAttr]
  refine vcall_of (specChildren_vc t k (by omega)) ?_
  generalize hL : skids t k = L at *
  simp only [wq, simprocAttr]
  refine hK _ ?_
  clear hK K
  try refine vthen_n ?_
  repeat refine VW.seq ?_
  refine VW.regl hT fun K hK => ?_
  simp only [wq, simprocAttr]
  refine hK _ ?_
  clear hK K
  try refine vthen_n ?_
  repeat refine VW.seq ?_
  refine VW.block ?_
  refine VW.loop (α := Nat × I3) [(0, none), (2, none), (3, none), (5, none), (9, none), (10, none)] (fun p => [.v false sNS t, D, .v false (.int .i64) ((k : Nat)), .v false (.int .i64) (((u + wsum (vis t) (L.take p.1) : Nat) : Int)), D, .root (.box 145) sI3 (.pr (.io n1 c1) (.pr (.io n2 c2) (.io n3 c3))) p.2, D, D, D, .root (.val false) sI .own L, .v false (.int .i64) ((p.1 : Nat)), D, D, D, D, D, D, D, D, D, D, D, D, D, D, D, D, D, D, D, D, D, D, D, D, D, D, D, D, D, D, D, D, D, D, D, D, D, D, D, D, D, D, D, D, D, D, D, D, D, D, D, D, D, D]) (fun p => p.1 ≤ L.length ∧ Len3 t.length p.2) (fun p => L.length - p.1) ⟨(0, b0, s0, l0), ⟨by omega, hb0, hs0, hl0⟩, ?_⟩ fun ⟨i, b, s, l⟩ ⟨hi, hb, hs, hl⟩ => ?_
  ·simp only [wn, wq, simprocAttr]
   try rfl
  have hi : i ≤ L.length := hi
  have hb : b.length = t.length := hb
  have hs : s.length = t.length := hs
  have hl : l.length = t.length := hl
  repeat refine VW.seq ?_
  refine VW.regl hT fun K hK => ?_
  simp only [wq, simprocAttr]
  refine hK _ ?_
  clear hK K
  try refine vthen_n ?_
  repeat refine VW.seq ?_
  refine VW.cond rfl (fun hc => ?_) (fun hc => ?_)
  ·have hlt : i < L.length := by simpa using hc
   obtain ⟨c, hc0, h1, h2, h3, h4⟩ := kids_pos hok (hperm.mem_iff.1 (getD_mem hlt))
   have hle := wsum_le (vis t) L (i + 1)
   have htk := wsum_take (vis t) hlt
   have hv := vis_eq hok h2
   rw [hc0, Int.toNat_natCast] at htk
   refine VW.skip (vthen_n ?_)
   repeat refine VW.seq ?_
   refine VW.block ?_
   have hiL : decide (0 ≤ (i : Int) ∧ (i : Int) < (L.length : Int)) = true := decide_eq_true ⟨Int.natCast_nonneg _, by omega⟩
   repeat refine VW.seq ?_
   refine VW.mixl hT hm 0 11 (by kernel_rfl) fun K hK => ?_
   simp only [wq, simprocAttr]
   refine ⟨by kernel_rfl, by kernel_rfl, by kernel_rfl, by kernel_rfl, hiL, by kernel_rfl, by kernel_rfl, by kernel_rfl, by kernel_rfl, decide_eq_true ⟨Int.natCast_nonneg _, by show (k : Int) < (s.length : Int); omega⟩, by kernel_rfl, decide_eq_true ?_, ?_⟩
   ·show 0 ≤ L.getD i 0 ∧ L.getD i 0 < (b.length : Int)
    rw [hc0]
    omega
   rw [show L.getD i 0 = (c : Int) from hc0]
   refine hK _ ?_
   clear hK K
   try refine vthen_n ?_
   have hb' : (b.set (Int.toNat (c : Int)) (s.getD k 0)).length = t.length := by rw [List.length_set]; exact hb
   generalize b.set (Int.toNat (c : Int)) (s.getD k 0) = b' at hb' ⊢
   clear hb
   repeat refine VW.seq ?_
   refine VW.regl hT fun K hK => ?_
   simp only [wq, simprocAttr]
   refine ⟨hiL, ?_⟩
   rw [show L.getD i 0 = (c : Int) from hc0]
   refine ⟨decide_eq_true ⟨Int.natCast_nonneg _, by show (c : Int) < (t.length : Int); omega⟩, ?_⟩
   refine hK _ ?_
   clear hK K
   try refine vthen_n ?_
   generalize hU : u + wsum (vis t) (L.take i) = U at *
   repeat refine VW.seq ?_
   refine VW.cond rfl (fun hc => ?_) (fun hc => ?_)
   ·have hbr : (t.getD c z).2.2 = 0 := by simpa using hc
    rw [if_pos hbr] at hv
    repeat refine VW.seq ?_
    refine VW.regl hT fun K hK => ?_
    simp only [wq, simprocAttr]
    refine hK _ ?_
    clear hK K
    try refine vthen_n ?_
    rw [wrap64 (by omega) (by omega), show (U : Int) + 1 = ((U + 1 : Nat) : Int) by omega]
    refine VW.weak (weak_norm [(0, none), (2, none), (3, none), (5, none), (9, none), (10, none)] _) ?_
    simp only [wn, wq, simprocAttr]
    repeat refine VW.seq ?_
    refine VW.mixl hT hm 0 7 (by kernel_rfl) fun K hK => ?_
    simp only [wq, simprocAttr]
    refine ⟨by kernel_rfl, by kernel_rfl, by kernel_rfl, by kernel_rfl, hiL, by kernel_rfl, decide_eq_true ?_, ?_⟩
    ·show 0 ≤ L.getD i 0 ∧ L.getD i 0 < (s.length : Int)
     rw [hc0]
     omega
    rw [show L.getD i 0 = (c : Int) from hc0]
    refine hK _ ?_
    clear hK K
    try refine vthen_n ?_
    have hs' : (s.set (Int.toNat (c : Int)) ((U + 1 : Nat) : Int)).length = t.length := by rw [List.length_set]; exact hs
    generalize s.set (Int.toNat (c : Int)) ((U + 1 : Nat) : Int) = s' at hs' ⊢
    clear hs
    refine VW.weak (weak_norm [(0, none), (2, none), (3, none), (5, none), (9, none), (10, none)] _) ?_
    simp only [wn, wq, simprocAttr]
    repeat refine VW.seq ?_
    refine VW.mixl hT hm 0 7 (by kernel_rfl) fun K hK => ?_
    simp only [wq, simprocAttr]
    refine ⟨by kernel_rfl, by kernel_rfl, by kernel_rfl, hiL, by kernel_rfl, ?_⟩
    rw [show L.getD i 0 = (c : Int) from hc0]
    refine vcall_io 1 ?_
    simp only [wq, simprocAttr]
    have hal := ih c (by omega) h2 (b', s', l) (U + 1) ⟨hb', hs', hl⟩ (by omega)
    have hrec := tagE (agg := true) (s := sI3) (fi := .pr (.io n1 c1) (.pr (.io n2 c2) (.io n3 c3))) (f0 := fI3) (x := (b', s', l)) (l := [.slice (some ⟨n1, 0, none⟩) b'.length c1, .slice (some ⟨n2, 0, none⟩) s'.length c2, .slice (some ⟨n3, 0, none⟩) l.length c3]) hal rfl rfl rfl (fun y hy => by
     obtain ⟨y1, y2, y3⟩ := hy
     show some [Value.slice (some ⟨n1, 0, none⟩) y.1.length c1, Value.slice (some ⟨n2, 0, none⟩) y.2.1.length c2, Value.slice (some ⟨n3, 0, none⟩) y.2.2.length c3] = some _
     rw [y1, y2, y3, hb', hs', hl])
    refine vxcall_ex hrec ?_
    rintro pv ot ⟨rfl, ⟨b2, s2, l2⟩, ⟨g1, g2, g3⟩, rfl⟩
    simp only [wq, simprocAttr]
    refine hK _ ?_
    clear hK K
    try refine vthen_n ?_
    show vthen _ _ _ .normal _
    refine vthen_n ?_
    repeat refine VW.seq ?_
    refine VW.regl hT fun K hK => ?_
    simp only [wq, simprocAttr]
    refine hK _ ?_
    clear hK K
    try refine vthen_n ?_
    rw [show U + 1 + subs t c = u + wsum (vis t) (L.take (i + 1)) by omega]
    refine ⟨(i + 1, b2, s2, l2), ⟨hlt, g1, g2, g3⟩, ?_, by show L.length - (i + 1) < L.length - i; omega⟩
    simp only [wn, wq, simprocAttr]
    rw [wrap64 (by omega) (by omega)]
    rfl
   ·have hbr : ¬ (t.getD c z).2.2 = 0 := by simpa using hc
    rw [if_neg hbr] at hv
    refine VW.skip ?_
    show vthen _ _ _ .normal _
    refine vthen_n ?_
    repeat refine VW.seq ?_
    refine VW.regl hT fun K hK => ?_
    simp only [wq, simprocAttr]
    refine hK _ ?_
    clear hK K
    try refine vthen_n ?_
    rw [show U = u + wsum (vis t) (L.take (i + 1)) by omega]
    refine ⟨(i + 1, b', s, l), ⟨hlt, hb', hs, hl⟩, ?_, by show L.length - (i + 1) < L.length - i; omega⟩
    simp only [wn, wq, simprocAttr]
    rw [wrap64 (by omega) (by omega)]
    rfl
  ·have hge : i = L.length := by
    have : L.length ≤ i := by simpa using hc
    omega
   subst hge
   refine VW.exit ?_
   show vthen _ _ _ .normal _
   refine vthen_n ?_
   rw [List.take_length, hsum]
   repeat refine VW.seq ?_
   refine VW.regl hT fun K hK => ?_
   simp only [wq, simprocAttr]
   refine ⟨decide_eq_true ⟨Int.natCast_nonneg _, by show (k : Int) < (l.length : Int); omega⟩, ?_⟩
   refine hK _ ?_
   clear hK K
   try refine vthen_n ?_
   repeat refine VW.seq ?_
   refine VW.regl hT fun K hK => ?_
   simp only [wq, simprocAttr]
   refine hK _ ?_
   clear hK K
   try refine vthen_n ?_
   have hl2 : (l.set k ((u + subs t k : Nat) : Int)).length = t.length := by rw [List.length_set]; exact hl
   refine VW.ret ⟨.inl rfl, _, _, _, _, rfl, ⟨5, _, rfl⟩, ?_, rfl, (b, s, l.set k ((u + subs t k : Nat) : Int)), ⟨hb, hs, hl2⟩, rfl⟩
   show some [Value.slice (some ⟨n1, 0, none⟩) b.length c1, Value.slice (some ⟨n2, 0, none⟩) s.length c2, Value.slice (some ⟨n3, 0, none⟩) (l.set k ((u + subs t k : Nat) : Int)).length c3] = some [Value.slice (some ⟨n1, 0, none⟩) b0.length c1, Value.slice (some ⟨n2, 0, none⟩) s0.length c2, Value.slice (some ⟨n3, 0, none⟩) l0.length c3]
   rw [hb, hs, hl2, hb0, hs0, hl0]
end Go.Proofs.YtoeblmcibheldaaGreatDoor.V.W
end
section
namespace Go.Proofs.YtoeblmcibheldaaGreatDoor.V.W
open Go Go.RowKit
set_option maxRecDepth 20000 in
set_option maxHeartbeats 1000000 in
theorem specEnum_vc (t : List Nd) (hl : t.length ≤ 2000000) : VC Tryz.prog 119 [.v false sNS t] (fun pv => if treeOk t = true then ∃ x, pv = rNum (.pr .own (.pr .own .own)) x true else pv = rNum .own ([], [], []) false) := by
 refine VC.of_body hT Tryz.func119 rfl (by kernel_rfl) [(.cell 2 145, true, sI3), (.tmp 3, false, .bool)] (by kernel_rfl) ?_
 show VW _ _ ([.v false sNS t, D, D, D, D, D, D, D, D, D, D, D, D, D, D, D, D, D, D, D, D, D, D, D, D, D, D, D, D, D, D, D, D, D, D, D, D, D, D, D, D, D, D, D]) _
 repeat refine VW.seq ?_
 refine VW.regl hT fun K hK => ?_
 simp only [wq, Nat.reduceMul, reduceCtorEq, Nat.reduceBEq, Nat.reduceAdd, Nat.reduceLT, Nat.reduceLeDiff, Nat.reduceSub, Nat.reduceEqDiff]
 refine hK _ ?_
 clear hK K
 try refine vthen_n ?_
 repeat refine VW.seq ?_
 refine VW.regl hT fun K hK => ?_
 simp only [wq, Nat.reduceMul, reduceCtorEq, Nat.reduceBEq, Nat.reduceAdd, Nat.reduceLT, Nat.reduceLeDiff, Nat.reduceSub, Nat.reduceEqDiff]
 refine vcall_of (specTreeOk_vc t hl) ?_
 simp only [wq, Nat.reduceMul, reduceCtorEq, Nat.reduceBEq, Nat.reduceAdd, Nat.reduceLT, Nat.reduceLeDiff, Nat.reduceSub, Nat.reduceEqDiff]
 refine hK _ ?_
 clear hK K
 try refine vthen_n ?_
 repeat refine VW.seq ?_
 refine VW.cond rfl (fun hc => ?_) (fun hc => ?_)
 ·repeat refine VW.seq ?_
  refine VW.regl hT fun K hK => ?_
  simp only [wq, Nat.reduceMul, reduceCtorEq, Nat.reduceBEq, Nat.reduceAdd, Nat.reduceLT, Nat.reduceLeDiff, Nat.reduceSub, Nat.reduceEqDiff]
  refine hK _ ?_
  clear hK K
  try refine vthen_n ?_
  refine VW.ret ⟨.inl rfl, _, rfl, ?_⟩
  have h' : treeOk t = false := (Bool.not_eq_true' _).mp hc
  rw [if_neg (by rw [h']; decide)]
 have hok : treeOk t = true := by
  have := hc
  rwa [Bool.not_eq_false'] at this
 have htl := treeOk_len hok
 refine VW.skip (vthen_n ?_)
 repeat refine VW.seq ?_
 refine VW.regl hT fun K hK => ?_
 simp only [wq, Nat.reduceMul, reduceCtorEq, Nat.reduceBEq, Nat.reduceAdd, Nat.reduceLT, Nat.reduceLeDiff, Nat.reduceSub, Nat.reduceEqDiff]
 refine hK _ ?_
 clear hK K
 try refine vthen_n ?_
 repeat refine VW.seq ?_
 refine VW.regl hT fun K hK => ?_
 simp only [wq, Nat.reduceMul, reduceCtorEq, Nat.reduceBEq, Nat.reduceAdd, Nat.reduceLT, Nat.reduceLeDiff, Nat.reduceSub, Nat.reduceEqDiff]
 refine hK _ ?_
 clear hK K
 try refine vthen_n ?_
 refine VW.retag (ι := Unit) (g := 4) (fun _ => fI3) _ rfl (fun w Z cs B h => ⟨(), h⟩) (fun j => by simp only [wq, Nat.reduceMul, reduceCtorEq, Nat.reduceBEq, Nat.reduceAdd, Nat.reduceLT, Nat.reduceLeDiff, Nat.reduceSub, Nat.reduceEqDiff]; rfl) (fun _ => ?_)
 repeat refine VW.seq ?_
 refine VW.block ?_
 refine VW.loop (α := Nat × I3) [(0, none), (2, none), (4, none), (5, none)] (fun p => [.v false sNS t, D, .root (.box 145) sI3 .own ([], [], []), D, .root (.box 145) sI3 fI3 p.2, .v false (.int .i64) ((p.1 : Nat)), D, D, D, D, D, D, D, D, D, D, D, D, D, D, D, D, D, D, D, D, D, D, D, D, D, D, D, D, D, D, D, D, D, D, D, D, D, D]) (fun p => p.1 ≤ t.length ∧ Len3 p.1 p.2) (fun p => t.length - p.1) ⟨(0, [], [], []), ⟨by omega, rfl, rfl, rfl⟩, ?_⟩ fun ⟨i, b, s, l⟩ ⟨hi, hb, hs, hl⟩ => ?_
 ·simp only [wn, wq, Nat.reduceMul, reduceCtorEq, Nat.reduceBEq, Nat.reduceAdd, Nat.reduceLT, Nat.reduceLeDiff, Nat.reduceSub, Nat.reduceEqDiff]
  try rfl
 have hi : i ≤ t.length := hi
 have hb : b.length = i := hb
 have hs : s.length = i := hs
 have hl : l.length = i := hl
 repeat refine VW.seq ?_
 refine VW.regl hT fun K hK => ?_
 simp only [wq, Nat.reduceMul, reduceCtorEq, Nat.reduceBEq, Nat.reduceAdd, Nat.reduceLT, Nat.reduceLeDiff, Nat.reduceSub, Nat.reduceEqDiff]
 refine hK _ ?_
 clear hK K
 try refine vthen_n ?_
 repeat refine VW.seq ?_
 refine VW.cond rfl (fun hc => ?_) (fun hc => ?_)
 ·have hlt : i < t.length := by simpa using hc
  refine VW.skip (vthen_n ?_)
  repeat refine VW.seq ?_
  refine VW.block ?_
  repeat refine VW.seq ?_
  refine VW.regl hT fun K hK => ?_
  simp only [wq, Nat.reduceMul, reduceCtorEq, Nat.reduceBEq, Nat.reduceAdd, Nat.reduceLT, Nat.reduceLeDiff, Nat.reduceSub, Nat.reduceEqDiff]
  refine ⟨by simp [limOk]; omega, ?_⟩
  refine hK _ ?_
  clear hK K
  try refine vthen_n ?_
  repeat refine VW.seq ?_
  refine VW.regl hT fun K hK => ?_
  simp only [wq, Nat.reduceMul, reduceCtorEq, Nat.reduceBEq, Nat.reduceAdd, Nat.reduceLT, Nat.reduceLeDiff, Nat.reduceSub, Nat.reduceEqDiff]
  refine ⟨by simp [limOk]; omega, ?_⟩
  refine hK _ ?_
  clear hK K
  try refine vthen_n ?_
  repeat refine VW.seq ?_
  refine VW.regl hT fun K hK => ?_
  simp only [wq, Nat.reduceMul, reduceCtorEq, Nat.reduceBEq, Nat.reduceAdd, Nat.reduceLT, Nat.reduceLeDiff, Nat.reduceSub, Nat.reduceEqDiff]
  refine ⟨by simp [limOk]; omega, ?_⟩
  refine hK _ ?_
  clear hK K
  try refine vthen_n ?_
  repeat refine VW.seq ?_
  refine VW.regl hT fun K hK => ?_
  simp only [wq, Nat.reduceMul, reduceCtorEq, Nat.reduceBEq, Nat.reduceAdd, Nat.reduceLT, Nat.reduceLeDiff, Nat.reduceSub, Nat.reduceEqDiff]
  refine hK _ ?_
  clear hK K
  try refine vthen_n ?_
  refine ⟨(i + 1, b ++ [0], s ++ [-1], l ++ [-1]), ⟨hlt, by show (b ++ [0]).length = i + 1; simp [hb], by show (s ++ [-1]).length = i + 1; simp [hs], by show (l ++ [-1]).length = i + 1; simp [hl]⟩, ?_, by show t.length - (i + 1) < t.length - i; omega⟩
  simp only [wn, wq, Nat.reduceMul, reduceCtorEq, Nat.reduceBEq, Nat.reduceAdd, Nat.reduceLT, Nat.reduceLeDiff, Nat.reduceSub, Nat.reduceEqDiff]
  rw [wrap64 (by omega) (by omega)]
  try rfl
 ·have hge : i = t.length := by
   have : t.length ≤ i := by simpa using hc
   omega
  subst hge
  have hs0 := subs_root hok
  refine VW.exit ?_
  show vthen _ _ _ .normal _
  refine vthen_n ?_
  repeat refine VW.seq ?_
  refine VW.regl hT fun K hK => ?_
  simp only [wq, Nat.reduceMul, reduceCtorEq, Nat.reduceBEq, Nat.reduceAdd, Nat.reduceLT, Nat.reduceLeDiff, Nat.reduceSub, Nat.reduceEqDiff]
  refine ⟨decide_eq_true ⟨by decide, by show (0 : Int) < (b.length : Int); omega⟩, ?_⟩
  refine hK _ ?_
  clear hK K
  try refine vthen_n ?_
  repeat refine VW.seq ?_
  refine VW.regl hT fun K hK => ?_
  simp only [wq, Nat.reduceMul, reduceCtorEq, Nat.reduceBEq, Nat.reduceAdd, Nat.reduceLT, Nat.reduceLeDiff, Nat.reduceSub, Nat.reduceEqDiff]
  refine ⟨decide_eq_true ⟨by decide, by show (0 : Int) < (s.length : Int); omega⟩, ?_⟩
  refine hK _ ?_
  clear hK K
  try refine vthen_n ?_
  have hb' : (b.set (Int.toNat 0) (-1)).length = t.length := by rw [List.length_set]; exact hb
  have hs' : (s.set (Int.toNat 0) 0).length = t.length := by rw [List.length_set]; exact hs
  generalize b.set (Int.toNat 0) (-1) = b' at hb' ⊢
  generalize s.set (Int.toNat 0) 0 = s' at hs' ⊢
  repeat refine VW.seq ?_
  refine VW.regl hT fun K hK => ?_
  simp only [wq, Nat.reduceMul, reduceCtorEq, Nat.reduceBEq, Nat.reduceAdd, Nat.reduceLT, Nat.reduceLeDiff, Nat.reduceSub, Nat.reduceEqDiff]
  refine vcall_io 1 ?_
  simp only [wq, Nat.reduceMul, reduceCtorEq, Nat.reduceBEq, Nat.reduceAdd, Nat.reduceLT, Nat.reduceLeDiff, Nat.reduceSub, Nat.reduceEqDiff]
  refine vxcall_ex (svisit_vx hok t.length 0 (by omega) (by omega) (b', s', l) 0 ⟨hb', hs', hl⟩ (by omega)) ?_
  rintro pv ot ⟨rfl, x, hx, rfl⟩
  simp only [wq, Nat.reduceMul, reduceCtorEq, Nat.reduceBEq, Nat.reduceAdd, Nat.reduceLT, Nat.reduceLeDiff, Nat.reduceSub, Nat.reduceEqDiff]
  refine hK _ ?_
  clear hK K
  try refine vthen_n ?_
  repeat refine VW.seq ?_
  refine VW.cond rfl (fun hc => ?_) (fun hc => ?_)
  ·have hc : ((subs t 0 : Nat) : Int) > 15 := of_decide_eq_true hc
   omega
  refine VW.skip (vthen_n ?_)
  repeat refine VW.seq ?_
  refine VW.regl hT fun K hK => ?_
  simp only [wq, Nat.reduceMul, reduceCtorEq, Nat.reduceBEq, Nat.reduceAdd, Nat.reduceLT, Nat.reduceLeDiff, Nat.reduceSub, Nat.reduceEqDiff]
  refine hK _ ?_
  clear hK K
  try refine vthen_n ?_
  refine VW.ret ⟨.inl rfl, _, rfl, ?_⟩
  rw [if_pos hok]
  exact ⟨x, rfl⟩
end Go.Proofs.YtoeblmcibheldaaGreatDoor.V.W
end
section
namespace Go.Proofs.YtoeblmcibheldaaGreatDoor.V.W
open Go Go.RowKit
theorem row_eq {α : Type} {xs ys : List α} (z : α) (hlen : xs.length = ys.length) (h : ∀ k, k < xs.length → xs.getD k z = ys.getD k z) : xs = ys := by
 apply List.ext_getElem hlen
 intro k h1 h2
 have := h k h1
 simpa [List.getD_eq_getElem?_getD, h1, h2] using this
abbrev sII : Sh := .sl 25 sI
def _root_.Go.Proofs.YtoeblmcibheldaaGreatDoor.V.Sh.scal : Sh → Bool
 | .int _ => true
 | .bool => true
 | .unit => true
 | .pr a b => a.scal && b.scal
 | _ => false
theorem eqv_eq : ∀ {s : Sh} {x y : s.ty}, s.scal = true → (eqv s x y = true ↔ x = y)
 | .unit, _, _, _ => ⟨fun _ => rfl, fun _ => rfl⟩
 | .int _, x, y, _ => by simp [eqv]
 | .bool, x, y, _ => by simp [eqv]
 | .pr a b, x, y, h => by
  simp only [Sh.scal, Bool.and_eq_true] at h
  simp only [eqv, Bool.and_eq_true, eqv_eq h.1, eqv_eq h.2]
  exact ⟨fun ⟨p, q⟩ => Prod.ext p q, fun e => by rw [e]; exact ⟨rfl, rfl⟩⟩
end Go.Proofs.YtoeblmcibheldaaGreatDoor.V.W
end
section
namespace Go.Proofs.YtoeblmcibheldaaGreatDoor.V.W
open Go Go.RowKit
end Go.Proofs.YtoeblmcibheldaaGreatDoor.V.W
end
section
namespace Go.Proofs.YtoeblmcibheldaaGreatDoor.V.W
open Go Go.RowKit
abbrev sG : Sh := .sl 4 .bool
abbrev sFi : Sh := .pr (.sl 68 (.pr (.int .i64) (.pr (.int .i64) (.int .i64)))) (.pr (.sl 3 (.int .i64)) (.pr (.sl 110 (.pr (.int .i64) (.int .i64))) (.pr (.sl 25 (.sl 3 (.int .i64))) sG)))
abbrev Fab := List (Int × Int × Int) × List Int × List (Int × Int) × List (List Int) × List Bool
structure FabB (x : Fab) : Prop where
 a : x.1.length * 24 ≤ 140737488351232
 b : x.2.1.length * 8 ≤ 140737488351232
 c : x.2.2.1.length * 16 ≤ 140737488351232
 d : x.2.2.2.1.length * 24 ≤ 140737488351232
 e : ∀ k, (x.2.2.2.1.getD k []).length * 8 ≤ 140737488351232
 f : x.2.2.2.2.length * 1 ≤ 140737488351232
/-- what two levels of rows hold -/
def tot (xs : List (List Int)) (i : Nat) : Nat := ((xs.take i).map List.length).sum
end Go.Proofs.YtoeblmcibheldaaGreatDoor.V.W
end
section
namespace Go.Proofs.YtoeblmcibheldaaGreatDoor.V
open Go Go.RowKit
/-- what is listed, as a number -/
def arr (n m : Nat) : Array Bool := Array.ofFn (n := n) fun i => m.testBit i
theorem arr_size (n m : Nat) : (arr n m).size = n := by simp [arr]
theorem arr_get (n m j : Nat) : (arr n m).getD j false = (decide (j < n) && m.testBit j) := by
 by_cases h : j < n
 ·simp [arr, Array.getD, h]
 ·simp [arr, Array.getD, h]
theorem arr_el {n m j : Nat} (h : j < (arr n m).size) : (arr n m)[j] = m.testBit j := by simp [arr]
theorem arr_set {n m i : Nat} (hi : i < n) : (arr n m).setIfInBounds i true = arr n (m ||| 2 ^ i) := by
 apply Array.ext
 ·rw [Array.size_setIfInBounds, arr_size, arr_size]
 ·intro j h1 h2
  have h3 : j < (arr n m).size := by rw [arr_size]; rwa [arr_size] at h2
  rw [Array.getElem_setIfInBounds h3, arr_el h2, Nat.testBit_or]
  by_cases e : i = j
  ·subst e; simp
  ·rw [arr_size] at h2
   rw [if_neg e, arr_el (by rw [arr_size]; exact h2), Nat.testBit_two_pow_of_ne e, Bool.or_false]
def chk (ops : Array Oper) (m : Nat) (ps : List (Nat × Nat)) : Bool := (Region.ready .any ops (arr ops.size m) == ps.map (·.1)) && ps.all fun p => (m ||| 2 ^ p.1 == p.2)
def takeChk (ops : Array Oper) (m i m' : Nat) : Bool := Region.noSelect ops && (Region.free .any ops (arr ops.size m) i && ((Region.ready .any ops (arr ops.size m)).contains i && (m ||| 2 ^ i == m')))
def twoChk (ops : Array Oper) (m i j m' : Nat) : Bool := (Region.ready .any ops (arr ops.size m) == [i]) && ((Region.ready .any ops (arr ops.size (m ||| 2 ^ i)) == [j]) && (m ||| 2 ^ i ||| 2 ^ j == m'))
def doneChk (ops : Array Oper) (m : Nat) : Bool := Region.ready .any ops (arr ops.size m) == []
section
variable {P : Program} {T : List (Nat × TI)} {ops : Array Oper}
/-- one operation -/
def vone (P : Program) (T : List (Nat × TI)) (ops : Array Oper) (i : Nat) (st0 : St) (K : St → Prop) : Prop :=
 match ops[i]? with
 | some o => @vguard st0 ops o ⟨fun run st => match run with
  | true => @vread P T st o ⟨fun st1 pv => nonroot st1 o.dst = true ∧ K (setD st1 o.dst pv)⟩
  | false => nonroot st o.dst = true ∧ K (setD st o.dst skipPV)⟩
 | none => True
def vpure (ops : Array Oper) (i : Nat) (st : St) (K : St → Prop) : Prop :=
 match ops[i]? with
 | some o => @vfloat (pureOp st o) ⟨fun pv => nonroot st o.dst = true ∧ K (setD st o.dst pv)⟩
 | none => True
def popped : Option Out → Bool
 | some _ => true
 | none => false
def isFld (st : St) (o : Oper) : Bool := match o.guard with
 | some _ => false
 | none => match o.op with
  | .fieldAddr _ x _ => match ref st x with
   | .adr _ _ => true
   | _ => false
  | _ => false
def vfld (P : Program) (T : List (Nat × TI)) (ops : Array Oper) (i : Nat) (st : St) (K : St → Prop) : Prop :=
 match ops[i]? with
 | some o => isFld st o = true ∧ popped (pop T st st o) = true ∧ @vread P T st o ⟨fun st1 pv => nonroot st1 o.dst = true ∧ K (setD st1 o.dst pv)⟩
 | none => True
def vall (P : Program) (T : List (Nat × TI)) (ops : Array Oper) (W : Nat → St → Prop) (st : St) : List (Nat × Nat) → Prop
 | [] => True
 | p :: r => vone P T ops p.1 st (W p.2) ∧ vall P T ops W st r
/-- two operations, one behind the other, the first without effect -/
def Does2 (P : Program) (o1 o2 : Oper) (st st' : St) : Prop := ∀ (L : Lay) (a : Act) (w : World) (next : Act → World → Prop) (Q : Exit → Act → World → Prop), Rel L st a w Free → (∀ L' a' w', Stp L L' w w' → Rel L' st' a' w' Free → next a' w') → ∃ v, (execOp a.eval o1).run P w = .ok (.value v) w ∧ o2.wp P (a.put o1.dst v) w next Q
/-- how one goes on in a region in any order -/
structure Ruled (P : Program) (T : List (Nat × TI)) (ops : Array Oper) (K : St → Prop) (W : Nat → St → Prop) : Prop where
 done : ∀ (m : Nat) (st : St), doneChk ops m = true → K st → W m st
 all : ∀ (m : Nat) (ps : List (Nat × Nat)) (st : St), chk ops m ps = true → ps ≠ [] → vall P T ops W st ps → W m st
 take : ∀ (m i m' : Nat) (st : St), takeChk ops m i m' = true → vpure ops i st (W m') → W m st
 takeF : ∀ (m i m' : Nat) (st : St), takeChk ops m i m' = true → vfld P T ops i st (W m') → W m st
 two : ∀ (m i j m' : Nat) (st st' : St) (o1 o2 : Oper), ops[i]? = some o1 → ops[j]? = some o2 → o1.guard = none → o2.guard = none → twoChk ops m i j m' = true → Does2 P o1 o2 st st' → W m' st' → W m st
theorem fld_pure (hT : TabOk P T) {L : Lay} {st : St} {a : Act} {w : World} (h : Rel L st a w Free) {o : Oper} {t n : Nat} {x : Operand} {g : Nat} {p : Path} {out : Out} (ho : o.op = .fieldAddr t x n) (hx : ref st x = .adr g p) (hg0 : o.guard = none) (hp : pop T st st o = some out) : ∃ v, Yields P ops o v a ∧ ORep L st w out.pv v ∧ out.pv.isRoot = false ∧ out.st = st := by
 have hw : Region.wanted o (yielded ops a.tmps) = true := by unfold Region.wanted; rw [hg0]
 unfold pop at hp
 rw [ho] at hp
 simp only at hp
 have hv := h.opnd x
 split at hp
 ·rename_i i hi
  have hTt := hT t i hi
  rw [hx] at hp hv
  simp only at hp
  split at hp
  ·rename_i s f y hl
   split at hp
   ·rename_i hc
    obtain ⟨hs, hn, hag⟩ := hc
    obtain rfl := (Option.some.inj hp)
    obtain ⟨s1, cs1, A, q1, q2⟩ := hv
    obtain rfl := q1.shape hl
    subst hs
    obtain ⟨fs, u1, u2, u3⟩ := hTt.str hag (by omega)
    obtain ⟨fd, agg1, s1, of, fi, v1, v2, v3, v4, v5, v6, v7, v8, v9, v10⟩ := (u3 n hn).ex
    obtain ⟨k1, ⟨f2, x2, k2⟩, k3, k4, k5⟩ := field_at n i.nf v3 f y
    obtain ⟨_, _, B1, _, m4⟩ := h.place q1 hl
    refine ⟨.pointer (some (A.add of)), .inl ⟨hw, fun w' => ?_⟩, ⟨s1, (cs1.drop of).take s1.size, A.add of, q1.app hl k1 k2 (k4 w cs1 (some A) m4.len), rfl⟩, rfl, rfl⟩
    have hne : ¬ s1.size = 0 := by omega
    simp [execOp, ho, Instr.fieldAt, run_underlying u1, v1, Instr.sureAddr, q2, fieldPlace, run_size v5, v6, hne, v4]
   ·cases hp
  ·cases hp
 ·cases hp
theorem vall_mem {W : Nat → St → Prop} {st : St} : ∀ {ps : List (Nat × Nat)} {p : Nat × Nat}, vall P T ops W st ps → p ∈ ps → vone P T ops p.1 st (W p.2)
 | q :: r, p, h, hp => by
  rcases List.mem_cons.1 hp with rfl | hp
  ·exact h.1
  ·exact vall_mem h.2 hp
theorem cnt_set {n m i : Nat} (hi : i < n) (hb : (arr n m).getD i false = false) : cntU n (fun j => !(arr n (m ||| 2 ^ i)).getD j false) + 1 = cntU n (fun j => !(arr n m).getD j false) := by
 refine cntU_flip n (i := i) hi (by simp only [hb]; rfl) ?_ fun j hj => ?_
 ·show (!(arr n (m ||| 2 ^ i)).getD i false) = false
  rw [arr_get, Nat.testBit_or, Nat.testBit_two_pow_self, decide_eq_true hi]
  simp
 ·show (!(arr n (m ||| 2 ^ i)).getD j false) = (!(arr n m).getD j false)
  rw [arr_get, arr_get, Nat.testBit_or, Nat.testBit_two_pow_of_ne (fun e => hj e.symm), Bool.or_false]
theorem cnt_zero {n m : Nat} (h : cntU n (fun j => !(arr n m).getD j false) = 0) {i : Nat} (hi : i < n) : (arr n m).getD i false = true := by
 have := cntU_zero n h i hi
 simpa using this
theorem VW.any (hT : TabOk P T) (hm : P.follows .mixedOrders = true) {id : Nat} {st : St} {Q : Exit → St → Prop} (h : ∀ (K : St → Prop), (∀ s, Q .normal s → K s) → ∀ W : Nat → St → Prop, Ruled P T ops K W → W 0 st) : VW P (.region id ops true) st Q := by
 intro L a w hr
 refine wp_mono (Q := fun e a' w' => match e with | .normal => ∃ L' st', Stp L L' w w' ∧ Rel L' st' a' w' Free ∧ Q .normal st' | _ => False) ?_ (fun e a' w' hq => ?_)
 case refine_2 =>
  cases e with
  | normal => exact hq
  | _ => exact hq.elim
 refine wp_region_any hm ?_
 have hx : Ext w { w with drawn := w.drawn + 1 } := Ext.drew w
 have hr1 := hr.grow hx
 have hst1 := Stp.ext (L := L) hx
 generalize ({ w with drawn := w.drawn + 1 } : World) = w1 at hr1 hst1 ⊢
 have key := h (Q .normal) (fun _ h => h) (fun m st => ∀ (n : Nat), cntU ops.size (fun j => !(arr ops.size m).getD j false) = n → ∀ (L' : Lay) (a : Act) (w' : World), Stp L L' w w' → Rel L' st a w' Free → wpAny P .any ops (fun e a' w' => match e with | .normal => ∃ L' st', Stp L L' w w' ∧ Rel L' st' a' w' Free ∧ Q .normal st' | _ => False) n (arr ops.size m) a w') ?_
 ·have e0 : arr ops.size 0 = Array.replicate ops.size false := by
   apply Array.ext
   ·simp [arr]
   ·intro j h1 h2
    simp [arr]
  have c0 : cntU ops.size (fun j => !(arr ops.size 0).getD j false) = ops.size := by
   have e1 : (fun j => !(arr ops.size 0).getD j false) = fun _ => true := by
    funext j
    rw [arr_get, Nat.zero_testBit, Bool.and_false]
    rfl
   rw [e1]
   exact cntU_all ops.size
  have := key _ c0 L a w1 hst1 hr1
  rwa [e0] at this
 ·refine ⟨fun m st hd hk n hn L' a w' hs hr => ?_, fun m ps st hc hne hv n hn L' a w' hs hr => ?_, fun m i m' st hc hv n hn L' a w' hs hr => ?_, fun m i m' st hc hv n hn L' a w' hs hr => ?_, fun m i j m' st st' o1 o2 hi hj gi gj hc hd hv n hn L' a w' hs hr => ?_⟩
  ·have hd : Region.ready .any ops (arr ops.size m) = [] := by simpa [doneChk] using hd
   exact wpAny_done hd ⟨L', st, hs, hr, hk⟩ n
  ·simp only [chk, Bool.and_eq_true, beq_iff_eq] at hc
   obtain ⟨hrd, hms⟩ := hc
   have hin : ∀ i ∈ Region.ready .any ops (arr ops.size m), ∃ p ∈ ps, p.1 = i ∧ i < ops.size ∧ (arr ops.size m).getD i false = false ∧ ∃ o, ops[i]? = some o := fun i hi => by
    obtain ⟨o, h1, h2, _⟩ := (ready_iff (arr_size _ _)).1 hi
    rw [hrd] at hi
    obtain ⟨p, hp, rfl⟩ := List.mem_map.1 hi
    exact ⟨p, hp, rfl, (Array.getElem?_eq_some_iff.1 h1).1, h2, o, h1⟩
   have hnil : Region.ready .any ops (arr ops.size m) ≠ [] := by
    rw [hrd]
    intro h0
    exact hne (List.map_eq_nil_iff.1 h0)
   cases n with
   | zero =>
    obtain ⟨i, hi⟩ := List.exists_mem_of_ne_nil _ hnil
    obtain ⟨p, _, _, h1, h2, _⟩ := hin i hi
    rw [cnt_zero hn h1] at h2
    cases h2
   | succ n =>
    refine ⟨fun h0 => absurd h0 hnil, fun i hi => ?_⟩
    obtain ⟨p, hp, rfl, h1, h2, o, ho⟩ := hin i hi
    have hm' : m ||| 2 ^ p.1 = p.2 := by
     have := List.all_eq_true.1 hms p hp
     simpa using this
    have hcn := cnt_set h1 h2
    rw [hm'] at hcn
    have hv1 := vall_mem hv hp
    unfold vone at hv1
    rw [ho] at hv1
    have hg := vguard_ok hr hv1
    rw [arr_set h1, hm']
    unfold wpOp
    rw [ho]
    simp only
    cases hw : Region.wanted o (yielded ops a.tmps) with
    | true =>
     rw [hw] at hg
     simp only at hg
     rw [if_pos rfl]
     left
     refine vread_ok hT hg (fun st1 pv hK => hK.1) L' a w' _ _ hr fun st' L2 a2 w2 ⟨st1, pv, hK, e⟩ hs' hr' => ?_
     subst e
     exact hK.2 n (by omega) L2 a2 w2 (hs.trans hs') hr'
    | false =>
     rw [hw] at hg
     simp only at hg
     rw [if_neg (by simp)]
     obtain ⟨L2, s1, s2⟩ := skip_ok hr hg.1
     exact hg.2 n (by omega) L2 _ w' (hs.trans s1) s2
  ·simp only [takeChk, Bool.and_eq_true, beq_iff_eq] at hc
   obtain ⟨c1, c2, c3, c4⟩ := hc
   obtain ⟨o, ho, h2, _⟩ := (ready_iff (arr_size _ _)).1 (show i ∈ Region.ready .any ops (arr ops.size m) by simpa using c3)
   have h1 : i < ops.size := (Array.getElem?_eq_some_iff.1 ho).1
   have hcn := cnt_set h1 h2
   rw [c4] at hcn
   unfold vpure at hv
   rw [ho] at hv
   simp only [vfloat] at hv
   split at hv
   ·rename_i pv hp
    obtain ⟨hnr, hv⟩ := hv
    obtain ⟨v, y1, y2, y3⟩ := pureOp_ok (P := P) (ops := ops) hr hp
    have hr' : Rel L' (setD st o.dst pv) (a.put o.dst v) w' Free := by
     cases hd : o.dst with
     | none => exact hr
     | some d => exact hr.setO (nonroot_spec hnr d hd) y3 y2
    cases n with
    | zero =>
     rw [cnt_zero hn h1] at h2
     cases h2
    | succ n =>
     refine wpAny_take ho c1 c2 c3 (fun c a w hq => hq.elim) y1 ?_
     rw [arr_set h1, c4]
     exact hv n (by omega) L' _ w' hs hr'
   ·exact hv.elim
  ·simp only [takeChk, Bool.and_eq_true, beq_iff_eq] at hc
   obtain ⟨c1, c2, c3, c4⟩ := hc
   obtain ⟨o, ho, h2, _⟩ := (ready_iff (arr_size _ _)).1 (show i ∈ Region.ready .any ops (arr ops.size m) by simpa using c3)
   have h1 : i < ops.size := (Array.getElem?_eq_some_iff.1 ho).1
   have hcn := cnt_set h1 h2
   rw [c4] at hcn
   unfold vfld at hv
   rw [ho] at hv
   obtain ⟨hf, hpp, hv⟩ := hv
   simp only [isFld] at hf
   split at hf
   ·cases hf
   rename_i hg0
   split at hf
   ·rename_i t x k hop
    split at hf
    ·rename_i g p hx
     unfold vread at hv
     rw [hop] at hv
     simp only at hv
     have hnil : nilTest T st o = none := by unfold nilTest; rw [hop]
     rw [hnil] at hv
     simp only at hv
     split at hv
     ·rename_i out hp
      obtain ⟨_, hnr, hv⟩ := hv
      obtain ⟨v, y1, y2, y3, y4⟩ := fld_pure (P := P) (ops := ops) hT hr hop hx hg0 hp
      rw [y4] at hnr hv
      have hr' : Rel L' (setD st o.dst out.pv) (a.put o.dst v) w' Free := by
       cases hd : o.dst with
       | none => exact hr
       | some d => exact hr.setO (nonroot_spec hnr d hd) y3 y2
      cases n with
      | zero =>
       rw [cnt_zero hn h1] at h2
       cases h2
      | succ n =>
       refine wpAny_take ho c1 c2 c3 (fun c a w hq => hq.elim) y1 ?_
       rw [arr_set h1, c4]
       exact hv n (by omega) L' _ w' hs hr'
     ·rename_i hp; rw [hp] at hpp; cases hpp
    ·cases hf
   ·cases hf
  ·simp only [twoChk, Bool.and_eq_true, beq_iff_eq] at hc
   obtain ⟨c1, c2, c3⟩ := hc
   obtain ⟨_, _, b1, _⟩ := (ready_iff (arr_size _ _)).1 (show i ∈ Region.ready .any ops (arr ops.size m) by rw [c1]; exact List.mem_singleton.2 rfl)
   obtain ⟨_, _, b2, _⟩ := (ready_iff (arr_size _ _)).1 (show j ∈ Region.ready .any ops (arr ops.size (m ||| 2 ^ i)) by rw [c2]; exact List.mem_singleton.2 rfl)
   have h1 : i < ops.size := (Array.getElem?_eq_some_iff.1 hi).1
   have h2 : j < ops.size := (Array.getElem?_eq_some_iff.1 hj).1
   have q1 := cnt_set h1 b1
   have q2 := cnt_set h2 b2
   rw [c3] at q2
   obtain ⟨n, rfl⟩ : ∃ k, n = k + 2 := ⟨n - 2, by omega⟩
   refine ⟨fun h0 => (by rw [c1] at h0; cases h0), fun x hx => ?_⟩
   rw [c1] at hx
   obtain rfl := List.mem_singleton.1 hx
   have hw1 : Region.wanted o1 (yielded ops a.tmps) = true := by unfold Region.wanted; rw [gi]
   obtain ⟨v, x1, x2⟩ := hd L' a w' _ _ hr (fun L2 a2 w2 k1 k2 => hv n (by omega) L2 a2 w2 (hs.trans k1) k2)
   rw [arr_set h1]
   unfold wpOp
   rw [hi]
   simp only
   rw [hw1, if_pos rfl]
   left
   unfold Oper.wp
   rw [x1, Oper.upon_value]
   refine ⟨fun h0 => (by rw [c2] at h0; cases h0), fun x hx => ?_⟩
   rw [c2] at hx
   obtain rfl := List.mem_singleton.1 hx
   have hw2 : Region.wanted o2 (yielded ops (a.put o1.dst v).tmps) = true := by unfold Region.wanted; rw [gj]
   rw [arr_set h2, c3]
   unfold wpOp
   rw [hj]
   simp only
   rw [hw2, if_pos rfl]
   left
   exact x2
end
theorem wy : type_of% (And.intro (And.intro @vone.eq_1 (And.intro @vall.eq_1 @vall.eq_2)) (And.intro @vpure.eq_1 (And.intro @vfld.eq_1 (And.intro @isFld.eq_1 (And.intro @popped.eq_1 @popped.eq_2))))) := And.intro (And.intro @vone.eq_1 (And.intro @vall.eq_1 @vall.eq_2)) (And.intro @vpure.eq_1 (And.intro @vfld.eq_1 (And.intro @isFld.eq_1 (And.intro @popped.eq_1 @popped.eq_2))))
end Go.Proofs.YtoeblmcibheldaaGreatDoor.V
end
section
namespace Go.Proofs.YtoeblmcibheldaaGreatDoor.V.W
open Go Go.RowKit
theorem newFab1_vc (x : Int) : VC Tryz.prog 123 [.v false (.int .i64) (x)] (· = .v false .bool (decide (x > 64))) := by
 refine VC.of_body hT Tryz.func123 rfl (by kernel_rfl) [(.tmp 2, false, .bool)] (by kernel_rfl) ?_
 show VW _ _ ([.v false (.int .i64) (x), D, D, D, D]) _
 repeat refine VW.seq ?_
 refine VW.regl hT fun K hK => ?_
 simp only [wq, simprocAttr]
 refine hK _ ?_
 clear hK K
 try refine vthen_n ?_
 repeat refine VW.seq ?_
 refine VW.regl hT fun K hK => ?_
 simp only [wq, simprocAttr]
 refine hK _ ?_
 clear hK K
 try refine vthen_n ?_
 exact VW.ret ⟨.inl rfl, _, rfl, rfl⟩
/-- a new fabric can be made -/
def newOk (t : List Nd) (s : List Int) : Bool := fits t s && !s.any fun x => decide (x > 64)
/-- the first i rows of memory -/
def memTo (s : List Int) (i : Nat) : List (List Int) := (s.take i).map fun n => List.replicate n.toNat 0
theorem memTo_succ {s : List Int} {i : Nat} (h : i < s.length) : memTo s (i + 1) = memTo s i ++ [List.replicate (s.getD i 0).toNat 0] := by
 unfold memTo
 rw [List.take_add_one, List.getElem?_eq_getElem h, List.map_append, List.getD_eq_getElem?_getD, List.getElem?_eq_getElem h]
 rfl
theorem memTo_len {s : List Int} {i : Nat} (h : i ≤ s.length) : (memTo s i).length = i := by
 simp [memTo]; omega
def newFab (t : List Nd) (s : List Int) : Fab := (t, s, allBars t s, memTo s s.length, List.replicate s.length true)
abbrev fFab : Fl := .pr .own (.pr .own (.pr .own (.pr .own .own)))
abbrev rFab (fl : Fl) (x : Fab) (b : Bool) : PV := .root (.tup [true, false]) (.pr sFi .bool) (.pr fl .fz) (x, b)
set_option maxRecDepth 20000 in
set_option maxHeartbeats 2000000 in
theorem newFabric_vc (t : List Nd) (s : List Int) (hl : t.length ≤ 2000000) (hs : s.length ≤ 2000000) : VC Tryz.prog 77 [.v false sNS t, .v false sI s] (fun pv => if newOk t s = true then pv = rFab fFab (newFab t s) true else pv = rFab .own ([], [], [], [], []) false) := by
 refine VC.of_body hT Tryz.func77 rfl (by kernel_rfl) [(.cell 4 32, true, sFi), (.tmp 5, false, .bool)] (by kernel_rfl) ?_
 show VW _ _ ([.v false sNS t, .v false sI s, D, D, D, D, D, D, D, D, D, D, D, D, D, D, D, D, D, D, D, D, D, D, D, D, D, D, D, D, D, D, D, D, D, D, D, D, D, D, D, D, D, D, D, D, D, D, D, D, D, D, D, D, D, D, D, D, D, D, D, D, D, D, D, D, D, D]) _
 repeat refine VW.seq ?_
 refine VW.regl hT fun K hK => ?_
 simp only [wq, simprocAttr]
 refine hK _ ?_
 clear hK K
 try refine vthen_n ?_
 repeat refine VW.seq ?_
 refine VW.regl hT fun K hK => ?_
 simp only [wq, simprocAttr]
 refine vcall_of (sizesOk_vc t s hl hs) ?_
 simp only [wq, simprocAttr]
 refine vbr (fun h => ?_) (fun h => ?_) <;> simp only [wq, simprocAttr]
 case refine_2 =>
  refine hK _ ?_
  clear hK K
  try refine vthen_n ?_
  repeat refine VW.seq ?_
  refine VW.cond rfl (fun hc => ?_) (fun hc => ?_)
  ·repeat refine VW.seq ?_
   refine VW.regl hT fun K hK => ?_
   simp only [wq, simprocAttr]
   refine hK _ ?_
   clear hK K
   try refine vthen_n ?_
   have h' : sizesOk t s = false := (Bool.not_eq_true' _).mp h
   refine VW.ret ⟨.inl rfl, _, rfl, ?_⟩
   rw [if_neg (by rw [newOk, fits, h', Bool.false_and, Bool.false_and]; decide)]
  ·cases hc
 have hok0 : sizesOk t s = true := by
  have := h
  rwa [Bool.not_eq_false'] at this
 have hok := (sizesOk_iff.1 hok0).1
 have hsl := (sizesOk_iff.1 hok0).2.1
 have htl := treeOk_len hok
 refine vcall_of (containsI_vc s 123 [] (fun x => decide (x > 64)) rfl newFab1_vc hs) ?_
 simp only [wq, simprocAttr]
 refine hK _ ?_
 clear hK K
 try refine vthen_n ?_
 repeat refine VW.seq ?_
 refine VW.cond rfl (fun hc => ?_) (fun hc => ?_)
 ·repeat refine VW.seq ?_
  refine VW.regl hT fun K hK => ?_
  simp only [wq, simprocAttr]
  refine hK _ ?_
  clear hK K
  try refine vthen_n ?_
  refine VW.ret ⟨.inl rfl, _, rfl, ?_⟩
  rw [if_neg (by rw [newOk, show (s.any fun x => decide (x > 64)) = true from hc]; simp)]
 have h64 : ∀ i, i < s.length → 0 ≤ s.getD i 0 ∧ s.getD i 0 ≤ 64 := fun i hi => by
  have hc : (s.any fun x => decide (x > 64)) = false := hc
  rw [List.any_eq_false] at hc
  have := hc _ (getD_mem hi)
  refine ⟨?_, by simpa using this⟩
  rcases sizes_node hok0 (k := i) (by omega) with h | ⟨h, _⟩
  ·omega
  ·have := pw_in h
   omega
 refine VW.skip (vthen_n ?_)
 repeat refine VW.seq ?_
 refine VW.regl hT fun K hK => ?_
 simp only [wq, simprocAttr]
 refine vcall_ex (enum_vc t hl) ?_
 intro pv hpv
 rw [if_pos hok] at hpv
 obtain ⟨x3, rfl⟩ := hpv
 simp only [wq, simprocAttr]
 refine hK _ ?_
 clear hK K
 try refine vthen_n ?_
 repeat refine VW.seq ?_
 refine VW.regl hT fun K hK => ?_
 simp only [wq, simprocAttr]
 refine vcall_ex (allocate_vc t s hl hs) ?_
 intro pv hpv
 by_cases hf : fits t s = true
 case neg =>
  rw [if_neg hf] at hpv
  obtain ⟨bs, rfl⟩ := hpv
  simp only [wq, simprocAttr]
  refine hK _ ?_
  clear hK K
  try refine vthen_n ?_
  repeat refine VW.seq ?_
  refine VW.regl hT fun K hK => ?_
  simp only [wq, simprocAttr]
  refine hK _ ?_
  clear hK K
  try refine vthen_n ?_
  repeat refine VW.seq ?_
  refine VW.cond rfl (fun hc => ?_) (fun hc => ?_)
  ·repeat refine VW.seq ?_
   refine VW.regl hT fun K hK => ?_
   simp only [wq, simprocAttr]
   refine hK _ ?_
   clear hK K
   try refine vthen_n ?_
   refine VW.ret ⟨.inl rfl, _, rfl, ?_⟩
   rw [if_neg (by rw [newOk, (by simpa using hf : fits t s = false), Bool.false_and]; decide)]
  ·cases hc
 rw [if_pos hf] at hpv
 subst hpv
 simp only [wq, simprocAttr]
 refine hK _ ?_
 clear hK K
 try refine vthen_n ?_
 repeat refine VW.seq ?_
 refine VW.regl hT fun K hK => ?_
 simp only [wq, simprocAttr]
 refine hK _ ?_
 clear hK K
 try refine vthen_n ?_
 repeat refine VW.seq ?_
 refine VW.cond rfl (fun hc => ?_) (fun hc => ?_)
 ·cases hc
 refine VW.skip (vthen_n ?_)
 repeat refine VW.seq ?_
 refine VW.regl hT fun K hK => ?_
 simp only [wq, simprocAttr]
 refine vcall_of (clone_vc t hl) ?_
 simp only [wq, simprocAttr]
 refine vcall_of (cloneI_vc s hs) ?_
 simp only [wq, simprocAttr]
 refine hK _ ?_
 clear hK K
 try refine vthen_n ?_
 repeat refine VW.seq ?_
 refine VW.regl hT fun K hK => ?_
 simp only [wq, simprocAttr]
 refine hK _ ?_
 clear hK K
 try refine vthen_n ?_
 refine VW.retag (ι := Unit) (g := 10) (fun _ => fFab) _ rfl (fun w Z cs B h => ⟨(), h⟩) (fun j => by simp only [wq, simprocAttr]; rfl) (fun _ => ?_)
 repeat refine VW.seq ?_
 refine VW.block ?_
 refine VW.loop (α := Nat) [(0, none), (4, none), (10, none), (46, none), (47, none), (48, none)] (fun i => [.v false sNS t, D, D, D, .root (.box 32) sFi .own ([], [], [], [], []), D, D, D, D, D, .root (.box 32) sFi fFab (t, s, allBars t s, memTo s i, List.replicate i true), D, D, D, D, D, D, D, D, D, D, D, D, D, D, D, D, D, D, D, D, D, D, D, D, D, D, D, D, D, D, D, D, D, D, D, .v false sI s, .v false (.int .i64) ((s.length : Nat)), .v false (.int .i64) ((i : Nat)), D, D, D, D, D, D, D, D, D, D, D, D, D, D, D, D, D, D, D]) (fun i => i ≤ s.length) (fun i => s.length - i) ⟨0, by omega, ?_⟩ fun i hi => ?_
 ·simp only [wn, wq, simprocAttr]
  try rfl
 repeat refine VW.seq ?_
 refine VW.regl hT fun K hK => ?_
 simp only [wq, simprocAttr]
 refine hK _ ?_
 clear hK K
 try refine vthen_n ?_
 repeat refine VW.seq ?_
 refine VW.cond rfl (fun hc => ?_) (fun hc => ?_)
 ·have hlt : i < s.length := by simpa using hc
  have hml := memTo_len (s := s) (i := i) (by omega)
  have h6 := h64 i hlt
  refine VW.skip (vthen_n ?_)
  repeat refine VW.seq ?_
  refine VW.block ?_
  repeat refine VW.seq ?_
  refine VW.regl hT fun K hK => ?_
  simp only [wq, simprocAttr]
  refine ⟨decide_eq_true ⟨Int.natCast_nonneg _, by show (i : Int) < (s.length : Int); omega⟩, ?_⟩
  refine hK _ ?_
  clear hK K
  try refine vthen_n ?_
  generalize hN : s.getD i 0 = N at *
  refine VW.weak (weak_norm [(0, none), (4, none), (10, none), (12, none), (46, none), (47, none), (48, none)] _) ?_
  simp only [wn, wq, simprocAttr]
  have hrep : true :: List.replicate i true = List.replicate i true ++ [true] := by rw [← List.replicate_succ, List.replicate_succ']
  have sc3 : (decide (0 ≤ N) && limOk N.toNat 8) = true := by simp [limOk]; omega
  refine VW.any hT hm fun K hK W hW => ?_
  apply cutl
  intro tK
  apply cutl
  intro t65535
  apply cutl
  intro t32767
  apply cutl
  intro t4095
  apply cutl
  intro t3071
  apply cutl
  intro t2559
  apply cutl
  intro t991
  apply cutl
  intro t767
  apply cutl
  intro t989
  apply cutl
  intro t975
  apply cutl
  intro t735
  apply cutl
  intro t479
  apply cutl
  intro t255
  apply cutl
  intro t973
  apply cutl
  intro t967
  apply cutl
  intro t733
  apply cutl
  intro t719
  apply cutl
  intro t477
  apply cutl
  intro t463
  apply cutl
  intro t223
  apply cutl
  intro t965
  apply cutl
  intro t717
  apply cutl
  intro t711
  apply cutl
  intro t461
  apply cutl
  intro t455
  apply cutl
  intro t221
  apply cutl
  intro t207
  apply cutl
  intro t709
  apply cutl
  intro t453
  apply cutl
  intro t205
  apply cutl
  intro t199
  ·refine hW.takeF 0 0 1 _ (by kernel_rfl) ?_
   simp only [wy, wq, simprocAttr]
   refine hW.take 1 2 5 _ (by kernel_rfl) ?_
   simp only [wy, wq, simprocAttr]
   refine hW.takeF 5 6 69 _ (by kernel_rfl) ?_
   simp only [wy, wq, simprocAttr]
   refine hW.takeF 69 7 197 _ (by kernel_rfl) ?_
   simp only [wy, wq, simprocAttr]
   refine hW.all 197 [(1, 199), (3, 205), (8, 453), (9, 709)] _ (by kernel_rfl) (by simp) ?_
   simp only [wy, wq, simprocAttr]
   refine ⟨?_, ?_, ?_, ?_⟩
   ·exact t199.h
   ·refine ⟨sc3, ?_⟩
    exact t205.h
   ·exact t453.h
   ·exact t709.h
  ·skip
   refine hW.all 199 [(3, 207), (8, 455), (9, 711)] _ (by kernel_rfl) (by simp) ?_
   simp only [wy, wq, simprocAttr]
   refine ⟨?_, ?_, ?_⟩
   ·refine ⟨sc3, ?_⟩
    exact t207.h
   ·exact t455.h
   ·exact t711.h
  ·skip
   refine hW.all 205 [(1, 207), (4, 221), (8, 461), (9, 717)] _ (by kernel_rfl) (by simp) ?_
   simp only [wy, wq, simprocAttr]
   refine ⟨?_, ?_, ?_, ?_⟩
   ·exact t207.h
   ·exact t221.h
   ·exact t461.h
   ·exact t717.h
  ·skip
   refine hW.all 453 [(1, 455), (3, 461), (9, 965)] _ (by kernel_rfl) (by simp) ?_
   simp only [wy, wq, simprocAttr]
   refine ⟨?_, ?_, ?_⟩
   ·exact t455.h
   ·refine ⟨sc3, ?_⟩
    exact t461.h
   ·exact t965.h
  ·skip
   refine hW.all 709 [(1, 711), (3, 717), (8, 965)] _ (by kernel_rfl) (by simp) ?_
   simp only [wy, wq, simprocAttr]
   refine ⟨?_, ?_, ?_⟩
   ·exact t711.h
   ·refine ⟨sc3, ?_⟩
    exact t717.h
   ·exact t965.h
  ·skip
   refine hW.all 207 [(4, 223), (8, 463), (9, 719)] _ (by kernel_rfl) (by simp) ?_
   simp only [wy, wq, simprocAttr]
   refine ⟨?_, ?_, ?_⟩
   ·exact t223.h
   ·exact t463.h
   ·exact t719.h
  ·skip
   refine hW.all 221 [(1, 223), (8, 477), (9, 733)] _ (by kernel_rfl) (by simp) ?_
   simp only [wy, wq, simprocAttr]
   refine ⟨?_, ?_, ?_⟩
   ·exact t223.h
   ·exact t477.h
   ·exact t733.h
  ·skip
   refine hW.all 455 [(3, 463), (9, 967)] _ (by kernel_rfl) (by simp) ?_
   simp only [wy, wq, simprocAttr]
   refine ⟨?_, ?_⟩
   ·refine ⟨sc3, ?_⟩
    exact t463.h
   ·exact t967.h
  ·skip
   refine hW.all 461 [(1, 463), (4, 477), (9, 973)] _ (by kernel_rfl) (by simp) ?_
   simp only [wy, wq, simprocAttr]
   refine ⟨?_, ?_, ?_⟩
   ·exact t463.h
   ·exact t477.h
   ·exact t973.h
  ·skip
   refine hW.all 711 [(3, 719), (8, 967)] _ (by kernel_rfl) (by simp) ?_
   simp only [wy, wq, simprocAttr]
   refine ⟨?_, ?_⟩
   ·refine ⟨sc3, ?_⟩
    exact t719.h
   ·exact t967.h
  ·skip
   refine hW.all 717 [(1, 719), (4, 733), (8, 973)] _ (by kernel_rfl) (by simp) ?_
   simp only [wy, wq, simprocAttr]
   refine ⟨?_, ?_, ?_⟩
   ·exact t719.h
   ·exact t733.h
   ·exact t973.h
  ·skip
   refine hW.all 965 [(1, 967), (3, 973)] _ (by kernel_rfl) (by simp) ?_
   simp only [wy, wq, simprocAttr]
   refine ⟨?_, ?_⟩
   ·exact t967.h
   ·refine ⟨sc3, ?_⟩
    exact t973.h
  ·skip
   refine hW.all 223 [(5, 255), (8, 479), (9, 735)] _ (by kernel_rfl) (by simp) ?_
   simp only [wy, wq, simprocAttr]
   refine ⟨?_, ?_, ?_⟩
   ·refine ⟨by simp [limOk, hml]; omega, ?_⟩
    exact t255.h
   ·exact t479.h
   ·exact t735.h
  ·skip
   refine hW.all 463 [(4, 479), (9, 975)] _ (by kernel_rfl) (by simp) ?_
   simp only [wy, wq, simprocAttr]
   refine ⟨?_, ?_⟩
   ·exact t479.h
   ·exact t975.h
  ·skip
   refine hW.all 477 [(1, 479), (9, 989)] _ (by kernel_rfl) (by simp) ?_
   simp only [wy, wq, simprocAttr]
   refine ⟨?_, ?_⟩
   ·exact t479.h
   ·exact t989.h
  ·skip
   refine hW.all 719 [(4, 735), (8, 975)] _ (by kernel_rfl) (by simp) ?_
   simp only [wy, wq, simprocAttr]
   refine ⟨?_, ?_⟩
   ·exact t735.h
   ·exact t975.h
  ·skip
   refine hW.all 733 [(1, 735), (8, 989)] _ (by kernel_rfl) (by simp) ?_
   simp only [wy, wq, simprocAttr]
   refine ⟨?_, ?_⟩
   ·exact t735.h
   ·exact t989.h
  ·skip
   refine hW.all 967 [(3, 975)] _ (by kernel_rfl) (by simp) ?_
   simp only [wy, wq, simprocAttr]
   skip
   refine ⟨sc3, ?_⟩
   exact t975.h
  ·skip
   refine hW.all 973 [(1, 975), (4, 989)] _ (by kernel_rfl) (by simp) ?_
   simp only [wy, wq, simprocAttr]
   refine ⟨?_, ?_⟩
   ·exact t975.h
   ·exact t989.h
  ·skip
   refine hW.all 255 [(8, 511), (9, 767)] _ (by kernel_rfl) (by simp) ?_
   simp only [wy, wq, simprocAttr]
   refine ⟨?_, ?_⟩
   ·refine hW.takeF 511 11 2559 _ (by kernel_rfl) ?_
    simp only [wy, wq, simprocAttr]
    exact t2559.h
   ·exact t767.h
  ·skip
   refine hW.all 479 [(5, 511), (9, 991)] _ (by kernel_rfl) (by simp) ?_
   simp only [wy, wq, simprocAttr]
   refine ⟨?_, ?_⟩
   ·refine ⟨by simp [limOk, hml]; omega, ?_⟩
    refine hW.takeF 511 11 2559 _ (by kernel_rfl) ?_
    simp only [wy, wq, simprocAttr]
    exact t2559.h
   ·exact t991.h
  ·skip
   refine hW.all 735 [(5, 767), (8, 991)] _ (by kernel_rfl) (by simp) ?_
   simp only [wy, wq, simprocAttr]
   refine ⟨?_, ?_⟩
   ·refine ⟨by simp [limOk, hml]; omega, ?_⟩
    exact t767.h
   ·exact t991.h
  ·skip
   refine hW.all 975 [(4, 991)] _ (by kernel_rfl) (by simp) ?_
   simp only [wy, wq, simprocAttr]
   skip
   exact t991.h
  ·skip
   refine hW.all 989 [(1, 991)] _ (by kernel_rfl) (by simp) ?_
   simp only [wy, wq, simprocAttr]
   skip
   exact t991.h
  ·skip
   refine hW.all 767 [(8, 1023)] _ (by kernel_rfl) (by simp) ?_
   simp only [wy, wq, simprocAttr]
   skip
   refine hW.takeF 1023 11 3071 _ (by kernel_rfl) ?_
   simp only [wy, wq, simprocAttr]
   exact t3071.h
  ·skip
   refine hW.all 991 [(5, 1023)] _ (by kernel_rfl) (by simp) ?_
   simp only [wy, wq, simprocAttr]
   skip
   refine ⟨by simp [limOk, hml]; omega, ?_⟩
   refine hW.takeF 1023 11 3071 _ (by kernel_rfl) ?_
   simp only [wy, wq, simprocAttr]
   exact t3071.h
  ·skip
   refine hW.all 2559 [(9, 3071)] _ (by kernel_rfl) (by simp) ?_
   simp only [wy, wq, simprocAttr]
   skip
   exact t3071.h
  ·skip
   refine hW.all 3071 [(10, 4095)] _ (by kernel_rfl) (by simp) ?_
   simp only [wy, wq, simprocAttr]
   skip
   refine ⟨by simp [limOk, hml]; omega, ?_⟩
   exact t4095.h
  ·skip
   refine hW.all 4095 [(12, 8191)] _ (by kernel_rfl) (by simp) ?_
   simp only [wy, wq, simprocAttr]
   skip
   refine hW.takeF 8191 13 16383 _ (by kernel_rfl) ?_
   simp only [wy, wq, simprocAttr]
   refine hW.takeF 16383 14 32767 _ (by kernel_rfl) ?_
   simp only [wy, wq, simprocAttr]
   exact t32767.h
  ·skip
   refine hW.all 32767 [(15, 65535)] _ (by kernel_rfl) (by simp) ?_
   simp only [wy, wq, simprocAttr]
   skip
   exact t65535.h
  ·skip
   refine hW.done 65535 _ (by kernel_rfl) ?_
   exact tK.h
  ·refine hK _ ?_
   show vthen _ _ _ .normal _
   refine vthen_n ?_
   repeat refine VW.seq ?_
   refine VW.regl hT fun K hK => ?_
   simp only [wq, simprocAttr]
   refine hK _ ?_
   clear hK K
   try refine vthen_n ?_
   refine ⟨i + 1, hlt, ?_, by show s.length - (i + 1) < s.length - i; omega⟩
   simp only [wn, wq, simprocAttr]
   rw [wrap64 (by omega) (by omega), memTo_succ hlt, hN, hrep]
   rfl
 ·have hge : i = s.length := by
   have : s.length ≤ i := by simpa using hc
   omega
  subst hge
  refine VW.exit ?_
  show vthen _ _ _ .normal _
  refine vthen_n ?_
  repeat refine VW.seq ?_
  refine VW.regl hT fun K hK => ?_
  simp only [wq, simprocAttr]
  refine hK _ ?_
  clear hK K
  try refine vthen_n ?_
  refine VW.ret ⟨.inl rfl, _, rfl, ?_⟩
  have hn : newOk t s = true := by
   rw [newOk, hf, Bool.true_and, Bool.not_eq_true', List.any_eq_false]
   intro x hx
   obtain ⟨j, h1, h2⟩ := List.getElem_of_mem hx
   have := h64 j h1
   rw [List.getD_eq_getElem?_getD, List.getElem?_eq_getElem h1] at this
   have : s[j] ≤ 64 := this.2
   rw [h2] at this
   simpa using this
  rw [if_pos hn]
  rfl
end Go.Proofs.YtoeblmcibheldaaGreatDoor.V.W
end
section
namespace Go.Proofs.YtoeblmcibheldaaGreatDoor.V.W
open Go Go.RowKit
set_option maxRecDepth 20000 in
set_option maxHeartbeats 2000000 in
theorem specNew_vc (t : List Nd) (s : List Int) (hl : t.length ≤ 2000000) (hs : s.length ≤ 2000000) : VC Tryz.prog 73 [.v false sNS t, .v false sI s] (fun pv => if newOk t s = true then pv = rFab fFab (newFab t s) true else pv = rFab .own ([], [], [], [], []) false) := by
 refine VC.of_body hT Tryz.func73 rfl (by kernel_rfl) [(.cell 4 32, true, sFi), (.tmp 5, false, .bool)] (by kernel_rfl) ?_
 show VW _ _ ([.v false sNS t, .v false sI s, D, D, D, D, D, D, D, D, D, D, D, D, D, D, D, D, D, D, D, D, D, D, D, D, D, D, D, D, D, D, D, D, D, D, D, D, D, D, D, D, D, D, D, D, D, D, D, D, D, D, D, D, D, D, D, D, D, D, D, D, D, D, D, D, D, D]) _
 repeat refine VW.seq ?_
 refine VW.regl hT fun K hK => ?_
 simp only [wq, simprocAttr]
 refine hK _ ?_
 clear hK K
 try refine vthen_n ?_
 repeat refine VW.seq ?_
 refine VW.regl hT fun K hK => ?_
 simp only [wq, simprocAttr]
 refine vcall_ex (specAllocate_vc t s hl hs) ?_
 intro pv hpv
 by_cases hf : fits t s = true
 case neg =>
  have hno : newOk t s = false := by rw [newOk, (by simpa using hf : fits t s = false), Bool.false_and]
  rw [if_neg hf] at hpv
  obtain ⟨bs, rfl⟩ := hpv
  simp only [wq, simprocAttr]
  refine hK _ ?_
  clear hK K
  try refine vthen_n ?_
  repeat refine VW.seq ?_
  refine VW.regl hT fun K hK => ?_
  simp only [wq, simprocAttr]
  refine vcall_ex (specEnum_vc t hl) ?_
  intro pv hpv
  by_cases hok : treeOk t = true
  ·rw [if_pos hok] at hpv
   obtain ⟨x3, rfl⟩ := hpv
   simp only [wq, simprocAttr]
   refine hK _ ?_
   clear hK K
   try refine vthen_n ?_
   repeat refine VW.seq ?_
   refine VW.regl hT fun K hK => ?_
   simp only [wq, simprocAttr]
   refine hK _ ?_
   clear hK K
   try refine vthen_n ?_
   repeat refine VW.seq ?_
   refine VW.cond rfl (fun hc => ?_) (fun hc => ?_)
   ·repeat refine VW.seq ?_
    refine VW.regl hT fun K hK => ?_
    simp only [wq, simprocAttr]
    refine hK _ ?_
    clear hK K
    try refine vthen_n ?_
    refine VW.ret ⟨.inl rfl, _, rfl, ?_⟩
    rw [if_neg (by rw [hno]; decide)]
   ·cases hc
  ·rw [if_neg hok] at hpv
   subst hpv
   simp only [wq, simprocAttr]
   refine hK _ ?_
   clear hK K
   try refine vthen_n ?_
   repeat refine VW.seq ?_
   refine VW.regl hT fun K hK => ?_
   simp only [wq, simprocAttr]
   refine hK _ ?_
   clear hK K
   try refine vthen_n ?_
   repeat refine VW.seq ?_
   refine VW.cond rfl (fun hc => ?_) (fun hc => ?_)
   ·repeat refine VW.seq ?_
    refine VW.regl hT fun K hK => ?_
    simp only [wq, simprocAttr]
    refine hK _ ?_
    clear hK K
    try refine vthen_n ?_
    refine VW.ret ⟨.inl rfl, _, rfl, ?_⟩
    rw [if_neg (by rw [hno]; decide)]
   ·cases hc
 rw [if_pos hf] at hpv
 subst hpv
 simp only [wq, simprocAttr]
 refine hK _ ?_
 clear hK K
 try refine vthen_n ?_
 have hok0 : sizesOk t s = true := by
  have := hf
  rw [fits, Bool.and_eq_true] at this
  exact this.1
 have hok := (sizesOk_iff.1 hok0).1
 have hsl := (sizesOk_iff.1 hok0).2.1
 have htl := treeOk_len hok
 have hpos : ∀ i, i < s.length → 0 ≤ s.getD i 0 := fun i hi => by
  rcases sizes_node hok0 (k := i) (by omega) with h | ⟨h, _⟩
  ·omega
  ·have := pw_in h
   omega
 repeat refine VW.seq ?_
 refine VW.regl hT fun K hK => ?_
 simp only [wq, simprocAttr]
 refine vcall_ex (specEnum_vc t hl) ?_
 intro pv hpv
 rw [if_pos hok] at hpv
 obtain ⟨x3, rfl⟩ := hpv
 simp only [wq, simprocAttr]
 refine hK _ ?_
 clear hK K
 try refine vthen_n ?_
 repeat refine VW.seq ?_
 refine VW.regl hT fun K hK => ?_
 simp only [wq, simprocAttr]
 refine hK _ ?_
 clear hK K
 try refine vthen_n ?_
 repeat refine VW.seq ?_
 refine VW.cond rfl (fun hc => ?_) (fun hc => ?_)
 ·cases hc
 refine VW.skip (vthen_n ?_)
 repeat refine VW.seq ?_
 refine VW.regl hT fun K hK => ?_
 simp only [wq, simprocAttr]
 refine ⟨by simp [limOk]; omega, by simp [limOk]; omega, ?_⟩
 refine hK _ ?_
 clear hK K
 try refine vthen_n ?_
 repeat refine VW.seq ?_
 refine VW.regl hT fun K hK => ?_
 simp only [wq, simprocAttr]
 refine hK _ ?_
 clear hK K
 try refine vthen_n ?_
 refine VW.retag (ι := Unit) (g := 10) (fun _ => fFab) _ rfl (fun w Z cs B h => ⟨(), h⟩) (fun j => by simp only [wq, simprocAttr]; rfl) (fun _ => ?_)
 repeat refine VW.seq ?_
 refine VW.block ?_
 refine VW.loop (α := Nat) [(0, none), (1, none), (4, none), (10, none), (11, none)] (fun i => [.v false sNS t, .v false sI s, D, D, .root (.box 32) sFi .own ([], [], [], [], []), D, D, D, D, D, .root (.box 32) sFi fFab (t, s, allBars t s, memTo s i, List.replicate i true), .v false (.int .i64) ((i : Nat)), D, D, D, D, D, D, D, D, D, D, D, D, D, D, D, D, D, D, D, D, D, D, D, D, D, D, D, D, D, D, D, D, D, D, D, D, D, D, D, D, D, D, D, D, D, D, D, D, D, D, D, D, D, D, D, D]) (fun i => i ≤ s.length ∧ ∀ j, j < i → s.getD j 0 ≤ 64) (fun i => s.length - i) ⟨0, ⟨by omega, fun j h => by omega⟩, ?_⟩ fun i ⟨hi, hle⟩ => ?_
 ·simp only [wn, wq, simprocAttr]
  try rfl
 repeat refine VW.seq ?_
 refine VW.regl hT fun K hK => ?_
 simp only [wq, simprocAttr]
 refine hK _ ?_
 clear hK K
 try refine vthen_n ?_
 repeat refine VW.seq ?_
 refine VW.cond rfl (fun hc => ?_) (fun hc => ?_)
 ·have hlt : i < s.length := by
   have : (i : Int) < (t.length : Int) := of_decide_eq_true hc
   omega
  have hml := memTo_len (s := s) (i := i) (by omega)
  have h6 := hpos i hlt
  have hiS : decide (0 ≤ (i : Int) ∧ (i : Int) < (s.length : Int)) = true := decide_eq_true ⟨Int.natCast_nonneg _, by omega⟩
  refine VW.skip (vthen_n ?_)
  repeat refine VW.seq ?_
  refine VW.block ?_
  repeat refine VW.seq ?_
  refine VW.regl hT fun K hK => ?_
  simp only [wq, simprocAttr]
  refine ⟨hiS, ?_⟩
  refine hK _ ?_
  clear hK K
  try refine vthen_n ?_
  repeat refine VW.seq ?_
  refine VW.cond rfl (fun hc => ?_) (fun hc => ?_)
  ·have hc : s.getD i 0 > 64 := of_decide_eq_true hc
   have hno : newOk t s = false := by
    rw [newOk, hf, Bool.true_and, Bool.not_eq_false', List.any_eq_true]
    exact ⟨_, getD_mem hlt, decide_eq_true hc⟩
   repeat refine VW.seq ?_
   refine VW.regl hT fun K hK => ?_
   simp only [wq, simprocAttr]
   refine hK _ ?_
   clear hK K
   try refine vthen_n ?_
   refine VW.ret ⟨.inl rfl, _, rfl, ?_⟩
   rw [if_neg (by rw [hno]; decide)]
  have h7 : ¬ s.getD i 0 > 64 := of_decide_eq_false hc
  refine VW.skip (vthen_n ?_)
  refine VW.weak (weak_norm [(0, none), (1, none), (4, none), (10, none), (11, none)] _) ?_
  simp only [wn, wq, simprocAttr]
  repeat refine VW.seq ?_
  have hrep : true :: List.replicate i true = List.replicate i true ++ [true] := by rw [← List.replicate_succ, List.replicate_succ']
  have sc3 : (decide (0 ≤ s.getD i 0) && limOk (Int.toNat (s.getD i 0)) 8) = true := by
   generalize s.getD i 0 = N at *
   simp [limOk]; omega
  refine VW.any hT hm fun K hK W hW => ?_
  apply cutl
  intro tK
  apply cutl
  intro t2047
  apply cutl
  intro t1023
  apply cutl
  intro t255
  apply cutl
  intro t253
  apply cutl
  intro t127
  apply cutl
  intro t125
  apply cutl
  intro t63
  apply cutl
  intro t61
  apply cutl
  intro t31
  apply cutl
  intro t29
  apply cutl
  intro t15
  ·refine hW.takeF 0 0 1 _ (by kernel_rfl) ?_
   simp only [wy, wq, simprocAttr]
   refine hW.take 1 2 5 _ (by kernel_rfl) ?_
   simp only [wy, wq, simprocAttr]
   refine hW.take 5 3 13 _ (by kernel_rfl) ?_
   simp only [wy, wq, simprocAttr]
   refine hW.all 13 [(1, 15), (4, 29)] _ (by kernel_rfl) (by simp) ?_
   simp only [wy, wq, simprocAttr]
   refine ⟨?_, ?_⟩
   ·exact t15.h
   ·refine ⟨hiS, ?_⟩
    exact t29.h
  ·skip
   refine hW.all 15 [(4, 31)] _ (by kernel_rfl) (by simp) ?_
   simp only [wy, wq, simprocAttr]
   skip
   refine ⟨hiS, ?_⟩
   exact t31.h
  ·skip
   refine hW.all 29 [(1, 31), (5, 61)] _ (by kernel_rfl) (by simp) ?_
   simp only [wy, wq, simprocAttr]
   refine ⟨?_, ?_⟩
   ·exact t31.h
   ·exact t61.h
  ·skip
   refine hW.all 31 [(5, 63)] _ (by kernel_rfl) (by simp) ?_
   simp only [wy, wq, simprocAttr]
   skip
   exact t63.h
  ·skip
   refine hW.all 61 [(1, 63), (6, 125)] _ (by kernel_rfl) (by simp) ?_
   simp only [wy, wq, simprocAttr]
   refine ⟨?_, ?_⟩
   ·exact t63.h
   ·refine ⟨sc3, ?_⟩
    exact t125.h
  ·skip
   refine hW.all 63 [(6, 127)] _ (by kernel_rfl) (by simp) ?_
   simp only [wy, wq, simprocAttr]
   skip
   refine ⟨sc3, ?_⟩
   exact t127.h
  ·skip
   refine hW.all 125 [(1, 127), (7, 253)] _ (by kernel_rfl) (by simp) ?_
   simp only [wy, wq, simprocAttr]
   refine ⟨?_, ?_⟩
   ·exact t127.h
   ·exact t253.h
  ·skip
   refine hW.all 127 [(7, 255)] _ (by kernel_rfl) (by simp) ?_
   simp only [wy, wq, simprocAttr]
   skip
   exact t255.h
  ·skip
   refine hW.all 253 [(1, 255)] _ (by kernel_rfl) (by simp) ?_
   simp only [wy, wq, simprocAttr]
   skip
   exact t255.h
  ·skip
   refine hW.all 255 [(8, 511)] _ (by kernel_rfl) (by simp) ?_
   simp only [wy, wq, simprocAttr]
   skip
   refine ⟨by simp [limOk, hml]; omega, ?_⟩
   refine hW.takeF 511 9 1023 _ (by kernel_rfl) ?_
   simp only [wy, wq, simprocAttr]
   exact t1023.h
  ·skip
   refine hW.all 1023 [(10, 2047)] _ (by kernel_rfl) (by simp) ?_
   simp only [wy, wq, simprocAttr]
   skip
   exact t2047.h
  ·skip
   refine hW.done 2047 _ (by kernel_rfl) ?_
   exact tK.h
  ·refine hK _ ?_
   show vthen _ _ _ .normal _
   refine vthen_n ?_
   repeat refine VW.seq ?_
   refine VW.regl hT fun K hK => ?_
   simp only [wq, simprocAttr]
   refine ⟨by simp [limOk]; omega, ?_⟩
   refine hK _ ?_
   clear hK K
   try refine vthen_n ?_
   show vthen _ _ _ .normal _
   refine vthen_n ?_
   repeat refine VW.seq ?_
   refine VW.regl hT fun K hK => ?_
   simp only [wq, simprocAttr]
   refine hK _ ?_
   clear hK K
   try refine vthen_n ?_
   refine ⟨i + 1, ⟨hlt, fun j h => ?_⟩, ?_, by show s.length - (i + 1) < s.length - i; omega⟩
   ·rcases Nat.lt_or_ge j i with h1 | h1
    ·exact hle j h1
    ·obtain rfl : j = i := by omega
     omega
   simp only [wn, wq, simprocAttr]
   rw [wrap64 (by omega) (by omega), memTo_succ hlt, hrep]
   rfl
 ·have hge : i = s.length := by
   have : ¬ (i : Int) < (t.length : Int) := of_decide_eq_false hc
   omega
  subst hge
  refine VW.exit ?_
  show vthen _ _ _ .normal _
  refine vthen_n ?_
  repeat refine VW.seq ?_
  refine VW.regl hT fun K hK => ?_
  simp only [wq, simprocAttr]
  refine hK _ ?_
  clear hK K
  try refine vthen_n ?_
  refine VW.ret ⟨.inl rfl, _, rfl, ?_⟩
  have hn : newOk t s = true := by
   rw [newOk, hf, Bool.true_and, Bool.not_eq_true', List.any_eq_false]
   intro x hx
   obtain ⟨j, h1, h2⟩ := List.getElem_of_mem hx
   have := hle j h1
   rw [List.getD_eq_getElem?_getD, List.getElem?_eq_getElem h1] at this
   have : s[j] ≤ 64 := this
   rw [h2] at this
   simpa using this
  rw [if_pos hn]
  rfl
end Go.Proofs.YtoeblmcibheldaaGreatDoor.V.W
end
section
namespace Go.Proofs.YtoeblmcibheldaaGreatDoor.V.W
open Go Go.RowKit
def words (xs : List Int) : Bool := !xs.any fun x => !inB x 0 65535
theorem isWord_vc (x : Int) : VC Tryz.prog 127 [.v false (.int .i64) (x)] (· = .v false .bool (inB x 0 65535)) := by
 refine VC.of_body hT Tryz.func127 rfl (by kernel_rfl) [(.tmp 2, false, .bool)] (by kernel_rfl) ?_
 show VW _ _ ([.v false (.int .i64) (x), D, D, D, D]) _
 repeat refine VW.seq ?_
 refine VW.regl hT fun K hK => ?_
 simp only [wq, simprocAttr]
 refine hK _ ?_
 clear hK K
 try refine vthen_n ?_
 repeat refine VW.seq ?_
 refine VW.regl hT fun K hK => ?_
 simp only [wq, simprocAttr]
 refine vcall_of (within_vc x 0 65535) ?_
 simp only [wq, simprocAttr]
 refine hK _ ?_
 clear hK K
 try refine vthen_n ?_
 exact VW.ret ⟨.inl rfl, _, rfl, rfl⟩
theorem areWords1_vc (x : Int) : VC Tryz.prog 126 [.v false (.int .i64) (x)] (· = .v false .bool (!inB x 0 65535)) := by
 refine VC.of_body hT Tryz.func126 rfl (by kernel_rfl) [(.tmp 2, false, .bool)] (by kernel_rfl) ?_
 show VW _ _ ([.v false (.int .i64) (x), D, D, D, D, D]) _
 repeat refine VW.seq ?_
 refine VW.regl hT fun K hK => ?_
 simp only [wq, simprocAttr]
 refine hK _ ?_
 clear hK K
 try refine vthen_n ?_
 repeat refine VW.seq ?_
 refine VW.regl hT fun K hK => ?_
 simp only [wq, simprocAttr]
 refine vcall_of (isWord_vc x) ?_
 simp only [wq, simprocAttr]
 refine hK _ ?_
 clear hK K
 try refine vthen_n ?_
 exact VW.ret ⟨.inl rfl, _, rfl, rfl⟩
theorem areWords_vc (xs : List Int) (hl : xs.length ≤ 2000000) : VC Tryz.prog 79 [.v false sI xs] (· = .v false .bool (words xs)) := by
 refine VC.of_body hT Tryz.func79 rfl (by kernel_rfl) [(.tmp 2, false, .bool)] (by kernel_rfl) ?_
 show VW _ _ ([.v false sI xs, D, D, D, D, D]) _
 repeat refine VW.seq ?_
 refine VW.regl hT fun K hK => ?_
 simp only [wq, simprocAttr]
 refine hK _ ?_
 clear hK K
 try refine vthen_n ?_
 repeat refine VW.seq ?_
 refine VW.regl hT fun K hK => ?_
 simp only [wq, simprocAttr]
 refine vcall_of (containsI_vc xs 126 [] (fun x => !inB x 0 65535) rfl areWords1_vc hl) ?_
 simp only [wq, simprocAttr]
 refine hK _ ?_
 clear hK K
 try refine vthen_n ?_
 exact VW.ret ⟨.inl rfl, _, rfl, rfl⟩
def guardOk (t : List Nd) (g : List Bool) : Bool := treeOk t && ((g.length == t.length) && g.getD 0 false)
theorem guardOk_vc (t : List Nd) (g : List Bool) (hl : t.length ≤ 2000000) : VC Tryz.prog 33 [.v false sNS t, .v true sG g] (· = .v false .bool (guardOk t g)) := by
 refine VC.of_body hT Tryz.func33 rfl (by kernel_rfl) [(.tmp 4, false, .bool)] (by kernel_rfl) ?_
 show VW _ _ ([.v false sNS t, .v true sG g, D, D, D, D, D, D, D, D, D, D, D, D, D, D, D, D, D, D, D]) _
 repeat refine VW.seq ?_
 refine VW.regl hT fun K hK => ?_
 simp only [wq, Nat.reduceMul, reduceCtorEq, Nat.reduceBEq, Nat.reduceAdd, Nat.reduceLT, Nat.reduceLeDiff, Nat.reduceSub, Nat.reduceEqDiff]
 refine hK _ ?_
 clear hK K
 try refine vthen_n ?_
 repeat refine VW.seq ?_
 refine VW.regl hT fun K hK => ?_
 simp only [wq, Nat.reduceMul, reduceCtorEq, Nat.reduceBEq, Nat.reduceAdd, Nat.reduceLT, Nat.reduceLeDiff, Nat.reduceSub, Nat.reduceEqDiff]
 refine vcall_of (treeOk_vc t hl) ?_
 simp only [wq, Nat.reduceMul, reduceCtorEq, Nat.reduceBEq, Nat.reduceAdd, Nat.reduceLT, Nat.reduceLeDiff, Nat.reduceSub, Nat.reduceEqDiff]
 refine vbr (fun h => ?_) (fun h => ?_) <;> simp only [wq, Nat.reduceMul, reduceCtorEq, Nat.reduceBEq, Nat.reduceAdd, Nat.reduceLT, Nat.reduceLeDiff, Nat.reduceSub, Nat.reduceEqDiff]
 case refine_2 =>
  refine hK _ ?_
  clear hK K
  try refine vthen_n ?_
  refine VW.ret ⟨.inl rfl, _, rfl, ?_⟩
  have h : treeOk t = false := h
  rw [guardOk, h]
  try rfl
 have h : treeOk t = true := h
 have htl := treeOk_len h
 refine vbr (fun h2 => ?_) (fun h2 => ?_) <;> simp only [wq, Nat.reduceMul, reduceCtorEq, Nat.reduceBEq, Nat.reduceAdd, Nat.reduceLT, Nat.reduceLeDiff, Nat.reduceSub, Nat.reduceEqDiff]
 case refine_2 =>
  refine hK _ ?_
  clear hK K
  try refine vthen_n ?_
  refine VW.ret ⟨.inl rfl, _, rfl, ?_⟩
  have h2 : ((g.length : Int) == (t.length : Int)) = false := h2
  rw [guardOk, h, ← lenEq, h2]
  try rfl
 have h2 : ((g.length : Int) == (t.length : Int)) = true := h2
 have h3 : (g.length : Int) = (t.length : Int) := by simpa using h2
 refine ⟨decide_eq_true ⟨by decide, by show (0 : Int) < (g.length : Int); omega⟩, ?_⟩
 refine hK _ ?_
 clear hK K
 try refine vthen_n ?_
 refine VW.ret ⟨.inl rfl, _, rfl, ?_⟩
 rw [guardOk, h, ← lenEq, h2]
 try rfl
end Go.Proofs.YtoeblmcibheldaaGreatDoor.V.W
end
section
namespace Go.Proofs.YtoeblmcibheldaaGreatDoor.V.W
open Go Go.RowKit
theorem path_mem {t : List Nd} {k x : Int} (h : isNd t k = true) (hx : x ∈ pathTo t k) : 0 ≤ x ∧ x < t.length := by
 have hok : treeOk t = true := by
  rw [isNd, Bool.and_eq_true] at h
  exact h.1
 have hk := inB_iff.1 (by rw [isNd, Bool.and_eq_true] at h; exact h.2 : inB k 0 (t.length - 1) = true)
 rw [pathTo, if_pos (show (treeOk t && inB k 0 (t.length - 1)) = true from h), List.mem_reverse, List.mem_filter] at hx
 obtain ⟨h1, h2⟩ := hx
 obtain ⟨j, _, rfl⟩ := List.mem_map.1 h1
 have := anc_lt hok (k := k) (by omega) j (by omega)
 exact ⟨by simpa using h2, this.2.1⟩
theorem between_mem {t : List Nd} {a b x : Int} (hx : x ∈ between t a b) : 0 ≤ x ∧ x < t.length := by
 rw [between] at hx
 split at hx
 ·rename_i h
  rw [Bool.and_eq_true] at h
  rcases List.mem_append.1 hx with hx | hx
  ·exact path_mem h.1 (List.mem_of_mem_drop (List.mem_reverse.1 hx))
  ·exact path_mem h.2 (List.mem_of_mem_drop hx)
 ·cases hx
theorem between_len (t : List Nd) (a b : Int) : (between t a b).length ≤ 24 := by
 rw [between]
 split
 ·rename_i h
  rw [Bool.and_eq_true] at h
  have h1 := path_head h.1
  have h2 := path_head h.2
  rw [List.length_append, List.length_reverse, List.length_drop, List.length_drop]
  omega
 ·simp
/-- the lower of two neighbours on a path -/
def lowAt (t : List Nd) (p : List Int) (i : Nat) : Int := if (t.getD (p.getD (i - 1) 0).toNat z).1 == p.getD i 0 then p.getD (i - 1) 0 else p.getD i 0
def passes (t : List Nd) (g : List Bool) (p : List Int) : Bool := (List.range p.length).all fun i => i == 0 || g.getD (lowAt t p i).toNat false
def canReach (t : List Nd) (g : List Bool) (a b : Int) : Bool := guardOk t g && (!((between t a b).length == 0) && passes t g (between t a b))
set_option maxRecDepth 20000 in
set_option maxHeartbeats 1000000 in
theorem canReach_vc (t : List Nd) (g : List Bool) (a b : Int) (hl : t.length ≤ 2000000) : VC Tryz.prog 34 [.v false sNS t, .v true sG g, .v false (.int .i64) (a), .v false (.int .i64) (b)] (· = .v false .bool (canReach t g a b)) := by
 refine VC.of_body hT Tryz.func34 rfl (by kernel_rfl) [(.tmp 8, false, .bool)] (by kernel_rfl) ?_
 show VW _ _ ([.v false sNS t, .v true sG g, .v false (.int .i64) (a), .v false (.int .i64) (b), D, D, D, D, D, D, D, D, D, D, D, D, D, D, D, D, D, D, D, D, D, D, D, D, D, D, D, D, D, D, D, D, D, D, D, D, D, D, D, D, D, D, D, D, D, D, D, D, D, D, D, D, D, D, D, D]) _
 have hmem := fun x (hx : x ∈ between t a b) => between_mem hx
 have hpl := between_len t a b
 rw [canReach]
 repeat refine VW.seq ?_
 refine VW.regl hT fun K hK => ?_
 simp only [wq, simprocAttr]
 refine hK _ ?_
 clear hK K
 try refine vthen_n ?_
 repeat refine VW.seq ?_
 refine VW.regl hT fun K hK => ?_
 simp only [wq, simprocAttr]
 refine vcall_of (between_vc t a b hl) ?_
 simp only [wq, simprocAttr]
 refine hK _ ?_
 clear hK K
 try refine vthen_n ?_
 generalize between t a b = p at *
 repeat refine VW.seq ?_
 refine VW.regl hT fun K hK => ?_
 simp only [wq, simprocAttr]
 refine vcall_of (guardOk_vc t g hl) ?_
 simp only [wq, simprocAttr]
 refine vbr (fun h => ?_) (fun h => ?_) <;> simp only [wq, simprocAttr]
 case refine_2 =>
  have h : guardOk t g = false := (Bool.not_eq_true' _).mp h
  refine hK _ ?_
  clear hK K
  try refine vthen_n ?_
  repeat refine VW.seq ?_
  refine VW.cond rfl (fun hc => ?_) (fun hc => ?_)
  ·repeat refine VW.seq ?_
   refine VW.regl hT fun K hK => ?_
   simp only [wq, simprocAttr]
   refine hK _ ?_
   clear hK K
   try refine vthen_n ?_
   refine VW.ret ⟨.inl rfl, _, rfl, ?_⟩
   rw [h]
   rfl
  ·cases hc
 have hg : guardOk t g = true := by
  have := h
  rwa [Bool.not_eq_false'] at this
 have hg2 := hg
 rw [guardOk, Bool.and_eq_true, Bool.and_eq_true, beq_iff_eq] at hg2
 obtain ⟨hok, hgl, _⟩ := hg2
 refine hK _ ?_
 clear hK K
 try refine vthen_n ?_
 repeat refine VW.seq ?_
 refine VW.cond rfl (fun hc => ?_) (fun hc => ?_)
 ·have hc : ((p.length : Int) == 0) = true := hc
  have h0 : p.length = 0 := by
   have : (p.length : Int) = 0 := by simpa using hc
   omega
  repeat refine VW.seq ?_
  refine VW.regl hT fun K hK => ?_
  simp only [wq, simprocAttr]
  refine hK _ ?_
  clear hK K
  try refine vthen_n ?_
  refine VW.ret ⟨.inl rfl, _, rfl, ?_⟩
  rw [h0, hg]
  rfl
 have h0 : (!(p.length == 0)) = true := by
  have hc : ((p.length : Int) == 0) = false := hc
  have : ¬ (p.length : Int) = 0 := by simpa using hc
  have : p.length ≠ 0 := by omega
  simpa using this
 rw [hg, h0, Bool.true_and, Bool.true_and]
 refine VW.skip (vthen_n ?_)
 repeat refine VW.seq ?_
 refine VW.regl hT fun K hK => ?_
 simp only [wq, simprocAttr]
 refine hK _ ?_
 clear hK K
 try refine vthen_n ?_
 repeat refine VW.seq ?_
 refine VW.block ?_
 refine VW.loop (α := Nat) [(0, none), (5, none), (9, none), (10, none)] (fun i => [.v false sNS t, D, D, D, D, .root (.box 30) sG .fz g, D, D, D, .root (.val false) sI .own p, .v false (.int .i64) ((i : Nat)), D, D, D, D, D, D, D, D, D, D, D, D, D, D, D, D, D, D, D, D, D, D, D, D, D, D, D, D, D, D, D, D, D, D, D, D, D, D, D, D, D, D, D, D, D, D, D, D, D]) (fun i => 1 ≤ i ∧ i ≤ p.length ∧ ∀ j, j < i → (j == 0 || g.getD (lowAt t p j).toNat false) = true) (fun i => p.length - i) ⟨1, ⟨by omega, ?_, fun j h => ?_⟩, ?_⟩ fun i ⟨hi1, hi, hj⟩ => ?_
 ·have : p.length ≠ 0 := by simpa using h0
  omega
 ·obtain rfl : j = 0 := by omega
  rfl
 ·simp only [wn, wq, simprocAttr]
  try rfl
 repeat refine VW.seq ?_
 refine VW.regl hT fun K hK => ?_
 simp only [wq, simprocAttr]
 refine hK _ ?_
 clear hK K
 try refine vthen_n ?_
 repeat refine VW.seq ?_
 refine VW.cond rfl (fun hc => ?_) (fun hc => ?_)
 ·have hlt : i < p.length := by simpa using hc
  have m1 := hmem _ (getD_mem hlt)
  have m2 := hmem _ (getD_mem (i := i - 1) (by omega))
  have hlow : lowAt t p i = if (t.getD (p.getD (i - 1) 0).toNat z).1 == p.getD i 0 then p.getD (i - 1) 0 else p.getD i 0 := rfl
  refine VW.skip (vthen_n ?_)
  repeat refine VW.seq ?_
  refine VW.block ?_
  repeat refine VW.seq ?_
  refine VW.regl hT fun K hK => ?_
  simp only [wq, simprocAttr]
  refine ⟨decide_eq_true ⟨Int.natCast_nonneg _, by show (i : Int) < (p.length : Int); omega⟩, ?_⟩
  refine hK _ ?_
  clear hK K
  try refine vthen_n ?_
  repeat refine VW.seq ?_
  refine VW.drawl hT hm (by kernel_rfl) fun K hK => ?_
  simp only [wq, simprocAttr]
  rw [wrap64 (by omega) (by omega), show (i : Int) - 1 = ((i - 1 : Nat) : Int) by omega, Int.toNat_natCast]
  refine ⟨by kernel_rfl, by kernel_rfl, decide_eq_true ⟨Int.natCast_nonneg _, by show ((i - 1 : Nat) : Int) < (p.length : Int); omega⟩, by kernel_rfl, decide_eq_true m2, by kernel_rfl, by kernel_rfl, decide_eq_true ⟨Int.natCast_nonneg _, by show (i : Int) < (p.length : Int); omega⟩, by kernel_rfl, ?_⟩
  refine hK _ ?_
  clear hK K
  try refine vthen_n ?_
  apply cutl
  ·intro tail
   repeat refine VW.seq ?_
   refine VW.cond rfl (fun hc => ?_) (fun hc => ?_)
   ·have hc : ((t.getD (p.getD (i - 1) 0).toNat z).1 == p.getD i 0) = true := hc
    rw [if_pos hc] at hlow
    repeat refine VW.seq ?_
    refine VW.regl hT fun K hK => ?_
    simp only [wq, simprocAttr]
    rw [wrap64 (by omega) (by omega), show (i : Int) - 1 = ((i - 1 : Nat) : Int) by omega, Int.toNat_natCast]
    refine ⟨decide_eq_true ⟨Int.natCast_nonneg _, by show ((i - 1 : Nat) : Int) < (p.length : Int); omega⟩, ?_⟩
    refine hK _ ?_
    try refine vthen_n ?_
    refine VW.weak (weak_norm [(0, none), (5, none), (9, none), (10, none), (11, none)] _) ?_
    simp only [wn, wq, simprocAttr]
    rw [← hlow]
    exact tail.h
   ·have hc : ((t.getD (p.getD (i - 1) 0).toNat z).1 == p.getD i 0) = false := hc
    rw [if_neg (by rw [hc]; decide)] at hlow
    refine VW.skip ?_
    show vthen _ _ _ .normal _
    refine vthen_n ?_
    refine VW.weak (weak_norm [(0, none), (5, none), (9, none), (10, none), (11, none)] _) ?_
    simp only [wn, wq, simprocAttr]
    rw [← hlow]
    exact tail.h
  have m3 : 0 ≤ lowAt t p i ∧ lowAt t p i < t.length := by
   rw [hlow]
   split
   ·exact m2
   ·exact m1
  clear hlow
  repeat refine VW.seq ?_
  refine VW.regl hT fun K hK => ?_
  simp only [wq, simprocAttr]
  refine ⟨decide_eq_true ⟨m3.1, by show lowAt t p i < (g.length : Int); omega⟩, ?_⟩
  refine hK _ ?_
  clear hK K
  try refine vthen_n ?_
  repeat refine VW.seq ?_
  refine VW.cond rfl (fun hc => ?_) (fun hc => ?_)
  ·have hc : g.getD (lowAt t p i).toNat false = false := (Bool.not_eq_true' _).mp hc
   have hno : passes t g p = false := by
    rw [passes, List.all_eq_false]
    refine ⟨i, List.mem_range.2 hlt, ?_⟩
    rw [hc, Bool.or_false]
    simp
    omega
   repeat refine VW.seq ?_
   refine VW.regl hT fun K hK => ?_
   simp only [wq, simprocAttr]
   refine hK _ ?_
   clear hK K
   try refine vthen_n ?_
   refine VW.ret ⟨.inl rfl, _, rfl, ?_⟩
   rw [hno]
  ·have hc : g.getD (lowAt t p i).toNat false = true := by
    have := hc
    rwa [Bool.not_eq_false'] at this
   refine VW.skip ?_
   show vthen _ _ _ .normal _
   refine vthen_n ?_
   repeat refine VW.seq ?_
   refine VW.regl hT fun K hK => ?_
   simp only [wq, simprocAttr]
   refine hK _ ?_
   clear hK K
   try refine vthen_n ?_
   refine ⟨i + 1, ⟨by omega, hlt, fun j h => ?_⟩, ?_, by show p.length - (i + 1) < p.length - i; omega⟩
   ·rcases Nat.lt_or_ge j i with h1 | h1
    ·exact hj j h1
    ·obtain rfl : j = i := by omega
     rw [hc, Bool.or_true]
   simp only [wn, wq, simprocAttr]
   rw [wrap64 (by omega) (by omega)]
   rfl
 ·have hge : i = p.length := by
   have : p.length ≤ i := by simpa using hc
   omega
  subst hge
  refine VW.exit ?_
  show vthen _ _ _ .normal _
  refine vthen_n ?_
  repeat refine VW.seq ?_
  refine VW.regl hT fun K hK => ?_
  simp only [wq, simprocAttr]
  refine hK _ ?_
  clear hK K
  try refine vthen_n ?_
  refine VW.ret ⟨.inl rfl, _, rfl, ?_⟩
  have hyes : passes t g p = true := by
   rw [passes, List.all_eq_true]
   intro j h
   exact hj j (List.mem_range.1 h)
  rw [hyes]
end Go.Proofs.YtoeblmcibheldaaGreatDoor.V.W
end
section
namespace Go.Proofs.YtoeblmcibheldaaGreatDoor.V.W
open Go Go.RowKit
end Go.Proofs.YtoeblmcibheldaaGreatDoor.V.W
end
section
namespace Go.Proofs.YtoeblmcibheldaaGreatDoor.V.W
open Go Go.RowKit
end Go.Proofs.YtoeblmcibheldaaGreatDoor.V.W
end
section
namespace Go.Proofs.YtoeblmcibheldaaGreatDoor.V.W
open Go Go.RowKit
set_option maxRecDepth 20000 in
theorem libBarEq_vc (xs ys : List (Int × Int)) (hl : xs.length * 16 ≤ 140737488351232) : VC Tryz.prog 78 [.v false (.sl 110 sBr) xs, .v false (.sl 110 sBr) ys] (· = .v false .bool (decide (xs = ys))) := by
 refine VC.of_body hT Tryz.func78 rfl (by kernel_rfl) [(.tmp 4, false, .bool)] (by kernel_rfl) ?_
 show VW _ _ ([.v false (.sl 110 sBr) xs, .v false (.sl 110 sBr) ys, D, D, D, D, D, D, D, D, D, D, D, D, D, D, D, D, D, D, D, D, D, D, D, D]) _
 repeat refine VW.seq ?_
 refine VW.regl hT fun K hK => ?_
 simp only [wq, simprocAttr]
 refine hK _ ?_
 clear hK K
 try refine vthen_n ?_
 repeat refine VW.seq ?_
 refine VW.regl hT fun K hK => ?_
 simp only [wq, simprocAttr]
 refine hK _ ?_
 clear hK K
 try refine vthen_n ?_
 repeat refine VW.seq ?_
 refine VW.cond rfl (fun hc => ?_) (fun hc => ?_)
 ·repeat refine VW.seq ?_
  refine VW.regl hT fun K hK => ?_
  simp only [wq, simprocAttr]
  refine hK _ ?_
  clear hK K
  try refine vthen_n ?_
  refine VW.ret ⟨.inl rfl, _, rfl, ?_⟩
  have : xs ≠ ys := fun e => by subst e; simp at hc
  simp [this]
 have hlen : xs.length = ys.length := by simp at hc; omega
 refine VW.skip (vthen_n ?_)
 repeat refine VW.seq ?_
 refine VW.regl hT fun K hK => ?_
 simp only [wq, simprocAttr]
 refine hK _ ?_
 clear hK K
 try refine vthen_n ?_
 repeat refine VW.seq ?_
 refine VW.block ?_
 refine VW.loop (α := Nat) [(0, none), (1, none), (12, none), (13, none)] (fun i => [.v false (.sl 110 sBr) xs, .v false (.sl 110 sBr) ys, D, D, D, D, D, D, D, D, D, D, .v false (.int .i64) (xs.length : Int), .v false (.int .i64) (i : Int), D, D, D, D, D, D, D, D, D, D, D, D]) (fun i => i ≤ xs.length ∧ ∀ k, k < i → xs.getD k (0, 0) = ys.getD k (0, 0)) (fun i => xs.length - i) ⟨0, ⟨by omega, fun k hk => by omega⟩, ?_⟩ fun i ⟨hi, hk⟩ => ?_
 ·simp only [wn, wq, simprocAttr]
  try rfl
 repeat refine VW.seq ?_
 refine VW.regl hT fun K hK => ?_
 simp only [wq, simprocAttr]
 refine hK _ ?_
 clear hK K
 try refine vthen_n ?_
 repeat refine VW.seq ?_
 refine VW.cond rfl (fun hc => ?_) (fun hc => ?_)
 ·have hlt : i < xs.length := by simpa using hc
  refine VW.skip (vthen_n ?_)
  repeat refine VW.seq ?_
  refine VW.block ?_
  repeat refine VW.seq ?_
  refine VW.regl hT fun K hK => ?_
  simp only [wq, simprocAttr]
  refine hK _ ?_
  clear hK K
  try refine vthen_n ?_
  repeat refine VW.seq ?_
  refine VW.drawl hT hm (by kernel_rfl) fun K hK => ?_
  simp only [wq, simprocAttr]
  refine ⟨by simp; omega, by simp; omega, ?_⟩
  refine hK _ ?_
  clear hK K
  try refine vthen_n ?_
  repeat refine VW.seq ?_
  refine VW.cond rfl (fun hc => ?_) (fun hc => ?_)
  ·repeat refine VW.seq ?_
   refine VW.regl hT fun K hK => ?_
   simp only [wq, simprocAttr]
   refine hK _ ?_
   clear hK K
   try refine vthen_n ?_
   refine VW.ret ⟨.inl rfl, _, rfl, ?_⟩
   have : xs ≠ ys := fun e => by subst e; simp [eqv] at hc
   simp [this]
  ·have hxy : xs.getD i (0, 0) = ys.getD i (0, 0) := by
    have hc2 := hc
    rw [Bool.not_eq_false'] at hc2
    exact (eqv_eq rfl).1 hc2
   refine VW.skip ?_
   show vthen _ _ _ .normal _
   refine vthen_n ?_
   repeat refine VW.seq ?_
   refine VW.regl hT fun K hK => ?_
   simp only [wq, simprocAttr]
   refine hK _ ?_
   clear hK K
   try refine vthen_n ?_
   refine ⟨i + 1, ⟨hlt, fun k h => ?_⟩, ?_, by show xs.length - (i + 1) < xs.length - i; omega⟩
   ·rcases Nat.lt_or_ge k i with h1 | h1
    ·exact hk k h1
    ·obtain rfl : k = i := by omega
     exact hxy
   ·simp only [wn, wq, simprocAttr]
    rw [wrap64 (by omega) (by omega)]
    rfl
 ·have hc : xs.length ≤ i := by simpa using hc
  refine VW.exit ?_
  show vthen _ _ _ .normal _
  refine vthen_n ?_
  repeat refine VW.seq ?_
  refine VW.regl hT fun K hK => ?_
  simp only [wq, simprocAttr]
  refine hK _ ?_
  clear hK K
  try refine vthen_n ?_
  refine VW.ret ⟨.inl rfl, _, rfl, ?_⟩
  rw [row_eq (0, 0) hlen fun k h => hk k (by omega)]
  simp
end Go.Proofs.YtoeblmcibheldaaGreatDoor.V.W
end
section
namespace Go.Proofs.YtoeblmcibheldaaGreatDoor.V.W
open Go Go.RowKit
end Go.Proofs.YtoeblmcibheldaaGreatDoor.V.W
end
section
namespace Go.Proofs.YtoeblmcibheldaaGreatDoor.V.W
open Go Go.RowKit
/-- a row of memory that does not fit -/
def memBad (m : List (List Int)) (s : List Int) (k : Nat) : Bool := !(((m.getD k []).length : Int) == s.getD k 0) || !words (m.getD k [])
def memOk (m : List (List Int)) (s : List Int) : Bool := (List.range m.length).all fun k => !memBad m s k
theorem memOk_false {m : List (List Int)} {s : List Int} {k : Nat} (hk : k < m.length) (h : memBad m s k = true) : memOk m s = false := by
 rw [memOk, List.all_eq_false]
 exact ⟨k, List.mem_range.2 hk, by rw [h]; simp⟩
theorem memOk_true {m : List (List Int)} {s : List Int} (h : ∀ k, k < m.length → memBad m s k = false) : memOk m s = true := by
 rw [memOk, List.all_eq_true]
 intro k hk
 rw [h k (List.mem_range.1 hk)]
 rfl
/-- a fabric that may be -/
def fabOk (x : Fab) : Bool := newOk x.1 x.2.1 && (decide (allBars x.1 x.2.1 = x.2.2.1) && (((x.2.2.2.1.length : Int) == (x.2.1.length : Int)) && (guardOk x.1 x.2.2.2.2 && memOk x.2.2.2.1 x.2.1)))
structure FabL (x : Fab) : Prop where
 a : x.1.length ≤ 2000000
 b : x.2.1.length ≤ 2000000
 c : x.2.2.1.length ≤ 2000000
 d : x.2.2.2.1.length ≤ 2000000
 e : ∀ k, (x.2.2.2.1.getD k []).length ≤ 2000000
set_option maxRecDepth 20000 in
set_option maxHeartbeats 2000000 in
theorem fabricOk_vc (x : Fab) (hx : FabL x) : VC Tryz.prog 29 [.v true sFi x] (· = .v false .bool (fabOk x)) := by
 obtain ⟨t, s, b, m, g⟩ := x
 have hla : t.length ≤ 2000000 := hx.a
 have hlb : s.length ≤ 2000000 := hx.b
 have hlc : b.length ≤ 2000000 := hx.c
 have hld : m.length ≤ 2000000 := hx.d
 have hle : ∀ k, (m.getD k []).length ≤ 2000000 := hx.e
 refine VC.of_body hT Tryz.func29 rfl (by kernel_rfl) [(.tmp 2, false, .bool)] (by kernel_rfl) ?_
 show VW _ _ ([.v true sFi (t, s, b, m, g), D, D, D, D, D, D, D, D, D, D, D, D, D, D, D, D, D, D, D, D, D, D, D, D, D, D, D, D, D, D, D, D, D, D, D, D, D, D, D, D, D, D, D, D, D, D, D, D, D, D, D, D, D, D, D, D, D, D, D, D, D, D, D]) _
 repeat refine VW.seq ?_
 refine VW.regl hT fun K hK => ?_
 simp only [wq, simprocAttr]
 refine hK _ ?_
 clear hK K
 try refine vthen_n ?_
 repeat refine VW.seq ?_
 refine VW.regl hT fun K hK => ?_
 simp only [wq, simprocAttr]
 refine vcall_ex (newFabric_vc t s hla hlb) ?_
 intro pv hpv
 by_cases hn : newOk t s = true
 case neg =>
  have hn0 : newOk t s = false := by simpa using hn
  rw [if_neg hn] at hpv
  subst hpv
  simp only [wq, simprocAttr]
  refine hK _ ?_
  clear hK K
  try refine vthen_n ?_
  repeat refine VW.seq ?_
  refine VW.regl hT fun K hK => ?_
  simp only [wq, simprocAttr]
  refine hK _ ?_
  clear hK K
  try refine vthen_n ?_
  repeat refine VW.seq ?_
  refine VW.cond rfl (fun hc => ?_) (fun hc => ?_)
  ·repeat refine VW.seq ?_
   refine VW.regl hT fun K hK => ?_
   simp only [wq, simprocAttr]
   refine hK _ ?_
   clear hK K
   try refine vthen_n ?_
   refine VW.ret ⟨.inl rfl, _, rfl, ?_⟩
   rw [fabOk, hn0]
   rfl
  ·cases hc
 rw [if_pos hn] at hpv
 subst hpv
 simp only [wq, simprocAttr]
 refine hK _ ?_
 clear hK K
 try refine vthen_n ?_
 have hok0 : sizesOk t s = true := by
  have := hn
  rw [newOk, fits, Bool.and_eq_true, Bool.and_eq_true] at this
  exact this.1.1
 have hok := (sizesOk_iff.1 hok0).1
 have hsl := (sizesOk_iff.1 hok0).2.1
 have htl := treeOk_len hok
 repeat refine VW.seq ?_
 refine VW.regl hT fun K hK => ?_
 simp only [wq, simprocAttr]
 refine vcall_of (libBarEq_vc (allBars t s) b (by rw [show (allBars t s).length = t.length from bars_len _ _ _]; omega)) ?_
 simp only [wq, simprocAttr]
 refine vbr (fun h => ?_) (fun h => ?_) <;> simp only [wq, simprocAttr]
 case refine_2 =>
  have h : decide (allBars t s = b) = false := (Bool.not_eq_true' _).mp h
  refine hK _ ?_
  clear hK K
  try refine vthen_n ?_
  repeat refine VW.seq ?_
  refine VW.cond rfl (fun hc => ?_) (fun hc => ?_)
  ·repeat refine VW.seq ?_
   refine VW.regl hT fun K hK => ?_
   simp only [wq, simprocAttr]
   refine hK _ ?_
   clear hK K
   try refine vthen_n ?_
   refine VW.ret ⟨.inl rfl, _, rfl, ?_⟩
   rw [fabOk, hn, Bool.true_and, h]
   rfl
  ·cases hc
 have h1 : decide (allBars t s = b) = true := by
  have := h
  rwa [Bool.not_eq_false'] at this
 clear h
 refine vbr (fun h => ?_) (fun h => ?_) <;> simp only [wq, simprocAttr]
 case refine_2 =>
  have h : ((m.length : Int) == (s.length : Int)) = false := (Bool.not_eq_true' _).mp h
  refine hK _ ?_
  clear hK K
  try refine vthen_n ?_
  repeat refine VW.seq ?_
  refine VW.cond rfl (fun hc => ?_) (fun hc => ?_)
  ·repeat refine VW.seq ?_
   refine VW.regl hT fun K hK => ?_
   simp only [wq, simprocAttr]
   refine hK _ ?_
   clear hK K
   try refine vthen_n ?_
   refine VW.ret ⟨.inl rfl, _, rfl, ?_⟩
   rw [fabOk, hn, h1, Bool.true_and, Bool.true_and, h]
   rfl
  ·cases hc
 have h2 : ((m.length : Int) == (s.length : Int)) = true := by
  have := h
  rwa [Bool.not_eq_false'] at this
 clear h
 refine vcall_of (guardOk_vc t g hla) ?_
 simp only [wq, simprocAttr]
 refine hK _ ?_
 clear hK K
 try refine vthen_n ?_
 repeat refine VW.seq ?_
 refine VW.cond rfl (fun hc => ?_) (fun hc => ?_)
 ·have h : guardOk t g = false := (Bool.not_eq_true' _).mp hc
  repeat refine VW.seq ?_
  refine VW.regl hT fun K hK => ?_
  simp only [wq, simprocAttr]
  refine hK _ ?_
  clear hK K
  try refine vthen_n ?_
  refine VW.ret ⟨.inl rfl, _, rfl, ?_⟩
  rw [fabOk, hn, h1, h2, h]
  rfl
 have h3 : guardOk t g = true := by
  have := hc
  rwa [Bool.not_eq_false'] at this
 have hfin : fabOk (t, s, b, m, g) = memOk m s := by rw [fabOk, hn, h1, h2, h3]; rfl
 have hms : m.length = s.length := by
  have : (m.length : Int) = (s.length : Int) := by simpa using h2
  omega
 refine VW.skip (vthen_n ?_)
 repeat refine VW.seq ?_
 refine VW.regl hT fun K hK => ?_
 simp only [wq, simprocAttr]
 refine hK _ ?_
 clear hK K
 try refine vthen_n ?_
 repeat refine VW.seq ?_
 refine VW.block ?_
 refine VW.loop (α := Nat) [(1, none), (43, none), (44, none), (45, none)] (fun i => [D, .root (.box 32) sFi .fz (t, s, b, m, g), D, D, D, D, D, D, D, D, D, D, D, D, D, D, D, D, D, D, D, D, D, D, D, D, D, D, D, D, D, D, D, D, D, D, D, D, D, D, D, D, D, .v false sII m, .v false (.int .i64) ((m.length : Nat)), .v false (.int .i64) ((i : Nat)), D, D, D, D, D, D, D, D, D, D, D, D, D, D, D, D, D, D]) (fun i => i ≤ m.length ∧ ∀ k, k < i → memBad m s k = false) (fun i => m.length - i) ⟨0, ⟨by omega, fun k h => by omega⟩, ?_⟩ fun i ⟨hi, hk⟩ => ?_
 ·simp only [wn, wq, simprocAttr]
  try rfl
 repeat refine VW.seq ?_
 refine VW.regl hT fun K hK => ?_
 simp only [wq, simprocAttr]
 refine hK _ ?_
 clear hK K
 try refine vthen_n ?_
 repeat refine VW.seq ?_
 refine VW.cond rfl (fun hc => ?_) (fun hc => ?_)
 ·have hlt : i < m.length := by simpa using hc
  refine VW.skip (vthen_n ?_)
  repeat refine VW.seq ?_
  refine VW.block ?_
  repeat refine VW.seq ?_
  refine VW.regl hT fun K hK => ?_
  simp only [wq, simprocAttr]
  refine ⟨decide_eq_true ⟨Int.natCast_nonneg _, by show (i : Int) < (m.length : Int); omega⟩, ?_⟩
  refine hK _ ?_
  clear hK K
  try refine vthen_n ?_
  repeat refine VW.seq ?_
  refine VW.regl hT fun K hK => ?_
  simp only [wq, simprocAttr]
  refine ⟨decide_eq_true ⟨Int.natCast_nonneg _, by show (i : Int) < (s.length : Int); omega⟩, ?_⟩
  refine vbr (fun h => ?_) (fun h => ?_) <;> simp only [wq, simprocAttr]
  case refine_2 =>
   have h : (!(((m.getD i []).length : Int) == s.getD i 0)) = true := h
   refine hK _ ?_
   clear hK K
   try refine vthen_n ?_
   repeat refine VW.seq ?_
   refine VW.cond rfl (fun hc => ?_) (fun hc => ?_)
   ·repeat refine VW.seq ?_
    refine VW.regl hT fun K hK => ?_
    simp only [wq, simprocAttr]
    refine hK _ ?_
    clear hK K
    try refine vthen_n ?_
    refine VW.ret ⟨.inl rfl, _, rfl, ?_⟩
    rw [hfin, memOk_false hlt (by rw [memBad, h]; rfl)]
   ·cases hc
  have h : (!(((m.getD i []).length : Int) == s.getD i 0)) = false := h
  refine vcall_of (areWords_vc _ (hle i)) ?_
  simp only [wq, simprocAttr]
  refine hK _ ?_
  clear hK K
  try refine vthen_n ?_
  repeat refine VW.seq ?_
  refine VW.cond rfl (fun hc => ?_) (fun hc => ?_)
  ·have hc : (!words (m.getD i [])) = true := hc
   repeat refine VW.seq ?_
   refine VW.regl hT fun K hK => ?_
   simp only [wq, simprocAttr]
   refine hK _ ?_
   clear hK K
   try refine vthen_n ?_
   refine VW.ret ⟨.inl rfl, _, rfl, ?_⟩
   rw [hfin, memOk_false hlt (by rw [memBad, h, hc]; rfl)]
  ·have hc : (!words (m.getD i [])) = false := hc
   refine VW.skip ?_
   show vthen _ _ _ .normal _
   refine vthen_n ?_
   repeat refine VW.seq ?_
   refine VW.regl hT fun K hK => ?_
   simp only [wq, simprocAttr]
   refine hK _ ?_
   clear hK K
   try refine vthen_n ?_
   refine ⟨i + 1, ⟨hlt, fun k h4 => ?_⟩, ?_, by show m.length - (i + 1) < m.length - i; omega⟩
   ·rcases Nat.lt_or_ge k i with h5 | h5
    ·exact hk k h5
    ·obtain rfl : k = i := by omega
     rw [memBad, h, hc]
     rfl
   simp only [wn, wq, simprocAttr]
   rw [wrap64 (by omega) (by omega)]
   rfl
 ·have hge : i = m.length := by
   have : m.length ≤ i := by simpa using hc
   omega
  subst hge
  refine VW.exit ?_
  show vthen _ _ _ .normal _
  refine vthen_n ?_
  repeat refine VW.seq ?_
  refine VW.regl hT fun K hK => ?_
  simp only [wq, simprocAttr]
  refine hK _ ?_
  clear hK K
  try refine vthen_n ?_
  refine VW.ret ⟨.inl rfl, _, rfl, ?_⟩
  rw [hfin, memOk_true hk]
end Go.Proofs.YtoeblmcibheldaaGreatDoor.V.W
end
section
namespace Go.Proofs.YtoeblmcibheldaaGreatDoor.V.W
open Go Go.RowKit
theorem ownGo_lt (t : List Nd) (b : List (Int × Int)) (a : Int) : ∀ f k, ownGo t b a f k = -1 ∨ ∃ j : Nat, ownGo t b a f k = (j : Int) ∧ k ≤ j ∧ j < k + f ∧ owns t b a j = true
 | 0, k => .inl rfl
 | f + 1, k => by
  rw [ownGo]
  split
  ·rename_i h
   exact .inr ⟨k, rfl, by omega, by omega, h⟩
  ·rcases ownGo_lt t b a f (k + 1) with h | ⟨j, h1, h2, h3, h4⟩
   ·exact .inl h
   ·exact .inr ⟨j, h1, by omega, by omega, h4⟩
theorem owner_lt (t : List Nd) (b : List (Int × Int)) (a : Int) : ownerOf t b a = -1 ∨ ∃ j : Nat, ownerOf t b a = (j : Int) ∧ j < t.length ∧ b.length = t.length ∧ owns t b a j = true := by
 rw [ownerOf]
 split
 ·rename_i h
  rw [winsOk, Bool.and_eq_true, beq_iff_eq] at h
  rcases ownGo_lt t b a t.length 0 with h2 | ⟨j, h1, _, h3, h4⟩
  ·exact .inl h2
  ·exact .inr ⟨j, h1, by omega, h.2, h4⟩
 ·exact .inl rfl
/-- the room that is left behind an address in a window -/
def room (w : Int × Int) (a : Int) : Int := IntKind.i64.wrap (w.1 - IntKind.i64.wrap (a - w.2))
def target (x : Fab) (fr a l : Int) : Int × Int :=
 if (inB fr 0 (x.1.length - 1) && inB l 1 64) = true then
  if ownerOf x.1 x.2.2.1 a < 0 then (0, 1)
  else if l > room (x.2.2.1.getD (ownerOf x.1 x.2.2.1 a).toNat zb) a then (ownerOf x.1 x.2.2.1 a, 3)
  else if canReach x.1 x.2.2.2.2 fr (ownerOf x.1 x.2.2.1 a) = true then (ownerOf x.1 x.2.2.1 a, 0) else (ownerOf x.1 x.2.2.1 a, 2)
 else (0, 1)
abbrev r2 (p : Int × Int) : PV := .root (.tup [false, false]) (.pr (.int .i64) (.int .i64)) (.pr .fz .fz) p
set_option maxRecDepth 20000 in
set_option maxHeartbeats 1000000 in
theorem target_vc (x : Fab) (fr a l : Int) (hx : FabL x) : VC Tryz.prog 177 [.v true sFi x, .v false (.int .i64) (fr), .v false (.int .i64) (a), .v false (.int .i64) (l)] (· = r2 (target x fr a l)) := by
 obtain ⟨t, s, b, m, g⟩ := x
 have hla : t.length ≤ 2000000 := hx.a
 have htg : target (t, s, b, m, g) fr a l = if (inB fr 0 (t.length - 1) && inB l 1 64) = true then if ownerOf t b a < 0 then (0, 1) else if l > room (b.getD (ownerOf t b a).toNat zb) a then (ownerOf t b a, 3) else if canReach t g fr (ownerOf t b a) = true then (ownerOf t b a, 0) else (ownerOf t b a, 2) else (0, 1) := rfl
 rw [htg]
 refine VC.of_body hT Tryz.func177 rfl (by kernel_rfl) [(.tmp 8, false, .int .i64), (.tmp 9, false, .int .i64)] (by kernel_rfl) ?_
 show VW _ _ ([.v true sFi (t, s, b, m, g), .v false (.int .i64) (fr), .v false (.int .i64) (a), .v false (.int .i64) (l), D, D, D, D, D, D, D, D, D, D, D, D, D, D, D, D, D, D, D, D, D, D, D, D, D, D, D, D, D, D, D, D, D, D, D, D, D, D, D, D, D, D, D, D, D, D, D, D, D, D, D, D, D, D, D, D, D, D]) _
 repeat refine VW.seq ?_
 refine VW.regl hT fun K hK => ?_
 simp only [wq, simprocAttr]
 refine hK _ ?_
 clear hK K
 try refine vthen_n ?_
 repeat refine VW.seq ?_
 refine VW.regl hT fun K hK => ?_
 simp only [wq, simprocAttr]
 rw [wrap64 (by omega) (by omega)]
 refine vcall_of (within_vc fr 0 (t.length - 1)) ?_
 simp only [wq, simprocAttr]
 refine vbr (fun h => ?_) (fun h => ?_) <;> simp only [wq, simprocAttr]
 case refine_2 =>
  have h : inB fr 0 (t.length - 1) = false := (Bool.not_eq_true' _).mp h
  refine hK _ ?_
  clear hK K
  try refine vthen_n ?_
  repeat refine VW.seq ?_
  refine VW.cond rfl (fun hc => ?_) (fun hc => ?_)
  ·repeat refine VW.seq ?_
   refine VW.regl hT fun K hK => ?_
   simp only [wq, simprocAttr]
   refine hK _ ?_
   clear hK K
   try refine vthen_n ?_
   refine VW.ret ⟨.inl rfl, _, rfl, ?_⟩
   rw [h, if_neg (by simp)]
  ·cases hc
 have h1 : inB fr 0 (t.length - 1) = true := by
  have := h
  rwa [Bool.not_eq_false'] at this
 refine vcall_of (within_vc l 1 64) ?_
 simp only [wq, simprocAttr]
 refine hK _ ?_
 clear hK K
 try refine vthen_n ?_
 repeat refine VW.seq ?_
 refine VW.cond rfl (fun hc => ?_) (fun hc => ?_)
 ·have hc : inB l 1 64 = false := (Bool.not_eq_true' _).mp hc
  repeat refine VW.seq ?_
  refine VW.regl hT fun K hK => ?_
  simp only [wq, simprocAttr]
  refine hK _ ?_
  clear hK K
  try refine vthen_n ?_
  refine VW.ret ⟨.inl rfl, _, rfl, ?_⟩
  rw [hc, if_neg (by simp)]
 have h2 : inB l 1 64 = true := by
  have := hc
  rwa [Bool.not_eq_false'] at this
 rw [if_pos (by rw [h1, h2]; rfl)]
 have how := owner_lt t b a
 refine VW.skip (vthen_n ?_)
 repeat refine VW.seq ?_
 refine VW.regl hT fun K hK => ?_
 simp only [wq, simprocAttr]
 refine vcall_of (owner_vc t b a hla) ?_
 simp only [wq, simprocAttr]
 refine hK _ ?_
 clear hK K
 try refine vthen_n ?_
 generalize ownerOf t b a = k at *
 repeat refine VW.seq ?_
 refine VW.block ?_
 repeat refine VW.seq ?_
 refine VW.regl hT fun K hK => ?_
 simp only [wq, simprocAttr]
 refine hK _ ?_
 clear hK K
 try refine vthen_n ?_
 repeat refine VW.seq ?_
 refine VW.cond rfl (fun hc => ?_) (fun hc => ?_)
 ·have hc : k < 0 := of_decide_eq_true hc
  repeat refine VW.seq ?_
  refine VW.regl hT fun K hK => ?_
  simp only [wq, simprocAttr]
  refine hK _ ?_
  clear hK K
  try refine vthen_n ?_
  refine VW.ret ⟨.inl rfl, _, rfl, ?_⟩
  rw [if_pos hc]
 have hk : ¬ k < 0 := of_decide_eq_false hc
 obtain ⟨j, rfl, hjl, hbl, -⟩ := how.resolve_left (by omega)
 rw [if_neg hk, Int.toNat_natCast]
 repeat refine VW.seq ?_
 refine VW.drawl hT hm (by kernel_rfl) fun K hK => ?_
 simp only [wq, simprocAttr]
 have hidx : decide (0 ≤ (j : Int) ∧ (j : Int) < (b.length : Int)) = true := decide_eq_true ⟨Int.natCast_nonneg _, by omega⟩
 refine ⟨by kernel_rfl, by kernel_rfl, hidx, by kernel_rfl, by kernel_rfl, hidx, ?_⟩
 refine hK _ ?_
 clear hK K
 try refine vthen_n ?_
 have hroom : room (b.getD j zb) a = IntKind.i64.wrap ((b.getD j (0, 0)).1 - IntKind.i64.wrap (a - (b.getD j (0, 0)).2)) := rfl
 rw [hroom]
 generalize IntKind.i64.wrap ((b.getD j (0, 0)).1 - IntKind.i64.wrap (a - (b.getD j (0, 0)).2)) = q
 repeat refine VW.seq ?_
 refine VW.cond rfl (fun hc => ?_) (fun hc => ?_)
 ·have hc : l > q := of_decide_eq_true hc
  repeat refine VW.seq ?_
  refine VW.regl hT fun K hK => ?_
  simp only [wq, simprocAttr]
  refine hK _ ?_
  clear hK K
  try refine vthen_n ?_
  refine VW.ret ⟨.inl rfl, _, rfl, ?_⟩
  rw [if_pos hc]
 have hq : ¬ l > q := of_decide_eq_false hc
 rw [if_neg hq]
 repeat refine VW.seq ?_
 refine VW.regl hT fun K hK => ?_
 simp only [wq, simprocAttr]
 refine vcall_of (canReach_vc t g fr j hla) ?_
 simp only [wq, simprocAttr]
 refine hK _ ?_
 clear hK K
 try refine vthen_n ?_
 repeat refine VW.seq ?_
 refine VW.cond rfl (fun hc => ?_) (fun hc => ?_)
 ·have hc : canReach t g fr j = false := (Bool.not_eq_true' _).mp hc
  repeat refine VW.seq ?_
  refine VW.regl hT fun K hK => ?_
  simp only [wq, simprocAttr]
  refine hK _ ?_
  clear hK K
  try refine vthen_n ?_
  refine VW.ret ⟨.inl rfl, _, rfl, ?_⟩
  rw [if_neg (by rw [hc]; decide)]
 have hr : canReach t g fr j = true := by
  have := hc
  rwa [Bool.not_eq_false'] at this
 rw [if_pos hr]
 refine VW.skip ?_
 show vthen _ _ _ .normal _
 refine vthen_n ?_
 repeat refine VW.seq ?_
 refine VW.regl hT fun K hK => ?_
 simp only [wq, simprocAttr]
 refine hK _ ?_
 clear hK K
 try refine vthen_n ?_
 exact VW.ret ⟨.inl rfl, _, rfl, rfl⟩
def targetOf (x : Fab) (fr a l : Int) : Int × Int := if fabOk x = true then target x fr a l else (0, 1)
set_option maxRecDepth 20000 in
theorem targetOf_vc (x : Fab) (fr a l : Int) (hx : FabL x) : VC Tryz.prog 145 [.v true sFi x, .v false (.int .i64) (fr), .v false (.int .i64) (a), .v false (.int .i64) (l)] (· = r2 (targetOf x fr a l)) := by
 refine VC.of_body hT Tryz.func145 rfl (by kernel_rfl) [(.tmp 8, false, .int .i64), (.tmp 9, false, .int .i64)] (by kernel_rfl) ?_
 show VW _ _ ([.v true sFi x, .v false (.int .i64) (fr), .v false (.int .i64) (a), .v false (.int .i64) (l), D, D, D, D, D, D, D, D, D, D, D, D, D, D, D, D]) _
 repeat refine VW.seq ?_
 refine VW.regl hT fun K hK => ?_
 simp only [wq, simprocAttr]
 refine hK _ ?_
 clear hK K
 try refine vthen_n ?_
 repeat refine VW.seq ?_
 refine VW.regl hT fun K hK => ?_
 simp only [wq, simprocAttr]
 refine vcall_of (fabricOk_vc x hx) ?_
 simp only [wq, simprocAttr]
 refine hK _ ?_
 clear hK K
 try refine vthen_n ?_
 repeat refine VW.seq ?_
 refine VW.cond rfl (fun hc => ?_) (fun hc => ?_)
 ·have hc : fabOk x = false := (Bool.not_eq_true' _).mp hc
  repeat refine VW.seq ?_
  refine VW.regl hT fun K hK => ?_
  simp only [wq, simprocAttr]
  refine hK _ ?_
  clear hK K
  try refine vthen_n ?_
  refine VW.ret ⟨.inl rfl, _, rfl, ?_⟩
  rw [targetOf, if_neg (by rw [hc]; decide)]
 have hf : fabOk x = true := by
  have := hc
  rwa [Bool.not_eq_false'] at this
 rw [targetOf, if_pos hf]
 refine VW.skip (vthen_n ?_)
 repeat refine VW.seq ?_
 refine VW.regl hT fun K hK => ?_
 simp only [wq, simprocAttr]
 refine vcall_of (target_vc x fr a l hx) ?_
 simp only [wq, simprocAttr]
 refine hK _ ?_
 clear hK K
 try refine vthen_n ?_
 exact VW.ret ⟨.inl rfl, _, rfl, rfl⟩
end Go.Proofs.YtoeblmcibheldaaGreatDoor.V.W
end
section
namespace Go.Proofs.YtoeblmcibheldaaGreatDoor.V.W
open Go Go.RowKit
end Go.Proofs.YtoeblmcibheldaaGreatDoor.V.W
end
section
namespace Go.Proofs.YtoeblmcibheldaaGreatDoor.V.W
open Go Go.RowKit
theorem fab_win {x : Fab} (h : fabOk x = true) {a : Int} {j : Nat} (hj : j < x.1.length) : 0 ≤ (x.2.2.1.getD j zb).1 ∧ (x.2.2.1.getD j zb).1 ≤ 65536 ∧ 0 ≤ (x.2.2.1.getD j zb).2 ∧ (x.2.2.1.getD j zb).2 ≤ 65536 := by
 obtain ⟨t, s, b, m, g⟩ := x
 rw [fabOk, Bool.and_eq_true, Bool.and_eq_true] at h
 obtain ⟨h1, h2, -⟩ := h
 have h1 : newOk t s = true := h1
 have h2 : allBars t s = b := of_decide_eq_true h2
 have hj : j < t.length := hj
 rw [newOk, fits, Bool.and_eq_true, Bool.and_eq_true] at h1
 have hs := h1.1.1
 have h65 : win t s 0 ≤ 65536 := of_decide_eq_true h1.1.2
 have hok : treeOk t = true := (sizesOk_iff.1 hs).1
 have := pos_bd hok s j j (Nat.le_refl _) hj
 show 0 ≤ (b.getD j zb).1 ∧ (b.getD j zb).1 ≤ 65536 ∧ 0 ≤ (b.getD j zb).2 ∧ (b.getD j zb).2 ≤ 65536
 rw [← h2, allBars, bars_get _ _ _ hj]
 refine ⟨Int.natCast_nonneg _, ?_, ?_, ?_⟩
 ·show (win t s j : Int) ≤ 65536
  omega
 ·show 0 ≤ (if true = true then (pos t s j : Int) else 0)
  rw [if_pos rfl]
  omega
 ·show (if true = true then (pos t s j : Int) else 0) ≤ 65536
  rw [if_pos rfl]
  omega
end Go.Proofs.YtoeblmcibheldaaGreatDoor.V.W
end
section
namespace Go.Proofs.YtoeblmcibheldaaGreatDoor.V.W
open Go Go.RowKit
end Go.Proofs.YtoeblmcibheldaaGreatDoor.V.W
end
section
namespace Go.Proofs.YtoeblmcibheldaaGreatDoor.V.W
open Go Go.RowKit
/-- a fabric's parts, if it is valid -/
theorem fab_parts {t : List Nd} {s : List Int} {b : List (Int × Int)} {m : List (List Int)} {g : List Bool} (h : fabOk (t, s, b, m, g) = true) : newOk t s = true ∧ allBars t s = b ∧ m.length = s.length ∧ guardOk t g = true ∧ (∀ k, k < m.length → ((m.getD k []).length : Int) = s.getD k 0 ∧ words (m.getD k []) = true) := by
 rw [fabOk, Bool.and_eq_true, Bool.and_eq_true, Bool.and_eq_true, Bool.and_eq_true] at h
 obtain ⟨h1, h2, h3, h4, h5⟩ := h
 have h5 : ((List.range m.length).all fun k => !memBad m s k) = true := h5
 refine ⟨h1, of_decide_eq_true h2, ?_, h4, fun k hk => ?_⟩
 ·have h3 : ((m.length : Int) == (s.length : Int)) = true := h3
  have := eq_of_beq h3
  omega
 ·have := List.all_eq_true.1 h5 k (List.mem_range.2 hk)
  rw [Bool.not_eq_true', memBad, Bool.or_eq_false_iff, Bool.not_eq_false', Bool.not_eq_false'] at this
  exact ⟨eq_of_beq this.1, this.2⟩
/-- an access that goes well lies in one row of memory -/
theorem target_good {t : List Nd} {s : List Int} {b : List (Int × Int)} {m : List (List Int)} {g : List Bool} {fr a l k : Int} (ht : targetOf (t, s, b, m, g) fr a l = (k, 0)) (ha : a ≤ 9223372036854775807) : ∃ j lo n : Nat, k = (j : Int) ∧ l = (n : Int) ∧ j < m.length ∧ j < b.length ∧ IntKind.i64.wrap (a - (b.getD j zb).2) = (lo : Int) ∧ 1 ≤ n ∧ lo + n ≤ (m.getD j []).length ∧ (m.getD j []).length ≤ 64 ∧ fabOk (t, s, b, m, g) = true := by
 by_cases hf : fabOk (t, s, b, m, g) = true
 case neg =>
  rw [targetOf, if_neg hf] at ht
  cases ht
 rw [targetOf, if_pos hf] at ht
 have htg : target (t, s, b, m, g) fr a l = if (inB fr 0 (t.length - 1) && inB l 1 64) = true then if ownerOf t b a < 0 then (0, 1) else if l > room (b.getD (ownerOf t b a).toNat zb) a then (ownerOf t b a, 3) else if canReach t g fr (ownerOf t b a) = true then (ownerOf t b a, 0) else (ownerOf t b a, 2) else (0, 1) := rfl
 rw [htg] at ht
 split at ht
 case isFalse => cases ht
 rename_i hin
 split at ht
 ·cases ht
 rename_i hk0
 split at ht
 ·cases ht
 rename_i hroom
 split at ht
 case isFalse => cases ht
 obtain rfl := (Prod.mk.inj ht).1
 rw [Bool.and_eq_true] at hin
 have h64 := inB_iff.1 hin.2
 obtain ⟨h1, h2, h3, h4, h5⟩ := fab_parts hf
 obtain ⟨j, e1, e2, e3, e4⟩ := (owner_lt t b a).resolve_left (by omega)
 obtain ⟨w1, w2, w3, w4⟩ := fab_win hf (a := a) e2
 have w1 : 0 ≤ (b.getD j zb).1 := w1
 have w2 : (b.getD j zb).1 ≤ 65536 := w2
 have w3 : 0 ≤ (b.getD j zb).2 := w3
 have w4 : (b.getD j zb).2 ≤ 65536 := w4
 rw [e1, Int.toNat_natCast] at hroom
 rw [owns, Bool.and_eq_true, covB, Bool.and_eq_true, Bool.and_eq_true] at e4
 have hdev : ¬ (t.getD j z).2.2 = 0 := by simpa using e4.1
 have hge : a ≥ (b.getD j zb).2 := of_decide_eq_true e4.2.2.1
 have hn := h1
 rw [newOk, fits, Bool.and_eq_true, Bool.and_eq_true] at hn
 have hok : treeOk t = true := (sizesOk_iff.1 hn.1.1).1
 have hsl := (sizesOk_iff.1 hn.1.1).2.1
 have hs64 : s.getD j 0 ≤ 64 := by
  have h2 : (s.any fun x => decide (x > 64)) = false := by simpa using hn.2
  rw [List.any_eq_false] at h2
  have := h2 _ (getD_mem (show j < s.length by omega))
  simpa using this
 have hw : (b.getD j zb).1 = ((s.getD j 0).toNat : Int) := by
  rw [← h2, allBars, bars_get _ _ _ e2]
  show ((win t s j : Nat) : Int) = _
  rw [win_eq hok s e2, if_neg hdev]
 have hml := (h5 j (by omega)).1
 have e5 : IntKind.i64.wrap (a - (b.getD j zb).2) = a - (b.getD j zb).2 := wrap64 (by omega) (by omega)
 have e6 : room (b.getD j zb) a = (b.getD j zb).1 - (a - (b.getD j zb).2) := by
  show IntKind.i64.wrap ((b.getD j zb).1 - IntKind.i64.wrap (a - (b.getD j zb).2)) = _
  rw [e5]
  exact wrap64 (by omega) (by omega)
 rw [e6] at hroom
 exact ⟨j, (a - (b.getD j zb).2).toNat, l.toNat, e1, by omega, by omega, by omega, by omega, by omega, by omega, by omega, hf⟩
/-- what is loaded -/
def loadW (x : Fab) (fr a l : Int) : List Int × Int :=
 if (targetOf x fr a l).2 = 0 then (((x.2.2.2.1.getD (targetOf x fr a l).1.toNat []).drop (IntKind.i64.wrap (a - (x.2.2.1.getD (targetOf x fr a l).1.toNat zb).2)).toNat).take l.toNat, 0) else ([], (targetOf x fr a l).2)
end Go.Proofs.YtoeblmcibheldaaGreatDoor.V.W
end
section
namespace Go.Proofs.YtoeblmcibheldaaGreatDoor.V.W
open Go Go.RowKit
abbrev rIW (p : List Int × Int) : PV := .root (.tup [false, false]) (.pr sI (.int .i64)) (.pr .own .fz) p
set_option maxRecDepth 20000 in
set_option maxHeartbeats 1000000 in
theorem loadWords_vc (x : Fab) (fr a l : Int) (hx : FabL x) (ha : a ≤ 9223372036854775807) : VC Tryz.prog 109 [.v true sFi x, .v false (.int .i64) (fr), .v false (.int .i64) (a), .v false (.int .i64) (l)] (· = rIW (loadW x fr a l)) := by
 refine VC.of_body hT Tryz.func109 rfl (by kernel_rfl) [(.tmp 8, false, sI), (.tmp 9, false, .int .i64)] (by kernel_rfl) ?_
 have htv := targetOf_vc x fr a l hx
 generalize hr : loadW x fr a l = r
 rw [loadW] at hr
 obtain ⟨t, s, b, m, g⟩ := x
 have hg : ∀ k : Int, targetOf (t, s, b, m, g) fr a l = (k, 0) → _ := fun k h => target_good h ha
 generalize targetOf (t, s, b, m, g) fr a l = p at *
 obtain ⟨k, c⟩ := p
 show VW _ _ ([.v true sFi (t, s, b, m, g), .v false (.int .i64) (fr), .v false (.int .i64) (a), .v false (.int .i64) (l), D, D, D, D, D, D, D, D, D, D, D, D, D, D, D, D, D, D, D, D, D, D, D, D, D, D, D, D, D, D, D, D, D, D, D, D, D, D, D]) _
 repeat refine VW.seq ?_
 refine VW.regl hT fun K hK => ?_
 simp only [wq, simprocAttr]
 refine hK _ ?_
 clear hK K
 try refine vthen_n ?_
 repeat refine VW.seq ?_
 refine VW.regl hT fun K hK => ?_
 simp only [wq, simprocAttr]
 refine vcall_of htv ?_
 simp only [wq, simprocAttr]
 refine hK _ ?_
 clear hK K
 try refine vthen_n ?_
 repeat refine VW.seq ?_
 refine VW.regl hT fun K hK => ?_
 simp only [wq, simprocAttr]
 refine hK _ ?_
 clear hK K
 try refine vthen_n ?_
 repeat refine VW.seq ?_
 refine VW.cond rfl (fun hc => ?_) (fun hc => ?_)
 ·repeat refine VW.seq ?_
  refine VW.regl hT fun K hK => ?_
  simp only [wq, simprocAttr]
  refine hK _ ?_
  clear hK K
  try refine vthen_n ?_
  refine VW.ret ⟨.inl rfl, _, rfl, ?_⟩
  rw [← hr, if_neg (by simpa using hc)]
  rfl
 have hc : c = 0 := by simpa using hc
 subst hc
 obtain ⟨j, lo, n, rfl, rfl, h1, h2, h3, h4, h5, h6, hf⟩ := hg k rfl
 rw [if_pos rfl] at hr
 have hr : (((m.getD ((j : Int)).toNat []).drop (IntKind.i64.wrap (a - (b.getD ((j : Int)).toNat zb).2)).toNat).take ((n : Int)).toNat, (0 : Int)) = r := hr
 rw [Int.toNat_natCast, Int.toNat_natCast, h3, Int.toNat_natCast] at hr
 refine VW.skip (vthen_n ?_)
 repeat refine VW.seq ?_
 refine VW.regl hT fun K hK => ?_
 simp only [wq, simprocAttr]
 refine ⟨decide_eq_true ⟨Int.natCast_nonneg _, by show (j : Int) < (b.length : Int); omega⟩, ?_⟩
 refine hK _ ?_
 clear hK K
 try refine vthen_n ?_
 rw [show IntKind.i64.wrap (a - (b.getD j zb).2) = (lo : Int) from h3]
 repeat refine VW.seq ?_
 refine VW.regl hT fun K hK => ?_
 simp only [wq, simprocAttr]
 rw [show IntKind.i64.wrap ((lo : Int) + (n : Int)) = ((lo + n : Nat) : Int) from by rw [wrap64 (by omega) (by omega)]; omega]
 refine ⟨decide_eq_true ⟨Int.natCast_nonneg _, by show (j : Int) < (m.length : Int); omega⟩, decide_eq_true ⟨Int.natCast_nonneg _, by omega, by show ((lo + n : Nat) : Int) ≤ ((m.getD j []).length : Int); omega⟩, ?_⟩
 rw [show (List.drop lo (List.take (((lo + n : Nat) : Int)).toNat (m.getD j []))) = ((m.getD j []).drop lo).take n from by rw [Int.toNat_natCast, List.drop_take]; congr 1; omega]
 refine vcall_of (cloneI_vc _ (by rw [List.length_take]; omega)) ?_
 simp only [wq, simprocAttr]
 refine hK _ ?_
 clear hK K
 try refine vthen_n ?_
 refine VW.ret ⟨.inl rfl, _, rfl, ?_⟩
 rw [← hr]
end Go.Proofs.YtoeblmcibheldaaGreatDoor.V.W
end
section
namespace Go.Proofs.YtoeblmcibheldaaGreatDoor.V.W
open Go Go.RowKit
theorem nil_of {α : Type} {t : List α} {b : Bool} (hb : 0 < t.length → b = false) (hc : b = true) : t = [] := by
 rcases Nat.eq_zero_or_pos t.length with h | h
 ·exact List.eq_nil_of_length_eq_zero h
 ·have := hb h; rw [this] at hc; cases hc
theorem cloneBo_vc (t : List Bool) (hl : t.length ≤ 2000000) : VC Tryz.prog 107 [.v false sG t] (· = .root (.val false) sG .own t) := by
 refine VC.of_body hT Tryz.func107 rfl (by kernel_rfl) [(.tmp 2, false, sG)] (by kernel_rfl) ?_
 show VW _ _ ([.v false sG t, D, D, D, D, D, D, D]) _
 repeat refine VW.seq ?_
 refine VW.regl hT fun K hK => ?_
 simp only [wq, simprocAttr]
 refine hK _ ?_
 clear hK K
 try refine vthen_n ?_
 repeat refine VW.seq ?_
 refine VW.regl hT fun K hK => ?_
 simp only [wq, simprocAttr]
 intro b hb
 refine hK _ ?_
 clear hK K
 try refine vthen_n ?_
 repeat refine VW.seq ?_
 refine VW.cond rfl (fun hc => ?_) (fun hc => ?_)
 ·repeat refine VW.seq ?_
  refine VW.regl hT fun K hK => ?_
  simp only [wq, simprocAttr]
  refine hK _ ?_
  clear hK K
  try refine vthen_n ?_
  refine VW.ret ⟨.inl rfl, _, rfl, ?_⟩
  obtain rfl := nil_of hb hc
  rfl
 ·refine VW.skip (vthen_n ?_)
  repeat refine VW.seq ?_
  refine VW.regl hT fun K hK => ?_
  simp only [wq, simprocAttr]
  refine ⟨by simp [limOk]; omega, ?_⟩
  refine hK _ ?_
  clear hK K
  try refine vthen_n ?_
  exact VW.ret ⟨.inl rfl, _, rfl, rfl⟩
theorem cloneBa_vc (t : List (Int × Int)) (hl : t.length ≤ 2000000) : VC Tryz.prog 105 [.v false sBS t] (· = .root (.val false) sBS .own t) := by
 refine VC.of_body hT Tryz.func105 rfl (by kernel_rfl) [(.tmp 2, false, sBS)] (by kernel_rfl) ?_
 show VW _ _ ([.v false sBS t, D, D, D, D, D, D, D]) _
 repeat refine VW.seq ?_
 refine VW.regl hT fun K hK => ?_
 simp only [wq, simprocAttr]
 refine hK _ ?_
 clear hK K
 try refine vthen_n ?_
 repeat refine VW.seq ?_
 refine VW.regl hT fun K hK => ?_
 simp only [wq, simprocAttr]
 intro b hb
 refine hK _ ?_
 clear hK K
 try refine vthen_n ?_
 repeat refine VW.seq ?_
 refine VW.cond rfl (fun hc => ?_) (fun hc => ?_)
 ·repeat refine VW.seq ?_
  refine VW.regl hT fun K hK => ?_
  simp only [wq, simprocAttr]
  refine hK _ ?_
  clear hK K
  try refine vthen_n ?_
  refine VW.ret ⟨.inl rfl, _, rfl, ?_⟩
  obtain rfl := nil_of hb hc
  rfl
 ·refine VW.skip (vthen_n ?_)
  repeat refine VW.seq ?_
  refine VW.regl hT fun K hK => ?_
  simp only [wq, simprocAttr]
  refine ⟨by simp [limOk]; omega, ?_⟩
  refine hK _ ?_
  clear hK K
  try refine vthen_n ?_
  exact VW.ret ⟨.inl rfl, _, rfl, rfl⟩
set_option maxRecDepth 20000 in
theorem copyLists_vc (m : List (List Int)) (hl : m.length ≤ 2000000) (hr : ∀ k, (m.getD k []).length ≤ 2000000) : VC Tryz.prog 106 [.v false sII m] (· = .root (.val false) sII .own m) := by
 refine VC.of_body hT Tryz.func106 rfl (by kernel_rfl) [(.tmp 2, false, sII)] (by kernel_rfl) ?_
 show VW _ _ ([.v false sII m, D, D, D, D, D, D, D, D, D, D, D, D, D, D, D, D, D, D, D]) _
 repeat refine VW.seq ?_
 refine VW.regl hT fun K hK => ?_
 simp only [wq, simprocAttr]
 refine hK _ ?_
 clear hK K
 try refine vthen_n ?_
 repeat refine VW.seq ?_
 refine VW.regl hT fun K hK => ?_
 simp only [wq, simprocAttr]
 refine hK _ ?_
 clear hK K
 try refine vthen_n ?_
 repeat refine VW.seq ?_
 refine VW.regl hT fun K hK => ?_
 simp only [wq, simprocAttr]
 refine hK _ ?_
 clear hK K
 try refine vthen_n ?_
 repeat refine VW.seq ?_
 refine VW.block ?_
 refine VW.loop (α := Nat) [(3, some (25, sI)), (7, none), (8, none), (9, none)] (fun i => [D, D, D, .root (.val false) sII .own (m.take i), D, D, D, .v false sII m, .v false (.int .i64) ((m.length : Nat)), .v false (.int .i64) ((i : Nat)), D, D, D, D, D, D, D, D, D, D]) (fun i => i ≤ m.length) (fun i => m.length - i) ⟨0, by omega, ?_⟩ fun i hi => ?_
 ·simp only [wn, wq, simprocAttr]
  try rfl
 repeat refine VW.seq ?_
 refine VW.regl hT fun K hK => ?_
 simp only [wq, simprocAttr]
 refine hK _ ?_
 clear hK K
 try refine vthen_n ?_
 repeat refine VW.seq ?_
 refine VW.cond rfl (fun hc => ?_) (fun hc => ?_)
 ·have hlt : i < m.length := by simpa using hc
  refine VW.skip (vthen_n ?_)
  repeat refine VW.seq ?_
  refine VW.block ?_
  repeat refine VW.seq ?_
  refine VW.regl hT fun K hK => ?_
  simp only [wq, simprocAttr]
  refine ⟨decide_eq_true ⟨Int.natCast_nonneg _, by show (i : Int) < (m.length : Int); omega⟩, ?_⟩
  refine hK _ ?_
  clear hK K
  try refine vthen_n ?_
  repeat refine VW.seq ?_
  refine VW.regl hT fun K hK => ?_
  simp only [wq, simprocAttr]
  refine vcall_of (cloneI_vc _ (hr i)) ?_
  simp only [wq, simprocAttr]
  refine ⟨by simp only [limOk, List.length_take]; exact decide_eq_true (by omega), ?_⟩
  refine hK _ ?_
  clear hK K
  try refine vthen_n ?_
  show vthen _ _ _ .normal _
  refine vthen_n ?_
  repeat refine VW.seq ?_
  refine VW.regl hT fun K hK => ?_
  simp only [wq, simprocAttr]
  refine hK _ ?_
  clear hK K
  try refine vthen_n ?_
  refine ⟨i + 1, hlt, ?_, by show m.length - (i + 1) < m.length - i; omega⟩
  simp only [wn, wq, simprocAttr]
  rw [wrap64 (by omega) (by omega), show m.take (i + 1) = m.take i ++ [m.getD i []] from by rw [List.take_add_one, List.getElem?_eq_getElem hlt, List.getD_eq_getElem?_getD, List.getElem?_eq_getElem hlt]; rfl, show (i : Int) + 1 = ((i + 1 : Nat) : Int) by omega]
 ·have hge : i = m.length := by
   have hc : ¬ (i : Int) < (m.length : Int) := of_decide_eq_false hc
   omega
  subst hge
  rw [List.take_length]
  refine VW.exit ?_
  show vthen _ _ _ .normal _
  refine vthen_n ?_
  repeat refine VW.seq ?_
  refine VW.regl hT fun K hK => ?_
  simp only [wq, simprocAttr]
  refine hK _ ?_
  clear hK K
  try refine vthen_n ?_
  exact VW.ret ⟨.inl rfl, _, rfl, rfl⟩
set_option maxRecDepth 20000 in
set_option maxHeartbeats 1000000 in
theorem copyFabric_vc (x : Fab) (hx : FabL x) (hg : x.2.2.2.2.length ≤ 2000000) : VC Tryz.prog 66 [.v true sFi x] (· = .root (.val true) sFi fFab x) := by
 obtain ⟨t, s, b, m, g⟩ := x
 refine VC.of_body hT Tryz.func66 rfl (by kernel_rfl) [(.cell 2 32, true, sFi)] (by kernel_rfl) ?_
 show VW _ _ ([.v true sFi (t, s, b, m, g), D, D, D, D, D, D, D, D, D, D, D, D, D, D, D, D, D, D, D, D]) _
 repeat refine VW.seq ?_
 refine VW.regl hT fun K hK => ?_
 simp only [wq, simprocAttr]
 refine hK _ ?_
 clear hK K
 try refine vthen_n ?_
 repeat refine VW.seq ?_
 refine VW.mixl hT hm 0 16 (by kernel_rfl) fun K hK => ?_
 simp only [wq, simprocAttr]
 repeat refine ⟨by kernel_rfl, ?_⟩
 refine vcallD_of (clone_vc t hx.a) ?_
 simp only [wq, simprocAttr]
 repeat refine ⟨by kernel_rfl, ?_⟩
 refine vcallD_of (cloneI_vc s hx.b) ?_
 simp only [wq, simprocAttr]
 repeat refine ⟨by kernel_rfl, ?_⟩
 refine vcallD_of (cloneBa_vc b hx.c) ?_
 simp only [wq, simprocAttr]
 repeat refine ⟨by kernel_rfl, ?_⟩
 refine vcallD_of (copyLists_vc m hx.d hx.e) ?_
 simp only [wq, simprocAttr]
 repeat refine ⟨by kernel_rfl, ?_⟩
 refine vcallD_of (cloneBo_vc g hg) ?_
 simp only [wq, simprocAttr]
 trace_state
 refine hK _ ?_
 clear hK K
 try refine vthen_n ?_
 refine VW.ret ⟨.inl rfl, _, rfl, rfl⟩
end Go.Proofs.YtoeblmcibheldaaGreatDoor.V.W
end
section
namespace Go.Proofs.YtoeblmcibheldaaGreatDoor.V
open Go Go.RowKit
/-- what lies at a place is changed by what the code does there -/
theorem Rel.turnP {L : Lay} {st : St} {a : Act} {w w' : World} (h : Rel L st a w Free) {g : Nat} {p : Path} {s : Sh} {cs1 : List Value} {ad1 : Option Addr} {fl f' : Fl} {x x' : s.ty} (hP : Place L st w g p s cs1 ad1) (hl : look st g p = some ⟨s, fl, x⟩) {st1 st2 : St} (hj : V.put st g p s .junk x hitS = some st1) (hput : V.put st1 g p s f' x' hitS = some st2)
    (hw : ∀ B : Nat → Prop, Rep w L.Z s fl x cs1 B → (∀ b, B b → L.F g b) → ExtF w w' B ∧ Rep w' L.Z s f' x' cs1 B) : ∃ L', Stp L L' w w' ∧ Rel L' st2 a w' Free := by
  obtain ⟨k, s0, f0, x0, hg, hOk, hget, hsub⟩ := id hP
  obtain ⟨f1, x1, e1, B1, e2, e3, e4, e5, e6⟩ := h.put hg hP
  have hl' : get s0 f0 x0 p = some ⟨s, fl, x⟩ := by unfold look at hl; rw [hg] at hl; exact hl
  rw [hl'] at e1
  cases Option.some.inj e1
  obtain ⟨hx, hR⟩ := hw B1 e3 e2
  obtain ⟨f3, x3, hu, hst1⟩ := put_spec hg hj
  have r1 := e6 w cs1 .junk x (fun _ => False) B1 f3 x3 hitS (.inl ⟨rfl, rfl⟩) rfl e3.tojunk (fun _ h => h.elim) (fun b hb => ⟨.inr hb, id⟩) hu (.inr ⟨rfl, rfl⟩)
  rw [← hst1] at r1
  generalize hL1 : (⟨L.Z, fun t b => if t = g then (L.F g b ∧ ¬ B1 b) ∨ False else L.F t b, fun t => if t = g then csub s0 (L.C g) p cs1 else L.C t, L.D⟩ : Lay) = L1 at r1
  have hL1F : ∀ t n, L1.F t n → L.F t n := by
    intro t n hn
    rw [← hL1] at hn
    simp only at hn
    split at hn
    · rename_i e; subst e; exact hn.elim (fun q => q.1) False.elim
    · exact hn
  have hL1Z : L1.Z = L.Z := by rw [← hL1]
  have hg1 : st1.at g = .root k s0 f3 x3 := by
    rw [hst1, St.at_set, if_pos ⟨rfl, by rw [List.length_map]; exact root_lt hg⟩]
  obtain ⟨w1, f4, x4, w2⟩ := upd_other p p hu (below_self p) hOk hl'
  have hP1 : Place L1 st1 w g p s cs1 ad1 := by
    refine ⟨k, s0, f3, x3, hg1, w1, ⟨f4, x4, w2⟩, ?_⟩
    rw [← hL1]
    simp only [if_true]
    rw [csub_self p hsub]
    exact hsub
  have hnF : ∀ n, B1 n → ¬ L1.Z n ∧ ∀ t, ¬ L1.F t n := fun n hn => ⟨(r1.rlt n hn).2, fun t ht => r1.rdj t n ht hn⟩
  have r2 : Rel L1 st1 a w' B1 := r1.extF hx hnF
  have hP2 : Place L1 st1 w' g p s cs1 ad1 := hP1.ext r1 (fun n hn => hx.block n (by
    rcases hn with hn | ⟨t, hn⟩
    · exact r1.zlt n hn
    · exact (r1.flt t n hn).1) (fun hB => by
    rcases hn with hn | ⟨t, hn⟩
    · exact (hnF n hB).1 hn
    · exact (hnF n hB).2 t hn))
  obtain ⟨f5, x5, d1, B5, d2, d3, d4, d5, d6⟩ := r2.put hg1 hP2
  obtain ⟨f6, x6, hu2, hst2⟩ := put_spec hg1 hput
  have r3 := d6 w' cs1 f' x' B1 Free f6 x6 hitS (.inl ⟨rfl, rfl⟩) rfl (by rw [hL1Z]; exact hR) (fun n hn => .inl hn) (fun n hn => hn.elim) hu2 (.inr ⟨rfl, rfl⟩)
  rw [← hst2] at r3
  refine ⟨_, ?_, r3⟩
  refine ⟨hx.os, hx.tape, hx.output, hx.size, fun n hn hL => hx.block n hn (fun hB => hL g (e2 n hB)), .of hL1Z, fun t n hn => ?_⟩
  simp only at hn
  split at hn
  · rcases hn with hn | hn
    · exact .inl ⟨g, hL1F g n hn.1⟩
    · exact .inl ⟨g, e2 n hn⟩
  · exact .inl ⟨t, hL1F t n hn⟩
theorem sub_at {w : World} (r : Path) : ∀ (q : Path) {s : Sh} {cs : List Value} {ad : Option Addr} {f : Fl} {x : s.ty} {s1 : Sh} {f1 : Fl} {x1 : s1.ty} {cs1 : List Value} {ad1 : Option Addr}, get s f x q = some ⟨s1, f1, x1⟩ → sub w s cs ad q = some (cs1, ad1) → sub w s cs ad (q ++ r) = sub w s1 cs1 ad1 r := by
 intro q
 induction q with
 | nil =>
  intro s cs ad f x s1 f1 x1 cs1 ad1 h1 h2
  rw [get_nil] at h1
  rw [sub_nil] at h2
  cases Option.some.inj h1
  cases Option.some.inj h2
  rfl
 | cons t q ih =>
  intro s cs ad f x s1 f1 x1 cs1 ad1 h1 h2
  cases s with
  | pr a b => cases t with
   | l => simp only [get] at h1; simp only [sub] at h2; exact ih h1 h2
   | r => simp only [get] at h1; simp only [sub] at h2; exact ih h1 h2
   | el i => simp [get] at h1
  | sl e s => cases t with
   | l => simp [get] at h1
   | r => simp [get] at h1
   | el i =>
    simp only [sub] at h2
    split at h2
    ·rename_i ad2 n c
     show sub w s _ _ (q ++ r) = _
     cases f with
     | own => exact ih h1 h2
     | ownf => exact ih h1 h2
     | io n c => exact ih h1 h2
     | _ => simp [get] at h1
    ·cases h2
  | _ => cases t <;> simp [get] at h1
section
variable {P : Program} {T : List (Nat × TI)}
/-- a[lo:] of a row of a row of rows, numbers copied into it -/
theorem does2_copy (hT : TabOk P T) {o1 o2 : Oper} {t e e2 : TypeId} {bb nf : Nat} {fs : List (Bool × Sh)} {cm : Bool} {ats : Array TypeId} {st st1 st2 : St} {g j lo rs es ls dr d1 d2 : Nat} {q : Path} {m : List (List Int)} {ys : List Int}
    (ht : tget T t = some ⟨.sl e (.int .i64), false, bb, nf, fs, cm⟩) (e1 : o1.op = .slice t (.tmp es) (some (.tmp ls)) none none) (k1 : o1.dst = some d1) (e2' : o2.op = .call ⟨.builtin .copy, #[.tmp d1, .tmp dr], ats⟩) (e3 : ats = #[t, t]) (k2 : o2.dst = some d2)
    (hr : ref st (.tmp rs) = .h false g q) (he : ref st (.tmp es) = .h false g (q ++ [.el j])) (hl : ref st (.tmp ls) = .v false (.int .i64) (lo : Int)) (hd : ref st (.tmp dr) = .v false (.sl e (.int .i64)) ys)
    (hlook : look st g q = some ⟨.sl e2 (.sl e (.int .i64)), .own, m⟩) (hj : j < m.length) (hy1 : 1 ≤ ys.length) (hy : lo + ys.length ≤ (m.getD j []).length)
    (h1 : put st g q (.sl e2 (.sl e (.int .i64))) .junk m hitS = some st1) (h2 : put st1 g q (.sl e2 (.sl e (.int .i64))) .own (m.set j ((m.getD j []).take lo ++ ys ++ (m.getD j []).drop (lo + ys.length))) hitS = some st2)
    (s1 : st.set d1 .dead = st) (s2 : st2.set d2 .dead = st2) (hn1 : st.at d1 = .dead) (hn2 : st2.at d2 = .dead) (hd12 : dr ≠ d1) (hdl : d1 < st.length) : Does2 P o1 o2 st st2 := by
  intro L a w next Q h hk
  obtain ⟨hu, ti, z, i1, i2, i3, i4, hpos⟩ := (hT t _ ht).sl e (.int .i64) rfl rfl
  have i2 : ti.size = 1 := i2
  have hz : ∀ w, (sizeOf e).run P w = .ok 1 w := fun w => by rw [run_size i1, i2]
  have vr := h.opnd (.tmp rs)
  rw [hr] at vr
  obtain ⟨sq, cs1, ad1, hP, hm1, _⟩ := vr
  obtain rfl := hP.shape hlook
  have hcs1 : cs1 = [a.eval (.tmp rs)] := by simpa [mkV] using hm1
  have ve := h.opnd (.tmp es)
  rw [he] at ve
  obtain ⟨s9, cs9, ad9, hP9, hm9, _⟩ := ve
  have hcs9 : cs9 = [a.eval (.tmp es)] := by simpa [mkV] using hm9
  have vl : a.eval (.tmp ls) = .int .i64 (lo : Int) := by
    have := h.opnd (.tmp ls)
    rw [hl] at this
    exact this.int
  obtain ⟨csd, md, rd⟩ : ∃ cs, mkV false cs (a.eval (.tmp dr)) ∧ Rep w L.Z (.sl e (.int .i64)) .fz ys cs (fun _ => False) := by
    have := h.opnd (.tmp dr)
    rw [hd] at this
    exact this
  obtain rfl : csd = [a.eval (.tmp dr)] := by simpa [mkV] using md
  obtain ⟨k, s0, f0, x0, hg, hOk, hget, hsub⟩ := id hP
  obtain ⟨k', s0', f0', x0', hg', hOk', hget', hsub'⟩ := id hP9
  rw [hg] at hg'
  cases hg'
  have hl' : get s0 f0 x0 q = some ⟨.sl e2 (.sl e (.int .i64)), .own, m⟩ := by unfold look at hlook; rw [hg] at hlook; exact hlook
  rw [sub_at [.el j] q hl' hsub, hcs1, hcs9] at hsub'
  obtain ⟨f1, x1, b1, B1, b2, b3, _⟩ := h.put hg hP
  rw [hl'] at b1
  cases Option.some.inj b1
  have hF : ∀ b, L.F g b → b < w.heap.size := fun b hb => (h.flt g b hb).1
  have el : ∀ B : Nat → Prop, Rep w L.Z (.sl e2 (.sl e (.int .i64))) .own m cs1 B → (∀ b, B b → L.F g b) → ∃ Bi : Nat → Prop, (∀ b, Bi b → B b) ∧ Rep w L.Z (.sl e (.int .i64)) .own (m.getD j []) [a.eval (.tmp es)] Bi ∧
      ∀ (w' : World) (y : List Int), ExtF w w' Bi → Rep w' L.Z (.sl e (.int .i64)) .own y [a.eval (.tmp es)] Bi → Rep w' L.Z (.sl e2 (.sl e (.int .i64))) .own (m.set j y) cs1 B := fun B hB hBF => by
    rw [hcs1] at hB ⊢
    obtain ⟨A, c, u, Bi, u1, u2, u3, u4, u5⟩ := own_el (e := e2) (e2 := e) (s2 := .int .i64) hj (fun b hb => hF b (hBF b hb)) hB
    have hu' : [u] = [a.eval (.tmp es)] := by
      rw [u1] at hsub'
      simp only [sub] at hsub'
      have h9 : rowCells w (A.add (j * (Sh.sl e (.int .i64)).size)) (Sh.sl e (.int .i64)).size = [u] := u2
      rw [h9] at hsub'
      exact (Prod.mk.inj (Option.some.inj hsub')).1
    rw [hu'] at u4 u5
    refine ⟨Bi, u3, u4, fun w' y hx hy => ?_⟩
    have := u5 w' y Bi _ (fun _ h => h) hx hy (fun b hb => .inl hb) (fun b hb => ⟨h.zlt b hb, fun hB' => (h.flt g b (hBF b hB')).2 hb⟩)
    have hp : (fun b => (B b ∧ ¬ Bi b) ∨ Bi b) = B := by
      funext b
      exact propext ⟨fun q => q.elim (fun q => q.1) (u3 b), fun q => (Classical.em (Bi b)).elim .inr fun k => .inl ⟨q, k⟩⟩
    rw [hp] at this
    exact this
  obtain ⟨Bi, _, v2, _⟩ := el B1 b3 b2
  obtain ⟨A, c, hval, hcap, _⟩ := OwnR.take v2
  have hcap : (m.getD j []).length ≤ c := hcap
  refine ⟨sliced A lo (m.getD j []).length c 1, ?_, ?_⟩
  · have hlo : lo ≤ (m.getD j []).length := by omega
    generalize (m.getD j []).length = N at *
    simp [execOp, e1, vl, hval, run_slice_gen (P := P) hu hz A N c (some (.int .i64 (lo : Int))) none lo N (.inr ⟨_, rfl⟩) (.inl ⟨rfl, rfl⟩) hlo hcap]
  have r0 := h.setO (d := d1) (v := sliced A lo (m.getD j []).length c 1) (by rw [hn1]; rfl) (pv := .dead) rfl trivial
  rw [s1] at r0
  have hsz : d1 < a.tmps.size := by rw [h.size]; exact hdl
  have y1 : (a.put (some d1) (sliced A lo (m.getD j []).length c 1)).eval (.tmp d1) = sliced A lo (m.getD j []).length c 1 := by
    have := getD_put (t := d1) (v := sliced A lo (m.getD j []).length c 1) hsz
    rw [if_pos rfl] at this
    exact this
  have y2 : (a.put (some d1) (sliced A lo (m.getD j []).length c 1)).eval (.tmp dr) = a.eval (.tmp dr) := by
    have := getD_put (t := dr) (v := sliced A lo (m.getD j []).length c 1) hsz
    rw [if_neg hd12] at this
    exact this
  rw [k1]
  generalize a.put (some d1) (sliced A lo (m.getD j []).length c 1) = a1 at r0 y1 y2 ⊢
  obtain ⟨g1, g2⟩ := run_headFz (P := P) hy1 (Nat.le_refl _) rd
  rw [List.take_length] at g2
  have go : ∀ B : Nat → Prop, Rep w L.Z (.sl e2 (.sl e (.int .i64))) .own m cs1 B → (∀ b, B b → L.F g b) → ∃ w', (Builtin.copy_ ats o2.type #[sliced A lo (m.getD j []).length c 1, a.eval (.tmp dr)]).run P w = .ok (goInt ys.length) w' ∧ ExtF w w' B ∧ Rep w' L.Z (.sl e2 (.sl e (.int .i64))) .own (m.set j ((m.getD j []).take lo ++ ys ++ (m.getD j []).drop (lo + ys.length))) cs1 B := fun B hB hBF => by
    obtain ⟨Bi, w1, w2, w3⟩ := el B hB hBF
    obtain ⟨w', c1, c2, c3, c4⟩ := run_copyInts (P := P) (ats := ats) (ty := o2.type) (ys := ys) (i := lo) hu (by rw [e3]; rfl) i1 i2 w2 hval hy hy1 (by show min ys.length ((m.getD j []).length - lo) = ys.length; omega) g1 g2
    exact ⟨w', c1, ⟨c2.os, c2.tape, c2.output, c2.size, fun b hb hn => c2.block b hb (fun k => hn (w1 b k))⟩, w3 w' _ c2 c4⟩
  obtain ⟨w', c1, c2, c3⟩ := go B1 b3 b2
  have x2 : (execOp a1.eval o2).run P w = .ok (.value (goInt ys.length)) w' := by
    have hb : ∀ cs u v, builtin .copy ats o2.type cs #[u, v] = (do pure (.value (← Builtin.copy_ ats o2.type #[u, v]))) := fun cs u v => rfl
    generalize sliced A lo (m.getD j []).length c 1 = V at y1 c1
    simp [execOp, e2', resolve, invoke, y1, y2, hb, c1]
  obtain ⟨L', z1, z2⟩ := r0.turnP hP hlook h1 h2 (w' := w') fun B hB hBF => by
    obtain ⟨w9, y1, y2, y3⟩ := go B hB hBF
    rw [c1] at y1
    obtain rfl : w' = w9 := by injection y1
    exact ⟨y2, y3⟩
  unfold Oper.wp
  rw [x2, Oper.upon_value, k2]
  have z3 := z2.setO (d := d2) (v := goInt ys.length) (by rw [hn2]; rfl) (pv := .dead) rfl trivial
  rw [s2] at z3
  exact hk L' _ w' z1 z3
end
end Go.Proofs.YtoeblmcibheldaaGreatDoor.V
end
section
namespace Go.Proofs.YtoeblmcibheldaaGreatDoor.V.W
open Go Go.RowKit
/-- a row with words laid over it -/
def over (row : List Int) (lo : Nat) (d : List Int) : List Int := row.take lo ++ d ++ row.drop (lo + d.length)
/-- what is stored -/
def storeW (x : Fab) (fr a : Int) (d : List Int) : Fab × Int :=
 if words d = true then
  if (targetOf x fr a d.length).2 = 0 then
   ((x.1, x.2.1, x.2.2.1, x.2.2.2.1.set (targetOf x fr a d.length).1.toNat (over (x.2.2.2.1.getD (targetOf x fr a d.length).1.toNat []) (IntKind.i64.wrap (a - (x.2.2.1.getD (targetOf x fr a d.length).1.toNat zb).2)).toNat d), x.2.2.2.2), 0)
  else (x, (targetOf x fr a d.length).2)
 else (x, 1)
abbrev rFI (p : Fab × Int) : PV := .root (.tup [true, false]) (.pr sFi (.int .i64)) (.pr fFab .fz) p
set_option maxRecDepth 20000 in
set_option maxHeartbeats 4000000 in
theorem storeWords_vc (x : Fab) (fr a : Int) (d : List Int) (hx : FabL x) (hgl : x.2.2.2.2.length ≤ 2000000) (ha : a ≤ 9223372036854775807) (hd : d.length ≤ 2000000) : VC Tryz.prog 108 [.v true sFi x, .v false (.int .i64) (fr), .v false (.int .i64) (a), .v false sI d] (· = rFI (storeW x fr a d)) := by
 refine VC.of_body hT Tryz.func108 rfl (by kernel_rfl) [(.cell 8 32, true, sFi), (.tmp 9, false, .int .i64)] (by kernel_rfl) ?_
 have htv := targetOf_vc x fr a d.length hx
 have hcp := copyFabric_vc x hx hgl
 generalize hr : storeW x fr a d = r
 rw [storeW] at hr
 obtain ⟨t, s, b, m, g⟩ := x
 have hg : ∀ k : Int, targetOf (t, s, b, m, g) fr a d.length = (k, 0) → _ := fun k h => target_good h ha
 generalize targetOf (t, s, b, m, g) fr a d.length = p at *
 obtain ⟨k, c⟩ := p
 show VW _ _ ([.v true sFi (t, s, b, m, g), .v false (.int .i64) (fr), .v false (.int .i64) (a), .v false sI d, D, D, D, D, D, D, D, D, D, D, D, D, D, D, D, D, D, D, D, D, D, D, D, D, D, D, D, D, D, D, D, D, D, D, D, D, D, D, D, D, D, D, D, D]) _
 repeat refine VW.seq ?_
 refine VW.regl hT fun K hK => ?_
 simp only [wq, simprocAttr]
 refine hK _ ?_
 clear hK K
 try refine vthen_n ?_
 repeat refine VW.seq ?_
 refine VW.regl hT fun K hK => ?_
 simp only [wq, simprocAttr]
 refine vcall_of hcp ?_
 simp only [wq, simprocAttr]
 refine hK _ ?_
 clear hK K
 try refine vthen_n ?_
 repeat refine VW.seq ?_
 refine VW.regl hT fun K hK => ?_
 simp only [wq, simprocAttr]
 refine vcall_of (areWords_vc d hd) ?_
 simp only [wq, simprocAttr]
 refine hK _ ?_
 clear hK K
 try refine vthen_n ?_
 repeat refine VW.seq ?_
 refine VW.cond rfl (fun hc => ?_) (fun hc => ?_)
 ·have hc : words d = false := (Bool.not_eq_true' _).mp hc
  repeat refine VW.seq ?_
  refine VW.regl hT fun K hK => ?_
  simp only [wq, simprocAttr]
  refine hK _ ?_
  clear hK K
  try refine vthen_n ?_
  refine VW.ret ⟨.inl rfl, _, rfl, ?_⟩
  rw [← hr, if_neg (by rw [hc]; decide)]
 have hc : words d = true := by
  have := hc
  rwa [Bool.not_eq_false'] at this
 rw [if_pos hc] at hr
 refine VW.skip (vthen_n ?_)
 repeat refine VW.seq ?_
 refine VW.regl hT fun K hK => ?_
 simp only [wq, simprocAttr]
 refine vcall_of htv ?_
 simp only [wq, simprocAttr]
 refine hK _ ?_
 clear hK K
 try refine vthen_n ?_
 repeat refine VW.seq ?_
 refine VW.regl hT fun K hK => ?_
 simp only [wq, simprocAttr]
 refine hK _ ?_
 clear hK K
 try refine vthen_n ?_
 repeat refine VW.seq ?_
 refine VW.cond rfl (fun hc => ?_) (fun hc => ?_)
 case refine_2 =>
  rw [if_neg (by simpa using hc)] at hr
  refine VW.skip ?_
  show vthen _ _ _ .normal _
  refine vthen_n ?_
  repeat refine VW.seq ?_
  refine VW.regl hT fun K hK => ?_
  simp only [wq, simprocAttr]
  refine hK _ ?_
  clear hK K
  try refine vthen_n ?_
  refine VW.ret ⟨.inl rfl, _, rfl, ?_⟩
  rw [← hr]
 have hc : c = 0 := by simpa using hc
 subst hc
 rw [if_pos rfl] at hr
 obtain ⟨j, lo, n, rfl, hdn, h1, h2, h3, h4, h5, h6, hf⟩ := hg k rfl
 obtain rfl : d.length = n := by omega
 have hr : ((t, s, b, m.set ((j : Int)).toNat (over (m.getD ((j : Int)).toNat []) (IntKind.i64.wrap (a - (b.getD ((j : Int)).toNat zb).2)).toNat d), g), (0 : Int)) = r := hr
 rw [Int.toNat_natCast, h3, Int.toNat_natCast] at hr
 have hJ : decide (0 ≤ (j : Int) ∧ (j : Int) < (m.length : Int)) = true := decide_eq_true ⟨Int.natCast_nonneg _, by omega⟩
 have hJb : decide (0 ≤ (j : Int) ∧ (j : Int) < (b.length : Int)) = true := decide_eq_true ⟨Int.natCast_nonneg _, by omega⟩
 repeat refine VW.seq ?_
 refine VW.any hT hm fun K hK W hW => ?_
 apply cutl; intro tK
 apply cutl; intro t65535
 apply cutl; intro t24575
 apply cutl; intro t24559
 apply cutl; intro t20479
 apply cutl; intro t24551
 apply cutl; intro t20463
 apply cutl; intro t18431
 apply cutl; intro t24549
 apply cutl; intro t20455
 apply cutl; intro t18415
 apply cutl; intro t17407
 apply cutl; intro t20453
 apply cutl; intro t18407
 apply cutl; intro t17391
 apply cutl; intro t16895
 apply cutl; intro t18405
 apply cutl; intro t17383
 apply cutl; intro t16879
 apply cutl; intro t16767
 apply cutl; intro t17381
 apply cutl; intro t16871
 apply cutl; intro t16751
 apply cutl; intro t16869
 apply cutl; intro t16743
 ·refine hW.takeF 0 0 1 _ (by kernel_rfl) ?_
  simp only [wy, wq, simprocAttr]
  refine hW.take 1 2 5 _ (by kernel_rfl) ?_
  simp only [wy, wq, simprocAttr]
  refine hW.take 5 5 37 _ (by kernel_rfl) ?_
  simp only [wy, wq, simprocAttr]
  refine hW.takeF 37 6 101 _ (by kernel_rfl) ?_
  simp only [wy, wq, simprocAttr]
  refine hW.take 101 8 357 _ (by kernel_rfl) ?_
  simp only [wy, wq, simprocAttr]
  refine hW.take 357 14 16741 _ (by kernel_rfl) ?_
  simp only [wy, wq, simprocAttr]
  refine hW.all 16741 [(1, 16743), (7, 16869)] _ (by kernel_rfl) (by simp) ?_
  simp only [wy, wq, simprocAttr]
  exact ⟨t16743.h, t16869.h⟩
 ·refine hW.all 16743 [(3, 16751), (7, 16871)] _ (by kernel_rfl) (by simp) ?_
  simp only [wy, wq, simprocAttr]
  exact ⟨⟨hJ, t16751.h⟩, t16871.h⟩
 ·refine hW.all 16869 [(1, 16871), (9, 17381)] _ (by kernel_rfl) (by simp) ?_
  simp only [wy, wq, simprocAttr]
  exact ⟨t16871.h, ⟨hJb, t17381.h⟩⟩
 ·refine hW.all 16751 [(4, 16767), (7, 16879)] _ (by kernel_rfl) (by simp) ?_
  simp only [wy, wq, simprocAttr]
  exact ⟨t16767.h, t16879.h⟩
 ·refine hW.all 16871 [(3, 16879), (9, 17383)] _ (by kernel_rfl) (by simp) ?_
  simp only [wy, wq, simprocAttr]
  exact ⟨⟨hJ, t16879.h⟩, ⟨hJb, t17383.h⟩⟩
 ·refine hW.all 17381 [(1, 17383), (10, 18405)] _ (by kernel_rfl) (by simp) ?_
  simp only [wy, wq, simprocAttr]
  exact ⟨t17383.h, t18405.h⟩
 ·refine hW.all 16767 [(7, 16895)] _ (by kernel_rfl) (by simp) ?_
  simp only [wy, wq, simprocAttr]
  exact t16895.h
 ·refine hW.all 16879 [(4, 16895), (9, 17391)] _ (by kernel_rfl) (by simp) ?_
  simp only [wy, wq, simprocAttr]
  exact ⟨t16895.h, ⟨hJb, t17391.h⟩⟩
 ·refine hW.all 17383 [(3, 17391), (10, 18407)] _ (by kernel_rfl) (by simp) ?_
  simp only [wy, wq, simprocAttr]
  exact ⟨⟨hJ, t17391.h⟩, t18407.h⟩
 ·refine hW.all 18405 [(1, 18407), (11, 20453)] _ (by kernel_rfl) (by simp) ?_
  simp only [wy, wq, simprocAttr]
  exact ⟨t18407.h, t20453.h⟩
 ·refine hW.all 16895 [(9, 17407)] _ (by kernel_rfl) (by simp) ?_
  simp only [wy, wq, simprocAttr]
  exact ⟨hJb, t17407.h⟩
 ·refine hW.all 17391 [(4, 17407), (10, 18415)] _ (by kernel_rfl) (by simp) ?_
  simp only [wy, wq, simprocAttr]
  exact ⟨t17407.h, t18415.h⟩
 ·refine hW.all 18407 [(3, 18415), (11, 20455)] _ (by kernel_rfl) (by simp) ?_
  simp only [wy, wq, simprocAttr]
  exact ⟨⟨hJ, t18415.h⟩, t20455.h⟩
 ·refine hW.all 20453 [(1, 20455), (12, 24549)] _ (by kernel_rfl) (by simp) ?_
  simp only [wy, wq, simprocAttr]
  exact ⟨t20455.h, t24549.h⟩
 ·refine hW.all 17407 [(10, 18431)] _ (by kernel_rfl) (by simp) ?_
  simp only [wy, wq, simprocAttr]
  exact t18431.h
 ·refine hW.all 18415 [(4, 18431), (11, 20463)] _ (by kernel_rfl) (by simp) ?_
  simp only [wy, wq, simprocAttr]
  exact ⟨t18431.h, t20463.h⟩
 ·refine hW.all 20455 [(3, 20463), (12, 24551)] _ (by kernel_rfl) (by simp) ?_
  simp only [wy, wq, simprocAttr]
  exact ⟨⟨hJ, t20463.h⟩, t24551.h⟩
 ·refine hW.all 24549 [(1, 24551)] _ (by kernel_rfl) (by simp) ?_
  simp only [wy, wq, simprocAttr]
  exact t24551.h
 ·refine hW.all 18431 [(11, 20479)] _ (by kernel_rfl) (by simp) ?_
  simp only [wy, wq, simprocAttr]
  exact t20479.h
 ·refine hW.all 20463 [(4, 20479), (12, 24559)] _ (by kernel_rfl) (by simp) ?_
  simp only [wy, wq, simprocAttr]
  exact ⟨t20479.h, t24559.h⟩
 ·refine hW.all 24551 [(3, 24559)] _ (by kernel_rfl) (by simp) ?_
  simp only [wy, wq, simprocAttr]
  exact ⟨hJ, t24559.h⟩
 ·refine hW.all 20479 [(12, 24575)] _ (by kernel_rfl) (by simp) ?_
  simp only [wy, wq, simprocAttr]
  exact t24575.h
 ·refine hW.all 24559 [(4, 24575)] _ (by kernel_rfl) (by simp) ?_
  simp only [wy, wq, simprocAttr]
  exact t24575.h
 ·refine hW.two 24575 13 15 65535 _ ?s2 _ _ rfl rfl rfl rfl (by kernel_rfl) (does2_copy hT (st1 := ?s1) (st2 := ?s2) (g := 10) (j := j) (lo := lo) (rs := 31) (es := 34) (ls := 42) (dr := 44) (d1 := 43) (d2 := 45) (q := [.r, .r, .r, .l]) (m := m) (ys := d) rfl rfl rfl rfl rfl rfl rfl rfl ?hl rfl rfl h1 h4 h5 ?h1 ?h2 rfl ?hs rfl ?hn (by decide) (Nat.le_of_ble_eq_true rfl)) ?hk
  case hl =>
   show PV.v false (.int .i64) (IntKind.i64.wrap (a - (b.getD j zb).2)) = _
   rw [h3]
  case h1 =>
   simp only [wq, simprocAttr]
   rfl
  case h2 =>
   simp only [wq, simprocAttr]
   rfl
  case hs => rfl
  case hn => rfl
  exact t65535.h
 ·refine hW.done 65535 _ (by kernel_rfl) ?_
  exact tK.h
 refine hK _ ?_
 clear hW W hK K
 show vthen _ _ _ .normal _
 refine vthen_n ?_
 repeat refine VW.seq ?_
 refine VW.regl hT fun K hK => ?_
 simp only [wq, simprocAttr]
 refine hK _ ?_
 clear hK K
 try refine vthen_n ?_
 refine VW.ret ⟨.inl rfl, _, rfl, ?_⟩
 rw [← hr]
 rfl
end Go.Proofs.YtoeblmcibheldaaGreatDoor.V.W
end
section
namespace Go.Proofs.YtoeblmcibheldaaGreatDoor.V.W
open Go Go.RowKit
end Go.Proofs.YtoeblmcibheldaaGreatDoor.V.W
end
section
namespace Go.Proofs.YtoeblmcibheldaaGreatDoor.V.W
open Go Go.RowKit
theorem over_len {row d : List Int} {lo : Nat} (h : lo + d.length ≤ row.length) : (over row lo d).length = row.length := by
 simp only [over, List.length_append, List.length_take, List.length_drop]; omega
end Go.Proofs.YtoeblmcibheldaaGreatDoor.V.W
end
section
namespace Go.Proofs.YtoeblmcibheldaaGreatDoor.V.W
open Go Go.RowKit
/-- a guard with a node set -/
def setG (t : List Nd) (g : List Bool) (k : Int) (o : Bool) : List Bool × Bool := if (guardOk t g && (inB k 1 (t.length - 1) && !(g.getD k.toNat false == o))) = true then (g.set k.toNat o, true) else (g, false)
theorem setG_len (t : List Nd) (g : List Bool) (k : Int) (o : Bool) : (setG t g k o).1.length = g.length := by
 rw [setG]
 split
 ·exact List.length_set
 ·rfl
theorem guard_len {t : List Nd} {g : List Bool} (h : guardOk t g = true) : g.length = t.length ∧ treeOk t = true := by
 rw [guardOk, Bool.and_eq_true, Bool.and_eq_true] at h
 exact ⟨eq_of_beq h.2.1, h.1⟩
abbrev rG (p : List Bool × Bool) : PV := .root (.tup [true, false]) (.pr sG .bool) (.pr .own .fz) p
set_option maxRecDepth 20000 in
set_option maxHeartbeats 1000000 in
theorem setNode_vc (t : List Nd) (g : List Bool) (k : Int) (o : Bool) (hl : t.length ≤ 2000000) (hg : g.length ≤ 2000000) : VC Tryz.prog 146 [.v false sNS t, .v true sG g, .v false (.int .i64) (k), .v false .bool (o)] (· = rG (setG t g k o)) := by
 refine VC.of_body hT Tryz.func146 rfl (by kernel_rfl) [(.cell 8 30, true, sG), (.tmp 9, false, .bool)] (by kernel_rfl) ?_
 generalize hr : setG t g k o = r
 rw [setG] at hr
 show VW _ _ ([.v false sNS t, .v true sG g, .v false (.int .i64) (k), .v false .bool (o), D, D, D, D, D, D, D, D, D, D, D, D, D, D, D, D, D, D, D, D, D, D, D, D, D, D, D, D, D, D, D, D, D, D, D, D, D, D, D]) _
 repeat refine VW.seq ?_
 refine VW.regl hT fun K hK => ?_
 simp only [wq, simprocAttr]
 refine hK _ ?_
 clear hK K
 try refine vthen_n ?_
 repeat refine VW.seq ?_
 refine VW.regl hT fun K hK => ?_
 simp only [wq, simprocAttr]
 refine vcall_of (cloneBo_vc g hg) ?_
 simp only [wq, simprocAttr]
 refine hK _ ?_
 clear hK K
 try refine vthen_n ?_
 repeat refine VW.seq ?_
 refine VW.regl hT fun K hK => ?_
 simp only [wq, simprocAttr]
 refine vcall_of (guardOk_vc t g hl) ?_
 simp only [wq, simprocAttr]
 refine vbr (fun h => ?_) (fun h => ?_) <;> simp only [wq, simprocAttr]
 case refine_2 =>
  have h : guardOk t g = false := (Bool.not_eq_true' _).mp h
  refine hK _ ?_
  clear hK K
  try refine vthen_n ?_
  repeat refine VW.seq ?_
  refine VW.cond rfl (fun hc => ?_) (fun hc => ?_)
  ·repeat refine VW.seq ?_
   refine VW.regl hT fun K hK => ?_
   simp only [wq, simprocAttr]
   refine hK _ ?_
   clear hK K
   try refine vthen_n ?_
   refine VW.ret ⟨.inl rfl, _, rfl, ?_⟩
   rw [← hr, if_neg (by rw [h]; simp)]
  ·cases hc
 have hgo : guardOk t g = true := by
  have := h
  rwa [Bool.not_eq_false'] at this
 obtain ⟨hgl, hok⟩ := guard_len hgo
 have htl := treeOk_len hok
 rw [wrap64 (by omega) (by omega)]
 refine vcall_of (within_vc k 1 (t.length - 1)) ?_
 simp only [wq, simprocAttr]
 refine vbr (fun h => ?_) (fun h => ?_) <;> simp only [wq, simprocAttr]
 case refine_2 =>
  have h : inB k 1 (t.length - 1) = false := (Bool.not_eq_true' _).mp h
  refine hK _ ?_
  clear hK K
  try refine vthen_n ?_
  repeat refine VW.seq ?_
  refine VW.cond rfl (fun hc => ?_) (fun hc => ?_)
  ·repeat refine VW.seq ?_
   refine VW.regl hT fun K hK => ?_
   simp only [wq, simprocAttr]
   refine hK _ ?_
   clear hK K
   try refine vthen_n ?_
   refine VW.ret ⟨.inl rfl, _, rfl, ?_⟩
   rw [← hr, if_neg (by rw [h]; simp)]
  ·cases hc
 have hin : inB k 1 (t.length - 1) = true := by
  have := h
  rwa [Bool.not_eq_false'] at this
 have hk := inB_iff.1 hin
 have hkg : decide (0 ≤ k ∧ k < (g.length : Int)) = true := decide_eq_true ⟨by omega, by omega⟩
 refine ⟨hkg, ?_⟩
 refine hK _ ?_
 clear hK K
 try refine vthen_n ?_
 repeat refine VW.seq ?_
 refine VW.cond rfl (fun hc => ?_) (fun hc => ?_)
 ·have hc : (g.getD k.toNat false == o) = true := hc
  repeat refine VW.seq ?_
  refine VW.regl hT fun K hK => ?_
  simp only [wq, simprocAttr]
  refine hK _ ?_
  clear hK K
  try refine vthen_n ?_
  refine VW.ret ⟨.inl rfl, _, rfl, ?_⟩
  rw [← hr, if_neg (by rw [hc]; simp)]
 have hc : (g.getD k.toNat false == o) = false := hc
 refine VW.skip (vthen_n ?_)
 repeat refine VW.seq ?_
 refine VW.regl hT fun K hK => ?_
 simp only [wq, simprocAttr]
 refine ⟨hkg, ?_⟩
 refine hK _ ?_
 clear hK K
 try refine vthen_n ?_
 repeat refine VW.seq ?_
 refine VW.regl hT fun K hK => ?_
 simp only [wq, simprocAttr]
 refine hK _ ?_
 clear hK K
 try refine vthen_n ?_
 refine VW.ret ⟨.inl rfl, _, rfl, ?_⟩
 rw [← hr, if_pos (by rw [hgo, hin, hc]; rfl)]
theorem cutNode_vc (t : List Nd) (g : List Bool) (k : Int) (hl : t.length ≤ 2000000) (hg : g.length ≤ 2000000) : VC Tryz.prog 110 [.v false sNS t, .v true sG g, .v false (.int .i64) (k)] (· = rG (setG t g k false)) := by
 refine VC.of_body hT Tryz.func110 rfl (by kernel_rfl) [(.cell 6 30, true, sG), (.tmp 7, false, .bool)] (by kernel_rfl) ?_
 show VW _ _ ([.v false sNS t, .v true sG g, .v false (.int .i64) (k), D, D, D, D, D, D, D, D, D, D, D]) _
 repeat refine VW.seq ?_
 refine VW.regl hT fun K hK => ?_
 simp only [wq, simprocAttr]
 refine hK _ ?_
 clear hK K
 try refine vthen_n ?_
 repeat refine VW.seq ?_
 refine VW.regl hT fun K hK => ?_
 simp only [wq, simprocAttr]
 refine vcall_of (setNode_vc t g k false hl hg) ?_
 simp only [wq, simprocAttr]
 refine hK _ ?_
 clear hK K
 try refine vthen_n ?_
 exact VW.ret ⟨.inl rfl, _, rfl, rfl⟩
theorem openNode_vc (t : List Nd) (g : List Bool) (k : Int) (hl : t.length ≤ 2000000) (hg : g.length ≤ 2000000) : VC Tryz.prog 111 [.v false sNS t, .v true sG g, .v false (.int .i64) (k)] (· = rG (setG t g k true)) := by
 refine VC.of_body hT Tryz.func111 rfl (by kernel_rfl) [(.cell 6 30, true, sG), (.tmp 7, false, .bool)] (by kernel_rfl) ?_
 show VW _ _ ([.v false sNS t, .v true sG g, .v false (.int .i64) (k), D, D, D, D, D, D, D, D, D, D, D]) _
 repeat refine VW.seq ?_
 refine VW.regl hT fun K hK => ?_
 simp only [wq, simprocAttr]
 refine hK _ ?_
 clear hK K
 try refine vthen_n ?_
 repeat refine VW.seq ?_
 refine VW.regl hT fun K hK => ?_
 simp only [wq, simprocAttr]
 refine vcall_of (setNode_vc t g k true hl hg) ?_
 simp only [wq, simprocAttr]
 refine hK _ ?_
 clear hK K
 try refine vthen_n ?_
 exact VW.ret ⟨.inl rfl, _, rfl, rfl⟩
theorem one_vc (b : Bool) : VC Tryz.prog 30 [.v false .bool (b)] (· = .v false (.int .i64) (if b = true then 1 else 0)) := by
 refine VC.of_body hT Tryz.func30 rfl (by kernel_rfl) [(.tmp 2, false, .int .i64)] (by kernel_rfl) ?_
 show VW _ _ ([.v false .bool (b), D, D, D]) _
 repeat refine VW.seq ?_
 refine VW.regl hT fun K hK => ?_
 simp only [wq, simprocAttr]
 refine hK _ ?_
 clear hK K
 try refine vthen_n ?_
 repeat refine VW.seq ?_
 refine VW.regl hT fun K hK => ?_
 simp only [wq, simprocAttr]
 refine hK _ ?_
 clear hK K
 try refine vthen_n ?_
 repeat refine VW.seq ?_
 refine VW.cond rfl (fun hc => ?_) (fun hc => ?_)
 ·have hc : b = true := hc
  subst hc
  repeat refine VW.seq ?_
  refine VW.regl hT fun K hK => ?_
  simp only [wq, simprocAttr]
  refine hK _ ?_
  clear hK K
  try refine vthen_n ?_
  exact VW.ret ⟨.inl rfl, _, rfl, rfl⟩
 have hc : b = false := hc
 subst hc
 refine VW.skip (vthen_n ?_)
 repeat refine VW.seq ?_
 refine VW.regl hT fun K hK => ?_
 simp only [wq, simprocAttr]
 refine hK _ ?_
 clear hK K
 try refine vthen_n ?_
 exact VW.ret ⟨.inl rfl, _, rfl, rfl⟩
abbrev sAct : Sh := .pr (.int .i64) (.pr (.int .i64) (.pr (.int .i64) (.int .i64)))
abbrev Ac : Type := Int × Int × Int × Int
/-- an act that may be -/
def actOk (a : Ac) : Bool := inB a.2.1 0 11 && (if a.1 = 1 then inB a.2.2.1 0 65535 && inB a.2.2.2 0 65535 else if a.1 = 2 then inB a.2.2.1 0 65535 && a.2.2.2 == 0 else if a.1 = 3 ∨ a.1 = 4 then a.2.2.1 == 0 && a.2.2.2 == 0 else false)
set_option maxRecDepth 20000 in
set_option maxHeartbeats 1000000 in
theorem actOk_vc (a : Ac) : VC Tryz.prog 96 [.v true sAct a] (· = .v false .bool (actOk a)) := by
 refine VC.of_body hT Tryz.func96 rfl (by kernel_rfl) [(.tmp 2, false, .bool)] (by kernel_rfl) ?_
 generalize hr : actOk a = r
 obtain ⟨kd, nd, x, y⟩ := a
 have hr : (inB nd 0 11 && (if kd = 1 then inB x 0 65535 && inB y 0 65535 else if kd = 2 then inB x 0 65535 && y == 0 else if kd = 3 ∨ kd = 4 then x == 0 && y == 0 else false)) = r := hr
 show VW _ _ ([.v true sAct (kd, nd, x, y), D, D, D, D, D, D, D, D, D, D, D, D, D, D, D, D, D, D, D, D, D, D, D, D, D, D, D, D, D, D, D, D, D, D, D, D, D, D, D]) _
 repeat refine VW.seq ?_
 refine VW.regl hT fun K hK => ?_
 simp only [wq, simprocAttr]
 refine hK _ ?_
 clear hK K
 try refine vthen_n ?_
 repeat refine VW.seq ?_
 refine VW.regl hT fun K hK => ?_
 simp only [wq, simprocAttr]
 refine vcall_of (within_vc nd 0 11) ?_
 simp only [wq, simprocAttr]
 refine hK _ ?_
 clear hK K
 try refine vthen_n ?_
 repeat refine VW.seq ?_
 refine VW.cond rfl (fun hc => ?_) (fun hc => ?_)
 ·have hc : inB nd 0 11 = false := (Bool.not_eq_true' _).mp hc
  repeat refine VW.seq ?_
  refine VW.regl hT fun K hK => ?_
  simp only [wq, simprocAttr]
  refine hK _ ?_
  clear hK K
  try refine vthen_n ?_
  refine VW.ret ⟨.inl rfl, _, rfl, ?_⟩
  rw [← hr, hc, Bool.false_and]
 have hc : inB nd 0 11 = true := by
  have := hc
  rwa [Bool.not_eq_false'] at this
 rw [hc, Bool.true_and] at hr
 refine VW.skip (vthen_n ?_)
 repeat refine VW.seq ?_
 refine VW.regl hT fun K hK => ?_
 simp only [wq, simprocAttr]
 refine hK _ ?_
 clear hK K
 try refine vthen_n ?_
 repeat refine VW.seq ?_
 refine VW.block ?_
 repeat refine VW.seq ?_
 refine VW.regl hT fun K hK => ?_
 simp only [wq, simprocAttr]
 refine hK _ ?_
 clear hK K
 try refine vthen_n ?_
 repeat refine VW.seq ?_
 refine VW.cond rfl (fun hc => ?_) (fun hc => ?_)
 ·have hc : kd = 1 := eq_of_beq hc
  rw [if_pos hc] at hr
  repeat refine VW.seq ?_
  refine VW.regl hT fun K hK => ?_
  simp only [wq, simprocAttr]
  refine vcall_of (within_vc x 0 65535) ?_
  simp only [wq, simprocAttr]
  refine vbr (fun h => ?_) (fun h => ?_) <;> simp only [wq, simprocAttr]
  ·have h : inB x 0 65535 = true := h
   refine vcall_of (isWord_vc y) ?_
   simp only [wq, simprocAttr]
   refine hK _ ?_
   clear hK K
   try refine vthen_n ?_
   refine VW.ret ⟨.inl rfl, _, rfl, ?_⟩
   rw [← hr, h, Bool.true_and]
  ·have h : inB x 0 65535 = false := h
   refine hK _ ?_
   clear hK K
   try refine vthen_n ?_
   refine VW.ret ⟨.inl rfl, _, rfl, ?_⟩
   rw [← hr, h, Bool.false_and]
 have hc : ¬ kd = 1 := fun e => by rw [e] at hc; cases hc
 rw [if_neg hc] at hr
 repeat refine VW.seq ?_
 refine VW.regl hT fun K hK => ?_
 simp only [wq, simprocAttr]
 refine hK _ ?_
 clear hK K
 try refine vthen_n ?_
 repeat refine VW.seq ?_
 refine VW.cond rfl (fun hc => ?_) (fun hc => ?_)
 ·have hc : kd = 2 := eq_of_beq hc
  rw [if_pos hc] at hr
  repeat refine VW.seq ?_
  refine VW.regl hT fun K hK => ?_
  simp only [wq, simprocAttr]
  refine vcall_of (within_vc x 0 65535) ?_
  simp only [wq, simprocAttr]
  refine vbr (fun h => ?_) (fun h => ?_) <;> simp only [wq, simprocAttr]
  ·have h : inB x 0 65535 = true := h
   refine hK _ ?_
   clear hK K
   try refine vthen_n ?_
   refine VW.ret ⟨.inl rfl, _, rfl, ?_⟩
   rw [← hr, h, Bool.true_and]
  ·have h : inB x 0 65535 = false := h
   refine hK _ ?_
   clear hK K
   try refine vthen_n ?_
   refine VW.ret ⟨.inl rfl, _, rfl, ?_⟩
   rw [← hr, h, Bool.false_and]
 have hc : ¬ kd = 2 := fun e => by rw [e] at hc; cases hc
 rw [if_neg hc] at hr
 repeat refine VW.seq ?_
 refine VW.regl hT fun K hK => ?_
 simp only [wq, simprocAttr]
 refine hK _ ?_
 clear hK K
 try refine vthen_n ?_
 repeat refine VW.seq ?_
 refine VW.cond rfl (fun hc => ?_) (fun hc => ?_)
 ·have e3 : kd = 3 := eq_of_beq hc
  refine VW.skip (vthen_n ?_)
  repeat refine VW.seq ?_
  refine VW.cond rfl (fun hc => ?_) (fun hc => ?_)
  ·skip
   rw [if_pos (by omega)] at hr
   repeat refine VW.seq ?_
   refine VW.regl hT fun K hK => ?_
   simp only [wq, simprocAttr]
   refine vbr (fun h => ?_) (fun h => ?_) <;> simp only [wq, simprocAttr]
   ·have h : (x == 0) = true := h
    refine hK _ ?_
    clear hK K
    try refine vthen_n ?_
    refine VW.ret ⟨.inl rfl, _, rfl, ?_⟩
    rw [← hr, h, Bool.true_and]
   ·have h : (x == 0) = false := h
    refine hK _ ?_
    clear hK K
    try refine vthen_n ?_
    refine VW.ret ⟨.inl rfl, _, rfl, ?_⟩
    rw [← hr, h, Bool.false_and]
  exact absurd hc (by rw [e3]; decide)
 have h3 : ¬ kd = 3 := fun e => by rw [e] at hc; cases hc
 repeat refine VW.seq ?_
 refine VW.regl hT fun K hK => ?_
 simp only [wq, simprocAttr]
 refine hK _ ?_
 clear hK K
 try refine vthen_n ?_
 repeat refine VW.seq ?_
 refine VW.cond rfl (fun hc => ?_) (fun hc => ?_)
 ·have hc : kd = 4 := eq_of_beq hc
  rw [if_pos (by omega)] at hr
  repeat refine VW.seq ?_
  refine VW.regl hT fun K hK => ?_
  simp only [wq, simprocAttr]
  refine vbr (fun h => ?_) (fun h => ?_) <;> simp only [wq, simprocAttr]
  ·have h : (x == 0) = true := h
   refine hK _ ?_
   clear hK K
   try refine vthen_n ?_
   refine VW.ret ⟨.inl rfl, _, rfl, ?_⟩
   rw [← hr, h, Bool.true_and]
  ·have h : (x == 0) = false := h
   refine hK _ ?_
   clear hK K
   try refine vthen_n ?_
   refine VW.ret ⟨.inl rfl, _, rfl, ?_⟩
   rw [← hr, h, Bool.false_and]
 have h4 : ¬ kd = 4 := fun e => by rw [e] at hc; cases hc
 rw [if_neg (by omega)] at hr
 refine VW.skip ?_
 show vthen _ _ _ .normal _
 refine vthen_n ?_
 repeat refine VW.seq ?_
 refine VW.regl hT fun K hK => ?_
 simp only [wq, simprocAttr]
 refine hK _ ?_
 clear hK K
 try refine vthen_n ?_
 refine VW.ret ⟨.inl rfl, _, rfl, ?_⟩
 rw [← hr]
end Go.Proofs.YtoeblmcibheldaaGreatDoor.V.W
end
section
namespace Go.Proofs.YtoeblmcibheldaaGreatDoor.V.W
open Go Go.RowKit
/-- an act done -/
def doAct (x : Fab) (a : Ac) : Fab × Int :=
 if (fabOk x && actOk a) = true then
  if a.1 = 1 then storeW x a.2.1 a.2.2.1 [a.2.2.2]
  else if a.1 = 2 then (x, if (loadW x a.2.1 a.2.2.1 1).2 = 0 then (loadW x a.2.1 a.2.2.1 1).1.getD 0 0 else IntKind.i64.wrap (0 - (loadW x a.2.1 a.2.2.1 1).2))
  else ((x.1, x.2.1, x.2.2.1, x.2.2.2.1, (setG x.1 x.2.2.2.2 a.2.1 (a.1 == 4)).1), if (setG x.1 x.2.2.2.2 a.2.1 (a.1 == 4)).2 = true then 1 else 0)
 else (x, -9)
theorem act_addr {a : Ac} (h : actOk a = true) : a.2.2.1 ≤ 65535 := by
 rw [actOk, Bool.and_eq_true] at h
 have h := h.2
 split at h
 ·rw [Bool.and_eq_true] at h
  exact (inB_iff.1 h.1).2
 ·split at h
  ·rw [Bool.and_eq_true] at h
   exact (inB_iff.1 h.1).2
  ·split at h
   ·rw [Bool.and_eq_true] at h
    have := eq_of_beq h.1
    omega
   ·cases h
theorem act_kind {a : Ac} (h : actOk a = true) (h1 : ¬ a.1 = 1) (h2 : ¬ a.1 = 2) : a.1 = 3 ∨ a.1 = 4 := by
 rw [actOk, Bool.and_eq_true] at h
 have h := h.2
 rw [if_neg h1, if_neg h2] at h
 split at h
 ·assumption
 ·cases h
theorem loadW_one (x : Fab) (fr a : Int) (ha : a ≤ 9223372036854775807) (h : (loadW x fr a 1).2 = 0) : (loadW x fr a 1).1.length = 1 := by
 by_cases h0 : (targetOf x fr a 1).2 = 0
 case neg =>
  rw [loadW, if_neg h0] at h
  exact absurd h h0
 rw [loadW, if_pos h0]
 obtain ⟨t, s, b, m, g⟩ := x
 obtain ⟨j, lo, n, e0, h1, h2, h3, h4, h5, h6, h7, h8⟩ := target_good (t := t) (s := s) (b := b) (m := m) (g := g) (fr := fr) (a := a) (l := 1) (k := (targetOf (t, s, b, m, g) fr a 1).1) (Prod.ext rfl h0) ha
 rw [e0, Int.toNat_natCast]
 have h4 : (IntKind.i64.wrap (a - (b.getD j zb).2)).toNat = lo := by rw [h4, Int.toNat_natCast]
 show (List.take 1 (List.drop (IntKind.i64.wrap (a - (b.getD j zb).2)).toNat (m.getD j []))).length = 1
 rw [h4, List.length_take, List.length_drop]
 omega
set_option maxRecDepth 20000 in
set_option maxHeartbeats 4000000 in
theorem doAct_vc (x : Fab) (a : Ac) (hx : FabL x) (hgl : x.2.2.2.2.length ≤ 2000000) : VC Tryz.prog 67 [.v true sFi x, .v true sAct a] (· = rFI (doAct x a)) := by
 refine VC.of_body hT Tryz.func67 rfl (by kernel_rfl) [(.cell 4 32, true, sFi), (.tmp 5, false, .int .i64)] (by kernel_rfl) ?_
 have hcp := copyFabric_vc x hx hgl
 have hfo := fabricOk_vc x hx
 have hao := actOk_vc a
 have haddr := fun h : actOk a = true => act_addr h
 have hkind := fun h : actOk a = true => act_kind h
 generalize hr : doAct x a = r
 rw [doAct] at hr
 have hld := fun h : actOk a = true => loadWords_vc x a.2.1 a.2.2.1 1 hx (by have := haddr h; omega)
 have hlo := fun h : actOk a = true => loadW_one x a.2.1 a.2.2.1 (by have := haddr h; omega)
 have hst := fun h : actOk a = true => storeWords_vc x a.2.1 a.2.2.1 [a.2.2.2] hx hgl (by have := haddr h; omega) (by simp)
 obtain ⟨t, s, b, m, g⟩ := x
 obtain ⟨kd, nd, ax, ay⟩ := a
 have hlt : t.length ≤ 2000000 := hx.a
 have hgl : g.length ≤ 2000000 := hgl
 show VW _ _ ([.v true sFi (t, s, b, m, g), .v true sAct (kd, nd, ax, ay), D, D, D, D, D, D, D, D, D, D, D, D, D, D, D, D, D, D, D, D, D, D, D, D, D, D, D, D, D, D, D, D, D, D, D, D, D, D, D, D, D, D, D, D, D, D, D, D, D, D, D, D, D, D, D, D, D, D, D, D, D, D, D, D, D, D, D, D, D, D, D, D, D, D, D, D, D, D, D, D, D]) _
 repeat refine VW.seq ?_
 refine VW.regl hT fun K hK => ?_
 simp only [wq, simprocAttr]
 refine hK _ ?_
 clear hK K
 try refine vthen_n ?_
 repeat refine VW.seq ?_
 refine VW.regl hT fun K hK => ?_
 simp only [wq, simprocAttr]
 refine vcall_of hcp ?_
 simp only [wq, simprocAttr]
 refine hK _ ?_
 clear hK K
 try refine vthen_n ?_
 repeat refine VW.seq ?_
 refine VW.regl hT fun K hK => ?_
 simp only [wq, simprocAttr]
 refine vcall_of hfo ?_
 simp only [wq, simprocAttr]
 refine vbr (fun h => ?_) (fun h => ?_) <;> simp only [wq, simprocAttr]
 case refine_2 =>
  have h : fabOk (t, s, b, m, g) = false := (Bool.not_eq_true' _).mp h
  refine hK _ ?_
  clear hK K
  try refine vthen_n ?_
  repeat refine VW.seq ?_
  refine VW.cond rfl (fun hc => ?_) (fun hc => ?_)
  ·repeat refine VW.seq ?_
   refine VW.regl hT fun K hK => ?_
   simp only [wq, simprocAttr]
   refine hK _ ?_
   clear hK K
   try refine vthen_n ?_
   refine VW.ret ⟨.inl rfl, _, rfl, ?_⟩
   rw [← hr, if_neg (by rw [h]; simp)]
   try rfl
  ·cases hc
 have hf : fabOk (t, s, b, m, g) = true := by
  have := h
  rwa [Bool.not_eq_false'] at this
 refine vcall_of hao ?_
 simp only [wq, simprocAttr]
 refine hK _ ?_
 clear hK K
 try refine vthen_n ?_
 repeat refine VW.seq ?_
 refine VW.cond rfl (fun hc => ?_) (fun hc => ?_)
 ·have hc : actOk (kd, nd, ax, ay) = false := (Bool.not_eq_true' _).mp hc
  repeat refine VW.seq ?_
  refine VW.regl hT fun K hK => ?_
  simp only [wq, simprocAttr]
  refine hK _ ?_
  clear hK K
  try refine vthen_n ?_
  refine VW.ret ⟨.inl rfl, _, rfl, ?_⟩
  rw [← hr, if_neg (by rw [hc]; simp)]
  try rfl
 have ha : actOk (kd, nd, ax, ay) = true := by
  have := hc
  rwa [Bool.not_eq_false'] at this
 have hld := hld ha
 have hlo := hlo ha
 have hst := hst ha
 have hkind : ¬ kd = 1 → ¬ kd = 2 → kd = 3 ∨ kd = 4 := hkind ha
 rw [if_pos (by rw [hf, ha]; rfl)] at hr
 have hr : (if kd = 1 then storeW (t, s, b, m, g) nd ax [ay] else if kd = 2 then ((t, s, b, m, g), if (loadW (t, s, b, m, g) nd ax 1).2 = 0 then (loadW (t, s, b, m, g) nd ax 1).1.getD 0 0 else IntKind.i64.wrap (0 - (loadW (t, s, b, m, g) nd ax 1).2)) else ((t, s, b, m, (setG t g nd (kd == 4)).1), if (setG t g nd (kd == 4)).2 = true then 1 else 0)) = r := hr
 have hld : VC Tryz.prog 109 [.v true sFi (t, s, b, m, g), .v false (.int .i64) (nd), .v false (.int .i64) (ax), .v false (.int .i64) (1)] (· = rIW (loadW (t, s, b, m, g) nd ax 1)) := hld
 have hlo : (loadW (t, s, b, m, g) nd ax 1).2 = 0 → (loadW (t, s, b, m, g) nd ax 1).1.length = 1 := hlo
 have hst : VC Tryz.prog 108 [.v true sFi (t, s, b, m, g), .v false (.int .i64) (nd), .v false (.int .i64) (ax), .v false sI [ay]] (· = rFI (storeW (t, s, b, m, g) nd ax [ay])) := hst
 clear hcp hfo hao haddr
 refine VW.skip (vthen_n ?_)
 repeat refine VW.seq ?_
 refine VW.regl hT fun K hK => ?_
 simp only [wq, simprocAttr]
 refine hK _ ?_
 clear hK K
 try refine vthen_n ?_
 repeat refine VW.seq ?_
 refine VW.regl hT fun K hK => ?_
 simp only [wq, simprocAttr]
 refine hK _ ?_
 clear hK K
 try refine vthen_n ?_
 repeat refine VW.seq ?_
 refine VW.block ?_
 repeat refine VW.seq ?_
 refine VW.regl hT fun K hK => ?_
 simp only [wq, simprocAttr]
 refine hK _ ?_
 clear hK K
 try refine vthen_n ?_
 repeat refine VW.seq ?_
 refine VW.cond rfl (fun hc => ?_) (fun hc => ?_)
 ·have hc : kd = 1 := eq_of_beq hc
  rw [if_pos hc] at hr
  repeat refine VW.seq ?_
  refine VW.regl hT fun K hK => ?_
  simp only [wq, simprocAttr]
  refine vcall_of hst ?_
  simp only [wq, simprocAttr]
  refine hK _ ?_
  clear hK K
  try refine vthen_n ?_
  refine VW.ret ⟨.inl rfl, _, rfl, ?_⟩
  rw [← hr]
 have h1 : ¬ kd = 1 := fun e => by rw [e] at hc; cases hc
 rw [if_neg h1] at hr
 repeat refine VW.seq ?_
 refine VW.regl hT fun K hK => ?_
 simp only [wq, simprocAttr]
 refine hK _ ?_
 clear hK K
 try refine vthen_n ?_
 repeat refine VW.seq ?_
 refine VW.cond rfl (fun hc => ?_) (fun hc => ?_)
 ·have hc : kd = 2 := eq_of_beq hc
  rw [if_pos hc] at hr
  generalize loadW (t, s, b, m, g) nd ax 1 = q at *
  obtain ⟨ws, c⟩ := q
  repeat refine VW.seq ?_
  refine VW.regl hT fun K hK => ?_
  simp only [wq, simprocAttr]
  refine vcall_of hld ?_
  simp only [wq, simprocAttr]
  refine hK _ ?_
  clear hK K
  try refine vthen_n ?_
  repeat refine VW.seq ?_
  refine VW.regl hT fun K hK => ?_
  simp only [wq, simprocAttr]
  refine hK _ ?_
  clear hK K
  try refine vthen_n ?_
  repeat refine VW.seq ?_
  refine VW.cond rfl (fun hc => ?_) (fun hc => ?_)
  ·repeat refine VW.seq ?_
   refine VW.regl hT fun K hK => ?_
   simp only [wq, simprocAttr]
   refine hK _ ?_
   clear hK K
   try refine vthen_n ?_
   refine VW.ret ⟨.inl rfl, _, rfl, ?_⟩
   rw [← hr, if_neg (by simpa using hc)]
   try rfl
  ·have hc : c = 0 := by simpa using hc
   subst hc
   have hl1 : ws.length = 1 := hlo rfl
   have hr : ((t, s, b, m, g), ws.getD 0 0) = r := hr
   have hW1 : decide ((0 : Int) < (ws.length : Int)) = true := decide_eq_true (by omega)
   refine VW.skip (vthen_n ?_)
   repeat refine VW.seq ?_
   refine VW.any hT hm fun K hK W hW => ?_
   apply cutl; intro tK
   apply cutl; intro t63
   apply cutl; intro t31
   apply cutl; intro t15
   apply cutl; intro t23
   apply cutl; intro t14
   apply cutl; intro t7
   apply cutl; intro t19
   apply cutl; intro t6
   apply cutl; intro t3
   ·refine hW.take 0 1 2 _ (by kernel_rfl) ?_
    simp only [wy, wq, simprocAttr]
    refine hW.all 2 [(0, 3), (2, 6)] _ (by kernel_rfl) (by simp) ?_
    simp only [wy, wq, simprocAttr]
    exact ⟨t3.h, ⟨hW1, t6.h⟩⟩
   ·refine hW.all 3 [(2, 7), (4, 19)] _ (by kernel_rfl) (by simp) ?_
    simp only [wy, wq, simprocAttr]
    exact ⟨⟨hW1, t7.h⟩, t19.h⟩
   ·refine hW.all 6 [(0, 7), (3, 14)] _ (by kernel_rfl) (by simp) ?_
    simp only [wy, wq, simprocAttr]
    exact ⟨t7.h, t14.h⟩
   ·refine hW.all 19 [(2, 23)] _ (by kernel_rfl) (by simp) ?_
    simp only [wy, wq, simprocAttr]
    exact ⟨hW1, t23.h⟩
   ·refine hW.all 7 [(3, 15), (4, 23)] _ (by kernel_rfl) (by simp) ?_
    simp only [wy, wq, simprocAttr]
    exact ⟨t15.h, t23.h⟩
   ·refine hW.all 14 [(0, 15)] _ (by kernel_rfl) (by simp) ?_
    simp only [wy, wq, simprocAttr]
    exact t15.h
   ·refine hW.all 23 [(3, 31)] _ (by kernel_rfl) (by simp) ?_
    simp only [wy, wq, simprocAttr]
    exact t31.h
   ·refine hW.all 15 [(4, 31)] _ (by kernel_rfl) (by simp) ?_
    simp only [wy, wq, simprocAttr]
    exact t31.h
   ·refine hW.all 31 [(5, 63)] _ (by kernel_rfl) (by simp) ?_
    simp only [wy, wq, simprocAttr]
    exact t63.h
   ·refine hW.done 63 _ (by kernel_rfl) ?_
    exact tK.h
   refine hK _ ?_
   clear hW W hK K
   show vthen _ _ _ .normal _
   refine vthen_n ?_
   refine VW.ret ⟨.inl rfl, _, rfl, ?_⟩
   rw [← hr]
   try rfl
 have h2 : ¬ kd = 2 := fun e => by rw [e] at hc; cases hc
 rw [if_neg h2] at hr
 have hk34 := hkind h1 h2
 generalize hp : setG t g nd (kd == 4) = p at *
 repeat refine VW.seq ?_
 refine VW.regl hT fun K hK => ?_
 simp only [wq, simprocAttr]
 refine hK _ ?_
 clear hK K
 try refine vthen_n ?_
 apply cutl
 ·intro tail
  repeat refine VW.seq ?_
  refine VW.cond rfl (fun hc => ?_) (fun hc => ?_)
  ·have hc : kd = 3 := eq_of_beq hc
   have hcn := cutNode_vc t g nd hlt hgl
   rw [show setG t g nd false = p from by rw [← hp, hc]; rfl] at hcn
   repeat refine VW.seq ?_
   refine VW.regl hT fun K hK => ?_
   simp only [wq, simprocAttr]
   refine vcall_of hcn ?_
   simp only [wq, simprocAttr]
   refine hK _ ?_
   clear hK K
   try refine vthen_n ?_
   show vthen _ _ _ .normal _
   refine vthen_n ?_
   refine VW.weak (weak_norm [(4, none), (6, none), (7, none)] _) ?_
   simp only [wn, wq, simprocAttr]
   exact tail.h
  ·have hc : ¬ kd = 3 := fun e => by rw [e] at hc; cases hc
   have hc : kd = 4 := hk34.resolve_left hc
   have hcn := openNode_vc t g nd hlt hgl
   rw [show setG t g nd true = p from by rw [← hp, hc]; rfl] at hcn
   repeat refine VW.seq ?_
   refine VW.regl hT fun K hK => ?_
   simp only [wq, simprocAttr]
   refine vcall_of hcn ?_
   simp only [wq, simprocAttr]
   refine hK _ ?_
   clear hK K
   try refine vthen_n ?_
   show vthen _ _ _ .normal _
   refine vthen_n ?_
   refine VW.weak (weak_norm [(4, none), (6, none), (7, none)] _) ?_
   simp only [wn, wq, simprocAttr]
   exact tail.h
 repeat refine VW.seq ?_
 refine VW.any hT hm fun K hK W hW => ?_
 apply cutl; intro tK
 apply cutl; intro t31
 apply cutl; intro t15
 apply cutl; intro t7
 apply cutl; intro t6
 apply cutl; intro t3
 ·refine hW.take 0 1 2 _ (by kernel_rfl) ?_
  simp only [wy, wq, simprocAttr]
  refine hW.all 2 [(0, 3), (2, 6)] _ (by kernel_rfl) (by simp) ?_
  simp only [wy, wq, simprocAttr]
  refine ⟨?_, ?_⟩
  ·exact t3.h
  ·refine vcall_of (one_vc _) ?_
   simp only [wq, simprocAttr]
   exact t6.h
 ·refine hW.all 3 [(2, 7)] _ (by kernel_rfl) (by simp) ?_
  simp only [wy, wq, simprocAttr]
  skip
  refine vcall_of (one_vc _) ?_
  simp only [wq, simprocAttr]
  exact t7.h
 ·refine hW.all 6 [(0, 7)] _ (by kernel_rfl) (by simp) ?_
  simp only [wy, wq, simprocAttr]
  exact t7.h
 ·refine hW.all 7 [(3, 15)] _ (by kernel_rfl) (by simp) ?_
  simp only [wy, wq, simprocAttr]
  exact t15.h
 ·refine hW.all 15 [(4, 31)] _ (by kernel_rfl) (by simp) ?_
  simp only [wy, wq, simprocAttr]
  exact t31.h
 ·refine hW.done 31 _ (by kernel_rfl) ?_
  exact tK.h
 refine hK _ ?_
 clear hW W hK K
 show vthen _ _ _ .normal _
 refine vthen_n ?_
 refine VW.ret ⟨.inl rfl, _, rfl, ?_⟩
 rw [← hr]
 try rfl
end Go.Proofs.YtoeblmcibheldaaGreatDoor.V.W
end
section
namespace Go.Proofs.YtoeblmcibheldaaGreatDoor.V.W
open Go Go.RowKit
end Go.Proofs.YtoeblmcibheldaaGreatDoor.V.W
end
section
namespace Go.Proofs.YtoeblmcibheldaaGreatDoor.V.W
open Go Go.RowKit
end Go.Proofs.YtoeblmcibheldaaGreatDoor.V.W
end
section
namespace Go.Proofs.YtoeblmcibheldaaGreatDoor.V.W
open Go Go.RowKit
structure FabS (x : Fab) : Prop where
 a : x.1.length ≤ 2000000
 b : x.2.1.length ≤ 2000000
 c : x.2.2.1.length ≤ 2000000
 d : x.2.2.2.1.length ≤ 2000000
 e : tot x.2.2.2.1 x.2.2.2.1.length ≤ 2000000
 f : x.2.2.2.2.length ≤ 2000000
end Go.Proofs.YtoeblmcibheldaaGreatDoor.V.W
end
section
namespace Go.Proofs.YtoeblmcibheldaaGreatDoor.V.W
open Go Go.RowKit
end Go.Proofs.YtoeblmcibheldaaGreatDoor.V.W
end
section
namespace Go.Proofs.YtoeblmcibheldaaGreatDoor.V
open Go Go.RowKit
end Go.Proofs.YtoeblmcibheldaaGreatDoor.V
namespace Go.Proofs.YtoeblmcibheldaaGreatDoor.V.W
open Go Go.RowKit
end Go.Proofs.YtoeblmcibheldaaGreatDoor.V.W
end
section
namespace Go.Proofs.YtoeblmcibheldaaGreatDoor.V
open Go Go.RowKit
/-- a row's flag, its header known -/
def Tg (f : Fl) (n : Nat) (v : Value) : Prop := (∃ g c, f = .io g c ∧ v = .slice (some ⟨g, 0, none⟩) n c) ∨ ∃ A, f = .kz A 0 ∧ n = 0 ∧ v = .slice A 0 0
def TgS : (s : Sh) → Fl → s.ty → List Value → Prop
 | .pr a b, f, x, l => ∃ f1 f2 l1 l2, f = .pr f1 f2 ∧ l = l1 ++ l2 ∧ TgS a f1 x.1 l1 ∧ TgS b f2 x.2 l2
 | .sl _ s, f, xs, l => ∃ v, l = [v] ∧ Tg f (List.length (α := s.ty) xs) v
 | s, f, x, l => encI s f x = some l
theorem TgS.enc : ∀ {s : Sh} {f : Fl} {x : s.ty} {l : List Value}, TgS s f x l → encI s f x = some l
 | .unit, _, _, _, h => h
 | .int _, _, _, _, h => h
 | .bool, _, _, _, h => h
 | .str, _, _, _, h => h
 | .pr a b, f, x, l, ⟨f1, f2, l1, l2, e1, e2, h1, h2⟩ => by
  subst e1; subst e2
  simp only [encI, Fl.l, Fl.r, h1.enc, h2.enc]
 | .sl e s, f, xs, l, ⟨v, e1, h⟩ => by
  subst e1
  rcases h with ⟨g, c, rfl, rfl⟩ | ⟨A, rfl, h0, rfl⟩
  ·rfl
  ·show some [Value.slice A (List.length (α := s.ty) xs) 0] = _
   rw [h0]
theorem Rep.tagE {w : World} {Z : Nat → Prop} : ∀ {s : Sh} {f : Fl} {x : s.ty} {cs : List Value} {B : Nat → Prop}, Fl.allown s f = true → Rep w Z s f x cs B → ∃ fi, TgS s fi x cs ∧ Rep w Z s fi x cs B
 | .unit, f, _, _, _, _, h => ⟨f, by have h : _ = [] := h; rw [h]; rfl, h⟩
 | .int _, f, _, _, _, _, h => ⟨f, by have h : _ = [_] := h; rw [h]; rfl, h⟩
 | .bool, f, _, _, _, _, h => ⟨f, by have h : _ = [_] := h; rw [h]; rfl, h⟩
 | .str, f, _, _, _, _, h => ⟨f, by have h : _ = [_] := h; rw [h]; rfl, h⟩
 | .pr a b, f, x, cs, B, k, ⟨c1, c2, B1, B2, h0, h1, h2, h3, h4, h5⟩ => by
  simp only [Fl.allown, Bool.and_eq_true] at k
  obtain ⟨g1, m1, m2⟩ := h4.tagE k.1
  obtain ⟨g2, m3, m4⟩ := h5.tagE k.2
  exact ⟨.pr g1 g2, ⟨g1, g2, c1, c2, rfl, h0, m1, m3⟩, c1, c2, B1, B2, h0, h1, h2, h3, m2, m4⟩
 | .sl e s, f, xs, cs, B, k, h => by
  cases f with
  | own =>
   rcases id h with ⟨A, hc, hx⟩ | ⟨g, cap, cur, rows, Bs, hc, _⟩
   ·have hx : (xs : List s.ty) = [] := hx
    subst hx
    refine ⟨.kz A 0, ⟨_, hc, .inr ⟨A, rfl, rfl, rfl⟩⟩, ⟨A, 0, hc, Nat.le_refl _, Nat.zero_le _, fun hp => by simp at hp⟩, hc⟩
   ·exact ⟨.io g cap, ⟨_, hc, .inl ⟨g, cap, rfl, rfl⟩⟩, h, hc⟩
  | _ => simp [Fl.allown] at k
section
variable {P : Program} {T : List (Nat × TI)}
end
end Go.Proofs.YtoeblmcibheldaaGreatDoor.V
end
section
namespace Go.Proofs.YtoeblmcibheldaaGreatDoor.V.W
open Go Go.RowKit
end Go.Proofs.YtoeblmcibheldaaGreatDoor.V.W
end
section
namespace Go.Proofs.YtoeblmcibheldaaGreatDoor.V.W
open Go Go.RowKit
end Go.Proofs.YtoeblmcibheldaaGreatDoor.V.W
end
section
namespace Go.Proofs.YtoeblmcibheldaaGreatDoor.V.W
open Go Go.RowKit
/-- two fabrics of the same sizes -/
structure FabSh (x y : Fab) : Prop where
 a : y.1.length = x.1.length
 b : y.2.1.length = x.2.1.length
 c : y.2.2.1.length = x.2.2.1.length
 d : y.2.2.2.1.length = x.2.2.2.1.length
 e : ∀ k, (y.2.2.2.1.getD k []).length = (x.2.2.2.1.getD k []).length
 f : y.2.2.2.2.length = x.2.2.2.2.length
theorem FabSh.refl (x : Fab) : FabSh x x := ⟨rfl, rfl, rfl, rfl, fun _ => rfl, rfl⟩
theorem FabSh.trans {x y z : Fab} (h : FabSh x y) (k : FabSh y z) : FabSh x z := ⟨k.a.trans h.a, k.b.trans h.b, k.c.trans h.c, k.d.trans h.d, fun i => (k.e i).trans (h.e i), k.f.trans h.f⟩
theorem FabSh.toL {x y : Fab} (h : FabSh x y) (k : FabL x) : FabL y := ⟨by rw [h.a]; exact k.a, by rw [h.b]; exact k.b, by rw [h.c]; exact k.c, by rw [h.d]; exact k.d, fun i => by rw [h.e]; exact k.e i⟩
theorem storeW_sh (x : Fab) (fr a : Int) (d : List Int) (ha : a ≤ 9223372036854775807) : FabSh x (storeW x fr a d).1 := by
 rw [storeW]
 split
 ·split
  ·rename_i h
   obtain ⟨t, s, b, m, g⟩ := x
   obtain ⟨j, lo, n, h0, h1, h2, h3, h4, h5, h6, h7, h8⟩ := target_good (t := t) (s := s) (b := b) (m := m) (g := g) (fr := fr) (a := a) (l := d.length) (k := (targetOf (t, s, b, m, g) fr a d.length).1) (Prod.ext rfl h) ha
   obtain rfl : d.length = n := by omega
   have h4 : (IntKind.i64.wrap (a - (b.getD j zb).2)).toNat = lo := by rw [h4, Int.toNat_natCast]
   rw [h0, Int.toNat_natCast]
   refine ⟨rfl, rfl, rfl, List.length_set, fun k => ?_, rfl⟩
   show ((m.set j (over (m.getD j []) (IntKind.i64.wrap (a - (b.getD j zb).2)).toNat d)).getD k []).length = (m.getD k []).length
   rw [h4, getD_setL _ _ _ _ _ h2]
   split
   ·rename_i e
    rw [e, over_len h6]
   ·rfl
  ·exact FabSh.refl x
 ·exact FabSh.refl x
end Go.Proofs.YtoeblmcibheldaaGreatDoor.V.W
end
section
namespace Go.Proofs.YtoeblmcibheldaaGreatDoor.V.W
open Go Go.RowKit
abbrev zA : Ac := (0, 0, 0, 0)
abbrev sAS : Sh := .sl 91 sAct
theorem doAct_sh (x : Fab) (a : Ac) : FabSh x (doAct x a).1 := by
 rw [doAct]
 split
 ·rename_i h
  rw [Bool.and_eq_true] at h
  have := act_addr h.2
  split
  ·exact storeW_sh x _ _ _ (by omega)
  ·split
   ·exact FabSh.refl x
   ·exact ⟨rfl, rfl, rfl, rfl, fun _ => rfl, setG_len _ _ _ _⟩
 ·exact FabSh.refl x
/-- acts done one behind the other -/
def runTo (x : Fab) (ks : List Ac) : Fab × List Int := ks.foldl (fun p a => ((doAct p.1 a).1, p.2 ++ [(doAct p.1 a).2])) (x, [])
theorem runTo_succ (x : Fab) {ks : List Ac} {i : Nat} (h : i < ks.length) : runTo x (ks.take (i + 1)) = ((doAct (runTo x (ks.take i)).1 (ks.getD i zA)).1, (runTo x (ks.take i)).2 ++ [(doAct (runTo x (ks.take i)).1 (ks.getD i zA)).2]) := by
 have e : ks.take (i + 1) = ks.take i ++ [ks.getD i zA] := by
  rw [List.take_add_one, List.getElem?_eq_getElem h, List.getD_eq_getElem?_getD, List.getElem?_eq_getElem h]
  rfl
 rw [e, runTo, List.foldl_append]
 rfl
theorem runTo_sh (x : Fab) (ks : List Ac) : ∀ i, i ≤ ks.length → FabSh x (runTo x (ks.take i)).1 ∧ (runTo x (ks.take i)).2.length = i
 | 0, _ => ⟨FabSh.refl x, rfl⟩
 | i + 1, h => by
  obtain ⟨h1, h2⟩ := runTo_sh x ks i (by omega)
  rw [runTo_succ x (by omega)]
  exact ⟨h1.trans (doAct_sh _ _), by show (_ ++ [_]).length = _; rw [List.length_append, h2]; rfl⟩
def runActs (x : Fab) (ks : List Ac) : Fab × List Int := if (fabOk x && decide (ks.length ≤ 40)) = true then runTo x ks else (x, [])
theorem runActs_sh (x : Fab) (ks : List Ac) : FabSh x (runActs x ks).1 ∧ (runActs x ks).2.length ≤ 40 := by
 rw [runActs]
 split
 ·rename_i h
  rw [Bool.and_eq_true] at h
  have h2 : ks.length ≤ 40 := of_decide_eq_true h.2
  obtain ⟨h3, h4⟩ := runTo_sh x ks ks.length (Nat.le_refl _)
  rw [List.take_length] at h3 h4
  exact ⟨h3, by omega⟩
 ·exact ⟨FabSh.refl x, Nat.zero_le _⟩
abbrev rFL (p : Fab × List Int) : PV := .root (.tup [true, false]) (.pr sFi sI) (.pr fFab .own) p
set_option maxRecDepth 20000 in
set_option maxHeartbeats 4000000 in
theorem runActs_vc (x : Fab) (ks : List Ac) (hx : FabL x) (hgl : x.2.2.2.2.length ≤ 2000000) (hal : ks.length ≤ 2000000) : VC Tryz.prog 24 [.v true sFi x, .v false sAS ks] (· = rFL (runActs x ks)) := by
 refine VC.of_body hT Tryz.func24 rfl (by kernel_rfl) [(.cell 4 32, true, sFi), (.tmp 5, false, sI)] (by kernel_rfl) ?_
 have hcp := copyFabric_vc x hx hgl
 have hfo := fabricOk_vc x hx
 have hda := fun (i : Nat) (h : i ≤ ks.length) => doAct_vc (runTo x (ks.take i)).1 (ks.getD i zA) ((runTo_sh x ks i h).1.toL hx) (by rw [(runTo_sh x ks i h).1.f]; exact hgl)
 have hrl := fun (i : Nat) (h : i ≤ ks.length) => (runTo_sh x ks i h).2
 have hrs := fun (i : Nat) (h : i < ks.length) => runTo_succ x h
 have hr0 : runTo x (ks.take 0) = (x, []) := rfl
 generalize hr : runActs x ks = r
 rw [runActs] at hr
 show VW _ _ ([.v true sFi x, .v false sAS ks, D, D, D, D, D, D, D, D, D, D, D, D, D, D, D, D, D, D, D, D, D, D, D, D, D, D, D, D, D, D, D, D, D, D, D, D, D, D, D, D, D, D]) _
 repeat refine VW.seq ?_
 refine VW.regl hT fun K hK => ?_
 simp only [wq, simprocAttr]
 refine hK _ ?_
 clear hK K
 try refine vthen_n ?_
 repeat refine VW.seq ?_
 refine VW.regl hT fun K hK => ?_
 simp only [wq, simprocAttr]
 refine vcall_of hcp ?_
 simp only [wq, simprocAttr]
 refine hK _ ?_
 clear hK K
 try refine vthen_n ?_
 repeat refine VW.seq ?_
 refine VW.regl hT fun K hK => ?_
 simp only [wq, simprocAttr]
 refine vcall_of hfo ?_
 simp only [wq, simprocAttr]
 refine vbr (fun h => ?_) (fun h => ?_) <;> simp only [wq, simprocAttr]
 case refine_2 =>
  have h : fabOk x = false := (Bool.not_eq_true' _).mp h
  refine hK _ ?_
  clear hK K
  try refine vthen_n ?_
  repeat refine VW.seq ?_
  refine VW.cond rfl (fun hc => ?_) (fun hc => ?_)
  ·repeat refine VW.seq ?_
   refine VW.regl hT fun K hK => ?_
   simp only [wq, simprocAttr]
   refine hK _ ?_
   clear hK K
   try refine vthen_n ?_
   refine VW.ret ⟨.inl rfl, _, rfl, ?_⟩
   rw [← hr, if_neg (by rw [h]; simp)]
   rfl
  ·cases hc
 have hf : fabOk x = true := by
  have := h
  rwa [Bool.not_eq_false'] at this
 refine hK _ ?_
 clear hK K
 try refine vthen_n ?_
 repeat refine VW.seq ?_
 refine VW.cond rfl (fun hc => ?_) (fun hc => ?_)
 ·have hc : (ks.length : Int) > 40 := of_decide_eq_true hc
  repeat refine VW.seq ?_
  refine VW.regl hT fun K hK => ?_
  simp only [wq, simprocAttr]
  refine hK _ ?_
  clear hK K
  try refine vthen_n ?_
  refine VW.ret ⟨.inl rfl, _, rfl, ?_⟩
  rw [← hr, if_neg (by rw [decide_eq_false (by omega), Bool.and_false]; decide)]
  rfl
 have hc : ¬ (ks.length : Int) > 40 := of_decide_eq_false hc
 rw [if_pos (by rw [hf, decide_eq_true (by omega)]; rfl)] at hr
 refine VW.skip (vthen_n ?_)
 repeat refine VW.seq ?_
 refine VW.regl hT fun K hK => ?_
 simp only [wq, simprocAttr]
 refine hK _ ?_
 clear hK K
 try refine vthen_n ?_
 repeat refine VW.seq ?_
 refine VW.block ?_
 refine VW.loop (α := Nat) [(4, none), (6, none), (7, some (3, .int .i64)), (24, none), (25, none), (26, none)] (fun i => [D, D, D, D, .root (.box 32) sFi .own ([], [], [], [], []), D, .root (.box 32) sFi fFab (runTo x (ks.take i)).1, .root (.val false) sI .own (runTo x (ks.take i)).2, D, D, D, D, D, D, D, D, D, D, D, D, D, D, D, D, .v false sAS ks, .v false (.int .i64) ((ks.length : Nat)), .v false (.int .i64) ((i : Nat)), D, D, D, D, D, D, D, D, D, D, D, D, D, D, D, D, D]) (fun i => i ≤ ks.length) (fun i => ks.length - i) ⟨0, by omega, ?_⟩ fun i hi => ?_
 ·simp only [wn, wq, simprocAttr]
  rw [hr0]
 repeat refine VW.seq ?_
 refine VW.regl hT fun K hK => ?_
 simp only [wq, simprocAttr]
 refine hK _ ?_
 clear hK K
 try refine vthen_n ?_
 repeat refine VW.seq ?_
 refine VW.cond rfl (fun hc => ?_) (fun hc => ?_)
 ·have hlt : i < ks.length := by simpa using hc
  have hda := hda i hi
  have hrl := hrl i hi
  have hrs := hrs i hlt
  generalize runTo x (ks.take i) = p at *
  obtain ⟨y, ns⟩ := p
  have hrl : ns.length = i := hrl
  have hda : VC Tryz.prog 67 [.v true sFi y, .v true sAct (ks.getD i zA)] (· = rFI (doAct y (ks.getD i zA))) := hda
  have hrs : runTo x (ks.take (i + 1)) = ((doAct y (ks.getD i zA)).1, ns ++ [(doAct y (ks.getD i zA)).2]) := hrs
  generalize doAct y (ks.getD i zA) = q at *
  obtain ⟨y', c⟩ := q
  refine VW.skip (vthen_n ?_)
  repeat refine VW.seq ?_
  refine VW.block ?_
  repeat refine VW.seq ?_
  refine VW.regl hT fun K hK => ?_
  simp only [wq, simprocAttr]
  refine ⟨decide_eq_true ⟨Int.natCast_nonneg _, by show (i : Int) < (ks.length : Int); omega⟩, ?_⟩
  refine hK _ ?_
  clear hK K
  try refine vthen_n ?_
  repeat refine VW.seq ?_
  refine VW.regl hT fun K hK => ?_
  simp only [wq, simprocAttr]
  refine vcall_of hda ?_
  simp only [wq, simprocAttr]
  refine hK _ ?_
  clear hK K
  try refine vthen_n ?_
  have hN : limOk (ns.length + 1) 8 = true := by simp only [limOk]; exact decide_eq_true (by omega)
  repeat refine VW.seq ?_
  refine VW.any hT hm fun K hK W hW => ?_
  apply cutl; intro tK
  apply cutl; intro t127
  apply cutl; intro t63
  apply cutl; intro t31
  apply cutl; intro t30
  apply cutl; intro t15
  apply cutl; intro t14
  apply cutl; intro t7
  ·refine hW.take 0 1 2 _ (by kernel_rfl) ?_
   simp only [wy, wq, simprocAttr]
   refine hW.take 2 2 6 _ (by kernel_rfl) ?_
   simp only [wy, wq, simprocAttr]
   refine hW.all 6 [(0, 7), (3, 14)] _ (by kernel_rfl) (by simp) ?_
   simp only [wy, wq, simprocAttr]
   exact ⟨t7.h, t14.h⟩
  ·refine hW.all 7 [(3, 15)] _ (by kernel_rfl) (by simp) ?_
   simp only [wy, wq, simprocAttr]
   exact t15.h
  ·refine hW.all 14 [(0, 15), (4, 30)] _ (by kernel_rfl) (by simp) ?_
   simp only [wy, wq, simprocAttr]
   exact ⟨t15.h, ⟨hN, t30.h⟩⟩
  ·refine hW.all 15 [(4, 31)] _ (by kernel_rfl) (by simp) ?_
   simp only [wy, wq, simprocAttr]
   exact ⟨hN, t31.h⟩
  ·refine hW.all 30 [(0, 31)] _ (by kernel_rfl) (by simp) ?_
   simp only [wy, wq, simprocAttr]
   exact t31.h
  ·refine hW.all 31 [(5, 63)] _ (by kernel_rfl) (by simp) ?_
   simp only [wy, wq, simprocAttr]
   exact t63.h
  ·refine hW.all 63 [(6, 127)] _ (by kernel_rfl) (by simp) ?_
   simp only [wy, wq, simprocAttr]
   exact t127.h
  ·refine hW.done 127 _ (by kernel_rfl) ?_
   exact tK.h
  refine hK _ ?_
  clear hW W hK K
  show vthen _ _ _ .normal _
  refine vthen_n ?_
  repeat refine VW.seq ?_
  refine VW.regl hT fun K hK => ?_
  simp only [wq, simprocAttr]
  refine hK _ ?_
  clear hK K
  try refine vthen_n ?_
  refine ⟨i + 1, hlt, ?_, by show ks.length - (i + 1) < ks.length - i; omega⟩
  simp only [wn, wq, simprocAttr]
  rw [hrs, wrap64 (by omega) (by omega), show (i : Int) + 1 = ((i + 1 : Nat) : Int) by omega]
 ·have hge : i = ks.length := by
   have hc : ¬ (i : Int) < (ks.length : Int) := of_decide_eq_false hc
   omega
  subst hge
  rw [List.take_length, hr]
  refine VW.exit ?_
  show vthen _ _ _ .normal _
  refine vthen_n ?_
  repeat refine VW.seq ?_
  refine VW.regl hT fun K hK => ?_
  simp only [wq, simprocAttr]
  refine hK _ ?_
  clear hK K
  try refine vthen_n ?_
  exact VW.ret ⟨.inl rfl, _, rfl, rfl⟩
end Go.Proofs.YtoeblmcibheldaaGreatDoor.V.W
end
section
end

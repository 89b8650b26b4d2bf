-- Written by a program of this session (wip/prt.sh): Lean checks it.
import Derived.Test.YtdolbkocghgibaaPFnSleepsx0
import Derived.Test.YtdolbkocghgibaaPFnSleepsx1
namespace Go.Proofs.Ytdolbkocghgibaa.PFnSleeps
open Go.RowKit Go.Proofs.YtdolbkocghgibaaW.PrintWords Go.Proofs.YtdolbkocghgibaaW.PrintLast Go.Proofs.YtdolbkocghgibaaW.PrintMore
attribute [local go_sem] max2_int min2_int max_two min_two max_three min_three max_four min_four   -- for this text's walks alone
set_option linter.unusedVariables false
set_option linter.unusedSimpArgs false

attribute [local go_sem high] eqA77
/-! ### laws_big: function 35 -/
def laws_big.f (l0 : List Int) : Option (Bool) := some (decide ((l0.length : Int) > 1048576))
set_option maxHeartbeats 8000000 in
set_option maxRecDepth 100000 in
theorem laws_big.calls (A0 : Option Addr) (c0 : Nat) (l0 : List Int) (r : Bool) (w : World) (hr0 : Kd.C (Kd.int .u8) w A0 l0.length l0) (hc0 : l0.length ≤ c0) (h : laws_big.f l0 = some r) :
    Calls Try.prog 35 #[.slice A0 l0.length c0] w fun e w' => e = .returned (.bool r) ∧ Drawn0 w w' := by
  have HR0 := Aside0.mk hr0
  have HC0 := Aside0.mk hc0
  clear hr0 hc0
  have H : (some (decide ((l0.length : Int) > 1048576))) = some r := h
  clear h
  obtain rfl := Option.some.inj H
  go_enter Try.func35, Try.ntmps35
  go_wp2
  go_ret
  exact ⟨by first | rfl | (simp; done) | (simp [*]; done), by repeat (first | exact Drawn0.refl _ | apply Drawn0.step)⟩

/-! ### impl_within: function 94 -/
def impl_within.f (a0 : Int) (a1 : Int) (a2 : Int) : Option (Bool) := if a0 ≥ a1 then (some (decide (a0 ≤ a2))) else (some false)
set_option maxHeartbeats 8000000 in
set_option maxRecDepth 100000 in
theorem impl_within.calls (a0 : Int) (a1 : Int) (a2 : Int) (r : Bool) (w : World) (h : impl_within.f a0 a1 a2 = some r) :
    Calls Try.prog 94 #[.int .i64 a0, .int .i64 a1, .int .i64 a2] w fun e w' => e = .returned (.bool r) ∧ Drawn0 w w' := by
  have H : (if a0 ≥ a1 then (some (decide (a0 ≤ a2))) else (some false)) = some r := h
  clear h
  by_cases c4 : a0 ≥ a1
  · rw [if_pos c4] at H
    have c4b0 : decide (a1 ≤ a0) = true := decide_eq_true c4
    clear c4
    obtain rfl := Option.some.inj H
    go_enter Try.func94, Try.ntmps94
    go_wp2
    go_ret
    exact ⟨by first | rfl | (simp; done) | (simp [*]; done), by repeat (first | exact Drawn0.refl _ | apply Drawn0.step)⟩
  · rw [if_neg c4] at H
    have c4b0 : decide (a1 ≤ a0) = false := decide_eq_false c4
    clear c4
    obtain rfl := Option.some.inj H
    go_enter Try.func94, Try.ntmps94
    go_wp2
    go_ret
    exact ⟨by first | rfl | (simp; done) | (simp [*]; done), by repeat (first | exact Drawn0.refl _ | apply Drawn0.step)⟩

-- NOT PRINTED: function 138 (slices_IndexFunc_impl_Node)

-- NOT PRINTED: function 117 (slices_ContainsFunc_impl_Node)

def impl_TreeOk_1.f (a0_0 a0_1 a0_2 s1_0 s1_1 s1_2 : Int) : Option Bool := some (decide (a0_0 = s1_0 ∧ a0_1 = s1_1))
set_option maxRecDepth 100000 in
theorem impl_TreeOk_1.calls (a0_0 : Int) (a0_1 : Int) (a0_2 : Int) (g1 : Nat) (s1_0 : Int) (s1_1 : Int) (s1_2 : Int) (r : Bool) (w : World) (hg1 : w.heap[g1]? = some (.cells #[.int .i64 s1_0, .int .i64 s1_1, .int .i64 s1_2] 77 (0, 0))) (h : impl_TreeOk_1.f a0_0 a0_1 a0_2 s1_0 s1_1 s1_2 = some r) :
    Calls Try.prog 118 #[.agg #[.int .i64 a0_0, .int .i64 a0_1, .int .i64 a0_2], .pointer (some ⟨g1, 0, none⟩)] w fun e w' => e = .returned (.bool r) ∧ Below w.heap.size w w' := by
  have hlt : g1 < w.heap.size := blk_lt hg1
  have h0 : w.cell? ⟨g1, 0, none⟩ = some (.int .i64 s1_0) := (blk_cell hg1 0).trans rfl
  have h1 : w.cell? ⟨g1, 1, none⟩ = some (.int .i64 s1_1) := (blk_cell hg1 1).trans rfl
  have h := Option.some.inj h
  by_cases e1 : a0_0 = s1_0
  · have c1 : (a0_0 == s1_0) = true := beq_iff_eq.2 e1
    have hs : r = (a0_1 == s1_1) := by rw [← h]; simp [e1]; exact Bool.eq_iff_iff.2 (by simp)
    rw [hs]
    clear e1 hs h
    go_enter Try.func118, Try.ntmps118
    go_wp2
    go_ret
    exact ⟨rfl, (Below.refl _ _).alloc (Nat.le_refl _) _⟩
  · have c1 : (a0_0 == s1_0) = false := beq_eq_false_iff_ne.2 e1
    have hs : r = false := by rw [← h]; simp [e1]
    rw [hs]
    clear e1 hs h
    go_enter Try.func118, Try.ntmps118
    go_wp2
    go_ret
    exact ⟨rfl, (Below.refl _ _).alloc (Nat.le_refl _) _⟩

/-! ### slices_ContainsFunc__impl_TreeOk_1: function 117 handed function 118 -/
def slices_ContainsFunc__impl_TreeOk_1.f (l0 : List (S77)) (s1_0 : Int) (s1_1 : Int) (s1_2 : Int) : Option (Bool) := anyO (fun x : S77 => impl_TreeOk_1.f x.f0 x.f1 x.f2 s1_0 s1_1 s1_2) l0
set_option maxHeartbeats 1000000 in
set_option maxRecDepth 100000 in
theorem slices_ContainsFunc__impl_TreeOk_1.idx (A0 : Option Addr) (c0 : Nat) (l0 : List (S77)) (g1 : Nat) (s1_0 : Int) (s1_1 : Int) (s1_2 : Int) (r : Int) (w : World) (hr0 : Kd.C k77 w A0 l0.length l0) (hc0 : l0.length ≤ c0) (hg1 : w.heap[g1]? = some (.cells #[.int .i64 s1_0, .int .i64 s1_1, .int .i64 s1_2] 77 (0, 0))) (h : idxO (fun x : S77 => impl_TreeOk_1.f x.f0 x.f1 x.f2 s1_0 s1_1 s1_2) l0 = some r) :
    Calls Try.prog 138 #[.slice A0 l0.length c0, .func (.func 118) #[] #[.pointer (some ⟨g1, 0, none⟩)]] w fun e w' => e = .returned (.int .i64 r) ∧ Below w.heap.size w w' := by
  have hm : l0.length ≤ 9223372036854775807 := hr0.2.1
  have HR := Aside0.mk hr0
  have HHG1 := Aside0.mk hg1
  have HX := Aside0.mk h
  clear hr0 h hg1
  go_enter Try.func138, Try.ntmps138
  go_wp2
  go_loopw [8] (fun i W => ∃ k_ : Nat, k_ ≤ l0.length ∧ i = .int .i64 k_ ∧ Aside0 (∀ j : Nat, j < k_ → (fun x : S77 => impl_TreeOk_1.f x.f0 x.f1 x.f2 s1_0 s1_1 s1_2) (l0.getD j z77) = some false) ∧ Aside0 (Below w.heap.size w W)) (fun i _ => l0.length - (intOf i).toNat)
  case atStart => exact ⟨0, by omega, rfl, ⟨fun j hj => by omega⟩, ⟨Below.refl _ _⟩⟩
  case round =>
    obtain ⟨k_, hk, rfl, HN, HB⟩ := hrel
    by_cases hlt : k_ < l0.length
    · have hE : ∃ b, impl_TreeOk_1.f ((rd_T77 l0 (k_ : Int)).f0) ((rd_T77 l0 (k_ : Int)).f1) ((rd_T77 l0 (k_ : Int)).f2) s1_0 s1_1 s1_2 = some b := idxO_all HX.out k_ z77 hlt
      obtain ⟨b, hE⟩ := hE
      obtain ⟨ad, e1, hq0_, hq1_, hq2_⟩ := at_T77 (Kd.C_below HR.out HB.out) (k_ : Int) (by omega) (by omega)
      subst e1
      simp only [Int.toNat_natCast] at hq0_ hq1_ hq2_
      have HH := Aside0.mk hE
      clear hE
      cases b with
      | true =>
        go_wp2_with (go_at_call 118; (with_reducible refine (impl_TreeOk_1.calls ((rd_T77 l0 (k_ : Int)).f0) ((rd_T77 l0 (k_ : Int)).f1) ((rd_T77 l0 (k_ : Int)).f2) g1 s1_0 s1_1 s1_2 _ _ (blk_below HHG1.out HB.out) HH.out).mono ?_); rintro e w1 ⟨rfl, hb1⟩; have HB1 := Aside0.mk (hof_below HB.out HB.out.size hb1); clear hb1)
        go_ret
        exact ⟨ret_int_ (idxO_hit HX.out k_ z77 hlt HN.out HH.out).symm, HB1.out⟩
      | false =>
        go_wp2_with (go_at_call 118; (with_reducible refine (impl_TreeOk_1.calls ((rd_T77 l0 (k_ : Int)).f0) ((rd_T77 l0 (k_ : Int)).f1) ((rd_T77 l0 (k_ : Int)).f2) g1 s1_0 s1_1 s1_2 _ _ (blk_below HHG1.out HB.out) HH.out).mono ?_); rintro e w1 ⟨rfl, hb1⟩; have HB1 := Aside0.mk (hof_below HB.out HB.out.size hb1); clear hb1)
        go_roundw
        case rel => exact ⟨k_ + 1, by omega, by go_num, ⟨fun j hj => by
          rcases Nat.lt_or_ge j k_ with h | h
          · exact HN.out j h
          · have e_ : j = k_ := by omega
            rw [e_]; exact HH.out⟩, HB1⟩
        case measure => simp [intOf]; omega
    · go_wp2
      go_ret
      exact ⟨ret_int_ (idxO_none HX.out z77 (fun j hj => HN.out j (by omega))).symm, HB.out⟩
theorem slices_ContainsFunc__impl_TreeOk_1.calls (A0 : Option Addr) (c0 : Nat) (l0 : List (S77)) (g1 : Nat) (s1_0 : Int) (s1_1 : Int) (s1_2 : Int) (r : Bool) (w : World) (hr0 : Kd.C k77 w A0 l0.length l0) (hc0 : l0.length ≤ c0) (hg1 : w.heap[g1]? = some (.cells #[.int .i64 s1_0, .int .i64 s1_1, .int .i64 s1_2] 77 (0, 0))) (h : slices_ContainsFunc__impl_TreeOk_1.f l0 s1_0 s1_1 s1_2 = some r) :
    Calls Try.prog 117 #[.slice A0 l0.length c0, .func (.func 118) #[] #[.pointer (some ⟨g1, 0, none⟩)]] w fun e w' => e = .returned (.bool r) ∧ Below w.heap.size w w' := by
  obtain ⟨i, hi, rfl⟩ := anyO_idxO h
  have HX := Aside0.mk hi
  have HR := Aside0.mk hr0
  have HHG1 := Aside0.mk hg1
  clear hi h hr0 hg1
  go_enter Try.func117, Try.ntmps117
  go_wp2_with (go_at_call 138; (with_reducible refine (slices_ContainsFunc__impl_TreeOk_1.idx _ _ l0 g1 s1_0 s1_1 s1_2 _ _ HR.out hc0 HHG1.out HX.out).mono ?_); rintro e w1 ⟨rfl, hb1⟩; have HB1 := Aside0.mk hb1; clear hb1)
  go_ret
  exact ⟨rfl, HB1.out⟩

/-! ### impl_TreeOk: function 67 -/
mutual
def impl_TreeOk.j0 : Nat → List (S77) → Bool → Option (Bool)
  | 0, _, _ => none
  | k + 1, x0, x16 => if x16 = true then (some false) else (if 1 ≤ (x0.length : Int) then ((some (x0.drop 1 : List (S77))).bind fun y103 => (impl_TreeOk.l0 k x0 y103 (y103.length : Int) 0)) else (none))
def impl_TreeOk.l0 : Nat → List (S77) → List (S77) → Int → Int → Option (Bool)
  | 0, _, _, _, _ => none
  | k + 1, x0, x18, x19, x20 => if x20 < x19 then (if 0 ≤ x20 then (if x20 < (x18.length : Int) then (if 0 ≤ (wrap64 (x20 + 1)) then (if (wrap64 (x20 + 1)) ≤ (x0.length : Int) then ((some (x0.take ((wrap64 (x20 + 1)) : Int).toNat : List (S77))).bind fun y109 => ((impl_within.f ((rd_T77 x18 x20).f0) 0 x20).bind fun t113 => (if t113 = true then (if 0 ≤ ((rd_T77 x18 x20).f0) then (if ((rd_T77 x18 x20).f0) < (y109.length : Int) then (if ((rd_T77 y109 ((rd_T77 x18 x20).f0)).f2) = 0 then ((impl_within.f ((rd_T77 x18 x20).f1) 0 3).bind fun t115 => (if t115 = true then ((impl_within.f ((rd_T77 x18 x20).f2) 0 4).bind fun t116 => (impl_TreeOk.j2 k x0 y109 x18 x19 x20 (!t116) ((rd_T77 x18 x20).f0) ((rd_T77 x18 x20).f1) ((rd_T77 x18 x20).f2))) else (impl_TreeOk.j2 k x0 y109 x18 x19 x20 true ((rd_T77 x18 x20).f0) ((rd_T77 x18 x20).f1) ((rd_T77 x18 x20).f2)))) else (impl_TreeOk.j2 k x0 y109 x18 x19 x20 true ((rd_T77 x18 x20).f0) ((rd_T77 x18 x20).f1) ((rd_T77 x18 x20).f2))) else (none)) else (none)) else (impl_TreeOk.j2 k x0 y109 x18 x19 x20 true ((rd_T77 x18 x20).f0) ((rd_T77 x18 x20).f1) ((rd_T77 x18 x20).f2))))) else (none)) else (none)) else (none)) else (none)) else (some true)
def impl_TreeOk.j2 : Nat → List (S77) → List (S77) → List (S77) → Int → Int → Bool → Int → Int → Int → Option (Bool)
  | 0, _, _, _, _, _, _, _, _, _ => none
  | k + 1, x0, x5, x18, x19, x20, x54, x109000, x109001, x109002 => if x54 = true then (some false) else ((slices_ContainsFunc__impl_TreeOk_1.f x5 x109000 x109001 x109002).bind fun t117 => (if t117 = true then (some false) else (impl_TreeOk.l0 k x0 x18 x19 (wrap64 (x20 + 1)))))
end
def impl_TreeOk.f (k : Nat) (l0 : List (S77)) : Option (Bool) := (impl_within.f (l0.length : Int) 1 12).bind fun t101 => (if t101 = true then (if 0 < (l0.length : Int) then (impl_TreeOk.j0 k l0 (!(((rd_T77 l0 0).f0) == (-1)) || (!(((rd_T77 l0 0).f1) == 0) || (!(((rd_T77 l0 0).f2) == 0))))) else (none)) else (impl_TreeOk.j0 k l0 true))
theorem impl_TreeOk.mono_l : ∀ k, (∀ y0 y1, LeO (impl_TreeOk.j0 k y0 y1) (impl_TreeOk.j0 (k + 1) y0 y1)) ∧ (∀ y0 y1 y2 y3, LeO (impl_TreeOk.l0 k y0 y1 y2 y3) (impl_TreeOk.l0 (k + 1) y0 y1 y2 y3)) ∧ (∀ y0 y1 y2 y3 y4 y5 y6 y7 y8, LeO (impl_TreeOk.j2 k y0 y1 y2 y3 y4 y5 y6 y7 y8) (impl_TreeOk.j2 (k + 1) y0 y1 y2 y3 y4 y5 y6 y7 y8))
  | 0 => ⟨fun _ _ r h => by simp [impl_TreeOk.j0] at h, fun _ _ _ _ r h => by simp [impl_TreeOk.l0] at h, fun _ _ _ _ _ _ _ _ _ r h => by simp [impl_TreeOk.j2] at h⟩
  | k + 1 => by
    obtain ⟨ih0, ih1, ih2⟩ := impl_TreeOk.mono_l k
    refine ⟨?_, ?_, ?_⟩
    · intro y0 y1
      unfold impl_TreeOk.j0
      repeat' first
      | (with_reducible exact ih0 _ _)
      | (with_reducible exact ih1 _ _ _ _)
      | (with_reducible exact ih2 _ _ _ _ _ _ _ _ _)
      | (with_reducible exact LeO.refl _)
      | (with_reducible exact LeO.none _)
      | (with_reducible refine LeO.ite ?_ ?_)
      | (with_reducible refine LeO.bind ?_ (fun _ => ?_))
      | exact ih0 _ _
      | exact ih1 _ _ _ _
      | exact ih2 _ _ _ _ _ _ _ _ _
      | exact LeO.none _
      | refine LeO.ite ?_ ?_
      | refine LeO.bind ?_ (fun _ => ?_)
    · intro y0 y1 y2 y3
      unfold impl_TreeOk.l0
      repeat' first
      | (with_reducible exact ih0 _ _)
      | (with_reducible exact ih1 _ _ _ _)
      | (with_reducible exact ih2 _ _ _ _ _ _ _ _ _)
      | (with_reducible exact LeO.refl _)
      | (with_reducible exact LeO.none _)
      | (with_reducible refine LeO.ite ?_ ?_)
      | (with_reducible refine LeO.bind ?_ (fun _ => ?_))
      | exact ih0 _ _
      | exact ih1 _ _ _ _
      | exact ih2 _ _ _ _ _ _ _ _ _
      | exact LeO.none _
      | refine LeO.ite ?_ ?_
      | refine LeO.bind ?_ (fun _ => ?_)
    · intro y0 y1 y2 y3 y4 y5 y6 y7 y8
      unfold impl_TreeOk.j2
      repeat' first
      | (with_reducible exact ih0 _ _)
      | (with_reducible exact ih1 _ _ _ _)
      | (with_reducible exact ih2 _ _ _ _ _ _ _ _ _)
      | (with_reducible exact LeO.refl _)
      | (with_reducible exact LeO.none _)
      | (with_reducible refine LeO.ite ?_ ?_)
      | (with_reducible refine LeO.bind ?_ (fun _ => ?_))
      | exact ih0 _ _
      | exact ih1 _ _ _ _
      | exact ih2 _ _ _ _ _ _ _ _ _
      | exact LeO.none _
      | refine LeO.ite ?_ ?_
      | refine LeO.bind ?_ (fun _ => ?_)
theorem impl_TreeOk.mono : ∀ a0 k, LeO (impl_TreeOk.f k a0) (impl_TreeOk.f (k + 1) a0) := by
  intro a0 k
  obtain ⟨ih0, ih1, ih2⟩ := impl_TreeOk.mono_l k
  unfold impl_TreeOk.f
  repeat' first
      | (with_reducible exact ih0 _ _)
      | (with_reducible exact ih1 _ _ _ _)
      | (with_reducible exact ih2 _ _ _ _ _ _ _ _ _)
      | (with_reducible exact LeO.refl _)
      | (with_reducible exact LeO.none _)
      | (with_reducible refine LeO.ite ?_ ?_)
      | (with_reducible refine LeO.bind ?_ (fun _ => ?_))
      | exact ih0 _ _
      | exact ih1 _ _ _ _
      | exact ih2 _ _ _ _ _ _ _ _ _
      | exact LeO.none _
      | refine LeO.ite ?_ ?_
      | refine LeO.bind ?_ (fun _ => ?_)
set_option maxHeartbeats 8000000 in
set_option maxRecDepth 100000 in
theorem impl_TreeOk.calls (k : Nat) (A0 : Option Addr) (c0 : Nat) (l0 : List (S77)) (r : Bool) (w : World) (hr0 : Kd.C k77 w A0 l0.length l0) (hc0 : l0.length ≤ c0) (h : impl_TreeOk.f k l0 = some r) :
    Calls Try.prog 67 #[.slice A0 l0.length c0] w fun e w' => e = .returned (.bool r) ∧ Below w.heap.size w w' := by
  have hu77 := Try.underlying77
  have HR0 := Aside0.mk hr0
  have HC0 := Aside0.mk hc0
  clear hr0 hc0
  have HB := Aside0.mk (Below.refl w.heap.size w)
  have H : ((impl_within.f (l0.length : Int) 1 12).bind fun t101 => (if t101 = true then (if 0 < (l0.length : Int) then (impl_TreeOk.j0 k l0 (!(((rd_T77 l0 0).f0) == (-1)) || (!(((rd_T77 l0 0).f1) == 0) || (!(((rd_T77 l0 0).f2) == 0))))) else (none)) else (impl_TreeOk.j0 k l0 true))) = some r := h
  clear h
  have HC2 := Aside0.mk H
  clear H
  go_enter Try.func67, Try.ntmps67
  go_upto_region 1 with (fail)
  go_cut [16] (fun v16 wc => ∃ (kq : Nat) (x16_1 : Bool), v16 = .bool x16_1 ∧ Aside0 (impl_TreeOk.j0 kq l0 x16_1 = some r) ∧ Aside0 (kq ≤ k) ∧ Aside0 (Below w.heap.size w wc))
  case first =>
    have H := HC2.out
    clear HC2
    replace H := Option.bind_eq_some_iff.mp H
    obtain ⟨t101, A30, H⟩ := H
    replace H : (if t101 = true then (if 0 < (l0.length : Int) then (impl_TreeOk.j0 k l0 (!(((rd_T77 l0 0).f0) == (-1)) || (!(((rd_T77 l0 0).f1) == 0) || (!(((rd_T77 l0 0).f2) == 0))))) else (none)) else (impl_TreeOk.j0 k l0 true)) = some r := H
    have A3 := Aside0.mk A30
    clear A30
    by_cases c4 : t101 = true
    · subst c4
      have H1 : (if 0 < (l0.length : Int) then (impl_TreeOk.j0 k l0 (!(((rd_T77 l0 0).f0) == (-1)) || (!(((rd_T77 l0 0).f1) == 0) || (!(((rd_T77 l0 0).f2) == 0))))) else (none)) = some r := by rw [if_pos rfl] at H; exact H
      clear H
      have H := H1
      clear H1
      by_cases c5 : 0 < (l0.length : Int)
      · rw [if_pos c5] at H
        have c5b0 : decide (0 < (l0.length : Int)) = true := decide_eq_true c5
        have c5b1 : decide (0 < l0.length) = true := decide_eq_true (by omega)
        clear c5
        (first | rw [c5b0] | (simp only [i64_w, i32_w]; rw [c5b0]) | skip)
        have H' := Aside0.mk H
        clear H
        go_wp2_with (first | ((with_reducible refine gate_callee (f := 94) rfl ?_); refine goesL_ (some 8) rfl rfl Try.func94 (by kernel_rfl) rfl #[.int .i64 (l0.length : Int), .int .i64 1, .int .i64 12] rfl (by (try simp only [List.map_toArray, List.map_cons, List.map_nil]); first | done | rfl | (simp only [List.length_drop, List.length_take]; rfl)) ?_; (with_reducible refine (impl_within.calls (l0.length : Int) 1 12 true _ A3.out).mono ?_); rintro e w' ⟨rfl, ⟨nd, rfl⟩⟩; refine ⟨_, rfl, ?_⟩; have p102 : 0 ≤ (0 : Int) := (by omega); have q102 : 0 < (l0.length : Int) := of_decide_eq_true (by first | (with_reducible assumption) | assumption); obtain ⟨ad102, e102, hx102_0, hx102_1, hx102_2⟩ := at_T77 HR0.out 0 p102 q102; cases e102; have qi102 : (0 < l0.length) = True := eq_true (by omega); (try rw [show ((0 : Int)).toNat = 0 from rfl] at hx102_0); (try rw [show 0 * 3 = 0 from rfl] at hx102_0); (try rw [Addr.add_zero'] at hx102_0); (try rw [show ((0 : Int)).toNat = 0 from rfl] at hx102_1); (try rw [show 0 * 3 = 0 from rfl] at hx102_1); (try rw [Addr.add_zero'] at hx102_1); (try rw [show ((0 : Int)).toNat = 0 from rfl] at hx102_2); (try rw [show 0 * 3 = 0 from rfl] at hx102_2); (try rw [Addr.add_zero'] at hx102_2); replace hx102_0 := (HB.out.cell (World.block_lt_of_cell? w _ hx102_0)).trans hx102_0; replace hx102_1 := (HB.out.cell (World.block_lt_of_cell? w _ hx102_1)).trans hx102_1; replace hx102_2 := (HB.out.cell (World.block_lt_of_cell? w _ hx102_2)).trans hx102_2; replace p102 := eq_true p102; replace q102 := eq_true q102))
        go_meet
        case rel => exact ⟨_, ((!(((rd_T77 l0 0).f0) == (-1)) || (!(((rd_T77 l0 0).f1) == 0) || (!(((rd_T77 l0 0).f2) == 0))))), (by first | rfl | (simp; done) | (simp [*]; done)), H', ⟨by first | omega | exact Nat.le_refl _⟩, ⟨by repeat (first | (with_reducible first | exact HB.out | apply below_alloc | apply pw_below_drewN | apply below_drew1) | exact HB.out)⟩⟩
      · rw [if_neg c5] at H
        exact absurd H (by simp)
    · replace c4 := Bool.eq_false_iff.mpr c4
      subst c4
      have H1 : (impl_TreeOk.j0 k l0 true) = some r := by rw [if_neg (show ¬ (false = true) by decide)] at H; exact H
      clear H
      have H := H1
      clear H1
      have H' := Aside0.mk H
      clear H
      go_wp2_with (first | ((with_reducible refine gate_callee (f := 94) rfl ?_); refine goesL_ (some 8) rfl rfl Try.func94 (by kernel_rfl) rfl #[.int .i64 (l0.length : Int), .int .i64 1, .int .i64 12] rfl (by (try simp only [List.map_toArray, List.map_cons, List.map_nil]); first | done | rfl | (simp only [List.length_drop, List.length_take]; rfl)) ?_; (with_reducible refine (impl_within.calls (l0.length : Int) 1 12 false _ A3.out).mono ?_); rintro e w' ⟨rfl, ⟨nd, rfl⟩⟩; refine ⟨_, rfl, ?_⟩))
      go_meet
      case rel => exact ⟨_, (true), (by first | rfl | (simp; done) | (simp [*]; done)), H', ⟨by first | omega | exact Nat.le_refl _⟩, ⟨by repeat (first | (with_reducible first | exact HB.out | apply below_alloc | apply pw_below_drewN | apply below_drew1) | exact HB.out)⟩⟩
  case rest =>
    clear HC2
    try clear p1
    try clear q1
    try clear hx1
    try clear qi1
    try clear p2
    try clear c4
    try clear c5
    try clear c5b0
    try clear c5b1
    try clear hx102_0
    try clear hx102_1
    try clear hx102_2
    try clear p102
    try clear q102
    obtain ⟨kq, x16_1, rfl, HA, HJ1, HB⟩ := hcut
    cases kq with
    | zero => exact absurd HA.out (by simp [impl_TreeOk.j0])
    | succ kj1 =>
      have H := HA.out
      clear HA
      simp only [impl_TreeOk.j0] at H
      by_cases c6 : x16_1 = true
      · subst c6
        have H1 : (some false) = some r := by rw [if_pos rfl] at H; exact H
        clear H
        have H := H1
        clear H1
        obtain rfl := Option.some.inj H
        go_wp2
        go_ret
        exact ⟨by first | rfl | (simp [errW_none, errW_some] <;> rfl) | (simp [*, errW_none, errW_some] <;> rfl), by repeat (first | (with_reducible first | exact HB.out | apply below_alloc | apply pw_below_drewN | apply below_drew1) | exact HB.out)⟩
      · replace c6 := Bool.eq_false_iff.mpr c6
        subst c6
        have H1 : (if 1 ≤ (l0.length : Int) then ((some (l0.drop 1 : List (S77))).bind fun y103 => (impl_TreeOk.l0 kj1 l0 y103 (y103.length : Int) 0)) else (none)) = some r := by rw [if_neg (show ¬ (false = true) by decide)] at H; exact H
        clear H
        have H := H1
        clear H1
        by_cases c7 : 1 ≤ (l0.length : Int)
        · rw [if_pos c7] at H
          have c7b0 := eq_true c7
          have c7b1 : decide (1 ≤ (l0.length : Int)) = true := decide_eq_true c7
          clear c7
          obtain ⟨y103, hy103⟩ : ∃ y_ : List (S77), y_ = (l0.drop 1) := ⟨_, rfl⟩
          replace H : (impl_TreeOk.l0 kj1 l0 y103 (y103.length : Int) 0) = some r := by first | (rw [hy103]; with_reducible exact H) | (have H2_ := (Option.bind_some _ _).symm.trans H; rw [hy103]; with_reducible exact H2_) | (have H2_ := (Option.bind_some _ _).symm.trans H; with_reducible exact H2_) | with_reducible exact H | (rw [hy103]; exact H) | exact H
          have Ny103 := Aside0.mk hy103
          clear hy103
          have H' := Aside0.mk H
          clear H
          have q8 : (1 : Int) ≤ ((l0.length : Int) : Int) := of_decide_eq_true (by first | (with_reducible assumption) | assumption)
          obtain ⟨i08, hi08, _, hsz8, _⟩ := info_parts info77
          have hroom8 : l0.length ≤ c0 := HC0.out
          have hC8 : Kd.C k77 _ A0 l0.length l0 := HR0.out
          have hcut8 := cut_from (P := Try.prog) 25 77 .i64 Try.underlying25 hi08 3 hsz8 A0 l0.length c0 1 (by omega) q8
          have hr8 := Kd.C_drop (m := (1 : Int).toNat) (c := c0) hC8 (by omega) hroom8
          obtain ⟨A8, hA8⟩ : ∃ A1, A1 = (if c0 = (1 : Int).toNat then A0 else (A0 : Option Addr).map (·.add ((1 : Int).toNat * 3))) := ⟨_, rfl⟩
          obtain ⟨c8, hc8⟩ : ∃ c1, c1 = c0 - (1 : Int).toNat := ⟨_, rfl⟩
          have hy8 : y103.length = l0.length - (1 : Int).toNat := (by rw [Ny103.out, List.length_drop] <;> omega)
          rw [show (l0).drop (1 : Int).toNat = y103 from Ny103.out.symm] at hr8
          replace hr8 : Kd.C k77 _ A8 y103.length y103 := (by rw [hA8]; exact hr8)
          rw [← hy8, ← hA8, ← hc8] at hcut8
          have HR106 := Aside0.mk hr8
          have HC106 := Aside0.mk (show y103.length ≤ c8 from by rw [hy8, hc8]; exact Nat.sub_le_sub_right hroom8 _)
          clear hr8 hC8 hroom8 hi08 hsz8 hc8
          have KY8 := Aside0.mk hy8
          have KA8 := Aside0.mk hA8
          clear hy8 hA8
          replace q8 := eq_true q8
          go_wp2
          go_loopg [20] kj1 (fun kq v20 w' => ∃ (x20_2 : Int), v20 = .int .i64 x20_2 ∧ Aside0 (impl_TreeOk.l0 kq l0 y103 (y103.length : Int) x20_2 = some r) ∧ Aside0 (kq ≤ kj1) ∧ Aside0 (Below w.heap.size w w'))
          case atStart => exact ⟨(0), (by first | rfl | (simp; done) | (simp [*]; done)), H', ⟨Nat.le_refl _⟩, ⟨by repeat (first | (with_reducible first | exact HB.out | apply below_alloc | apply pw_below_drewN | apply below_drew1) | exact HB.out)⟩⟩
          case round =>
            clear H'
            try clear c1
            try clear p1
            try clear q1
            try clear hx1
            try clear qi1
            try clear p2
            try clear c4
            try clear c5
            try clear c5b0
            try clear c5b1
            try clear c6
            try clear c7
            try clear c7b0
            try clear c7b1
            try clear c8
            try clear q8
            try clear hx102_0
            try clear hx102_1
            try clear hx102_2
            try clear p1
            try clear p102
            try clear p2
            try clear q1
            try clear q102
            try clear q8
            obtain ⟨x20_2, rfl, HA, HK2, HB⟩ := hrel
            cases gk with
            | zero => exact absurd HA.out (by simp [impl_TreeOk.l0])
            | succ k2 =>
              have H := HA.out
              clear HA
              simp only [impl_TreeOk.l0] at H
              by_cases c9 : x20_2 < (y103.length : Int)
              · rw [if_pos c9] at H
                have c9b0 : decide (x20_2 < (y103.length : Int)) = true := decide_eq_true c9
                clear c9
                by_cases c10 : 0 ≤ x20_2
                · rw [if_pos c10] at H
                  have c10b0 : decide (0 ≤ x20_2) = true := decide_eq_true c10
                  clear c10
                  by_cases c11 : x20_2 < (y103.length : Int)
                  · rw [if_pos c11] at H
                    have c11b0 : decide (x20_2 < (y103.length : Int)) = true := decide_eq_true c11
                    clear c11
                    obtain ⟨ji12, hji12⟩ : ∃ j_ : Int, (wrap64 (x20_2 + 1)) = j_ := ⟨_, rfl⟩
                    replace H : (if 0 ≤ (ji12) then (if (ji12) ≤ (l0.length : Int) then ((some (l0.take ((ji12) : Int).toNat : List (S77))).bind fun y109 => ((impl_within.f ((rd_T77 y103 x20_2).f0) 0 x20_2).bind fun t113 => (if t113 = true then (if 0 ≤ ((rd_T77 y103 x20_2).f0) then (if ((rd_T77 y103 x20_2).f0) < (y109.length : Int) then (if ((rd_T77 y109 ((rd_T77 y103 x20_2).f0)).f2) = 0 then ((impl_within.f ((rd_T77 y103 x20_2).f1) 0 3).bind fun t115 => (if t115 = true then ((impl_within.f ((rd_T77 y103 x20_2).f2) 0 4).bind fun t116 => (impl_TreeOk.j2 k2 l0 y109 y103 (y103.length : Int) x20_2 (!t116) ((rd_T77 y103 x20_2).f0) ((rd_T77 y103 x20_2).f1) ((rd_T77 y103 x20_2).f2))) else (impl_TreeOk.j2 k2 l0 y109 y103 (y103.length : Int) x20_2 true ((rd_T77 y103 x20_2).f0) ((rd_T77 y103 x20_2).f1) ((rd_T77 y103 x20_2).f2)))) else (impl_TreeOk.j2 k2 l0 y109 y103 (y103.length : Int) x20_2 true ((rd_T77 y103 x20_2).f0) ((rd_T77 y103 x20_2).f1) ((rd_T77 y103 x20_2).f2))) else (none)) else (none)) else (impl_TreeOk.j2 k2 l0 y109 y103 (y103.length : Int) x20_2 true ((rd_T77 y103 x20_2).f0) ((rd_T77 y103 x20_2).f1) ((rd_T77 y103 x20_2).f2))))) else (none)) else (none)) = some r := by first | (rw [hji12] at H; exact H) | (simp only [hji12] at H ⊢; exact H)
                    have hji12w : (IntKind.i64.wrap (x20_2 + 1)) = ji12 := (i64_w _).trans hji12
                    by_cases c13 : 0 ≤ (ji12)
                    · rw [if_pos c13] at H
                      have c13b0 := eq_true c13
                      have c13b1 : decide (0 ≤ (ji12)) = true := decide_eq_true c13
                      clear c13
                      by_cases c14 : (ji12) ≤ (l0.length : Int)
                      · rw [if_pos c14] at H
                        have c14b0 := eq_true c14
                        have c14b1 : decide ((ji12) ≤ (l0.length : Int)) = true := decide_eq_true c14
                        clear c14
                        obtain ⟨y109, hy109⟩ : ∃ y_ : List (S77), y_ = (l0.take ((ji12) : Int).toNat) := ⟨_, rfl⟩
                        replace H : ((impl_within.f ((rd_T77 y103 x20_2).f0) 0 x20_2).bind fun t113 => (if t113 = true then (if 0 ≤ ((rd_T77 y103 x20_2).f0) then (if ((rd_T77 y103 x20_2).f0) < (y109.length : Int) then (if ((rd_T77 y109 ((rd_T77 y103 x20_2).f0)).f2) = 0 then ((impl_within.f ((rd_T77 y103 x20_2).f1) 0 3).bind fun t115 => (if t115 = true then ((impl_within.f ((rd_T77 y103 x20_2).f2) 0 4).bind fun t116 => (impl_TreeOk.j2 k2 l0 y109 y103 (y103.length : Int) x20_2 (!t116) ((rd_T77 y103 x20_2).f0) ((rd_T77 y103 x20_2).f1) ((rd_T77 y103 x20_2).f2))) else (impl_TreeOk.j2 k2 l0 y109 y103 (y103.length : Int) x20_2 true ((rd_T77 y103 x20_2).f0) ((rd_T77 y103 x20_2).f1) ((rd_T77 y103 x20_2).f2)))) else (impl_TreeOk.j2 k2 l0 y109 y103 (y103.length : Int) x20_2 true ((rd_T77 y103 x20_2).f0) ((rd_T77 y103 x20_2).f1) ((rd_T77 y103 x20_2).f2))) else (none)) else (none)) else (impl_TreeOk.j2 k2 l0 y109 y103 (y103.length : Int) x20_2 true ((rd_T77 y103 x20_2).f0) ((rd_T77 y103 x20_2).f1) ((rd_T77 y103 x20_2).f2)))) = some r := by first | (rw [hy109]; with_reducible exact H) | (have H2_ := (Option.bind_some _ _).symm.trans H; rw [hy109]; with_reducible exact H2_) | (have H2_ := (Option.bind_some _ _).symm.trans H; with_reducible exact H2_) | with_reducible exact H | (rw [hy109]; exact H) | exact H
                        have Ny109 := Aside0.mk hy109
                        clear hy109
                        have HC15 := Aside0.mk H
                        clear H
                        have p107 : 0 ≤ (x20_2 : Int) := of_decide_eq_true (by first | (with_reducible assumption) | assumption)
                        have q107 : x20_2 < (y103.length : Int) := of_decide_eq_true (by first | (with_reducible assumption) | assumption)
                        obtain ⟨ad107, e107, hx107_0, hx107_1, hx107_2⟩ := at_T77 HR106.out x20_2 p107 q107
                        cases e107
                        replace hx107_0 := (HB.out.cell (World.block_lt_of_cell? w _ hx107_0)).trans hx107_0
                        replace hx107_1 := (HB.out.cell (World.block_lt_of_cell? w _ hx107_1)).trans hx107_1
                        replace hx107_2 := (HB.out.cell (World.block_lt_of_cell? w _ hx107_2)).trans hx107_2
                        replace p107 := eq_true p107
                        replace q107 := eq_true q107
                        go_upto_region 7 with (first | ((with_reducible refine gate_dst (N := 4) rfl ?_); refine box_event ?hg (N := 4) ?hd (cs := #[.int .i64 0, .int .i64 0, .int .i64 0]) (t := 77) ?hr ?_; (case hd => rfl); (case hg => rfl); (case hr => first | (go_simp; done) | (go_simp; rfl)); intro gb108 hg w16 hbox hb; have n0_ := Aside0.mk (below_step (by repeat (first | (with_reducible first | exact HB.out | apply below_alloc | apply pw_below_drewN | apply below_drew1) | exact HB.out)) hb); have n1_ := Aside0.mk (hbox); have n2_ := Aside0.mk ((by rw [hg]; exact (below_size (by repeat (first | (with_reducible first | exact HB.out | apply below_alloc | apply pw_below_drewN | apply below_drew1) | exact HB.out))) : w.heap.size ≤ gb108)); have n3_ := Aside0.mk ((by rw [hg]; exact (below_size (by repeat (first | (with_reducible first | exact HB.out | apply below_alloc | apply pw_below_drewN | apply below_drew1) | exact HB.out))) : w.heap.size ≤ gb108)); clear HB; have HB := n0_; have BK108 := n1_; have GW108 := n2_; have GE108 := n3_; clear n0_ n1_ n2_ n3_; clear hb hbox hg; have hcz17_0 : w16.cell? ⟨gb108, 0, none⟩ = some (.int .i64 0) := (blk_cell BK108.out 0).trans rfl; have hcz17_1 : w16.cell? ⟨gb108, 1, none⟩ = some (.int .i64 0) := (blk_cell BK108.out 1).trans rfl; have hcz17_2 : w16.cell? ⟨gb108, 2, none⟩ = some (.int .i64 0) := (blk_cell BK108.out 2).trans rfl; have hfz17_0 := blk_frozen BK108.out 0; have hfz17_1 := blk_frozen BK108.out 1; have hfz17_2 := blk_frozen BK108.out 2) | ((with_reducible refine gate_store (t := 77) (p := 4) rfl ?_); refine store_event (t := 77) (p := 4) (v := ?vo_w18) (w1 := (((w16.setCell ⟨gb108, 0, none⟩ (.int .i64 ((rd_T77 y103 x20_2).f0))).setCell ⟨gb108, 1, none⟩ (.int .i64 ((rd_T77 y103 x20_2).f1))).setCell ⟨gb108, 2, none⟩ (.int .i64 ((rd_T77 y103 x20_2).f2)))) ?hg ?ho ?hn ?hr ?_; (case ho => rfl); (case hg => rfl); (case hn => rfl); (case hr => first | (go_simp; done) | (go_simp; rfl)); intro w18 hw; have n0_ : Aside0 (w18.heap[gb108]? = some (.cells #[.int .i64 ((rd_T77 y103 x20_2).f0), .int .i64 ((rd_T77 y103 x20_2).f1), .int .i64 ((rd_T77 y103 x20_2).f2)] 77 (0, 0))) := ⟨(by rw [hw]; exact (by (with_reducible repeat (first | refine blk_drewN ?_ _ | refine blk_drew ?_ | refine blk_alloc ?_ _)); refine blk_put (cs := #[.int .i64 ((rd_T77 y103 x20_2).f0), .int .i64 ((rd_T77 y103 x20_2).f1), .int .i64 0]) ?_ 2 _ rfl; (with_reducible repeat (first | refine blk_drewN ?_ _ | refine blk_drew ?_ | refine blk_alloc ?_ _)); refine blk_put (cs := #[.int .i64 ((rd_T77 y103 x20_2).f0), .int .i64 0, .int .i64 0]) ?_ 1 _ rfl; (with_reducible repeat (first | refine blk_drewN ?_ _ | refine blk_drew ?_ | refine blk_alloc ?_ _)); refine blk_put (cs := #[.int .i64 0, .int .i64 0, .int .i64 0]) ?_ 0 _ rfl; (with_reducible repeat (first | refine blk_drewN ?_ _ | refine blk_drew ?_ | refine blk_alloc ?_ _)); exact BK108.out))⟩; have n1_ : Aside0 (Below w.heap.size w w18) := ⟨(by rw [hw]; exact (by repeat (first | (with_reducible first | exact HB.out | apply below_alloc | apply pw_below_drewN | apply below_drew1 | refine below_set ?_ GE108.out) | exact HB.out)))⟩; clear hw; clear BK108; clear HB; have BK108 := n0_; have HB := n1_; clear n0_ n1_; have q19 : ((ji12) : Int) ≤ ((l0.length : Int) : Int) := of_decide_eq_true (by first | (with_reducible assumption) | assumption); obtain ⟨i019, hi019, _, hsz19, _⟩ := info_parts info77; have hroom19 : l0.length ≤ c0 := HC0.out; have hC19 : Kd.C k77 _ A0 l0.length l0 := HR0.out; have hcut19 := cut_to (P := Try.prog) 25 77 .i64 Try.underlying25 hi019 A0 l0.length c0 (ji12) (of_decide_eq_true (by first | (with_reducible assumption) | assumption)) q19 hroom19; have hr19 := Kd.C_take (m := ((ji12) : Int).toNat) hC19 (by omega); have hy19 : y109.length = ((ji12) : Int).toNat := (by rw [Ny109.out, List.length_take]; omega); rw [← Ny109.out] at hr19; rw [← hy19] at hcut19; have HR112 := Aside0.mk hr19; have HC112 := Aside0.mk (show y109.length ≤ c0 from by omega); clear hr19 hC19 hroom19 hi019 hsz19; have KY19 := Aside0.mk hy19; clear hy19; replace q19 := eq_true q19))
                        (try simp only [Act.put, List.setIfInBounds_toArray, List.set_cons_zero, List.set_cons_succ])
                        go_cut [54] (fun v54 wc => ∃ (kq : Nat) (x54_14 : Bool), v54 = .bool x54_14 ∧ Aside0 (impl_TreeOk.j2 kq l0 y109 y103 (y103.length : Int) x20_2 x54_14 ((rd_T77 y103 x20_2).f0) ((rd_T77 y103 x20_2).f1) ((rd_T77 y103 x20_2).f2) = some r) ∧ Aside0 (kq ≤ k2) ∧ Aside0 (wc.heap[gb108]? = some (.cells #[.int .i64 ((rd_T77 y103 x20_2).f0), .int .i64 ((rd_T77 y103 x20_2).f1), .int .i64 ((rd_T77 y103 x20_2).f2)] 77 (0, 0))) ∧ Aside0 (Below w.heap.size w wc))
                        case first =>
                          have H := HC15.out
                          clear HC15
                          replace H := Option.bind_eq_some_iff.mp H
                          obtain ⟨t113, A200, H⟩ := H
                          replace H : (if t113 = true then (if 0 ≤ ((rd_T77 y103 x20_2).f0) then (if ((rd_T77 y103 x20_2).f0) < (y109.length : Int) then (if ((rd_T77 y109 ((rd_T77 y103 x20_2).f0)).f2) = 0 then ((impl_within.f ((rd_T77 y103 x20_2).f1) 0 3).bind fun t115 => (if t115 = true then ((impl_within.f ((rd_T77 y103 x20_2).f2) 0 4).bind fun t116 => (impl_TreeOk.j2 k2 l0 y109 y103 (y103.length : Int) x20_2 (!t116) ((rd_T77 y103 x20_2).f0) ((rd_T77 y103 x20_2).f1) ((rd_T77 y103 x20_2).f2))) else (impl_TreeOk.j2 k2 l0 y109 y103 (y103.length : Int) x20_2 true ((rd_T77 y103 x20_2).f0) ((rd_T77 y103 x20_2).f1) ((rd_T77 y103 x20_2).f2)))) else (impl_TreeOk.j2 k2 l0 y109 y103 (y103.length : Int) x20_2 true ((rd_T77 y103 x20_2).f0) ((rd_T77 y103 x20_2).f1) ((rd_T77 y103 x20_2).f2))) else (none)) else (none)) else (impl_TreeOk.j2 k2 l0 y109 y103 (y103.length : Int) x20_2 true ((rd_T77 y103 x20_2).f0) ((rd_T77 y103 x20_2).f1) ((rd_T77 y103 x20_2).f2))) = some r := H
                          have A20 := Aside0.mk A200
                          clear A200
                          by_cases c21 : t113 = true
                          · subst c21
                            have H1 : (if 0 ≤ ((rd_T77 y103 x20_2).f0) then (if ((rd_T77 y103 x20_2).f0) < (y109.length : Int) then (if ((rd_T77 y109 ((rd_T77 y103 x20_2).f0)).f2) = 0 then ((impl_within.f ((rd_T77 y103 x20_2).f1) 0 3).bind fun t115 => (if t115 = true then ((impl_within.f ((rd_T77 y103 x20_2).f2) 0 4).bind fun t116 => (impl_TreeOk.j2 k2 l0 y109 y103 (y103.length : Int) x20_2 (!t116) ((rd_T77 y103 x20_2).f0) ((rd_T77 y103 x20_2).f1) ((rd_T77 y103 x20_2).f2))) else (impl_TreeOk.j2 k2 l0 y109 y103 (y103.length : Int) x20_2 true ((rd_T77 y103 x20_2).f0) ((rd_T77 y103 x20_2).f1) ((rd_T77 y103 x20_2).f2)))) else (impl_TreeOk.j2 k2 l0 y109 y103 (y103.length : Int) x20_2 true ((rd_T77 y103 x20_2).f0) ((rd_T77 y103 x20_2).f1) ((rd_T77 y103 x20_2).f2))) else (none)) else (none)) = some r := by rw [if_pos rfl] at H; exact H
                            clear H
                            have H := H1
                            clear H1
                            by_cases c22 : 0 ≤ ((rd_T77 y103 x20_2).f0)
                            · rw [if_pos c22] at H
                              have c22b0 : decide (0 ≤ ((rd_T77 y103 x20_2).f0)) = true := decide_eq_true c22
                              clear c22
                              (first | rw [c22b0] | (simp only [i64_w, i32_w]; rw [c22b0]) | skip)
                              by_cases c23 : ((rd_T77 y103 x20_2).f0) < (y109.length : Int)
                              · rw [if_pos c23] at H
                                have c23b0 : decide (((rd_T77 y103 x20_2).f0) < (y109.length : Int)) = true := decide_eq_true c23
                                clear c23
                                by_cases c24 : ((rd_T77 y109 ((rd_T77 y103 x20_2).f0)).f2) = 0
                                · rw [if_pos c24] at H
                                  have c24b0 : (((rd_T77 y109 ((rd_T77 y103 x20_2).f0)).f2) == 0) = true := beq_iff_eq.mpr c24
                                  have c24b1 : (((rd_T77 y109 ((rd_T77 y103 x20_2).f0)).f2) != 0) = false := bne_eq_false_iff_eq.mpr c24
                                  clear c24
                                  replace H := Option.bind_eq_some_iff.mp H
                                  obtain ⟨t115, A250, H⟩ := H
                                  replace H : (if t115 = true then ((impl_within.f ((rd_T77 y103 x20_2).f2) 0 4).bind fun t116 => (impl_TreeOk.j2 k2 l0 y109 y103 (y103.length : Int) x20_2 (!t116) ((rd_T77 y103 x20_2).f0) ((rd_T77 y103 x20_2).f1) ((rd_T77 y103 x20_2).f2))) else (impl_TreeOk.j2 k2 l0 y109 y103 (y103.length : Int) x20_2 true ((rd_T77 y103 x20_2).f0) ((rd_T77 y103 x20_2).f1) ((rd_T77 y103 x20_2).f2))) = some r := H
                                  have A25 := Aside0.mk A250
                                  clear A250
                                  by_cases c26 : t115 = true
                                  · subst c26
                                    have H1 : ((impl_within.f ((rd_T77 y103 x20_2).f2) 0 4).bind fun t116 => (impl_TreeOk.j2 k2 l0 y109 y103 (y103.length : Int) x20_2 (!t116) ((rd_T77 y103 x20_2).f0) ((rd_T77 y103 x20_2).f1) ((rd_T77 y103 x20_2).f2))) = some r := by rw [if_pos rfl] at H; exact H
                                    clear H
                                    have H := H1
                                    clear H1
                                    replace H := Option.bind_eq_some_iff.mp H
                                    obtain ⟨t116, A270, H⟩ := H
                                    replace H : (impl_TreeOk.j2 k2 l0 y109 y103 (y103.length : Int) x20_2 (!t116) ((rd_T77 y103 x20_2).f0) ((rd_T77 y103 x20_2).f1) ((rd_T77 y103 x20_2).f2)) = some r := H
                                    have A27 := Aside0.mk A270
                                    clear A270
                                    have H' := Aside0.mk H
                                    clear H
                                    have hcz28_0 : w18.cell? ⟨gb108, 0, none⟩ = some (.int .i64 ((rd_T77 y103 x20_2).f0)) := (blk_cell BK108.out 0).trans rfl
                                    have hcz28_1 : w18.cell? ⟨gb108, 1, none⟩ = some (.int .i64 ((rd_T77 y103 x20_2).f1)) := (blk_cell BK108.out 1).trans rfl
                                    have hcz28_2 : w18.cell? ⟨gb108, 2, none⟩ = some (.int .i64 ((rd_T77 y103 x20_2).f2)) := (blk_cell BK108.out 2).trans rfl
                                    have hfz28_0 := blk_frozen BK108.out 0
                                    have hfz28_1 := blk_frozen BK108.out 1
                                    have hfz28_2 := blk_frozen BK108.out 2
                                    go_wp2_with (first | ((with_reducible refine gate_callee (f := 94) rfl ?_); refine goesL_ (some 32) rfl rfl Try.func94 (by kernel_rfl) rfl #[.int .i64 ((rd_T77 y103 x20_2).f0), .int .i64 0, .int .i64 x20_2] rfl (by (try simp only [List.map_toArray, List.map_cons, List.map_nil]); first | done | rfl | (simp only [List.length_drop, List.length_take]; rfl)) ?_; (with_reducible refine (impl_within.calls ((rd_T77 y103 x20_2).f0) 0 x20_2 true _ A20.out).mono ?_); rintro e w' ⟨rfl, ⟨nd, rfl⟩⟩; refine ⟨_, rfl, ?_⟩; have p114 : 0 ≤ (((rd_T77 y103 x20_2).f0) : Int) := of_decide_eq_true (by first | (with_reducible assumption) | assumption); have q114 : ((rd_T77 y103 x20_2).f0) < (y109.length : Int) := of_decide_eq_true (by first | (with_reducible assumption) | assumption); obtain ⟨ad114, e114, hx114_0, hx114_1, hx114_2⟩ := at_T77 HR112.out ((rd_T77 y103 x20_2).f0) p114 q114; cases e114; replace hx114_0 := (HB.out.cell (World.block_lt_of_cell? w _ hx114_0)).trans hx114_0; replace hx114_1 := (HB.out.cell (World.block_lt_of_cell? w _ hx114_1)).trans hx114_1; replace hx114_2 := (HB.out.cell (World.block_lt_of_cell? w _ hx114_2)).trans hx114_2; replace p114 := eq_true p114; replace q114 := eq_true q114) | (go_at_call 94; (with_reducible refine (impl_within.calls ((rd_T77 y103 x20_2).f1) 0 3 true _ A25.out).mono ?_); rintro e w' ⟨rfl, ⟨nd, rfl⟩⟩) | (go_at_call 94; (with_reducible refine (impl_within.calls ((rd_T77 y103 x20_2).f2) 0 4 t116 _ A27.out).mono ?_); rintro e w' ⟨rfl, ⟨nd, rfl⟩⟩))
                                    go_meet
                                    case rel => exact ⟨_, (!t116), (by first | rfl | (simp; done) | (simp [*]; done)), H', ⟨by have := HJ1.out; have := HK2.out; first | omega | exact Nat.le_refl _⟩, ⟨by (with_reducible repeat (first | refine blk_drewN ?_ _ | refine blk_drew ?_ | refine blk_alloc ?_ _)); exact BK108.out⟩, ⟨by repeat (first | (with_reducible first | exact HB.out | apply below_alloc | apply pw_below_drewN | apply below_drew1 | refine below_set ?_ GE108.out) | exact HB.out)⟩⟩
                                  · replace c26 := Bool.eq_false_iff.mpr c26
                                    subst c26
                                    have H1 : (impl_TreeOk.j2 k2 l0 y109 y103 (y103.length : Int) x20_2 true ((rd_T77 y103 x20_2).f0) ((rd_T77 y103 x20_2).f1) ((rd_T77 y103 x20_2).f2)) = some r := by rw [if_neg (show ¬ (false = true) by decide)] at H; exact H
                                    clear H
                                    have H := H1
                                    clear H1
                                    have H' := Aside0.mk H
                                    clear H
                                    have hcz29_0 : w18.cell? ⟨gb108, 0, none⟩ = some (.int .i64 ((rd_T77 y103 x20_2).f0)) := (blk_cell BK108.out 0).trans rfl
                                    have hcz29_1 : w18.cell? ⟨gb108, 1, none⟩ = some (.int .i64 ((rd_T77 y103 x20_2).f1)) := (blk_cell BK108.out 1).trans rfl
                                    have hcz29_2 : w18.cell? ⟨gb108, 2, none⟩ = some (.int .i64 ((rd_T77 y103 x20_2).f2)) := (blk_cell BK108.out 2).trans rfl
                                    have hfz29_0 := blk_frozen BK108.out 0
                                    have hfz29_1 := blk_frozen BK108.out 1
                                    have hfz29_2 := blk_frozen BK108.out 2
                                    go_wp2_with (first | ((with_reducible refine gate_callee (f := 94) rfl ?_); refine goesL_ (some 32) rfl rfl Try.func94 (by kernel_rfl) rfl #[.int .i64 ((rd_T77 y103 x20_2).f0), .int .i64 0, .int .i64 x20_2] rfl (by (try simp only [List.map_toArray, List.map_cons, List.map_nil]); first | done | rfl | (simp only [List.length_drop, List.length_take]; rfl)) ?_; (with_reducible refine (impl_within.calls ((rd_T77 y103 x20_2).f0) 0 x20_2 true _ A20.out).mono ?_); rintro e w' ⟨rfl, ⟨nd, rfl⟩⟩; refine ⟨_, rfl, ?_⟩; have p114 : 0 ≤ (((rd_T77 y103 x20_2).f0) : Int) := of_decide_eq_true (by first | (with_reducible assumption) | assumption); have q114 : ((rd_T77 y103 x20_2).f0) < (y109.length : Int) := of_decide_eq_true (by first | (with_reducible assumption) | assumption); obtain ⟨ad114, e114, hx114_0, hx114_1, hx114_2⟩ := at_T77 HR112.out ((rd_T77 y103 x20_2).f0) p114 q114; cases e114; replace hx114_0 := (HB.out.cell (World.block_lt_of_cell? w _ hx114_0)).trans hx114_0; replace hx114_1 := (HB.out.cell (World.block_lt_of_cell? w _ hx114_1)).trans hx114_1; replace hx114_2 := (HB.out.cell (World.block_lt_of_cell? w _ hx114_2)).trans hx114_2; replace p114 := eq_true p114; replace q114 := eq_true q114) | (go_at_call 94; (with_reducible refine (impl_within.calls ((rd_T77 y103 x20_2).f1) 0 3 false _ A25.out).mono ?_); rintro e w' ⟨rfl, ⟨nd, rfl⟩⟩))
                                    go_meet
                                    case rel => exact ⟨_, (true), (by first | rfl | (simp; done) | (simp [*]; done)), H', ⟨by have := HJ1.out; have := HK2.out; first | omega | exact Nat.le_refl _⟩, ⟨by (with_reducible repeat (first | refine blk_drewN ?_ _ | refine blk_drew ?_ | refine blk_alloc ?_ _)); exact BK108.out⟩, ⟨by repeat (first | (with_reducible first | exact HB.out | apply below_alloc | apply pw_below_drewN | apply below_drew1 | refine below_set ?_ GE108.out) | exact HB.out)⟩⟩
                                · rw [if_neg c24] at H
                                  have c24b0 : (((rd_T77 y109 ((rd_T77 y103 x20_2).f0)).f2) == 0) = false := beq_eq_false_iff_ne.mpr c24
                                  have c24b1 : (((rd_T77 y109 ((rd_T77 y103 x20_2).f0)).f2) != 0) = true := bne_iff_ne.mpr c24
                                  have H' := Aside0.mk H
                                  clear H
                                  have hcz30_0 : w18.cell? ⟨gb108, 0, none⟩ = some (.int .i64 ((rd_T77 y103 x20_2).f0)) := (blk_cell BK108.out 0).trans rfl
                                  have hcz30_1 : w18.cell? ⟨gb108, 1, none⟩ = some (.int .i64 ((rd_T77 y103 x20_2).f1)) := (blk_cell BK108.out 1).trans rfl
                                  have hcz30_2 : w18.cell? ⟨gb108, 2, none⟩ = some (.int .i64 ((rd_T77 y103 x20_2).f2)) := (blk_cell BK108.out 2).trans rfl
                                  have hfz30_0 := blk_frozen BK108.out 0
                                  have hfz30_1 := blk_frozen BK108.out 1
                                  have hfz30_2 := blk_frozen BK108.out 2
                                  go_wp2_with (first | ((with_reducible refine gate_callee (f := 94) rfl ?_); refine goesL_ (some 32) rfl rfl Try.func94 (by kernel_rfl) rfl #[.int .i64 ((rd_T77 y103 x20_2).f0), .int .i64 0, .int .i64 x20_2] rfl (by (try simp only [List.map_toArray, List.map_cons, List.map_nil]); first | done | rfl | (simp only [List.length_drop, List.length_take]; rfl)) ?_; (with_reducible refine (impl_within.calls ((rd_T77 y103 x20_2).f0) 0 x20_2 true _ A20.out).mono ?_); rintro e w' ⟨rfl, ⟨nd, rfl⟩⟩; refine ⟨_, rfl, ?_⟩; have p114 : 0 ≤ (((rd_T77 y103 x20_2).f0) : Int) := of_decide_eq_true (by first | (with_reducible assumption) | assumption); have q114 : ((rd_T77 y103 x20_2).f0) < (y109.length : Int) := of_decide_eq_true (by first | (with_reducible assumption) | assumption); obtain ⟨ad114, e114, hx114_0, hx114_1, hx114_2⟩ := at_T77 HR112.out ((rd_T77 y103 x20_2).f0) p114 q114; cases e114; replace hx114_0 := (HB.out.cell (World.block_lt_of_cell? w _ hx114_0)).trans hx114_0; replace hx114_1 := (HB.out.cell (World.block_lt_of_cell? w _ hx114_1)).trans hx114_1; replace hx114_2 := (HB.out.cell (World.block_lt_of_cell? w _ hx114_2)).trans hx114_2; replace p114 := eq_true p114; replace q114 := eq_true q114))
                                  go_meet
                                  case rel => exact ⟨_, (true), (by first | rfl | (simp; done) | (simp [*]; done)), H', ⟨by have := HJ1.out; have := HK2.out; first | omega | exact Nat.le_refl _⟩, ⟨by (with_reducible repeat (first | refine blk_drewN ?_ _ | refine blk_drew ?_ | refine blk_alloc ?_ _)); exact BK108.out⟩, ⟨by repeat (first | (with_reducible first | exact HB.out | apply below_alloc | apply pw_below_drewN | apply below_drew1 | refine below_set ?_ GE108.out) | exact HB.out)⟩⟩
                              · rw [if_neg c23] at H
                                exact absurd H (by simp)
                            · rw [if_neg c22] at H
                              exact absurd H (by simp)
                          · replace c21 := Bool.eq_false_iff.mpr c21
                            subst c21
                            have H1 : (impl_TreeOk.j2 k2 l0 y109 y103 (y103.length : Int) x20_2 true ((rd_T77 y103 x20_2).f0) ((rd_T77 y103 x20_2).f1) ((rd_T77 y103 x20_2).f2)) = some r := by rw [if_neg (show ¬ (false = true) by decide)] at H; exact H
                            clear H
                            have H := H1
                            clear H1
                            have H' := Aside0.mk H
                            clear H
                            have hcz31_0 : w18.cell? ⟨gb108, 0, none⟩ = some (.int .i64 ((rd_T77 y103 x20_2).f0)) := (blk_cell BK108.out 0).trans rfl
                            have hcz31_1 : w18.cell? ⟨gb108, 1, none⟩ = some (.int .i64 ((rd_T77 y103 x20_2).f1)) := (blk_cell BK108.out 1).trans rfl
                            have hcz31_2 : w18.cell? ⟨gb108, 2, none⟩ = some (.int .i64 ((rd_T77 y103 x20_2).f2)) := (blk_cell BK108.out 2).trans rfl
                            have hfz31_0 := blk_frozen BK108.out 0
                            have hfz31_1 := blk_frozen BK108.out 1
                            have hfz31_2 := blk_frozen BK108.out 2
                            go_wp2_with (first | ((with_reducible refine gate_callee (f := 94) rfl ?_); refine goesL_ (some 32) rfl rfl Try.func94 (by kernel_rfl) rfl #[.int .i64 ((rd_T77 y103 x20_2).f0), .int .i64 0, .int .i64 x20_2] rfl (by (try simp only [List.map_toArray, List.map_cons, List.map_nil]); first | done | rfl | (simp only [List.length_drop, List.length_take]; rfl)) ?_; (with_reducible refine (impl_within.calls ((rd_T77 y103 x20_2).f0) 0 x20_2 false _ A20.out).mono ?_); rintro e w' ⟨rfl, ⟨nd, rfl⟩⟩; refine ⟨_, rfl, ?_⟩))
                            go_meet
                            case rel => exact ⟨_, (true), (by first | rfl | (simp; done) | (simp [*]; done)), H', ⟨by have := HJ1.out; have := HK2.out; first | omega | exact Nat.le_refl _⟩, ⟨by (with_reducible repeat (first | refine blk_drewN ?_ _ | refine blk_drew ?_ | refine blk_alloc ?_ _)); exact BK108.out⟩, ⟨by repeat (first | (with_reducible first | exact HB.out | apply below_alloc | apply pw_below_drewN | apply below_drew1 | refine below_set ?_ GE108.out) | exact HB.out)⟩⟩
                        case rest =>
                          clear HC15
                          try clear c1
                          try clear p1
                          try clear q1
                          try clear hx1
                          try clear qi1
                          try clear c2
                          try clear p2
                          try clear c4
                          try clear c5
                          try clear c5b0
                          try clear c5b1
                          try clear c6
                          try clear p6
                          try clear c7
                          try clear c7b0
                          try clear c7b1
                          try clear c8
                          try clear q8
                          try clear c9
                          try clear c9b0
                          try clear c10
                          try clear c10b0
                          try clear p10
                          try clear q10
                          try clear hx10
                          try clear qi10
                          try clear c11
                          try clear c11b0
                          try clear p11
                          try clear q11
                          try clear hx11
                          try clear c13
                          try clear c13b0
                          try clear c13b1
                          try clear c14
                          try clear c14b0
                          try clear c14b1
                          try clear q19
                          try clear c21
                          try clear c22
                          try clear c22b0
                          try clear c23
                          try clear c23b0
                          try clear c24
                          try clear c24b0
                          try clear c24b1
                          try clear c26
                          try clear hcz17_0
                          try clear hcz17_1
                          try clear hcz17_2
                          try clear hcz28_0
                          try clear hcz28_1
                          try clear hcz28_2
                          try clear hcz29_0
                          try clear hcz29_1
                          try clear hcz29_2
                          try clear hcz30_0
                          try clear hcz30_1
                          try clear hcz30_2
                          try clear hcz31_0
                          try clear hcz31_1
                          try clear hcz31_2
                          try clear hfz17_0
                          try clear hfz17_1
                          try clear hfz17_2
                          try clear hfz28_0
                          try clear hfz28_1
                          try clear hfz28_2
                          try clear hfz29_0
                          try clear hfz29_1
                          try clear hfz29_2
                          try clear hfz30_0
                          try clear hfz30_1
                          try clear hfz30_2
                          try clear hfz31_0
                          try clear hfz31_1
                          try clear hfz31_2
                          try clear hx102_0
                          try clear hx102_1
                          try clear hx102_2
                          try clear hx107_0
                          try clear hx107_1
                          try clear hx107_2
                          try clear hx114_0
                          try clear hx114_1
                          try clear hx114_2
                          try clear p1
                          try clear p102
                          try clear p107
                          try clear p114
                          try clear p2
                          try clear q1
                          try clear q102
                          try clear q107
                          try clear q114
                          try clear q19
                          try clear q8
                          obtain ⟨kq, x54_14, rfl, HA, HJ14, BK108, HB⟩ := hcut
                          cases kq with
                          | zero => exact absurd HA.out (by simp [impl_TreeOk.j2])
                          | succ kj14 =>
                            have H := HA.out
                            clear HA
                            simp only [impl_TreeOk.j2] at H
                            by_cases c32 : x54_14 = true
                            · subst c32
                              have H1 : (some false) = some r := by rw [if_pos rfl] at H; exact H
                              clear H
                              have H := H1
                              clear H1
                              obtain rfl := Option.some.inj H
                              go_wp2
                              go_ret
                              exact ⟨by first | rfl | (simp [errW_none, errW_some] <;> rfl) | (simp only [← hji12]; first | rfl | (simp [errW_none, errW_some] <;> rfl)) | (simp [*, errW_none, errW_some] <;> rfl), by repeat (first | (with_reducible first | exact HB.out | apply below_alloc | apply pw_below_drewN | apply below_drew1 | refine below_set ?_ GE108.out) | exact HB.out)⟩
                            · replace c32 := Bool.eq_false_iff.mpr c32
                              subst c32
                              have H1 : ((slices_ContainsFunc__impl_TreeOk_1.f y109 ((rd_T77 y103 x20_2).f0) ((rd_T77 y103 x20_2).f1) ((rd_T77 y103 x20_2).f2)).bind fun t117 => (if t117 = true then (some false) else (impl_TreeOk.l0 kj14 l0 y103 (y103.length : Int) (wrap64 (x20_2 + 1))))) = some r := by rw [if_neg (show ¬ (false = true) by decide)] at H; exact H
                              clear H
                              have H := H1
                              clear H1
                              replace H := Option.bind_eq_some_iff.mp H
                              obtain ⟨t117, A330, H⟩ := H
                              replace H : (if t117 = true then (some false) else (impl_TreeOk.l0 kj14 l0 y103 (y103.length : Int) (wrap64 (x20_2 + 1)))) = some r := H
                              have A33 := Aside0.mk A330
                              clear A330
                              by_cases c34 : t117 = true
                              · subst c34
                                have H1 : (some false) = some r := by rw [if_pos rfl] at H; exact H
                                clear H
                                have H := H1
                                clear H1
                                obtain rfl := Option.some.inj H
                                go_wp2_with (first | ((with_reducible refine gate_callee (f := 117) rfl ?_); refine goesL_ (some 57) rfl rfl Try.func117 (by kernel_rfl) rfl #[.slice A0 y109.length c0, .func (.func 118) #[] #[.pointer (some ⟨gb108, 0, none⟩)]] rfl (by (try simp only [List.map_toArray, List.map_cons, List.map_nil]); first | done | rfl | (simp only [List.length_drop, List.length_take]; rfl)) ?_; (with_reducible refine (slices_ContainsFunc__impl_TreeOk_1.calls _ _ y109 gb108 ((rd_T77 y103 x20_2).f0) ((rd_T77 y103 x20_2).f1) ((rd_T77 y103 x20_2).f2) true _ ?side1 ?side2 ?side3 A33.out).mono ?_); (case side1 => repeat (first | exact (Kd.C_below HR112.out HB.out) | (with_reducible refine Kd.C_alloc ?_ _) | (with_reducible refine Kd.C_drewN ?_ _) | (with_reducible refine Kd.C_drew ?_))); (case side2 => exact HC112.out); (case side3 => exact by (with_reducible repeat (first | refine blk_drewN ?_ _ | refine blk_drew ?_ | refine blk_alloc ?_ _)); exact BK108.out); rintro e w35 ⟨rfl, hb⟩; refine ⟨_, rfl, ?_⟩; have n0_ := Aside0.mk (blk_below (g := gb108) (o := .cells #[.int .i64 ((rd_T77 y103 x20_2).f0), .int .i64 ((rd_T77 y103 x20_2).f1), .int .i64 ((rd_T77 y103 x20_2).f2)] 77 (0, 0)) (by (with_reducible repeat (first | refine blk_drewN ?_ _ | refine blk_drew ?_ | refine blk_alloc ?_ _)); exact BK108.out) hb); have n1_ := Aside0.mk (below_step (by repeat (first | (with_reducible first | exact HB.out | apply below_alloc | apply pw_below_drewN | apply below_drew1 | refine below_set ?_ GE108.out) | exact HB.out)) hb); clear BK108; clear HB; have BK108 := n0_; have HB := n1_; clear n0_ n1_; (try clear hb); (try clear hb2); (try clear hk); (try clear hi)))
                                go_ret
                                exact ⟨by first | rfl | (simp [errW_none, errW_some] <;> rfl) | (simp only [← hji12]; first | rfl | (simp [errW_none, errW_some] <;> rfl)) | (simp [*, errW_none, errW_some] <;> rfl), by repeat (first | (with_reducible first | exact HB.out | apply below_alloc | apply pw_below_drewN | apply below_drew1 | refine below_set ?_ GE108.out) | exact HB.out)⟩
                              · replace c34 := Bool.eq_false_iff.mpr c34
                                subst c34
                                have H1 : (impl_TreeOk.l0 kj14 l0 y103 (y103.length : Int) (wrap64 (x20_2 + 1))) = some r := by rw [if_neg (show ¬ (false = true) by decide)] at H; exact H
                                clear H
                                have H := H1
                                clear H1
                                have H' := Aside0.mk H
                                clear H
                                go_wp2_with (first | ((with_reducible refine gate_callee (f := 117) rfl ?_); refine goesL_ (some 57) rfl rfl Try.func117 (by kernel_rfl) rfl #[.slice A0 y109.length c0, .func (.func 118) #[] #[.pointer (some ⟨gb108, 0, none⟩)]] rfl (by (try simp only [List.map_toArray, List.map_cons, List.map_nil]); first | done | rfl | (simp only [List.length_drop, List.length_take]; rfl)) ?_; (with_reducible refine (slices_ContainsFunc__impl_TreeOk_1.calls _ _ y109 gb108 ((rd_T77 y103 x20_2).f0) ((rd_T77 y103 x20_2).f1) ((rd_T77 y103 x20_2).f2) false _ ?side1 ?side2 ?side3 A33.out).mono ?_); (case side1 => repeat (first | exact (Kd.C_below HR112.out HB.out) | (with_reducible refine Kd.C_alloc ?_ _) | (with_reducible refine Kd.C_drewN ?_ _) | (with_reducible refine Kd.C_drew ?_))); (case side2 => exact HC112.out); (case side3 => exact by (with_reducible repeat (first | refine blk_drewN ?_ _ | refine blk_drew ?_ | refine blk_alloc ?_ _)); exact BK108.out); rintro e w36 ⟨rfl, hb⟩; refine ⟨_, rfl, ?_⟩; have n0_ := Aside0.mk (blk_below (g := gb108) (o := .cells #[.int .i64 ((rd_T77 y103 x20_2).f0), .int .i64 ((rd_T77 y103 x20_2).f1), .int .i64 ((rd_T77 y103 x20_2).f2)] 77 (0, 0)) (by (with_reducible repeat (first | refine blk_drewN ?_ _ | refine blk_drew ?_ | refine blk_alloc ?_ _)); exact BK108.out) hb); have n1_ := Aside0.mk (below_step (by repeat (first | (with_reducible first | exact HB.out | apply below_alloc | apply pw_below_drewN | apply below_drew1 | refine below_set ?_ GE108.out) | exact HB.out)) hb); clear BK108; clear HB; have BK108 := n0_; have HB := n1_; clear n0_ n1_; (try clear hb); (try clear hb2); (try clear hk); (try clear hi)))
                                go_roundg kj14
                                case measure => have := HJ1.out; have := HK2.out; have := HJ14.out; omega
                                case rel => exact ⟨(wrap64 (x20_2 + 1)), (by first | rfl | (simp; done) | (simp [*]; done)), H', ⟨by have := HJ1.out; have := HK2.out; have := HJ14.out; omega⟩, ⟨by repeat (first | (with_reducible first | exact HB.out | apply below_alloc | apply pw_below_drewN | apply below_drew1 | refine below_set ?_ GE108.out) | exact HB.out)⟩⟩
                      · rw [if_neg c14] at H
                        exact absurd H (by simp)
                    · rw [if_neg c13] at H
                      exact absurd H (by simp)
                  · rw [if_neg c11] at H
                    exact absurd H (by simp)
                · rw [if_neg c10] at H
                  exact absurd H (by simp)
              · rw [if_neg c9] at H
                have c9b0 : decide (x20_2 < (y103.length : Int)) = false := decide_eq_false c9
                clear c9
                obtain rfl := Option.some.inj H
                go_wp2
                go_ret
                exact ⟨by first | rfl | (simp [errW_none, errW_some] <;> rfl) | (simp [*, errW_none, errW_some] <;> rfl), by repeat (first | (with_reducible first | exact HB.out | apply below_alloc | apply pw_below_drewN | apply below_drew1) | exact HB.out)⟩
        · rw [if_neg c7] at H
          exact absurd H (by simp)

-- NOT PRINTED: function 143 (slices_IndexFunc_int_int)

-- NOT PRINTED: function 135 (slices_ContainsFunc_int_int)

/-! ### impl_areDepths_1: function 136 -/
def impl_areDepths_1.f (a0 : Int) : Option (Bool) := (impl_within.f a0 0 3).bind fun t118 => (some (!t118))
set_option maxHeartbeats 8000000 in
set_option maxRecDepth 100000 in
theorem impl_areDepths_1.calls (a0 : Int) (r : Bool) (w : World) (h : impl_areDepths_1.f a0 = some r) :
    Calls Try.prog 136 #[.int .i64 a0] w fun e w' => e = .returned (.bool r) ∧ Drawn0 w w' := by
  have H : ((impl_within.f a0 0 3).bind fun t118 => (some (!t118))) = some r := h
  clear h
  replace H := Option.bind_eq_some_iff.mp H
  obtain ⟨t118, A20, H⟩ := H
  replace H : (some (!t118)) = some r := H
  have A2 := Aside0.mk A20
  clear A20
  obtain rfl := Option.some.inj H
  go_enter Try.func136, Try.ntmps136
  go_wp2_with (first | ((with_reducible refine gate_callee (f := 94) rfl ?_); refine goesL_ (some 4) rfl rfl Try.func94 (by kernel_rfl) rfl #[.int .i64 a0, .int .i64 0, .int .i64 3] rfl (by (try simp only [List.map_toArray, List.map_cons, List.map_nil]); first | done | rfl | (simp only [List.length_drop, List.length_take]; rfl)) ?_; (with_reducible refine (impl_within.calls a0 0 3 t118 _ A2.out).mono ?_); rintro e w' ⟨rfl, ⟨nd, rfl⟩⟩; refine ⟨_, rfl, ?_⟩))
  go_ret
  exact ⟨by first | rfl | (simp; done) | (simp [*]; done), by repeat (first | exact Drawn0.refl _ | apply Drawn0.step)⟩

/-! ### slices_ContainsFunc__impl_areDepths_1: function 135 handed function 136 -/
def slices_ContainsFunc__impl_areDepths_1.f (l0 : List Int) : Option (Bool) := anyO (fun x : Int => impl_areDepths_1.f x) l0
set_option maxHeartbeats 1000000 in
set_option maxRecDepth 100000 in
theorem slices_ContainsFunc__impl_areDepths_1.idx (A0 : Option Addr) (c0 : Nat) (l0 : List Int) (r : Int) (w : World) (hr0 : Kd.C (Kd.int .i64) w A0 l0.length l0) (hc0 : l0.length ≤ c0) (h : idxO (fun x : Int => impl_areDepths_1.f x) l0 = some r) :
    Calls Try.prog 143 #[.slice A0 l0.length c0, .func (.func 136) #[] #[]] w fun e w' => e = .returned (.int .i64 r) ∧ Below w.heap.size w w' := by
  have hm : l0.length ≤ 9223372036854775807 := hr0.2.1
  have HR := Aside0.mk hr0
  have HX := Aside0.mk h
  clear hr0 h
  go_enter Try.func143, Try.ntmps143
  go_wp2
  go_loopw [8] (fun i W => ∃ k_ : Nat, k_ ≤ l0.length ∧ i = .int .i64 k_ ∧ Aside0 (∀ j : Nat, j < k_ → (fun x : Int => impl_areDepths_1.f x) (l0.getD j 0) = some false) ∧ Aside0 (Below w.heap.size w W)) (fun i _ => l0.length - (intOf i).toNat)
  case atStart => exact ⟨0, by omega, rfl, ⟨fun j hj => by omega⟩, ⟨Below.refl _ _⟩⟩
  case round =>
    obtain ⟨k_, hk, rfl, HN, HB⟩ := hrel
    by_cases hlt : k_ < l0.length
    · have hE : ∃ b, impl_areDepths_1.f (l0.getD k_ 0) = some b := idxO_all HX.out k_ 0 hlt
      obtain ⟨b, hE⟩ := hE
      obtain ⟨ad, c_, e1, hcl_, hK_, hcell_⟩ := Kd.C_get (Kd.C_below HR.out HB.out) (0 : Int) (k_ : Int) (by omega) (by omega)
      subst e1
      simp only [Int.toNat_natCast] at hK_ hcell_
      obtain ⟨xk_, hxk_⟩ : ∃ x_, x_ = (l0.getD k_ 0) := ⟨_, rfl⟩
      rw [← hxk_] at hE hK_
      have HXK := Aside0.mk hxk_
      clear hxk_
      obtain rfl : c_ = [.int .i64 xk_] := hK_
      have hq0_ := hcell_ 0 _ rfl
      simp only [show ∀ n : Nat, n * ((Kd.int .i64)).sz + 0 = n from fun n => Nat.mul_one n] at hq0_
      clear hcell_ hcl_
      have HH := Aside0.mk hE
      clear hE
      cases b with
      | true =>
        go_wp2_with (go_at_call 136; (with_reducible refine (impl_areDepths_1.calls xk_ _ _ HH.out).mono ?_); rintro e w1 ⟨rfl, hb1⟩; have HB1 := Aside0.mk (hof_below HB.out HB.out.size hb1.below); clear hb1)
        go_ret
        exact ⟨ret_int_ (idxO_hit HX.out k_ 0 hlt HN.out (by show impl_areDepths_1.f (l0.getD k_ 0) = _; rw [← HXK.out]; exact HH.out)).symm, HB1.out⟩
      | false =>
        go_wp2_with (go_at_call 136; (with_reducible refine (impl_areDepths_1.calls xk_ _ _ HH.out).mono ?_); rintro e w1 ⟨rfl, hb1⟩; have HB1 := Aside0.mk (hof_below HB.out HB.out.size hb1.below); clear hb1)
        go_roundw
        case rel => exact ⟨k_ + 1, by omega, by go_num, ⟨fun j hj => by
          rcases Nat.lt_or_ge j k_ with h | h
          · exact HN.out j h
          · have e_ : j = k_ := by omega
            rw [e_]; show impl_areDepths_1.f (l0.getD k_ 0) = _; rw [← HXK.out]; exact HH.out⟩, HB1⟩
        case measure => simp [intOf]; omega
    · go_wp2
      go_ret
      exact ⟨ret_int_ (idxO_none HX.out 0 (fun j hj => HN.out j (by omega))).symm, HB.out⟩
theorem slices_ContainsFunc__impl_areDepths_1.calls (A0 : Option Addr) (c0 : Nat) (l0 : List Int) (r : Bool) (w : World) (hr0 : Kd.C (Kd.int .i64) w A0 l0.length l0) (hc0 : l0.length ≤ c0) (h : slices_ContainsFunc__impl_areDepths_1.f l0 = some r) :
    Calls Try.prog 135 #[.slice A0 l0.length c0, .func (.func 136) #[] #[]] w fun e w' => e = .returned (.bool r) ∧ Below w.heap.size w w' := by
  obtain ⟨i, hi, rfl⟩ := anyO_idxO h
  have HX := Aside0.mk hi
  have HR := Aside0.mk hr0
  clear hi h hr0
  go_enter Try.func135, Try.ntmps135
  go_wp2_with (go_at_call 143; (with_reducible refine (slices_ContainsFunc__impl_areDepths_1.idx _ _ l0 _ _ HR.out hc0 HX.out).mono ?_); rintro e w1 ⟨rfl, hb1⟩; have HB1 := Aside0.mk hb1; clear hb1)
  go_ret
  exact ⟨rfl, HB1.out⟩

/-! ### impl_areDepths: function 115 -/
def impl_areDepths.f (k : Nat) (l0 : List (S77)) (l1 : List Int) : Option (Bool) := (impl_TreeOk.f k l0).bind fun t119 => (if t119 = true then (if (l1.length : Int) = (l0.length : Int) then ((slices_ContainsFunc__impl_areDepths_1.f l1).bind fun t120 => (some (!t120))) else (some false)) else (some false))
theorem impl_areDepths.mono : ∀ a0 a1 k, LeO (impl_areDepths.f k a0 a1) (impl_areDepths.f (k + 1) a0 a1) := by
  intro a0 a1 k
  unfold impl_areDepths.f
  repeat' first
      | (with_reducible exact impl_TreeOk.mono _ _)
      | (with_reducible exact LeO.refl _)
      | (with_reducible exact LeO.none _)
      | (with_reducible refine LeO.ite ?_ ?_)
      | (with_reducible refine LeO.bind ?_ (fun _ => ?_))
      | exact impl_TreeOk.mono _ _
      | exact LeO.none _
      | refine LeO.ite ?_ ?_
      | refine LeO.bind ?_ (fun _ => ?_)
set_option maxHeartbeats 8000000 in
set_option maxRecDepth 100000 in
theorem impl_areDepths.calls (k : Nat) (A0 : Option Addr) (c0 : Nat) (l0 : List (S77)) (A1 : Option Addr) (c1 : Nat) (l1 : List Int) (r : Bool) (w : World) (hr0 : Kd.C k77 w A0 l0.length l0) (hc0 : l0.length ≤ c0) (hr1 : Kd.C (Kd.int .i64) w A1 l1.length l1) (hc1 : l1.length ≤ c1) (h : impl_areDepths.f k l0 l1 = some r) :
    Calls Try.prog 115 #[.slice A0 l0.length c0, .slice A1 l1.length c1] w fun e w' => e = .returned (.bool r) ∧ Below w.heap.size w w' := by
  have HR0 := Aside0.mk hr0
  have HC0 := Aside0.mk hc0
  clear hr0 hc0
  have HR1 := Aside0.mk hr1
  have HC1 := Aside0.mk hc1
  clear hr1 hc1
  have HB := Aside0.mk (Below.refl w.heap.size w)
  have H : ((impl_TreeOk.f k l0).bind fun t119 => (if t119 = true then (if (l1.length : Int) = (l0.length : Int) then ((slices_ContainsFunc__impl_areDepths_1.f l1).bind fun t120 => (some (!t120))) else (some false)) else (some false))) = some r := h
  clear h
  replace H := Option.bind_eq_some_iff.mp H
  obtain ⟨t119, A30, H⟩ := H
  replace H : (if t119 = true then (if (l1.length : Int) = (l0.length : Int) then ((slices_ContainsFunc__impl_areDepths_1.f l1).bind fun t120 => (some (!t120))) else (some false)) else (some false)) = some r := H
  have A3 := Aside0.mk A30
  clear A30
  by_cases c4 : t119 = true
  · subst c4
    have H1 : (if (l1.length : Int) = (l0.length : Int) then ((slices_ContainsFunc__impl_areDepths_1.f l1).bind fun t120 => (some (!t120))) else (some false)) = some r := by rw [if_pos rfl] at H; exact H
    clear H
    have H := H1
    clear H1
    by_cases c5 : (l1.length : Int) = (l0.length : Int)
    · rw [if_pos c5] at H
      have c5b0 : ((l1.length : Int) == (l0.length : Int)) = true := beq_iff_eq.mpr c5
      have c5b1 : ((l1.length : Int) != (l0.length : Int)) = false := bne_eq_false_iff_eq.mpr c5
      have c5b2 : (l1.length == l0.length) = true := by first | simpa using c5 | (simp at c5 ⊢; omega)
      clear c5
      replace H := Option.bind_eq_some_iff.mp H
      obtain ⟨t120, A60, H⟩ := H
      replace H : (some (!t120)) = some r := H
      have A6 := Aside0.mk A60
      clear A60
      obtain rfl := Option.some.inj H
      go_enter Try.func115, Try.ntmps115
      go_wp2_with (first | ((with_reducible refine gate_callee (f := 67) rfl ?_); refine goesL_ (some 6) rfl rfl Try.func67 (by kernel_rfl) rfl #[.slice A0 l0.length c0] rfl (by (try simp only [List.map_toArray, List.map_cons, List.map_nil]); first | done | rfl | (simp only [List.length_drop, List.length_take]; rfl)) ?_; (with_reducible refine (impl_TreeOk.calls k _ _ l0 true _ ?side1 ?side2 A3.out).mono ?_); (case side1 => repeat (first | exact HR0.out | (with_reducible refine Kd.C_alloc ?_ _) | (with_reducible refine Kd.C_drewN ?_ _) | (with_reducible refine Kd.C_drew ?_))); (case side2 => exact HC0.out); rintro e w7 ⟨rfl, hb⟩; refine ⟨_, rfl, ?_⟩; have n0_ := Aside0.mk (below_step (by repeat (first | (with_reducible first | exact HB.out | apply below_alloc | apply pw_below_drewN | apply below_drew1) | exact HB.out)) hb); clear HB; have HB := n0_; clear n0_; (try clear hb); (try clear hb2); (try clear hk); (try clear hi)) | (go_at_call 135; (with_reducible refine (slices_ContainsFunc__impl_areDepths_1.calls _ _ l1 t120 _ ?side1 ?side2 A6.out).mono ?_); (case side1 => repeat (first | exact (Kd.C_below HR1.out HB.out) | (with_reducible refine Kd.C_alloc ?_ _) | (with_reducible refine Kd.C_drewN ?_ _) | (with_reducible refine Kd.C_drew ?_))); (case side2 => exact HC1.out); rintro e w8 ⟨rfl, hb⟩; have n0_ := Aside0.mk (below_step (by repeat (first | (with_reducible first | exact HB.out | apply below_alloc | apply pw_below_drewN | apply below_drew1) | exact HB.out)) hb); clear HB; have HB := n0_; clear n0_; (try clear hb); (try clear hb2); (try clear hk); (try clear hi)))
      go_ret
      exact ⟨by first | rfl | (simp [errW_none, errW_some] <;> rfl) | (simp [*, errW_none, errW_some] <;> rfl), by repeat (first | (with_reducible first | exact HB.out | apply below_alloc | apply pw_below_drewN | apply below_drew1) | exact HB.out)⟩
    · rw [if_neg c5] at H
      have c5b0 : ((l1.length : Int) == (l0.length : Int)) = false := beq_eq_false_iff_ne.mpr c5
      have c5b1 : ((l1.length : Int) != (l0.length : Int)) = true := bne_iff_ne.mpr c5
      have c5b2 : (l1.length == l0.length) = false := by first | simpa using c5 | (simp at c5 ⊢; omega)
      obtain rfl := Option.some.inj H
      go_enter Try.func115, Try.ntmps115
      go_wp2_with (first | ((with_reducible refine gate_callee (f := 67) rfl ?_); refine goesL_ (some 6) rfl rfl Try.func67 (by kernel_rfl) rfl #[.slice A0 l0.length c0] rfl (by (try simp only [List.map_toArray, List.map_cons, List.map_nil]); first | done | rfl | (simp only [List.length_drop, List.length_take]; rfl)) ?_; (with_reducible refine (impl_TreeOk.calls k _ _ l0 true _ ?side1 ?side2 A3.out).mono ?_); (case side1 => repeat (first | exact HR0.out | (with_reducible refine Kd.C_alloc ?_ _) | (with_reducible refine Kd.C_drewN ?_ _) | (with_reducible refine Kd.C_drew ?_))); (case side2 => exact HC0.out); rintro e w9 ⟨rfl, hb⟩; refine ⟨_, rfl, ?_⟩; have n0_ := Aside0.mk (below_step (by repeat (first | (with_reducible first | exact HB.out | apply below_alloc | apply pw_below_drewN | apply below_drew1) | exact HB.out)) hb); clear HB; have HB := n0_; clear n0_; (try clear hb); (try clear hb2); (try clear hk); (try clear hi)))
      go_ret
      exact ⟨by first | rfl | (simp [errW_none, errW_some] <;> rfl) | (simp [*, errW_none, errW_some] <;> rfl), by repeat (first | (with_reducible first | exact HB.out | apply below_alloc | apply pw_below_drewN | apply below_drew1) | exact HB.out)⟩
  · replace c4 := Bool.eq_false_iff.mpr c4
    subst c4
    have H1 : (some false) = some r := by rw [if_neg (show ¬ (false = true) by decide)] at H; exact H
    clear H
    have H := H1
    clear H1
    obtain rfl := Option.some.inj H
    go_enter Try.func115, Try.ntmps115
    go_wp2_with (first | ((with_reducible refine gate_callee (f := 67) rfl ?_); refine goesL_ (some 6) rfl rfl Try.func67 (by kernel_rfl) rfl #[.slice A0 l0.length c0] rfl (by (try simp only [List.map_toArray, List.map_cons, List.map_nil]); first | done | rfl | (simp only [List.length_drop, List.length_take]; rfl)) ?_; (with_reducible refine (impl_TreeOk.calls k _ _ l0 false _ ?side1 ?side2 A3.out).mono ?_); (case side1 => repeat (first | exact HR0.out | (with_reducible refine Kd.C_alloc ?_ _) | (with_reducible refine Kd.C_drewN ?_ _) | (with_reducible refine Kd.C_drew ?_))); (case side2 => exact HC0.out); rintro e w10 ⟨rfl, hb⟩; refine ⟨_, rfl, ?_⟩; have n0_ := Aside0.mk (below_step (by repeat (first | (with_reducible first | exact HB.out | apply below_alloc | apply pw_below_drewN | apply below_drew1) | exact HB.out)) hb); clear HB; have HB := n0_; clear n0_; (try clear hb); (try clear hb2); (try clear hk); (try clear hi)))
    go_ret
    exact ⟨by first | rfl | (simp [errW_none, errW_some] <;> rfl) | (simp [*, errW_none, errW_some] <;> rfl), by repeat (first | (with_reducible first | exact HB.out | apply below_alloc | apply pw_below_drewN | apply below_drew1) | exact HB.out)⟩

end Go.Proofs.Ytdolbkocghgibaa.PFnSleeps

-- Written by a program of this session (wip/prt.sh): Lean checks it.
import Derived.Test.YtdolbkocghgibaaPFnExactAddNodex0
import Derived.Test.YtdolbkocghgibaaPFnExactAddNodex1
import Derived.Test.YtdolbkocghgibaaPFnExactAddNodex2
namespace Go.Proofs.Ytdolbkocghgibaa.PFnExactAddNode
open Go.RowKit Go.Proofs.YtdolbkocghgibaaW.PrintWords Go.Proofs.YtdolbkocghgibaaW.PrintLast Go.Proofs.YtdolbkocghgibaaW.PrintMore
attribute [local go_sem] max2_int min2_int max_two min_two max_three min_three max_four min_four   -- for this text's walks alone
set_option linter.unusedVariables false
set_option linter.unusedSimpArgs false

attribute [local go_sem high] eqA77
/-! ### spec_TreeOk: function 112 -/
mutual
def spec_TreeOk.j0 : Nat → List (S77) → Bool → Option (Bool)
  | 0, _, _ => none
  | k + 1, x0, x16 => if x16 = true then (some false) else (spec_TreeOk.l0 k x0 1)
def spec_TreeOk.l0 : Nat → List (S77) → Int → Option (Bool)
  | 0, _, _ => none
  | k + 1, x0, x3 => if x3 < (x0.length : Int) then (if 0 ≤ x3 then ((spec_l01In.f ((rd_T77 x0 x3).f0) 0 (wrap64 (x3 - 1))).bind fun t121 => (if t121 = true then (if 0 ≤ ((rd_T77 x0 x3).f0) then (if ((rd_T77 x0 x3).f0) < (x0.length : Int) then (if ((rd_T77 x0 ((rd_T77 x0 x3).f0)).f2) = 0 then ((spec_l01In.f ((rd_T77 x0 x3).f1) 0 3).bind fun t123 => (if t123 = true then ((spec_l01In.f ((rd_T77 x0 x3).f2) 0 4).bind fun t124 => (spec_TreeOk.j2 k x0 x3 (!t124) ((rd_T77 x0 x3).f0) ((rd_T77 x0 x3).f1) ((rd_T77 x0 x3).f2))) else (spec_TreeOk.j2 k x0 x3 true ((rd_T77 x0 x3).f0) ((rd_T77 x0 x3).f1) ((rd_T77 x0 x3).f2)))) else (spec_TreeOk.j2 k x0 x3 true ((rd_T77 x0 x3).f0) ((rd_T77 x0 x3).f1) ((rd_T77 x0 x3).f2))) else (none)) else (none)) else (spec_TreeOk.j2 k x0 x3 true ((rd_T77 x0 x3).f0) ((rd_T77 x0 x3).f1) ((rd_T77 x0 x3).f2)))) else (none)) else (some true)
def spec_TreeOk.j2 : Nat → List (S77) → Int → Bool → Int → Int → Int → Option (Bool)
  | 0, _, _, _, _, _, _ => none
  | k + 1, x0, x3, x53, x121000, x121001, x121002 => if x53 = true then (some false) else (spec_TreeOk.l1 k x0 x3 1 x121000 x121001 x121002)
def spec_TreeOk.l1 : Nat → List (S77) → Int → Int → Int → Int → Int → Option (Bool)
  | 0, _, _, _, _, _, _ => none
  | k + 1, x0, x3, x5, x121000, x121001, x121002 => if x5 < x3 then (if 0 ≤ x5 then (if x5 < (x0.length : Int) then (if ((rd_T77 x0 x5).f0) = x121000 then (if ((rd_T77 x0 x5).f1) = x121001 then (some false) else (spec_TreeOk.l1 k x0 x3 (wrap64 (x5 + 1)) x121000 x121001 x121002)) else (spec_TreeOk.l1 k x0 x3 (wrap64 (x5 + 1)) x121000 x121001 x121002)) else (none)) else (none)) else (spec_TreeOk.l0 k x0 (wrap64 (x3 + 1)))
end
def spec_TreeOk.f (k : Nat) (l0 : List (S77)) : Option (Bool) := (spec_l01In.f (l0.length : Int) 1 12).bind fun t117 => (if t117 = true then (if 0 < (l0.length : Int) then (spec_TreeOk.j0 k l0 (!(((rd_T77 l0 0).f0) == (-1)) || (!(((rd_T77 l0 0).f1) == 0) || (!(((rd_T77 l0 0).f2) == 0))))) else (none)) else (spec_TreeOk.j0 k l0 true))
theorem spec_TreeOk.mono_l : ∀ k, (∀ y0 y1, LeO (spec_TreeOk.j0 k y0 y1) (spec_TreeOk.j0 (k + 1) y0 y1)) ∧ (∀ y0 y1, LeO (spec_TreeOk.l0 k y0 y1) (spec_TreeOk.l0 (k + 1) y0 y1)) ∧ (∀ y0 y1 y2 y3 y4 y5, LeO (spec_TreeOk.j2 k y0 y1 y2 y3 y4 y5) (spec_TreeOk.j2 (k + 1) y0 y1 y2 y3 y4 y5)) ∧ (∀ y0 y1 y2 y3 y4 y5, LeO (spec_TreeOk.l1 k y0 y1 y2 y3 y4 y5) (spec_TreeOk.l1 (k + 1) y0 y1 y2 y3 y4 y5))
  | 0 => ⟨fun _ _ r h => by simp [spec_TreeOk.j0] at h, fun _ _ r h => by simp [spec_TreeOk.l0] at h, fun _ _ _ _ _ _ r h => by simp [spec_TreeOk.j2] at h, fun _ _ _ _ _ _ r h => by simp [spec_TreeOk.l1] at h⟩
  | k + 1 => by
    obtain ⟨ih0, ih1, ih2, ih3⟩ := spec_TreeOk.mono_l k
    refine ⟨?_, ?_, ?_, ?_⟩
    · intro y0 y1
      unfold spec_TreeOk.j0
      repeat' first
      | (with_reducible exact ih0 _ _)
      | (with_reducible exact ih1 _ _)
      | (with_reducible exact ih2 _ _ _ _ _ _)
      | (with_reducible exact ih3 _ _ _ _ _ _)
      | (with_reducible exact LeO.refl _)
      | (with_reducible exact LeO.none _)
      | (with_reducible refine LeO.ite ?_ ?_)
      | (with_reducible refine LeO.bind ?_ (fun _ => ?_))
      | exact ih0 _ _
      | exact ih1 _ _
      | exact ih2 _ _ _ _ _ _
      | exact ih3 _ _ _ _ _ _
      | exact LeO.none _
      | refine LeO.ite ?_ ?_
      | refine LeO.bind ?_ (fun _ => ?_)
    · intro y0 y1
      unfold spec_TreeOk.l0
      repeat' first
      | (with_reducible exact ih0 _ _)
      | (with_reducible exact ih1 _ _)
      | (with_reducible exact ih2 _ _ _ _ _ _)
      | (with_reducible exact ih3 _ _ _ _ _ _)
      | (with_reducible exact LeO.refl _)
      | (with_reducible exact LeO.none _)
      | (with_reducible refine LeO.ite ?_ ?_)
      | (with_reducible refine LeO.bind ?_ (fun _ => ?_))
      | exact ih0 _ _
      | exact ih1 _ _
      | exact ih2 _ _ _ _ _ _
      | exact ih3 _ _ _ _ _ _
      | exact LeO.none _
      | refine LeO.ite ?_ ?_
      | refine LeO.bind ?_ (fun _ => ?_)
    · intro y0 y1 y2 y3 y4 y5
      unfold spec_TreeOk.j2
      repeat' first
      | (with_reducible exact ih0 _ _)
      | (with_reducible exact ih1 _ _)
      | (with_reducible exact ih2 _ _ _ _ _ _)
      | (with_reducible exact ih3 _ _ _ _ _ _)
      | (with_reducible exact LeO.refl _)
      | (with_reducible exact LeO.none _)
      | (with_reducible refine LeO.ite ?_ ?_)
      | (with_reducible refine LeO.bind ?_ (fun _ => ?_))
      | exact ih0 _ _
      | exact ih1 _ _
      | exact ih2 _ _ _ _ _ _
      | exact ih3 _ _ _ _ _ _
      | exact LeO.none _
      | refine LeO.ite ?_ ?_
      | refine LeO.bind ?_ (fun _ => ?_)
    · intro y0 y1 y2 y3 y4 y5
      unfold spec_TreeOk.l1
      repeat' first
      | (with_reducible exact ih0 _ _)
      | (with_reducible exact ih1 _ _)
      | (with_reducible exact ih2 _ _ _ _ _ _)
      | (with_reducible exact ih3 _ _ _ _ _ _)
      | (with_reducible exact LeO.refl _)
      | (with_reducible exact LeO.none _)
      | (with_reducible refine LeO.ite ?_ ?_)
      | (with_reducible refine LeO.bind ?_ (fun _ => ?_))
      | exact ih0 _ _
      | exact ih1 _ _
      | exact ih2 _ _ _ _ _ _
      | exact ih3 _ _ _ _ _ _
      | exact LeO.none _
      | refine LeO.ite ?_ ?_
      | refine LeO.bind ?_ (fun _ => ?_)
theorem spec_TreeOk.mono : ∀ a0 k, LeO (spec_TreeOk.f k a0) (spec_TreeOk.f (k + 1) a0) := by
  intro a0 k
  obtain ⟨ih0, ih1, ih2, ih3⟩ := spec_TreeOk.mono_l k
  unfold spec_TreeOk.f
  repeat' first
      | (with_reducible exact ih0 _ _)
      | (with_reducible exact ih1 _ _)
      | (with_reducible exact ih2 _ _ _ _ _ _)
      | (with_reducible exact ih3 _ _ _ _ _ _)
      | (with_reducible exact LeO.refl _)
      | (with_reducible exact LeO.none _)
      | (with_reducible refine LeO.ite ?_ ?_)
      | (with_reducible refine LeO.bind ?_ (fun _ => ?_))
      | exact ih0 _ _
      | exact ih1 _ _
      | exact ih2 _ _ _ _ _ _
      | exact ih3 _ _ _ _ _ _
      | exact LeO.none _
      | refine LeO.ite ?_ ?_
      | refine LeO.bind ?_ (fun _ => ?_)
set_option maxHeartbeats 8000000 in
set_option maxRecDepth 100000 in
theorem spec_TreeOk.calls (k : Nat) (A0 : Option Addr) (c0 : Nat) (l0 : List (S77)) (r : Bool) (w : World) (hr0 : Kd.C k77 w A0 l0.length l0) (hc0 : l0.length ≤ c0) (h : spec_TreeOk.f k l0 = some r) :
    Calls Try.prog 112 #[.slice A0 l0.length c0] w fun e w' => e = .returned (.bool r) ∧ Below w.heap.size w w' := by
  have hu77 := Try.underlying77
  have HR0 := Aside0.mk hr0
  have HC0 := Aside0.mk hc0
  clear hr0 hc0
  have HB := Aside0.mk (Below.refl w.heap.size w)
  have H : ((spec_l01In.f (l0.length : Int) 1 12).bind fun t117 => (if t117 = true then (if 0 < (l0.length : Int) then (spec_TreeOk.j0 k l0 (!(((rd_T77 l0 0).f0) == (-1)) || (!(((rd_T77 l0 0).f1) == 0) || (!(((rd_T77 l0 0).f2) == 0))))) else (none)) else (spec_TreeOk.j0 k l0 true))) = some r := h
  clear h
  have HC2 := Aside0.mk H
  clear H
  go_enter Try.func112, Try.ntmps112
  go_upto_region 1 with (fail)
  repeat (go_quiet (fail); go_upto_region 1 with (fail))
  go_cut [16] (fun v16 wc => ∃ (kq : Nat) (x16_1 : Bool), v16 = .bool x16_1 ∧ Aside0 (spec_TreeOk.j0 kq l0 x16_1 = some r) ∧ Aside0 (kq ≤ k) ∧ Aside0 (Below w.heap.size w wc))
  case first =>
    have H := HC2.out
    clear HC2
    replace H := Option.bind_eq_some_iff.mp H
    obtain ⟨t117, A30, H⟩ := H
    replace H : (if t117 = true then (if 0 < (l0.length : Int) then (spec_TreeOk.j0 k l0 (!(((rd_T77 l0 0).f0) == (-1)) || (!(((rd_T77 l0 0).f1) == 0) || (!(((rd_T77 l0 0).f2) == 0))))) else (none)) else (spec_TreeOk.j0 k l0 true)) = some r := H
    have A3 := Aside0.mk A30
    clear A30
    by_cases c4 : t117 = true
    · subst c4
      have H1 : (if 0 < (l0.length : Int) then (spec_TreeOk.j0 k l0 (!(((rd_T77 l0 0).f0) == (-1)) || (!(((rd_T77 l0 0).f1) == 0) || (!(((rd_T77 l0 0).f2) == 0))))) else (none)) = some r := by rw [if_pos rfl] at H; exact H
      clear H
      have H := H1
      clear H1
      by_cases c5 : 0 < (l0.length : Int)
      · rw [if_pos c5] at H
        have c5b0 : decide (0 < (l0.length : Int)) = true := decide_eq_true c5
        have c5b1 : decide (0 < l0.length) = true := decide_eq_true (by omega)
        clear c5
        (first | rw [c5b0] | (simp only [i64_w, i32_w]; rw [c5b0]) | skip)
        have H' := Aside0.mk H
        clear H
        go_wp2_with (first | (go_at_call 91; (with_reducible refine (spec_l01In.calls (l0.length : Int) 1 12 true _ A3.out).mono ?_); rintro e w' ⟨rfl, ⟨nd, rfl⟩⟩; (try first | exact ⟨rfl, _, World.drewN_drewN _ _ _⟩ | exact ⟨rfl, _, Eq.trans (World.drewN_drewN _ _ _) (congrArg (World.drewN _) (Nat.add_assoc _ _ _))⟩); have p118 : 0 ≤ (0 : Int) := (by omega); have q118 : 0 < (l0.length : Int) := of_decide_eq_true (by first | (with_reducible assumption) | assumption); obtain ⟨ad118, e118, hx118_0, hx118_1, hx118_2⟩ := at_T77 HR0.out 0 p118 q118; cases e118; have qi118 : (0 < l0.length) = True := eq_true (by omega); (try rw [show ((0 : Int)).toNat = 0 from rfl] at hx118_0); (try rw [show 0 * 3 = 0 from rfl] at hx118_0); (try rw [Addr.add_zero'] at hx118_0); (try rw [show ((0 : Int)).toNat = 0 from rfl] at hx118_1); (try rw [show 0 * 3 = 0 from rfl] at hx118_1); (try rw [Addr.add_zero'] at hx118_1); (try rw [show ((0 : Int)).toNat = 0 from rfl] at hx118_2); (try rw [show 0 * 3 = 0 from rfl] at hx118_2); (try rw [Addr.add_zero'] at hx118_2); replace hx118_0 := (HB.out.cell (World.block_lt_of_cell? w _ hx118_0)).trans hx118_0; replace hx118_1 := (HB.out.cell (World.block_lt_of_cell? w _ hx118_1)).trans hx118_1; replace hx118_2 := (HB.out.cell (World.block_lt_of_cell? w _ hx118_2)).trans hx118_2; replace p118 := eq_true p118; replace q118 := eq_true q118))
        repeat (go_quiet (first | (go_at_call 91; (with_reducible refine (spec_l01In.calls (l0.length : Int) 1 12 true _ A3.out).mono ?_); rintro e w' ⟨rfl, ⟨nd, rfl⟩⟩; (try first | exact ⟨rfl, _, World.drewN_drewN _ _ _⟩ | exact ⟨rfl, _, Eq.trans (World.drewN_drewN _ _ _) (congrArg (World.drewN _) (Nat.add_assoc _ _ _))⟩); have p118 : 0 ≤ (0 : Int) := (by omega); have q118 : 0 < (l0.length : Int) := of_decide_eq_true (by first | (with_reducible assumption) | assumption); obtain ⟨ad118, e118, hx118_0, hx118_1, hx118_2⟩ := at_T77 HR0.out 0 p118 q118; cases e118; have qi118 : (0 < l0.length) = True := eq_true (by omega); (try rw [show ((0 : Int)).toNat = 0 from rfl] at hx118_0); (try rw [show 0 * 3 = 0 from rfl] at hx118_0); (try rw [Addr.add_zero'] at hx118_0); (try rw [show ((0 : Int)).toNat = 0 from rfl] at hx118_1); (try rw [show 0 * 3 = 0 from rfl] at hx118_1); (try rw [Addr.add_zero'] at hx118_1); (try rw [show ((0 : Int)).toNat = 0 from rfl] at hx118_2); (try rw [show 0 * 3 = 0 from rfl] at hx118_2); (try rw [Addr.add_zero'] at hx118_2); replace hx118_0 := (HB.out.cell (World.block_lt_of_cell? w _ hx118_0)).trans hx118_0; replace hx118_1 := (HB.out.cell (World.block_lt_of_cell? w _ hx118_1)).trans hx118_1; replace hx118_2 := (HB.out.cell (World.block_lt_of_cell? w _ hx118_2)).trans hx118_2; replace p118 := eq_true p118; replace q118 := eq_true q118)); try go_wp2_with (first | (go_at_call 91; (with_reducible refine (spec_l01In.calls (l0.length : Int) 1 12 true _ A3.out).mono ?_); rintro e w' ⟨rfl, ⟨nd, rfl⟩⟩; (try first | exact ⟨rfl, _, World.drewN_drewN _ _ _⟩ | exact ⟨rfl, _, Eq.trans (World.drewN_drewN _ _ _) (congrArg (World.drewN _) (Nat.add_assoc _ _ _))⟩); have p118 : 0 ≤ (0 : Int) := (by omega); have q118 : 0 < (l0.length : Int) := of_decide_eq_true (by first | (with_reducible assumption) | assumption); obtain ⟨ad118, e118, hx118_0, hx118_1, hx118_2⟩ := at_T77 HR0.out 0 p118 q118; cases e118; have qi118 : (0 < l0.length) = True := eq_true (by omega); (try rw [show ((0 : Int)).toNat = 0 from rfl] at hx118_0); (try rw [show 0 * 3 = 0 from rfl] at hx118_0); (try rw [Addr.add_zero'] at hx118_0); (try rw [show ((0 : Int)).toNat = 0 from rfl] at hx118_1); (try rw [show 0 * 3 = 0 from rfl] at hx118_1); (try rw [Addr.add_zero'] at hx118_1); (try rw [show ((0 : Int)).toNat = 0 from rfl] at hx118_2); (try rw [show 0 * 3 = 0 from rfl] at hx118_2); (try rw [Addr.add_zero'] at hx118_2); replace hx118_0 := (HB.out.cell (World.block_lt_of_cell? w _ hx118_0)).trans hx118_0; replace hx118_1 := (HB.out.cell (World.block_lt_of_cell? w _ hx118_1)).trans hx118_1; replace hx118_2 := (HB.out.cell (World.block_lt_of_cell? w _ hx118_2)).trans hx118_2; replace p118 := eq_true p118; replace q118 := eq_true q118)))
        go_meet
        case rel => exact ⟨_, ((!(((rd_T77 l0 0).f0) == (-1)) || (!(((rd_T77 l0 0).f1) == 0) || (!(((rd_T77 l0 0).f2) == 0))))), (by first | rfl | (simp; done) | (simp [*]; done)), H', ⟨by first | omega | exact Nat.le_refl _⟩, ⟨by repeat (first | (with_reducible first | exact HB.out | apply below_alloc | apply pw_below_drewN | apply below_drew1) | exact HB.out)⟩⟩
      · rw [if_neg c5] at H
        exact absurd H (by simp)
    · replace c4 := Bool.eq_false_iff.mpr c4
      subst c4
      have H1 : (spec_TreeOk.j0 k l0 true) = some r := by rw [if_neg (show ¬ (false = true) by decide)] at H; exact H
      clear H
      have H := H1
      clear H1
      have H' := Aside0.mk H
      clear H
      go_wp2_with (first | (go_at_call 91; (with_reducible refine (spec_l01In.calls (l0.length : Int) 1 12 false _ A3.out).mono ?_); rintro e w' ⟨rfl, ⟨nd, rfl⟩⟩; (try first | exact ⟨rfl, _, World.drewN_drewN _ _ _⟩ | exact ⟨rfl, _, Eq.trans (World.drewN_drewN _ _ _) (congrArg (World.drewN _) (Nat.add_assoc _ _ _))⟩)))
      repeat (go_quiet (first | (go_at_call 91; (with_reducible refine (spec_l01In.calls (l0.length : Int) 1 12 false _ A3.out).mono ?_); rintro e w' ⟨rfl, ⟨nd, rfl⟩⟩; (try first | exact ⟨rfl, _, World.drewN_drewN _ _ _⟩ | exact ⟨rfl, _, Eq.trans (World.drewN_drewN _ _ _) (congrArg (World.drewN _) (Nat.add_assoc _ _ _))⟩))); try go_wp2_with (first | (go_at_call 91; (with_reducible refine (spec_l01In.calls (l0.length : Int) 1 12 false _ A3.out).mono ?_); rintro e w' ⟨rfl, ⟨nd, rfl⟩⟩; (try first | exact ⟨rfl, _, World.drewN_drewN _ _ _⟩ | exact ⟨rfl, _, Eq.trans (World.drewN_drewN _ _ _) (congrArg (World.drewN _) (Nat.add_assoc _ _ _))⟩))))
      go_meet
      case rel => exact ⟨_, (true), (by first | rfl | (simp; done) | (simp [*]; done)), H', ⟨by first | omega | exact Nat.le_refl _⟩, ⟨by repeat (first | (with_reducible first | exact HB.out | apply below_alloc | apply pw_below_drewN | apply below_drew1) | exact HB.out)⟩⟩
  case rest =>
    clear HC2
    try clear c1
    try clear p1
    try clear q1
    try clear hx1
    try clear qi1
    try clear p2
    try clear c4
    try clear c5
    try clear c5b0
    try clear c5b1
    try clear hx118_0
    try clear hx118_1
    try clear hx118_2
    try clear p118
    try clear q118
    obtain ⟨kq, x16_1, rfl, HA, HJ1, HB⟩ := hcut
    cases kq with
    | zero => exact absurd HA.out (by simp [spec_TreeOk.j0])
    | succ kj1 =>
      have H := HA.out
      clear HA
      simp only [spec_TreeOk.j0] at H
      by_cases c6 : x16_1 = true
      · subst c6
        have H1 : (some false) = some r := by rw [if_pos rfl] at H; exact H
        clear H
        have H := H1
        clear H1
        obtain rfl := Option.some.inj H
        go_wp2
        repeat (go_quiet (fail); try go_wp2)
        go_ret
        exact ⟨by first | rfl | (simp [errW_none, errW_some] <;> rfl) | (simp [*, errW_none, errW_some] <;> rfl), by repeat (first | (with_reducible first | exact HB.out | apply below_alloc | apply pw_below_drewN | apply below_drew1) | exact HB.out)⟩
      · replace c6 := Bool.eq_false_iff.mpr c6
        subst c6
        have H1 : (spec_TreeOk.l0 kj1 l0 1) = some r := by rw [if_neg (show ¬ (false = true) by decide)] at H; exact H
        clear H
        have H := H1
        clear H1
        have H' := Aside0.mk H
        clear H
        go_wp2
        repeat (go_quiet (fail); try go_wp2)
        go_loopg [3] kj1 (fun kq v3 w' => ∃ (x3_2 : Int), v3 = .int .i64 x3_2 ∧ Aside0 (spec_TreeOk.l0 kq l0 x3_2 = some r) ∧ Aside0 (kq ≤ kj1) ∧ Aside0 (Below w.heap.size w w'))
        case atStart => exact ⟨(1), (by first | rfl | (simp; done) | (simp [*]; done)), H', ⟨Nat.le_refl _⟩, ⟨by repeat (first | (with_reducible first | exact HB.out | apply below_alloc | apply pw_below_drewN | apply below_drew1) | exact HB.out)⟩⟩
        case round =>
          clear H'
          try clear c1
          try clear p1
          try clear q1
          try clear hx1
          try clear qi1
          try clear p2
          try clear c4
          try clear c5
          try clear c5b0
          try clear c5b1
          try clear c6
          try clear hx118_0
          try clear hx118_1
          try clear hx118_2
          try clear p1
          try clear p118
          try clear p2
          try clear q1
          try clear q118
          obtain ⟨x3_2, rfl, HA, HK2, HB⟩ := hrel
          cases gk with
          | zero => exact absurd HA.out (by simp [spec_TreeOk.l0])
          | succ k2 =>
            have H := HA.out
            clear HA
            simp only [spec_TreeOk.l0] at H
            by_cases c7 : x3_2 < (l0.length : Int)
            · rw [if_pos c7] at H
              have c7b0 : decide (x3_2 < (l0.length : Int)) = true := decide_eq_true c7
              clear c7
              by_cases c8 : 0 ≤ x3_2
              · rw [if_pos c8] at H
                have c8b0 : decide (0 ≤ x3_2) = true := decide_eq_true c8
                clear c8
                have HC9 := Aside0.mk H
                clear H
                have p119 : 0 ≤ (x3_2 : Int) := of_decide_eq_true (by first | (with_reducible assumption) | assumption)
                have q119 : x3_2 < (l0.length : Int) := of_decide_eq_true (by first | (with_reducible assumption) | assumption)
                obtain ⟨ad119, e119, hx119_0, hx119_1, hx119_2⟩ := at_T77 HR0.out x3_2 p119 q119
                cases e119
                replace hx119_0 := (HB.out.cell (World.block_lt_of_cell? w _ hx119_0)).trans hx119_0
                replace hx119_1 := (HB.out.cell (World.block_lt_of_cell? w _ hx119_1)).trans hx119_1
                replace hx119_2 := (HB.out.cell (World.block_lt_of_cell? w _ hx119_2)).trans hx119_2
                replace p119 := eq_true p119
                replace q119 := eq_true q119
                go_upto_region 7 with (first | ((with_reducible refine gate_dst (N := 4) rfl ?_); refine box_event ?hg (N := 4) ?hd (cs := #[.int .i64 0, .int .i64 0, .int .i64 0]) (t := 77) ?hr ?_; (case hd => rfl); (case hg => rfl); (case hr => first | (go_simp; done) | (go_simp; rfl)); intro gb120 hg w10 hbox hb; have n0_ := Aside0.mk (below_step (by repeat (first | (with_reducible first | exact HB.out | apply below_alloc | apply pw_below_drewN | apply below_drew1) | exact HB.out)) hb); have n1_ := Aside0.mk (hbox); have n2_ := Aside0.mk ((by rw [hg]; exact (below_size (by repeat (first | (with_reducible first | exact HB.out | apply below_alloc | apply pw_below_drewN | apply below_drew1) | exact HB.out))) : w.heap.size ≤ gb120)); have n3_ := Aside0.mk ((by rw [hg]; exact (below_size (by repeat (first | (with_reducible first | exact HB.out | apply below_alloc | apply pw_below_drewN | apply below_drew1) | exact HB.out))) : w.heap.size ≤ gb120)); clear HB; have HB := n0_; have BK120 := n1_; have GW120 := n2_; have GE120 := n3_; clear n0_ n1_ n2_ n3_; clear hb hbox hg; have hcz11_0 : w10.cell? ⟨gb120, 0, none⟩ = some (.int .i64 0) := (blk_cell BK120.out 0).trans rfl; have hcz11_1 : w10.cell? ⟨gb120, 1, none⟩ = some (.int .i64 0) := (blk_cell BK120.out 1).trans rfl; have hcz11_2 : w10.cell? ⟨gb120, 2, none⟩ = some (.int .i64 0) := (blk_cell BK120.out 2).trans rfl; have hfz11_0 := blk_frozen BK120.out 0; have hfz11_1 := blk_frozen BK120.out 1; have hfz11_2 := blk_frozen BK120.out 2))
                repeat (go_quiet (first | ((with_reducible refine gate_dst (N := 4) rfl ?_); refine box_event ?hg (N := 4) ?hd (cs := #[.int .i64 0, .int .i64 0, .int .i64 0]) (t := 77) ?hr ?_; (case hd => rfl); (case hg => rfl); (case hr => first | (go_simp; done) | (go_simp; rfl)); intro gb120 hg w10 hbox hb; have n0_ := Aside0.mk (below_step (by repeat (first | (with_reducible first | exact HB.out | apply below_alloc | apply pw_below_drewN | apply below_drew1) | exact HB.out)) hb); have n1_ := Aside0.mk (hbox); have n2_ := Aside0.mk ((by rw [hg]; exact (below_size (by repeat (first | (with_reducible first | exact HB.out | apply below_alloc | apply pw_below_drewN | apply below_drew1) | exact HB.out))) : w.heap.size ≤ gb120)); have n3_ := Aside0.mk ((by rw [hg]; exact (below_size (by repeat (first | (with_reducible first | exact HB.out | apply below_alloc | apply pw_below_drewN | apply below_drew1) | exact HB.out))) : w.heap.size ≤ gb120)); clear HB; have HB := n0_; have BK120 := n1_; have GW120 := n2_; have GE120 := n3_; clear n0_ n1_ n2_ n3_; clear hb hbox hg; have hcz11_0 : w10.cell? ⟨gb120, 0, none⟩ = some (.int .i64 0) := (blk_cell BK120.out 0).trans rfl; have hcz11_1 : w10.cell? ⟨gb120, 1, none⟩ = some (.int .i64 0) := (blk_cell BK120.out 1).trans rfl; have hcz11_2 : w10.cell? ⟨gb120, 2, none⟩ = some (.int .i64 0) := (blk_cell BK120.out 2).trans rfl; have hfz11_0 := blk_frozen BK120.out 0; have hfz11_1 := blk_frozen BK120.out 1; have hfz11_2 := blk_frozen BK120.out 2)); go_upto_region 7 with (first | ((with_reducible refine gate_dst (N := 4) rfl ?_); refine box_event ?hg (N := 4) ?hd (cs := #[.int .i64 0, .int .i64 0, .int .i64 0]) (t := 77) ?hr ?_; (case hd => rfl); (case hg => rfl); (case hr => first | (go_simp; done) | (go_simp; rfl)); intro gb120 hg w10 hbox hb; have n0_ := Aside0.mk (below_step (by repeat (first | (with_reducible first | exact HB.out | apply below_alloc | apply pw_below_drewN | apply below_drew1) | exact HB.out)) hb); have n1_ := Aside0.mk (hbox); have n2_ := Aside0.mk ((by rw [hg]; exact (below_size (by repeat (first | (with_reducible first | exact HB.out | apply below_alloc | apply pw_below_drewN | apply below_drew1) | exact HB.out))) : w.heap.size ≤ gb120)); have n3_ := Aside0.mk ((by rw [hg]; exact (below_size (by repeat (first | (with_reducible first | exact HB.out | apply below_alloc | apply pw_below_drewN | apply below_drew1) | exact HB.out))) : w.heap.size ≤ gb120)); clear HB; have HB := n0_; have BK120 := n1_; have GW120 := n2_; have GE120 := n3_; clear n0_ n1_ n2_ n3_; clear hb hbox hg; have hcz11_0 : w10.cell? ⟨gb120, 0, none⟩ = some (.int .i64 0) := (blk_cell BK120.out 0).trans rfl; have hcz11_1 : w10.cell? ⟨gb120, 1, none⟩ = some (.int .i64 0) := (blk_cell BK120.out 1).trans rfl; have hcz11_2 : w10.cell? ⟨gb120, 2, none⟩ = some (.int .i64 0) := (blk_cell BK120.out 2).trans rfl; have hfz11_0 := blk_frozen BK120.out 0; have hfz11_1 := blk_frozen BK120.out 1; have hfz11_2 := blk_frozen BK120.out 2)))
                (try simp only [Act.put, List.setIfInBounds_toArray, List.set_cons_zero, List.set_cons_succ])
                go_cut [53] (fun v53 wc => ∃ (kq : Nat) (x53_8 : Bool), v53 = .bool x53_8 ∧ Aside0 (spec_TreeOk.j2 kq l0 x3_2 x53_8 ((rd_T77 l0 x3_2).f0) ((rd_T77 l0 x3_2).f1) ((rd_T77 l0 x3_2).f2) = some r) ∧ Aside0 (kq ≤ k2) ∧ Aside0 (wc.heap[gb120]? = some (.cells #[.int .i64 ((rd_T77 l0 x3_2).f0), .int .i64 ((rd_T77 l0 x3_2).f1), .int .i64 ((rd_T77 l0 x3_2).f2)] 77 (0, 0))) ∧ Aside0 (Below w.heap.size w wc))
                case first =>
                  have H := HC9.out
                  clear HC9
                  replace H := Option.bind_eq_some_iff.mp H
                  obtain ⟨t121, A120, H⟩ := H
                  replace H : (if t121 = true then (if 0 ≤ ((rd_T77 l0 x3_2).f0) then (if ((rd_T77 l0 x3_2).f0) < (l0.length : Int) then (if ((rd_T77 l0 ((rd_T77 l0 x3_2).f0)).f2) = 0 then ((spec_l01In.f ((rd_T77 l0 x3_2).f1) 0 3).bind fun t123 => (if t123 = true then ((spec_l01In.f ((rd_T77 l0 x3_2).f2) 0 4).bind fun t124 => (spec_TreeOk.j2 k2 l0 x3_2 (!t124) ((rd_T77 l0 x3_2).f0) ((rd_T77 l0 x3_2).f1) ((rd_T77 l0 x3_2).f2))) else (spec_TreeOk.j2 k2 l0 x3_2 true ((rd_T77 l0 x3_2).f0) ((rd_T77 l0 x3_2).f1) ((rd_T77 l0 x3_2).f2)))) else (spec_TreeOk.j2 k2 l0 x3_2 true ((rd_T77 l0 x3_2).f0) ((rd_T77 l0 x3_2).f1) ((rd_T77 l0 x3_2).f2))) else (none)) else (none)) else (spec_TreeOk.j2 k2 l0 x3_2 true ((rd_T77 l0 x3_2).f0) ((rd_T77 l0 x3_2).f1) ((rd_T77 l0 x3_2).f2))) = some r := H
                  have A12 := Aside0.mk A120
                  clear A120
                  by_cases c13 : t121 = true
                  · subst c13
                    have H1 : (if 0 ≤ ((rd_T77 l0 x3_2).f0) then (if ((rd_T77 l0 x3_2).f0) < (l0.length : Int) then (if ((rd_T77 l0 ((rd_T77 l0 x3_2).f0)).f2) = 0 then ((spec_l01In.f ((rd_T77 l0 x3_2).f1) 0 3).bind fun t123 => (if t123 = true then ((spec_l01In.f ((rd_T77 l0 x3_2).f2) 0 4).bind fun t124 => (spec_TreeOk.j2 k2 l0 x3_2 (!t124) ((rd_T77 l0 x3_2).f0) ((rd_T77 l0 x3_2).f1) ((rd_T77 l0 x3_2).f2))) else (spec_TreeOk.j2 k2 l0 x3_2 true ((rd_T77 l0 x3_2).f0) ((rd_T77 l0 x3_2).f1) ((rd_T77 l0 x3_2).f2)))) else (spec_TreeOk.j2 k2 l0 x3_2 true ((rd_T77 l0 x3_2).f0) ((rd_T77 l0 x3_2).f1) ((rd_T77 l0 x3_2).f2))) else (none)) else (none)) = some r := by rw [if_pos rfl] at H; exact H
                    clear H
                    have H := H1
                    clear H1
                    by_cases c14 : 0 ≤ ((rd_T77 l0 x3_2).f0)
                    · rw [if_pos c14] at H
                      have c14b0 : decide (0 ≤ ((rd_T77 l0 x3_2).f0)) = true := decide_eq_true c14
                      clear c14
                      (first | rw [c14b0] | (simp only [i64_w, i32_w]; rw [c14b0]) | skip)
                      by_cases c15 : ((rd_T77 l0 x3_2).f0) < (l0.length : Int)
                      · rw [if_pos c15] at H
                        have c15b0 : decide (((rd_T77 l0 x3_2).f0) < (l0.length : Int)) = true := decide_eq_true c15
                        clear c15
                        by_cases c16 : ((rd_T77 l0 ((rd_T77 l0 x3_2).f0)).f2) = 0
                        · rw [if_pos c16] at H
                          have c16b0 : (((rd_T77 l0 ((rd_T77 l0 x3_2).f0)).f2) == 0) = true := beq_iff_eq.mpr c16
                          have c16b1 : (((rd_T77 l0 ((rd_T77 l0 x3_2).f0)).f2) != 0) = false := bne_eq_false_iff_eq.mpr c16
                          clear c16
                          replace H := Option.bind_eq_some_iff.mp H
                          obtain ⟨t123, A170, H⟩ := H
                          replace H : (if t123 = true then ((spec_l01In.f ((rd_T77 l0 x3_2).f2) 0 4).bind fun t124 => (spec_TreeOk.j2 k2 l0 x3_2 (!t124) ((rd_T77 l0 x3_2).f0) ((rd_T77 l0 x3_2).f1) ((rd_T77 l0 x3_2).f2))) else (spec_TreeOk.j2 k2 l0 x3_2 true ((rd_T77 l0 x3_2).f0) ((rd_T77 l0 x3_2).f1) ((rd_T77 l0 x3_2).f2))) = some r := H
                          have A17 := Aside0.mk A170
                          clear A170
                          by_cases c18 : t123 = true
                          · subst c18
                            have H1 : ((spec_l01In.f ((rd_T77 l0 x3_2).f2) 0 4).bind fun t124 => (spec_TreeOk.j2 k2 l0 x3_2 (!t124) ((rd_T77 l0 x3_2).f0) ((rd_T77 l0 x3_2).f1) ((rd_T77 l0 x3_2).f2))) = some r := by rw [if_pos rfl] at H; exact H
                            clear H
                            have H := H1
                            clear H1
                            replace H := Option.bind_eq_some_iff.mp H
                            obtain ⟨t124, A190, H⟩ := H
                            replace H : (spec_TreeOk.j2 k2 l0 x3_2 (!t124) ((rd_T77 l0 x3_2).f0) ((rd_T77 l0 x3_2).f1) ((rd_T77 l0 x3_2).f2)) = some r := H
                            have A19 := Aside0.mk A190
                            clear A190
                            have H' := Aside0.mk H
                            clear H
                            have hcz20_0 : w10.cell? ⟨gb120, 0, none⟩ = some (.int .i64 0) := (blk_cell BK120.out 0).trans rfl
                            have hcz20_1 : w10.cell? ⟨gb120, 1, none⟩ = some (.int .i64 0) := (blk_cell BK120.out 1).trans rfl
                            have hcz20_2 : w10.cell? ⟨gb120, 2, none⟩ = some (.int .i64 0) := (blk_cell BK120.out 2).trans rfl
                            have hfz20_0 := blk_frozen BK120.out 0
                            have hfz20_1 := blk_frozen BK120.out 1
                            have hfz20_2 := blk_frozen BK120.out 2
                            go_wp2_with (first | (go_at_call 91; (with_reducible refine (spec_l01In.calls ((rd_T77 l0 x3_2).f0) 0 (wrap64 (x3_2 - 1)) true _ A12.out).mono ?_); rintro e w' ⟨rfl, ⟨nd, rfl⟩⟩; (try first | exact ⟨rfl, _, World.drewN_drewN _ _ _⟩ | exact ⟨rfl, _, Eq.trans (World.drewN_drewN _ _ _) (congrArg (World.drewN _) (Nat.add_assoc _ _ _))⟩); have p122 : 0 ≤ (((rd_T77 l0 x3_2).f0) : Int) := of_decide_eq_true (by first | (with_reducible assumption) | assumption); have q122 : ((rd_T77 l0 x3_2).f0) < (l0.length : Int) := of_decide_eq_true (by first | (with_reducible assumption) | assumption); obtain ⟨ad122, e122, hx122_0, hx122_1, hx122_2⟩ := at_T77 HR0.out ((rd_T77 l0 x3_2).f0) p122 q122; obtain rfl : ad119 = ad122 := (by injection e122); have hn122_0 : ad119.block ≠ gb120 := Nat.ne_of_lt (Nat.lt_of_lt_of_le (by have := World.block_lt_of_cell? _ _ hx122_0; first | rwa [add_block] at this | exact this) GW120.out); have hn122_1 : ad119.block ≠ gb120 := Nat.ne_of_lt (Nat.lt_of_lt_of_le (by have := World.block_lt_of_cell? _ _ hx122_0; first | rwa [add_block] at this | exact this) GW120.out); have hn122_2 : ad119.block ≠ gb120 := Nat.ne_of_lt (Nat.lt_of_lt_of_le (by have := World.block_lt_of_cell? _ _ hx122_0; first | rwa [add_block] at this | exact this) GW120.out); replace hx122_0 := (HB.out.cell (World.block_lt_of_cell? w _ hx122_0)).trans hx122_0; replace hx122_1 := (HB.out.cell (World.block_lt_of_cell? w _ hx122_1)).trans hx122_1; replace hx122_2 := (HB.out.cell (World.block_lt_of_cell? w _ hx122_2)).trans hx122_2; replace hx122_0 := (cell_far (p := ⟨gb120, 0, none⟩) (by first | (rw [add_block]; exact hn122_0) | (show (Addr.add _ _).block ≠ _; rw [add_block]; exact hn122_0) | exact hn122_0) (.int .i64 ((rd_T77 l0 x3_2).f0))).trans hx122_0; replace hx122_1 := (cell_far (p := ⟨gb120, 0, none⟩) (by first | (rw [add_block]; exact hn122_0) | (show (Addr.add _ _).block ≠ _; rw [add_block]; exact hn122_0) | exact hn122_0) (.int .i64 ((rd_T77 l0 x3_2).f0))).trans hx122_1; replace hx122_2 := (cell_far (p := ⟨gb120, 0, none⟩) (by first | (rw [add_block]; exact hn122_0) | (show (Addr.add _ _).block ≠ _; rw [add_block]; exact hn122_0) | exact hn122_0) (.int .i64 ((rd_T77 l0 x3_2).f0))).trans hx122_2; replace hx122_0 := (cell_far (p := ⟨gb120, 1, none⟩) (by first | (rw [add_block]; exact hn122_1) | (show (Addr.add _ _).block ≠ _; rw [add_block]; exact hn122_1) | exact hn122_1) (.int .i64 ((rd_T77 l0 x3_2).f1))).trans hx122_0; replace hx122_1 := (cell_far (p := ⟨gb120, 1, none⟩) (by first | (rw [add_block]; exact hn122_1) | (show (Addr.add _ _).block ≠ _; rw [add_block]; exact hn122_1) | exact hn122_1) (.int .i64 ((rd_T77 l0 x3_2).f1))).trans hx122_1; replace hx122_2 := (cell_far (p := ⟨gb120, 1, none⟩) (by first | (rw [add_block]; exact hn122_1) | (show (Addr.add _ _).block ≠ _; rw [add_block]; exact hn122_1) | exact hn122_1) (.int .i64 ((rd_T77 l0 x3_2).f1))).trans hx122_2; replace hx122_0 := (cell_far (p := ⟨gb120, 2, none⟩) (by first | (rw [add_block]; exact hn122_2) | (show (Addr.add _ _).block ≠ _; rw [add_block]; exact hn122_2) | exact hn122_2) (.int .i64 ((rd_T77 l0 x3_2).f2))).trans hx122_0; replace hx122_1 := (cell_far (p := ⟨gb120, 2, none⟩) (by first | (rw [add_block]; exact hn122_2) | (show (Addr.add _ _).block ≠ _; rw [add_block]; exact hn122_2) | exact hn122_2) (.int .i64 ((rd_T77 l0 x3_2).f2))).trans hx122_1; replace hx122_2 := (cell_far (p := ⟨gb120, 2, none⟩) (by first | (rw [add_block]; exact hn122_2) | (show (Addr.add _ _).block ≠ _; rw [add_block]; exact hn122_2) | exact hn122_2) (.int .i64 ((rd_T77 l0 x3_2).f2))).trans hx122_2; (try have hy122_0 := fun (n_ : Nat) => (show (((((w10.drewN n_).setCell ⟨gb120, 0, none⟩ (.int .i64 ((rd_T77 l0 x3_2).f0))).setCell ⟨gb120, 1, none⟩ (.int .i64 ((rd_T77 l0 x3_2).f1))).setCell ⟨gb120, 2, none⟩ (.int .i64 ((rd_T77 l0 x3_2).f2)))).cell? _ = some _ from hx122_0)); (try have hy122_1 := fun (n_ : Nat) => (show (((((w10.drewN n_).setCell ⟨gb120, 0, none⟩ (.int .i64 ((rd_T77 l0 x3_2).f0))).setCell ⟨gb120, 1, none⟩ (.int .i64 ((rd_T77 l0 x3_2).f1))).setCell ⟨gb120, 2, none⟩ (.int .i64 ((rd_T77 l0 x3_2).f2)))).cell? _ = some _ from hx122_1)); (try have hy122_2 := fun (n_ : Nat) => (show (((((w10.drewN n_).setCell ⟨gb120, 0, none⟩ (.int .i64 ((rd_T77 l0 x3_2).f0))).setCell ⟨gb120, 1, none⟩ (.int .i64 ((rd_T77 l0 x3_2).f1))).setCell ⟨gb120, 2, none⟩ (.int .i64 ((rd_T77 l0 x3_2).f2)))).cell? _ = some _ from hx122_2)); clear hn122_0; clear hn122_1; clear hn122_2; replace p122 := eq_true p122; replace q122 := eq_true q122) | (go_at_call 91; (with_reducible refine (spec_l01In.calls ((rd_T77 l0 x3_2).f1) 0 3 true _ A17.out).mono ?_); rintro e w' ⟨rfl, ⟨nd, rfl⟩⟩; (try first | exact ⟨rfl, _, World.drewN_drewN _ _ _⟩ | exact ⟨rfl, _, Eq.trans (World.drewN_drewN _ _ _) (congrArg (World.drewN _) (Nat.add_assoc _ _ _))⟩)) | (go_at_call 91; (with_reducible refine (spec_l01In.calls ((rd_T77 l0 x3_2).f2) 0 4 t124 _ A19.out).mono ?_); rintro e w' ⟨rfl, ⟨nd, rfl⟩⟩; (try first | exact ⟨rfl, _, World.drewN_drewN _ _ _⟩ | exact ⟨rfl, _, Eq.trans (World.drewN_drewN _ _ _) (congrArg (World.drewN _) (Nat.add_assoc _ _ _))⟩)))
                            repeat (go_quiet (first | (go_at_call 91; (with_reducible refine (spec_l01In.calls ((rd_T77 l0 x3_2).f0) 0 (wrap64 (x3_2 - 1)) true _ A12.out).mono ?_); rintro e w' ⟨rfl, ⟨nd, rfl⟩⟩; (try first | exact ⟨rfl, _, World.drewN_drewN _ _ _⟩ | exact ⟨rfl, _, Eq.trans (World.drewN_drewN _ _ _) (congrArg (World.drewN _) (Nat.add_assoc _ _ _))⟩); have p122 : 0 ≤ (((rd_T77 l0 x3_2).f0) : Int) := of_decide_eq_true (by first | (with_reducible assumption) | assumption); have q122 : ((rd_T77 l0 x3_2).f0) < (l0.length : Int) := of_decide_eq_true (by first | (with_reducible assumption) | assumption); obtain ⟨ad122, e122, hx122_0, hx122_1, hx122_2⟩ := at_T77 HR0.out ((rd_T77 l0 x3_2).f0) p122 q122; obtain rfl : ad119 = ad122 := (by injection e122); have hn122_0 : ad119.block ≠ gb120 := Nat.ne_of_lt (Nat.lt_of_lt_of_le (by have := World.block_lt_of_cell? _ _ hx122_0; first | rwa [add_block] at this | exact this) GW120.out); have hn122_1 : ad119.block ≠ gb120 := Nat.ne_of_lt (Nat.lt_of_lt_of_le (by have := World.block_lt_of_cell? _ _ hx122_0; first | rwa [add_block] at this | exact this) GW120.out); have hn122_2 : ad119.block ≠ gb120 := Nat.ne_of_lt (Nat.lt_of_lt_of_le (by have := World.block_lt_of_cell? _ _ hx122_0; first | rwa [add_block] at this | exact this) GW120.out); replace hx122_0 := (HB.out.cell (World.block_lt_of_cell? w _ hx122_0)).trans hx122_0; replace hx122_1 := (HB.out.cell (World.block_lt_of_cell? w _ hx122_1)).trans hx122_1; replace hx122_2 := (HB.out.cell (World.block_lt_of_cell? w _ hx122_2)).trans hx122_2; replace hx122_0 := (cell_far (p := ⟨gb120, 0, none⟩) (by first | (rw [add_block]; exact hn122_0) | (show (Addr.add _ _).block ≠ _; rw [add_block]; exact hn122_0) | exact hn122_0) (.int .i64 ((rd_T77 l0 x3_2).f0))).trans hx122_0; replace hx122_1 := (cell_far (p := ⟨gb120, 0, none⟩) (by first | (rw [add_block]; exact hn122_0) | (show (Addr.add _ _).block ≠ _; rw [add_block]; exact hn122_0) | exact hn122_0) (.int .i64 ((rd_T77 l0 x3_2).f0))).trans hx122_1; replace hx122_2 := (cell_far (p := ⟨gb120, 0, none⟩) (by first | (rw [add_block]; exact hn122_0) | (show (Addr.add _ _).block ≠ _; rw [add_block]; exact hn122_0) | exact hn122_0) (.int .i64 ((rd_T77 l0 x3_2).f0))).trans hx122_2; replace hx122_0 := (cell_far (p := ⟨gb120, 1, none⟩) (by first | (rw [add_block]; exact hn122_1) | (show (Addr.add _ _).block ≠ _; rw [add_block]; exact hn122_1) | exact hn122_1) (.int .i64 ((rd_T77 l0 x3_2).f1))).trans hx122_0; replace hx122_1 := (cell_far (p := ⟨gb120, 1, none⟩) (by first | (rw [add_block]; exact hn122_1) | (show (Addr.add _ _).block ≠ _; rw [add_block]; exact hn122_1) | exact hn122_1) (.int .i64 ((rd_T77 l0 x3_2).f1))).trans hx122_1; replace hx122_2 := (cell_far (p := ⟨gb120, 1, none⟩) (by first | (rw [add_block]; exact hn122_1) | (show (Addr.add _ _).block ≠ _; rw [add_block]; exact hn122_1) | exact hn122_1) (.int .i64 ((rd_T77 l0 x3_2).f1))).trans hx122_2; replace hx122_0 := (cell_far (p := ⟨gb120, 2, none⟩) (by first | (rw [add_block]; exact hn122_2) | (show (Addr.add _ _).block ≠ _; rw [add_block]; exact hn122_2) | exact hn122_2) (.int .i64 ((rd_T77 l0 x3_2).f2))).trans hx122_0; replace hx122_1 := (cell_far (p := ⟨gb120, 2, none⟩) (by first | (rw [add_block]; exact hn122_2) | (show (Addr.add _ _).block ≠ _; rw [add_block]; exact hn122_2) | exact hn122_2) (.int .i64 ((rd_T77 l0 x3_2).f2))).trans hx122_1; replace hx122_2 := (cell_far (p := ⟨gb120, 2, none⟩) (by first | (rw [add_block]; exact hn122_2) | (show (Addr.add _ _).block ≠ _; rw [add_block]; exact hn122_2) | exact hn122_2) (.int .i64 ((rd_T77 l0 x3_2).f2))).trans hx122_2; (try have hy122_0 := fun (n_ : Nat) => (show (((((w10.drewN n_).setCell ⟨gb120, 0, none⟩ (.int .i64 ((rd_T77 l0 x3_2).f0))).setCell ⟨gb120, 1, none⟩ (.int .i64 ((rd_T77 l0 x3_2).f1))).setCell ⟨gb120, 2, none⟩ (.int .i64 ((rd_T77 l0 x3_2).f2)))).cell? _ = some _ from hx122_0)); (try have hy122_1 := fun (n_ : Nat) => (show (((((w10.drewN n_).setCell ⟨gb120, 0, none⟩ (.int .i64 ((rd_T77 l0 x3_2).f0))).setCell ⟨gb120, 1, none⟩ (.int .i64 ((rd_T77 l0 x3_2).f1))).setCell ⟨gb120, 2, none⟩ (.int .i64 ((rd_T77 l0 x3_2).f2)))).cell? _ = some _ from hx122_1)); (try have hy122_2 := fun (n_ : Nat) => (show (((((w10.drewN n_).setCell ⟨gb120, 0, none⟩ (.int .i64 ((rd_T77 l0 x3_2).f0))).setCell ⟨gb120, 1, none⟩ (.int .i64 ((rd_T77 l0 x3_2).f1))).setCell ⟨gb120, 2, none⟩ (.int .i64 ((rd_T77 l0 x3_2).f2)))).cell? _ = some _ from hx122_2)); clear hn122_0; clear hn122_1; clear hn122_2; replace p122 := eq_true p122; replace q122 := eq_true q122) | (go_at_call 91; (with_reducible refine (spec_l01In.calls ((rd_T77 l0 x3_2).f1) 0 3 true _ A17.out).mono ?_); rintro e w' ⟨rfl, ⟨nd, rfl⟩⟩; (try first | exact ⟨rfl, _, World.drewN_drewN _ _ _⟩ | exact ⟨rfl, _, Eq.trans (World.drewN_drewN _ _ _) (congrArg (World.drewN _) (Nat.add_assoc _ _ _))⟩)) | (go_at_call 91; (with_reducible refine (spec_l01In.calls ((rd_T77 l0 x3_2).f2) 0 4 t124 _ A19.out).mono ?_); rintro e w' ⟨rfl, ⟨nd, rfl⟩⟩; (try first | exact ⟨rfl, _, World.drewN_drewN _ _ _⟩ | exact ⟨rfl, _, Eq.trans (World.drewN_drewN _ _ _) (congrArg (World.drewN _) (Nat.add_assoc _ _ _))⟩))); try go_wp2_with (first | (go_at_call 91; (with_reducible refine (spec_l01In.calls ((rd_T77 l0 x3_2).f0) 0 (wrap64 (x3_2 - 1)) true _ A12.out).mono ?_); rintro e w' ⟨rfl, ⟨nd, rfl⟩⟩; (try first | exact ⟨rfl, _, World.drewN_drewN _ _ _⟩ | exact ⟨rfl, _, Eq.trans (World.drewN_drewN _ _ _) (congrArg (World.drewN _) (Nat.add_assoc _ _ _))⟩); have p122 : 0 ≤ (((rd_T77 l0 x3_2).f0) : Int) := of_decide_eq_true (by first | (with_reducible assumption) | assumption); have q122 : ((rd_T77 l0 x3_2).f0) < (l0.length : Int) := of_decide_eq_true (by first | (with_reducible assumption) | assumption); obtain ⟨ad122, e122, hx122_0, hx122_1, hx122_2⟩ := at_T77 HR0.out ((rd_T77 l0 x3_2).f0) p122 q122; obtain rfl : ad119 = ad122 := (by injection e122); have hn122_0 : ad119.block ≠ gb120 := Nat.ne_of_lt (Nat.lt_of_lt_of_le (by have := World.block_lt_of_cell? _ _ hx122_0; first | rwa [add_block] at this | exact this) GW120.out); have hn122_1 : ad119.block ≠ gb120 := Nat.ne_of_lt (Nat.lt_of_lt_of_le (by have := World.block_lt_of_cell? _ _ hx122_0; first | rwa [add_block] at this | exact this) GW120.out); have hn122_2 : ad119.block ≠ gb120 := Nat.ne_of_lt (Nat.lt_of_lt_of_le (by have := World.block_lt_of_cell? _ _ hx122_0; first | rwa [add_block] at this | exact this) GW120.out); replace hx122_0 := (HB.out.cell (World.block_lt_of_cell? w _ hx122_0)).trans hx122_0; replace hx122_1 := (HB.out.cell (World.block_lt_of_cell? w _ hx122_1)).trans hx122_1; replace hx122_2 := (HB.out.cell (World.block_lt_of_cell? w _ hx122_2)).trans hx122_2; replace hx122_0 := (cell_far (p := ⟨gb120, 0, none⟩) (by first | (rw [add_block]; exact hn122_0) | (show (Addr.add _ _).block ≠ _; rw [add_block]; exact hn122_0) | exact hn122_0) (.int .i64 ((rd_T77 l0 x3_2).f0))).trans hx122_0; replace hx122_1 := (cell_far (p := ⟨gb120, 0, none⟩) (by first | (rw [add_block]; exact hn122_0) | (show (Addr.add _ _).block ≠ _; rw [add_block]; exact hn122_0) | exact hn122_0) (.int .i64 ((rd_T77 l0 x3_2).f0))).trans hx122_1; replace hx122_2 := (cell_far (p := ⟨gb120, 0, none⟩) (by first | (rw [add_block]; exact hn122_0) | (show (Addr.add _ _).block ≠ _; rw [add_block]; exact hn122_0) | exact hn122_0) (.int .i64 ((rd_T77 l0 x3_2).f0))).trans hx122_2; replace hx122_0 := (cell_far (p := ⟨gb120, 1, none⟩) (by first | (rw [add_block]; exact hn122_1) | (show (Addr.add _ _).block ≠ _; rw [add_block]; exact hn122_1) | exact hn122_1) (.int .i64 ((rd_T77 l0 x3_2).f1))).trans hx122_0; replace hx122_1 := (cell_far (p := ⟨gb120, 1, none⟩) (by first | (rw [add_block]; exact hn122_1) | (show (Addr.add _ _).block ≠ _; rw [add_block]; exact hn122_1) | exact hn122_1) (.int .i64 ((rd_T77 l0 x3_2).f1))).trans hx122_1; replace hx122_2 := (cell_far (p := ⟨gb120, 1, none⟩) (by first | (rw [add_block]; exact hn122_1) | (show (Addr.add _ _).block ≠ _; rw [add_block]; exact hn122_1) | exact hn122_1) (.int .i64 ((rd_T77 l0 x3_2).f1))).trans hx122_2; replace hx122_0 := (cell_far (p := ⟨gb120, 2, none⟩) (by first | (rw [add_block]; exact hn122_2) | (show (Addr.add _ _).block ≠ _; rw [add_block]; exact hn122_2) | exact hn122_2) (.int .i64 ((rd_T77 l0 x3_2).f2))).trans hx122_0; replace hx122_1 := (cell_far (p := ⟨gb120, 2, none⟩) (by first | (rw [add_block]; exact hn122_2) | (show (Addr.add _ _).block ≠ _; rw [add_block]; exact hn122_2) | exact hn122_2) (.int .i64 ((rd_T77 l0 x3_2).f2))).trans hx122_1; replace hx122_2 := (cell_far (p := ⟨gb120, 2, none⟩) (by first | (rw [add_block]; exact hn122_2) | (show (Addr.add _ _).block ≠ _; rw [add_block]; exact hn122_2) | exact hn122_2) (.int .i64 ((rd_T77 l0 x3_2).f2))).trans hx122_2; (try have hy122_0 := fun (n_ : Nat) => (show (((((w10.drewN n_).setCell ⟨gb120, 0, none⟩ (.int .i64 ((rd_T77 l0 x3_2).f0))).setCell ⟨gb120, 1, none⟩ (.int .i64 ((rd_T77 l0 x3_2).f1))).setCell ⟨gb120, 2, none⟩ (.int .i64 ((rd_T77 l0 x3_2).f2)))).cell? _ = some _ from hx122_0)); (try have hy122_1 := fun (n_ : Nat) => (show (((((w10.drewN n_).setCell ⟨gb120, 0, none⟩ (.int .i64 ((rd_T77 l0 x3_2).f0))).setCell ⟨gb120, 1, none⟩ (.int .i64 ((rd_T77 l0 x3_2).f1))).setCell ⟨gb120, 2, none⟩ (.int .i64 ((rd_T77 l0 x3_2).f2)))).cell? _ = some _ from hx122_1)); (try have hy122_2 := fun (n_ : Nat) => (show (((((w10.drewN n_).setCell ⟨gb120, 0, none⟩ (.int .i64 ((rd_T77 l0 x3_2).f0))).setCell ⟨gb120, 1, none⟩ (.int .i64 ((rd_T77 l0 x3_2).f1))).setCell ⟨gb120, 2, none⟩ (.int .i64 ((rd_T77 l0 x3_2).f2)))).cell? _ = some _ from hx122_2)); clear hn122_0; clear hn122_1; clear hn122_2; replace p122 := eq_true p122; replace q122 := eq_true q122) | (go_at_call 91; (with_reducible refine (spec_l01In.calls ((rd_T77 l0 x3_2).f1) 0 3 true _ A17.out).mono ?_); rintro e w' ⟨rfl, ⟨nd, rfl⟩⟩; (try first | exact ⟨rfl, _, World.drewN_drewN _ _ _⟩ | exact ⟨rfl, _, Eq.trans (World.drewN_drewN _ _ _) (congrArg (World.drewN _) (Nat.add_assoc _ _ _))⟩)) | (go_at_call 91; (with_reducible refine (spec_l01In.calls ((rd_T77 l0 x3_2).f2) 0 4 t124 _ A19.out).mono ?_); rintro e w' ⟨rfl, ⟨nd, rfl⟩⟩; (try first | exact ⟨rfl, _, World.drewN_drewN _ _ _⟩ | exact ⟨rfl, _, Eq.trans (World.drewN_drewN _ _ _) (congrArg (World.drewN _) (Nat.add_assoc _ _ _))⟩))))
                            go_meet
                            case rel => exact ⟨_, (!t124), (by first | rfl | (simp; done) | (simp [*]; done)), H', ⟨by have := HJ1.out; have := HK2.out; first | omega | exact Nat.le_refl _⟩, ⟨by (with_reducible repeat (first | refine blk_drewN ?_ _ | refine blk_drew ?_ | refine blk_alloc ?_ _)); refine blk_put (cs := #[.int .i64 ((rd_T77 l0 x3_2).f0), .int .i64 ((rd_T77 l0 x3_2).f1), .int .i64 0]) ?_ 2 _ rfl; (with_reducible repeat (first | refine blk_drewN ?_ _ | refine blk_drew ?_ | refine blk_alloc ?_ _)); refine blk_put (cs := #[.int .i64 ((rd_T77 l0 x3_2).f0), .int .i64 0, .int .i64 0]) ?_ 1 _ rfl; (with_reducible repeat (first | refine blk_drewN ?_ _ | refine blk_drew ?_ | refine blk_alloc ?_ _)); refine blk_put (cs := #[.int .i64 0, .int .i64 0, .int .i64 0]) ?_ 0 _ rfl; (with_reducible repeat (first | refine blk_drewN ?_ _ | refine blk_drew ?_ | refine blk_alloc ?_ _)); exact BK120.out⟩, ⟨by repeat (first | (with_reducible first | exact HB.out | apply below_alloc | apply pw_below_drewN | apply below_drew1 | refine below_set ?_ GE120.out) | exact HB.out)⟩⟩
                          · replace c18 := Bool.eq_false_iff.mpr c18
                            subst c18
                            have H1 : (spec_TreeOk.j2 k2 l0 x3_2 true ((rd_T77 l0 x3_2).f0) ((rd_T77 l0 x3_2).f1) ((rd_T77 l0 x3_2).f2)) = some r := by rw [if_neg (show ¬ (false = true) by decide)] at H; exact H
                            clear H
                            have H := H1
                            clear H1
                            have H' := Aside0.mk H
                            clear H
                            have hcz21_0 : w10.cell? ⟨gb120, 0, none⟩ = some (.int .i64 0) := (blk_cell BK120.out 0).trans rfl
                            have hcz21_1 : w10.cell? ⟨gb120, 1, none⟩ = some (.int .i64 0) := (blk_cell BK120.out 1).trans rfl
                            have hcz21_2 : w10.cell? ⟨gb120, 2, none⟩ = some (.int .i64 0) := (blk_cell BK120.out 2).trans rfl
                            have hfz21_0 := blk_frozen BK120.out 0
                            have hfz21_1 := blk_frozen BK120.out 1
                            have hfz21_2 := blk_frozen BK120.out 2
                            go_wp2_with (first | (go_at_call 91; (with_reducible refine (spec_l01In.calls ((rd_T77 l0 x3_2).f0) 0 (wrap64 (x3_2 - 1)) true _ A12.out).mono ?_); rintro e w' ⟨rfl, ⟨nd, rfl⟩⟩; (try first | exact ⟨rfl, _, World.drewN_drewN _ _ _⟩ | exact ⟨rfl, _, Eq.trans (World.drewN_drewN _ _ _) (congrArg (World.drewN _) (Nat.add_assoc _ _ _))⟩); have p122 : 0 ≤ (((rd_T77 l0 x3_2).f0) : Int) := of_decide_eq_true (by first | (with_reducible assumption) | assumption); have q122 : ((rd_T77 l0 x3_2).f0) < (l0.length : Int) := of_decide_eq_true (by first | (with_reducible assumption) | assumption); obtain ⟨ad122, e122, hx122_0, hx122_1, hx122_2⟩ := at_T77 HR0.out ((rd_T77 l0 x3_2).f0) p122 q122; obtain rfl : ad119 = ad122 := (by injection e122); have hn122_0 : ad119.block ≠ gb120 := Nat.ne_of_lt (Nat.lt_of_lt_of_le (by have := World.block_lt_of_cell? _ _ hx122_0; first | rwa [add_block] at this | exact this) GW120.out); have hn122_1 : ad119.block ≠ gb120 := Nat.ne_of_lt (Nat.lt_of_lt_of_le (by have := World.block_lt_of_cell? _ _ hx122_0; first | rwa [add_block] at this | exact this) GW120.out); have hn122_2 : ad119.block ≠ gb120 := Nat.ne_of_lt (Nat.lt_of_lt_of_le (by have := World.block_lt_of_cell? _ _ hx122_0; first | rwa [add_block] at this | exact this) GW120.out); replace hx122_0 := (HB.out.cell (World.block_lt_of_cell? w _ hx122_0)).trans hx122_0; replace hx122_1 := (HB.out.cell (World.block_lt_of_cell? w _ hx122_1)).trans hx122_1; replace hx122_2 := (HB.out.cell (World.block_lt_of_cell? w _ hx122_2)).trans hx122_2; replace hx122_0 := (cell_far (p := ⟨gb120, 0, none⟩) (by first | (rw [add_block]; exact hn122_0) | (show (Addr.add _ _).block ≠ _; rw [add_block]; exact hn122_0) | exact hn122_0) (.int .i64 ((rd_T77 l0 x3_2).f0))).trans hx122_0; replace hx122_1 := (cell_far (p := ⟨gb120, 0, none⟩) (by first | (rw [add_block]; exact hn122_0) | (show (Addr.add _ _).block ≠ _; rw [add_block]; exact hn122_0) | exact hn122_0) (.int .i64 ((rd_T77 l0 x3_2).f0))).trans hx122_1; replace hx122_2 := (cell_far (p := ⟨gb120, 0, none⟩) (by first | (rw [add_block]; exact hn122_0) | (show (Addr.add _ _).block ≠ _; rw [add_block]; exact hn122_0) | exact hn122_0) (.int .i64 ((rd_T77 l0 x3_2).f0))).trans hx122_2; replace hx122_0 := (cell_far (p := ⟨gb120, 1, none⟩) (by first | (rw [add_block]; exact hn122_1) | (show (Addr.add _ _).block ≠ _; rw [add_block]; exact hn122_1) | exact hn122_1) (.int .i64 ((rd_T77 l0 x3_2).f1))).trans hx122_0; replace hx122_1 := (cell_far (p := ⟨gb120, 1, none⟩) (by first | (rw [add_block]; exact hn122_1) | (show (Addr.add _ _).block ≠ _; rw [add_block]; exact hn122_1) | exact hn122_1) (.int .i64 ((rd_T77 l0 x3_2).f1))).trans hx122_1; replace hx122_2 := (cell_far (p := ⟨gb120, 1, none⟩) (by first | (rw [add_block]; exact hn122_1) | (show (Addr.add _ _).block ≠ _; rw [add_block]; exact hn122_1) | exact hn122_1) (.int .i64 ((rd_T77 l0 x3_2).f1))).trans hx122_2; replace hx122_0 := (cell_far (p := ⟨gb120, 2, none⟩) (by first | (rw [add_block]; exact hn122_2) | (show (Addr.add _ _).block ≠ _; rw [add_block]; exact hn122_2) | exact hn122_2) (.int .i64 ((rd_T77 l0 x3_2).f2))).trans hx122_0; replace hx122_1 := (cell_far (p := ⟨gb120, 2, none⟩) (by first | (rw [add_block]; exact hn122_2) | (show (Addr.add _ _).block ≠ _; rw [add_block]; exact hn122_2) | exact hn122_2) (.int .i64 ((rd_T77 l0 x3_2).f2))).trans hx122_1; replace hx122_2 := (cell_far (p := ⟨gb120, 2, none⟩) (by first | (rw [add_block]; exact hn122_2) | (show (Addr.add _ _).block ≠ _; rw [add_block]; exact hn122_2) | exact hn122_2) (.int .i64 ((rd_T77 l0 x3_2).f2))).trans hx122_2; (try have hy122_0 := fun (n_ : Nat) => (show (((((w10.drewN n_).setCell ⟨gb120, 0, none⟩ (.int .i64 ((rd_T77 l0 x3_2).f0))).setCell ⟨gb120, 1, none⟩ (.int .i64 ((rd_T77 l0 x3_2).f1))).setCell ⟨gb120, 2, none⟩ (.int .i64 ((rd_T77 l0 x3_2).f2)))).cell? _ = some _ from hx122_0)); (try have hy122_1 := fun (n_ : Nat) => (show (((((w10.drewN n_).setCell ⟨gb120, 0, none⟩ (.int .i64 ((rd_T77 l0 x3_2).f0))).setCell ⟨gb120, 1, none⟩ (.int .i64 ((rd_T77 l0 x3_2).f1))).setCell ⟨gb120, 2, none⟩ (.int .i64 ((rd_T77 l0 x3_2).f2)))).cell? _ = some _ from hx122_1)); (try have hy122_2 := fun (n_ : Nat) => (show (((((w10.drewN n_).setCell ⟨gb120, 0, none⟩ (.int .i64 ((rd_T77 l0 x3_2).f0))).setCell ⟨gb120, 1, none⟩ (.int .i64 ((rd_T77 l0 x3_2).f1))).setCell ⟨gb120, 2, none⟩ (.int .i64 ((rd_T77 l0 x3_2).f2)))).cell? _ = some _ from hx122_2)); clear hn122_0; clear hn122_1; clear hn122_2; replace p122 := eq_true p122; replace q122 := eq_true q122) | (go_at_call 91; (with_reducible refine (spec_l01In.calls ((rd_T77 l0 x3_2).f1) 0 3 false _ A17.out).mono ?_); rintro e w' ⟨rfl, ⟨nd, rfl⟩⟩; (try first | exact ⟨rfl, _, World.drewN_drewN _ _ _⟩ | exact ⟨rfl, _, Eq.trans (World.drewN_drewN _ _ _) (congrArg (World.drewN _) (Nat.add_assoc _ _ _))⟩)))
                            repeat (go_quiet (first | (go_at_call 91; (with_reducible refine (spec_l01In.calls ((rd_T77 l0 x3_2).f0) 0 (wrap64 (x3_2 - 1)) true _ A12.out).mono ?_); rintro e w' ⟨rfl, ⟨nd, rfl⟩⟩; (try first | exact ⟨rfl, _, World.drewN_drewN _ _ _⟩ | exact ⟨rfl, _, Eq.trans (World.drewN_drewN _ _ _) (congrArg (World.drewN _) (Nat.add_assoc _ _ _))⟩); have p122 : 0 ≤ (((rd_T77 l0 x3_2).f0) : Int) := of_decide_eq_true (by first | (with_reducible assumption) | assumption); have q122 : ((rd_T77 l0 x3_2).f0) < (l0.length : Int) := of_decide_eq_true (by first | (with_reducible assumption) | assumption); obtain ⟨ad122, e122, hx122_0, hx122_1, hx122_2⟩ := at_T77 HR0.out ((rd_T77 l0 x3_2).f0) p122 q122; obtain rfl : ad119 = ad122 := (by injection e122); have hn122_0 : ad119.block ≠ gb120 := Nat.ne_of_lt (Nat.lt_of_lt_of_le (by have := World.block_lt_of_cell? _ _ hx122_0; first | rwa [add_block] at this | exact this) GW120.out); have hn122_1 : ad119.block ≠ gb120 := Nat.ne_of_lt (Nat.lt_of_lt_of_le (by have := World.block_lt_of_cell? _ _ hx122_0; first | rwa [add_block] at this | exact this) GW120.out); have hn122_2 : ad119.block ≠ gb120 := Nat.ne_of_lt (Nat.lt_of_lt_of_le (by have := World.block_lt_of_cell? _ _ hx122_0; first | rwa [add_block] at this | exact this) GW120.out); replace hx122_0 := (HB.out.cell (World.block_lt_of_cell? w _ hx122_0)).trans hx122_0; replace hx122_1 := (HB.out.cell (World.block_lt_of_cell? w _ hx122_1)).trans hx122_1; replace hx122_2 := (HB.out.cell (World.block_lt_of_cell? w _ hx122_2)).trans hx122_2; replace hx122_0 := (cell_far (p := ⟨gb120, 0, none⟩) (by first | (rw [add_block]; exact hn122_0) | (show (Addr.add _ _).block ≠ _; rw [add_block]; exact hn122_0) | exact hn122_0) (.int .i64 ((rd_T77 l0 x3_2).f0))).trans hx122_0; replace hx122_1 := (cell_far (p := ⟨gb120, 0, none⟩) (by first | (rw [add_block]; exact hn122_0) | (show (Addr.add _ _).block ≠ _; rw [add_block]; exact hn122_0) | exact hn122_0) (.int .i64 ((rd_T77 l0 x3_2).f0))).trans hx122_1; replace hx122_2 := (cell_far (p := ⟨gb120, 0, none⟩) (by first | (rw [add_block]; exact hn122_0) | (show (Addr.add _ _).block ≠ _; rw [add_block]; exact hn122_0) | exact hn122_0) (.int .i64 ((rd_T77 l0 x3_2).f0))).trans hx122_2; replace hx122_0 := (cell_far (p := ⟨gb120, 1, none⟩) (by first | (rw [add_block]; exact hn122_1) | (show (Addr.add _ _).block ≠ _; rw [add_block]; exact hn122_1) | exact hn122_1) (.int .i64 ((rd_T77 l0 x3_2).f1))).trans hx122_0; replace hx122_1 := (cell_far (p := ⟨gb120, 1, none⟩) (by first | (rw [add_block]; exact hn122_1) | (show (Addr.add _ _).block ≠ _; rw [add_block]; exact hn122_1) | exact hn122_1) (.int .i64 ((rd_T77 l0 x3_2).f1))).trans hx122_1; replace hx122_2 := (cell_far (p := ⟨gb120, 1, none⟩) (by first | (rw [add_block]; exact hn122_1) | (show (Addr.add _ _).block ≠ _; rw [add_block]; exact hn122_1) | exact hn122_1) (.int .i64 ((rd_T77 l0 x3_2).f1))).trans hx122_2; replace hx122_0 := (cell_far (p := ⟨gb120, 2, none⟩) (by first | (rw [add_block]; exact hn122_2) | (show (Addr.add _ _).block ≠ _; rw [add_block]; exact hn122_2) | exact hn122_2) (.int .i64 ((rd_T77 l0 x3_2).f2))).trans hx122_0; replace hx122_1 := (cell_far (p := ⟨gb120, 2, none⟩) (by first | (rw [add_block]; exact hn122_2) | (show (Addr.add _ _).block ≠ _; rw [add_block]; exact hn122_2) | exact hn122_2) (.int .i64 ((rd_T77 l0 x3_2).f2))).trans hx122_1; replace hx122_2 := (cell_far (p := ⟨gb120, 2, none⟩) (by first | (rw [add_block]; exact hn122_2) | (show (Addr.add _ _).block ≠ _; rw [add_block]; exact hn122_2) | exact hn122_2) (.int .i64 ((rd_T77 l0 x3_2).f2))).trans hx122_2; (try have hy122_0 := fun (n_ : Nat) => (show (((((w10.drewN n_).setCell ⟨gb120, 0, none⟩ (.int .i64 ((rd_T77 l0 x3_2).f0))).setCell ⟨gb120, 1, none⟩ (.int .i64 ((rd_T77 l0 x3_2).f1))).setCell ⟨gb120, 2, none⟩ (.int .i64 ((rd_T77 l0 x3_2).f2)))).cell? _ = some _ from hx122_0)); (try have hy122_1 := fun (n_ : Nat) => (show (((((w10.drewN n_).setCell ⟨gb120, 0, none⟩ (.int .i64 ((rd_T77 l0 x3_2).f0))).setCell ⟨gb120, 1, none⟩ (.int .i64 ((rd_T77 l0 x3_2).f1))).setCell ⟨gb120, 2, none⟩ (.int .i64 ((rd_T77 l0 x3_2).f2)))).cell? _ = some _ from hx122_1)); (try have hy122_2 := fun (n_ : Nat) => (show (((((w10.drewN n_).setCell ⟨gb120, 0, none⟩ (.int .i64 ((rd_T77 l0 x3_2).f0))).setCell ⟨gb120, 1, none⟩ (.int .i64 ((rd_T77 l0 x3_2).f1))).setCell ⟨gb120, 2, none⟩ (.int .i64 ((rd_T77 l0 x3_2).f2)))).cell? _ = some _ from hx122_2)); clear hn122_0; clear hn122_1; clear hn122_2; replace p122 := eq_true p122; replace q122 := eq_true q122) | (go_at_call 91; (with_reducible refine (spec_l01In.calls ((rd_T77 l0 x3_2).f1) 0 3 false _ A17.out).mono ?_); rintro e w' ⟨rfl, ⟨nd, rfl⟩⟩; (try first | exact ⟨rfl, _, World.drewN_drewN _ _ _⟩ | exact ⟨rfl, _, Eq.trans (World.drewN_drewN _ _ _) (congrArg (World.drewN _) (Nat.add_assoc _ _ _))⟩))); try go_wp2_with (first | (go_at_call 91; (with_reducible refine (spec_l01In.calls ((rd_T77 l0 x3_2).f0) 0 (wrap64 (x3_2 - 1)) true _ A12.out).mono ?_); rintro e w' ⟨rfl, ⟨nd, rfl⟩⟩; (try first | exact ⟨rfl, _, World.drewN_drewN _ _ _⟩ | exact ⟨rfl, _, Eq.trans (World.drewN_drewN _ _ _) (congrArg (World.drewN _) (Nat.add_assoc _ _ _))⟩); have p122 : 0 ≤ (((rd_T77 l0 x3_2).f0) : Int) := of_decide_eq_true (by first | (with_reducible assumption) | assumption); have q122 : ((rd_T77 l0 x3_2).f0) < (l0.length : Int) := of_decide_eq_true (by first | (with_reducible assumption) | assumption); obtain ⟨ad122, e122, hx122_0, hx122_1, hx122_2⟩ := at_T77 HR0.out ((rd_T77 l0 x3_2).f0) p122 q122; obtain rfl : ad119 = ad122 := (by injection e122); have hn122_0 : ad119.block ≠ gb120 := Nat.ne_of_lt (Nat.lt_of_lt_of_le (by have := World.block_lt_of_cell? _ _ hx122_0; first | rwa [add_block] at this | exact this) GW120.out); have hn122_1 : ad119.block ≠ gb120 := Nat.ne_of_lt (Nat.lt_of_lt_of_le (by have := World.block_lt_of_cell? _ _ hx122_0; first | rwa [add_block] at this | exact this) GW120.out); have hn122_2 : ad119.block ≠ gb120 := Nat.ne_of_lt (Nat.lt_of_lt_of_le (by have := World.block_lt_of_cell? _ _ hx122_0; first | rwa [add_block] at this | exact this) GW120.out); replace hx122_0 := (HB.out.cell (World.block_lt_of_cell? w _ hx122_0)).trans hx122_0; replace hx122_1 := (HB.out.cell (World.block_lt_of_cell? w _ hx122_1)).trans hx122_1; replace hx122_2 := (HB.out.cell (World.block_lt_of_cell? w _ hx122_2)).trans hx122_2; replace hx122_0 := (cell_far (p := ⟨gb120, 0, none⟩) (by first | (rw [add_block]; exact hn122_0) | (show (Addr.add _ _).block ≠ _; rw [add_block]; exact hn122_0) | exact hn122_0) (.int .i64 ((rd_T77 l0 x3_2).f0))).trans hx122_0; replace hx122_1 := (cell_far (p := ⟨gb120, 0, none⟩) (by first | (rw [add_block]; exact hn122_0) | (show (Addr.add _ _).block ≠ _; rw [add_block]; exact hn122_0) | exact hn122_0) (.int .i64 ((rd_T77 l0 x3_2).f0))).trans hx122_1; replace hx122_2 := (cell_far (p := ⟨gb120, 0, none⟩) (by first | (rw [add_block]; exact hn122_0) | (show (Addr.add _ _).block ≠ _; rw [add_block]; exact hn122_0) | exact hn122_0) (.int .i64 ((rd_T77 l0 x3_2).f0))).trans hx122_2; replace hx122_0 := (cell_far (p := ⟨gb120, 1, none⟩) (by first | (rw [add_block]; exact hn122_1) | (show (Addr.add _ _).block ≠ _; rw [add_block]; exact hn122_1) | exact hn122_1) (.int .i64 ((rd_T77 l0 x3_2).f1))).trans hx122_0; replace hx122_1 := (cell_far (p := ⟨gb120, 1, none⟩) (by first | (rw [add_block]; exact hn122_1) | (show (Addr.add _ _).block ≠ _; rw [add_block]; exact hn122_1) | exact hn122_1) (.int .i64 ((rd_T77 l0 x3_2).f1))).trans hx122_1; replace hx122_2 := (cell_far (p := ⟨gb120, 1, none⟩) (by first | (rw [add_block]; exact hn122_1) | (show (Addr.add _ _).block ≠ _; rw [add_block]; exact hn122_1) | exact hn122_1) (.int .i64 ((rd_T77 l0 x3_2).f1))).trans hx122_2; replace hx122_0 := (cell_far (p := ⟨gb120, 2, none⟩) (by first | (rw [add_block]; exact hn122_2) | (show (Addr.add _ _).block ≠ _; rw [add_block]; exact hn122_2) | exact hn122_2) (.int .i64 ((rd_T77 l0 x3_2).f2))).trans hx122_0; replace hx122_1 := (cell_far (p := ⟨gb120, 2, none⟩) (by first | (rw [add_block]; exact hn122_2) | (show (Addr.add _ _).block ≠ _; rw [add_block]; exact hn122_2) | exact hn122_2) (.int .i64 ((rd_T77 l0 x3_2).f2))).trans hx122_1; replace hx122_2 := (cell_far (p := ⟨gb120, 2, none⟩) (by first | (rw [add_block]; exact hn122_2) | (show (Addr.add _ _).block ≠ _; rw [add_block]; exact hn122_2) | exact hn122_2) (.int .i64 ((rd_T77 l0 x3_2).f2))).trans hx122_2; (try have hy122_0 := fun (n_ : Nat) => (show (((((w10.drewN n_).setCell ⟨gb120, 0, none⟩ (.int .i64 ((rd_T77 l0 x3_2).f0))).setCell ⟨gb120, 1, none⟩ (.int .i64 ((rd_T77 l0 x3_2).f1))).setCell ⟨gb120, 2, none⟩ (.int .i64 ((rd_T77 l0 x3_2).f2)))).cell? _ = some _ from hx122_0)); (try have hy122_1 := fun (n_ : Nat) => (show (((((w10.drewN n_).setCell ⟨gb120, 0, none⟩ (.int .i64 ((rd_T77 l0 x3_2).f0))).setCell ⟨gb120, 1, none⟩ (.int .i64 ((rd_T77 l0 x3_2).f1))).setCell ⟨gb120, 2, none⟩ (.int .i64 ((rd_T77 l0 x3_2).f2)))).cell? _ = some _ from hx122_1)); (try have hy122_2 := fun (n_ : Nat) => (show (((((w10.drewN n_).setCell ⟨gb120, 0, none⟩ (.int .i64 ((rd_T77 l0 x3_2).f0))).setCell ⟨gb120, 1, none⟩ (.int .i64 ((rd_T77 l0 x3_2).f1))).setCell ⟨gb120, 2, none⟩ (.int .i64 ((rd_T77 l0 x3_2).f2)))).cell? _ = some _ from hx122_2)); clear hn122_0; clear hn122_1; clear hn122_2; replace p122 := eq_true p122; replace q122 := eq_true q122) | (go_at_call 91; (with_reducible refine (spec_l01In.calls ((rd_T77 l0 x3_2).f1) 0 3 false _ A17.out).mono ?_); rintro e w' ⟨rfl, ⟨nd, rfl⟩⟩; (try first | exact ⟨rfl, _, World.drewN_drewN _ _ _⟩ | exact ⟨rfl, _, Eq.trans (World.drewN_drewN _ _ _) (congrArg (World.drewN _) (Nat.add_assoc _ _ _))⟩))))
                            go_meet
                            case rel => exact ⟨_, (true), (by first | rfl | (simp; done) | (simp [*]; done)), H', ⟨by have := HJ1.out; have := HK2.out; first | omega | exact Nat.le_refl _⟩, ⟨by (with_reducible repeat (first | refine blk_drewN ?_ _ | refine blk_drew ?_ | refine blk_alloc ?_ _)); refine blk_put (cs := #[.int .i64 ((rd_T77 l0 x3_2).f0), .int .i64 ((rd_T77 l0 x3_2).f1), .int .i64 0]) ?_ 2 _ rfl; (with_reducible repeat (first | refine blk_drewN ?_ _ | refine blk_drew ?_ | refine blk_alloc ?_ _)); refine blk_put (cs := #[.int .i64 ((rd_T77 l0 x3_2).f0), .int .i64 0, .int .i64 0]) ?_ 1 _ rfl; (with_reducible repeat (first | refine blk_drewN ?_ _ | refine blk_drew ?_ | refine blk_alloc ?_ _)); refine blk_put (cs := #[.int .i64 0, .int .i64 0, .int .i64 0]) ?_ 0 _ rfl; (with_reducible repeat (first | refine blk_drewN ?_ _ | refine blk_drew ?_ | refine blk_alloc ?_ _)); exact BK120.out⟩, ⟨by repeat (first | (with_reducible first | exact HB.out | apply below_alloc | apply pw_below_drewN | apply below_drew1 | refine below_set ?_ GE120.out) | exact HB.out)⟩⟩
                        · rw [if_neg c16] at H
                          have c16b0 : (((rd_T77 l0 ((rd_T77 l0 x3_2).f0)).f2) == 0) = false := beq_eq_false_iff_ne.mpr c16
                          have c16b1 : (((rd_T77 l0 ((rd_T77 l0 x3_2).f0)).f2) != 0) = true := bne_iff_ne.mpr c16
                          have H' := Aside0.mk H
                          clear H
                          have hcz22_0 : w10.cell? ⟨gb120, 0, none⟩ = some (.int .i64 0) := (blk_cell BK120.out 0).trans rfl
                          have hcz22_1 : w10.cell? ⟨gb120, 1, none⟩ = some (.int .i64 0) := (blk_cell BK120.out 1).trans rfl
                          have hcz22_2 : w10.cell? ⟨gb120, 2, none⟩ = some (.int .i64 0) := (blk_cell BK120.out 2).trans rfl
                          have hfz22_0 := blk_frozen BK120.out 0
                          have hfz22_1 := blk_frozen BK120.out 1
                          have hfz22_2 := blk_frozen BK120.out 2
                          go_wp2_with (first | (go_at_call 91; (with_reducible refine (spec_l01In.calls ((rd_T77 l0 x3_2).f0) 0 (wrap64 (x3_2 - 1)) true _ A12.out).mono ?_); rintro e w' ⟨rfl, ⟨nd, rfl⟩⟩; (try first | exact ⟨rfl, _, World.drewN_drewN _ _ _⟩ | exact ⟨rfl, _, Eq.trans (World.drewN_drewN _ _ _) (congrArg (World.drewN _) (Nat.add_assoc _ _ _))⟩); have p122 : 0 ≤ (((rd_T77 l0 x3_2).f0) : Int) := of_decide_eq_true (by first | (with_reducible assumption) | assumption); have q122 : ((rd_T77 l0 x3_2).f0) < (l0.length : Int) := of_decide_eq_true (by first | (with_reducible assumption) | assumption); obtain ⟨ad122, e122, hx122_0, hx122_1, hx122_2⟩ := at_T77 HR0.out ((rd_T77 l0 x3_2).f0) p122 q122; obtain rfl : ad119 = ad122 := (by injection e122); have hn122_0 : ad119.block ≠ gb120 := Nat.ne_of_lt (Nat.lt_of_lt_of_le (by have := World.block_lt_of_cell? _ _ hx122_0; first | rwa [add_block] at this | exact this) GW120.out); have hn122_1 : ad119.block ≠ gb120 := Nat.ne_of_lt (Nat.lt_of_lt_of_le (by have := World.block_lt_of_cell? _ _ hx122_0; first | rwa [add_block] at this | exact this) GW120.out); have hn122_2 : ad119.block ≠ gb120 := Nat.ne_of_lt (Nat.lt_of_lt_of_le (by have := World.block_lt_of_cell? _ _ hx122_0; first | rwa [add_block] at this | exact this) GW120.out); replace hx122_0 := (HB.out.cell (World.block_lt_of_cell? w _ hx122_0)).trans hx122_0; replace hx122_1 := (HB.out.cell (World.block_lt_of_cell? w _ hx122_1)).trans hx122_1; replace hx122_2 := (HB.out.cell (World.block_lt_of_cell? w _ hx122_2)).trans hx122_2; replace hx122_0 := (cell_far (p := ⟨gb120, 0, none⟩) (by first | (rw [add_block]; exact hn122_0) | (show (Addr.add _ _).block ≠ _; rw [add_block]; exact hn122_0) | exact hn122_0) (.int .i64 ((rd_T77 l0 x3_2).f0))).trans hx122_0; replace hx122_1 := (cell_far (p := ⟨gb120, 0, none⟩) (by first | (rw [add_block]; exact hn122_0) | (show (Addr.add _ _).block ≠ _; rw [add_block]; exact hn122_0) | exact hn122_0) (.int .i64 ((rd_T77 l0 x3_2).f0))).trans hx122_1; replace hx122_2 := (cell_far (p := ⟨gb120, 0, none⟩) (by first | (rw [add_block]; exact hn122_0) | (show (Addr.add _ _).block ≠ _; rw [add_block]; exact hn122_0) | exact hn122_0) (.int .i64 ((rd_T77 l0 x3_2).f0))).trans hx122_2; replace hx122_0 := (cell_far (p := ⟨gb120, 1, none⟩) (by first | (rw [add_block]; exact hn122_1) | (show (Addr.add _ _).block ≠ _; rw [add_block]; exact hn122_1) | exact hn122_1) (.int .i64 ((rd_T77 l0 x3_2).f1))).trans hx122_0; replace hx122_1 := (cell_far (p := ⟨gb120, 1, none⟩) (by first | (rw [add_block]; exact hn122_1) | (show (Addr.add _ _).block ≠ _; rw [add_block]; exact hn122_1) | exact hn122_1) (.int .i64 ((rd_T77 l0 x3_2).f1))).trans hx122_1; replace hx122_2 := (cell_far (p := ⟨gb120, 1, none⟩) (by first | (rw [add_block]; exact hn122_1) | (show (Addr.add _ _).block ≠ _; rw [add_block]; exact hn122_1) | exact hn122_1) (.int .i64 ((rd_T77 l0 x3_2).f1))).trans hx122_2; replace hx122_0 := (cell_far (p := ⟨gb120, 2, none⟩) (by first | (rw [add_block]; exact hn122_2) | (show (Addr.add _ _).block ≠ _; rw [add_block]; exact hn122_2) | exact hn122_2) (.int .i64 ((rd_T77 l0 x3_2).f2))).trans hx122_0; replace hx122_1 := (cell_far (p := ⟨gb120, 2, none⟩) (by first | (rw [add_block]; exact hn122_2) | (show (Addr.add _ _).block ≠ _; rw [add_block]; exact hn122_2) | exact hn122_2) (.int .i64 ((rd_T77 l0 x3_2).f2))).trans hx122_1; replace hx122_2 := (cell_far (p := ⟨gb120, 2, none⟩) (by first | (rw [add_block]; exact hn122_2) | (show (Addr.add _ _).block ≠ _; rw [add_block]; exact hn122_2) | exact hn122_2) (.int .i64 ((rd_T77 l0 x3_2).f2))).trans hx122_2; (try have hy122_0 := fun (n_ : Nat) => (show (((((w10.drewN n_).setCell ⟨gb120, 0, none⟩ (.int .i64 ((rd_T77 l0 x3_2).f0))).setCell ⟨gb120, 1, none⟩ (.int .i64 ((rd_T77 l0 x3_2).f1))).setCell ⟨gb120, 2, none⟩ (.int .i64 ((rd_T77 l0 x3_2).f2)))).cell? _ = some _ from hx122_0)); (try have hy122_1 := fun (n_ : Nat) => (show (((((w10.drewN n_).setCell ⟨gb120, 0, none⟩ (.int .i64 ((rd_T77 l0 x3_2).f0))).setCell ⟨gb120, 1, none⟩ (.int .i64 ((rd_T77 l0 x3_2).f1))).setCell ⟨gb120, 2, none⟩ (.int .i64 ((rd_T77 l0 x3_2).f2)))).cell? _ = some _ from hx122_1)); (try have hy122_2 := fun (n_ : Nat) => (show (((((w10.drewN n_).setCell ⟨gb120, 0, none⟩ (.int .i64 ((rd_T77 l0 x3_2).f0))).setCell ⟨gb120, 1, none⟩ (.int .i64 ((rd_T77 l0 x3_2).f1))).setCell ⟨gb120, 2, none⟩ (.int .i64 ((rd_T77 l0 x3_2).f2)))).cell? _ = some _ from hx122_2)); clear hn122_0; clear hn122_1; clear hn122_2; replace p122 := eq_true p122; replace q122 := eq_true q122))
                          repeat (go_quiet (first | (go_at_call 91; (with_reducible refine (spec_l01In.calls ((rd_T77 l0 x3_2).f0) 0 (wrap64 (x3_2 - 1)) true _ A12.out).mono ?_); rintro e w' ⟨rfl, ⟨nd, rfl⟩⟩; (try first | exact ⟨rfl, _, World.drewN_drewN _ _ _⟩ | exact ⟨rfl, _, Eq.trans (World.drewN_drewN _ _ _) (congrArg (World.drewN _) (Nat.add_assoc _ _ _))⟩); have p122 : 0 ≤ (((rd_T77 l0 x3_2).f0) : Int) := of_decide_eq_true (by first | (with_reducible assumption) | assumption); have q122 : ((rd_T77 l0 x3_2).f0) < (l0.length : Int) := of_decide_eq_true (by first | (with_reducible assumption) | assumption); obtain ⟨ad122, e122, hx122_0, hx122_1, hx122_2⟩ := at_T77 HR0.out ((rd_T77 l0 x3_2).f0) p122 q122; obtain rfl : ad119 = ad122 := (by injection e122); have hn122_0 : ad119.block ≠ gb120 := Nat.ne_of_lt (Nat.lt_of_lt_of_le (by have := World.block_lt_of_cell? _ _ hx122_0; first | rwa [add_block] at this | exact this) GW120.out); have hn122_1 : ad119.block ≠ gb120 := Nat.ne_of_lt (Nat.lt_of_lt_of_le (by have := World.block_lt_of_cell? _ _ hx122_0; first | rwa [add_block] at this | exact this) GW120.out); have hn122_2 : ad119.block ≠ gb120 := Nat.ne_of_lt (Nat.lt_of_lt_of_le (by have := World.block_lt_of_cell? _ _ hx122_0; first | rwa [add_block] at this | exact this) GW120.out); replace hx122_0 := (HB.out.cell (World.block_lt_of_cell? w _ hx122_0)).trans hx122_0; replace hx122_1 := (HB.out.cell (World.block_lt_of_cell? w _ hx122_1)).trans hx122_1; replace hx122_2 := (HB.out.cell (World.block_lt_of_cell? w _ hx122_2)).trans hx122_2; replace hx122_0 := (cell_far (p := ⟨gb120, 0, none⟩) (by first | (rw [add_block]; exact hn122_0) | (show (Addr.add _ _).block ≠ _; rw [add_block]; exact hn122_0) | exact hn122_0) (.int .i64 ((rd_T77 l0 x3_2).f0))).trans hx122_0; replace hx122_1 := (cell_far (p := ⟨gb120, 0, none⟩) (by first | (rw [add_block]; exact hn122_0) | (show (Addr.add _ _).block ≠ _; rw [add_block]; exact hn122_0) | exact hn122_0) (.int .i64 ((rd_T77 l0 x3_2).f0))).trans hx122_1; replace hx122_2 := (cell_far (p := ⟨gb120, 0, none⟩) (by first | (rw [add_block]; exact hn122_0) | (show (Addr.add _ _).block ≠ _; rw [add_block]; exact hn122_0) | exact hn122_0) (.int .i64 ((rd_T77 l0 x3_2).f0))).trans hx122_2; replace hx122_0 := (cell_far (p := ⟨gb120, 1, none⟩) (by first | (rw [add_block]; exact hn122_1) | (show (Addr.add _ _).block ≠ _; rw [add_block]; exact hn122_1) | exact hn122_1) (.int .i64 ((rd_T77 l0 x3_2).f1))).trans hx122_0; replace hx122_1 := (cell_far (p := ⟨gb120, 1, none⟩) (by first | (rw [add_block]; exact hn122_1) | (show (Addr.add _ _).block ≠ _; rw [add_block]; exact hn122_1) | exact hn122_1) (.int .i64 ((rd_T77 l0 x3_2).f1))).trans hx122_1; replace hx122_2 := (cell_far (p := ⟨gb120, 1, none⟩) (by first | (rw [add_block]; exact hn122_1) | (show (Addr.add _ _).block ≠ _; rw [add_block]; exact hn122_1) | exact hn122_1) (.int .i64 ((rd_T77 l0 x3_2).f1))).trans hx122_2; replace hx122_0 := (cell_far (p := ⟨gb120, 2, none⟩) (by first | (rw [add_block]; exact hn122_2) | (show (Addr.add _ _).block ≠ _; rw [add_block]; exact hn122_2) | exact hn122_2) (.int .i64 ((rd_T77 l0 x3_2).f2))).trans hx122_0; replace hx122_1 := (cell_far (p := ⟨gb120, 2, none⟩) (by first | (rw [add_block]; exact hn122_2) | (show (Addr.add _ _).block ≠ _; rw [add_block]; exact hn122_2) | exact hn122_2) (.int .i64 ((rd_T77 l0 x3_2).f2))).trans hx122_1; replace hx122_2 := (cell_far (p := ⟨gb120, 2, none⟩) (by first | (rw [add_block]; exact hn122_2) | (show (Addr.add _ _).block ≠ _; rw [add_block]; exact hn122_2) | exact hn122_2) (.int .i64 ((rd_T77 l0 x3_2).f2))).trans hx122_2; (try have hy122_0 := fun (n_ : Nat) => (show (((((w10.drewN n_).setCell ⟨gb120, 0, none⟩ (.int .i64 ((rd_T77 l0 x3_2).f0))).setCell ⟨gb120, 1, none⟩ (.int .i64 ((rd_T77 l0 x3_2).f1))).setCell ⟨gb120, 2, none⟩ (.int .i64 ((rd_T77 l0 x3_2).f2)))).cell? _ = some _ from hx122_0)); (try have hy122_1 := fun (n_ : Nat) => (show (((((w10.drewN n_).setCell ⟨gb120, 0, none⟩ (.int .i64 ((rd_T77 l0 x3_2).f0))).setCell ⟨gb120, 1, none⟩ (.int .i64 ((rd_T77 l0 x3_2).f1))).setCell ⟨gb120, 2, none⟩ (.int .i64 ((rd_T77 l0 x3_2).f2)))).cell? _ = some _ from hx122_1)); (try have hy122_2 := fun (n_ : Nat) => (show (((((w10.drewN n_).setCell ⟨gb120, 0, none⟩ (.int .i64 ((rd_T77 l0 x3_2).f0))).setCell ⟨gb120, 1, none⟩ (.int .i64 ((rd_T77 l0 x3_2).f1))).setCell ⟨gb120, 2, none⟩ (.int .i64 ((rd_T77 l0 x3_2).f2)))).cell? _ = some _ from hx122_2)); clear hn122_0; clear hn122_1; clear hn122_2; replace p122 := eq_true p122; replace q122 := eq_true q122)); try go_wp2_with (first | (go_at_call 91; (with_reducible refine (spec_l01In.calls ((rd_T77 l0 x3_2).f0) 0 (wrap64 (x3_2 - 1)) true _ A12.out).mono ?_); rintro e w' ⟨rfl, ⟨nd, rfl⟩⟩; (try first | exact ⟨rfl, _, World.drewN_drewN _ _ _⟩ | exact ⟨rfl, _, Eq.trans (World.drewN_drewN _ _ _) (congrArg (World.drewN _) (Nat.add_assoc _ _ _))⟩); have p122 : 0 ≤ (((rd_T77 l0 x3_2).f0) : Int) := of_decide_eq_true (by first | (with_reducible assumption) | assumption); have q122 : ((rd_T77 l0 x3_2).f0) < (l0.length : Int) := of_decide_eq_true (by first | (with_reducible assumption) | assumption); obtain ⟨ad122, e122, hx122_0, hx122_1, hx122_2⟩ := at_T77 HR0.out ((rd_T77 l0 x3_2).f0) p122 q122; obtain rfl : ad119 = ad122 := (by injection e122); have hn122_0 : ad119.block ≠ gb120 := Nat.ne_of_lt (Nat.lt_of_lt_of_le (by have := World.block_lt_of_cell? _ _ hx122_0; first | rwa [add_block] at this | exact this) GW120.out); have hn122_1 : ad119.block ≠ gb120 := Nat.ne_of_lt (Nat.lt_of_lt_of_le (by have := World.block_lt_of_cell? _ _ hx122_0; first | rwa [add_block] at this | exact this) GW120.out); have hn122_2 : ad119.block ≠ gb120 := Nat.ne_of_lt (Nat.lt_of_lt_of_le (by have := World.block_lt_of_cell? _ _ hx122_0; first | rwa [add_block] at this | exact this) GW120.out); replace hx122_0 := (HB.out.cell (World.block_lt_of_cell? w _ hx122_0)).trans hx122_0; replace hx122_1 := (HB.out.cell (World.block_lt_of_cell? w _ hx122_1)).trans hx122_1; replace hx122_2 := (HB.out.cell (World.block_lt_of_cell? w _ hx122_2)).trans hx122_2; replace hx122_0 := (cell_far (p := ⟨gb120, 0, none⟩) (by first | (rw [add_block]; exact hn122_0) | (show (Addr.add _ _).block ≠ _; rw [add_block]; exact hn122_0) | exact hn122_0) (.int .i64 ((rd_T77 l0 x3_2).f0))).trans hx122_0; replace hx122_1 := (cell_far (p := ⟨gb120, 0, none⟩) (by first | (rw [add_block]; exact hn122_0) | (show (Addr.add _ _).block ≠ _; rw [add_block]; exact hn122_0) | exact hn122_0) (.int .i64 ((rd_T77 l0 x3_2).f0))).trans hx122_1; replace hx122_2 := (cell_far (p := ⟨gb120, 0, none⟩) (by first | (rw [add_block]; exact hn122_0) | (show (Addr.add _ _).block ≠ _; rw [add_block]; exact hn122_0) | exact hn122_0) (.int .i64 ((rd_T77 l0 x3_2).f0))).trans hx122_2; replace hx122_0 := (cell_far (p := ⟨gb120, 1, none⟩) (by first | (rw [add_block]; exact hn122_1) | (show (Addr.add _ _).block ≠ _; rw [add_block]; exact hn122_1) | exact hn122_1) (.int .i64 ((rd_T77 l0 x3_2).f1))).trans hx122_0; replace hx122_1 := (cell_far (p := ⟨gb120, 1, none⟩) (by first | (rw [add_block]; exact hn122_1) | (show (Addr.add _ _).block ≠ _; rw [add_block]; exact hn122_1) | exact hn122_1) (.int .i64 ((rd_T77 l0 x3_2).f1))).trans hx122_1; replace hx122_2 := (cell_far (p := ⟨gb120, 1, none⟩) (by first | (rw [add_block]; exact hn122_1) | (show (Addr.add _ _).block ≠ _; rw [add_block]; exact hn122_1) | exact hn122_1) (.int .i64 ((rd_T77 l0 x3_2).f1))).trans hx122_2; replace hx122_0 := (cell_far (p := ⟨gb120, 2, none⟩) (by first | (rw [add_block]; exact hn122_2) | (show (Addr.add _ _).block ≠ _; rw [add_block]; exact hn122_2) | exact hn122_2) (.int .i64 ((rd_T77 l0 x3_2).f2))).trans hx122_0; replace hx122_1 := (cell_far (p := ⟨gb120, 2, none⟩) (by first | (rw [add_block]; exact hn122_2) | (show (Addr.add _ _).block ≠ _; rw [add_block]; exact hn122_2) | exact hn122_2) (.int .i64 ((rd_T77 l0 x3_2).f2))).trans hx122_1; replace hx122_2 := (cell_far (p := ⟨gb120, 2, none⟩) (by first | (rw [add_block]; exact hn122_2) | (show (Addr.add _ _).block ≠ _; rw [add_block]; exact hn122_2) | exact hn122_2) (.int .i64 ((rd_T77 l0 x3_2).f2))).trans hx122_2; (try have hy122_0 := fun (n_ : Nat) => (show (((((w10.drewN n_).setCell ⟨gb120, 0, none⟩ (.int .i64 ((rd_T77 l0 x3_2).f0))).setCell ⟨gb120, 1, none⟩ (.int .i64 ((rd_T77 l0 x3_2).f1))).setCell ⟨gb120, 2, none⟩ (.int .i64 ((rd_T77 l0 x3_2).f2)))).cell? _ = some _ from hx122_0)); (try have hy122_1 := fun (n_ : Nat) => (show (((((w10.drewN n_).setCell ⟨gb120, 0, none⟩ (.int .i64 ((rd_T77 l0 x3_2).f0))).setCell ⟨gb120, 1, none⟩ (.int .i64 ((rd_T77 l0 x3_2).f1))).setCell ⟨gb120, 2, none⟩ (.int .i64 ((rd_T77 l0 x3_2).f2)))).cell? _ = some _ from hx122_1)); (try have hy122_2 := fun (n_ : Nat) => (show (((((w10.drewN n_).setCell ⟨gb120, 0, none⟩ (.int .i64 ((rd_T77 l0 x3_2).f0))).setCell ⟨gb120, 1, none⟩ (.int .i64 ((rd_T77 l0 x3_2).f1))).setCell ⟨gb120, 2, none⟩ (.int .i64 ((rd_T77 l0 x3_2).f2)))).cell? _ = some _ from hx122_2)); clear hn122_0; clear hn122_1; clear hn122_2; replace p122 := eq_true p122; replace q122 := eq_true q122)))
                          go_meet
                          case rel => exact ⟨_, (true), (by first | rfl | (simp; done) | (simp [*]; done)), H', ⟨by have := HJ1.out; have := HK2.out; first | omega | exact Nat.le_refl _⟩, ⟨by (with_reducible repeat (first | refine blk_drewN ?_ _ | refine blk_drew ?_ | refine blk_alloc ?_ _)); refine blk_put (cs := #[.int .i64 ((rd_T77 l0 x3_2).f0), .int .i64 ((rd_T77 l0 x3_2).f1), .int .i64 0]) ?_ 2 _ rfl; (with_reducible repeat (first | refine blk_drewN ?_ _ | refine blk_drew ?_ | refine blk_alloc ?_ _)); refine blk_put (cs := #[.int .i64 ((rd_T77 l0 x3_2).f0), .int .i64 0, .int .i64 0]) ?_ 1 _ rfl; (with_reducible repeat (first | refine blk_drewN ?_ _ | refine blk_drew ?_ | refine blk_alloc ?_ _)); refine blk_put (cs := #[.int .i64 0, .int .i64 0, .int .i64 0]) ?_ 0 _ rfl; (with_reducible repeat (first | refine blk_drewN ?_ _ | refine blk_drew ?_ | refine blk_alloc ?_ _)); exact BK120.out⟩, ⟨by repeat (first | (with_reducible first | exact HB.out | apply below_alloc | apply pw_below_drewN | apply below_drew1 | refine below_set ?_ GE120.out) | exact HB.out)⟩⟩
                      · rw [if_neg c15] at H
                        exact absurd H (by simp)
                    · rw [if_neg c14] at H
                      exact absurd H (by simp)
                  · replace c13 := Bool.eq_false_iff.mpr c13
                    subst c13
                    have H1 : (spec_TreeOk.j2 k2 l0 x3_2 true ((rd_T77 l0 x3_2).f0) ((rd_T77 l0 x3_2).f1) ((rd_T77 l0 x3_2).f2)) = some r := by rw [if_neg (show ¬ (false = true) by decide)] at H; exact H
                    clear H
                    have H := H1
                    clear H1
                    have H' := Aside0.mk H
                    clear H
                    have hcz23_0 : w10.cell? ⟨gb120, 0, none⟩ = some (.int .i64 0) := (blk_cell BK120.out 0).trans rfl
                    have hcz23_1 : w10.cell? ⟨gb120, 1, none⟩ = some (.int .i64 0) := (blk_cell BK120.out 1).trans rfl
                    have hcz23_2 : w10.cell? ⟨gb120, 2, none⟩ = some (.int .i64 0) := (blk_cell BK120.out 2).trans rfl
                    have hfz23_0 := blk_frozen BK120.out 0
                    have hfz23_1 := blk_frozen BK120.out 1
                    have hfz23_2 := blk_frozen BK120.out 2
                    go_wp2_with (first | (go_at_call 91; (with_reducible refine (spec_l01In.calls ((rd_T77 l0 x3_2).f0) 0 (wrap64 (x3_2 - 1)) false _ A12.out).mono ?_); rintro e w' ⟨rfl, ⟨nd, rfl⟩⟩; (try first | exact ⟨rfl, _, World.drewN_drewN _ _ _⟩ | exact ⟨rfl, _, Eq.trans (World.drewN_drewN _ _ _) (congrArg (World.drewN _) (Nat.add_assoc _ _ _))⟩)))
                    repeat (go_quiet (first | (go_at_call 91; (with_reducible refine (spec_l01In.calls ((rd_T77 l0 x3_2).f0) 0 (wrap64 (x3_2 - 1)) false _ A12.out).mono ?_); rintro e w' ⟨rfl, ⟨nd, rfl⟩⟩; (try first | exact ⟨rfl, _, World.drewN_drewN _ _ _⟩ | exact ⟨rfl, _, Eq.trans (World.drewN_drewN _ _ _) (congrArg (World.drewN _) (Nat.add_assoc _ _ _))⟩))); try go_wp2_with (first | (go_at_call 91; (with_reducible refine (spec_l01In.calls ((rd_T77 l0 x3_2).f0) 0 (wrap64 (x3_2 - 1)) false _ A12.out).mono ?_); rintro e w' ⟨rfl, ⟨nd, rfl⟩⟩; (try first | exact ⟨rfl, _, World.drewN_drewN _ _ _⟩ | exact ⟨rfl, _, Eq.trans (World.drewN_drewN _ _ _) (congrArg (World.drewN _) (Nat.add_assoc _ _ _))⟩))))
                    go_meet
                    case rel => exact ⟨_, (true), (by first | rfl | (simp; done) | (simp [*]; done)), H', ⟨by have := HJ1.out; have := HK2.out; first | omega | exact Nat.le_refl _⟩, ⟨by (with_reducible repeat (first | refine blk_drewN ?_ _ | refine blk_drew ?_ | refine blk_alloc ?_ _)); refine blk_put (cs := #[.int .i64 ((rd_T77 l0 x3_2).f0), .int .i64 ((rd_T77 l0 x3_2).f1), .int .i64 0]) ?_ 2 _ rfl; (with_reducible repeat (first | refine blk_drewN ?_ _ | refine blk_drew ?_ | refine blk_alloc ?_ _)); refine blk_put (cs := #[.int .i64 ((rd_T77 l0 x3_2).f0), .int .i64 0, .int .i64 0]) ?_ 1 _ rfl; (with_reducible repeat (first | refine blk_drewN ?_ _ | refine blk_drew ?_ | refine blk_alloc ?_ _)); refine blk_put (cs := #[.int .i64 0, .int .i64 0, .int .i64 0]) ?_ 0 _ rfl; (with_reducible repeat (first | refine blk_drewN ?_ _ | refine blk_drew ?_ | refine blk_alloc ?_ _)); exact BK120.out⟩, ⟨by repeat (first | (with_reducible first | exact HB.out | apply below_alloc | apply pw_below_drewN | apply below_drew1 | refine below_set ?_ GE120.out) | exact HB.out)⟩⟩
                case rest =>
                  clear HC9
                  try clear c1
                  try clear p1
                  try clear q1
                  try clear hx1
                  try clear qi1
                  try clear p2
                  try clear c4
                  try clear c5
                  try clear c5b0
                  try clear c5b1
                  try clear c6
                  try clear p6
                  try clear c7
                  try clear c7b0
                  try clear c8
                  try clear c8b0
                  try clear c11
                  try clear p11
                  try clear q11
                  try clear hx11
                  try clear qi11
                  try clear p12
                  try clear q12
                  try clear hx12
                  try clear c13
                  try clear c14
                  try clear c14b0
                  try clear c15
                  try clear c15b0
                  try clear c16
                  try clear c16b0
                  try clear c16b1
                  try clear c18
                  try clear hcz11_0
                  try clear hcz11_1
                  try clear hcz11_2
                  try clear hcz20_0
                  try clear hcz20_1
                  try clear hcz20_2
                  try clear hcz21_0
                  try clear hcz21_1
                  try clear hcz21_2
                  try clear hcz22_0
                  try clear hcz22_1
                  try clear hcz22_2
                  try clear hcz23_0
                  try clear hcz23_1
                  try clear hcz23_2
                  try clear hfz11_0
                  try clear hfz11_1
                  try clear hfz11_2
                  try clear hfz20_0
                  try clear hfz20_1
                  try clear hfz20_2
                  try clear hfz21_0
                  try clear hfz21_1
                  try clear hfz21_2
                  try clear hfz22_0
                  try clear hfz22_1
                  try clear hfz22_2
                  try clear hfz23_0
                  try clear hfz23_1
                  try clear hfz23_2
                  try clear hx118_0
                  try clear hx118_1
                  try clear hx118_2
                  try clear hx119_0
                  try clear hx119_1
                  try clear hx119_2
                  try clear hx122_0
                  try clear hx122_1
                  try clear hx122_2
                  try clear p1
                  try clear p118
                  try clear p119
                  try clear p122
                  try clear p2
                  try clear q1
                  try clear q118
                  try clear q119
                  try clear q122
                  obtain ⟨kq, x53_8, rfl, HA, HJ8, BK120, HB⟩ := hcut
                  cases kq with
                  | zero => exact absurd HA.out (by simp [spec_TreeOk.j2])
                  | succ kj8 =>
                    have H := HA.out
                    clear HA
                    simp only [spec_TreeOk.j2] at H
                    by_cases c24 : x53_8 = true
                    · subst c24
                      have H1 : (some false) = some r := by rw [if_pos rfl] at H; exact H
                      clear H
                      have H := H1
                      clear H1
                      obtain rfl := Option.some.inj H
                      go_wp2
                      repeat (go_quiet (fail); try go_wp2)
                      go_ret
                      exact ⟨by first | rfl | (simp [errW_none, errW_some] <;> rfl) | (simp [*, errW_none, errW_some] <;> rfl), by repeat (first | (with_reducible first | exact HB.out | apply below_alloc | apply pw_below_drewN | apply below_drew1 | refine below_set ?_ GE120.out) | exact HB.out)⟩
                    · replace c24 := Bool.eq_false_iff.mpr c24
                      subst c24
                      have H1 : (spec_TreeOk.l1 kj8 l0 x3_2 1 ((rd_T77 l0 x3_2).f0) ((rd_T77 l0 x3_2).f1) ((rd_T77 l0 x3_2).f2)) = some r := by rw [if_neg (show ¬ (false = true) by decide)] at H; exact H
                      clear H
                      have H := H1
                      clear H1
                      have H' := Aside0.mk H
                      clear H
                      go_wp2
                      repeat (go_quiet (fail); try go_wp2)
                      go_loopg [5] kj8 (fun kq v5 w' => ∃ (x5_4 : Int), v5 = .int .i64 x5_4 ∧ Aside0 (spec_TreeOk.l1 kq l0 x3_2 x5_4 ((rd_T77 l0 x3_2).f0) ((rd_T77 l0 x3_2).f1) ((rd_T77 l0 x3_2).f2) = some r) ∧ Aside0 (kq ≤ kj8) ∧ Aside0 (w'.heap[gb120]? = some (.cells #[.int .i64 ((rd_T77 l0 x3_2).f0), .int .i64 ((rd_T77 l0 x3_2).f1), .int .i64 ((rd_T77 l0 x3_2).f2)] 77 (0, 0))) ∧ Aside0 (Below w.heap.size w w'))
                      case atStart => exact ⟨(1), (by first | rfl | (simp; done) | (simp [*]; done)), H', ⟨Nat.le_refl _⟩, ⟨by (with_reducible repeat (first | refine blk_drewN ?_ _ | refine blk_drew ?_ | refine blk_alloc ?_ _)); exact BK120.out⟩, ⟨by repeat (first | (with_reducible first | exact HB.out | apply below_alloc | apply pw_below_drewN | apply below_drew1 | refine below_set ?_ GE120.out) | exact HB.out)⟩⟩
                      case round =>
                        clear H'
                        try clear c1
                        try clear p1
                        try clear q1
                        try clear hx1
                        try clear qi1
                        try clear c2
                        try clear p2
                        try clear c4
                        try clear c5
                        try clear c5b0
                        try clear c5b1
                        try clear c6
                        try clear p6
                        try clear c7
                        try clear c7b0
                        try clear c8
                        try clear c8b0
                        try clear c11
                        try clear p11
                        try clear q11
                        try clear hx11
                        try clear qi11
                        try clear p12
                        try clear q12
                        try clear hx12
                        try clear c13
                        try clear c14
                        try clear c14b0
                        try clear c15
                        try clear c15b0
                        try clear c16
                        try clear c16b0
                        try clear c16b1
                        try clear c18
                        try clear c24
                        try clear hcz11_0
                        try clear hcz11_1
                        try clear hcz11_2
                        try clear hcz20_0
                        try clear hcz20_1
                        try clear hcz20_2
                        try clear hcz21_0
                        try clear hcz21_1
                        try clear hcz21_2
                        try clear hcz22_0
                        try clear hcz22_1
                        try clear hcz22_2
                        try clear hcz23_0
                        try clear hcz23_1
                        try clear hcz23_2
                        try clear hfz11_0
                        try clear hfz11_1
                        try clear hfz11_2
                        try clear hfz20_0
                        try clear hfz20_1
                        try clear hfz20_2
                        try clear hfz21_0
                        try clear hfz21_1
                        try clear hfz21_2
                        try clear hfz22_0
                        try clear hfz22_1
                        try clear hfz22_2
                        try clear hfz23_0
                        try clear hfz23_1
                        try clear hfz23_2
                        try clear hx118_0
                        try clear hx118_1
                        try clear hx118_2
                        try clear hx119_0
                        try clear hx119_1
                        try clear hx119_2
                        try clear hx122_0
                        try clear hx122_1
                        try clear hx122_2
                        try clear p1
                        try clear p11
                        try clear p118
                        try clear p119
                        try clear p12
                        try clear p122
                        try clear p2
                        try clear p6
                        try clear q1
                        try clear q11
                        try clear q118
                        try clear q119
                        try clear q12
                        try clear q122
                        obtain ⟨x5_4, rfl, HA, HK4, BK120, HB⟩ := hrel
                        cases gk with
                        | zero => exact absurd HA.out (by simp [spec_TreeOk.l1])
                        | succ k4 =>
                          have H := HA.out
                          clear HA
                          simp only [spec_TreeOk.l1] at H
                          by_cases c25 : x5_4 < x3_2
                          · rw [if_pos c25] at H
                            have c25b0 : decide (x5_4 < x3_2) = true := decide_eq_true c25
                            clear c25
                            by_cases c26 : 0 ≤ x5_4
                            · rw [if_pos c26] at H
                              have c26b0 : decide (0 ≤ x5_4) = true := decide_eq_true c26
                              clear c26
                              by_cases c27 : x5_4 < (l0.length : Int)
                              · rw [if_pos c27] at H
                                have c27b0 : decide (x5_4 < (l0.length : Int)) = true := decide_eq_true c27
                                clear c27
                                by_cases c28 : ((rd_T77 l0 x5_4).f0) = ((rd_T77 l0 x3_2).f0)
                                · rw [if_pos c28] at H
                                  have c28b0 : (((rd_T77 l0 x5_4).f0) == ((rd_T77 l0 x3_2).f0)) = true := beq_iff_eq.mpr c28
                                  have c28b1 : (((rd_T77 l0 x5_4).f0) != ((rd_T77 l0 x3_2).f0)) = false := bne_eq_false_iff_eq.mpr c28
                                  clear c28
                                  by_cases c29 : ((rd_T77 l0 x5_4).f1) = ((rd_T77 l0 x3_2).f1)
                                  · rw [if_pos c29] at H
                                    have c29b0 : (((rd_T77 l0 x5_4).f1) == ((rd_T77 l0 x3_2).f1)) = true := beq_iff_eq.mpr c29
                                    have c29b1 : (((rd_T77 l0 x5_4).f1) != ((rd_T77 l0 x3_2).f1)) = false := bne_eq_false_iff_eq.mpr c29
                                    clear c29
                                    obtain rfl := Option.some.inj H
                                    have p125 : 0 ≤ (x5_4 : Int) := of_decide_eq_true (by first | (with_reducible assumption) | assumption)
                                    have q125 : x5_4 < (l0.length : Int) := of_decide_eq_true (by first | (with_reducible assumption) | assumption)
                                    obtain ⟨ad125, e125, hx125_0, hx125_1, hx125_2⟩ := at_T77 HR0.out x5_4 p125 q125
                                    obtain rfl : ad119 = ad125 := (by injection e125)
                                    replace hx125_0 := (HB.out.cell (World.block_lt_of_cell? w _ hx125_0)).trans hx125_0
                                    replace hx125_1 := (HB.out.cell (World.block_lt_of_cell? w _ hx125_1)).trans hx125_1
                                    replace hx125_2 := (HB.out.cell (World.block_lt_of_cell? w _ hx125_2)).trans hx125_2
                                    replace p125 := eq_true p125
                                    replace q125 := eq_true q125
                                    have hcz30_0 : wr.cell? ⟨gb120, 0, none⟩ = some (.int .i64 ((rd_T77 l0 x3_2).f0)) := (blk_cell BK120.out 0).trans rfl
                                    have hcz30_1 : wr.cell? ⟨gb120, 1, none⟩ = some (.int .i64 ((rd_T77 l0 x3_2).f1)) := (blk_cell BK120.out 1).trans rfl
                                    have hcz30_2 : wr.cell? ⟨gb120, 2, none⟩ = some (.int .i64 ((rd_T77 l0 x3_2).f2)) := (blk_cell BK120.out 2).trans rfl
                                    have hfz30_0 := blk_frozen BK120.out 0
                                    have hfz30_1 := blk_frozen BK120.out 1
                                    have hfz30_2 := blk_frozen BK120.out 2
                                    have p126 : 0 ≤ (x5_4 : Int) := of_decide_eq_true (by first | (with_reducible assumption) | assumption)
                                    have q126 : x5_4 < (l0.length : Int) := of_decide_eq_true (by first | (with_reducible assumption) | assumption)
                                    obtain ⟨ad126, e126, hx126_0, hx126_1, hx126_2⟩ := at_T77 HR0.out x5_4 p126 q126
                                    obtain rfl : ad119 = ad126 := (by injection e126)
                                    replace hx126_0 := (HB.out.cell (World.block_lt_of_cell? w _ hx126_0)).trans hx126_0
                                    replace hx126_1 := (HB.out.cell (World.block_lt_of_cell? w _ hx126_1)).trans hx126_1
                                    replace hx126_2 := (HB.out.cell (World.block_lt_of_cell? w _ hx126_2)).trans hx126_2
                                    replace p126 := eq_true p126
                                    replace q126 := eq_true q126
                                    go_wp2
                                    repeat (go_quiet (fail); try go_wp2)
                                    go_ret
                                    exact ⟨by first | rfl | (simp [errW_none, errW_some] <;> rfl) | (simp [*, errW_none, errW_some] <;> rfl), by repeat (first | (with_reducible first | exact HB.out | apply below_alloc | apply pw_below_drewN | apply below_drew1 | refine below_set ?_ GE120.out) | exact HB.out)⟩
                                  · rw [if_neg c29] at H
                                    have c29b0 : (((rd_T77 l0 x5_4).f1) == ((rd_T77 l0 x3_2).f1)) = false := beq_eq_false_iff_ne.mpr c29
                                    have c29b1 : (((rd_T77 l0 x5_4).f1) != ((rd_T77 l0 x3_2).f1)) = true := bne_iff_ne.mpr c29
                                    have H' := Aside0.mk H
                                    clear H
                                    have p125 : 0 ≤ (x5_4 : Int) := of_decide_eq_true (by first | (with_reducible assumption) | assumption)
                                    have q125 : x5_4 < (l0.length : Int) := of_decide_eq_true (by first | (with_reducible assumption) | assumption)
                                    obtain ⟨ad125, e125, hx125_0, hx125_1, hx125_2⟩ := at_T77 HR0.out x5_4 p125 q125
                                    obtain rfl : ad119 = ad125 := (by injection e125)
                                    replace hx125_0 := (HB.out.cell (World.block_lt_of_cell? w _ hx125_0)).trans hx125_0
                                    replace hx125_1 := (HB.out.cell (World.block_lt_of_cell? w _ hx125_1)).trans hx125_1
                                    replace hx125_2 := (HB.out.cell (World.block_lt_of_cell? w _ hx125_2)).trans hx125_2
                                    replace p125 := eq_true p125
                                    replace q125 := eq_true q125
                                    have hcz31_0 : wr.cell? ⟨gb120, 0, none⟩ = some (.int .i64 ((rd_T77 l0 x3_2).f0)) := (blk_cell BK120.out 0).trans rfl
                                    have hcz31_1 : wr.cell? ⟨gb120, 1, none⟩ = some (.int .i64 ((rd_T77 l0 x3_2).f1)) := (blk_cell BK120.out 1).trans rfl
                                    have hcz31_2 : wr.cell? ⟨gb120, 2, none⟩ = some (.int .i64 ((rd_T77 l0 x3_2).f2)) := (blk_cell BK120.out 2).trans rfl
                                    have hfz31_0 := blk_frozen BK120.out 0
                                    have hfz31_1 := blk_frozen BK120.out 1
                                    have hfz31_2 := blk_frozen BK120.out 2
                                    have p126 : 0 ≤ (x5_4 : Int) := of_decide_eq_true (by first | (with_reducible assumption) | assumption)
                                    have q126 : x5_4 < (l0.length : Int) := of_decide_eq_true (by first | (with_reducible assumption) | assumption)
                                    obtain ⟨ad126, e126, hx126_0, hx126_1, hx126_2⟩ := at_T77 HR0.out x5_4 p126 q126
                                    obtain rfl : ad119 = ad126 := (by injection e126)
                                    replace hx126_0 := (HB.out.cell (World.block_lt_of_cell? w _ hx126_0)).trans hx126_0
                                    replace hx126_1 := (HB.out.cell (World.block_lt_of_cell? w _ hx126_1)).trans hx126_1
                                    replace hx126_2 := (HB.out.cell (World.block_lt_of_cell? w _ hx126_2)).trans hx126_2
                                    replace p126 := eq_true p126
                                    replace q126 := eq_true q126
                                    go_wp2
                                    repeat (go_quiet (fail); try go_wp2)
                                    go_roundg k4
                                    case measure => have := HJ1.out; have := HK2.out; have := HJ8.out; have := HK4.out; omega
                                    case rel => exact ⟨(wrap64 (x5_4 + 1)), (by first | rfl | (simp; done) | (simp [*]; done)), H', ⟨by have := HJ1.out; have := HK2.out; have := HJ8.out; have := HK4.out; omega⟩, ⟨by (with_reducible repeat (first | refine blk_drewN ?_ _ | refine blk_drew ?_ | refine blk_alloc ?_ _)); exact BK120.out⟩, ⟨by repeat (first | (with_reducible first | exact HB.out | apply below_alloc | apply pw_below_drewN | apply below_drew1 | refine below_set ?_ GE120.out) | exact HB.out)⟩⟩
                                · rw [if_neg c28] at H
                                  have c28b0 : (((rd_T77 l0 x5_4).f0) == ((rd_T77 l0 x3_2).f0)) = false := beq_eq_false_iff_ne.mpr c28
                                  have c28b1 : (((rd_T77 l0 x5_4).f0) != ((rd_T77 l0 x3_2).f0)) = true := bne_iff_ne.mpr c28
                                  have H' := Aside0.mk H
                                  clear H
                                  have p125 : 0 ≤ (x5_4 : Int) := of_decide_eq_true (by first | (with_reducible assumption) | assumption)
                                  have q125 : x5_4 < (l0.length : Int) := of_decide_eq_true (by first | (with_reducible assumption) | assumption)
                                  obtain ⟨ad125, e125, hx125_0, hx125_1, hx125_2⟩ := at_T77 HR0.out x5_4 p125 q125
                                  obtain rfl : ad119 = ad125 := (by injection e125)
                                  replace hx125_0 := (HB.out.cell (World.block_lt_of_cell? w _ hx125_0)).trans hx125_0
                                  replace hx125_1 := (HB.out.cell (World.block_lt_of_cell? w _ hx125_1)).trans hx125_1
                                  replace hx125_2 := (HB.out.cell (World.block_lt_of_cell? w _ hx125_2)).trans hx125_2
                                  replace p125 := eq_true p125
                                  replace q125 := eq_true q125
                                  have hcz32_0 : wr.cell? ⟨gb120, 0, none⟩ = some (.int .i64 ((rd_T77 l0 x3_2).f0)) := (blk_cell BK120.out 0).trans rfl
                                  have hcz32_1 : wr.cell? ⟨gb120, 1, none⟩ = some (.int .i64 ((rd_T77 l0 x3_2).f1)) := (blk_cell BK120.out 1).trans rfl
                                  have hcz32_2 : wr.cell? ⟨gb120, 2, none⟩ = some (.int .i64 ((rd_T77 l0 x3_2).f2)) := (blk_cell BK120.out 2).trans rfl
                                  have hfz32_0 := blk_frozen BK120.out 0
                                  have hfz32_1 := blk_frozen BK120.out 1
                                  have hfz32_2 := blk_frozen BK120.out 2
                                  go_wp2
                                  repeat (go_quiet (fail); try go_wp2)
                                  go_roundg k4
                                  case measure => have := HJ1.out; have := HK2.out; have := HJ8.out; have := HK4.out; omega
                                  case rel => exact ⟨(wrap64 (x5_4 + 1)), (by first | rfl | (simp; done) | (simp [*]; done)), H', ⟨by have := HJ1.out; have := HK2.out; have := HJ8.out; have := HK4.out; omega⟩, ⟨by (with_reducible repeat (first | refine blk_drewN ?_ _ | refine blk_drew ?_ | refine blk_alloc ?_ _)); exact BK120.out⟩, ⟨by repeat (first | (with_reducible first | exact HB.out | apply below_alloc | apply pw_below_drewN | apply below_drew1 | refine below_set ?_ GE120.out) | exact HB.out)⟩⟩
                              · rw [if_neg c27] at H
                                exact absurd H (by simp)
                            · rw [if_neg c26] at H
                              exact absurd H (by simp)
                          · rw [if_neg c25] at H
                            have c25b0 : decide (x5_4 < x3_2) = false := decide_eq_false c25
                            clear c25
                            have H' := Aside0.mk H
                            clear H
                            go_wp2
                            repeat (go_quiet (fail); try go_wp2)
                            go_roundg k4
                            case measure => have := HJ1.out; have := HK2.out; have := HJ8.out; have := HK4.out; omega
                            case rel => exact ⟨(wrap64 (x3_2 + 1)), (by first | rfl | (simp; done) | (simp [*]; done)), H', ⟨by have := HJ1.out; have := HK2.out; have := HJ8.out; have := HK4.out; omega⟩, ⟨by repeat (first | (with_reducible first | exact HB.out | apply below_alloc | apply pw_below_drewN | apply below_drew1 | refine below_set ?_ GE120.out) | exact HB.out)⟩⟩
              · rw [if_neg c8] at H
                exact absurd H (by simp)
            · rw [if_neg c7] at H
              have c7b0 : decide (x3_2 < (l0.length : Int)) = false := decide_eq_false c7
              clear c7
              obtain rfl := Option.some.inj H
              go_wp2
              repeat (go_quiet (fail); try go_wp2)
              go_ret
              exact ⟨by first | rfl | (simp [errW_none, errW_some] <;> rfl) | (simp [*, errW_none, errW_some] <;> rfl), by repeat (first | (with_reducible first | exact HB.out | apply below_alloc | apply pw_below_drewN | apply below_drew1) | exact HB.out)⟩

/-! ### spec_AddNode: function 58 -/
def spec_AddNode.f (k : Nat) (l0 : List (S77)) (a1 : Int) (a2 : Int) (a3 : Int) : Option ((List (S77)) × Bool) := (some (([] : List (S77)) : List (S77))).bind fun y127 => (if y127.length + l0.length < 5864062014805 then ((some (y127 ++ l0 : List (S77))).bind fun y130 => (if y130.length < 5864062014805 then ((some (y130 ++ [(⟨a1, a2, a3⟩ : S77)] : List (S77))).bind fun y133 => ((spec_TreeOk.f k l0).bind fun t136 => (if t136 = true then ((spec_TreeOk.f k y133).bind fun t137 => (if t137 = true then (some (y133, true)) else ((some (([] : List (S77)) : List (S77))).bind fun y138 => (if y138.length + l0.length < 5864062014805 then (some ((y138 ++ l0), false)) else (none))))) else ((some (([] : List (S77)) : List (S77))).bind fun y144 => (if y144.length + l0.length < 5864062014805 then (some ((y144 ++ l0), false)) else (none)))))) else (none))) else (none))
theorem spec_AddNode.mono : ∀ a0 a1 a2 a3 k, LeO (spec_AddNode.f k a0 a1 a2 a3) (spec_AddNode.f (k + 1) a0 a1 a2 a3) := by
  intro a0 a1 a2 a3 k
  unfold spec_AddNode.f
  repeat' first
      | (with_reducible exact spec_TreeOk.mono _ _)
      | (with_reducible exact LeO.refl _)
      | (with_reducible exact LeO.none _)
      | (with_reducible refine LeO.ite ?_ ?_)
      | (with_reducible refine LeO.bind ?_ (fun _ => ?_))
      | exact spec_TreeOk.mono _ _
      | exact LeO.none _
      | refine LeO.ite ?_ ?_
      | refine LeO.bind ?_ (fun _ => ?_)
set_option maxHeartbeats 8000000 in
set_option maxRecDepth 100000 in
theorem spec_AddNode.calls (k : Nat) (A0 : Option Addr) (c0 : Nat) (l0 : List (S77)) (a1 : Int) (a2 : Int) (a3 : Int) (r1 : List (S77)) (r2 : Bool) (w : World) (hr0 : Kd.C k77 w A0 l0.length l0) (hc0 : l0.length ≤ c0) (h : spec_AddNode.f k l0 a1 a2 a3 = some (r1, r2)) :
    Calls Try.prog 58 #[.slice A0 l0.length c0, .int .i64 a1, .int .i64 a2, .int .i64 a3] w fun e w' => ∃ v0_ : Value, e = .returned (.tuple #[v0_, .bool r2]) ∧ Kd.R k77 77 w' w.heap.size (fun _ => True) v0_ r1 ∧ Below w.heap.size w w' := by
  have hu77 := Try.underlying77
  have HR0 := Aside0.mk hr0
  have HC0 := Aside0.mk hc0
  clear hr0 hc0
  have HB := Aside0.mk (Below.refl w.heap.size w)
  have H : ((some (([] : List (S77)) : List (S77))).bind fun y127 => (if y127.length + l0.length < 5864062014805 then ((some (y127 ++ l0 : List (S77))).bind fun y130 => (if y130.length < 5864062014805 then ((some (y130 ++ [(⟨a1, a2, a3⟩ : S77)] : List (S77))).bind fun y133 => ((spec_TreeOk.f k l0).bind fun t136 => (if t136 = true then ((spec_TreeOk.f k y133).bind fun t137 => (if t137 = true then (some (y133, true)) else ((some (([] : List (S77)) : List (S77))).bind fun y138 => (if y138.length + l0.length < 5864062014805 then (some ((y138 ++ l0), false)) else (none))))) else ((some (([] : List (S77)) : List (S77))).bind fun y144 => (if y144.length + l0.length < 5864062014805 then (some ((y144 ++ l0), false)) else (none)))))) else (none))) else (none))) = some (r1, r2) := h
  clear h
  obtain ⟨y127, hy127⟩ : ∃ y_ : List (S77), y_ = (([] : List (S77))) := ⟨_, rfl⟩
  replace H : (if y127.length + l0.length < 5864062014805 then ((some (y127 ++ l0 : List (S77))).bind fun y130 => (if y130.length < 5864062014805 then ((some (y130 ++ [(⟨a1, a2, a3⟩ : S77)] : List (S77))).bind fun y133 => ((spec_TreeOk.f k l0).bind fun t136 => (if t136 = true then ((spec_TreeOk.f k y133).bind fun t137 => (if t137 = true then (some (y133, true)) else ((some (([] : List (S77)) : List (S77))).bind fun y138 => (if y138.length + l0.length < 5864062014805 then (some ((y138 ++ l0), false)) else (none))))) else ((some (([] : List (S77)) : List (S77))).bind fun y144 => (if y144.length + l0.length < 5864062014805 then (some ((y144 ++ l0), false)) else (none)))))) else (none))) else (none)) = some (r1, r2) := by first | (rw [hy127]; with_reducible exact H) | (have H2_ := (Option.bind_some _ _).symm.trans H; rw [hy127]; with_reducible exact H2_) | (have H2_ := (Option.bind_some _ _).symm.trans H; with_reducible exact H2_) | with_reducible exact H | (rw [hy127]; exact H) | exact H
  have Ny127 := Aside0.mk hy127
  clear hy127
  by_cases c5 : y127.length + l0.length < 5864062014805
  · rw [if_pos c5] at H
    have LMc5 := Aside0.mk c5
    clear c5
    obtain ⟨y130, hy130⟩ : ∃ y_ : List (S77), y_ = (y127 ++ l0) := ⟨_, rfl⟩
    replace H : (if y130.length < 5864062014805 then ((some (y130 ++ [(⟨a1, a2, a3⟩ : S77)] : List (S77))).bind fun y133 => ((spec_TreeOk.f k l0).bind fun t136 => (if t136 = true then ((spec_TreeOk.f k y133).bind fun t137 => (if t137 = true then (some (y133, true)) else ((some (([] : List (S77)) : List (S77))).bind fun y138 => (if y138.length + l0.length < 5864062014805 then (some ((y138 ++ l0), false)) else (none))))) else ((some (([] : List (S77)) : List (S77))).bind fun y144 => (if y144.length + l0.length < 5864062014805 then (some ((y144 ++ l0), false)) else (none)))))) else (none)) = some (r1, r2) := by first | (rw [hy130]; with_reducible exact H) | (have H2_ := (Option.bind_some _ _).symm.trans H; rw [hy130]; with_reducible exact H2_) | (have H2_ := (Option.bind_some _ _).symm.trans H; with_reducible exact H2_) | with_reducible exact H | (rw [hy130]; exact H) | exact H
    have Ny130 := Aside0.mk hy130
    clear hy130
    by_cases c6 : y130.length < 5864062014805
    · rw [if_pos c6] at H
      have LMc6 := Aside0.mk c6
      clear c6
      obtain ⟨y133, hy133⟩ : ∃ y_ : List (S77), y_ = (y130 ++ [(⟨a1, a2, a3⟩ : S77)]) := ⟨_, rfl⟩
      replace H : ((spec_TreeOk.f k l0).bind fun t136 => (if t136 = true then ((spec_TreeOk.f k y133).bind fun t137 => (if t137 = true then (some (y133, true)) else ((some (([] : List (S77)) : List (S77))).bind fun y138 => (if y138.length + l0.length < 5864062014805 then (some ((y138 ++ l0), false)) else (none))))) else ((some (([] : List (S77)) : List (S77))).bind fun y144 => (if y144.length + l0.length < 5864062014805 then (some ((y144 ++ l0), false)) else (none))))) = some (r1, r2) := by first | (rw [hy133]; with_reducible exact H) | (have H2_ := (Option.bind_some _ _).symm.trans H; rw [hy133]; with_reducible exact H2_) | (have H2_ := (Option.bind_some _ _).symm.trans H; with_reducible exact H2_) | with_reducible exact H | (rw [hy133]; exact H) | exact H
      have Ny133 := Aside0.mk hy133
      clear hy133
      replace H := Option.bind_eq_some_iff.mp H
      obtain ⟨t136, A70, H⟩ := H
      replace H : (if t136 = true then ((spec_TreeOk.f k y133).bind fun t137 => (if t137 = true then (some (y133, true)) else ((some (([] : List (S77)) : List (S77))).bind fun y138 => (if y138.length + l0.length < 5864062014805 then (some ((y138 ++ l0), false)) else (none))))) else ((some (([] : List (S77)) : List (S77))).bind fun y144 => (if y144.length + l0.length < 5864062014805 then (some ((y144 ++ l0), false)) else (none)))) = some (r1, r2) := H
      have A7 := Aside0.mk A70
      clear A70
      by_cases c8 : t136 = true
      · subst c8
        have H1 : ((spec_TreeOk.f k y133).bind fun t137 => (if t137 = true then (some (y133, true)) else ((some (([] : List (S77)) : List (S77))).bind fun y138 => (if y138.length + l0.length < 5864062014805 then (some ((y138 ++ l0), false)) else (none))))) = some (r1, r2) := by rw [if_pos rfl] at H; exact H
        clear H
        have H := H1
        clear H1
        replace H := Option.bind_eq_some_iff.mp H
        obtain ⟨t137, A90, H⟩ := H
        replace H : (if t137 = true then (some (y133, true)) else ((some (([] : List (S77)) : List (S77))).bind fun y138 => (if y138.length + l0.length < 5864062014805 then (some ((y138 ++ l0), false)) else (none)))) = some (r1, r2) := H
        have A9 := Aside0.mk A90
        clear A90
        by_cases c10 : t137 = true
        · subst c10
          have H1 : (some (y133, true)) = some (r1, r2) := by rw [if_pos rfl] at H; exact H
          clear H
          have H := H1
          clear H1
          simp only [Option.some.injEq, Prod.mk.injEq] at H
          obtain ⟨rfl, rfl⟩ := H
          go_enter Try.func58, Try.ntmps58
          go_wp2_with (first | ((with_reducible refine gate_dst (N := 11) rfl ?_); refine Kd.R_lit k77 _ 77 ?hg (N := 11) ?hd (xs := ([] : List (S77))) (inner := []) (ok := fun _ => True) (okp := fun _ => True) ?hr ?hp (fun _ hk => hk) trivial (Below.refl _ _) (Nat.le_refl _) (by simp) ?_; (case hd => rfl); (case hg => rfl); (case hr => first | (go_simp; done) | (go_simp; rfl)); (case hp => exact (Reps.none _ _)); intro v128 w11 ho12 hb hg_ hnew_; clear hg_ hnew_; (first | rw [← Ny127.out] at ho12 | (simp only [Int.reduceToNat] at ho12; rw [← Ny127.out] at ho12)); have n0_ := Aside0.mk (Kd.R_lower ho12 (below_size (by repeat (first | (with_reducible first | exact HB.out | apply below_alloc | apply pw_below_drewN | apply below_drew1) | exact HB.out)))); have n1_ := Aside0.mk (below_step (by repeat (first | (with_reducible first | exact HB.out | apply below_alloc | apply pw_below_drewN | apply below_drew1) | exact HB.out)) hb); clear HB; have HO129 := n0_; have HB := n1_; clear n0_ n1_; clear hb ho12) | ((with_reducible refine gate_builtin (b := .append) (xs := #[.tmp 11, .tmp 12]) rfl ?_); at_builtin; refine Kd.R_append_rows k77 (w0 := w) w.heap.size rfl (.tmp 11) (.tmp 12) 25 77 (.agg #[(.int .i64 0), (.int .i64 0), (.int .i64 0)]) 24 rfl Try.underlying25 info77 rfl (by decide) (by omega) v128 y127 l0 _ _ _ (fun _ => True) (fun _ => False) rfl rfl ?aO ?aR (fun _ _ h => h) (fun _ h => h.elim) ?aF ?aB ?aS ?aL ?_; (case aR => repeat (first | exact (Kd.C_below HR0.out HB.out) | (with_reducible refine Kd.C_alloc ?_ _) | (with_reducible refine Kd.C_drewN ?_ _) | (with_reducible refine Kd.C_drew ?_))); (case aB => exact (by repeat (first | (with_reducible first | exact HB.out | apply below_alloc | apply pw_below_drewN | apply below_drew1) | exact HB.out))); (case aF => exact (fun _ _ => trivial)); (case aO => exact (by (with_reducible repeat (first | apply Kd.R_alloc | apply Kd.R_drewN | apply Kd.R_drew)); exact HO129.out)); (case aS => exact (below_size (by repeat (first | (with_reducible first | exact HB.out | apply below_alloc | apply pw_below_drewN | apply below_drew1) | exact HB.out)))); (case aL => have := LMc5.out; omega); intro v131 w13 ho hb hg hat; rw [← Ny130.out] at ho; have n0_ := Aside0.mk (hb); have n1_ := Aside0.mk (ho); clear HB; clear HO129; have HB := n0_; have HO132 := n1_; clear n0_ n1_; clear ho hb hg hat) | ((with_reducible refine gate_builtin (b := .append) (xs := #[.tmp 13, .tmp 18]) rfl ?_); at_builtin; refine Kd.R_append k77 (w0 := w) w.heap.size rfl (.tmp 13) (.tmp 18) 25 77 (.agg #[(.int .i64 0), (.int .i64 0), (.int .i64 0)]) 24 rfl Try.underlying25 info77 rfl (by decide) (by omega) v131 y130 (⟨a1, a2, a3⟩ : S77) [.int .i64 a1, .int .i64 a2, .int .i64 a3] (fun _ => True) (fun _ => False) rfl rfl ?aP (fun _ hk => hk.elim) ?aF ?aO ?aB ?aS ?aL ?_; (case aP => exact k77_mkM _ _ _ (⟨a1, a2, a3⟩ : S77)); (case aB => exact (by repeat (first | (with_reducible first | exact HB.out | apply below_alloc | apply pw_below_drewN | apply below_drew1) | exact HB.out))); (case aF => exact (fun _ _ => trivial)); (case aO => exact (by (with_reducible repeat (first | apply Kd.R_alloc | apply Kd.R_drewN | apply Kd.R_drew)); exact HO132.out)); (case aS => exact (below_size (by repeat (first | (with_reducible first | exact HB.out | apply below_alloc | apply pw_below_drewN | apply below_drew1) | exact HB.out)))); (case aL => have := LMc6.out; omega); intro v134 w14 ho hb hg hat; rw [← Ny133.out] at ho; have n0_ := Aside0.mk (hb); have n1_ := Aside0.mk (ho); clear HB; clear HO132; have HB := n0_; have HO135 := n1_; clear n0_ n1_; clear ho hb hg hat) | ((with_reducible refine gate_callee (f := 112) rfl ?_); refine goesL_ (some 21) rfl rfl Try.func112 (by kernel_rfl) rfl #[.slice A0 l0.length c0] rfl (by (try simp only [List.map_toArray, List.map_cons, List.map_nil]); first | done | rfl | (simp only [List.length_drop, List.length_take]; rfl)) ?_; (with_reducible refine (spec_TreeOk.calls k _ _ l0 true _ ?side1 ?side2 A7.out).mono ?_); (case side1 => repeat (first | exact (Kd.C_below HR0.out HB.out) | (with_reducible refine Kd.C_alloc ?_ _) | (with_reducible refine Kd.C_drewN ?_ _) | (with_reducible refine Kd.C_drew ?_))); (case side2 => exact HC0.out); rintro e w15 ⟨rfl, hb⟩; refine ⟨_, rfl, ?_⟩; have n0_ := Aside0.mk (Kd.R_below (by (with_reducible repeat (first | apply Kd.R_alloc | apply Kd.R_drewN | apply Kd.R_drew)); exact HO135.out) hb); have n1_ := Aside0.mk (below_step (by repeat (first | (with_reducible first | exact HB.out | apply below_alloc | apply pw_below_drewN | apply below_drew1) | exact HB.out)) hb); clear HO135; clear HB; have HO135 := n0_; have HB := n1_; clear n0_ n1_; (try clear hb); (try clear hb2); (try clear hk); (try clear hi); obtain ⟨Ao16, co16, eo16⟩ := Kd.R_slice HO135.out; subst eo16) | (go_at_call 112; (with_reducible refine (spec_TreeOk.calls k _ _ y133 true _ ?side1 ?side2 A9.out).mono ?_); (case side1 => repeat (first | exact (Kd.R_reads' HO135.out).2.2 | (with_reducible refine Kd.C_alloc ?_ _) | (with_reducible refine Kd.C_drewN ?_ _) | (with_reducible refine Kd.C_drew ?_))); (case side2 => exact (Kd.R_reads' HO135.out).2.1); rintro e w17 ⟨rfl, hb⟩; have n0_ := Aside0.mk (Kd.R_below (by (with_reducible repeat (first | apply Kd.R_alloc | apply Kd.R_drewN | apply Kd.R_drew)); exact HO135.out) hb); have n1_ := Aside0.mk (below_step (by repeat (first | (with_reducible first | exact HB.out | apply below_alloc | apply pw_below_drewN | apply below_drew1) | exact HB.out)) hb); clear HO135; clear HB; have HO135 := n0_; have HB := n1_; clear n0_ n1_; (try clear hb); (try clear hb2); (try clear hk); (try clear hi)))
          go_ret2
          exact ⟨_, by first | rfl | (simp [errW_none, errW_some] <;> rfl) | (simp [*, errW_none, errW_some] <;> rfl), by (with_reducible repeat (first | apply Kd.R_alloc | apply Kd.R_drewN | apply Kd.R_drew)); exact HO135.out, by repeat (first | (with_reducible first | exact HB.out | apply below_alloc | apply pw_below_drewN | apply below_drew1) | exact HB.out)⟩
        · replace c10 := Bool.eq_false_iff.mpr c10
          subst c10
          have H1 : ((some (([] : List (S77)) : List (S77))).bind fun y138 => (if y138.length + l0.length < 5864062014805 then (some ((y138 ++ l0), false)) else (none))) = some (r1, r2) := by rw [if_neg (show ¬ (false = true) by decide)] at H; exact H
          clear H
          have H := H1
          clear H1
          obtain ⟨y138, hy138⟩ : ∃ y_ : List (S77), y_ = (([] : List (S77))) := ⟨_, rfl⟩
          replace H : (if y138.length + l0.length < 5864062014805 then (some ((y138 ++ l0), false)) else (none)) = some (r1, r2) := by first | (rw [hy138]; with_reducible exact H) | (have H2_ := (Option.bind_some _ _).symm.trans H; rw [hy138]; with_reducible exact H2_) | (have H2_ := (Option.bind_some _ _).symm.trans H; with_reducible exact H2_) | with_reducible exact H | (rw [hy138]; exact H) | exact H
          have Ny138 := Aside0.mk hy138
          clear hy138
          by_cases c18 : y138.length + l0.length < 5864062014805
          · rw [if_pos c18] at H
            have LMc18 := Aside0.mk c18
            clear c18
            obtain ⟨y141, hy141⟩ : ∃ y_ : List (S77), y_ = (y138 ++ l0) := ⟨_, rfl⟩
            replace H : (some (y141, false)) = some (r1, r2) := by first | (rw [hy141]; with_reducible exact H) | (have H2_ := (Option.bind_some _ _).symm.trans H; rw [hy141]; with_reducible exact H2_) | (have H2_ := (Option.bind_some _ _).symm.trans H; with_reducible exact H2_) | with_reducible exact H | (rw [hy141]; exact H) | exact H
            have Ny141 := Aside0.mk hy141
            clear hy141
            simp only [Option.some.injEq, Prod.mk.injEq] at H
            obtain ⟨rfl, rfl⟩ := H
            go_enter Try.func58, Try.ntmps58
            go_wp2_with (first | ((with_reducible refine gate_dst (N := 11) rfl ?_); refine Kd.R_lit k77 _ 77 ?hg (N := 11) ?hd (xs := ([] : List (S77))) (inner := []) (ok := fun _ => True) (okp := fun _ => True) ?hr ?hp (fun _ hk => hk) trivial (Below.refl _ _) (Nat.le_refl _) (by simp) ?_; (case hd => rfl); (case hg => rfl); (case hr => first | (go_simp; done) | (go_simp; rfl)); (case hp => exact (Reps.none _ _)); intro v128 w19 ho20 hb hg_ hnew_; clear hg_ hnew_; (first | rw [← Ny127.out] at ho20 | (simp only [Int.reduceToNat] at ho20; rw [← Ny127.out] at ho20)); have n0_ := Aside0.mk (Kd.R_lower ho20 (below_size (by repeat (first | (with_reducible first | exact HB.out | apply below_alloc | apply pw_below_drewN | apply below_drew1) | exact HB.out)))); have n1_ := Aside0.mk (below_step (by repeat (first | (with_reducible first | exact HB.out | apply below_alloc | apply pw_below_drewN | apply below_drew1) | exact HB.out)) hb); clear HB; have HO129 := n0_; have HB := n1_; clear n0_ n1_; clear hb ho20) | ((with_reducible refine gate_builtin (b := .append) (xs := #[.tmp 11, .tmp 12]) rfl ?_); at_builtin; refine Kd.R_append_rows k77 (w0 := w) w.heap.size rfl (.tmp 11) (.tmp 12) 25 77 (.agg #[(.int .i64 0), (.int .i64 0), (.int .i64 0)]) 24 rfl Try.underlying25 info77 rfl (by decide) (by omega) v128 y127 l0 _ _ _ (fun _ => True) (fun _ => False) rfl rfl ?aO ?aR (fun _ _ h => h) (fun _ h => h.elim) ?aF ?aB ?aS ?aL ?_; (case aR => repeat (first | exact (Kd.C_below HR0.out HB.out) | (with_reducible refine Kd.C_alloc ?_ _) | (with_reducible refine Kd.C_drewN ?_ _) | (with_reducible refine Kd.C_drew ?_))); (case aB => exact (by repeat (first | (with_reducible first | exact HB.out | apply below_alloc | apply pw_below_drewN | apply below_drew1) | exact HB.out))); (case aF => exact (fun _ _ => trivial)); (case aO => exact (by (with_reducible repeat (first | apply Kd.R_alloc | apply Kd.R_drewN | apply Kd.R_drew)); exact HO129.out)); (case aS => exact (below_size (by repeat (first | (with_reducible first | exact HB.out | apply below_alloc | apply pw_below_drewN | apply below_drew1) | exact HB.out)))); (case aL => have := LMc5.out; omega); intro v131 w21 ho hb hg hat; rw [← Ny130.out] at ho; have n0_ := Aside0.mk (hb); have n1_ := Aside0.mk (ho); clear HB; clear HO129; have HB := n0_; have HO132 := n1_; clear n0_ n1_; clear ho hb hg hat) | ((with_reducible refine gate_builtin (b := .append) (xs := #[.tmp 13, .tmp 18]) rfl ?_); at_builtin; refine Kd.R_append k77 (w0 := w) w.heap.size rfl (.tmp 13) (.tmp 18) 25 77 (.agg #[(.int .i64 0), (.int .i64 0), (.int .i64 0)]) 24 rfl Try.underlying25 info77 rfl (by decide) (by omega) v131 y130 (⟨a1, a2, a3⟩ : S77) [.int .i64 a1, .int .i64 a2, .int .i64 a3] (fun _ => True) (fun _ => False) rfl rfl ?aP (fun _ hk => hk.elim) ?aF ?aO ?aB ?aS ?aL ?_; (case aP => exact k77_mkM _ _ _ (⟨a1, a2, a3⟩ : S77)); (case aB => exact (by repeat (first | (with_reducible first | exact HB.out | apply below_alloc | apply pw_below_drewN | apply below_drew1) | exact HB.out))); (case aF => exact (fun _ _ => trivial)); (case aO => exact (by (with_reducible repeat (first | apply Kd.R_alloc | apply Kd.R_drewN | apply Kd.R_drew)); exact HO132.out)); (case aS => exact (below_size (by repeat (first | (with_reducible first | exact HB.out | apply below_alloc | apply pw_below_drewN | apply below_drew1) | exact HB.out)))); (case aL => have := LMc6.out; omega); intro v134 w22 ho hb hg hat; rw [← Ny133.out] at ho; have n0_ := Aside0.mk (hb); have n1_ := Aside0.mk (ho); clear HB; clear HO132; have HB := n0_; have HO135 := n1_; clear n0_ n1_; clear ho hb hg hat) | ((with_reducible refine gate_callee (f := 112) rfl ?_); refine goesL_ (some 21) rfl rfl Try.func112 (by kernel_rfl) rfl #[.slice A0 l0.length c0] rfl (by (try simp only [List.map_toArray, List.map_cons, List.map_nil]); first | done | rfl | (simp only [List.length_drop, List.length_take]; rfl)) ?_; (with_reducible refine (spec_TreeOk.calls k _ _ l0 true _ ?side1 ?side2 A7.out).mono ?_); (case side1 => repeat (first | exact (Kd.C_below HR0.out HB.out) | (with_reducible refine Kd.C_alloc ?_ _) | (with_reducible refine Kd.C_drewN ?_ _) | (with_reducible refine Kd.C_drew ?_))); (case side2 => exact HC0.out); rintro e w23 ⟨rfl, hb⟩; refine ⟨_, rfl, ?_⟩; have n0_ := Aside0.mk (Kd.R_below (by (with_reducible repeat (first | apply Kd.R_alloc | apply Kd.R_drewN | apply Kd.R_drew)); exact HO135.out) hb); have n1_ := Aside0.mk (below_step (by repeat (first | (with_reducible first | exact HB.out | apply below_alloc | apply pw_below_drewN | apply below_drew1) | exact HB.out)) hb); clear HO135; clear HB; have HO135 := n0_; have HB := n1_; clear n0_ n1_; (try clear hb); (try clear hb2); (try clear hk); (try clear hi); obtain ⟨Ao24, co24, eo24⟩ := Kd.R_slice HO135.out; subst eo24) | (go_at_call 112; (with_reducible refine (spec_TreeOk.calls k _ _ y133 false _ ?side1 ?side2 A9.out).mono ?_); (case side1 => repeat (first | exact (Kd.R_reads' HO135.out).2.2 | (with_reducible refine Kd.C_alloc ?_ _) | (with_reducible refine Kd.C_drewN ?_ _) | (with_reducible refine Kd.C_drew ?_))); (case side2 => exact (Kd.R_reads' HO135.out).2.1); rintro e w25 ⟨rfl, hb⟩; have n0_ := Aside0.mk (Kd.R_below (by (with_reducible repeat (first | apply Kd.R_alloc | apply Kd.R_drewN | apply Kd.R_drew)); exact HO135.out) hb); have n1_ := Aside0.mk (below_step (by repeat (first | (with_reducible first | exact HB.out | apply below_alloc | apply pw_below_drewN | apply below_drew1) | exact HB.out)) hb); clear HO135; clear HB; have HO135 := n0_; have HB := n1_; clear n0_ n1_; (try clear hb); (try clear hb2); (try clear hk); (try clear hi)) | ((with_reducible refine gate_dst (N := 28) rfl ?_); refine Kd.R_lit k77 _ 77 ?hg (N := 28) ?hd (xs := ([] : List (S77))) (inner := []) (ok := fun _ => True) (okp := fun _ => True) ?hr ?hp (fun _ hk => hk) trivial (Below.refl _ _) (Nat.le_refl _) (by simp) ?_; (case hd => rfl); (case hg => rfl); (case hr => first | (go_simp; done) | (go_simp; rfl)); (case hp => exact (Reps.none _ _)); intro v139 w26 ho27 hb hg_ hnew_; clear hg_ hnew_; (first | rw [← Ny138.out] at ho27 | (simp only [Int.reduceToNat] at ho27; rw [← Ny138.out] at ho27)); have n0_ := Aside0.mk (Kd.R_elder' (by (with_reducible repeat (first | apply Kd.R_alloc | apply Kd.R_drewN | apply Kd.R_drew)); exact HO135.out) (Kd.R_base ho27) hb); have n1_ := Aside0.mk (Kd.R_lower (Kd.R_new' ho27 (Kd.R_lt (by (with_reducible repeat (first | apply Kd.R_alloc | apply Kd.R_drewN | apply Kd.R_drew)); exact HO135.out))) (below_size (by repeat (first | (with_reducible first | exact HB.out | apply below_alloc | apply pw_below_drewN | apply below_drew1) | exact HB.out)))); have n2_ := Aside0.mk (below_step (by repeat (first | (with_reducible first | exact HB.out | apply below_alloc | apply pw_below_drewN | apply below_drew1) | exact HB.out)) hb); clear HO135; clear HB; have HO135 := n0_; have HO140 := n1_; have HB := n2_; clear n0_ n1_ n2_; clear hb ho27) | ((with_reducible refine gate_builtin (b := .append) (xs := #[.tmp 28, .tmp 29]) rfl ?_); at_builtin; refine Kd.R_append_rows k77 (w0 := w) w.heap.size rfl (.tmp 28) (.tmp 29) 25 77 (.agg #[(.int .i64 0), (.int .i64 0), (.int .i64 0)]) 24 rfl Try.underlying25 info77 rfl (by decide) (by omega) v139 y138 l0 _ _ _ (fun k_ => some k_ ≠ (.slice Ao24 y133.length co24 : Value).ownBlock) (fun _ => False) rfl rfl ?aO ?aR (fun _ _ h => h) (fun _ h => h.elim) ?aF ?aB ?aS ?aL ?_; (case aR => repeat (first | exact (Kd.C_below HR0.out HB.out) | (with_reducible refine Kd.C_alloc ?_ _) | (with_reducible refine Kd.C_drewN ?_ _) | (with_reducible refine Kd.C_drew ?_))); (case aB => exact (by repeat (first | (with_reducible first | exact HB.out | apply below_alloc | apply pw_below_drewN | apply below_drew1) | exact HB.out))); (case aF => exact (fun k_ hk => Kd.fresh' (Kd.R_lt (by (with_reducible repeat (first | apply Kd.R_alloc | apply Kd.R_drewN | apply Kd.R_drew)); exact HO135.out)) k_ hk)); (case aO => exact (by (with_reducible repeat (first | apply Kd.R_alloc | apply Kd.R_drewN | apply Kd.R_drew)); exact Kd.R_mono HO140.out (fun _ hk => hk.2))); (case aS => exact (below_size (by repeat (first | (with_reducible first | exact HB.out | apply below_alloc | apply pw_below_drewN | apply below_drew1) | exact HB.out)))); (case aL => have := LMc18.out; omega); intro v142 w28 ho hb hg hat; rw [← Ny141.out] at ho; have n0_ := Aside0.mk (Kd.R_after (ok := (fun _ => True)) (by (with_reducible repeat (first | apply Kd.R_alloc | apply Kd.R_drewN | apply Kd.R_drew)); exact HO135.out) hg hat); have n1_ := Aside0.mk (hb); have n2_ := Aside0.mk (ho); clear HO135; clear HB; clear HO140; have HO135 := n0_; have HB := n1_; have HO143 := n2_; clear n0_ n1_ n2_; clear ho hb hg hat))
            go_ret2
            exact ⟨_, by first | rfl | (simp [errW_none, errW_some] <;> rfl) | (simp [*, errW_none, errW_some] <;> rfl), by (with_reducible repeat (first | apply Kd.R_alloc | apply Kd.R_drewN | apply Kd.R_drew)); exact Kd.R_mono HO143.out (fun _ hk => trivial), by repeat (first | (with_reducible first | exact HB.out | apply below_alloc | apply pw_below_drewN | apply below_drew1) | exact HB.out)⟩
          · rw [if_neg c18] at H
            exact absurd H (by simp)
      · replace c8 := Bool.eq_false_iff.mpr c8
        subst c8
        have H1 : ((some (([] : List (S77)) : List (S77))).bind fun y144 => (if y144.length + l0.length < 5864062014805 then (some ((y144 ++ l0), false)) else (none))) = some (r1, r2) := by rw [if_neg (show ¬ (false = true) by decide)] at H; exact H
        clear H
        have H := H1
        clear H1
        obtain ⟨y144, hy144⟩ : ∃ y_ : List (S77), y_ = (([] : List (S77))) := ⟨_, rfl⟩
        replace H : (if y144.length + l0.length < 5864062014805 then (some ((y144 ++ l0), false)) else (none)) = some (r1, r2) := by first | (rw [hy144]; with_reducible exact H) | (have H2_ := (Option.bind_some _ _).symm.trans H; rw [hy144]; with_reducible exact H2_) | (have H2_ := (Option.bind_some _ _).symm.trans H; with_reducible exact H2_) | with_reducible exact H | (rw [hy144]; exact H) | exact H
        have Ny144 := Aside0.mk hy144
        clear hy144
        by_cases c29 : y144.length + l0.length < 5864062014805
        · rw [if_pos c29] at H
          have LMc29 := Aside0.mk c29
          clear c29
          obtain ⟨y147, hy147⟩ : ∃ y_ : List (S77), y_ = (y144 ++ l0) := ⟨_, rfl⟩
          replace H : (some (y147, false)) = some (r1, r2) := by first | (rw [hy147]; with_reducible exact H) | (have H2_ := (Option.bind_some _ _).symm.trans H; rw [hy147]; with_reducible exact H2_) | (have H2_ := (Option.bind_some _ _).symm.trans H; with_reducible exact H2_) | with_reducible exact H | (rw [hy147]; exact H) | exact H
          have Ny147 := Aside0.mk hy147
          clear hy147
          simp only [Option.some.injEq, Prod.mk.injEq] at H
          obtain ⟨rfl, rfl⟩ := H
          go_enter Try.func58, Try.ntmps58
          go_wp2_with (first | ((with_reducible refine gate_dst (N := 11) rfl ?_); refine Kd.R_lit k77 _ 77 ?hg (N := 11) ?hd (xs := ([] : List (S77))) (inner := []) (ok := fun _ => True) (okp := fun _ => True) ?hr ?hp (fun _ hk => hk) trivial (Below.refl _ _) (Nat.le_refl _) (by simp) ?_; (case hd => rfl); (case hg => rfl); (case hr => first | (go_simp; done) | (go_simp; rfl)); (case hp => exact (Reps.none _ _)); intro v128 w30 ho31 hb hg_ hnew_; clear hg_ hnew_; (first | rw [← Ny127.out] at ho31 | (simp only [Int.reduceToNat] at ho31; rw [← Ny127.out] at ho31)); have n0_ := Aside0.mk (Kd.R_lower ho31 (below_size (by repeat (first | (with_reducible first | exact HB.out | apply below_alloc | apply pw_below_drewN | apply below_drew1) | exact HB.out)))); have n1_ := Aside0.mk (below_step (by repeat (first | (with_reducible first | exact HB.out | apply below_alloc | apply pw_below_drewN | apply below_drew1) | exact HB.out)) hb); clear HB; have HO129 := n0_; have HB := n1_; clear n0_ n1_; clear hb ho31) | ((with_reducible refine gate_builtin (b := .append) (xs := #[.tmp 11, .tmp 12]) rfl ?_); at_builtin; refine Kd.R_append_rows k77 (w0 := w) w.heap.size rfl (.tmp 11) (.tmp 12) 25 77 (.agg #[(.int .i64 0), (.int .i64 0), (.int .i64 0)]) 24 rfl Try.underlying25 info77 rfl (by decide) (by omega) v128 y127 l0 _ _ _ (fun _ => True) (fun _ => False) rfl rfl ?aO ?aR (fun _ _ h => h) (fun _ h => h.elim) ?aF ?aB ?aS ?aL ?_; (case aR => repeat (first | exact (Kd.C_below HR0.out HB.out) | (with_reducible refine Kd.C_alloc ?_ _) | (with_reducible refine Kd.C_drewN ?_ _) | (with_reducible refine Kd.C_drew ?_))); (case aB => exact (by repeat (first | (with_reducible first | exact HB.out | apply below_alloc | apply pw_below_drewN | apply below_drew1) | exact HB.out))); (case aF => exact (fun _ _ => trivial)); (case aO => exact (by (with_reducible repeat (first | apply Kd.R_alloc | apply Kd.R_drewN | apply Kd.R_drew)); exact HO129.out)); (case aS => exact (below_size (by repeat (first | (with_reducible first | exact HB.out | apply below_alloc | apply pw_below_drewN | apply below_drew1) | exact HB.out)))); (case aL => have := LMc5.out; omega); intro v131 w32 ho hb hg hat; rw [← Ny130.out] at ho; have n0_ := Aside0.mk (hb); have n1_ := Aside0.mk (ho); clear HB; clear HO129; have HB := n0_; have HO132 := n1_; clear n0_ n1_; clear ho hb hg hat) | ((with_reducible refine gate_builtin (b := .append) (xs := #[.tmp 13, .tmp 18]) rfl ?_); at_builtin; refine Kd.R_append k77 (w0 := w) w.heap.size rfl (.tmp 13) (.tmp 18) 25 77 (.agg #[(.int .i64 0), (.int .i64 0), (.int .i64 0)]) 24 rfl Try.underlying25 info77 rfl (by decide) (by omega) v131 y130 (⟨a1, a2, a3⟩ : S77) [.int .i64 a1, .int .i64 a2, .int .i64 a3] (fun _ => True) (fun _ => False) rfl rfl ?aP (fun _ hk => hk.elim) ?aF ?aO ?aB ?aS ?aL ?_; (case aP => exact k77_mkM _ _ _ (⟨a1, a2, a3⟩ : S77)); (case aB => exact (by repeat (first | (with_reducible first | exact HB.out | apply below_alloc | apply pw_below_drewN | apply below_drew1) | exact HB.out))); (case aF => exact (fun _ _ => trivial)); (case aO => exact (by (with_reducible repeat (first | apply Kd.R_alloc | apply Kd.R_drewN | apply Kd.R_drew)); exact HO132.out)); (case aS => exact (below_size (by repeat (first | (with_reducible first | exact HB.out | apply below_alloc | apply pw_below_drewN | apply below_drew1) | exact HB.out)))); (case aL => have := LMc6.out; omega); intro v134 w33 ho hb hg hat; rw [← Ny133.out] at ho; have n0_ := Aside0.mk (hb); have n1_ := Aside0.mk (ho); clear HB; clear HO132; have HB := n0_; have HO135 := n1_; clear n0_ n1_; clear ho hb hg hat) | ((with_reducible refine gate_callee (f := 112) rfl ?_); refine goesL_ (some 21) rfl rfl Try.func112 (by kernel_rfl) rfl #[.slice A0 l0.length c0] rfl (by (try simp only [List.map_toArray, List.map_cons, List.map_nil]); first | done | rfl | (simp only [List.length_drop, List.length_take]; rfl)) ?_; (with_reducible refine (spec_TreeOk.calls k _ _ l0 false _ ?side1 ?side2 A7.out).mono ?_); (case side1 => repeat (first | exact (Kd.C_below HR0.out HB.out) | (with_reducible refine Kd.C_alloc ?_ _) | (with_reducible refine Kd.C_drewN ?_ _) | (with_reducible refine Kd.C_drew ?_))); (case side2 => exact HC0.out); rintro e w34 ⟨rfl, hb⟩; refine ⟨_, rfl, ?_⟩; have n0_ := Aside0.mk (Kd.R_below (by (with_reducible repeat (first | apply Kd.R_alloc | apply Kd.R_drewN | apply Kd.R_drew)); exact HO135.out) hb); have n1_ := Aside0.mk (below_step (by repeat (first | (with_reducible first | exact HB.out | apply below_alloc | apply pw_below_drewN | apply below_drew1) | exact HB.out)) hb); clear HO135; clear HB; have HO135 := n0_; have HB := n1_; clear n0_ n1_; (try clear hb); (try clear hb2); (try clear hk); (try clear hi)) | ((with_reducible refine gate_dst (N := 28) rfl ?_); refine Kd.R_lit k77 _ 77 ?hg (N := 28) ?hd (xs := ([] : List (S77))) (inner := []) (ok := fun _ => True) (okp := fun _ => True) ?hr ?hp (fun _ hk => hk) trivial (Below.refl _ _) (Nat.le_refl _) (by simp) ?_; (case hd => rfl); (case hg => rfl); (case hr => first | (go_simp; done) | (go_simp; rfl)); (case hp => exact (Reps.none _ _)); intro v145 w35 ho36 hb hg_ hnew_; clear hg_ hnew_; (first | rw [← Ny144.out] at ho36 | (simp only [Int.reduceToNat] at ho36; rw [← Ny144.out] at ho36)); have n0_ := Aside0.mk (Kd.R_elder' (by (with_reducible repeat (first | apply Kd.R_alloc | apply Kd.R_drewN | apply Kd.R_drew)); exact HO135.out) (Kd.R_base ho36) hb); have n1_ := Aside0.mk (Kd.R_lower (Kd.R_new' ho36 (Kd.R_lt (by (with_reducible repeat (first | apply Kd.R_alloc | apply Kd.R_drewN | apply Kd.R_drew)); exact HO135.out))) (below_size (by repeat (first | (with_reducible first | exact HB.out | apply below_alloc | apply pw_below_drewN | apply below_drew1) | exact HB.out)))); have n2_ := Aside0.mk (below_step (by repeat (first | (with_reducible first | exact HB.out | apply below_alloc | apply pw_below_drewN | apply below_drew1) | exact HB.out)) hb); clear HO135; clear HB; have HO135 := n0_; have HO146 := n1_; have HB := n2_; clear n0_ n1_ n2_; clear hb ho36) | ((with_reducible refine gate_builtin (b := .append) (xs := #[.tmp 28, .tmp 29]) rfl ?_); at_builtin; refine Kd.R_append_rows k77 (w0 := w) w.heap.size rfl (.tmp 28) (.tmp 29) 25 77 (.agg #[(.int .i64 0), (.int .i64 0), (.int .i64 0)]) 24 rfl Try.underlying25 info77 rfl (by decide) (by omega) v145 y144 l0 _ _ _ (fun k_ => some k_ ≠ (v134 : Value).ownBlock) (fun _ => False) rfl rfl ?aO ?aR (fun _ _ h => h) (fun _ h => h.elim) ?aF ?aB ?aS ?aL ?_; (case aR => repeat (first | exact (Kd.C_below HR0.out HB.out) | (with_reducible refine Kd.C_alloc ?_ _) | (with_reducible refine Kd.C_drewN ?_ _) | (with_reducible refine Kd.C_drew ?_))); (case aB => exact (by repeat (first | (with_reducible first | exact HB.out | apply below_alloc | apply pw_below_drewN | apply below_drew1) | exact HB.out))); (case aF => exact (fun k_ hk => Kd.fresh' (Kd.R_lt (by (with_reducible repeat (first | apply Kd.R_alloc | apply Kd.R_drewN | apply Kd.R_drew)); exact HO135.out)) k_ hk)); (case aO => exact (by (with_reducible repeat (first | apply Kd.R_alloc | apply Kd.R_drewN | apply Kd.R_drew)); exact Kd.R_mono HO146.out (fun _ hk => hk.2))); (case aS => exact (below_size (by repeat (first | (with_reducible first | exact HB.out | apply below_alloc | apply pw_below_drewN | apply below_drew1) | exact HB.out)))); (case aL => have := LMc29.out; omega); intro v148 w37 ho hb hg hat; rw [← Ny147.out] at ho; have n0_ := Aside0.mk (Kd.R_after (ok := (fun _ => True)) (by (with_reducible repeat (first | apply Kd.R_alloc | apply Kd.R_drewN | apply Kd.R_drew)); exact HO135.out) hg hat); have n1_ := Aside0.mk (hb); have n2_ := Aside0.mk (ho); clear HO135; clear HB; clear HO146; have HO135 := n0_; have HB := n1_; have HO149 := n2_; clear n0_ n1_ n2_; clear ho hb hg hat))
          go_ret2
          exact ⟨_, by first | rfl | (simp [errW_none, errW_some] <;> rfl) | (simp [*, errW_none, errW_some] <;> rfl), by (with_reducible repeat (first | apply Kd.R_alloc | apply Kd.R_drewN | apply Kd.R_drew)); exact Kd.R_mono HO149.out (fun _ hk => trivial), by repeat (first | (with_reducible first | exact HB.out | apply below_alloc | apply pw_below_drewN | apply below_drew1) | exact HB.out)⟩
        · rw [if_neg c29] at H
          exact absurd H (by simp)
    · rw [if_neg c6] at H
      exact absurd H (by simp)
  · rw [if_neg c5] at H
    exact absurd H (by simp)

/-! ### impl_within: function 94 -/
def impl_within.f (a0 : Int) (a1 : Int) (a2 : Int) : Option (Bool) := if a0 ≥ a1 then (some (decide (a0 ≤ a2))) else (some false)
set_option maxHeartbeats 8000000 in
set_option maxRecDepth 100000 in
theorem impl_within.calls (a0 : Int) (a1 : Int) (a2 : Int) (r : Bool) (w : World) (h : impl_within.f a0 a1 a2 = some r) :
    Calls Try.prog 94 #[.int .i64 a0, .int .i64 a1, .int .i64 a2] w fun e w' => e = .returned (.bool r) ∧ Drawn0 w w' := by
  have H : (if a0 ≥ a1 then (some (decide (a0 ≤ a2))) else (some false)) = some r := h
  clear h
  by_cases c4 : a0 ≥ a1
  · rw [if_pos c4] at H
    have c4b0 : decide (a1 ≤ a0) = true := decide_eq_true c4
    clear c4
    obtain rfl := Option.some.inj H
    go_enter Try.func94, Try.ntmps94
    go_wp2
    go_ret
    exact ⟨by first | rfl | (simp; done) | (simp [*]; done), by repeat (first | exact Drawn0.refl _ | apply Drawn0.step)⟩
  · rw [if_neg c4] at H
    have c4b0 : decide (a1 ≤ a0) = false := decide_eq_false c4
    clear c4
    obtain rfl := Option.some.inj H
    go_enter Try.func94, Try.ntmps94
    go_wp2
    go_ret
    exact ⟨by first | rfl | (simp; done) | (simp [*]; done), by repeat (first | exact Drawn0.refl _ | apply Drawn0.step)⟩

-- NOT PRINTED: function 138 (slices_IndexFunc_impl_Node)

-- NOT PRINTED: function 117 (slices_ContainsFunc_impl_Node)

end Go.Proofs.Ytdolbkocghgibaa.PFnExactAddNode

/- The law FnExactSameTree over numbers and lists. No condition beyond the bounds of what a Go value may be. -/
import Derived.Test.YtdolbkocghgibaaEvl
import Derived.Test.YtdolbkocghgibaaHof
import Derived.Test.YtdolbkocghgibaaPFnExactSameTreex3
namespace Go.Proofs.Ytdolbkocghgibaa.Pure
open Go.RowKit Go.Proofs.Ytdolbkocghgibaa.PFnExactSameTree Go.Proofs.YtdolbkocghgibaaW.PrintWords Go.Proofs.YtdolbkocghgibaaW.PrintLast Go.Proofs.YtdolbkocghgibaaW.PrintMore Go.Proofs.Ytdolbkocghgibaa.Evl
set_option linter.unusedVariables false
set_option linter.unusedSimpArgs false

def wf92 (x : S92) : Prop := ((Lit.int .i64 x.f0).wf = true) ∧ ((Lit.int .i64 x.f1).wf = true) ∧ ((Lit.int .i64 x.f2).wf = true)

def toN (x : S92) : S77 := ⟨x.f0, x.f1, x.f2⟩
theorem toNodeS_l (l : List S92) (hl : l.length ≤ 11728124029610) (d : Nat) : ∀ (xs : List S77) (i : Nat), xs.length = l.length → l.length - i = d → i ≤ l.length → xs.take i = (l.take i).map toN →
    Ev (fun k => laws_toNodeS.l0 k l xs i) (l.map toN) := by
  induction d with
  | zero =>
    intro xs i hx hd hi ht
    refine Ev.step (f := fun _ => some (l.map toN)) (fun k => ?_) (Ev.now _)
    simp only [laws_toNodeS.l0]
    rw [if_neg (by omega)]
    rw [List.take_of_length_le (by omega), List.take_of_length_le (by omega)] at ht
    rw [ht]
  | succ d ih =>
    intro xs i hx hd hi ht
    refine Ev.step (f := fun k => laws_toNodeS.l0 k l (xs.set i (toN (l.getD i z92))) (i + 1 : Nat)) (fun k => ?_) (ih _ _ (by simpa using hx) (by omega) (by omega) (take_set_map toN l xs i z92 hx (by omega) ht))
    simp only [laws_toNodeS.l0, laws_toNode.f, Option.bind_some]
    rw [if_pos (by omega), if_pos (by omega), if_pos (by omega), wrap_id (x := (i : Int) + 1) (by omega) (by omega)]
    rfl
theorem toNodeS_ev (l : List S92) (hl : l.length ≤ 11728124029610) : Ev (fun k => laws_toNodeS.f k l) (l.map toN) := by
  refine Ev.congr (f := fun k => laws_toNodeS.l0 k l (List.replicate l.length z77) (0 : Nat)) (fun k => ?_) (toNodeS_l l hl l.length _ 0 (by simp) (by omega) (by omega) (by simp))
  simp only [laws_toNodeS.f]
  rw [if_pos (by omega), if_pos (by omega)]
  rfl
theorem eqNode_self (x : S77) : laws_eqNode.f x.f0 x.f1 x.f2 x.f0 x.f1 x.f2 = some true := by simp [laws_eqNode.f]
theorem eqNodeS_l (l : List S77) (hl : l.length ≤ 11728124029610) (d : Nat) : ∀ i : Nat, l.length - i = d → Ev (fun k => laws_eqNodeS.l0 k l l i) true := by
  induction d with
  | zero =>
    intro i hd
    refine Ev.step (f := fun _ => some true) (fun k => ?_) (Ev.now _)
    simp only [laws_eqNodeS.l0]
    rw [if_neg (by omega)]
  | succ d ih =>
    intro i hd
    refine Ev.step (f := fun k => laws_eqNodeS.l0 k l l (i + 1 : Nat)) (fun k => ?_) (ih _ (by omega))
    simp only [laws_eqNodeS.l0, eqNode_self, Option.bind_some]
    rw [if_pos (by omega), if_pos (by omega), if_pos (by omega), if_pos trivial, wrap_id (x := (i : Int) + 1) (by omega) (by omega)]
    rfl
theorem eqNodeS_ev (l : List S77) (hl : l.length ≤ 11728124029610) : Ev (fun k => laws_eqNodeS.f k l l) true := by
  simp only [laws_eqNodeS.f]
  exact ev_pos trivial (eqNodeS_l l hl l.length 0 (by omega))
theorem sz_node (l : List S92) (hl : l.length ≤ 11728124029610) (m : Int) (h0 : 0 ≤ m) (h1 : m ≤ 1048576) : laws_szNodeS.f l m = some (if (l.length : Int) ≤ m then m - (l.length : Int) else -1) := by
  simp only [laws_szNodeS.f]
  rw [wrap_id (by omega) (by omega)]
  by_cases h : (l.length : Int) ≤ m
  · rw [if_neg (by omega), if_pos h]
  · rw [if_pos (by omega), if_neg h]
theorem rdN (l : List S77) (i : Nat) : rd_T77 l (i : Int) = l.getD i z77 := rfl
def differ (a b : S77) : Bool := (!((a.f0) == (b.f0)) || (!((a.f1) == (b.f1)) || (!((a.f2) == (b.f2)))))
def sameFrom (x y : List S77) : Nat → Nat → Bool
  | 0, _ => true
  | d + 1, i => if differ (x.getD i z77) (y.getD i z77) = true then false else sameFrom x y d (i + 1)
theorem same_s (x y : List S77) (hxy : x.length = y.length) (hl : x.length ≤ 11728124029610) (d : Nat) : ∀ i : Nat, x.length - i = d → Ev (fun n => spec_SameTree.l0 n x y i) (sameFrom x y d i) := by
  induction d with
  | zero =>
    intro i hd
    refine Ev.step (f := fun _ => some true) (fun n => ?_) (Ev.now _)
    simp only [spec_SameTree.l0]
    rw [if_neg (by omega)]
  | succ d ih =>
    intro i hd
    refine Ev.step (f := fun n => if differ (x.getD i z77) (y.getD i z77) = true then some false else spec_SameTree.l0 n x y ((i + 1 : Nat) : Int)) (fun n => ?_) (ev_ite (fun _ => Ev.now _) (fun _ => ih (i + 1) (by omega)))
    simp only [spec_SameTree.l0]
    rw [if_pos (by omega), if_pos (by omega), if_pos (by omega), rdN, rdN, wrap_id (x := (i : Int) + 1) (by omega) (by omega)]
    rfl
theorem same_i (x y : List S77) (hxy : x.length = y.length) (hl : x.length ≤ 11728124029610) (d : Nat) : ∀ i : Nat, x.length - i = d → Ev (fun n => slices_Equal_impl_Node.l0 n x y (x.length : Int) i) (sameFrom x y d i) := by
  induction d with
  | zero =>
    intro i hd
    refine Ev.step (f := fun _ => some true) (fun n => ?_) (Ev.now _)
    simp only [slices_Equal_impl_Node.l0]
    rw [if_neg (by omega)]
  | succ d ih =>
    intro i hd
    refine Ev.step (f := fun n => if differ (x.getD i z77) (y.getD i z77) = true then some false else slices_Equal_impl_Node.l0 n x y (x.length : Int) ((i + 1 : Nat) : Int)) (fun n => ?_) (ev_ite (fun _ => Ev.now _) (fun _ => ih (i + 1) (by omega)))
    simp only [slices_Equal_impl_Node.l0]
    rw [if_pos (by omega), if_pos (by omega), if_pos (by omega), if_pos (by omega), rdN, rdN, wrap_id (x := (i : Int) + 1) (by omega) (by omega)]
    rfl
theorem FnExactSameTree : ∀ (x0 : List (S92)) (x1 : List (S92)), (x0.length * 24 ≤ 140737488351232 ∧ x0.length ≤ maxLen ∧ ∀ y ∈ x0, wf92 y) → (x1.length * 24 ≤ 140737488351232 ∧ x1.length ≤ maxLen ∧ ∀ y ∈ x1, wf92 y) → ∃ k, laws_FnExactSameTree.f k x0 x1 = some true := by
  rintro l m ⟨h1, h2, _⟩ ⟨h3, h4, _⟩
  have hl : l.length ≤ 11728124029610 := by omega
  have hm : m.length ≤ 11728124029610 := by omega
  refine Ev.rounds (g := fun n => laws_FnExactSameTree.f n l m) ?_
  simp only [laws_FnExactSameTree.f, sz_node l hl 1048576 (by omega) (by omega), Option.bind_some]
  by_cases h : (l.length : Int) ≤ 1048576
  case neg => rw [if_neg h]; exact ev_pos (by omega) (Ev.now _)
  rw [if_pos h]
  refine ev_neg (by omega) ?_
  rw [sz_node m hm _ (by omega) (by omega)]
  simp only [Option.bind_some]
  by_cases h' : (m.length : Int) ≤ 1048576 - (l.length : Int)
  case neg => rw [if_neg h']; exact ev_pos (by omega) (Ev.now _)
  rw [if_pos h']
  refine ev_neg (by omega) ?_
  have hT := toNodeS_ev l hl
  have hU := toNodeS_ev m hm
  have hE := eqNodeS_ev (l.map toN) (by simpa using hl)
  have hF := eqNodeS_ev (m.map toN) (by simpa using hm)
  have key : ∃ b, Ev (fun n => spec_SameTree.f n (l.map toN) (m.map toN)) b ∧ Ev (fun n => impl_SameTree.f n (l.map toN) (m.map toN)) b := by
    by_cases e : (l.map toN).length = (m.map toN).length
    · refine ⟨sameFrom (l.map toN) (m.map toN) (l.map toN).length 0, ?_, ?_⟩
      · simp only [spec_SameTree.f]
        exact ev_pos (by omega) (same_s _ _ e (by simpa using hl) _ 0 rfl)
      · simp only [impl_SameTree.f, slices_Equal_impl_Node.f]
        exact ev_map (ev_pos (by omega) (same_i _ _ e (by simpa using hl) _ 0 rfl)) rfl
    · refine ⟨false, ?_, ?_⟩
      · simp only [spec_SameTree.f]
        exact ev_neg (by omega) (Ev.now _)
      · simp only [impl_SameTree.f, slices_Equal_impl_Node.f]
        exact ev_map (ev_neg (by omega) (Ev.now _)) rfl
  obtain ⟨b, hS, hI⟩ := key
  exact Ev.bind hT (Ev.bind hU (Ev.bind hS (Ev.bind hT (Ev.bind hU (Ev.bind hI (ev_neg (by simp) (Ev.bind hT (Ev.bind hE (ev_pos rfl (Ev.bind hU (Ev.bind hF (ev_pos rfl (Ev.now _)))))))))))))

end Go.Proofs.Ytdolbkocghgibaa.Pure

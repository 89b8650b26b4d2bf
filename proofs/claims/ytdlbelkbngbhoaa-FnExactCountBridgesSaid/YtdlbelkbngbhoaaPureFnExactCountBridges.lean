/- The law FnExactCountBridges over numbers and lists. No condition beyond the bounds of what a Go value may be. -/
import Derived.Test.YtdlbelkbngbhoaaEvl
import Derived.Test.YtdlbelkbngbhoaaPFnExactCountBridgesx2
namespace Go.Proofs.Ytdlbelkbngbhoaa.Pure
open Go.RowKit Go.Proofs.Ytdlbelkbngbhoaa.PFnExactCountBridges Go.Proofs.YtdlbelkbngbhoaaW.PrintWords Go.Proofs.YtdlbelkbngbhoaaW.PrintLast Go.Proofs.Ytdlbelkbngbhoaa.Evl
set_option linter.unusedVariables false

def wf49 (x : S49) : Prop := ((Lit.int .i64 x.f0).wf = true) ∧ ((Lit.int .i64 x.f1).wf = true) ∧ ((Lit.int .i64 x.f2).wf = true)

def toN (x : S49) : S47 := ⟨x.f0, x.f1, x.f2⟩
theorem toNodeS_l (l : List S49) (hl : l.length ≤ 11728124029610) (d : Nat) : ∀ (xs : List S47) (i : Nat), xs.length = l.length → l.length - i = d → i ≤ l.length → xs.take i = (l.take i).map toN →
    Ev (fun k => laws_toNodeS.l0 k l xs i) (l.map toN) := by
  induction d with
  | zero =>
    intro xs i hx hd hi ht
    refine Ev.step (f := fun _ => some (l.map toN)) (fun k => ?_) (Ev.now _)
    simp only [laws_toNodeS.l0]
    rw [if_neg (by omega)]
    rw [List.take_of_length_le (by omega), List.take_of_length_le (by omega)] at ht
    rw [ht]
  | succ d ih =>
    intro xs i hx hd hi ht
    refine Ev.step (f := fun k => laws_toNodeS.l0 k l (xs.set i (toN (l.getD i z49))) (i + 1 : Nat)) (fun k => ?_) (ih _ _ (by simpa using hx) (by omega) (by omega) (take_set_map toN l xs i z49 hx (by omega) ht))
    simp only [laws_toNodeS.l0, laws_toNode.f, Option.bind_some]
    rw [if_pos (by omega), if_pos (by omega), if_pos (by omega), wrap_id (x := (i : Int) + 1) (by omega) (by omega)]
    rfl
theorem toNodeS_ev (l : List S49) (hl : l.length ≤ 11728124029610) : Ev (fun k => laws_toNodeS.f k l) (l.map toN) := by
  refine Ev.congr (f := fun k => laws_toNodeS.l0 k l (List.replicate l.length z47) (0 : Nat)) (fun k => ?_) (toNodeS_l l hl l.length _ 0 (by simp) (by omega) (by omega) (by simp))
  simp only [laws_toNodeS.f]
  rw [if_pos (by omega), if_pos (by omega)]
  rfl
theorem eqNode_self (x : S47) : laws_eqNode.f x.f0 x.f1 x.f2 x.f0 x.f1 x.f2 = some true := by simp [laws_eqNode.f]
theorem eqNodeS_l (l : List S47) (hl : l.length ≤ 11728124029610) (d : Nat) : ∀ i : Nat, l.length - i = d → Ev (fun k => laws_eqNodeS.l0 k l l i) true := by
  induction d with
  | zero =>
    intro i hd
    refine Ev.step (f := fun _ => some true) (fun k => ?_) (Ev.now _)
    simp only [laws_eqNodeS.l0]
    rw [if_neg (by omega)]
  | succ d ih =>
    intro i hd
    refine Ev.step (f := fun k => laws_eqNodeS.l0 k l l (i + 1 : Nat)) (fun k => ?_) (ih _ (by omega))
    simp only [laws_eqNodeS.l0, eqNode_self, Option.bind_some]
    rw [if_pos (by omega), if_pos (by omega), if_pos (by omega), if_pos trivial, wrap_id (x := (i : Int) + 1) (by omega) (by omega)]
    rfl
theorem eqNodeS_ev (l : List S47) (hl : l.length ≤ 11728124029610) : Ev (fun k => laws_eqNodeS.f k l l) true := by
  simp only [laws_eqNodeS.f]
  exact ev_pos trivial (eqNodeS_l l hl l.length 0 (by omega))
theorem sz_node (l : List S49) (hl : l.length ≤ 11728124029610) : laws_szNodeS.f l 1048576 = some (if (l.length : Int) ≤ 1048576 then 1048576 - (l.length : Int) else -1) := by
  simp only [laws_szNodeS.f]
  rw [wrap_id (by omega) (by omega)]
  by_cases h : (l.length : Int) ≤ 1048576
  · rw [if_neg (by omega), if_pos h]
  · rw [if_pos (by omega), if_neg h]
theorem rdN (l : List S47) (i : Nat) : rd_T47 l (i : Int) = l.getD i z47 := rfl
def bridges (l : List S47) : Nat := (l.filter fun x => decide (x.f2 = 0)).length
theorem bridges_le (l : List S47) : bridges l ≤ l.length := List.length_filter_le _ _
theorem bridges_step (l : List S47) (i : Nat) (hi : i < l.length) : bridges (l.take (i + 1)) = bridges (l.take i) + if (l.getD i z47).f2 = 0 then 1 else 0 := by
  rw [List.take_succ_eq_append_getElem hi]
  simp only [bridges, List.filter_append, List.length_append]
  congr 1
  simp only [List.getD_eq_getElem?_getD, List.getElem?_eq_getElem hi, Option.getD_some]
  by_cases h : l[i].f2 = 0 <;> simp [h]
theorem count_s (l : List S47) (hl : l.length ≤ 11728124029610) (d : Nat) : ∀ i : Nat, i ≤ l.length → l.length - i = d → Ev (fun k => spec_CountBridges.l0 k l (bridges (l.take i)) i) (bridges l) := by
  induction d with
  | zero =>
    intro i hi hd
    refine Ev.step (f := fun _ => some (bridges l : Int)) (fun k => ?_) (Ev.now _)
    simp only [spec_CountBridges.l0]
    rw [if_neg (by omega), List.take_of_length_le (by omega)]
  | succ d ih =>
    intro i hi hd
    have hle := bridges_le (l.take i)
    have hlt : (l.take i).length ≤ i := List.length_take_le _ _
    have hst := bridges_step l i (by omega)
    refine Ev.step (f := fun k => spec_CountBridges.l0 k l (bridges (l.take (i + 1))) (i + 1 : Nat)) (fun k => ?_) (ih _ (by omega) (by omega))
    simp only [spec_CountBridges.l0]
    rw [if_pos (by omega), if_pos (by omega), wrap_id (x := (i : Int) + 1) (by omega) (by omega), wrap_id (by omega) (by omega), hst]
    rw [rdN]
    by_cases h : (l.getD i z47).f2 = 0
    · rw [if_pos h, if_pos h]; rfl
    · rw [if_neg h, if_neg h]; rfl
theorem count_i (l : List S47) (hl : l.length ≤ 11728124029610) (d : Nat) : ∀ i : Nat, i ≤ l.length → l.length - i = d → Ev (fun k => impl_CountBridges.l0 k (bridges (l.take i)) l (l.length : Int) i) (bridges l) := by
  induction d with
  | zero =>
    intro i hi hd
    refine Ev.step (f := fun _ => some (bridges l : Int)) (fun k => ?_) (Ev.now _)
    simp only [impl_CountBridges.l0]
    rw [if_neg (by omega), List.take_of_length_le (by omega)]
  | succ d ih =>
    intro i hi hd
    have hle := bridges_le (l.take i)
    have hlt : (l.take i).length ≤ i := List.length_take_le _ _
    have hst := bridges_step l i (by omega)
    refine Ev.step (f := fun k => impl_CountBridges.l0 k (bridges (l.take (i + 1))) l (l.length : Int) (i + 1 : Nat)) (fun k => ?_) (ih _ (by omega) (by omega))
    simp only [impl_CountBridges.l0]
    rw [if_pos (by omega), if_pos (by omega), if_pos (by omega), wrap_id (x := (i : Int) + 1) (by omega) (by omega), wrap_id (by omega) (by omega), hst]
    rw [rdN]
    by_cases h : (l.getD i z47).f2 = 0
    · rw [if_pos h, if_pos h]; rfl
    · rw [if_neg h, if_neg h]; rfl
theorem FnExactCountBridges : ∀ (x0 : List (S49)), (x0.length * 24 ≤ 140737488351232 ∧ x0.length ≤ maxLen ∧ ∀ y ∈ x0, wf49 y) → ∃ k, laws_FnExactCountBridges.f k x0 = some true := by
  rintro l ⟨h1, h2, _⟩
  have hl : l.length ≤ 11728124029610 := by omega
  refine Ev.rounds (g := fun n => laws_FnExactCountBridges.f n l) ?_
  simp only [laws_FnExactCountBridges.f, sz_node l hl, Option.bind_some]
  by_cases h : (l.length : Int) ≤ 1048576
  · rw [if_pos h]
    refine ev_neg (by omega) ?_
    refine Ev.bind (toNodeS_ev l hl) ?_
    have hm : (l.map toN).length ≤ 11728124029610 := by simpa using hl
    refine Ev.bind (a := (bridges (l.map toN) : Int)) (count_s _ hm _ 0 (by omega) rfl) ?_
    refine Ev.bind (toNodeS_ev l hl) ?_
    refine Ev.bind (a := (bridges (l.map toN) : Int)) (count_i _ hm _ 0 (by omega) rfl) ?_
    refine ev_pos rfl (Ev.bind (toNodeS_ev l hl) (Ev.bind (eqNodeS_ev _ hm) (ev_pos rfl (Ev.now _))))
  · rw [if_neg h]
    exact ev_pos (by omega) (Ev.now _)

end Go.Proofs.Ytdlbelkbngbhoaa.Pure

/- The law FnExactGrantsOk over numbers and lists. No condition beyond the bounds of what a Go value may be. -/
import Derived.Test.YtdolbkocghgibaaEvl
import Derived.Test.YtdolbkocghgibaaHof
import Derived.Test.YtdolbkocghgibaaPFnExactGrantsOkx2
namespace Go.Proofs.Ytdolbkocghgibaa.Pure
open Go.RowKit Go.Proofs.Ytdolbkocghgibaa.PFnExactGrantsOk Go.Proofs.YtdolbkocghgibaaW.PrintWords Go.Proofs.YtdolbkocghgibaaW.PrintLast Go.Proofs.YtdolbkocghgibaaW.PrintMore Go.Proofs.Ytdolbkocghgibaa.Evl
set_option linter.unusedVariables false
set_option linter.unusedSimpArgs false

def wf99 (x : S99) : Prop := ((Lit.int .i64 x.f0).wf = true) ∧ ((Lit.int .i64 x.f1).wf = true) ∧ ((Lit.int .i64 x.f2).wf = true) ∧ (True)

theorem some_beq (b : Bool) : ((some b : Option Bool) == some true) = b := by cases b <;> rfl
theorem anyO_tot {α : Type} (p : α → Bool) (l : List α) : anyO (fun x => some (p x)) l = some (l.any p) := by
  unfold anyO
  rw [if_pos (by simp)]
  simp only [some_beq]
theorem idxO_tot {α : Type} (p : α → Bool) (l : List α) : idxO (fun x => some (p x)) l = some (optAt (l.findIdx? p)) := by
  unfold idxO
  rw [if_pos (by simp)]
  simp only [some_beq]
theorem in_s (a b c : Int) : spec_l01In.f a b c = some (decide (b ≤ a ∧ a ≤ c)) := by
  unfold spec_l01In.f
  by_cases h : a ≥ b
  · rw [if_pos h]; simp [h]
  · rw [if_neg h]; simp [h]
theorem in_i (a b c : Int) : impl_within.f a b c = some (decide (b ≤ a ∧ a ≤ c)) := by
  unfold impl_within.f
  by_cases h : a ≥ b
  · rw [if_pos h]; simp [h]
  · rw [if_neg h]; simp [h]
def toG (x : S99) : S95 := ⟨x.f0, x.f1, x.f2, x.f3⟩
theorem toGS_l (l : List S99) (hl : l.length ≤ 8796093022208) (d : Nat) : ∀ (xs : List S95) (i : Nat), xs.length = l.length → l.length - i = d → i ≤ l.length → xs.take i = (l.take i).map toG →
    Ev (fun k => laws_toPageGrantS.l0 k l xs i) (l.map toG) := by
  induction d with
  | zero =>
    intro xs i hx hd hi ht
    refine Ev.step (f := fun _ => some (l.map toG)) (fun k => ?_) (Ev.now _)
    simp only [laws_toPageGrantS.l0]
    rw [if_neg (by omega)]
    rw [List.take_of_length_le (by omega), List.take_of_length_le (by omega)] at ht
    rw [ht]
  | succ d ih =>
    intro xs i hx hd hi ht
    refine Ev.step (f := fun k => laws_toPageGrantS.l0 k l (xs.set i (toG (l.getD i z99))) (i + 1 : Nat)) (fun k => ?_) (ih _ _ (by simpa using hx) (by omega) (by omega) (take_set_map toG l xs i z99 hx (by omega) ht))
    simp only [laws_toPageGrantS.l0, laws_toPageGrant.f, Option.bind_some]
    rw [if_pos (by omega), if_pos (by omega), if_pos (by omega), wrap_id (x := (i : Int) + 1) (by omega) (by omega)]
    rfl
theorem toGS_ev (l : List S99) (hl : l.length ≤ 8796093022208) : Ev (fun k => laws_toPageGrantS.f k l) (l.map toG) := by
  refine Ev.congr (f := fun k => laws_toPageGrantS.l0 k l (List.replicate l.length z95) (0 : Nat)) (fun k => ?_) (toGS_l l hl l.length _ 0 (by simp) (by omega) (by omega) (by simp))
  simp only [laws_toPageGrantS.f]
  rw [if_pos (by omega), if_pos (by omega)]
  rfl
theorem eqG_self (x : S95) : laws_eqPageGrant.f x.f0 x.f1 x.f2 x.f3 x.f0 x.f1 x.f2 x.f3 = some true := by simp [laws_eqPageGrant.f]
theorem eqGS_l (l : List S95) (hl : l.length ≤ 8796093022208) (d : Nat) : ∀ i : Nat, l.length - i = d → Ev (fun k => laws_eqPageGrantS.l0 k l l i) true := by
  induction d with
  | zero =>
    intro i hd
    refine Ev.step (f := fun _ => some true) (fun k => ?_) (Ev.now _)
    simp only [laws_eqPageGrantS.l0]
    rw [if_neg (by omega)]
  | succ d ih =>
    intro i hd
    refine Ev.step (f := fun k => laws_eqPageGrantS.l0 k l l (i + 1 : Nat)) (fun k => ?_) (ih _ (by omega))
    simp only [laws_eqPageGrantS.l0, eqG_self, Option.bind_some]
    rw [if_pos (by omega), if_pos (by omega), if_pos (by omega), if_pos trivial, wrap_id (x := (i : Int) + 1) (by omega) (by omega)]
    rfl
theorem eqGS_ev (l : List S95) (hl : l.length ≤ 8796093022208) : Ev (fun k => laws_eqPageGrantS.f k l l) true := by
  simp only [laws_eqPageGrantS.f]
  exact ev_pos trivial (eqGS_l l hl l.length 0 (by omega))
/-- The k-th grant, what makes it valid on its own, and what makes it a second of its page. -/
def ng (t : List S95) (k : Nat) : S95 := t.getD k z95
theorem rd_ng (t : List S95) (k : Nat) : rd_T95 t (k : Int) = ng t k := rfl
def byte (a : Int) : Bool := decide (0 ≤ a ∧ a ≤ 255)
def gOk (x : S95) : Bool := byte x.f0 && (byte x.f1 && byte x.f2)
def gTwin (a b : S95) : Bool := decide (a.f0 = b.f0 ∧ a.f1 = b.f1)
def gBad (t : List S95) (k : Nat) : Bool := !gOk (ng t k) || (t.take k).any fun x => gTwin x (ng t k)
def gFrom (t : List S95) : Nat → Nat → Bool
  | 0, _ => decide ((t.length : Int) ≤ 40)
  | d + 1, k => if gBad t k = true then false else gFrom t d (k + 1)
theorem isid_s (a : Int) : spec_IsId.f a = some (byte a) := by simp only [spec_IsId.f, in_s, Option.bind_some]; rfl
theorem isid_i (a : Int) : impl_IsId.f a = some (byte a) := by simp only [impl_IsId.f, in_i, Option.bind_some]; rfl
theorem take_succ_any (t : List S95) (p : S95 → Bool) (k : Nat) (hk : k < t.length) : (t.take (k + 1)).any p = ((t.take k).any p || p (ng t k)) := by
  rw [List.take_succ_eq_append_getElem hk, List.any_append]
  simp [ng, List.getD, List.getElem?_eq_getElem hk]
theorem any_drop (t : List S95) (p : S95 → Bool) (i k : Nat) (hik : i < k) (hk : k ≤ t.length) : ((t.take k).drop i).any p = (p (ng t i) || ((t.take k).drop (i + 1)).any p) := by
  have h : i < (t.take k).length := by simp; omega
  rw [List.drop_eq_getElem_cons h, List.any_cons]
  congr 2
  simp [ng, List.getD, List.getElem?_eq_getElem (show i < t.length by omega)]
theorem grants_s1 (t : List S95) (hl : t.length ≤ 8796093022208) (k : Nat) (hk : k < t.length) (r : Bool) (hr : Ev (fun n => spec_GrantsOk.l0 n t ((k + 1 : Nat) : Int)) r) (m : Nat) : ∀ i : Nat, k - i = m → i ≤ k → Ev (fun n => spec_GrantsOk.l1 n t k i (ng t k).f0 (ng t k).f1 (ng t k).f2 (ng t k).f3) (if (((t.take k).drop i).any fun x => gTwin x (ng t k)) = true then false else r) := by
  induction m with
  | zero =>
    intro i hm hi
    have e : i = k := by omega
    subst e
    rw [if_neg (by simp)]
    refine Ev.step (f := fun n => spec_GrantsOk.l0 n t ((i + 1 : Nat) : Int)) (fun n => ?_) hr
    simp only [spec_GrantsOk.l1]
    rw [if_neg (by omega), wrap_id (x := (i : Int) + 1) (by omega) (by omega)]
    rfl
  | succ m ih =>
    intro i hm hi
    have hn := ih (i + 1) (by omega) (by omega)
    rw [any_drop t _ i k (by omega) (by omega)]
    refine Ev.step (f := fun n => if (ng t i).f0 = (ng t k).f0 then (if (ng t i).f1 = (ng t k).f1 then some false else spec_GrantsOk.l1 n t k ((i + 1 : Nat) : Int) (ng t k).f0 (ng t k).f1 (ng t k).f2 (ng t k).f3) else spec_GrantsOk.l1 n t k ((i + 1 : Nat) : Int) (ng t k).f0 (ng t k).f1 (ng t k).f2 (ng t k).f3) (fun n => ?_) ?_
    · simp only [spec_GrantsOk.l1]
      rw [if_pos (by omega), if_pos (by omega), if_pos (by omega), rd_ng, wrap_id (x := (i : Int) + 1) (by omega) (by omega)]
      rfl
    · by_cases h1 : (ng t i).f0 = (ng t k).f0
      · refine ev_pos h1 ?_
        by_cases h2 : (ng t i).f1 = (ng t k).f1
        · refine ev_pos h2 ?_
          rw [show gTwin (ng t i) (ng t k) = true from decide_eq_true ⟨h1, h2⟩, Bool.true_or, if_pos rfl]
          exact Ev.now _
        · refine ev_neg h2 ?_
          rw [show gTwin (ng t i) (ng t k) = false from decide_eq_false (fun h => h2 h.2), Bool.false_or]
          exact hn
      · refine ev_neg h1 ?_
        rw [show gTwin (ng t i) (ng t k) = false from decide_eq_false (fun h => h1 h.1), Bool.false_or]
        exact hn
theorem grants_s0 (t : List S95) (hl : t.length ≤ 8796093022208) (d : Nat) : ∀ k : Nat, t.length - k = d → Ev (fun n => spec_GrantsOk.l0 n t k) (gFrom t d k) := by
  induction d with
  | zero =>
    intro k hd
    refine Ev.step (f := fun _ => some (decide ((t.length : Int) ≤ 40))) (fun n => ?_) (Ev.now _)
    simp only [spec_GrantsOk.l0]
    rw [if_neg (by omega)]
  | succ d ih =>
    intro k hd
    have hn := ih (k + 1) (by omega)
    have h1 := grants_s1 t hl k (by omega) _ hn k 0 rfl (Nat.zero_le _)
    have hj : ∀ b : Bool, Ev (fun n => spec_GrantsOk.j1 n t k b (ng t k).f0 (ng t k).f1 (ng t k).f2 (ng t k).f3) (if b = true then false else if ((t.take k).any fun x => gTwin x (ng t k)) = true then false else gFrom t d (k + 1)) := by
      intro b
      refine Ev.step (f := fun n => if b = true then some false else spec_GrantsOk.l1 n t k 0 (ng t k).f0 (ng t k).f1 (ng t k).f2 (ng t k).f3) (fun n => ?_) (ev_ite (fun _ => Ev.now _) (fun _ => h1))
      simp only [spec_GrantsOk.j1]
    refine Ev.step (f := fun n => spec_GrantsOk.j1 n t k (!gOk (ng t k)) (ng t k).f0 (ng t k).f1 (ng t k).f2 (ng t k).f3) (fun n => ?_) ?_
    · simp only [spec_GrantsOk.l0]
      rw [if_pos (by omega), if_pos (by omega), rd_ng]
      simp only [isid_s, in_s, Option.bind_some]
      cases e0 : byte (ng t k).f0
      · rw [if_neg (by simp)]; simp only [gOk, e0, Bool.false_and, Bool.not_false]
      · rw [if_pos rfl]
        cases e1 : byte (ng t k).f1
        · rw [if_neg (by unfold byte at e1; rw [e1]; simp)]; simp only [gOk, e0, e1, Bool.false_and, Bool.and_false, Bool.not_false]
        · rw [if_pos (by unfold byte at e1; exact e1)]; simp only [gOk, e0, e1, Bool.true_and]; rfl
    · have := hj (!gOk (ng t k))
      have e : (if (!gOk (ng t k)) = true then false else if ((t.take k).any fun x => gTwin x (ng t k)) = true then false else gFrom t d (k + 1)) = gFrom t (d + 1) k := by
        have hb : ∀ (a b : Bool) (x : Bool), (if (!a) = true then false else if b = true then false else x) = (if (!a || b) = true then false else x) := by intro a b x; cases a <;> cases b <;> rfl
        exact hb _ _ _
      rw [e] at this
      exact this
theorem grants_i (t : List S95) (hl : t.length ≤ 8796093022208) (d : Nat) : ∀ k : Nat, t.length - k = d → Ev (fun n => impl_GrantsOk.l0 n t t (t.length : Int) k) (gFrom t d k) := by
  induction d with
  | zero =>
    intro k hd
    refine Ev.step (f := fun _ => some (decide ((t.length : Int) ≤ 40))) (fun n => ?_) (Ev.now _)
    simp only [impl_GrantsOk.l0]
    rw [if_neg (by omega)]
  | succ d ih =>
    intro k hd
    have hn := ih (k + 1) (by omega)
    refine Ev.step (f := fun n => if gBad t k = true then some false else impl_GrantsOk.l0 n t t (t.length : Int) ((k + 1 : Nat) : Int)) (fun n => ?_) (ev_ite (fun _ => Ev.now _) (fun _ => hn))
    simp only [impl_GrantsOk.l0]
    rw [if_pos (by omega), if_pos (by omega), if_pos (by omega), rd_ng, wrap_id (x := (k : Int) + 1) (by omega) (by omega)]
    simp only [isid_i, in_i, Option.bind_some]
    have hc : slices_ContainsFunc__impl_GrantsOk_1.f (t.take k) (ng t k).f0 (ng t k).f1 (ng t k).f2 (ng t k).f3 = some ((t.take k).any fun x => gTwin x (ng t k)) := by
      show anyO (fun x : S95 => some (gTwin x (ng t k))) (t.take k) = _
      rw [anyO_tot]
    cases e0 : byte (ng t k).f0
    · rw [if_neg (by simp), if_pos (by simp [gBad, gOk, e0])]
    · rw [if_pos rfl]
      cases e1 : byte (ng t k).f1
      · rw [if_neg (by unfold byte at e1; rw [e1]; simp), if_pos (by simp [gBad, gOk, e1])]
      · rw [if_pos (by unfold byte at e1; exact e1)]
        cases e2 : byte (ng t k).f2
        · rw [if_neg (by unfold byte at e2; rw [e2]; simp), if_pos (by simp [gBad, gOk, e2])]
        · rw [if_pos (by unfold byte at e2; exact e2), if_pos (by omega), show ((k : Int)).toNat = k from rfl, hc]
          simp only [Option.bind_some, gBad, gOk, e0, e1, e2, Bool.and_self, Bool.not_true, Bool.false_or]
          rfl
theorem FnExactGrantsOk : ∀ (x0 : List (S99)), (x0.length * 32 ≤ 140737488351232 ∧ x0.length ≤ maxLen ∧ ∀ y ∈ x0, wf99 y) → ∃ k, laws_FnExactGrantsOk.f k x0 = some true := by
  rintro l ⟨h1, h2, _⟩
  have hl : l.length ≤ 8796093022208 := by omega
  refine Ev.rounds (g := fun n => laws_FnExactGrantsOk.f n l) ?_
  simp only [laws_FnExactGrantsOk.f, laws_szPageGrantS.f, wrap_id (x := 1048576 - (l.length : Int)) (by omega) (by omega)]
  by_cases h : 1048576 - (l.length : Int) < 0
  · simp only [if_pos h, Option.bind_some]
    exact ev_pos (by omega) (Ev.now _)
  · simp only [if_neg h, Option.bind_some]
    have ht : (l.map toG).length ≤ 8796093022208 := by simpa using hl
    have hT := toGS_ev l hl
    have hS : Ev (fun n => spec_GrantsOk.f n (l.map toG)) (gFrom (l.map toG) (l.map toG).length 0) := grants_s0 _ ht _ 0 rfl
    have hI : Ev (fun n => impl_GrantsOk.f n (l.map toG)) (gFrom (l.map toG) (l.map toG).length 0) := grants_i _ ht _ 0 rfl
    exact Ev.bind hT (Ev.bind hS (Ev.bind hT (Ev.bind hI (ev_neg (by simp) (Ev.bind hT (Ev.bind (eqGS_ev _ ht) (ev_pos rfl (Ev.now _))))))))

end Go.Proofs.Ytdolbkocghgibaa.Pure

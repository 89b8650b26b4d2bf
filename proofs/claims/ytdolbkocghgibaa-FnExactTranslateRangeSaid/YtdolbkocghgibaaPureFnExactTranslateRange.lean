/- The law FnExactTranslateRange over numbers and lists. No condition beyond the bounds of what a Go value may be. -/
import Derived.Test.YtdolbkocghgibaaEvl
import Derived.Test.YtdolbkocghgibaaHof
import Derived.Test.YtdolbkocghgibaaPFnExactTranslateRangex6
namespace Go.Proofs.Ytdolbkocghgibaa.Pure
open Go.RowKit Go.Proofs.Ytdolbkocghgibaa.PFnExactTranslateRange Go.Proofs.YtdolbkocghgibaaW.PrintWords Go.Proofs.YtdolbkocghgibaaW.PrintLast Go.Proofs.YtdolbkocghgibaaW.PrintMore Go.Proofs.Ytdolbkocghgibaa.Evl
set_option linter.unusedVariables false
set_option linter.unusedSimpArgs false

def wf99 (x : S99) : Prop := ((Lit.int .i64 x.f0).wf = true) ∧ ((Lit.int .i64 x.f1).wf = true) ∧ ((Lit.int .i64 x.f2).wf = true) ∧ (True)

theorem some_beq (b : Bool) : ((some b : Option Bool) == some true) = b := by cases b <;> rfl
theorem anyO_tot {α : Type} (p : α → Bool) (l : List α) : anyO (fun x => some (p x)) l = some (l.any p) := by
  unfold anyO
  rw [if_pos (by simp)]
  simp only [some_beq]
theorem idxO_tot {α : Type} (p : α → Bool) (l : List α) : idxO (fun x => some (p x)) l = some (optAt (l.findIdx? p)) := by
  unfold idxO
  rw [if_pos (by simp)]
  simp only [some_beq]
theorem in_s (a b c : Int) : spec_l01In.f a b c = some (decide (b ≤ a ∧ a ≤ c)) := by
  unfold spec_l01In.f
  by_cases h : a ≥ b
  · rw [if_pos h]; simp [h]
  · rw [if_neg h]; simp [h]
theorem in_i (a b c : Int) : impl_within.f a b c = some (decide (b ≤ a ∧ a ≤ c)) := by
  unfold impl_within.f
  by_cases h : a ≥ b
  · rw [if_pos h]; simp [h]
  · rw [if_neg h]; simp [h]
def toG (x : S99) : S95 := ⟨x.f0, x.f1, x.f2, x.f3⟩
theorem toGS_l (l : List S99) (hl : l.length ≤ 8796093022208) (d : Nat) : ∀ (xs : List S95) (i : Nat), xs.length = l.length → l.length - i = d → i ≤ l.length → xs.take i = (l.take i).map toG →
    Ev (fun k => laws_toPageGrantS.l0 k l xs i) (l.map toG) := by
  induction d with
  | zero =>
    intro xs i hx hd hi ht
    refine Ev.step (f := fun _ => some (l.map toG)) (fun k => ?_) (Ev.now _)
    simp only [laws_toPageGrantS.l0]
    rw [if_neg (by omega)]
    rw [List.take_of_length_le (by omega), List.take_of_length_le (by omega)] at ht
    rw [ht]
  | succ d ih =>
    intro xs i hx hd hi ht
    refine Ev.step (f := fun k => laws_toPageGrantS.l0 k l (xs.set i (toG (l.getD i z99))) (i + 1 : Nat)) (fun k => ?_) (ih _ _ (by simpa using hx) (by omega) (by omega) (take_set_map toG l xs i z99 hx (by omega) ht))
    simp only [laws_toPageGrantS.l0, laws_toPageGrant.f, Option.bind_some]
    rw [if_pos (by omega), if_pos (by omega), if_pos (by omega), wrap_id (x := (i : Int) + 1) (by omega) (by omega)]
    rfl
theorem toGS_ev (l : List S99) (hl : l.length ≤ 8796093022208) : Ev (fun k => laws_toPageGrantS.f k l) (l.map toG) := by
  refine Ev.congr (f := fun k => laws_toPageGrantS.l0 k l (List.replicate l.length z95) (0 : Nat)) (fun k => ?_) (toGS_l l hl l.length _ 0 (by simp) (by omega) (by omega) (by simp))
  simp only [laws_toPageGrantS.f]
  rw [if_pos (by omega), if_pos (by omega)]
  rfl
theorem eqG_self (x : S95) : laws_eqPageGrant.f x.f0 x.f1 x.f2 x.f3 x.f0 x.f1 x.f2 x.f3 = some true := by simp [laws_eqPageGrant.f]
theorem eqGS_l (l : List S95) (hl : l.length ≤ 8796093022208) (d : Nat) : ∀ i : Nat, l.length - i = d → Ev (fun k => laws_eqPageGrantS.l0 k l l i) true := by
  induction d with
  | zero =>
    intro i hd
    refine Ev.step (f := fun _ => some true) (fun k => ?_) (Ev.now _)
    simp only [laws_eqPageGrantS.l0]
    rw [if_neg (by omega)]
  | succ d ih =>
    intro i hd
    refine Ev.step (f := fun k => laws_eqPageGrantS.l0 k l l (i + 1 : Nat)) (fun k => ?_) (ih _ (by omega))
    simp only [laws_eqPageGrantS.l0, eqG_self, Option.bind_some]
    rw [if_pos (by omega), if_pos (by omega), if_pos (by omega), if_pos trivial, wrap_id (x := (i : Int) + 1) (by omega) (by omega)]
    rfl
theorem eqGS_ev (l : List S95) (hl : l.length ≤ 8796093022208) : Ev (fun k => laws_eqPageGrantS.f k l l) true := by
  simp only [laws_eqPageGrantS.f]
  exact ev_pos trivial (eqGS_l l hl l.length 0 (by omega))
/-- The k-th grant, what makes it valid on its own, and what makes it a second of its page. -/
def ng (t : List S95) (k : Nat) : S95 := t.getD k z95
theorem rd_ng (t : List S95) (k : Nat) : rd_T95 t (k : Int) = ng t k := rfl
def byte (a : Int) : Bool := decide (0 ≤ a ∧ a ≤ 255)
def gOk (x : S95) : Bool := byte x.f0 && (byte x.f1 && byte x.f2)
def gTwin (a b : S95) : Bool := decide (a.f0 = b.f0 ∧ a.f1 = b.f1)
def gBad (t : List S95) (k : Nat) : Bool := !gOk (ng t k) || (t.take k).any fun x => gTwin x (ng t k)
def gFrom (t : List S95) : Nat → Nat → Bool
  | 0, _ => decide ((t.length : Int) ≤ 40)
  | d + 1, k => if gBad t k = true then false else gFrom t d (k + 1)
theorem take_succ_any (t : List S95) (p : S95 → Bool) (k : Nat) (hk : k < t.length) : (t.take (k + 1)).any p = ((t.take k).any p || p (ng t k)) := by
  rw [List.take_succ_eq_append_getElem hk, List.any_append]
  simp [ng, List.getD, List.getElem?_eq_getElem hk]
theorem any_drop (t : List S95) (p : S95 → Bool) (i k : Nat) (hik : i < k) (hk : k ≤ t.length) : ((t.take k).drop i).any p = (p (ng t i) || ((t.take k).drop (i + 1)).any p) := by
  have h : i < (t.take k).length := by simp; omega
  rw [List.drop_eq_getElem_cons h, List.any_cons]
  congr 2
  simp [ng, List.getD, List.getElem?_eq_getElem (show i < t.length by omega)]
theorem isid_s (a : Int) : spec_IsId.f a = some (byte a) := by simp only [spec_IsId.f, in_s, Option.bind_some]; rfl
theorem isid_i (a : Int) : impl_IsId.f a = some (byte a) := by simp only [impl_IsId.f, in_i, Option.bind_some]; rfl
theorem grants_s1 (t : List S95) (hl : t.length ≤ 8796093022208) (k : Nat) (hk : k < t.length) (r : Bool) (hr : Ev (fun n => spec_GrantsOk.l0 n t ((k + 1 : Nat) : Int)) r) (m : Nat) : ∀ i : Nat, k - i = m → i ≤ k → Ev (fun n => spec_GrantsOk.l1 n t k i (ng t k).f0 (ng t k).f1 (ng t k).f2 (ng t k).f3) (if (((t.take k).drop i).any fun x => gTwin x (ng t k)) = true then false else r) := by
  induction m with
  | zero =>
    intro i hm hi
    have e : i = k := by omega
    subst e
    rw [if_neg (by simp)]
    refine Ev.step (f := fun n => spec_GrantsOk.l0 n t ((i + 1 : Nat) : Int)) (fun n => ?_) hr
    simp only [spec_GrantsOk.l1]
    rw [if_neg (by omega), wrap_id (x := (i : Int) + 1) (by omega) (by omega)]
    rfl
  | succ m ih =>
    intro i hm hi
    have hn := ih (i + 1) (by omega) (by omega)
    rw [any_drop t _ i k (by omega) (by omega)]
    refine Ev.step (f := fun n => if (ng t i).f0 = (ng t k).f0 then (if (ng t i).f1 = (ng t k).f1 then some false else spec_GrantsOk.l1 n t k ((i + 1 : Nat) : Int) (ng t k).f0 (ng t k).f1 (ng t k).f2 (ng t k).f3) else spec_GrantsOk.l1 n t k ((i + 1 : Nat) : Int) (ng t k).f0 (ng t k).f1 (ng t k).f2 (ng t k).f3) (fun n => ?_) ?_
    · simp only [spec_GrantsOk.l1]
      rw [if_pos (by omega), if_pos (by omega), if_pos (by omega), rd_ng, wrap_id (x := (i : Int) + 1) (by omega) (by omega)]
      rfl
    · by_cases h1 : (ng t i).f0 = (ng t k).f0
      · refine ev_pos h1 ?_
        by_cases h2 : (ng t i).f1 = (ng t k).f1
        · refine ev_pos h2 ?_
          rw [show gTwin (ng t i) (ng t k) = true from decide_eq_true ⟨h1, h2⟩, Bool.true_or, if_pos rfl]
          exact Ev.now _
        · refine ev_neg h2 ?_
          rw [show gTwin (ng t i) (ng t k) = false from decide_eq_false (fun h => h2 h.2), Bool.false_or]
          exact hn
      · refine ev_neg h1 ?_
        rw [show gTwin (ng t i) (ng t k) = false from decide_eq_false (fun h => h1 h.1), Bool.false_or]
        exact hn
theorem grants_s0 (t : List S95) (hl : t.length ≤ 8796093022208) (d : Nat) : ∀ k : Nat, t.length - k = d → Ev (fun n => spec_GrantsOk.l0 n t k) (gFrom t d k) := by
  induction d with
  | zero =>
    intro k hd
    refine Ev.step (f := fun _ => some (decide ((t.length : Int) ≤ 40))) (fun n => ?_) (Ev.now _)
    simp only [spec_GrantsOk.l0]
    rw [if_neg (by omega)]
  | succ d ih =>
    intro k hd
    have hn := ih (k + 1) (by omega)
    have h1 := grants_s1 t hl k (by omega) _ hn k 0 rfl (Nat.zero_le _)
    have hj : ∀ b : Bool, Ev (fun n => spec_GrantsOk.j1 n t k b (ng t k).f0 (ng t k).f1 (ng t k).f2 (ng t k).f3) (if b = true then false else if ((t.take k).any fun x => gTwin x (ng t k)) = true then false else gFrom t d (k + 1)) := by
      intro b
      refine Ev.step (f := fun n => if b = true then some false else spec_GrantsOk.l1 n t k 0 (ng t k).f0 (ng t k).f1 (ng t k).f2 (ng t k).f3) (fun n => ?_) (ev_ite (fun _ => Ev.now _) (fun _ => h1))
      simp only [spec_GrantsOk.j1]
    refine Ev.step (f := fun n => spec_GrantsOk.j1 n t k (!gOk (ng t k)) (ng t k).f0 (ng t k).f1 (ng t k).f2 (ng t k).f3) (fun n => ?_) ?_
    · simp only [spec_GrantsOk.l0]
      rw [if_pos (by omega), if_pos (by omega), rd_ng]
      simp only [isid_s, in_s, Option.bind_some]
      cases e0 : byte (ng t k).f0
      · rw [if_neg (by simp)]; simp only [gOk, e0, Bool.false_and, Bool.not_false]
      · rw [if_pos rfl]
        cases e1 : byte (ng t k).f1
        · rw [if_neg (by unfold byte at e1; rw [e1]; simp)]; simp only [gOk, e0, e1, Bool.false_and, Bool.and_false, Bool.not_false]
        · rw [if_pos (by unfold byte at e1; exact e1)]; simp only [gOk, e0, e1, Bool.true_and]; rfl
    · have := hj (!gOk (ng t k))
      have e : (if (!gOk (ng t k)) = true then false else if ((t.take k).any fun x => gTwin x (ng t k)) = true then false else gFrom t d (k + 1)) = gFrom t (d + 1) k := by
        have hb : ∀ (a b : Bool) (x : Bool), (if (!a) = true then false else if b = true then false else x) = (if (!a || b) = true then false else x) := by intro a b x; cases a <;> cases b <;> rfl
        exact hb _ _ _
      rw [e] at this
      exact this
theorem grants_i (t : List S95) (hl : t.length ≤ 8796093022208) (d : Nat) : ∀ k : Nat, t.length - k = d → Ev (fun n => impl_GrantsOk.l0 n t t (t.length : Int) k) (gFrom t d k) := by
  induction d with
  | zero =>
    intro k hd
    refine Ev.step (f := fun _ => some (decide ((t.length : Int) ≤ 40))) (fun n => ?_) (Ev.now _)
    simp only [impl_GrantsOk.l0]
    rw [if_neg (by omega)]
  | succ d ih =>
    intro k hd
    have hn := ih (k + 1) (by omega)
    refine Ev.step (f := fun n => if gBad t k = true then some false else impl_GrantsOk.l0 n t t (t.length : Int) ((k + 1 : Nat) : Int)) (fun n => ?_) (ev_ite (fun _ => Ev.now _) (fun _ => hn))
    simp only [impl_GrantsOk.l0]
    rw [if_pos (by omega), if_pos (by omega), if_pos (by omega), rd_ng, wrap_id (x := (k : Int) + 1) (by omega) (by omega)]
    simp only [isid_i, in_i, Option.bind_some]
    have hc : slices_ContainsFunc__impl_GrantsOk_1.f (t.take k) (ng t k).f0 (ng t k).f1 (ng t k).f2 (ng t k).f3 = some ((t.take k).any fun x => gTwin x (ng t k)) := by
      show anyO (fun x : S95 => some (gTwin x (ng t k))) (t.take k) = _
      rw [anyO_tot]
    cases e0 : byte (ng t k).f0
    · rw [if_neg (by simp), if_pos (by simp [gBad, gOk, e0])]
    · rw [if_pos rfl]
      cases e1 : byte (ng t k).f1
      · rw [if_neg (by unfold byte at e1; rw [e1]; simp), if_pos (by simp [gBad, gOk, e1])]
      · rw [if_pos (by unfold byte at e1; exact e1)]
        cases e2 : byte (ng t k).f2
        · rw [if_neg (by unfold byte at e2; rw [e2]; simp), if_pos (by simp [gBad, gOk, e2])]
        · rw [if_pos (by unfold byte at e2; exact e2), if_pos (by omega), show ((k : Int)).toNat = k from rfl, hc]
          simp only [Option.bind_some, gBad, gOk, e0, e1, e2, Bool.and_self, Bool.not_true, Bool.false_or]
          rfl
def tHit (x : S95) (a v : Int) : Bool := decide (x.f0 = a ∧ x.f1 = wrap64 (Int.tdiv v 256))
def tRes (x : S95) (v : Int) (w : Bool) : Int × Int := if w = true then (if x.f3 = true then (wrap64 ((wrap64 ((x.f2) * 256)) + (Int.tmod v 256)), 0) else (0, 2)) else (wrap64 ((wrap64 ((x.f2) * 256)) + (Int.tmod v 256)), 0)
def tFrom (t : List S95) (a v : Int) (w : Bool) : Nat → Nat → Int × Int
  | 0, _ => (0, 1)
  | d + 1, k => if tHit (ng t k) a v = true then tRes (ng t k) v w else tFrom t a v w d (k + 1)
def tVal (t : List S95) (a v : Int) (w : Bool) : Int × Int := if gFrom t t.length 0 = true ∧ (0 ≤ v ∧ v ≤ 65535) then tFrom t a v w t.length 0 else (0, 1)
theorem find_from (t : List S95) (a v : Int) (w : Bool) (d : Nat) : ∀ k : Nat, t.length - k = d → k ≤ t.length → tFrom t a v w d k = (match (t.drop k).findIdx? (fun x => tHit x a v) with | none => (0, 1) | some i => tRes (ng t (k + i)) v w) := by
  induction d with
  | zero =>
    intro k hd hk
    rw [List.drop_eq_nil_of_le (by omega)]
    rfl
  | succ d ih =>
    intro k hd hk
    have h : k < t.length := by omega
    have hg : ng t k = t[k] := by simp [ng, List.getD, List.getElem?_eq_getElem h]
    rw [List.drop_eq_getElem_cons h, List.findIdx?_cons, ← hg]
    simp only [tFrom]
    by_cases e : tHit (ng t k) a v = true
    · rw [if_pos e, if_pos e]; rfl
    · rw [if_neg e, if_neg e, ih (k + 1) (by omega) (by omega)]
      cases (t.drop (k + 1)).findIdx? (fun x => tHit x a v) with
      | none => rfl
      | some i => show tRes (ng t (k + 1 + i)) v w = tRes (ng t (k + (i + 1))) v w; rw [show k + 1 + i = k + (i + 1) from by omega]
theorem trans_l (t : List S95) (hl : t.length ≤ 8796093022208) (a v : Int) (w : Bool) (d : Nat) : ∀ k : Nat, t.length - k = d → Ev (fun n => spec_Translate.l0 n t a v w k) (tFrom t a v w d k) := by
  induction d with
  | zero =>
    intro k hd
    refine Ev.step (f := fun _ => some (0, 1)) (fun n => ?_) (Ev.now _)
    simp only [spec_Translate.l0]
    rw [if_neg (by omega)]
  | succ d ih =>
    intro k hd
    have hn := ih (k + 1) (by omega)
    have hlt : k < t.length := by omega
    have hj : ∀ b : Bool, Ev (fun n => spec_Translate.j2 n t a v w k b) (if b = true then tFrom t a v w d (k + 1) else tRes (ng t k) v w) := by
      intro b
      refine Ev.step (f := fun n => if b = true then spec_Translate.l0 n t a v w ((k + 1 : Nat) : Int) else some (tRes (ng t k) v w)) (fun n => ?_) (ev_ite (fun _ => hn) (fun _ => Ev.now _))
      simp only [spec_Translate.j2]
      rw [wrap_id (x := (k : Int) + 1) (by omega) (by omega), if_pos (show (0 : Int) ≤ (k : Int) by omega), if_pos (show (k : Int) < (t.length : Int) by omega), if_pos (show (0 : Int) ≤ (k : Int) by omega), if_pos (show (k : Int) < (t.length : Int) by omega), rd_ng]
      unfold tRes
      cases b
      · rw [if_neg (show ¬ (false = true) from by decide), if_neg (show ¬ (false = true) from by decide)]
        cases w
        · rw [if_neg (show ¬ (false = true) from by decide), if_neg (show ¬ (false = true) from by decide)]
        · rw [if_pos (show true = true from rfl), if_pos (show true = true from rfl)]
          by_cases h : (ng t k).f3 = true
          · rw [if_pos h, if_pos h]
          · rw [if_neg h, if_neg h]
      · rw [if_pos (show true = true from rfl), if_pos (show true = true from rfl)]; rfl
    refine Ev.step (f := fun n => spec_Translate.j2 n t a v w k (!tHit (ng t k) a v)) (fun n => ?_) ?_
    · simp only [spec_Translate.l0]
      rw [if_pos (by omega), if_pos (by omega), rd_ng]
      by_cases h : (ng t k).f0 = a
      · rw [if_pos h]
        unfold tHit
        rw [show decide ((ng t k).f0 = a ∧ (ng t k).f1 = wrap64 (Int.tdiv v 256)) = decide ((ng t k).f1 = wrap64 (Int.tdiv v 256)) from decide_eq_decide.2 ⟨fun x => x.2, fun x => ⟨h, x⟩⟩]
        rfl
      · rw [if_neg h, show tHit (ng t k) a v = false from decide_eq_false (fun x => h x.1)]
        rfl
    · refine ev_to (hj _) ?_
      simp only [tFrom]
      cases tHit (ng t k) a v <;> rfl
theorem trans_s (t : List S95) (hl : t.length ≤ 8796093022208) (a v : Int) (w : Bool) : Ev (fun n => spec_Translate.f n t a v w) (tVal t a v w) := by
  have hj : ∀ b : Bool, Ev (fun n => spec_Translate.j0 n t a v w b) (if b = true then (0, 1) else tFrom t a v w t.length 0) := by
    intro b
    refine Ev.step (f := fun n => if b = true then some (0, 1) else spec_Translate.l0 n t a v w ((0 : Nat) : Int)) (fun n => ?_) (ev_ite (fun _ => Ev.now _) (fun _ => trans_l t hl a v w _ 0 rfl))
    simp only [spec_Translate.j0]
    rfl
  have hG : Ev (fun n => spec_GrantsOk.f n t) (gFrom t t.length 0) := grants_s0 t hl _ 0 rfl
  simp only [spec_Translate.f, in_s, Option.bind_some]
  refine Ev.bind hG ?_
  unfold tVal
  by_cases h : gFrom t t.length 0 = true
  · refine ev_pos h ?_
    by_cases h2 : 0 ≤ v ∧ v ≤ 65535
    · rw [if_pos ⟨h, h2⟩, decide_eq_true h2]; exact hj false
    · rw [if_neg (fun x => h2 x.2), decide_eq_false h2]; exact hj true
  · rw [if_neg (fun x => h x.1)]
    exact ev_neg h (hj true)
theorem trans_i (t : List S95) (hl : t.length ≤ 8796093022208) (a v : Int) (w : Bool) : Ev (fun n => impl_Translate.f n t a v w) (tVal t a v w) := by
  have hj : ∀ b : Bool, Ev (fun n => impl_Translate.j0 n t w b a v) (if b = true then (0, 1) else tFrom t a v w t.length 0) := by
    intro b
    refine Ev.step (f := fun _ => some (if b = true then (0, 1) else tFrom t a v w t.length 0)) (fun n => ?_) (Ev.now _)
    simp only [impl_Translate.j0]
    cases b
    · rw [if_neg (show ¬ (false = true) from by decide), if_neg (show ¬ (false = true) from by decide)]
      have hi : slices_IndexFunc__impl_Translate_1.f t a v = some (optAt (t.findIdx? fun x => tHit x a v)) := by
        show idxO (fun x : S95 => some (tHit x a v)) t = _
        rw [idxO_tot]
      rw [hi]
      simp only [Option.bind_some]
      rw [find_from t a v w t.length 0 rfl (Nat.zero_le _), List.drop_zero]
      cases hf : t.findIdx? (fun x => tHit x a v) with
      | none => rw [show optAt none = (-1 : Int) from rfl, if_pos (by omega)]
      | some i =>
        have hlt : i < t.length := by
          have := List.findIdx?_eq_some_iff_findIdx_eq.1 hf
          exact this.1
        rw [show optAt (some i) = (i : Int) from rfl, if_neg (by omega), if_pos (show (0 : Int) ≤ (i : Int) by omega), if_pos (show (i : Int) < (t.length : Int) by omega), if_pos (show (0 : Int) ≤ (i : Int) by omega), if_pos (show (i : Int) < (t.length : Int) by omega), rd_ng]
        show _ = some (tRes (ng t (0 + i)) v w)
        rw [show 0 + i = i from by omega]
        unfold tRes
        cases w
        · rw [if_neg (show ¬ (false = true) from by decide), if_neg (show ¬ (false = true) from by decide)]
        · rw [if_pos (show true = true from rfl), if_pos (show true = true from rfl)]
          by_cases h : (ng t i).f3 = true
          · rw [if_pos h, if_pos h]
          · rw [if_neg h, if_neg h]
    · rw [if_pos (show true = true from rfl), if_pos (show true = true from rfl)]
  have hG : Ev (fun n => impl_GrantsOk.f n t) (gFrom t t.length 0) := grants_i t hl _ 0 rfl
  simp only [impl_Translate.f, in_i, Option.bind_some]
  refine Ev.bind hG ?_
  unfold tVal
  by_cases h : gFrom t t.length 0 = true
  · refine ev_pos h ?_
    by_cases h2 : 0 ≤ v ∧ v ≤ 65535
    · rw [if_pos ⟨h, h2⟩, decide_eq_true h2]; exact hj false
    · rw [if_neg (fun x => h2 x.2), decide_eq_false h2]; exact hj true
  · rw [if_neg (fun x => h x.1)]
    exact ev_neg h (hj true)
def trAt (t : List S95) (a v : Int) (w : Bool) (i : Nat) : Int × Int := tVal t a (wrap64 (v + (i : Int))) w
def trFrom (t : List S95) (a v : Int) (w : Bool) : Nat → Nat → List Int → List Int × Int
  | 0, _, acc => (acc, 0)
  | d + 1, i, acc => if (trAt t a v w i).2 = 0 then trFrom t a v w d (i + 1) (acc ++ [(trAt t a v w i).1]) else ([], (trAt t a v w i).2)
def trVal (t : List S95) (a v n : Int) (w : Bool) : List Int × Int := if (1 ≤ n ∧ n ≤ 64) ∧ (0 ≤ v ∧ v ≤ 65535) then trFrom t a v w n.toNat 0 [] else ([], 1)
theorem trFrom_len (t : List S95) (a v : Int) (w : Bool) (d : Nat) : ∀ (i : Nat) (acc : List Int), (trFrom t a v w d i acc).1.length ≤ acc.length + d := by
  induction d with
  | zero => intro i acc; exact Nat.le_refl _
  | succ d ih =>
    intro i acc
    simp only [trFrom]
    split
    · have := ih (i + 1) (acc ++ [(trAt t a v w i).1])
      simp at this; omega
    · simp
theorem trange_sl (t : List S95) (hl : t.length ≤ 8796093022208) (a v : Int) (w : Bool) (n : Nat) (hn : n ≤ 64) (d : Nat) : ∀ (i : Nat) (acc : List Int), n - i = d → i ≤ n → acc.length = i → Ev (fun k => spec_TranslateRange.l0 k t a v (n : Int) w acc i) (trFrom t a v w d i acc) := by
  induction d with
  | zero =>
    intro i acc hd hi ha
    refine Ev.step (f := fun _ => some (acc, 0)) (fun k => ?_) (Ev.now _)
    simp only [spec_TranslateRange.l0]
    rw [if_neg (by omega)]
  | succ d ih =>
    intro i acc hd hi ha
    have hr := ih (i + 1) (acc ++ [(trAt t a v w i).1]) (by omega) (by omega) (by simp [ha])
    refine Ev.step (f := fun k => (spec_Translate.f k t a (wrap64 (v + (i : Int))) w).bind fun b => (if b.2 = 0 then (if acc.length < 17592186044416 then spec_TranslateRange.l0 k t a v (n : Int) w (acc ++ [b.1]) ((i + 1 : Nat) : Int) else none) else some ([], b.2))) (fun k => ?_) (Ev.bind (trans_s t hl a _ w) ?_)
    · simp only [spec_TranslateRange.l0]
      rw [if_pos (by omega), wrap_id (x := (i : Int) + 1) (by omega) (by omega)]
      rfl
    · simp only [trFrom]
      exact ev_ite (fun _ => ev_pos (by omega) hr) (fun _ => Ev.now _)
theorem trange_il (t : List S95) (hl : t.length ≤ 8796093022208) (a v : Int) (w : Bool) (n : Nat) (hn : n ≤ 64) (d : Nat) : ∀ (i : Nat) (acc : List Int), n - i = d → i ≤ n → acc.length = i → Ev (fun k => impl_TranslateRange.l0 k t a v w acc (n : Int) i) (trFrom t a v w d i acc) := by
  induction d with
  | zero =>
    intro i acc hd hi ha
    refine Ev.step (f := fun _ => some (acc, 0)) (fun k => ?_) (Ev.now _)
    simp only [impl_TranslateRange.l0]
    rw [if_neg (by omega)]
  | succ d ih =>
    intro i acc hd hi ha
    have hr := ih (i + 1) (acc ++ [(trAt t a v w i).1]) (by omega) (by omega) (by simp [ha])
    refine Ev.step (f := fun k => (impl_Translate.f k t a (wrap64 (v + (i : Int))) w).bind fun b => (if b.2 = 0 then (if acc.length < 17592186044416 then impl_TranslateRange.l0 k t a v w (acc ++ [b.1]) (n : Int) ((i + 1 : Nat) : Int) else none) else some ([], b.2))) (fun k => ?_) (Ev.bind (trans_i t hl a _ w) ?_)
    · simp only [impl_TranslateRange.l0]
      rw [if_pos (by omega), wrap_id (x := (i : Int) + 1) (by omega) (by omega)]
      rfl
    · simp only [trFrom]
      exact ev_ite (fun _ => ev_pos (by omega) hr) (fun _ => Ev.now _)
theorem trange_s (t : List S95) (hl : t.length ≤ 8796093022208) (a v n : Int) (w : Bool) : Ev (fun k => spec_TranslateRange.f k t a v n w) (trVal t a v n w) := by
  have hj : ∀ b : Bool, (b = false → 1 ≤ n ∧ n ≤ 64) → Ev (fun k => spec_TranslateRange.j0 k t a v n w [] b) (if b = true then ([], 1) else trFrom t a v w n.toNat 0 []) := by
    intro b hb
    refine Ev.step (f := fun k => if b = true then some ([], 1) else spec_TranslateRange.l0 k t a v n w [] ((0 : Nat) : Int)) (fun k => ?_) (ev_ite (fun _ => Ev.now _) (fun h => ?_))
    · simp only [spec_TranslateRange.j0]
      rfl
    · obtain ⟨h1, h2⟩ := hb (by simpa using h)
      have := trange_sl t hl a v w n.toNat (by omega) n.toNat 0 [] rfl (Nat.zero_le _) rfl
      rw [show ((n.toNat : Nat) : Int) = n from by omega] at this
      exact this
  simp only [spec_TranslateRange.f, in_s, Option.bind_some]
  unfold trVal
  by_cases h : 1 ≤ n ∧ n ≤ 64
  · refine ev_pos (decide_eq_true h) ?_
    by_cases h2 : 0 ≤ v ∧ v ≤ 65535
    · rw [if_pos ⟨h, h2⟩, decide_eq_true h2]; exact hj false (fun _ => h)
    · rw [if_neg (fun x => h2 x.2), decide_eq_false h2]; exact hj true (fun x => by cases x)
  · rw [if_neg (fun x => h x.1)]
    exact ev_neg (by simpa using h) (hj true (fun x => by cases x))
theorem trange_i (t : List S95) (hl : t.length ≤ 8796093022208) (a v n : Int) (w : Bool) : Ev (fun k => impl_TranslateRange.f k t a v n w) (trVal t a v n w) := by
  have hj : ∀ b : Bool, (b = false → 1 ≤ n ∧ n ≤ 64) → Ev (fun k => impl_TranslateRange.j0 k t a v n w b) (if b = true then ([], 1) else trFrom t a v w n.toNat 0 []) := by
    intro b hb
    refine Ev.step (f := fun k => if b = true then some ([], 1) else impl_TranslateRange.l0 k t a v w [] n ((0 : Nat) : Int)) (fun k => ?_) (ev_ite (fun _ => Ev.now _) (fun h => ?_))
    · simp only [impl_TranslateRange.j0]
      rfl
    · obtain ⟨h1, h2⟩ := hb (by simpa using h)
      have := trange_il t hl a v w n.toNat (by omega) n.toNat 0 [] rfl (Nat.zero_le _) rfl
      rw [show ((n.toNat : Nat) : Int) = n from by omega] at this
      exact this
  simp only [impl_TranslateRange.f, in_i, Option.bind_some]
  unfold trVal
  by_cases h : 1 ≤ n ∧ n ≤ 64
  · refine ev_pos (decide_eq_true h) ?_
    by_cases h2 : 0 ≤ v ∧ v ≤ 65535
    · rw [if_pos ⟨h, h2⟩, decide_eq_true h2]; exact hj false (fun _ => h)
    · rw [if_neg (fun x => h2 x.2), decide_eq_false h2]; exact hj true (fun x => by cases x)
  · rw [if_neg (fun x => h x.1)]
    exact ev_neg (by simpa using h) (hj true (fun x => by cases x))
theorem trVal_len (t : List S95) (a v n : Int) (w : Bool) : (trVal t a v n w).1.length ≤ 64 := by
  unfold trVal
  split
  · rename_i h
    have := trFrom_len t a v w n.toNat 0 []
    simp at this; omega
  · simp
theorem gset_self {α : Type} (l : List α) (i : Nat) (a z : α) (h : i < l.length) : (l.set i a).getD i z = a := by
  simp [List.getD_eq_getElem?_getD, List.getElem?_set, h]
theorem gset_ne {α : Type} (l : List α) (i j : Nat) (a z : α) (h : i ≠ j) : (l.set i a).getD j z = l.getD j z := by
  simp [List.getD_eq_getElem?_getD, List.getElem?_set, h]
theorem eqIntS_l (l : List Int) (hl : l.length ≤ 11728124029610) (d : Nat) : ∀ i : Nat, l.length - i = d → Ev (fun k => laws_eqIntS.l0 k l l i) true := by
  induction d with
  | zero =>
    intro i hd
    refine Ev.step (f := fun _ => some true) (fun k => ?_) (Ev.now _)
    simp only [laws_eqIntS.l0]
    rw [if_neg (by omega)]
  | succ d ih =>
    intro i hd
    refine Ev.step (f := fun k => laws_eqIntS.l0 k l l (i + 1 : Nat)) (fun k => ?_) (ih _ (by omega))
    simp only [laws_eqIntS.l0]
    rw [if_pos (by omega), if_pos (by omega), if_pos (by omega), if_pos trivial, wrap_id (x := (i : Int) + 1) (by omega) (by omega)]
    rfl
theorem eqIntS_ev (l : List Int) (hl : l.length ≤ 11728124029610) : Ev (fun k => laws_eqIntS.f k l l) true := by
  simp only [laws_eqIntS.f]
  exact ev_pos trivial (eqIntS_l l hl l.length 0 (by omega))
theorem rdI (l : List Int) (i : Nat) : rd l (i : Int) = l.getD i 0 := rfl
theorem markIntS_l (k : Int) (h0 : 0 ≤ k) (len : Nat) (hl : k + (len : Int) ≤ 1152921504606846976) (d : Nat) : ∀ (xs : List Int) (i : Nat), xs.length = len → len - i = d → i ≤ len → (∀ j : Nat, j < i → xs.getD j 0 = k + (j : Int)) →
    ∃ ys : List Int, Ev (fun n => laws_markIntS.l0 n xs (k + (i : Int)) i) (k + (len : Int), ys) ∧ ys.length = len ∧ ∀ j : Nat, j < len → ys.getD j 0 = k + (j : Int) := by
  induction d with
  | zero =>
    intro xs i hx hd hi hm
    have e : i = len := by omega
    subst e
    refine ⟨xs, Ev.step (f := fun _ => some (k + (i : Int), xs)) (fun n => ?_) (Ev.now _), hx, hm⟩
    simp only [laws_markIntS.l0]
    rw [if_neg (by omega)]
  | succ d ih =>
    intro xs i hx hd hi hm
    have hlt : i < xs.length := by omega
    obtain ⟨ys, h1, h2, h3⟩ := ih (xs.set i (k + (i : Int))) (i + 1) (by simpa using hx) (by omega) (by omega) (by
      intro j hj
      rcases Nat.eq_or_lt_of_le (Nat.le_of_lt_succ hj) with e | e
      · subst e; exact gset_self _ _ _ _ hlt
      · rw [gset_ne _ _ _ _ _ (by omega)]; exact hm j e)
    refine ⟨ys, Ev.step (f := fun n => laws_markIntS.l0 n (xs.set i (k + (i : Int))) (k + ((i + 1 : Nat) : Int)) ((i + 1 : Nat) : Int)) (fun n => ?_) h1, h2, h3⟩
    simp only [laws_markIntS.l0]
    rw [if_pos (by omega), if_pos (by omega), wrap_id (x := k + (i : Int) + 1) (by omega) (by omega), wrap_id (x := (i : Int) + 1) (by omega) (by omega), show k + (i : Int) + 1 = k + ((i + 1 : Nat) : Int) from by omega]
    rfl
theorem heldIntS_l (k : Int) (h0 : 0 ≤ k) (ys : List Int) (hl : k + (ys.length : Int) ≤ 1152921504606846976) (hm : ∀ j : Nat, j < ys.length → ys.getD j 0 = k + (j : Int)) (d : Nat) : ∀ i : Nat, ys.length - i = d → i ≤ ys.length →
    Ev (fun n => laws_heldIntS.l0 n ys (k + (i : Int)) i) (k + (ys.length : Int)) := by
  induction d with
  | zero =>
    intro i hd hi
    have e : i = ys.length := by omega
    subst e
    refine Ev.step (f := fun _ => some (k + (ys.length : Int))) (fun n => ?_) (Ev.now _)
    simp only [laws_heldIntS.l0]
    rw [if_neg (by omega)]
  | succ d ih =>
    intro i hd hi
    refine Ev.step (f := fun n => laws_heldIntS.l0 n ys (k + ((i + 1 : Nat) : Int)) ((i + 1 : Nat) : Int)) (fun n => ?_) (ih (i + 1) (by omega) (by omega))
    simp only [laws_heldIntS.l0]
    rw [if_pos (by omega), if_pos (by omega), rdI, hm i (by omega), if_pos rfl, wrap_id (x := k + (i : Int) + 1) (by omega) (by omega), wrap_id (x := (i : Int) + 1) (by omega) (by omega), show k + (i : Int) + 1 = k + ((i + 1 : Nat) : Int) from by omega]
    rfl
theorem intS_marks (xs : List Int) (hl : xs.length ≤ 2097152) (k : Int) (h0 : 0 ≤ k) (h1 : k ≤ 1000000000000) : ∃ ys : List Int, Ev (fun n => laws_markIntS.f n xs k) (k + (xs.length : Int), ys) ∧ ys.length = xs.length ∧ Ev (fun n => laws_heldIntS.f n ys k) (k + (xs.length : Int)) := by
  obtain ⟨ys, a, b, c⟩ := markIntS_l k h0 xs.length (by omega) xs.length xs 0 rfl rfl (Nat.zero_le _) (fun j hj => by omega)
  refine ⟨ys, ?_, b, ?_⟩
  · have : Ev (fun n => laws_markIntS.l0 n xs (k + ((0 : Nat) : Int)) ((0 : Nat) : Int)) (k + (xs.length : Int), ys) := a
    rw [show k + ((0 : Nat) : Int) = k from by omega] at this
    exact this
  · have := heldIntS_l k h0 ys (by omega) (by rw [b]; exact c) ys.length 0 rfl (Nat.zero_le _)
    rw [show k + ((0 : Nat) : Int) = k from by omega, b] at this
    exact this
def gm (x0 : List S95) (x5 x1 : Int) : List S95 :=
  let y1 := x0.set (x5).toNat (⟨x1, (rd_T95 x0 x5).f1, (rd_T95 x0 x5).f2, (rd_T95 x0 x5).f3⟩ : S95)
  let y2 := y1.set (x5).toNat (⟨(rd_T95 y1 x5).f0, wrap64 (x1 + 1), (rd_T95 y1 x5).f2, (rd_T95 y1 x5).f3⟩ : S95)
  let y3 := y2.set (x5).toNat (⟨(rd_T95 y2 x5).f0, (rd_T95 y2 x5).f1, wrap64 ((wrap64 (x1 + 1)) + 1), (rd_T95 y2 x5).f3⟩ : S95)
  y3.set (x5).toNat (⟨(rd_T95 y3 x5).f0, (rd_T95 y3 x5).f1, (rd_T95 y3 x5).f2, ((Int.tmod (wrap64 ((wrap64 ((wrap64 (x1 + 1)) + 1)) + 1)) 3) == 0)⟩ : S95)
theorem markG_l (k : Int) (h0 : 0 ≤ k) (len : Nat) (hl : k + 4 * (len : Int) ≤ 1152921504606846976) (d : Nat) : ∀ (xs : List S95) (i : Nat), xs.length = len → len - i = d → i ≤ len →
    ∃ ys : List S95, Ev (fun n => laws_markPageGrantS.l0 n xs (k + 4 * (i : Int)) i) (k + 4 * (len : Int), ys) := by
  induction d with
  | zero =>
    intro xs i hx hd hi
    have e : i = len := by omega
    subst e
    refine ⟨xs, Ev.step (f := fun _ => some (k + 4 * (i : Int), xs)) (fun n => ?_) (Ev.now _)⟩
    simp only [laws_markPageGrantS.l0]
    rw [if_neg (by omega)]
  | succ d ih =>
    intro xs i hx hd hi
    obtain ⟨ys, h1⟩ := ih (gm xs i (k + 4 * (i : Int))) (i + 1) (by simpa [gm] using hx) (by omega) (by omega)
    refine ⟨ys, Ev.step (f := fun n => laws_markPageGrantS.l0 n (gm xs i (k + 4 * (i : Int))) (k + 4 * ((i + 1 : Nat) : Int)) ((i + 1 : Nat) : Int)) (fun n => ?_) h1⟩
    rw [show laws_markPageGrantS.l0 (n + 1) xs (k + 4 * (i : Int)) i = _ from by simp only [laws_markPageGrantS.l0]; rw [if_pos (show (i : Int) < (xs.length : Int) by omega), if_pos (show (0 : Int) ≤ (i : Int) by omega)]]
    show laws_markPageGrantS.l0 n (gm xs i (k + 4 * (i : Int))) (wrap64 ((wrap64 ((wrap64 ((wrap64 (k + 4 * (i : Int) + 1)) + 1)) + 1)) + 1)) (wrap64 ((i : Int) + 1)) = _
    rw [wrap_id (x := k + 4 * (i : Int) + 1) (by omega) (by omega), wrap_id (x := k + 4 * (i : Int) + 1 + 1) (by omega) (by omega), wrap_id (x := k + 4 * (i : Int) + 1 + 1 + 1) (by omega) (by omega), wrap_id (x := k + 4 * (i : Int) + 1 + 1 + 1 + 1) (by omega) (by omega), wrap_id (x := (i : Int) + 1) (by omega) (by omega)]
    rw [show k + 4 * (i : Int) + 1 + 1 + 1 + 1 = k + 4 * ((i + 1 : Nat) : Int) from by omega]
    rfl
theorem markG (xs : List S95) (hl : xs.length ≤ 2097152) (k : Int) (h0 : 0 ≤ k) (h1 : k ≤ 1000000000000) : ∃ ys : List S95, Ev (fun n => laws_markPageGrantS.f n xs k) (k + 4 * (xs.length : Int), ys) := by
  obtain ⟨ys, a⟩ := markG_l k h0 xs.length (by omega) xs.length xs 0 rfl rfl (Nat.zero_le _)
  refine ⟨ys, ?_⟩
  have : Ev (fun n => laws_markPageGrantS.l0 n xs (k + 4 * ((0 : Nat) : Int)) ((0 : Nat) : Int)) (k + 4 * (xs.length : Int), ys) := a
  rw [show k + 4 * ((0 : Nat) : Int) = k from by omega] at this
  exact this
theorem FnExactTranslateRange : ∀ (x0 : List (S99)) (x1 : Int) (x2 : Int) (x3 : Int) (x4 : Bool), (x0.length * 32 ≤ 140737488351232 ∧ x0.length ≤ maxLen ∧ ∀ y ∈ x0, wf99 y) → ((Lit.int .i64 x1).wf = true) → ((Lit.int .i64 x2).wf = true) → ((Lit.int .i64 x3).wf = true) → (True) → ∃ k, laws_FnExactTranslateRange.f k x0 x1 x2 x3 x4 = some true := by
  rintro l a v m w ⟨h1, h2, _⟩ _ _ _ _
  have hl : l.length ≤ 8796093022208 := by omega
  refine Ev.rounds (g := fun n => laws_FnExactTranslateRange.f n l a v m w) ?_
  simp only [laws_FnExactTranslateRange.f, laws_szPageGrantS.f, wrap_id (x := 1048576 - (l.length : Int)) (by omega) (by omega)]
  by_cases h : 1048576 - (l.length : Int) < 0
  · simp only [if_pos h, Option.bind_some]
    exact ev_pos (by omega) (Ev.now _)
  · simp only [if_neg h, Option.bind_some]
    have ht : (l.map toG).length ≤ 8796093022208 := by simpa using hl
    have hT := toGS_ev l hl
    have hS := trange_s (l.map toG) ht a v m w
    have hI := trange_i (l.map toG) ht a v m w
    have hR := trVal_len (l.map toG) a v m w
    have hG := eqGS_ev (l.map toG) ht
    obtain ⟨gs, hM⟩ := markG (l.map toG) (by simp; omega) 1 (by omega) (by omega)
    generalize trVal (l.map toG) a v m w = R at hS hI hR
    obtain ⟨R1, R2⟩ := R
    have hq := eqIntS_ev R1 (by simp at hR; omega)
    obtain ⟨zs, m4, m5, m6⟩ := intS_marks R1 (by simp at hR; omega) 1 (by omega) (by omega)
    have b1 : (R2 != R2) = false := by simp
    refine Ev.bind hT (Ev.bind hS (Ev.bind hT (Ev.bind hI (Ev.bind hq (ev_pos rfl ?_)))))
    simp only [b1]
    refine Ev.step (fun n => by simp only [laws_FnExactTranslateRange.j0]; rw [if_neg (by decide)]) ?_
    refine Ev.bind hT (Ev.bind hG (ev_pos rfl (Ev.bind hM (ev_neg (by simp; omega) (Ev.bind hq (ev_pos rfl ?_))))))
    simp only [b1]
    refine Ev.step (fun n => by simp only [laws_FnExactTranslateRange.j1]; rw [if_neg (by decide)]) ?_
    refine Ev.bind m4 (Ev.bind m6 (ev_neg (by omega) (ev_pos rfl (Ev.bind hT (Ev.bind hI (Ev.bind hq (ev_pos rfl ?_)))))))
    simp only [b1]
    refine Ev.step (fun n => by simp only [laws_FnExactTranslateRange.j2]; rw [if_neg (by decide)]) ?_
    exact Ev.bind m6 (ev_neg (by omega) (ev_pos rfl (Ev.now _)))

end Go.Proofs.Ytdolbkocghgibaa.Pure

/- The law FnRanges over numbers and lists. No condition beyond the bounds of what a Go value may be. -/
import Derived.Test.YteeklekfafedcaaEvl
import Derived.Test.YteeklekfafedcaaHof
import Derived.Test.YteeklekfafedcaaPFnRangesx4
namespace Go.Proofs.Yteeklekfafedcaa.Pure
open Go.RowKit Go.Proofs.Yteeklekfafedcaa.PFnRanges Go.Proofs.YteeklekfafedcaaW.PrintWords Go.Proofs.YteeklekfafedcaaW.PrintLast Go.Proofs.YteeklekfafedcaaW.PrintMore Go.Proofs.Yteeklekfafedcaa.Evl
set_option linter.unusedVariables false
set_option linter.unusedSimpArgs false


theorem some_beq (b : Bool) : ((some b : Option Bool) == some true) = b := by cases b <;> rfl
theorem anyO_tot {α : Type} (p : α → Bool) (l : List α) : anyO (fun x => some (p x)) l = some (l.any p) := by
  unfold anyO
  rw [if_pos (by simp)]
  simp only [some_beq]
theorem idxO_tot {α : Type} (p : α → Bool) (l : List α) : idxO (fun x => some (p x)) l = some (optAt (l.findIdx? p)) := by
  unfold idxO
  rw [if_pos (by simp)]
  simp only [some_beq]
theorem in_s (a b c : Int) : spec_l01In.f a b c = some (decide (b ≤ a ∧ a ≤ c)) := by
  unfold spec_l01In.f
  by_cases h : a ≥ b
  · rw [if_pos h]; simp [h]
  · rw [if_neg h]; simp [h]
theorem in_i (a b c : Int) : impl_within.f a b c = some (decide (b ≤ a ∧ a ≤ c)) := by
  unfold impl_within.f
  by_cases h : a ≥ b
  · rw [if_pos h]; simp [h]
  · rw [if_neg h]; simp [h]
/-- The k-th grant, what makes it valid on its own, and what makes it a second of its page. -/
def ng (t : List S95) (k : Nat) : S95 := t.getD k z95
theorem rd_ng (t : List S95) (k : Nat) : rd_T95 t (k : Int) = ng t k := rfl
def byte (a : Int) : Bool := decide (0 ≤ a ∧ a ≤ 255)
def gOk (x : S95) : Bool := byte x.f0 && (byte x.f1 && byte x.f2)
def gTwin (a b : S95) : Bool := decide (a.f0 = b.f0 ∧ a.f1 = b.f1)
def gBad (t : List S95) (k : Nat) : Bool := !gOk (ng t k) || (t.take k).any fun x => gTwin x (ng t k)
def gFrom (t : List S95) : Nat → Nat → Bool
  | 0, _ => decide ((t.length : Int) ≤ 40)
  | d + 1, k => if gBad t k = true then false else gFrom t d (k + 1)
theorem take_succ_any (t : List S95) (p : S95 → Bool) (k : Nat) (hk : k < t.length) : (t.take (k + 1)).any p = ((t.take k).any p || p (ng t k)) := by
  rw [List.take_succ_eq_append_getElem hk, List.any_append]
  simp [ng, List.getD, List.getElem?_eq_getElem hk]
theorem any_drop (t : List S95) (p : S95 → Bool) (i k : Nat) (hik : i < k) (hk : k ≤ t.length) : ((t.take k).drop i).any p = (p (ng t i) || ((t.take k).drop (i + 1)).any p) := by
  have h : i < (t.take k).length := by simp; omega
  rw [List.drop_eq_getElem_cons h, List.any_cons]
  congr 2
  simp [ng, List.getD, List.getElem?_eq_getElem (show i < t.length by omega)]
theorem isid_s (a : Int) : spec_IsId.f a = some (byte a) := by simp only [spec_IsId.f, in_s, Option.bind_some]; rfl
theorem isid_i (a : Int) : impl_IsId.f a = some (byte a) := by simp only [impl_IsId.f, in_i, Option.bind_some]; rfl
theorem grants_s1 (t : List S95) (hl : t.length ≤ 8796093022208) (k : Nat) (hk : k < t.length) (r : Bool) (hr : Ev (fun n => spec_GrantsOk.l0 n t ((k + 1 : Nat) : Int)) r) (m : Nat) : ∀ i : Nat, k - i = m → i ≤ k → Ev (fun n => spec_GrantsOk.l1 n t k i (ng t k).f0 (ng t k).f1 (ng t k).f2 (ng t k).f3) (if (((t.take k).drop i).any fun x => gTwin x (ng t k)) = true then false else r) := by
  induction m with
  | zero =>
    intro i hm hi
    have e : i = k := by omega
    subst e
    rw [if_neg (by simp)]
    refine Ev.step (f := fun n => spec_GrantsOk.l0 n t ((i + 1 : Nat) : Int)) (fun n => ?_) hr
    simp only [spec_GrantsOk.l1]
    rw [if_neg (by omega), wrap_id (x := (i : Int) + 1) (by omega) (by omega)]
    rfl
  | succ m ih =>
    intro i hm hi
    have hn := ih (i + 1) (by omega) (by omega)
    rw [any_drop t _ i k (by omega) (by omega)]
    refine Ev.step (f := fun n => if (ng t i).f0 = (ng t k).f0 then (if (ng t i).f1 = (ng t k).f1 then some false else spec_GrantsOk.l1 n t k ((i + 1 : Nat) : Int) (ng t k).f0 (ng t k).f1 (ng t k).f2 (ng t k).f3) else spec_GrantsOk.l1 n t k ((i + 1 : Nat) : Int) (ng t k).f0 (ng t k).f1 (ng t k).f2 (ng t k).f3) (fun n => ?_) ?_
    · simp only [spec_GrantsOk.l1]
      rw [if_pos (by omega), if_pos (by omega), if_pos (by omega), rd_ng, wrap_id (x := (i : Int) + 1) (by omega) (by omega)]
      rfl
    · by_cases h1 : (ng t i).f0 = (ng t k).f0
      · refine ev_pos h1 ?_
        by_cases h2 : (ng t i).f1 = (ng t k).f1
        · refine ev_pos h2 ?_
          rw [show gTwin (ng t i) (ng t k) = true from decide_eq_true ⟨h1, h2⟩, Bool.true_or, if_pos rfl]
          exact Ev.now _
        · refine ev_neg h2 ?_
          rw [show gTwin (ng t i) (ng t k) = false from decide_eq_false (fun h => h2 h.2), Bool.false_or]
          exact hn
      · refine ev_neg h1 ?_
        rw [show gTwin (ng t i) (ng t k) = false from decide_eq_false (fun h => h1 h.1), Bool.false_or]
        exact hn
theorem grants_s0 (t : List S95) (hl : t.length ≤ 8796093022208) (d : Nat) : ∀ k : Nat, t.length - k = d → Ev (fun n => spec_GrantsOk.l0 n t k) (gFrom t d k) := by
  induction d with
  | zero =>
    intro k hd
    refine Ev.step (f := fun _ => some (decide ((t.length : Int) ≤ 40))) (fun n => ?_) (Ev.now _)
    simp only [spec_GrantsOk.l0]
    rw [if_neg (by omega)]
  | succ d ih =>
    intro k hd
    have hn := ih (k + 1) (by omega)
    have h1 := grants_s1 t hl k (by omega) _ hn k 0 rfl (Nat.zero_le _)
    have hj : ∀ b : Bool, Ev (fun n => spec_GrantsOk.j1 n t k b (ng t k).f0 (ng t k).f1 (ng t k).f2 (ng t k).f3) (if b = true then false else if ((t.take k).any fun x => gTwin x (ng t k)) = true then false else gFrom t d (k + 1)) := by
      intro b
      refine Ev.step (f := fun n => if b = true then some false else spec_GrantsOk.l1 n t k 0 (ng t k).f0 (ng t k).f1 (ng t k).f2 (ng t k).f3) (fun n => ?_) (ev_ite (fun _ => Ev.now _) (fun _ => h1))
      simp only [spec_GrantsOk.j1]
    refine Ev.step (f := fun n => spec_GrantsOk.j1 n t k (!gOk (ng t k)) (ng t k).f0 (ng t k).f1 (ng t k).f2 (ng t k).f3) (fun n => ?_) ?_
    · simp only [spec_GrantsOk.l0]
      rw [if_pos (by omega), if_pos (by omega), rd_ng]
      simp only [isid_s, in_s, Option.bind_some]
      cases e0 : byte (ng t k).f0
      · rw [if_neg (by simp)]; simp only [gOk, e0, Bool.false_and, Bool.not_false]
      · rw [if_pos rfl]
        cases e1 : byte (ng t k).f1
        · rw [if_neg (by unfold byte at e1; rw [e1]; simp)]; simp only [gOk, e0, e1, Bool.false_and, Bool.and_false, Bool.not_false]
        · rw [if_pos (by unfold byte at e1; exact e1)]; simp only [gOk, e0, e1, Bool.true_and]; rfl
    · have := hj (!gOk (ng t k))
      have e : (if (!gOk (ng t k)) = true then false else if ((t.take k).any fun x => gTwin x (ng t k)) = true then false else gFrom t d (k + 1)) = gFrom t (d + 1) k := by
        have hb : ∀ (a b : Bool) (x : Bool), (if (!a) = true then false else if b = true then false else x) = (if (!a || b) = true then false else x) := by intro a b x; cases a <;> cases b <;> rfl
        exact hb _ _ _
      rw [e] at this
      exact this
theorem grants_i (t : List S95) (hl : t.length ≤ 8796093022208) (d : Nat) : ∀ k : Nat, t.length - k = d → Ev (fun n => impl_GrantsOk.l0 n t t (t.length : Int) k) (gFrom t d k) := by
  induction d with
  | zero =>
    intro k hd
    refine Ev.step (f := fun _ => some (decide ((t.length : Int) ≤ 40))) (fun n => ?_) (Ev.now _)
    simp only [impl_GrantsOk.l0]
    rw [if_neg (by omega)]
  | succ d ih =>
    intro k hd
    have hn := ih (k + 1) (by omega)
    refine Ev.step (f := fun n => if gBad t k = true then some false else impl_GrantsOk.l0 n t t (t.length : Int) ((k + 1 : Nat) : Int)) (fun n => ?_) (ev_ite (fun _ => Ev.now _) (fun _ => hn))
    simp only [impl_GrantsOk.l0]
    rw [if_pos (by omega), if_pos (by omega), if_pos (by omega), rd_ng, wrap_id (x := (k : Int) + 1) (by omega) (by omega)]
    simp only [isid_i, in_i, Option.bind_some]
    have hc : slices_ContainsFunc__impl_GrantsOk_1.f (t.take k) (ng t k).f0 (ng t k).f1 (ng t k).f2 (ng t k).f3 = some ((t.take k).any fun x => gTwin x (ng t k)) := by
      show anyO (fun x : S95 => some (gTwin x (ng t k))) (t.take k) = _
      rw [anyO_tot]
    cases e0 : byte (ng t k).f0
    · rw [if_neg (by simp), if_pos (by simp [gBad, gOk, e0])]
    · rw [if_pos rfl]
      cases e1 : byte (ng t k).f1
      · rw [if_neg (by unfold byte at e1; rw [e1]; simp), if_pos (by simp [gBad, gOk, e1])]
      · rw [if_pos (by unfold byte at e1; exact e1)]
        cases e2 : byte (ng t k).f2
        · rw [if_neg (by unfold byte at e2; rw [e2]; simp), if_pos (by simp [gBad, gOk, e2])]
        · rw [if_pos (by unfold byte at e2; exact e2), if_pos (by omega), show ((k : Int)).toNat = k from rfl, hc]
          simp only [Option.bind_some, gBad, gOk, e0, e1, e2, Bool.and_self, Bool.not_true, Bool.false_or]
          rfl
def tHit (x : S95) (a v : Int) : Bool := decide (x.f0 = a ∧ x.f1 = wrap64 (Int.tdiv v 256))
def tRes (x : S95) (v : Int) (w : Bool) : Int × Int := if w = true then (if x.f3 = true then (wrap64 ((wrap64 ((x.f2) * 256)) + (Int.tmod v 256)), 0) else (0, 2)) else (wrap64 ((wrap64 ((x.f2) * 256)) + (Int.tmod v 256)), 0)
def tFrom (t : List S95) (a v : Int) (w : Bool) : Nat → Nat → Int × Int
  | 0, _ => (0, 1)
  | d + 1, k => if tHit (ng t k) a v = true then tRes (ng t k) v w else tFrom t a v w d (k + 1)
def tVal (t : List S95) (a v : Int) (w : Bool) : Int × Int := if gFrom t t.length 0 = true ∧ (0 ≤ v ∧ v ≤ 65535) then tFrom t a v w t.length 0 else (0, 1)
theorem find_from (t : List S95) (a v : Int) (w : Bool) (d : Nat) : ∀ k : Nat, t.length - k = d → k ≤ t.length → tFrom t a v w d k = (match (t.drop k).findIdx? (fun x => tHit x a v) with | none => (0, 1) | some i => tRes (ng t (k + i)) v w) := by
  induction d with
  | zero =>
    intro k hd hk
    rw [List.drop_eq_nil_of_le (by omega)]
    rfl
  | succ d ih =>
    intro k hd hk
    have h : k < t.length := by omega
    have hg : ng t k = t[k] := by simp [ng, List.getD, List.getElem?_eq_getElem h]
    rw [List.drop_eq_getElem_cons h, List.findIdx?_cons, ← hg]
    simp only [tFrom]
    by_cases e : tHit (ng t k) a v = true
    · rw [if_pos e, if_pos e]; rfl
    · rw [if_neg e, if_neg e, ih (k + 1) (by omega) (by omega)]
      cases (t.drop (k + 1)).findIdx? (fun x => tHit x a v) with
      | none => rfl
      | some i => show tRes (ng t (k + 1 + i)) v w = tRes (ng t (k + (i + 1))) v w; rw [show k + 1 + i = k + (i + 1) from by omega]
theorem trans_i (t : List S95) (hl : t.length ≤ 8796093022208) (a v : Int) (w : Bool) : Ev (fun n => impl_Translate.f n t a v w) (tVal t a v w) := by
  have hj : ∀ b : Bool, Ev (fun n => impl_Translate.j0 n t w b a v) (if b = true then (0, 1) else tFrom t a v w t.length 0) := by
    intro b
    refine Ev.step (f := fun _ => some (if b = true then (0, 1) else tFrom t a v w t.length 0)) (fun n => ?_) (Ev.now _)
    simp only [impl_Translate.j0]
    cases b
    · rw [if_neg (show ¬ (false = true) from by decide), if_neg (show ¬ (false = true) from by decide)]
      have hi : slices_IndexFunc__impl_Translate_1.f t a v = some (optAt (t.findIdx? fun x => tHit x a v)) := by
        show idxO (fun x : S95 => some (tHit x a v)) t = _
        rw [idxO_tot]
      rw [hi]
      simp only [Option.bind_some]
      rw [find_from t a v w t.length 0 rfl (Nat.zero_le _), List.drop_zero]
      cases hf : t.findIdx? (fun x => tHit x a v) with
      | none => rw [show optAt none = (-1 : Int) from rfl, if_pos (by omega)]
      | some i =>
        have hlt : i < t.length := by
          have := List.findIdx?_eq_some_iff_findIdx_eq.1 hf
          exact this.1
        rw [show optAt (some i) = (i : Int) from rfl, if_neg (by omega), if_pos (show (0 : Int) ≤ (i : Int) by omega), if_pos (show (i : Int) < (t.length : Int) by omega), if_pos (show (0 : Int) ≤ (i : Int) by omega), if_pos (show (i : Int) < (t.length : Int) by omega), rd_ng]
        show _ = some (tRes (ng t (0 + i)) v w)
        rw [show 0 + i = i from by omega]
        unfold tRes
        cases w
        · rw [if_neg (show ¬ (false = true) from by decide), if_neg (show ¬ (false = true) from by decide)]
        · rw [if_pos (show true = true from rfl), if_pos (show true = true from rfl)]
          by_cases h : (ng t i).f3 = true
          · rw [if_pos h, if_pos h]
          · rw [if_neg h, if_neg h]
    · rw [if_pos (show true = true from rfl), if_pos (show true = true from rfl)]
  have hG : Ev (fun n => impl_GrantsOk.f n t) (gFrom t t.length 0) := grants_i t hl _ 0 rfl
  simp only [impl_Translate.f, in_i, Option.bind_some]
  refine Ev.bind hG ?_
  unfold tVal
  by_cases h : gFrom t t.length 0 = true
  · refine ev_pos h ?_
    by_cases h2 : 0 ≤ v ∧ v ≤ 65535
    · rw [if_pos ⟨h, h2⟩, decide_eq_true h2]; exact hj false
    · rw [if_neg (fun x => h2 x.2), decide_eq_false h2]; exact hj true
  · rw [if_neg (fun x => h x.1)]
    exact ev_neg h (hj true)
def trAt (t : List S95) (a v : Int) (w : Bool) (i : Nat) : Int × Int := tVal t a (wrap64 (v + (i : Int))) w
def trFrom (t : List S95) (a v : Int) (w : Bool) : Nat → Nat → List Int → List Int × Int
  | 0, _, acc => (acc, 0)
  | d + 1, i, acc => if (trAt t a v w i).2 = 0 then trFrom t a v w d (i + 1) (acc ++ [(trAt t a v w i).1]) else ([], (trAt t a v w i).2)
def trVal (t : List S95) (a v n : Int) (w : Bool) : List Int × Int := if (1 ≤ n ∧ n ≤ 64) ∧ (0 ≤ v ∧ v ≤ 65535) then trFrom t a v w n.toNat 0 [] else ([], 1)
theorem trFrom_len (t : List S95) (a v : Int) (w : Bool) (d : Nat) : ∀ (i : Nat) (acc : List Int), (trFrom t a v w d i acc).1.length ≤ acc.length + d := by
  induction d with
  | zero => intro i acc; exact Nat.le_refl _
  | succ d ih =>
    intro i acc
    simp only [trFrom]
    split
    · have := ih (i + 1) (acc ++ [(trAt t a v w i).1])
      simp at this; omega
    · simp
theorem trVal_len (t : List S95) (a v n : Int) (w : Bool) : (trVal t a v n w).1.length ≤ 64 := by
  unfold trVal
  split
  · rename_i h
    have := trFrom_len t a v w n.toNat 0 []
    simp at this; omega
  · simp
theorem trange_il (t : List S95) (hl : t.length ≤ 8796093022208) (a v : Int) (w : Bool) (n : Nat) (hn : n ≤ 64) (d : Nat) : ∀ (i : Nat) (acc : List Int), n - i = d → i ≤ n → acc.length = i → Ev (fun k => impl_TranslateRange.l0 k t a v w acc (n : Int) i) (trFrom t a v w d i acc) := by
  induction d with
  | zero =>
    intro i acc hd hi ha
    refine Ev.step (f := fun _ => some (acc, 0)) (fun k => ?_) (Ev.now _)
    simp only [impl_TranslateRange.l0]
    rw [if_neg (by omega)]
  | succ d ih =>
    intro i acc hd hi ha
    have hr := ih (i + 1) (acc ++ [(trAt t a v w i).1]) (by omega) (by omega) (by simp [ha])
    refine Ev.step (f := fun k => (impl_Translate.f k t a (wrap64 (v + (i : Int))) w).bind fun b => (if b.2 = 0 then (if acc.length < 17592186044416 then impl_TranslateRange.l0 k t a v w (acc ++ [b.1]) (n : Int) ((i + 1 : Nat) : Int) else none) else some ([], b.2))) (fun k => ?_) (Ev.bind (trans_i t hl a _ w) ?_)
    · simp only [impl_TranslateRange.l0]
      rw [if_pos (by omega), wrap_id (x := (i : Int) + 1) (by omega) (by omega)]
      rfl
    · simp only [trFrom]
      exact ev_ite (fun _ => ev_pos (by omega) hr) (fun _ => Ev.now _)
theorem trange_i (t : List S95) (hl : t.length ≤ 8796093022208) (a v n : Int) (w : Bool) : Ev (fun k => impl_TranslateRange.f k t a v n w) (trVal t a v n w) := by
  have hj : ∀ b : Bool, (b = false → 1 ≤ n ∧ n ≤ 64) → Ev (fun k => impl_TranslateRange.j0 k t a v n w b) (if b = true then ([], 1) else trFrom t a v w n.toNat 0 []) := by
    intro b hb
    refine Ev.step (f := fun k => if b = true then some ([], 1) else impl_TranslateRange.l0 k t a v w [] n ((0 : Nat) : Int)) (fun k => ?_) (ev_ite (fun _ => Ev.now _) (fun h => ?_))
    · simp only [impl_TranslateRange.j0]
      rfl
    · obtain ⟨h1, h2⟩ := hb (by simpa using h)
      have := trange_il t hl a v w n.toNat (by omega) n.toNat 0 [] rfl (Nat.zero_le _) rfl
      rw [show ((n.toNat : Nat) : Int) = n from by omega] at this
      exact this
  simp only [impl_TranslateRange.f, in_i, Option.bind_some]
  unfold trVal
  by_cases h : 1 ≤ n ∧ n ≤ 64
  · refine ev_pos (decide_eq_true h) ?_
    by_cases h2 : 0 ≤ v ∧ v ≤ 65535
    · rw [if_pos ⟨h, h2⟩, decide_eq_true h2]; exact hj false (fun _ => h)
    · rw [if_neg (fun x => h2 x.2), decide_eq_false h2]; exact hj true (fun x => by cases x)
  · rw [if_neg (fun x => h x.1)]
    exact ev_neg (by simpa using h) (hj true (fun x => by cases x))
theorem and255 (n : Int) : Go.bits .and .i64 n 255 = n % 256 := by
  have h255 : (BitVec.ofInt 64 255).toNat = 2 ^ 8 - 1 := by decide
  have key : (BitVec.ofInt 64 n &&& BitVec.ofInt 64 255).toNat = (n % ((2 ^ 64 : Nat) : Int)).toNat % 2 ^ 8 := by
    rw [BitVec.toNat_and, BitVec.toNat_ofInt, h255, Nat.and_two_pow_sub_one_eq_mod]
  show IntKind.i64.wrap ((BitVec.ofInt 64 n &&& BitVec.ofInt 64 255).toNat : Nat) = n % 256
  rw [key]
  simp only [IntKind.wrap, IntKind.bits, IntKind.signed]
  simp
  omega
/-- Where a draw stands: behind no byte that isn't there. -/
def stOk (xs : List Int) (p : Int) : Prop := 0 ≤ p ∧ p ≤ (xs.length : Int)
theorem byte_ok (xs : List Int) (hl : xs.length ≤ 1048576) (p s : Int) (hp : stOk xs p) : ∃ b p' s', spec_l01Byte.f xs p s = some (b, p', s') ∧ (0 ≤ b ∧ b ≤ 255) ∧ stOk xs p' := by
  unfold stOk at hp
  simp only [spec_l01Byte.f, and255]
  by_cases h : p < (xs.length : Int)
  · rw [if_pos h, if_pos hp.1]
    refine ⟨_, _, _, rfl, ⟨by omega, by omega⟩, ?_⟩
    rw [wrap_id (by omega) (by omega)]
    exact ⟨by omega, by omega⟩
  · rw [if_neg h]
    exact ⟨_, _, _, rfl, ⟨by omega, by omega⟩, hp⟩
theorem below_ok (xs : List Int) (hl : xs.length ≤ 1048576) (p s n : Int) (hp : stOk xs p) (h1 : 1 ≤ n) (h2 : n ≤ 256) : ∃ v p' s', spec_l01Below.f xs p s n = some (v, p', s') ∧ (0 ≤ v ∧ v < n) ∧ stOk xs p' := by
  obtain ⟨b, p', s', hb, hb2, hp'⟩ := byte_ok xs hl p s hp
  refine ⟨Int.tmod b n, p', s', ?_, ⟨Int.tmod_nonneg _ hb2.1, Int.tmod_lt_of_pos _ (by omega)⟩, hp'⟩
  simp only [spec_l01Below.f]
  rw [if_neg (by omega), if_pos h2, hb]
  simp only [Option.bind_some]
  rw [if_neg (by omega)]
theorem new_ok (xs : List Int) (hl : xs.length ≤ 1048576) : ∃ s, Ev (fun k => spec_l01New.f k xs) (xs, 0, s) := by
  have aux : ∀ (d i : Nat) (s : Int), 4000 - i = d → ∃ s', Ev (fun k => spec_l01New.l0 k xs s (i : Int)) (xs, 0, s') := by
    intro d
    induction d with
    | zero =>
      intro i s hd
      refine ⟨s, Ev.step (f := fun _ => some (xs, 0, s)) (fun k => ?_) (Ev.now _)⟩
      simp only [spec_l01New.l0]
      by_cases h : (i : Int) < (xs.length : Int)
      · rw [if_pos h, if_neg (by omega)]
      · rw [if_neg h]
    | succ d ih =>
      intro i s hd
      by_cases h : (i : Int) < (xs.length : Int)
      · obtain ⟨s', hs⟩ := ih (i + 1) (Go.bits .and .i64 (wrap64 ((wrap64 ((wrap64 (s * 131)) + (wrap64 (rd xs i)))) + 7)) 1073741823) (by omega)
        refine ⟨s', Ev.step (f := fun k => spec_l01New.l0 k xs (Go.bits .and .i64 (wrap64 ((wrap64 ((wrap64 (s * 131)) + (wrap64 (rd xs i)))) + 7)) 1073741823) ((i + 1 : Nat) : Int)) (fun k => ?_) hs⟩
        simp only [spec_l01New.l0]
        rw [if_pos h, if_pos (by omega), if_pos (by omega), wrap_id (x := (i : Int) + 1) (by omega) (by omega)]
        rfl
      · refine ⟨s, Ev.step (f := fun _ => some (xs, 0, s)) (fun k => ?_) (Ev.now _)⟩
        simp only [spec_l01New.l0]
        rw [if_neg h]
  exact aux 4000 0 _ rfl
theorem st0 (xs : List Int) : stOk xs 0 := ⟨by omega, by omega⟩
theorem belowbig_ok (xs : List Int) (hl : xs.length ≤ 1048576) (p s n : Int) (hp : stOk xs p) (h1 : 256 < n) : ∃ v p' s', spec_l01Below.f xs p s n = some (v, p', s') ∧ (0 ≤ v ∧ v < n) ∧ stOk xs p' := by
  obtain ⟨a, p1, s1, e1, ha, q1⟩ := byte_ok xs hl p s hp
  obtain ⟨b, p2, s2, e2, hb, q2⟩ := byte_ok xs hl p1 s1 q1
  obtain ⟨c, p3, s3, e3, hc, q3⟩ := byte_ok xs hl p2 s2 q2
  obtain ⟨d, p4, s4, e4, hd, q4⟩ := byte_ok xs hl p3 s3 q3
  refine ⟨Int.tmod (a * 16777216 + b * 65536 + c * 256 + d) n, p4, s4, ?_, ⟨Int.tmod_nonneg _ (by omega), Int.tmod_lt_of_pos _ (by omega)⟩, q4⟩
  simp only [spec_l01Below.f]
  rw [if_neg (by omega), if_neg (by omega), e1]
  simp only [Option.bind_some, e2, e3, e4]
  rw [if_neg (by omega)]
  rw [wrap_id (x := a * 16777216) (by omega) (by omega), wrap_id (x := b * 65536) (by omega) (by omega), wrap_id (x := c * 256) (by omega) (by omega), wrap_id (x := a * 16777216 + b * 65536) (by omega) (by omega), wrap_id (x := a * 16777216 + b * 65536 + c * 256) (by omega) (by omega), wrap_id (x := a * 16777216 + b * 65536 + c * 256 + d) (by omega) (by omega)]
theorem once_ok (xs : List Int) (hl : xs.length ≤ 1048576) (p s n : Int) (hp : stOk xs p) (h1 : 1 ≤ n) (h2 : n ≤ 256) : ∃ v p' s', spec_l01Once.f xs p s n = some (v, p', s') ∧ stOk xs p' := by
  obtain ⟨b, p', s', hb, _, hp'⟩ := below_ok xs hl p s n hp h1 h2
  refine ⟨(b == 0), p', s', ?_, hp'⟩
  simp only [spec_l01Once.f, hb, Option.bind_some]
theorem grants_l (xs : List Int) (hl : xs.length ≤ 1048576) (d : Nat) : ∀ (i : Nat) (t : List S95) (p s : Int), 8 - i = d → i ≤ 8 → t.length ≤ i → stOk xs p → ∃ t' p' s', Ev (fun k => spec_l36Grants.l0 k t (i : Int) xs p s) (t', p', s') ∧ t'.length ≤ 8 ∧ stOk xs p' := by
  induction d with
  | zero =>
    intro i t p s hd hi ht hp
    obtain ⟨v, p1, s1, e1, hv, hp1⟩ := below_ok xs hl p s 9 hp (by omega) (by omega)
    refine ⟨t, p1, s1, Ev.step (f := fun _ => some (t, p1, s1)) (fun k => ?_) (Ev.now _), by omega, hp1⟩
    simp only [spec_l36Grants.l0, e1, Option.bind_some]
    rw [if_neg (by omega)]
  | succ d ih =>
    intro i t p s hd hi ht hp
    obtain ⟨v, p1, s1, e1, hv, hp1⟩ := below_ok xs hl p s 9 hp (by omega) (by omega)
    by_cases h : (i : Int) < v
    · obtain ⟨a, p2, s2, e2, ha, hp2⟩ := below_ok xs hl p1 s1 3 hp1 (by omega) (by omega)
      obtain ⟨b, p3, s3, e3, hb, hp3⟩ := below_ok xs hl p2 s2 4 hp2 (by omega) (by omega)
      obtain ⟨c, p4, s4, e4, hc, hp4⟩ := below_ok xs hl p3 s3 6 hp3 (by omega) (by omega)
      obtain ⟨w, p5, s5, e5, hp5⟩ := once_ok xs hl p4 s4 3 hp4 (by omega) (by omega)
      obtain ⟨u, hu⟩ : ∃ u, u = t ++ [(⟨wrap64 (16 + a), b, c, !w⟩ : S95)] := ⟨_, rfl⟩
      have hul : u.length = t.length + 1 := by rw [hu]; simp
      obtain ⟨t1, q1, r1, x1, y1, z1⟩ := ih (i + 1) t p5 s5 (by omega) (by omega) (by omega) hp5
      obtain ⟨t2, q2, r2, x2, y2, z2⟩ := ih (i + 1) u p5 s5 (by omega) (by omega) (by omega) hp5
      have hG : Ev (fun n => spec_GrantsOk.f n u) (gFrom u u.length 0) := grants_s0 u (by omega) _ 0 rfl
      have hst : ∀ k : Nat, spec_l36Grants.l0 (k + 1) t (i : Int) xs p s = (spec_GrantsOk.f k u).bind fun z => if z = true then spec_l36Grants.l0 k u ((i + 1 : Nat) : Int) xs p5 s5 else spec_l36Grants.l0 k t ((i + 1 : Nat) : Int) xs p5 s5 := by
        intro k
        simp only [spec_l36Grants.l0, e1, e2, e3, e4, e5, Option.bind_some, List.nil_append, List.length_nil, List.length_singleton]
        rw [if_pos h, if_pos (by omega), if_pos (by omega), wrap_id (x := (i : Int) + 1) (by omega) (by omega), ← hu]
        rfl
      by_cases hn : gFrom u u.length 0 = true
      · exact ⟨t2, q2, r2, Ev.step (f := fun k => (spec_GrantsOk.f k u).bind fun z => if z = true then spec_l36Grants.l0 k u ((i + 1 : Nat) : Int) xs p5 s5 else spec_l36Grants.l0 k t ((i + 1 : Nat) : Int) xs p5 s5) hst (Ev.bind hG (ev_pos hn x2)), y2, z2⟩
      · exact ⟨t1, q1, r1, Ev.step (f := fun k => (spec_GrantsOk.f k u).bind fun z => if z = true then spec_l36Grants.l0 k u ((i + 1 : Nat) : Int) xs p5 s5 else spec_l36Grants.l0 k t ((i + 1 : Nat) : Int) xs p5 s5) hst (Ev.bind hG (ev_neg hn x1)), y1, z1⟩
    · refine ⟨t, p1, s1, Ev.step (f := fun _ => some (t, p1, s1)) (fun k => ?_) (Ev.now _), by omega, hp1⟩
      simp only [spec_l36Grants.l0, e1, Option.bind_some]
      rw [if_neg h]
theorem drawgrants_ok (xs : List Int) (hl : xs.length ≤ 1048576) : ∃ t, Ev (fun k => spec_DrawGrants.f k xs) t ∧ t.length ≤ 8 := by
  obtain ⟨s0, h0⟩ := new_ok xs hl
  obtain ⟨t, p1, s1, h1, ht, _⟩ := grants_l xs hl 8 0 [] 0 s0 rfl (by omega) (Nat.le_refl _) (st0 xs)
  refine ⟨t, ?_, ht⟩
  simp only [spec_DrawGrants.f, spec_l36Grants.f]
  exact Ev.bind h0 (Ev.bind h1 (Ev.now _))
theorem places_l (xs : List Int) (hl : xs.length ≤ 1048576) (d : Nat) : ∀ (i : Nat) (l : List Int) (p s : Int), 12 - i = d → i ≤ 12 → l.length = i → (∀ x ∈ l, 0 ≤ x ∧ x < 10000) → stOk xs p → ∃ l', Ev (fun k => spec_DrawPlaces.l0 k l (i : Int) xs p s) l' ∧ l'.length = 12 ∧ ∀ x ∈ l', 0 ≤ x ∧ x < 10000 := by
  induction d with
  | zero =>
    intro i l p s hd hi h1 h2 hp
    refine ⟨l, Ev.step (f := fun _ => some l) (fun k => ?_) (Ev.now _), by omega, h2⟩
    simp only [spec_DrawPlaces.l0]
    rw [if_neg (by omega)]
  | succ d ih =>
    intro i l p s hd hi h1 h2 hp
    obtain ⟨v, p1, s1, e1, hv, hp1⟩ := belowbig_ok xs hl p s 10000 hp (by omega)
    obtain ⟨l', x1, x2, x3⟩ := ih (i + 1) (l ++ [v]) p1 s1 (by omega) (by omega) (by simp [h1]) (fun x hx => by
      rcases List.mem_append.1 hx with e | e
      · exact h2 x e
      · rw [List.mem_singleton] at e; omega) hp1
    refine ⟨l', Ev.step (f := fun k => spec_DrawPlaces.l0 k (l ++ [v]) ((i + 1 : Nat) : Int) xs p1 s1) (fun k => ?_) x1, x2, x3⟩
    simp only [spec_DrawPlaces.l0, e1, Option.bind_some]
    rw [if_pos (by omega), if_pos (by omega), wrap_id (x := (i : Int) + 1) (by omega) (by omega)]
    rfl
theorem places_ok (xs : List Int) (hl : xs.length ≤ 1048576) : ∃ l, Ev (fun k => spec_DrawPlaces.f k xs) l ∧ l.length = 12 ∧ ∀ x ∈ l, 0 ≤ x ∧ x < 10000 := by
  obtain ⟨s0, h0⟩ := new_ok xs hl
  obtain ⟨l, h1, h2, h3⟩ := places_l xs hl 12 0 [] 0 s0 rfl (by omega) rfl (fun x hx => by cases hx) (st0 xs)
  refine ⟨l, ?_, h2, h3⟩
  simp only [spec_DrawPlaces.f]
  exact Ev.bind h0 h1
theorem tr_good (t : List S95) (a v : Int) (w : Bool) (d : Nat) : ∀ (i : Nat) (acc : List Int), (∀ j : Nat, i ≤ j → j < i + d → (trAt t a v w j).2 = 0) → trFrom t a v w d i acc = (acc ++ (List.range d).map (fun j => (trAt t a v w (i + j)).1), 0) := by
  induction d with
  | zero => intro i acc h; simp [trFrom]
  | succ d ih =>
    intro i acc h
    simp only [trFrom]
    rw [if_pos (h i (Nat.le_refl _) (by omega)), ih (i + 1) _ (fun j h1 h2 => h j (by omega) (by omega)), List.range_succ_eq_map]
    simp only [List.map_cons, List.map_map, List.append_assoc, List.singleton_append, Nat.add_zero]
    congr 4
    funext j
    show (trAt t a v w (i + 1 + j)).1 = (trAt t a v w (i + (j + 1))).1
    rw [show i + 1 + j = i + (j + 1) from by omega]
theorem tr_bad (t : List S95) (a v : Int) (w : Bool) (b : Nat) (hb : (trAt t a v w b).2 ≠ 0) (d : Nat) : ∀ (i : Nat) (acc : List Int), i ≤ b → b < i + d → (∀ j : Nat, i ≤ j → j < b → (trAt t a v w j).2 = 0) → trFrom t a v w d i acc = ([], (trAt t a v w b).2) := by
  induction d with
  | zero => intro i acc h1 h2; omega
  | succ d ih =>
    intro i acc h1 h2 h
    simp only [trFrom]
    rcases Nat.eq_or_lt_of_le h1 with e | e
    · subst e
      rw [if_neg hb]
    · rw [if_pos (h i (Nat.le_refl _) e)]
      exact ih (i + 1) _ (by omega) (by omega) (fun j h3 h4 => h j (by omega) h4)
theorem ranges_l (t : List S95) (ht : t.length ≤ 8796093022208) (pl : List Int) (hpl : 0 < pl.length) (v : Int) (w : Bool) (n : Nat) (hn : n ≤ 64) (hv : Int.tmod (rd pl 0) 1024 = v) (d : Nat) : ∀ i : Nat, n - i = d → i ≤ n → (∀ j : Nat, j < i → (trAt t 16 v w j).2 = 0) → Ev (fun k => laws_FnRanges.l0 k t pl (n : Int) w (trFrom t 16 v w n 0 []).1 (trFrom t 16 v w n 0 []).2 (i : Int)) true := by
  induction d with
  | zero =>
    intro i hd hi hg
    have e : i = n := by omega
    subst e
    have hR := tr_good t 16 v w i 0 [] (fun j _ h2 => hg j (by omega))
    rw [hR]
    refine Ev.step (f := fun _ => some true) (fun k => ?_) (Ev.now _)
    simp only [laws_FnRanges.l0]
    rw [if_neg (by omega), if_pos trivial]
    simp
  | succ d ih =>
    intro i hd hi hg
    have hT := trans_i t ht 16 (wrap64 (v + (i : Int))) w
    refine Ev.step (fun z => by simp only [laws_FnRanges.l0]; rw [if_pos (show (i : Int) < (n : Int) by omega), if_pos (show (0 : Int) < (pl.length : Int) by omega), hv, wrap_id (x := (i : Int) + 1) (by omega) (by omega)]) ?_
    refine Ev.bind hT ?_
    by_cases hc : (trAt t 16 v w i).2 = 0
    · have hn2 := ih (i + 1) (by omega) (by omega) (fun j hj => by
        rcases Nat.eq_or_lt_of_le (Nat.le_of_lt_succ hj) with e | e
        · subst e; exact hc
        · exact hg j e)
      refine ev_pos hc ?_
      by_cases hz : (trFrom t 16 v w n 0 []).2 = 0
      · have hall : ∀ j : Nat, j < n → (trAt t 16 v w j).2 = 0 := by
          intro j
          induction j using Nat.strongRecOn with
          | ind j ihj =>
            intro hj
            refine Classical.byContradiction fun hne => ?_
            have := tr_bad t 16 v w j hne n 0 [] (Nat.zero_le _) (by omega) (fun q _ h4 => ihj q h4 (by omega))
            rw [this] at hz
            exact hne hz
        have hR := tr_good t 16 v w n 0 [] (fun j _ h2 => hall j (by omega))
        refine ev_pos hz ?_
        have hlen : (trFrom t 16 v w n 0 []).1.length = n := by rw [hR]; simp
        refine ev_pos (by omega) (ev_pos (by omega) (ev_pos (by omega) (ev_pos ?_ hn2)))
        rw [hR]
        show ([] ++ (List.range n).map (fun j => (trAt t 16 v w (0 + j)).1)).getD i 0 = (trAt t 16 v w i).1
        rw [List.nil_append, List.getD_eq_getElem?_getD, List.getElem?_map, List.getElem?_range (by omega)]
        simp
      · exact ev_neg hz hn2
    · have hR := tr_bad t 16 v w i hc n 0 [] (Nat.zero_le _) (by omega) (fun j _ h2 => hg j h2)
      refine ev_neg hc (ev_pos (by rw [hR]; rfl) (ev_to (Ev.now _) ?_))
      rw [hR]; rfl
theorem FnRanges : ∀ (x0 : List (Int)), (x0.length * 1 ≤ 140737488351232 ∧ x0.length ≤ maxLen ∧ ∀ y ∈ x0, (Lit.int .u8 y).wf = true) → ∃ k, laws_FnRanges.f k x0 = some true := by
  intro l _
  refine Ev.rounds (g := fun n => laws_FnRanges.f n l) ?_
  simp only [laws_FnRanges.f, laws_big.f, Option.bind_some]
  by_cases hbig : (l.length : Int) > 1048576
  · exact ev_pos (decide_eq_true hbig) (Ev.now _)
  refine ev_neg (by simpa using hbig) ?_
  obtain ⟨t, hG, htl⟩ := drawgrants_ok l (by omega)
  obtain ⟨pl, hP, hpl, hpv⟩ := places_ok l (by omega)
  have hge : ∀ j : Nat, j < 12 → 0 ≤ rd pl (j : Int) := by
    intro j hj
    have h1 : rd pl (j : Int) ∈ pl := by
      show pl.getD j 0 ∈ pl
      rw [List.getD_eq_getElem?_getD, List.getElem?_eq_getElem (show j < pl.length by omega)]
      exact List.getElem_mem _
    exact (hpv _ h1).1
  have h0 := hge 0 (by omega)
  have h1 := hge 1 (by omega)
  have a0 := Int.tmod_nonneg 1024 h0
  have b0 := Int.tmod_lt_of_pos (rd pl ((0 : Nat) : Int)) (show (0 : Int) < 1024 by omega)
  have a1 := Int.tmod_nonneg 64 h1
  have b1 := Int.tmod_lt_of_pos (rd pl ((1 : Nat) : Int)) (show (0 : Int) < 64 by omega)
  obtain ⟨v, hv⟩ : ∃ v, Int.tmod (rd pl 0) 1024 = v := ⟨_, rfl⟩
  obtain ⟨n, hn⟩ : ∃ n : Nat, wrap64 (1 + (Int.tmod (rd pl 1) 64)) = (n : Int) := by
    have a1' : 0 ≤ Int.tmod (rd pl 1) 64 := a1
    have b1' : Int.tmod (rd pl 1) 64 < 64 := b1
    rw [wrap_id (by omega) (by omega)]
    exact ⟨(1 + (Int.tmod (rd pl 1) 64)).toNat, by omega⟩
  have hn1 : 1 ≤ n ∧ n ≤ 64 := by
    have a1' : 0 ≤ Int.tmod (rd pl 1) 64 := a1
    have b1' : Int.tmod (rd pl 1) 64 < 64 := b1
    rw [wrap_id (by omega) (by omega)] at hn
    omega
  have hv1 : 0 ≤ v ∧ v < 1024 := by
    have a0' : 0 ≤ Int.tmod (rd pl 0) 1024 := a0
    have b0' : Int.tmod (rd pl 0) 1024 < 1024 := b0
    omega
  have hT := trange_i t (by omega) 16 v (n : Int) ((Int.tmod (rd pl 2) 2) == 0)
  have hV : trVal t 16 v (n : Int) ((Int.tmod (rd pl 2) 2) == 0) = trFrom t 16 v ((Int.tmod (rd pl 2) 2) == 0) n 0 [] := by
    unfold trVal
    rw [if_pos ⟨by omega, by omega⟩]
    rfl
  rw [hV] at hT
  have hL := ranges_l t (by omega) pl (by omega) v ((Int.tmod (rd pl 2) 2) == 0) n hn1.2 hv n 0 rfl (Nat.zero_le _) (fun j hj => by omega)
  refine Ev.bind hG (Ev.bind hP (ev_pos (by omega) (ev_pos (by omega) (ev_pos (by omega) ?_))))
  simp only [hv, hn]
  exact Ev.bind hT hL

end Go.Proofs.Yteeklekfafedcaa.Pure

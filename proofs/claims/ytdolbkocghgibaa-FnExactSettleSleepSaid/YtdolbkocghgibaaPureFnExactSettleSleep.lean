/- The law FnExactSettleSleep over numbers and lists. No condition beyond the bounds of what a Go value may be. -/
import Derived.Test.YtdolbkocghgibaaEvl
import Derived.Test.YtdolbkocghgibaaHof
import Derived.Test.YtdolbkocghgibaaPFnExactSettleSleepx7
namespace Go.Proofs.Ytdolbkocghgibaa.Pure
open Go.RowKit Go.Proofs.Ytdolbkocghgibaa.PFnExactSettleSleep Go.Proofs.YtdolbkocghgibaaW.PrintWords Go.Proofs.YtdolbkocghgibaaW.PrintLast Go.Proofs.YtdolbkocghgibaaW.PrintMore Go.Proofs.Ytdolbkocghgibaa.Evl
set_option linter.unusedVariables false
set_option linter.unusedSimpArgs false

def wf92 (x : S92) : Prop := ((Lit.int .i64 x.f0).wf = true) ∧ ((Lit.int .i64 x.f1).wf = true) ∧ ((Lit.int .i64 x.f2).wf = true)

def toN (x : S92) : S77 := ⟨x.f0, x.f1, x.f2⟩
theorem toNodeS_l (l : List S92) (hl : l.length ≤ 11728124029610) (d : Nat) : ∀ (xs : List S77) (i : Nat), xs.length = l.length → l.length - i = d → i ≤ l.length → xs.take i = (l.take i).map toN →
    Ev (fun k => laws_toNodeS.l0 k l xs i) (l.map toN) := by
  induction d with
  | zero =>
    intro xs i hx hd hi ht
    refine Ev.step (f := fun _ => some (l.map toN)) (fun k => ?_) (Ev.now _)
    simp only [laws_toNodeS.l0]
    rw [if_neg (by omega)]
    rw [List.take_of_length_le (by omega), List.take_of_length_le (by omega)] at ht
    rw [ht]
  | succ d ih =>
    intro xs i hx hd hi ht
    refine Ev.step (f := fun k => laws_toNodeS.l0 k l (xs.set i (toN (l.getD i z92))) (i + 1 : Nat)) (fun k => ?_) (ih _ _ (by simpa using hx) (by omega) (by omega) (take_set_map toN l xs i z92 hx (by omega) ht))
    simp only [laws_toNodeS.l0, laws_toNode.f, Option.bind_some]
    rw [if_pos (by omega), if_pos (by omega), if_pos (by omega), wrap_id (x := (i : Int) + 1) (by omega) (by omega)]
    rfl
theorem toNodeS_ev (l : List S92) (hl : l.length ≤ 11728124029610) : Ev (fun k => laws_toNodeS.f k l) (l.map toN) := by
  refine Ev.congr (f := fun k => laws_toNodeS.l0 k l (List.replicate l.length z77) (0 : Nat)) (fun k => ?_) (toNodeS_l l hl l.length _ 0 (by simp) (by omega) (by omega) (by simp))
  simp only [laws_toNodeS.f]
  rw [if_pos (by omega), if_pos (by omega)]
  rfl
theorem eqNode_self (x : S77) : laws_eqNode.f x.f0 x.f1 x.f2 x.f0 x.f1 x.f2 = some true := by simp [laws_eqNode.f]
theorem eqNodeS_l (l : List S77) (hl : l.length ≤ 11728124029610) (d : Nat) : ∀ i : Nat, l.length - i = d → Ev (fun k => laws_eqNodeS.l0 k l l i) true := by
  induction d with
  | zero =>
    intro i hd
    refine Ev.step (f := fun _ => some true) (fun k => ?_) (Ev.now _)
    simp only [laws_eqNodeS.l0]
    rw [if_neg (by omega)]
  | succ d ih =>
    intro i hd
    refine Ev.step (f := fun k => laws_eqNodeS.l0 k l l (i + 1 : Nat)) (fun k => ?_) (ih _ (by omega))
    simp only [laws_eqNodeS.l0, eqNode_self, Option.bind_some]
    rw [if_pos (by omega), if_pos (by omega), if_pos (by omega), if_pos trivial, wrap_id (x := (i : Int) + 1) (by omega) (by omega)]
    rfl
theorem eqNodeS_ev (l : List S77) (hl : l.length ≤ 11728124029610) : Ev (fun k => laws_eqNodeS.f k l l) true := by
  simp only [laws_eqNodeS.f]
  exact ev_pos trivial (eqNodeS_l l hl l.length 0 (by omega))
theorem sz_node (l : List S92) (hl : l.length ≤ 11728124029610) (m : Int) (h0 : 0 ≤ m) (h1 : m ≤ 1048576) : laws_szNodeS.f l m = some (if (l.length : Int) ≤ m then m - (l.length : Int) else -1) := by
  simp only [laws_szNodeS.f]
  rw [wrap_id (by omega) (by omega)]
  by_cases h : (l.length : Int) ≤ m
  · rw [if_neg (by omega), if_pos h]
  · rw [if_pos (by omega), if_neg h]
theorem gset_self {α : Type} (l : List α) (i : Nat) (a z : α) (h : i < l.length) : (l.set i a).getD i z = a := by
  simp [List.getD_eq_getElem?_getD, List.getElem?_set, h]
theorem gset_ne {α : Type} (l : List α) (i j : Nat) (a z : α) (h : i ≠ j) : (l.set i a).getD j z = l.getD j z := by
  simp [List.getD_eq_getElem?_getD, List.getElem?_set, h]
theorem rdN (l : List S77) (i : Nat) : rd_T77 l (i : Int) = l.getD i z77 := rfl
def nmk (k : Int) (j : Nat) : S77 := ⟨k + 3 * (j : Int), k + 3 * (j : Int) + 1, k + 3 * (j : Int) + 2⟩
theorem markNodeS_l (k : Int) (h0 : 0 ≤ k) (len : Nat) (hl : k + 3 * (len : Int) ≤ 1152921504606846976) (d : Nat) : ∀ (xs : List S77) (i : Nat), xs.length = len → len - i = d → i ≤ len → (∀ j : Nat, j < i → xs.getD j z77 = nmk k j) →
    ∃ ys : List S77, Ev (fun n => laws_markNodeS.l0 n xs (k + 3 * (i : Int)) i) (k + 3 * (len : Int), ys) ∧ ys.length = len ∧ ∀ j : Nat, j < len → ys.getD j z77 = nmk k j := by
  induction d with
  | zero =>
    intro xs i hx hd hi hm
    have e : i = len := by omega
    subst e
    refine ⟨xs, Ev.step (f := fun _ => some (k + 3 * (i : Int), xs)) (fun n => ?_) (Ev.now _), hx, hm⟩
    simp only [laws_markNodeS.l0]
    rw [if_neg (by omega)]
  | succ d ih =>
    intro xs i hx hd hi hm
    have hlt : i < xs.length := by omega
    obtain ⟨ys, h1, h2, h3⟩ := ih (xs.set i (nmk k i)) (i + 1) (by simpa using hx) (by omega) (by omega) (by
      intro j hj
      rcases Nat.eq_or_lt_of_le (Nat.le_of_lt_succ hj) with e | e
      · subst e; exact gset_self _ _ _ _ hlt
      · rw [gset_ne _ _ _ _ _ (by omega)]; exact hm j e)
    refine ⟨ys, Ev.step (f := fun n => laws_markNodeS.l0 n (xs.set i (nmk k i)) (k + 3 * ((i + 1 : Nat) : Int)) ((i + 1 : Nat) : Int)) (fun n => ?_) h1, h2, h3⟩
    simp only [laws_markNodeS.l0]
    rw [if_pos (by omega), if_pos (by omega)]
    simp only [Option.bind_some, Int.toNat_natCast]
    rw [rdN, rdN, rdN]
    rw [gset_self _ _ _ _ hlt, gset_self _ _ _ _ (by simpa using hlt), List.set_set, List.set_set]
    rw [wrap_id (x := k + 3 * (i : Int) + 1) (by omega) (by omega), wrap_id (x := k + 3 * (i : Int) + 1 + 1) (by omega) (by omega), wrap_id (x := k + 3 * (i : Int) + 1 + 1 + 1) (by omega) (by omega), wrap_id (x := (i : Int) + 1) (by omega) (by omega)]
    rw [show k + 3 * (i : Int) + 1 + 1 + 1 = k + 3 * ((i + 1 : Nat) : Int) from by omega, show (i : Int) + 1 = ((i + 1 : Nat) : Int) from rfl, show k + 3 * (i : Int) + 1 + 1 = k + 3 * (i : Int) + 2 from by omega]
    rfl
theorem nodeS_mark (xs : List S77) (hl : xs.length ≤ 2097152) (k : Int) (h0 : 0 ≤ k) (h1 : k ≤ 1000000000000) : ∃ ys : List S77, Ev (fun n => laws_markNodeS.f n xs k) (k + 3 * (xs.length : Int), ys) ∧ ys.length = xs.length := by
  obtain ⟨ys, a, b, c⟩ := markNodeS_l k h0 xs.length (by omega) xs.length xs 0 rfl rfl (Nat.zero_le _) (fun j hj => by omega)
  refine ⟨ys, ?_, b⟩
  have : Ev (fun n => laws_markNodeS.l0 n xs (k + 3 * ((0 : Nat) : Int)) ((0 : Nat) : Int)) (k + 3 * (xs.length : Int), ys) := a
  rw [show k + 3 * ((0 : Nat) : Int) = k from by omega] at this
  exact this
theorem toIntS_l (l : List Int) (hl : l.length ≤ 35184372088832) (d : Nat) : ∀ (xs : List Int) (i : Nat), xs.length = l.length → l.length - i = d → i ≤ l.length → xs.take i = (l.take i).map (fun x => x) →
    Ev (fun k => laws_toIntS.l0 k l xs i) l := by
  induction d with
  | zero =>
    intro xs i hx hd hi ht
    refine Ev.step (f := fun _ => some l) (fun k => ?_) (Ev.now _)
    simp only [laws_toIntS.l0]
    rw [if_neg (by omega)]
    rw [List.take_of_length_le (by omega), List.take_of_length_le (by omega)] at ht
    rw [ht]; simp
  | succ d ih =>
    intro xs i hx hd hi ht
    refine Ev.step (f := fun k => laws_toIntS.l0 k l (xs.set i (l.getD i 0)) (i + 1 : Nat)) (fun k => ?_) (ih _ _ (by simpa using hx) (by omega) (by omega) (take_set_map (fun x => x) l xs i 0 hx (by omega) ht))
    simp only [laws_toIntS.l0]
    rw [if_pos (by omega), if_pos (by omega), if_pos (by omega), wrap_id (x := (i : Int) + 1) (by omega) (by omega)]
    rfl
theorem toIntS_ev (l : List Int) (hl : l.length ≤ 35184372088832) : Ev (fun k => laws_toIntS.f k l) l := by
  refine Ev.congr (f := fun k => laws_toIntS.l0 k l (List.replicate l.length 0) (0 : Nat)) (fun k => ?_) (toIntS_l l hl l.length _ 0 (by simp) (by omega) (by omega) (by simp))
  simp only [laws_toIntS.f]
  rw [if_pos (by omega), if_pos (by omega)]
  rfl
theorem eqIntS_l (l : List Int) (hl : l.length ≤ 11728124029610) (d : Nat) : ∀ i : Nat, l.length - i = d → Ev (fun k => laws_eqIntS.l0 k l l i) true := by
  induction d with
  | zero =>
    intro i hd
    refine Ev.step (f := fun _ => some true) (fun k => ?_) (Ev.now _)
    simp only [laws_eqIntS.l0]
    rw [if_neg (by omega)]
  | succ d ih =>
    intro i hd
    refine Ev.step (f := fun k => laws_eqIntS.l0 k l l (i + 1 : Nat)) (fun k => ?_) (ih _ (by omega))
    simp only [laws_eqIntS.l0]
    rw [if_pos (by omega), if_pos (by omega), if_pos (by omega), if_pos trivial, wrap_id (x := (i : Int) + 1) (by omega) (by omega)]
    rfl
theorem eqIntS_ev (l : List Int) (hl : l.length ≤ 11728124029610) : Ev (fun k => laws_eqIntS.f k l l) true := by
  simp only [laws_eqIntS.f]
  exact ev_pos trivial (eqIntS_l l hl l.length 0 (by omega))
theorem rdI (l : List Int) (i : Nat) : rd l (i : Int) = l.getD i 0 := rfl
theorem markIntS_l (k : Int) (h0 : 0 ≤ k) (len : Nat) (hl : k + (len : Int) ≤ 1152921504606846976) (d : Nat) : ∀ (xs : List Int) (i : Nat), xs.length = len → len - i = d → i ≤ len → (∀ j : Nat, j < i → xs.getD j 0 = k + (j : Int)) →
    ∃ ys : List Int, Ev (fun n => laws_markIntS.l0 n xs (k + (i : Int)) i) (k + (len : Int), ys) ∧ ys.length = len ∧ ∀ j : Nat, j < len → ys.getD j 0 = k + (j : Int) := by
  induction d with
  | zero =>
    intro xs i hx hd hi hm
    have e : i = len := by omega
    subst e
    refine ⟨xs, Ev.step (f := fun _ => some (k + (i : Int), xs)) (fun n => ?_) (Ev.now _), hx, hm⟩
    simp only [laws_markIntS.l0]
    rw [if_neg (by omega)]
  | succ d ih =>
    intro xs i hx hd hi hm
    have hlt : i < xs.length := by omega
    obtain ⟨ys, h1, h2, h3⟩ := ih (xs.set i (k + (i : Int))) (i + 1) (by simpa using hx) (by omega) (by omega) (by
      intro j hj
      rcases Nat.eq_or_lt_of_le (Nat.le_of_lt_succ hj) with e | e
      · subst e; exact gset_self _ _ _ _ hlt
      · rw [gset_ne _ _ _ _ _ (by omega)]; exact hm j e)
    refine ⟨ys, Ev.step (f := fun n => laws_markIntS.l0 n (xs.set i (k + (i : Int))) (k + ((i + 1 : Nat) : Int)) ((i + 1 : Nat) : Int)) (fun n => ?_) h1, h2, h3⟩
    simp only [laws_markIntS.l0]
    rw [if_pos (by omega), if_pos (by omega), wrap_id (x := k + (i : Int) + 1) (by omega) (by omega), wrap_id (x := (i : Int) + 1) (by omega) (by omega), show k + (i : Int) + 1 = k + ((i + 1 : Nat) : Int) from by omega]
    rfl
theorem heldIntS_l (k : Int) (h0 : 0 ≤ k) (ys : List Int) (hl : k + (ys.length : Int) ≤ 1152921504606846976) (hm : ∀ j : Nat, j < ys.length → ys.getD j 0 = k + (j : Int)) (d : Nat) : ∀ i : Nat, ys.length - i = d → i ≤ ys.length →
    Ev (fun n => laws_heldIntS.l0 n ys (k + (i : Int)) i) (k + (ys.length : Int)) := by
  induction d with
  | zero =>
    intro i hd hi
    have e : i = ys.length := by omega
    subst e
    refine Ev.step (f := fun _ => some (k + (ys.length : Int))) (fun n => ?_) (Ev.now _)
    simp only [laws_heldIntS.l0]
    rw [if_neg (by omega)]
  | succ d ih =>
    intro i hd hi
    refine Ev.step (f := fun n => laws_heldIntS.l0 n ys (k + ((i + 1 : Nat) : Int)) ((i + 1 : Nat) : Int)) (fun n => ?_) (ih (i + 1) (by omega) (by omega))
    simp only [laws_heldIntS.l0]
    rw [if_pos (by omega), if_pos (by omega), rdI, hm i (by omega), if_pos rfl, wrap_id (x := k + (i : Int) + 1) (by omega) (by omega), wrap_id (x := (i : Int) + 1) (by omega) (by omega), show k + (i : Int) + 1 = k + ((i + 1 : Nat) : Int) from by omega]
    rfl
theorem intS_marks (xs : List Int) (hl : xs.length ≤ 2097152) (k : Int) (h0 : 0 ≤ k) (h1 : k ≤ 1000000000000) : ∃ ys : List Int, Ev (fun n => laws_markIntS.f n xs k) (k + (xs.length : Int), ys) ∧ ys.length = xs.length ∧ Ev (fun n => laws_heldIntS.f n ys k) (k + (xs.length : Int)) := by
  obtain ⟨ys, a, b, c⟩ := markIntS_l k h0 xs.length (by omega) xs.length xs 0 rfl rfl (Nat.zero_le _) (fun j hj => by omega)
  refine ⟨ys, ?_, b, ?_⟩
  · have : Ev (fun n => laws_markIntS.l0 n xs (k + ((0 : Nat) : Int)) ((0 : Nat) : Int)) (k + (xs.length : Int), ys) := a
    rw [show k + ((0 : Nat) : Int) = k from by omega] at this
    exact this
  · have := heldIntS_l k h0 ys (by omega) (by rw [b]; exact c) ys.length 0 rfl (Nat.zero_le _)
    rw [show k + ((0 : Nat) : Int) = k from by omega, b] at this
    exact this
theorem in_i (a b c : Int) : impl_within.f a b c = some (decide (b ≤ a ∧ a ≤ c)) := by
  unfold impl_within.f
  by_cases h : a ≥ b
  · rw [if_pos h]; simp [h]
  · rw [if_neg h]; simp [h]
theorem some_beq (b : Bool) : ((some b : Option Bool) == some true) = b := by cases b <;> rfl
theorem anyO_tot {α : Type} (p : α → Bool) (l : List α) : anyO (fun x => some (p x)) l = some (l.any p) := by
  unfold anyO
  rw [if_pos (by simp)]
  simp only [some_beq]
theorem idxO_tot {α : Type} (p : α → Bool) (l : List α) : idxO (fun x => some (p x)) l = some (optAt (l.findIdx? p)) := by
  unfold idxO
  rw [if_pos (by simp)]
  simp only [some_beq]
/-- What it is to be a valid node number k, and a valid tree. -/
def nd (t : List S77) (k : Nat) : S77 := t.getD k z77
def nodeP (t : List S77) (k : Nat) : Prop := (0 ≤ (nd t k).f0 ∧ (nd t k).f0 ≤ (k : Int) - 1) ∧ (nd t (nd t k).f0.toNat).f2 = 0 ∧ (0 ≤ (nd t k).f1 ∧ (nd t k).f1 ≤ 3) ∧ (0 ≤ (nd t k).f2 ∧ (nd t k).f2 ≤ 4) ∧ ¬ ∃ j : Nat, j < k ∧ (nd t j).f0 = (nd t k).f0 ∧ (nd t j).f1 = (nd t k).f1
def rootP (t : List S77) : Prop := (nd t 0).f0 = -1 ∧ (nd t 0).f1 = 0 ∧ (nd t 0).f2 = 0
def treeP (t : List S77) : Prop := (1 ≤ t.length ∧ t.length ≤ 12) ∧ rootP t ∧ ∀ k : Nat, 1 ≤ k → k < t.length → nodeP t k
theorem rd_nd (t : List S77) (k : Nat) : rd_T77 t (k : Int) = nd t k := rfl
theorem rd_nd' (t : List S77) (i : Int) : rd_T77 t i = nd t i.toNat := rfl
open Classical in
theorem from_k (t : List S77) (k : Nat) (hk : k < t.length) : (∀ j : Nat, k ≤ j → j < t.length → nodeP t j) ↔ nodeP t k ∧ ∀ j : Nat, k + 1 ≤ j → j < t.length → nodeP t j :=
  ⟨fun h => ⟨h k (Nat.le_refl _) hk, fun j h1 h2 => h j (by omega) h2⟩, fun ⟨h0, h⟩ j h1 h2 => by
    rcases Nat.eq_or_lt_of_le h1 with e | e
    · exact e ▸ h0
    · exact h j e h2⟩
theorem root_b (t : List S77) : (!(((rd_T77 t 0).f0) == (-1)) || (!(((rd_T77 t 0).f1) == 0) || (!(((rd_T77 t 0).f2) == 0)))) = true ↔ ¬ rootP t := by
  unfold rootP
  show (!((nd t 0).f0 == (-1)) || (!((nd t 0).f1 == 0) || (!((nd t 0).f2 == 0)))) = true ↔ _
  by_cases h1 : (nd t 0).f0 = -1 <;> by_cases h2 : (nd t 0).f1 = 0 <;> by_cases h3 : (nd t 0).f2 = 0 <;> simp [h1, h2, h3]
section
open Classical
theorem any_dup (t : List S77) (k : Nat) (hk : k ≤ t.length) (p d f : Int) : slices_ContainsFunc__impl_TreeOk_1.f (t.take k) p d f = some (decide (∃ j : Nat, j < k ∧ (nd t j).f0 = p ∧ (nd t j).f1 = d)) := by
  simp only [slices_ContainsFunc__impl_TreeOk_1.f, impl_TreeOk_1.f]
  rw [anyO_tot]
  congr 1
  rw [Bool.eq_iff_iff, List.any_eq_true, decide_eq_true_iff]
  constructor
  · rintro ⟨x, hx, hp⟩
    obtain ⟨j, hj, rfl⟩ := List.getElem_of_mem hx
    rw [List.length_take] at hj
    refine ⟨j, by omega, ?_⟩
    simp only [nd, List.getD_eq_getElem?_getD, List.getElem?_eq_getElem (show j < t.length by omega), Option.getD_some]
    simpa using hp
  · rintro ⟨j, hj, hp⟩
    refine ⟨(t.take k)[j]'(by rw [List.length_take]; omega), List.getElem_mem _, ?_⟩
    simp only [nd, List.getD_eq_getElem?_getD, List.getElem?_eq_getElem (show j < t.length by omega), Option.getD_some] at hp
    simpa using hp
theorem nd_drop (t : List S77) (i : Nat) : nd (t.drop 1) i = nd t (i + 1) := by
  simp only [nd, List.getD_eq_getElem?_getD, List.getElem?_drop]
  rw [Nat.add_comm]
theorem nd_take (t : List S77) (i j : Nat) (h : j < i) : nd (t.take i) j = nd t j := by
  simp only [nd, List.getD_eq_getElem?_getD]
  rw [List.getElem?_take_of_lt h]
theorem tree_i0 (t : List S77) (hl : t.length ≤ 12) (m : Nat) : ∀ i : Nat, t.length - 1 - i = m → i + 1 ≤ t.length → Ev (fun n => impl_TreeOk.l0 n t (t.drop 1) ((t.drop 1).length : Int) (i : Int)) (decide (∀ j : Nat, i + 1 ≤ j → j < t.length → nodeP t j)) := by
  have hlen : (t.drop 1).length = t.length - 1 := by simp
  induction m with
  | zero =>
    intro i hm hk
    rw [decide_eq_true (by intro j h2 h3; omega)]
    refine Ev.step (f := fun _ => some true) (fun n => ?_) (Ev.now _)
    simp only [impl_TreeOk.l0]
    rw [if_neg (by omega)]
  | succ m ih =>
    intro i hm hk
    have hlt : i + 1 < t.length := by omega
    have hn := ih (i + 1) (by omega) (by omega)
    have hi : ∀ b : Bool, Ev (fun n => impl_TreeOk.j2 n t (t.take (i + 1)) (t.drop 1) ((t.drop 1).length : Int) i b (nd t (i + 1)).f0 (nd t (i + 1)).f1 (nd t (i + 1)).f2) (if b = true then false else (if ∃ j : Nat, j < i + 1 ∧ (nd t j).f0 = (nd t (i + 1)).f0 ∧ (nd t j).f1 = (nd t (i + 1)).f1 then false else decide (∀ j : Nat, i + 1 + 1 ≤ j → j < t.length → nodeP t j))) := by
      intro b
      refine Ev.step (f := fun n => if b = true then some false else (if ∃ j : Nat, j < i + 1 ∧ (nd t j).f0 = (nd t (i + 1)).f0 ∧ (nd t j).f1 = (nd t (i + 1)).f1 then some false else impl_TreeOk.l0 n t (t.drop 1) ((t.drop 1).length : Int) ((i + 1 : Nat) : Int))) (fun n => ?_) (ev_ite (fun _ => Ev.now _) (fun _ => ev_ite (fun _ => Ev.now _) (fun _ => hn)))
      simp only [impl_TreeOk.j2]
      rw [any_dup t (i + 1) (by omega), wrap_id (x := (i : Int) + 1) (by omega) (by omega)]
      simp only [Option.bind_some, decide_eq_true_eq]
      rfl
    have hb := hi true
    rw [if_pos rfl] at hb
    refine Ev.step (f := fun n => if (0 ≤ (nd t (i + 1)).f0 ∧ (nd t (i + 1)).f0 ≤ (i : Int)) then (if (nd t (nd t (i + 1)).f0.toNat).f2 = 0 then (if (0 ≤ (nd t (i + 1)).f1 ∧ (nd t (i + 1)).f1 ≤ 3) then impl_TreeOk.j2 n t (t.take (i + 1)) (t.drop 1) ((t.drop 1).length : Int) i (!decide (0 ≤ (nd t (i + 1)).f2 ∧ (nd t (i + 1)).f2 ≤ 4)) (nd t (i + 1)).f0 (nd t (i + 1)).f1 (nd t (i + 1)).f2 else impl_TreeOk.j2 n t (t.take (i + 1)) (t.drop 1) ((t.drop 1).length : Int) i true (nd t (i + 1)).f0 (nd t (i + 1)).f1 (nd t (i + 1)).f2) else impl_TreeOk.j2 n t (t.take (i + 1)) (t.drop 1) ((t.drop 1).length : Int) i true (nd t (i + 1)).f0 (nd t (i + 1)).f1 (nd t (i + 1)).f2) else impl_TreeOk.j2 n t (t.take (i + 1)) (t.drop 1) ((t.drop 1).length : Int) i true (nd t (i + 1)).f0 (nd t (i + 1)).f1 (nd t (i + 1)).f2) (fun n => ?_) ?_
    · simp only [impl_TreeOk.l0]
      rw [if_pos (by omega), if_pos (by omega), if_pos (by omega), wrap_id (x := (i : Int) + 1) (by omega) (by omega), if_pos (by omega), if_pos (by omega), rd_nd, nd_drop, show ((i : Int) + 1).toNat = i + 1 from by omega]
      simp only [in_i, Option.bind_some, decide_eq_true_eq]
      by_cases h3 : 0 ≤ (nd t (i + 1)).f0 ∧ (nd t (i + 1)).f0 ≤ (i : Int)
      · rw [if_pos h3, if_pos h3, if_pos h3.1, if_pos (by rw [List.length_take]; omega), rd_nd', nd_take t (i + 1) _ (by omega)]
      · rw [if_neg h3, if_neg h3]
    · rw [show decide (∀ j : Nat, i + 1 ≤ j → j < t.length → nodeP t j) = (decide (nodeP t (i + 1)) && decide (∀ j : Nat, i + 1 + 1 ≤ j → j < t.length → nodeP t j)) from by rw [decide_eq_decide.2 (from_k t (i + 1) hlt)]; exact Bool.decide_and _ _]
      by_cases h3 : 0 ≤ (nd t (i + 1)).f0 ∧ (nd t (i + 1)).f0 ≤ (i : Int)
      · refine ev_pos h3 ?_
        by_cases h4 : (nd t (nd t (i + 1)).f0.toNat).f2 = 0
        · refine ev_pos h4 ?_
          by_cases h5 : 0 ≤ (nd t (i + 1)).f1 ∧ (nd t (i + 1)).f1 ≤ 3
          · refine ev_pos h5 (ev_to (hi _) ?_)
            by_cases h6 : 0 ≤ (nd t (i + 1)).f2 ∧ (nd t (i + 1)).f2 ≤ 4
            · rw [if_neg (by simp [h6])]
              by_cases h7 : ∃ j : Nat, j < i + 1 ∧ (nd t j).f0 = (nd t (i + 1)).f0 ∧ (nd t j).f1 = (nd t (i + 1)).f1
              · rw [if_pos h7, decide_eq_false (fun h => h.2.2.2.2 h7)]; rfl
              · rw [if_neg h7, decide_eq_true (p := nodeP t (i + 1)) ⟨⟨h3.1, by omega⟩, h4, h5, h6, h7⟩]; rfl
            · rw [if_pos (by simp only [h6, decide_false, Bool.not_false]), decide_eq_false (fun h => h6 h.2.2.2.1)]; rfl
          · refine ev_neg h5 (ev_to hb ?_)
            rw [decide_eq_false (p := nodeP t (i + 1)) (fun h => h5 h.2.2.1)]; rfl
        · refine ev_neg h4 (ev_to hb ?_)
          rw [decide_eq_false (p := nodeP t (i + 1)) (fun h => h4 h.2.1)]; rfl
      · refine ev_neg h3 (ev_to hb ?_)
        rw [decide_eq_false (p := nodeP t (i + 1)) (fun h => h3 ⟨h.1.1, by have := h.1.2; omega⟩)]; rfl
theorem tree_i (t : List S77) : Ev (fun n => impl_TreeOk.f n t) (decide (treeP t)) := by
  have hb : Ev (fun n => impl_TreeOk.j0 n t true) false := by
    refine Ev.step (f := fun _ => some false) (fun n => ?_) (Ev.now _)
    simp [impl_TreeOk.j0]
  simp only [impl_TreeOk.f, in_i, Option.bind_some, decide_eq_true_eq]
  by_cases h1 : (1 : Int) ≤ t.length ∧ (t.length : Int) ≤ 12
  · refine ev_pos h1 (ev_pos (by omega) ?_)
    by_cases h2 : rootP t
    · have e : (!(((rd_T77 t 0).f0) == (-1)) || (!(((rd_T77 t 0).f1) == 0) || (!(((rd_T77 t 0).f2) == 0)))) = false := Bool.eq_false_iff.2 (fun h => (root_b t).1 h h2)
      rw [e]
      refine Ev.step (f := fun n => impl_TreeOk.l0 n t (t.drop 1) ((t.drop 1).length : Int) ((0 : Nat) : Int)) (fun n => ?_) (ev_to (tree_i0 t (by omega) (t.length - 1) 0 rfl (by omega)) ?_)
      · simp only [impl_TreeOk.j0]
        rw [if_neg (by decide), if_pos (by omega)]
        rfl
      exact decide_eq_decide.2 ⟨fun h => ⟨by omega, h2, h⟩, fun h => h.2.2⟩
    · rw [(root_b t).2 h2]
      refine ev_to hb ?_
      rw [decide_eq_false (fun h => h2 h.2.1)]
  · refine ev_neg h1 (ev_to hb ?_)
    rw [decide_eq_false (fun h => h1 (by have := h.1; omega))]
end
def wishP (t : List S77) (s : List Int) : Prop := treeP t ∧ s.length = t.length ∧ ∀ x ∈ s, 0 ≤ x ∧ x ≤ 3
def orderP (t : List S77) (s : List Int) (k : Nat) : Prop := s.getD (nd t k).f0.toNat 0 ≤ s.getD k 0
def sleepP (t : List S77) (s : List Int) : Prop := wishP t s ∧ ∀ k : Nat, 1 ≤ k → k < t.length → orderP t s k
theorem rdJ (l : List Int) (i : Nat) : rd l (i : Int) = l.getD i 0 := rfl
theorem rdJ' (l : List Int) (i : Int) : rd l i = l.getD i.toNat 0 := rfl
theorem order_from (t : List S77) (s : List Int) (k : Nat) (hk : k < t.length) : (∀ j : Nat, k ≤ j → j < t.length → orderP t s j) ↔ orderP t s k ∧ ∀ j : Nat, k + 1 ≤ j → j < t.length → orderP t s j :=
  ⟨fun h => ⟨h k (Nat.le_refl _) hk, fun j h1 h2 => h j (by omega) h2⟩, fun ⟨h0, h⟩ j h1 h2 => by
    rcases Nat.eq_or_lt_of_le h1 with e | e
    · exact e ▸ h0
    · exact h j e h2⟩
theorem par_lt {t : List S77} (ht : treeP t) {k : Nat} (h1 : 1 ≤ k) (hk : k < t.length) : 0 ≤ (nd t k).f0 ∧ (nd t k).f0 < (k : Int) := by
  have := (ht.2.2 k h1 hk).1
  omega
section
open Classical
theorem wish_i (t : List S77) (s : List Int) : Ev (fun n => impl_areDepths.f n t s) (decide (wishP t s)) := by
  simp only [impl_areDepths.f]
  refine Ev.bind (tree_i t) ?_
  by_cases h1 : treeP t
  · refine ev_pos (by simpa using h1) ?_
    by_cases h2 : (s.length : Int) = t.length
    · refine ev_pos h2 ?_
      have e : slices_ContainsFunc__impl_areDepths_1.f s = some (s.any fun x => !decide (0 ≤ x ∧ x ≤ 3)) := by
        simp only [slices_ContainsFunc__impl_areDepths_1.f, impl_areDepths_1.f, in_i, Option.bind_some]
        exact anyO_tot _ _
      rw [e]
      refine ev_to (Ev.now _) ?_
      rw [Bool.eq_iff_iff, decide_eq_true_iff, Bool.not_eq_true', ← Bool.not_eq_true, List.any_eq_true]
      constructor
      · intro h
        refine ⟨h1, by omega, fun x hx => ?_⟩
        rcases Classical.em (0 ≤ x ∧ x ≤ 3) with h3 | h3
        · exact h3
        · exact absurd ⟨x, hx, by simp only [h3, decide_false, Bool.not_false]⟩ h
      · rintro ⟨_, _, h⟩ ⟨x, hx, h3⟩
        simp only [h x hx, decide_true, Bool.not_true, and_self] at h3
        cases h3
    · refine ev_neg h2 (ev_to (Ev.now _) ?_)
      rw [decide_eq_false (fun h => h2 (by rw [h.2.1]))]
  · refine ev_neg (by simpa using h1) (ev_to (Ev.now _) ?_)
    rw [decide_eq_false (fun h => h1 h.1)]
end
/-- the walk from node k down: each parent takes the lesser depth -/
def settle (t : List S77) : Nat → List Int → List Int
  | 0, s => s
  | k + 1, s => settle t k (s.set (nd t (k + 1)).f0.toNat (mn (s.getD (nd t (k + 1)).f0.toNat 0) (s.getD (k + 1) 0)))
theorem settle_len (t : List S77) (k : Nat) : ∀ s : List Int, (settle t k s).length = s.length := by
  induction k with
  | zero => intro s; rfl
  | succ k ih => intro s; simp only [settle]; rw [ih]; simp
section
open Classical
noncomputable def settleR (t : List S77) (s : List Int) : List Int := if wishP t s then settle t (t.length - 1) s else []
end
section
open Classical
theorem settle_i0 (t : List S77) (ht : treeP t) (k : Nat) : ∀ s : List Int, s.length = t.length → k < t.length → Ev (fun n => impl_SettleSleep.l0 n t s (k : Int)) (settle t k s) := by
  have hl := ht.1
  induction k with
  | zero =>
    intro s _ _
    refine Ev.step (f := fun _ => some s) (fun n => ?_) (Ev.now _)
    simp only [impl_SettleSleep.l0]
    rw [if_neg (by omega)]
  | succ k ih =>
    intro s hs hk
    have hp := par_lt ht (show 1 ≤ k + 1 by omega) hk
    refine Ev.step (f := fun n => impl_SettleSleep.l0 n t (s.set (nd t (k + 1)).f0.toNat (mn (s.getD (nd t (k + 1)).f0.toNat 0) (s.getD (k + 1) 0))) (k : Int)) (fun n => ?_) (ih _ (by simpa using hs) (by omega))
    simp only [impl_SettleSleep.l0]
    rw [if_pos (by omega), if_pos (by omega), if_pos (by omega), rd_nd, if_pos hp.1, if_pos (by omega), if_pos (by omega), rdJ, rdJ', wrap_id (x := ((k + 1 : Nat) : Int) - 1) (by omega) (by omega), show ((k + 1 : Nat) : Int) - 1 = (k : Int) from by omega]
theorem settle_i (t : List S77) (s : List Int) (hl : s.length ≤ 1048576) : Ev (fun n => impl_SettleSleep.f n t s) (settleR t s) := by
  simp only [impl_SettleSleep.f]
  refine Ev.bind (wish_i t s) ?_
  by_cases h : wishP t s
  · have := h.1.1
    refine ev_pos (by simpa using h) ?_
    rw [show slices_Clone_int_int.f s = some s from by simp only [slices_Clone_int_int.f]; rw [if_pos (by omega)]]
    simp only [Option.bind_some]
    rw [wrap_id (x := (t.length : Int) - 1) (by omega) (by omega), show (t.length : Int) - 1 = ((t.length - 1 : Nat) : Int) from by omega]
    refine ev_to (settle_i0 t h.1 (t.length - 1) s h.2.1 (by omega)) ?_
    rw [settleR, if_pos h]
  · refine ev_neg (by simpa using h) (ev_to (Ev.now _) ?_)
    rw [settleR, if_neg h]
end
theorem in_s (a b c : Int) : spec_l01In.f a b c = some (decide (b ≤ a ∧ a ≤ c)) := by
  unfold spec_l01In.f
  by_cases h : a ≥ b
  · rw [if_pos h]; simp [h]
  · rw [if_neg h]; simp [h]
section
open Classical
theorem tree_s1 (t : List S77) (hl : t.length ≤ 12) (k : Nat) (hk : k < t.length) (p d f : Int) (r : Bool) (hr : Ev (fun n => spec_TreeOk.l0 n t ((k + 1 : Nat) : Int)) r) (m : Nat) : ∀ i : Nat, k - i = m → i ≤ k → Ev (fun n => spec_TreeOk.l1 n t k i p d f) (if ∃ j : Nat, i ≤ j ∧ j < k ∧ (nd t j).f0 = p ∧ (nd t j).f1 = d then false else r) := by
  induction m with
  | zero =>
    intro i hm hi
    have e : i = k := by omega
    subst e
    rw [if_neg (by rintro ⟨j, h1, h2, _⟩; omega)]
    refine Ev.step (f := fun n => spec_TreeOk.l0 n t ((i + 1 : Nat) : Int)) (fun n => ?_) hr
    simp only [spec_TreeOk.l1]
    rw [if_neg (by omega), wrap_id (x := (i : Int) + 1) (by omega) (by omega)]
    rfl
  | succ m ih =>
    intro i hm hi
    have hn := ih (i + 1) (by omega) (by omega)
    refine Ev.step (f := fun n => if (nd t i).f0 = p then (if (nd t i).f1 = d then some false else spec_TreeOk.l1 n t k ((i + 1 : Nat) : Int) p d f) else spec_TreeOk.l1 n t k ((i + 1 : Nat) : Int) p d f) (fun n => ?_) ?_
    · simp only [spec_TreeOk.l1]
      rw [if_pos (by omega), if_pos (by omega), if_pos (by omega), rd_nd, wrap_id (x := (i : Int) + 1) (by omega) (by omega)]
      rfl
    · by_cases h1 : (nd t i).f0 = p
      · refine ev_pos h1 ?_
        by_cases h2 : (nd t i).f1 = d
        · refine ev_pos h2 ?_
          rw [if_pos ⟨i, Nat.le_refl _, by omega, h1, h2⟩]
          exact Ev.now _
        · refine ev_neg h2 (ev_to hn (ite_iff ⟨fun ⟨j, a, b⟩ => ⟨j, by omega, b⟩, fun ⟨j, a, b⟩ => ⟨j, ?_, b⟩⟩ _ _))
          rcases Nat.eq_or_lt_of_le a with e | e
          · subst e; exact absurd b.2.2 h2
          · exact e
      · refine ev_neg h1 (ev_to hn (ite_iff ⟨fun ⟨j, a, b⟩ => ⟨j, by omega, b⟩, fun ⟨j, a, b⟩ => ⟨j, ?_, b⟩⟩ _ _))
        rcases Nat.eq_or_lt_of_le a with e | e
        · subst e; exact absurd b.2.1 h1
        · exact e
theorem tree_s0 (t : List S77) (hl : t.length ≤ 12) (hroot : rootP t) (m : Nat) : ∀ k : Nat, t.length - k = m → 1 ≤ k → k ≤ t.length → Ev (fun n => spec_TreeOk.l0 n t (k : Int)) (decide (∀ j : Nat, k ≤ j → j < t.length → nodeP t j)) := by
  induction m with
  | zero =>
    intro k hm h1 hk
    rw [decide_eq_true (by intro j h2 h3; omega)]
    refine Ev.step (f := fun _ => some true) (fun n => ?_) (Ev.now _)
    simp only [spec_TreeOk.l0]
    rw [if_neg (by omega)]
  | succ m ih =>
    intro k hm h1 hk
    have hlt : k < t.length := by omega
    have hn := ih (k + 1) (by omega) (by omega) (by omega)
    have hi := tree_s1 t hl k hlt (nd t k).f0 (nd t k).f1 (nd t k).f2 _ hn (k - 1) 1 rfl (by omega)
    have hj : ∀ b : Bool, Ev (fun n => spec_TreeOk.j2 n t k b (nd t k).f0 (nd t k).f1 (nd t k).f2) (if b = true then false else (if ∃ j : Nat, 1 ≤ j ∧ j < k ∧ (nd t j).f0 = (nd t k).f0 ∧ (nd t j).f1 = (nd t k).f1 then false else decide (∀ j : Nat, k + 1 ≤ j → j < t.length → nodeP t j))) := by
      intro b
      refine Ev.step (f := fun n => if b = true then some false else spec_TreeOk.l1 n t k 1 (nd t k).f0 (nd t k).f1 (nd t k).f2) (fun n => ?_) (ev_ite (fun _ => Ev.now _) (fun _ => hi))
      simp only [spec_TreeOk.j2]
    have hb := hj true
    rw [if_pos rfl] at hb
    refine Ev.step (f := fun n => if (0 ≤ (nd t k).f0 ∧ (nd t k).f0 ≤ (k : Int) - 1) then (if (nd t (nd t k).f0.toNat).f2 = 0 then (if (0 ≤ (nd t k).f1 ∧ (nd t k).f1 ≤ 3) then spec_TreeOk.j2 n t k (!decide (0 ≤ (nd t k).f2 ∧ (nd t k).f2 ≤ 4)) (nd t k).f0 (nd t k).f1 (nd t k).f2 else spec_TreeOk.j2 n t k true (nd t k).f0 (nd t k).f1 (nd t k).f2) else spec_TreeOk.j2 n t k true (nd t k).f0 (nd t k).f1 (nd t k).f2) else spec_TreeOk.j2 n t k true (nd t k).f0 (nd t k).f1 (nd t k).f2) (fun n => ?_) ?_
    · simp only [spec_TreeOk.l0]
      rw [if_pos (by omega), if_pos (by omega), rd_nd, wrap_id (x := (k : Int) - 1) (by omega) (by omega)]
      simp only [in_s, Option.bind_some, decide_eq_true_eq]
      by_cases h3 : 0 ≤ (nd t k).f0 ∧ (nd t k).f0 ≤ (k : Int) - 1
      · rw [if_pos h3, if_pos h3, if_pos h3.1, if_pos (by omega), rd_nd']
      · rw [if_neg h3, if_neg h3]
    · rw [show decide (∀ j : Nat, k ≤ j → j < t.length → nodeP t j) = (decide (nodeP t k) && decide (∀ j : Nat, k + 1 ≤ j → j < t.length → nodeP t j)) from by rw [decide_eq_decide.2 (from_k t k hlt)]; exact Bool.decide_and _ _]
      by_cases h3 : 0 ≤ (nd t k).f0 ∧ (nd t k).f0 ≤ (k : Int) - 1
      · refine ev_pos h3 ?_
        by_cases h4 : (nd t (nd t k).f0.toNat).f2 = 0
        · refine ev_pos h4 ?_
          by_cases h5 : 0 ≤ (nd t k).f1 ∧ (nd t k).f1 ≤ 3
          · refine ev_pos h5 (ev_to (hj _) ?_)
            by_cases h6 : 0 ≤ (nd t k).f2 ∧ (nd t k).f2 ≤ 4
            · rw [if_neg (by simp [h6])]
              by_cases h7 : ∃ j : Nat, 1 ≤ j ∧ j < k ∧ (nd t j).f0 = (nd t k).f0 ∧ (nd t j).f1 = (nd t k).f1
              · rw [if_pos h7, decide_eq_false (fun h => h.2.2.2.2 (by obtain ⟨j, _, a⟩ := h7; exact ⟨j, a⟩))]; rfl
              · rw [if_neg h7, decide_eq_true (p := nodeP t k) ⟨h3, h4, h5, h6, ?_⟩]
                · rfl
                · rintro ⟨j, h8, h9, h10⟩
                  rcases Nat.eq_zero_or_pos j with e | e
                  · subst e; have := hroot.1; omega
                  · exact h7 ⟨j, e, h8, h9, h10⟩
            · rw [if_pos (by simp only [h6, decide_false, Bool.not_false]), decide_eq_false (fun h => h6 h.2.2.2.1)]; rfl
          · refine ev_neg h5 (ev_to hb ?_)
            rw [decide_eq_false (p := nodeP t k) (fun h => h5 h.2.2.1)]; rfl
        · refine ev_neg h4 (ev_to hb ?_)
          rw [decide_eq_false (p := nodeP t k) (fun h => h4 h.2.1)]; rfl
      · refine ev_neg h3 (ev_to hb ?_)
        rw [decide_eq_false (p := nodeP t k) (fun h => h3 h.1)]; rfl
theorem tree_s (t : List S77) : Ev (fun n => spec_TreeOk.f n t) (decide (treeP t)) := by
  have hb : Ev (fun n => spec_TreeOk.j0 n t true) false := by
    refine Ev.step (f := fun _ => some false) (fun n => ?_) (Ev.now _)
    simp [spec_TreeOk.j0]
  simp only [spec_TreeOk.f, in_s, Option.bind_some, decide_eq_true_eq]
  by_cases h1 : (1 : Int) ≤ t.length ∧ (t.length : Int) ≤ 12
  · refine ev_pos h1 (ev_pos (by omega) ?_)
    by_cases h2 : rootP t
    · have e : (!(((rd_T77 t 0).f0) == (-1)) || (!(((rd_T77 t 0).f1) == 0) || (!(((rd_T77 t 0).f2) == 0)))) = false := Bool.eq_false_iff.2 (fun h => (root_b t).1 h h2)
      rw [e]
      refine Ev.step (f := fun n => spec_TreeOk.l0 n t ((1 : Nat) : Int)) (fun n => by simp [spec_TreeOk.j0]) (ev_to (tree_s0 t (by omega) h2 (t.length - 1) 1 rfl (by omega) (by omega)) ?_)
      exact decide_eq_decide.2 ⟨fun h => ⟨by omega, h2, h⟩, fun h => h.2.2⟩
    · rw [(root_b t).2 h2]
      refine ev_to hb ?_
      rw [decide_eq_false (fun h => h2 h.2.1)]
  · refine ev_neg h1 (ev_to hb ?_)
    rw [decide_eq_false (fun h => h1 (by have := h.1; omega))]
end
section
open Classical
theorem wish_s0 (t : List S77) (s : List Int) (hl : s.length ≤ 1048576) (m : Nat) : ∀ k : Nat, s.length - k = m → k ≤ s.length → (∀ j : Nat, j < k → 0 ≤ s.getD j 0 ∧ s.getD j 0 ≤ 3) → Ev (fun n => spec_l35Wish.l0 n t s (k : Int)) (decide (wishP t s)) := by
  induction m with
  | zero =>
    intro k hm hk hj
    have e : k = s.length := by omega
    refine Ev.step (f := fun n => (spec_TreeOk.f n t).bind fun b => if b = true then some ((s.length : Int) == (t.length : Int)) else some false) (fun n => ?_) (Ev.bind (tree_s t) ?_)
    · simp only [spec_l35Wish.l0]
      rw [if_neg (by omega)]
    · have hall : ∀ x ∈ s, 0 ≤ x ∧ x ≤ 3 := fun x hx => by
        obtain ⟨j, hjl, rfl⟩ := List.getElem_of_mem hx
        have := hj j (by omega)
        simpa [List.getD_eq_getElem?_getD, List.getElem?_eq_getElem hjl] using this
      by_cases h1 : treeP t
      · refine ev_pos (by simpa using h1) (ev_to (Ev.now _) ?_)
        rw [Bool.eq_iff_iff, decide_eq_true_iff, beq_iff_eq]
        exact ⟨fun h => ⟨h1, by omega, hall⟩, fun h => by rw [h.2.1]⟩
      · refine ev_neg (by simpa using h1) (ev_to (Ev.now _) ?_)
        rw [decide_eq_false (fun h => h1 h.1)]
  | succ m ih =>
    intro k hm hk hj
    refine Ev.step (f := fun n => if (0 ≤ s.getD k 0 ∧ s.getD k 0 ≤ 3) then spec_l35Wish.l0 n t s ((k + 1 : Nat) : Int) else some false) (fun n => ?_) ?_
    · simp only [spec_l35Wish.l0, in_s, Option.bind_some, decide_eq_true_eq]
      rw [if_pos (by omega), if_pos (by omega), rdJ, wrap_id (x := (k : Int) + 1) (by omega) (by omega)]
      rfl
    · by_cases h : 0 ≤ s.getD k 0 ∧ s.getD k 0 ≤ 3
      · refine ev_pos h (ih (k + 1) (by omega) (by omega) (fun j h1 => ?_))
        rcases Nat.eq_or_lt_of_le (Nat.le_of_lt_succ h1) with e | e
        · subst e; exact h
        · exact hj j e
      · refine ev_neg h (ev_to (Ev.now _) ?_)
        rw [decide_eq_false (fun h' => h ?_)]
        have hk' : k < s.length := by omega
        have := h'.2.2 s[k] (List.getElem_mem hk')
        simpa [List.getD_eq_getElem?_getD, List.getElem?_eq_getElem hk'] using this
theorem wish_s (t : List S77) (s : List Int) (hl : s.length ≤ 1048576) : Ev (fun n => spec_l35Wish.f n t s) (decide (wishP t s)) :=
  wish_s0 t s hl s.length 0 rfl (by omega) (fun j hj => by omega)
end
section
open Classical
theorem settle_s0 (t : List S77) (ht : treeP t) (k : Nat) : ∀ s : List Int, s.length = t.length → k < t.length → Ev (fun n => spec_SettleSleep.l0 n t s (k : Int)) (settle t k s) := by
  have hl := ht.1
  induction k with
  | zero =>
    intro s _ _
    refine Ev.step (f := fun _ => some s) (fun n => ?_) (Ev.now _)
    simp only [spec_SettleSleep.l0]
    rw [if_neg (by omega)]
  | succ k ih =>
    intro s hs hk
    have hp := par_lt ht (show 1 ≤ k + 1 by omega) hk
    refine Ev.step (f := fun n => spec_SettleSleep.l0 n t (s.set (nd t (k + 1)).f0.toNat (mn (s.getD (nd t (k + 1)).f0.toNat 0) (s.getD (k + 1) 0))) (k : Int)) (fun n => ?_) (ih _ (by simpa using hs) (by omega))
    simp only [spec_SettleSleep.l0]
    rw [if_pos (by omega), if_pos (by omega), if_pos (by omega), rd_nd, if_pos hp.1, if_pos (by omega), if_pos (by omega), rdJ, rdJ', wrap_id (x := ((k + 1 : Nat) : Int) - 1) (by omega) (by omega), show ((k + 1 : Nat) : Int) - 1 = (k : Int) from by omega]
theorem settle_s (t : List S77) (s : List Int) (hl : s.length ≤ 1048576) : Ev (fun n => spec_SettleSleep.f n t s) (settleR t s) := by
  simp only [spec_SettleSleep.f]
  refine Ev.bind (wish_s t s hl) ?_
  by_cases h : wishP t s
  · have := h.1.1
    refine ev_pos (by simpa using h) ?_
    simp only [Option.bind_some, List.nil_append, List.length_nil]
    rw [wrap_id (x := (t.length : Int) - 1) (by omega) (by omega), show (t.length : Int) - 1 = ((t.length - 1 : Nat) : Int) from by omega]
    refine ev_pos (by omega) (ev_to (settle_s0 t h.1 (t.length - 1) s h.2.1 (by omega)) ?_)
    rw [settleR, if_pos h]
  · refine ev_neg (by simpa using h) (ev_to (Ev.now _) ?_)
    rw [settleR, if_neg h]
end
theorem FnExactSettleSleep : ∀ (x0 : List (S92)) (x1 : List (Int)), (x0.length * 24 ≤ 140737488351232 ∧ x0.length ≤ maxLen ∧ ∀ y ∈ x0, wf92 y) → (x1.length * 8 ≤ 140737488351232 ∧ x1.length ≤ maxLen ∧ ∀ y ∈ x1, (Lit.int .i64 y).wf = true) → ∃ k, laws_FnExactSettleSleep.f k x0 x1 = some true := by
  rintro l s ⟨h1, h2, _⟩ ⟨h3, h4, _⟩
  have hl : l.length ≤ 11728124029610 := by omega
  refine Ev.rounds (g := fun n => laws_FnExactSettleSleep.f n l s) ?_
  simp only [laws_FnExactSettleSleep.f]
  by_cases hs : (s.length : Int) > 1048576
  case pos => exact ev_pos hs (Ev.now _)
  refine ev_neg hs ?_
  simp only [sz_node l hl 1048576 (by omega) (by omega), Option.bind_some]
  by_cases h : (l.length : Int) ≤ 1048576
  case neg => rw [if_neg h]; exact ev_pos (by omega) (Ev.now _)
  rw [if_pos h]
  refine ev_neg (by omega) ?_
  have hm : (l.map toN).length ≤ 1048576 := by simp; omega
  have hT := toNodeS_ev l hl
  have hU := toIntS_ev s (by omega)
  have hE := eqNodeS_ev (l.map toN) (by omega)
  have hF := eqIntS_ev s (by omega)
  have hS := settle_s (l.map toN) s (by omega)
  have hI := settle_i (l.map toN) s (by omega)
  have hR : (settleR (l.map toN) s).length ≤ 1048576 := by
    unfold settleR
    split
    · rw [settle_len]; omega
    · simp
  generalize settleR (l.map toN) s = R at hS hI hR
  obtain ⟨ys, m1, m2⟩ := nodeS_mark (l.map toN) (by omega) 1 (by omega) (by omega)
  obtain ⟨us, n1, n2, n3⟩ := intS_marks s (by omega) (1 + 3 * ((l.map toN).length : Int)) (by omega) (by omega)
  obtain ⟨zs, m4, m5, m6⟩ := intS_marks R (by omega) 1 (by omega) (by omega)
  have hq := eqIntS_ev R (by omega)
  refine Ev.bind hT (Ev.bind hU (Ev.bind hS (Ev.bind hT (Ev.bind hU (Ev.bind hI (Ev.bind hq (ev_pos rfl (Ev.bind hT (Ev.bind hE (ev_pos rfl (Ev.bind hU (Ev.bind hF (ev_pos rfl (Ev.bind m1 (Ev.bind n1 (ev_neg (by simp; omega) (Ev.bind hq ?_)))))))))))))))))
  simp only [Bool.not_true]
  refine Ev.step (fun n => by simp only [laws_FnExactSettleSleep.j0]; rw [if_neg (by decide)]) ?_
  refine Ev.bind m4 (Ev.bind m6 (ev_neg (by omega) (ev_pos rfl (Ev.bind hT (Ev.bind hU (Ev.bind hI (Ev.bind hq (ev_pos rfl ?_))))))))
  exact Ev.bind m6 (ev_neg (by omega) (ev_pos rfl (Ev.now _)))

end Go.Proofs.Ytdolbkocghgibaa.Pure

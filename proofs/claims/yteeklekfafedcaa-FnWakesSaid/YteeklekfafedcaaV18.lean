/- The table of types: checked by running. No condition. -/
import Derived.Test.YteeklekfafedcaaV17
set_option linter.unusedVariables false
namespace Go.Proofs.Yteeklekfafedcaa.V
open Go Go.RowKit

def zB : List Value → List Value → Bool
  | [], [] => true
  | .int k n :: r, .int k' n' :: r' => decide (k = k') && decide (n = n') && zB r r'
  | .bool b :: r, .bool b' :: r' => decide (b = b') && zB r r'
  | .string b :: r, .string b' :: r' => decide (b.size = 0) && decide (b'.size = 0) && zB r r'
  | .slice none 0 0 :: r, .slice none 0 0 :: r' => zB r r'
  | _, _ => false
theorem bytes_empty {b : ByteArray} (h : b.size = 0) : b = ByteArray.empty := by
  obtain ⟨d⟩ := b
  have : d = #[] := Array.eq_empty_of_size_eq_zero h
  subst this; rfl
theorem zB_eq : ∀ (a b : List Value), zB a b = true → a = b := by
  intro a
  induction a with
  | nil => intro b h; cases b with
    | nil => rfl
    | cons => simp [zB] at h
  | cons v r ih =>
    intro b h
    unfold zB at h
    split at h
    · rename_i e; cases e
    · rename_i e
      simp only [Bool.and_eq_true, decide_eq_true_eq] at h
      obtain ⟨⟨rfl, rfl⟩, h⟩ := h
      cases e
      rw [ih _ h]
    · rename_i e
      simp only [Bool.and_eq_true, decide_eq_true_eq] at h
      obtain ⟨rfl, h⟩ := h
      cases e
      rw [ih _ h]
    · rename_i e
      simp only [Bool.and_eq_true, decide_eq_true_eq] at h
      obtain ⟨⟨h1, h2⟩, h⟩ := h
      cases e
      rw [ih _ h, bytes_empty h1, bytes_empty h2]
    · rename_i e
      cases e
      rw [ih _ h]
    · cases h

def fieldB (P : Program) (i : TI) (fs : Array Field) (n : Nat) : Bool :=
  match fs[n]?, i.fs[n]?, fieldAt i.sh n i.nf with
  | some f, some (agg1, s1), some (o, s2) => decide (s1 = s2) && decide (f.offset = o) && (match P.info? f.type with | some fi => decide (fi.size = s1.size) | none => false) && decide (0 < s1.size) && decide (isAggT P f.type = agg1) && (P.underlying f.type).isSome && (agg1 || decide (s1.size = 1))
  | _, _, _ => false

def leafB (P : Program) (f : Field) (s : Sh) (o : Nat) : Bool :=
  decide (f.offset = o) && decide (f.name ≠ "_") && !isAggT P f.type && (match s, P.underlying f.type with
    | .int k, some (.int k') => decide (k = k')
    | .bool, some .bool => true
    | .str, some .string => true
    | _, _ => false)
def flatB (P : Program) : List Field → Sh → Nat → Bool
  | [f], s, o => leafB P f s o
  | f :: g :: r, .pr s b, o => leafB P f s o && flatB P (g :: r) b (o + 1)
  | _, _, _ => false

def tokB (P : Program) (t : Nat) (i : TI) : Bool :=
  (i.agg || !i.sh.isPr) && (match P.info? t with
    | some ti => decide (ti.size = i.sh.size) && decide (ti.bytes = i.bytes) && (match ti.zero with | some z => zB z.cells.toList i.sh.encZ | none => false)
    | none => false) && decide (0 < i.sh.size) && decide (isAggT P t = i.agg) && (P.underlying t).isSome && (i.agg || decide (i.sh.size = 1)) &&
  (!i.agg || (match P.underlying t with | some (.struct fs) => decide (fs.size = i.nf) && (List.range i.nf).all (fieldB P i fs) && (!i.cmp || (flatB P fs.toList i.sh 0 && !P.stoodInHeld t && !P.eqGuardType P.depth t)) | _ => false)) &&
  (i.agg || (match i.sh, P.underlying t with
    | .int k, some (.int k') => decide (k = k')
    | .str, some .string => true
    | .bool, some .bool => true
    | .sl e s, some (.slice e') => decide (e = e') && (match P.info? e with
      | some ti => decide (ti.size = s.size) && decide (0 < s.size) && (match ti.zero with | some z => zB z.cells.toList s.encZ | none => false)
      | none => false)
    | _, _ => false))

theorem leafB_ok {P : Program} {f : Field} {s : Sh} {o : Nat} (h : leafB P f s o = true) : f.offset = o ∧ f.name ≠ "_" ∧ isAggT P f.type = false ∧ ((∃ k, s = .int k ∧ P.underlying f.type = some (.int k)) ∨ (s = .bool ∧ P.underlying f.type = some .bool) ∨ (s = .str ∧ P.underlying f.type = some .string)) := by
  simp only [leafB, Bool.and_eq_true, decide_eq_true_eq, Bool.not_eq_true'] at h
  obtain ⟨⟨⟨h1, h2⟩, h3⟩, h4⟩ := h
  refine ⟨h1, h2, h3, ?_⟩
  split at h4
  · rename_i k k' hu
    simp only [decide_eq_true_eq] at h4
    subst h4
    exact .inl ⟨k, rfl, hu⟩
  · rename_i hu; exact .inr (.inl ⟨rfl, hu⟩)
  · rename_i hu; exact .inr (.inr ⟨rfl, hu⟩)
  · cases h4

theorem flatB_ok {P : Program} : ∀ (fs : List Field) (s : Sh) (o : Nat), flatB P fs s o = true → Flat P fs s o
  | [], s, o, h => by cases s <;> simp [flatB] at h
  | [f], s, o, h => by
    have h' : leafB P f s o = true := by cases s <;> exact h
    have := leafB_ok h'
    cases s <;> exact this
  | f :: g :: r, s, o, h => by
    cases s with
    | pr s b =>
      simp only [flatB, Bool.and_eq_true] at h
      exact ⟨leafB_ok h.1, flatB_ok (g :: r) b (o + 1) h.2⟩
    | unit => simp [flatB] at h
    | int _ => simp [flatB] at h
    | bool => simp [flatB] at h
    | str => simp [flatB] at h
    | sl _ _ => simp [flatB] at h

theorem fieldB_ok {P : Program} {i : TI} {fs : Array Field} {n : Nat} (h : fieldB P i fs n = true) : FieldOk P i fs n := by
  unfold fieldB at h
  split at h
  · rename_i f agg1 s1 o s2 h1 h2 h3
    simp only [Bool.and_eq_true, decide_eq_true_eq] at h
    obtain ⟨⟨⟨⟨⟨⟨rfl, k1⟩, k2⟩, k3⟩, k4⟩, k5⟩, k6⟩ := h
    split at k2
    · rename_i fi hfi
      simp only [decide_eq_true_eq] at k2
      refine ⟨f, agg1, s1, o, fi, h1, h2, h3, k1, hfi, k2, k3, k4, k5, fun e => ?_⟩
      subst e; simpa using k6
    · cases k2
  · cases h

theorem tokB_ok {P : Program} {t : Nat} {i : TI} (h : tokB P t i = true) : TOk P t i := by
  unfold tokB at h
  simp only [Bool.and_eq_true, decide_eq_true_eq] at h
  obtain ⟨⟨⟨⟨⟨⟨⟨k1, k2⟩, k3⟩, k4⟩, k5⟩, k6⟩, k7⟩, k8⟩ := h
  have sc : i.agg = false → (match i.sh, P.underlying t with
    | .int k, some (.int k') => decide (k = k')
    | .str, some .string => true
    | .bool, some .bool => true
    | .sl e s, some (.slice e') => decide (e = e') && (match P.info? e with
      | some ti => decide (ti.size = s.size) && decide (0 < s.size) && (match ti.zero with | some z => zB z.cells.toList s.encZ | none => false)
      | none => false)
    | _, _ => false) = true := fun e => by rw [e] at k8; simpa using k8
  have st : i.agg = true → ∃ fs, P.underlying t = some (.struct fs) ∧ fs.size = i.nf ∧ (List.range i.nf).all (fieldB P i fs) = true ∧ (i.cmp = true → (flatB P fs.toList i.sh 0 = true ∧ P.stoodInHeld t = false) ∧ P.eqGuardType P.depth t = false) := fun e => by
    rw [e] at k7
    simp only [Bool.not_true, Bool.false_or] at k7
    split at k7
    · rename_i fs hu
      simp only [Bool.and_eq_true, decide_eq_true_eq, Bool.or_eq_true, Bool.not_eq_true'] at k7
      refine ⟨fs, hu, k7.1.1, k7.1.2, fun hc => ?_⟩
      rcases k7.2 with q | q
      · rw [hc] at q; cases q
      · exact q
    · cases k7
  refine ⟨fun e => ?_, ?_, k3, k4, k5, fun e => ?_, fun e => ?_, fun hc e => ?_, fun k hs e => ?_, fun hs e => ?_, fun hs e => ?_, fun e' s hs e => ?_⟩
  · rw [e] at k1; simpa using k1
  · split at k2
    · rename_i ti hti
      simp only [Bool.and_eq_true, decide_eq_true_eq] at k2
      obtain ⟨⟨q1, q2⟩, q3⟩ := k2
      split at q3
      · rename_i z hz; exact ⟨ti, z, hti, q1, q2, hz, zB_eq _ _ q3⟩
      · cases q3
    · cases k2
  · rw [e] at k6; simpa using k6
  · obtain ⟨fs, u1, u2, u3, _⟩ := st e
    exact ⟨fs, u1, u2, fun n hn => fieldB_ok (List.all_eq_true.1 u3 n (List.mem_range.2 hn))⟩
  · obtain ⟨fs, u1, u2, u3, u4⟩ := st e
    obtain ⟨⟨q1, q2⟩, q3⟩ := u4 hc
    exact ⟨fs, u1, flatB_ok _ _ _ q1, q2, q3⟩
  · have := sc e
    rw [hs] at this
    split at this
    all_goals simp_all
  · have := sc e
    rw [hs] at this
    split at this
    all_goals simp_all
  · have := sc e
    rw [hs] at this
    split at this
    all_goals simp_all
  · have := sc e
    rw [hs] at this
    split at this
    · rename_i q _; cases q
    · rename_i q _; cases q
    · rename_i q _; cases q
    · rename_i e1 s1 e2 q hu
      cases q
      simp only [Bool.and_eq_true, decide_eq_true_eq] at this
      obtain ⟨rfl, q3⟩ := this
      refine ⟨hu, ?_⟩
      split at q3
      · rename_i ti hti
        simp only [Bool.and_eq_true, decide_eq_true_eq] at q3
        obtain ⟨⟨m1, m2⟩, m3⟩ := q3
        split at m3
        · rename_i z hz; exact ⟨ti, z, hti, m1, hz, zB_eq _ _ m3, m2⟩
        · cases m3
      · cases q3
    · cases this

theorem tab_ok {P : Program} {T : List (Nat × TI)} (h : T.all (fun q => tokB P q.1 q.2) = true) : TabOk P T := by
  intro t i hi
  have key : ∀ T : List (Nat × TI), tget T t = some i → (t, i) ∈ T := by
    intro T
    induction T with
    | nil => intro h; cases h
    | cons q r ih =>
      intro h
      obtain ⟨n, j⟩ := q
      simp only [tget] at h
      split at h
      · rename_i e
        obtain rfl := Option.some.inj h
        simp only [beq_iff_eq] at e
        subst e
        exact List.mem_cons_self
      · exact List.mem_cons_of_mem _ (ih h)
  exact tokB_ok (List.all_eq_true.1 h _ (key T hi))
end Go.Proofs.Yteeklekfafedcaa.V

/- Arguments of a row, read as typed values. No condition. -/
import Derived.Test.YteeklekfafedcaaV22
import Derived.ChangeArms
import Derived.SizedLaws
import Derived.WideShapes
import Derived.ChangeShapes
import Derived.DataReads
set_option linter.unusedVariables false
namespace Go.Proofs.Yteeklekfafedcaa.V
open Go Go.RowKit Go.WideShapes Go.ChangeShapes

def wfS (P : Program) : (s : Sh) → s.ty → Prop
  | .unit, _ => True
  | .int k, x => (Lit.int k x).wf = true
  | .bool, _ => True
  | .str, x => ByteArray.size x ≤ 140737488351232
  | .sl e s, xs => List.length xs * P.bytesOf e ≤ 140737488351232 ∧ List.length xs ≤ maxLen ∧ ∀ x ∈ (xs : List s.ty), wfS P s x
  | .pr a b, x => wfS P a x.1 ∧ wfS P b x.2

section
variable {H : Type} {enc : TypeId × Value → H} {P : Program}

def InZ (W : World) (b : Nat) : Prop := b < W.heap.size

/-- What can be read as data of type t is a value of shape s. -/
def Reads (enc : TypeId × Value → H) (P : Program) (t : TypeId) (s : Sh) : Prop :=
  ∀ (W : World) (fuel : Nat) (cs : List Value) (dd : DataW H) (p : List MemPlace), DataW.trod enc P W 0 (fun _ => true) true fuel t cs = some (dd, p) → (∀ n ∈ dd.weights P t, n ≤ reachBytes) → ∃ x : s.ty, Rep W (InZ W) s .fz x cs (fun _ => False) ∧ wfS P s x

theorem reads_int {t : TypeId} {k : IntKind} (ht : P.underlying t = some (.int k)) : Reads enc P t (.int k) := by
  intro W fuel cs dd p h hw
  cases fuel with
  | zero => simp [DataW.trod] at h
  | succ n =>
    unfold DataW.trod at h
    rw [ht] at h
    split at h <;> simp_all
    obtain ⟨⟨e, h1⟩, rfl, rfl⟩ := h
    rename_i hk0
    subst hk0
    exact ⟨_, rfl, h1⟩

theorem reads_bool {t : TypeId} (ht : P.underlying t = some .bool) : Reads enc P t .bool := by
  intro W fuel cs dd p h hw
  cases fuel with
  | zero => simp [DataW.trod] at h
  | succ n =>
    unfold DataW.trod at h
    rw [ht] at h
    split at h
    all_goals first
      | (injections; done)
      | (exact ⟨_, rfl, trivial⟩)
      | simp_all

theorem reads_string {t : TypeId} (ht : P.underlying t = some .string) : Reads enc P t .str := by
  intro W fuel cs dd p h hw
  cases fuel with
  | zero => simp [DataW.trod] at h
  | succ n =>
    unfold DataW.trod at h
    rw [ht] at h
    split at h <;> simp_all
    obtain ⟨h1, rfl, rfl⟩ := h
    refine ⟨_, rfl, ?_⟩
    have := hw _ (by simp [DataW.weights]; rfl)
    simpa [wfS, reachBytes] using this

theorem weightsAll_mem' {e : TypeId} : ∀ {l : List (DataW H)} {x : DataW H} {n : Nat}, x ∈ l → n ∈ x.weights P e → n ∈ DataW.weightsAll P e l
  | [], _, _, h, _ => by simp at h
  | y :: l, x, n, h, hn => by
    simp only [DataW.weightsAll, List.mem_append]
    rcases List.mem_cons.1 h with rfl | h
    · exact .inl hn
    · exact .inr (weightsAll_mem' h hn)

theorem cells?_cell' {w : World} {a : Addr} {n : Nat} {cs : List Value} (h : w.cells? 0 a n = some cs) : cs.length = n ∧ ∀ (i : Nat) (u : Value), cs[i]? = some u → w.cell? (a.add i) = some u := by
  unfold World.cells? at h
  rw [if_pos (Nat.zero_le _)] at h
  have hl : cs.length = n := by have := mapM_some_length h; simpa using this
  refine ⟨hl, fun i u hu => ?_⟩
  have hi : i < cs.length := (List.getElem?_eq_some_iff.1 hu).1
  have := mapM_some_get h i i (by rw [List.getElem?_range (by omega)])
  rw [this, hu]

theorem reads_slice {t e : TypeId} {s : Sh} (ht : P.underlying t = some (.slice e)) (hd : P.cellsOf e = s.size) (hp : 0 < s.size) (he : Reads enc P e s) : Reads enc P t (.sl e s) := by
  intro W fuel cs dd p h hw
  rcases DataW.trod_slice ht h with ⟨rfl, hx⟩ | ⟨a, len, cap, elems, rest, n, rfl, rfl, hx, hb, hl, hm, hel, hget, _, _⟩
  · exact ⟨[], ⟨none, 0, rfl, Nat.le_refl _, Nat.zero_le _, fun h => absurd h (by simp)⟩, by simp, by simp, by simp⟩
  · obtain ⟨rfl, rfl⟩ := Prod.mk.inj hx
    rw [hd] at hget
    have hwl : (elems.length + rest.length) * P.bytesOf e ≤ reachBytes := hw _ (by simp [DataW.weights, ht])
    have hwe : ∀ y ∈ elems, ∀ m ∈ y.1.weights P e, m ≤ reachBytes := fun y hy m hm => hw m (by
      simp only [DataW.weights, ht]
      exact List.mem_cons_of_mem _ (List.mem_append_left _ (weightsAll_mem' (List.mem_map_of_mem hy) hm)))
    have key : ∀ i, i < len → ∃ x c, wfS P s x ∧ Rep W (InZ W) s .fz x c (fun _ => False) ∧ c.length = s.size ∧ ∀ j, j < s.size → W.cell? (a.add (i * s.size + j)) = c[j]? := by
      intro i hi
      have hg := hget i hi
      rw [List.getElem?_eq_getElem (by omega)] at hg
      obtain ⟨c, hc, htr⟩ := Option.bind_eq_some_iff.1 hg
      obtain ⟨hcl, hcc⟩ := cells?_cell' hc
      obtain ⟨x, hk, hx⟩ := he W n c _ _ htr (hwe _ (List.getElem_mem _))
      refine ⟨x, c, hx, hk, hcl, fun j hj => ?_⟩
      have := hcc j _ (List.getElem?_eq_getElem (by omega))
      rw [add_add] at this
      rw [this, List.getElem?_eq_getElem (by omega)]
    have build : ∀ m, m ≤ len → ∃ l : List s.ty, l.length = m ∧ (∀ x ∈ l, wfS P s x) ∧ ∀ (j : Nat) (x : s.ty), l[j]? = some x → ∃ c : List Value, c.length = s.size ∧ (∀ i, i < s.size → W.cell? (a.add (j * s.size + i)) = c[i]?) ∧ Rep W (InZ W) s .fz x c (fun _ => False) := by
      intro m
      induction m with
      | zero => intro _; exact ⟨[], rfl, by simp, by simp⟩
      | succ m ih =>
        intro hm1
        obtain ⟨l, hl1, hl2, hl3⟩ := ih (by omega)
        obtain ⟨x, c, hx, hk, hcl, hcc⟩ := key m (by omega)
        refine ⟨l ++ [x], by simp [hl1], ?_, ?_⟩
        · intro y hy
          rcases List.mem_append.1 hy with hy | hy
          · exact hl2 y hy
          · rw [List.mem_singleton.1 hy]; exact hx
        · intro j y hj
          rcases Nat.lt_or_ge j m with hjm | hjm
          · rw [List.getElem?_append_left (by omega)] at hj
            exact hl3 j y hj
          · rw [List.getElem?_append_right (by omega), hl1] at hj
            have hj0 : j - m = 0 := by
              have := (List.getElem?_eq_some_iff.1 hj).1
              simp at this
              omega
            obtain rfl : j = m := by omega
            rw [hj0] at hj
            simp at hj
            subst hj
            exact ⟨c, hcl, hcc, hk⟩
    obtain ⟨l, hl1, hl2, hl3⟩ := build len (Nat.le_refl _)
    have hlen : l.length ≤ maxLen := by omega
    refine ⟨l, ⟨some a, cap, by rw [hl1], by omega, hlen, fun hpos => ⟨a, rfl, ?_, fun i hi => ?_⟩⟩, ?_, hlen, hl2⟩
    · obtain ⟨c, q1, q2, _⟩ := hl3 0 _ (List.getElem?_eq_getElem hpos)
      have h1 := q2 0 hp
      rw [List.getElem?_eq_getElem (by omega)] at h1
      obtain ⟨_, cur, e', fr, h2⟩ := cell_some h1
      rw [add_block] at h2
      exact (Array.getElem?_eq_some_iff.1 h2).1
    · obtain ⟨c, q1, q2, q3⟩ := hl3 i _ (List.getElem?_eq_getElem hi)
      refine ⟨c, q1, q2, ?_⟩
      have : l.getD i s.zero = l[i] := by rw [List.getD_eq_getElem?_getD, List.getElem?_eq_getElem hi]; rfl
      rw [this]; exact q3
    · have : l.length * P.bytesOf e ≤ (elems.length + rest.length) * P.bytesOf e := Nat.mul_le_mul_right _ (by omega)
      simp only [reachBytes] at hwl
      omega

def fieldsB (P : Program) (r : TypeId → Sh → Bool) : List Field → Sh → Nat → Bool
  | [f], s, o => decide (f.offset = o) && decide (P.cellsOf f.type = s.size) && r f.type s
  | f :: g :: fs, .pr a b, o => decide (f.offset = o) && decide (P.cellsOf f.type = a.size) && r f.type a && fieldsB P r (g :: fs) b (o + a.size)
  | _, _, _ => false
def rdB (P : Program) : Nat → TypeId → Sh → Bool
  | 0, _, _ => false
  | n + 1, t, s => match P.underlying t with
    | some (.int k) => decide (s = .int k)
    | some .bool => decide (s = .bool)
    | some .string => decide (s = .str)
    | some (.slice e) => match s with
      | .sl e' s' => decide (e = e') && decide (P.cellsOf e = s'.size) && decide (0 < s'.size) && rdB P n e s'
      | _ => false
    | some (.struct fs) => decide (P.cellsOf t = s.size) && fieldsB P (rdB P n) fs.toList s 0
    | _ => false

theorem reads_fields {r : TypeId → Sh → Bool} (hr : ∀ t s, r t s = true → Reads enc P t s) : ∀ (fs : List Field) (s : Sh) (o : Nat), fieldsB P r fs s o = true → ∀ (W : World) (n : Nat) (cs : List Value) (xs : List (DataW H × List MemPlace)), cs.length = o + s.size → xs.length = fs.length →
    (∀ (i : Nat) (f : Field), fs[i]? = some f → DataW.trod enc P W 0 (fun _ => true) true n f.type ((cs.drop f.offset).take (P.cellsOf f.type)) = xs[i]?) → (∀ m ∈ DataW.weightsEach P (fs.map (·.type)) (xs.map (·.1)), m ≤ reachBytes) → ∃ x : s.ty, Rep W (InZ W) s .fz x (cs.drop o) (fun _ => False) ∧ wfS P s x
  | [], s, o, h => by cases s <;> simp [fieldsB] at h
  | [f], s, o, h => by
    intro W n cs xs hl hx hf hw
    have h' : (decide (f.offset = o) && decide (P.cellsOf f.type = s.size) && r f.type s) = true := by cases s <;> exact h
    simp only [Bool.and_eq_true, decide_eq_true_eq] at h'
    obtain ⟨⟨h0, hs⟩, h1⟩ := h'
    match xs, hx with
    | [y], _ =>
      have := hf 0 f rfl
      simp only [List.getElem?_cons_zero] at this
      obtain ⟨x, hk, hx⟩ := hr _ _ h1 W n _ _ _ this (fun m hm => hw m (by simp [DataW.weightsEach]; exact hm))
      rw [h0, hs, List.take_of_length_le (by simp; omega)] at hk
      exact ⟨x, hk, hx⟩
  | f :: g :: fs, s, o, h => by
    intro W n cs xs hl hx hf hw
    cases s with
    | pr a b =>
      simp only [fieldsB, Bool.and_eq_true, decide_eq_true_eq] at h
      obtain ⟨⟨⟨h0, hs⟩, h1⟩, h2⟩ := h
      match xs, hx with
      | y :: ys, hx =>
        have h3 := hf 0 f rfl
        simp only [List.getElem?_cons_zero] at h3
        obtain ⟨x, hk, hwx⟩ := hr _ _ h1 W n _ _ _ h3 (fun m hm => hw m (by simp only [List.map_cons, DataW.weightsEach, List.mem_append]; exact .inl hm))
        simp only [Sh.size] at hl
        obtain ⟨x', hk', hwx'⟩ := reads_fields hr (g :: fs) b (o + a.size) h2 W n cs ys (by omega) (by simpa using hx) (fun i f' hf' => by have := hf (i + 1) f' (by simpa using hf'); simpa using this) (fun m hm => hw m (by simp only [List.map_cons, DataW.weightsEach, List.mem_append] at hm ⊢; exact .inr hm))
        rw [h0, hs] at hk
        refine ⟨(x, x'), ⟨_, _, fun _ => False, fun _ => False, ?_, fun _ h => h, fun _ h => h, fun _ h _ => h, hk, hk'⟩, hwx, hwx'⟩
        rw [← List.drop_drop, List.take_append_drop]
    | unit => simp [fieldsB] at h
    | int _ => simp [fieldsB] at h
    | bool => simp [fieldsB] at h
    | str => simp [fieldsB] at h
    | sl _ _ => simp [fieldsB] at h

theorem reads_ok : ∀ (n : Nat) (t : TypeId) (s : Sh), rdB P n t s = true → Reads enc P t s := by
  intro n
  induction n with
  | zero => intro t s h; cases h
  | succ n ih =>
    intro t s h
    unfold rdB at h
    split at h
    · rename_i k ht
      obtain rfl := of_decide_eq_true h
      exact reads_int ht
    · rename_i ht
      obtain rfl := of_decide_eq_true h
      exact reads_bool ht
    · rename_i ht
      obtain rfl := of_decide_eq_true h
      exact reads_string ht
    · rename_i e ht
      split at h
      · rename_i e' s'
        simp only [Bool.and_eq_true, decide_eq_true_eq] at h
        obtain ⟨⟨⟨rfl, h1⟩, h2⟩, h3⟩ := h
        exact reads_slice ht h1 h2 (ih _ _ h3)
      · cases h
    · rename_i fs ht
      simp only [Bool.and_eq_true, decide_eq_true_eq] at h
      obtain ⟨h1, h2⟩ := h
      intro W fuel cs dd p hh hw
      obtain ⟨xs, n', rfl, hx, hl, hlen, hf⟩ := DataW.trod_struct ht hh
      obtain ⟨rfl, rfl⟩ := Prod.mk.inj hx
      obtain ⟨x, hk, hwx⟩ := reads_fields ih fs.toList s 0 h2 W n' cs xs (by omega) (by simpa using hlen) (fun i f hfi => hf i f (by simpa using hfi)) (fun m hm => hw m (by simp only [DataW.weights, ht]; exact hm))
      exact ⟨x, by simpa using hk, hwx⟩
    · cases h

/-- An argument of a row. -/
theorem Reads.arg {t : TypeId} {s : Sh} (h : Reads enc P t s) {W : World} {v : Value} {dd : DataW H} {p : List MemPlace} {ts : List TypeId} {ds : List (DataW H)} {j : Nat} {agg : Bool} (hv : mkV agg v.cells.toList v)
    (hsz : (DataW.weightsEach P ts ds).all (· ≤ reachBytes) = true) (ht : ts[j]? = some t) (hd : ds[j]? = some dd) (hr : DataW.Trod enc P W 0 (fun _ => true) true t v dd p) : ∃ x : s.ty, ARep W (InZ W) (.v agg s x) v ∧ wfS P s x := by
  obtain ⟨fuel, hf⟩ := hr
  obtain ⟨x, h1, h2⟩ := h W fuel _ _ _ hf (fun n hn => by have := List.all_eq_true.1 hsz n (DataW.weights_mem_each ht hd n hn); simpa using this)
  exact ⟨x, ⟨_, hv, h1⟩, h2⟩

/-- all the arguments -/
def AAll (w : World) (Z : Nat → Prop) (args : List PV) (vals : List Value) : Prop := vals.length = args.length ∧ ∀ (i : Nat) (pv : PV) (v : Value), args[i]? = some pv → vals[i]? = some v → ARep w Z pv v
theorem AAll.nil (w : World) (Z : Nat → Prop) : AAll w Z [] [] := ⟨rfl, fun i pv v hi => by simp at hi⟩
theorem AAll.cons {w : World} {Z : Nat → Prop} {pv : PV} {v : Value} {args : List PV} {vals : List Value} (h : ARep w Z pv v) (k : AAll w Z args vals) : AAll w Z (pv :: args) (v :: vals) := by
  refine ⟨by simp [k.1], fun i pv' v' hi hv => ?_⟩
  cases i with
  | zero => simp only [List.getElem?_cons_zero, Option.some.injEq] at hi hv; subst hi; subst hv; exact h
  | succ i => simp only [List.getElem?_cons_succ] at hi hv; exact k.2 i pv' v' hi hv

/-- a law's row: the call returns true -/
theorem row_calls {f : FuncId} {args : List PV} {vals : List Value} {W : World} (h : VC P f args (· = .v false .bool true)) (ha : AAll W (InZ W) args vals) : Calls P f vals.toArray W fun e w' => e = .returned (.bool true) ∧ Below W.heap.size W w' := by
  refine (h.run (InZ W) W vals (fun b hb => hb) ha.1 ha.2).mono fun e w' ⟨v, pv, h1, h2, h3, h4⟩ => ?_
  subst h3
  obtain ⟨cs, m1, m2⟩ := (h4 : ARep w' _ (.v false .bool true) v)
  simp only [Rep] at m2
  subst m2
  have : v = .bool true := by simpa [mkV] using m1.symm
  rw [h1, this]
  exact ⟨rfl, h2.os, h2.tape, h2.output, h2.size, fun k hk => h2.block k hk⟩
end
end Go.Proofs.Yteeklekfafedcaa.V

/- Reading arguments of any nesting of whole numbers, bools, strings, slices and structs as plain Lean values (the rows of laws whose parameters are such). No condition. -/
import Derived.Test.YteeklekfafedcaaWWords
import Derived.ChangeArms
import Derived.SizedLaws
import Derived.WideShapes
import Derived.ChangeShapes
import Derived.DataReads
namespace Go.Proofs.Yteeklekfafedcaa.Opn
open Go.Proofs.YteeklekfafedcaaW.PrintWords Go.WideShapes Go.ChangeShapes
set_option linter.unusedVariables false

variable {H : Type} {enc : TypeId × Value → H} {P : Program}

/-- What can be read as data of type t is a value of kind d, of which wf holds. -/
def Opens {α : Type} (enc : TypeId × Value → H) (P : Program) (t : TypeId) (d : Kd α) (wf : α → Prop) : Prop :=
  ∀ (W : World) (fuel : Nat) (cs : List Value) (dd : DataW H) (p : List MemPlace), DataW.trod enc P W 0 (fun _ => true) true fuel t cs = some (dd, p) → (∀ n ∈ dd.weights P t, n ≤ reachBytes) → ∃ x, d.K W x cs ∧ wf x

theorem opens_int {t : TypeId} {k : IntKind} (ht : P.underlying t = some (.int k)) : Opens enc P t (Kd.int k) (fun x => (Lit.int k x).wf = true) := by
  intro W fuel cs dd p h hw
  cases fuel with
  | zero => simp [DataW.trod] at h
  | succ n =>
    unfold DataW.trod at h
    rw [ht] at h
    split at h <;> simp_all
    obtain ⟨⟨rfl, h1⟩, rfl, rfl⟩ := h
    exact ⟨_, rfl, h1⟩

theorem opens_bool {t : TypeId} (ht : P.underlying t = some .bool) : Opens enc P t Kd.bool (fun _ => True) := by
  intro W fuel cs dd p h hw
  cases fuel with
  | zero => simp [DataW.trod] at h
  | succ n =>
    unfold DataW.trod at h
    rw [ht] at h
    split at h
    all_goals first
      | (injections; done)
      | (exact ⟨_, rfl, trivial⟩)
      | simp_all

theorem opens_string {t : TypeId} (ht : P.underlying t = some .string) : Opens enc P t Kd.string (fun s => s.size ≤ 140737488351232) := by
  intro W fuel cs dd p h hw
  cases fuel with
  | zero => simp [DataW.trod] at h
  | succ n =>
    unfold DataW.trod at h
    rw [ht] at h
    split at h <;> simp_all
    obtain ⟨h1, rfl, rfl⟩ := h
    refine ⟨_, rfl, ?_⟩
    have := hw _ (by simp [DataW.weights]; rfl)
    simpa [reachBytes] using this

theorem weightsAll_mem {e : TypeId} : ∀ {l : List (DataW H)} {x : DataW H} {n : Nat}, x ∈ l → n ∈ x.weights P e → n ∈ DataW.weightsAll P e l
  | [], _, _, h, _ => by simp at h
  | y :: l, x, n, h, hn => by
    simp only [DataW.weightsAll, List.mem_append]
    rcases List.mem_cons.1 h with rfl | h
    · exact .inl hn
    · exact .inr (weightsAll_mem h hn)

theorem cells?_cell {w : World} {a : Addr} {n : Nat} {cs : List Value} (h : w.cells? 0 a n = some cs) : cs.length = n ∧ ∀ i u, cs[i]? = some u → w.cell? (a.add i) = some u := by
  unfold World.cells? at h
  rw [if_pos (Nat.zero_le _)] at h
  have hl : cs.length = n := by have := mapM_some_length h; simpa using this
  refine ⟨hl, fun i u hu => ?_⟩
  have hi : i < cs.length := (List.getElem?_eq_some_iff.1 hu).1
  have := mapM_some_get h i i (by rw [List.getElem?_range (by omega)])
  rw [this, hu]

theorem addr_add_add (a : Addr) (x y : Nat) : (a.add x).add y = a.add (x + y) := by
  unfold Addr.add
  by_cases hx : x = 0 <;> by_cases hy : y = 0 <;> simp [hx, hy, Nat.add_assoc]

theorem opens_slice {α : Type} {t e : TypeId} {d : Kd α} {wf : α → Prop} {B : Nat} (ht : P.underlying t = some (.slice e)) (hd : P.cellsOf e = d.sz) (hB : P.bytesOf e = B) (he : Opens enc P e d wf) :
    Opens enc P t (Kd.slice e d) (fun l => l.length * B ≤ 140737488351232 ∧ l.length ≤ maxLen ∧ ∀ x ∈ l, wf x) := by
  subst hB
  intro W fuel cs dd p h hw
  rcases DataW.trod_slice ht h with ⟨rfl, hx⟩ | ⟨a, len, cap, elems, rest, n, rfl, rfl, hx, hb, hl, hm, hel, hget, _, _⟩
  · exact ⟨[], ⟨none, 0, rfl, Nat.le_refl _, rfl, by simp, fun h => absurd h (by simp)⟩, by simp, by simp, by simp⟩
  · obtain ⟨rfl, rfl⟩ := Prod.mk.inj hx
    rw [hd] at hget
    have hwl : (elems.length + rest.length) * P.bytesOf e ≤ reachBytes := hw _ (by simp [DataW.weights, ht])
    have hwe : ∀ y ∈ elems, ∀ m ∈ y.1.weights P e, m ≤ reachBytes := fun y hy m hm => hw m (by
      simp only [DataW.weights, ht]
      exact List.mem_cons_of_mem _ (List.mem_append_left _ (weightsAll_mem (List.mem_map_of_mem hy) hm)))
    have key : ∀ i, i < len → ∃ x c, wf x ∧ d.K W x c ∧ c.length = d.sz ∧ ∀ j u, c[j]? = some u → W.cell? (a.add (i * d.sz + j)) = some u := by
      intro i hi
      have hg := hget i hi
      rw [List.getElem?_eq_getElem (by omega)] at hg
      obtain ⟨c, hc, htr⟩ := Option.bind_eq_some_iff.1 hg
      obtain ⟨hcl, hcc⟩ := cells?_cell hc
      obtain ⟨x, hk, hx⟩ := he W n c _ _ htr (hwe _ (List.getElem_mem _))
      refine ⟨x, c, hx, hk, hcl, fun j u hu => ?_⟩
      have := hcc j u hu
      rw [addr_add_add] at this
      exact this
    have build : ∀ m, m ≤ len → ∃ l : List α, l.length = m ∧ (∀ x ∈ l, wf x) ∧ ∀ j x, l[j]? = some x → ∃ c, c.length = d.sz ∧ d.K W x c ∧ ∀ i u, c[i]? = some u → W.cell? (a.add (j * d.sz + i)) = some u := by
      intro m
      induction m with
      | zero => intro _; exact ⟨[], rfl, by simp, by simp⟩
      | succ m ih =>
        intro hm1
        obtain ⟨l, hl1, hl2, hl3⟩ := ih (by omega)
        obtain ⟨x, c, hx, hk, hcl, hcc⟩ := key m (by omega)
        refine ⟨l ++ [x], by simp [hl1], ?_, ?_⟩
        · intro y hy
          rcases List.mem_append.1 hy with hy | hy
          · exact hl2 y hy
          · rw [List.mem_singleton.1 hy]; exact hx
        · intro j y hj
          rcases Nat.lt_or_ge j m with hjm | hjm
          · rw [List.getElem?_append_left (by omega)] at hj
            exact hl3 j y hj
          · rw [List.getElem?_append_right (by omega), hl1] at hj
            have hj0 : j - m = 0 := by
              have := (List.getElem?_eq_some_iff.1 hj).1
              simp at this
              omega
            obtain rfl : j = m := by omega
            rw [hj0] at hj
            simp at hj
            subst hj
            exact ⟨c, hcl, hk, hcc⟩
    obtain ⟨l, hl1, hl2, hl3⟩ := build len (Nat.le_refl _)
    have hlen : l.length ≤ maxLen := by omega
    refine ⟨l, ⟨some a, cap, by rw [hl1], by omega, rfl, by simpa [maxLen] using hlen, fun _ => ⟨a, rfl, hl3⟩⟩, ?_, hlen, hl2⟩
    have : l.length * P.bytesOf e ≤ (elems.length + rest.length) * P.bytesOf e := Nat.mul_le_mul_right _ (by omega)
    simp only [reachBytes] at hwl
    omega

/-- The fields from a place on. -/
def OpensAt {α : Type} (enc : TypeId × Value → H) (P : Program) (fs : List Field) (off : Nat) (d : Kd α) (wf : α → Prop) : Prop :=
  ∀ (W : World) (n : Nat) (cs : List Value) (xs : List (DataW H × List MemPlace)), cs.length = off + d.sz → xs.length = fs.length → (∀ (i : Nat) (f : Field), fs[i]? = some f → DataW.trod enc P W 0 (fun _ => true) true n f.type ((cs.drop f.offset).take (P.cellsOf f.type)) = xs[i]?) →
    (∀ m ∈ DataW.weightsEach P (fs.map (·.type)) (xs.map (·.1)), m ≤ reachBytes) → ∃ x, d.K W x (cs.drop off) ∧ wf x

theorem opensAt_one {α : Type} {f : Field} {off : Nat} {d : Kd α} {wf : α → Prop} (h0 : f.offset = off) (hs : P.cellsOf f.type = d.sz) (h : Opens enc P f.type d wf) : OpensAt enc P [f] off d wf := by
  intro W n cs xs hl hx hf hw
  match xs, hx with
  | [y], _ =>
    have := hf 0 f rfl
    simp only [List.getElem?_cons_zero] at this
    obtain ⟨x, hk, hx⟩ := h W n _ _ _ this (fun m hm => hw m (by simp [DataW.weightsEach]; exact hm))
    rw [h0, hs, List.take_of_length_le (by simp; omega)] at hk
    exact ⟨x, hk, hx⟩

theorem opensAt_cons {α β : Type} {f : Field} {fs : List Field} {off : Nat} {d : Kd α} {wf : α → Prop} {d' : Kd β} {wf' : β → Prop} (h0 : f.offset = off) (hs : P.cellsOf f.type = d.sz) (h : Opens enc P f.type d wf) (hr : OpensAt enc P fs (off + d.sz) d' wf') :
    OpensAt enc P (f :: fs) off (Kd.pair d d') (fun x => wf x.1 ∧ wf' x.2) := by
  intro W n cs xs hl hx hf hw
  match xs, hx with
  | y :: ys, hx =>
    have h1 := hf 0 f rfl
    simp only [List.getElem?_cons_zero] at h1
    obtain ⟨x, hk, hwx⟩ := h W n _ _ _ h1 (fun m hm => hw m (by simp only [List.map_cons, DataW.weightsEach, List.mem_append]; exact .inl hm))
    have hl' : cs.length = off + d.sz + d'.sz := by simp only [Kd.pair] at hl; omega
    obtain ⟨x', hk', hwx'⟩ := hr W n cs ys hl' (by simpa using hx) (fun i g hg => by have := hf (i + 1) g (by simpa using hg); simpa using this) (fun m hm => hw m (by simp only [List.map_cons, DataW.weightsEach, List.mem_append]; exact .inr hm))
    rw [h0, hs] at hk
    refine ⟨(x, x'), ⟨_, _, ?_, hk, hk'⟩, hwx, hwx'⟩
    rw [← List.drop_drop, List.take_append_drop]

theorem opens_struct {α : Type} {t : TypeId} {fs : Array Field} {d : Kd α} {wf : α → Prop} (ht : P.underlying t = some (.struct fs)) (hd : P.cellsOf t = d.sz) (h : OpensAt enc P fs.toList 0 d wf) : Opens enc P t d wf := by
  intro W fuel cs dd p hh hw
  obtain ⟨xs, n, rfl, hx, hl, hlen, hf⟩ := DataW.trod_struct ht hh
  obtain ⟨rfl, rfl⟩ := Prod.mk.inj hx
  obtain ⟨x, hk, hwx⟩ := h W n cs xs (by omega) (by simpa using hlen) (fun i f hfi => hf i f (by simpa using hfi)) (fun m hm => hw m (by simp only [DataW.weights, ht]; exact hm))
  exact ⟨x, by simpa using hk, hwx⟩

theorem opens_iso {α β : Type} {t : TypeId} {d : Kd α} {wf : α → Prop} (f : β → α) (g : α → β) (hfg : ∀ y, f (g y) = y) (h : Opens enc P t d wf) : Opens enc P t (Kd.iso d f) (fun x => wf (f x)) := by
  intro W fuel cs dd p hh hw
  obtain ⟨x, hk, hx⟩ := h W fuel cs dd p hh hw
  exact ⟨g x, by show d.K W (f (g x)) cs; rw [hfg]; exact hk, by show wf (f (g x)); rw [hfg]; exact hx⟩

theorem Opens.imp {α : Type} {t : TypeId} {d : Kd α} {wf wf' : α → Prop} (h : Opens enc P t d wf) (hi : ∀ x, wf x → wf' x) : Opens enc P t d wf' := by
  intro W fuel cs dd p hh hw
  obtain ⟨x, hk, hx⟩ := h W fuel cs dd p hh hw
  exact ⟨x, hk, hi x hx⟩

/-- An argument of a row: what it says of the cells, with the row's bound on sizes. -/
theorem Opens.arg {α : Type} {t : TypeId} {d : Kd α} {wf : α → Prop} (h : Opens enc P t d wf) {W : World} {v : Value} {dd : DataW H} {p : List MemPlace} {ts : List TypeId} {ds : List (DataW H)} {j : Nat}
    (hsz : (DataW.weightsEach P ts ds).all (· ≤ reachBytes) = true) (ht : ts[j]? = some t) (hd : ds[j]? = some dd) (hr : DataW.Trod enc P W 0 (fun _ => true) true t v dd p) : ∃ x, d.K W x v.cells.toList ∧ wf x := by
  obtain ⟨fuel, hf⟩ := hr
  exact h W fuel _ _ _ hf (fun n hn => by have := List.all_eq_true.1 hsz n (DataW.weights_mem_each ht hd n hn); simpa using this)

end Go.Proofs.Yteeklekfafedcaa.Opn

/- A function's own law. No condition. -/
import Derived.Test.YteeklekfafedcaaV21
set_option linter.unusedVariables false
namespace Go.Proofs.Yteeklekfafedcaa.V
open Go Go.RowKit

/-- a result's value, as the state tells it -/
def rpv (T : List (Nat × TI)) (st : St) (rv : ResultVar) (agg : Bool) (s : Sh) : PV :=
  match rv with
  | .tmp t => ref st (.tmp t)
  | .cell b ty => match tget T ty with
    | some i => if i.agg = agg ∧ i.sh = s then match ref st (.tmp b) with
      | .adr g p => match look st g p with
        | some ⟨s', f, x⟩ => if s' = i.sh then loaded i.agg g p s' f x else .dead
        | none => .dead
      | .fadr s' x => if s' = i.sh then .v i.agg s' x else .dead
      | _ => .dead else .dead
    | none => .dead

/-- results, moved out: variable, struct or one cell, shape -/
def vgrabs (T : List (Nat × TI)) (st : St) : List (ResultVar × Bool × Sh) → Option (List Bool × ((s : Sh) × Fl × s.ty))
  | [] => some ([], ⟨.unit, .fz, ()⟩)
  | [(t, agg, s)] => match grab st agg s (rpv T st t agg s) with
    | some (f, x, _) => some ([agg], ⟨s, f, x⟩)
    | none => none
  | (t, agg, s) :: r => match grab st agg s (rpv T st t agg s) with
    | some (f, x, st') => match vgrabs T st' r with
      | some (aggs, ⟨s', f', x'⟩) => some (agg :: aggs, ⟨.pr s s', .pr f f', (x, x')⟩)
      | none => none
    | none => none

def vret (T : List (Nat × TI)) (st : St) : List (ResultVar × Bool × Sh) → Option PV
  | [(t, agg, s)] => match grab st agg s (rpv T st t agg s) with
    | some (f, x, _) => if s.plain || Fl.allfz s f then some (.v agg s x) else if agg || s.isSl then some (.root (.val agg) s f x) else none
    | none => none
  | l => match vgrabs T st l with
    | some (aggs, ⟨s, f, x⟩) => if tupOk aggs s then some (.root (.tup aggs) s f x) else none
    | none => none

def retV : List Value → Value
  | [v] => v
  | vs => .tuple vs.toArray

def rsem (tmps : Array Value) : ResultVar → Sem Value
  | .tmp t => pure (tmps.getD t undef)
  | .cell a t => do loadVar t (← asAddr (tmps.getD a undef))

section
variable {P : Program} {T : List (Nat × TI)} {L : Lay} {st st' : St} {a : Act} {w : World} {R : Nat → Prop}

theorem rpv_ok (hT : TabOk P T) (h : Rel L st a w R) {rv : ResultVar} {agg : Bool} {s : Sh} {f : Fl} {x : s.ty} {st' : St} (hg : grab st agg s (rpv T st rv agg s) = some (f, x, st')) : ∃ v, (rsem a.tmps rv).run P w = .ok v w ∧ ORep L st w (rpv T st rv agg s) v := by
  cases rv with
  | tmp t => exact ⟨_, rfl, h.opnd (.tmp t)⟩
  | cell b ty =>
    have dead : ∀ {pv : PV}, pv = .dead → grab st agg s pv = some (f, x, st') → False := fun e hg => by rw [e] at hg; simp [V.grab] at hg
    have hv := h.opnd (.tmp b)
    unfold rpv at hg ⊢
    simp only at hg ⊢
    split at hg
    · rename_i i hi
      have hTt := hT ty i hi
      split at hg
      · rename_i hc
        rw [if_pos hc]
        split at hg
        · rename_i g p hx
          rw [hx] at hv
          split at hg
          · rename_i s' f' y hl
            split at hg
            · rename_i hs
              obtain ⟨s1, cs1, A, h1, h2⟩ := hv
              obtain rfl := h1.shape hl
              obtain ⟨q1, q2, B1, q3, q4⟩ := h.place h1 hl
              obtain ⟨v, r1, r2⟩ := run_loadVarAt (P := P) hTt q1 (by rw [q4.len, hs])
              have he : a.tmps.getD b undef = .pointer (some A) := h2
              refine ⟨v, by simp [rsem, he, asAddr, r1], ?_⟩
              rw [if_pos hs]
              unfold loaded
              by_cases hpl : (s'.plain || Fl.allfz s' f') = true
              · rw [if_pos hpl]
                refine ⟨cs1, r2, ?_⟩
                simp only [Bool.or_eq_true] at hpl
                rcases hpl with hpl | hpl
                · exact q4.plain hpl
                · exact q4.allfz hpl
              · rw [if_neg hpl]
                refine ⟨s', cs1, some A, h1, r2, fun hag => ?_⟩
                simp only [Bool.or_eq_true, not_or, Bool.not_eq_true] at hpl
                have hone := hTt.one hag
                rw [← hs] at hone
                cases s' with
                | sl _ _ => rfl
                | unit => simp [Sh.plain] at hpl
                | int _ => simp [Sh.plain] at hpl
                | bool => simp [Sh.plain] at hpl
                | str => simp [Sh.plain] at hpl
                | pr a b => exact absurd hpl.1 (by have := hTt.noPr hag; rw [← hs] at this; simp [Sh.isPr] at this)
            · exact (dead rfl hg).elim
          · exact (dead rfl hg).elim
        · rename_i s' y hx
          rw [hx] at hv
          split at hg
          · rename_i hs
            obtain ⟨ad, cs, h1, h2, h3, h4, h5⟩ := hv
            obtain ⟨v, r1, r2⟩ := run_loadVarAt (P := P) hTt (A := ad) (cs := cs) (fun A hA j hj => by obtain rfl := Option.some.inj hA; exact h4 j (by omega)) (by rw [h2, hs])
            have he : a.tmps.getD b undef = .pointer (some ad) := h1
            refine ⟨v, by simp [rsem, he, asAddr, r1], ?_⟩
            rw [if_pos hs]
            exact ⟨cs, r2, h5⟩
          · exact (dead rfl hg).elim
        · exact (dead rfl hg).elim
      · exact (dead rfl hg).elim
    · exact (dead rfl hg).elim

theorem vgrabs_ok (hT : TabOk P T) : ∀ (l : List (ResultVar × Bool × Sh)) {L : Lay} {st : St} {R : Nat → Prop}, Rel L st a w R → ∀ {aggs : List Bool} {s : Sh} {f : Fl} {x : s.ty}, vgrabs T st l = some (aggs, ⟨s, f, x⟩) →
    ∃ cs, ∃ B : Nat → Prop, Rep w L.Z s f x cs B ∧ (∀ b, B b → ¬ R b ∧ ∃ t, L.F t b) ∧ (tupV aggs s cs).length = l.length ∧ ∀ (i : Nat) (q : ResultVar × Bool × Sh) (v : Value), l[i]? = some q → (tupV aggs s cs)[i]? = some v → (rsem a.tmps q.1).run P w = .ok v w := by
  intro l
  induction l with
  | nil =>
    intro L st R h aggs s f x hg
    simp only [vgrabs, Option.some.injEq, Prod.mk.injEq, Sigma.mk.injEq] at hg
    obtain ⟨rfl, rfl, e⟩ := hg
    exact ⟨[], Free, rfl, fun b hb => hb.elim, rfl, fun i q v hi => by simp at hi⟩
  | cons q r ih =>
    intro L st R h aggs s f x hg
    obtain ⟨t, agg, s1⟩ := q
    have agV : ∀ {cs1 : List Value} {v : Value}, mkV agg cs1 v → aggV agg cs1 = v := by
      intro cs1 v hm
      cases agg with
      | true => simp only [mkV, if_true] at hm; simp [aggV, hm]
      | false => simp only [mkV, Bool.false_eq_true, if_false] at hm; subst hm; rfl
    cases r with
    | nil =>
      simp only [vgrabs] at hg
      split at hg
      · rename_i f1 x1 st1 hg1
        obtain ⟨v1, hv1, ho1⟩ := rpv_ok hT h hg1
        obtain ⟨L', B1, cs1, g1, g2, g3, g4, g5, g6, g7⟩ := h.grab ho1 hg1
        simp only [Option.some.injEq, Prod.mk.injEq, Sigma.mk.injEq] at hg
        obtain ⟨rfl, rfl, e⟩ := hg
        obtain ⟨rfl, rfl⟩ := Prod.mk.inj (eq_of_heq e)
        refine ⟨cs1, B1, g5, g3, rfl, fun i q v hi hv => ?_⟩
        simp only [tupV] at hv
        rw [agV g4] at hv
        cases i with
        | zero => simp only [List.getElem?_cons_zero, Option.some.injEq] at hi hv; subst hi; subst hv; exact hv1
        | succ i => simp at hi
      · cases hg
    | cons q2 r =>
      simp only [vgrabs] at hg
      split at hg
      · rename_i f1 x1 st1 hg1
        obtain ⟨v1, hv1, ho1⟩ := rpv_ok hT h hg1
        obtain ⟨L', B1, cs1, g1, g2, g3, g4, g5, g6, g7⟩ := h.grab ho1 hg1
        split at hg
        · rename_i aggs' s' f' x' hg2
          simp only [Option.some.injEq, Prod.mk.injEq, Sigma.mk.injEq] at hg
          obtain ⟨rfl, rfl, e⟩ := hg
          obtain ⟨rfl, rfl⟩ := Prod.mk.inj (eq_of_heq e)
          obtain ⟨cs2, B2, k1, k2, k3, k4⟩ := ih g2 hg2
          rw [g1.Z] at k1
          refine ⟨cs1 ++ cs2, fun b => B1 b ∨ B2 b, ⟨cs1, cs2, B1, B2, rfl, fun b hb => .inl hb, fun b hb => .inr hb, fun b h1 h2 => (k2 b h2).1 (.inr h1), g5, k1⟩, fun b hb => ?_, ?_⟩
          · rcases hb with hb | hb
            · exact g3 b hb
            · refine ⟨fun hr => (k2 b hb).1 (.inl hr), ?_⟩
              obtain ⟨t', ht'⟩ := (k2 b hb).2
              exact g1.F t' b ht'
          · match aggs', k3, k4 with
            | [], k3, _ => simp [tupV] at k3
            | g' :: r', k3, k4 =>
              have e : tupV (agg :: g' :: r') (Sh.pr s1 s') (cs1 ++ cs2) = v1 :: tupV (g' :: r') s' cs2 := by
                simp only [tupV]
                rw [List.take_left' g5.len, List.drop_left' g5.len, agV g4]
              refine ⟨by rw [e, List.length_cons, k3]; rfl, fun i q v hi hv => ?_⟩
              rw [e] at hv
              cases i with
              | zero => simp only [List.getElem?_cons_zero, Option.some.injEq] at hi hv; subst hi; subst hv; exact hv1
              | succ i => simp only [List.getElem?_cons_succ] at hi hv; exact k4 i q v hi hv
        · cases hg
      · cases hg

theorem results_run (fn : Func) (l : List (ResultVar × Bool × Sh)) (h : fn.results.toList = l.map fun q => q.1) (tmps : Array Value) (vs : List Value) (hl : vs.length = l.length) (hv : ∀ (i : Nat) (q : ResultVar × Bool × Sh) (v : Value), l[i]? = some q → vs[i]? = some v → (rsem tmps q.1).run P w = .ok v w) :
    (results fn tmps).run P w = .ok (retV vs) w := by
  have e : fn.results = (l.map fun q => q.1).toArray := by apply Array.ext'; simpa using h
  have key : ∀ (g : ResultVar → Sem Value), (∀ rv, g rv = rsem tmps rv) → ∀ (l : List (ResultVar × Bool × Sh)) (vs : List Value), vs.length = l.length → (∀ (i : Nat) (q : ResultVar × Bool × Sh) (v : Value), l[i]? = some q → vs[i]? = some v → (rsem tmps q.1).run P w = .ok v w) → Sem.run P (List.mapM g (l.map fun q => q.1)) w = Result.ok vs w := by
    intro g hg l
    induction l with
    | nil => intro vs hl _; obtain rfl := List.eq_nil_of_length_eq_zero hl; rfl
    | cons q r ih =>
      intro vs hl hv
      cases vs with
      | nil => simp at hl
      | cons v vs =>
        have h0 := hv 0 q v rfl rfl
        have h1 := ih vs (by simpa using hl) fun i q' v' hi hv' => hv (i + 1) q' v' (by simpa using hi) (by simpa using hv')
        simp only [List.map_cons, List.mapM_cons, hg, Sem.run_bind, h0, h1, Result.andThen_ok, Sem.run_pure]
  unfold results
  rw [e, List.mapM_toArray]
  simp only [map_eq_pure_bind, bind_assoc, pure_bind, Sem.run_bind]
  rw [key _ (fun rv => by cases rv <;> rfl) l vs hl hv]
  simp only [Result.andThen_ok]
  rcases vs with _ | ⟨v, _ | ⟨v2, vs⟩⟩ <;> rfl

theorem VC.of_body (hT : TabOk P T) {f : FuncId} {fn : Func} {c : Code} {args : List PV} {R : PV → Prop} (hf : P.funcs[f]? = some fn) (hb : fn.body = some c) (hnm : (fn.name == "runtime.NumGoroutine") = false) (res : List (ResultVar × Bool × Sh)) (hres : fn.results.toList = res.map fun q => q.1)
    (h : VW P c (args ++ List.replicate (fn.ntmps - args.length) .dead) (fun e st => (e = .ret ∨ e = .normal) ∧ ∃ pv, vret T st res = some pv ∧ R pv)) : VC P f args R := by
  refine ⟨⟨fn, hf, by rw [hb]; rfl, hnm⟩, fun Z w vals hz hl ha => ?_⟩
  refine calls_of_wp hf hb ?_
  have hr0 : Rel ⟨Z, fun _ => Free, fun _ => [], fun _ => none⟩ (args ++ List.replicate (fn.ntmps - args.length) .dead) { tmps := vals.toArray ++ Array.replicate (fn.ntmps - vals.toArray.size) undef, defers := [] } w Free := by
    refine ⟨by simp [hl], rfl, hz, fun t b hb => hb.elim, fun t t' b hb => hb.elim, fun b hb => hb.elim, fun t b hb => hb.elim, fun t ht => ?_⟩
    by_cases hlt : t < args.length
    · have e1 : St.at (args ++ List.replicate (fn.ntmps - args.length) .dead) t = args[t] := by
        unfold St.at
        rw [List.getD_eq_getElem?_getD, List.getElem?_append_left hlt, List.getElem?_eq_getElem hlt]; rfl
      have hlv : t < vals.length := by omega
      have e2 : (vals.toArray ++ Array.replicate (fn.ntmps - vals.toArray.size) undef).getD t undef = vals[t] := by
        rw [Array.getD_eq_getD_getElem?, Array.getElem?_append_left (by simpa using hlv)]
        simp [hlv]
      have hA := ha t _ _ (List.getElem?_eq_getElem hlt) (List.getElem?_eq_getElem hlv)
      rw [e1]
      simp only [e2]
      cases hpv : args[t] with
      | v agg s x => rw [hpv] at hA; exact hA
      | emp => rw [hpv] at hA; exact hA
      | fadr s x => rw [hpv] at hA; exact hA
      | fn f caps =>
        rw [hpv] at hA
        obtain ⟨vs, q1, q2, q3⟩ := hA
        refine ⟨vs, q1, q2, fun i c u hc hu => ?_⟩
        obtain ⟨s, x, rfl, q4⟩ := q3 i c u hc hu
        exact q4
      | dead => trivial
      | h => rw [hpv] at hA; exact hA.elim
      | adr => rw [hpv] at hA; exact hA.elim
      | root => rw [hpv] at hA; exact hA.elim
    · have e1 : St.at (args ++ List.replicate (fn.ntmps - args.length) .dead) t = .dead := by
        unfold St.at
        rw [List.getD_eq_getElem?_getD, List.getElem?_append_right (by omega), List.getElem?_replicate]
        split <;> rfl
      rw [e1]; trivial
  refine wp_mono (h _ _ w hr0) fun e a' w' ⟨L', st', s, r, he, pv, hp, hR⟩ => ?_
  have hext : Ext w w' := ⟨s.os, s.tape, s.output, s.size, fun b hb => s.block b hb (fun t ht => ht)⟩
  have hfresh : ∀ b, (∃ t, L'.F t b) → w.heap.size ≤ b ∧ b < w'.heap.size := by
    rintro b ⟨t, ht⟩
    refine ⟨?_, (r.flt t b ht).1⟩
    rcases s.F t b ht with ⟨_, q⟩ | q
    · exact q.elim
    · exact q
  have hZ : L'.Z = Z := s.Z
  have fin : a'.defers = [] ∧ ∃ v, (results fn a'.tmps).run P w' = .ok v w' ∧ ∃ v2 pv, Ending.returned v = .returned v2 ∧ Ext w w' ∧ R pv ∧ FRes w w' Z pv v2 := by
    have multi : (∀ q, res ≠ [q]) → ∀ {aggs s f x}, vgrabs T st' res = some (aggs, ⟨s, f, x⟩) → tupOk aggs s = true → R (.root (.tup aggs) s f x) → a'.defers = [] ∧ ∃ v, (results fn a'.tmps).run P w' = .ok v w' ∧ ∃ v2 pv, Ending.returned v = .returned v2 ∧ Ext w w' ∧ R pv ∧ FRes w w' Z pv v2 := by
      intro hne aggs s f x hg ht hR
      obtain ⟨cs, B, k1, k2, k3, k4⟩ := vgrabs_ok hT res r hg
      rw [hZ] at k1
      refine ⟨r.defers, _, results_run fn res hres a'.tmps _ k3 k4, _, _, rfl, hext, hR, cs, none, B, B, ⟨?_, ht, rfl⟩, fun _ h => h, (fun A hA => by cases hA), k1, fun b hb => hfresh b (k2 b hb).2⟩
      match hvs : tupV aggs s cs, res, hne, k3 with
      | [], _, _, _ => rfl
      | [v], [], _, k3 => simp at k3
      | [v], [q], hne, _ => exact absurd rfl (hne q)
      | [v], q :: q2 :: r', _, k3 => simp at k3
      | v :: v2 :: vs, _, _, _ => rfl
    match res, hp, multi, hres with
    | [], hp, multi, _ =>
      simp only [vret] at hp
      split at hp
      · rename_i aggs s1 f x hg
        split at hp
        · rename_i ht
          obtain rfl := Option.some.inj hp
          exact multi (fun q => by simp) hg ht hR
        · cases hp
      · cases hp
    | [(t, agg, s1)], hp, _, hres =>
      simp only [vret] at hp
      split at hp
      · rename_i f x st1 hg
        obtain ⟨v1, hv1, ho1⟩ := rpv_ok hT r hg
        obtain ⟨L2, B1, cs1, g1, g2, g3, g4, g5, g6, g7⟩ := r.grab ho1 hg
        rw [hZ] at g5
        refine ⟨r.defers, _, results_run fn _ hres a'.tmps [v1] rfl (fun i q v hi hv => by
          cases i with
          | zero => simp only [List.getElem?_cons_zero, Option.some.injEq] at hi hv; subst hi; subst hv; exact hv1
          | succ i => simp at hi), _, pv, rfl, hext, hR, ?_⟩
        split at hp
        · rename_i hpl
          obtain rfl := Option.some.inj hp
          refine ⟨cs1, g4, ?_⟩
          simp only [Bool.or_eq_true] at hpl
          rcases hpl with hpl | hpl
          · exact g5.plain hpl
          · exact g5.allfz hpl
        · split at hp
          · rename_i hag
            obtain rfl := Option.some.inj hp
            refine ⟨cs1, none, B1, B1, ⟨g4, fun e => ?_, rfl⟩, fun _ h => h, (fun A hA => by cases hA), g5, fun b hb => hfresh b (g3 b hb).2⟩
            subst e; simpa using hag
          · cases hp
      · cases hp
    | q :: q2 :: r', hp, multi, _ =>
      simp only [vret] at hp
      split at hp
      · rename_i aggs s1 f x hg
        split at hp
        · rename_i ht
          obtain rfl := Option.some.inj hp
          exact multi (fun q => by simp) hg ht hR
        · cases hp
      · cases hp
  rcases he with rfl | rfl
  · exact fin
  · exact fin
end
end Go.Proofs.Yteeklekfafedcaa.V

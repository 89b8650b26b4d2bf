/- The law of a function that writes what it is handed. No condition. -/
import Derived.Test.YteeklekfafedcaaV22
set_option linter.unusedVariables false
namespace Go.Proofs.Yteeklekfafedcaa.V
open Go Go.RowKit

/-- the cells that a value with known slices has -/
def encI : (s : Sh) → Fl → s.ty → Option (List Value)
  | .unit, _, _ => some []
  | .int k, _, x => some [.int k x]
  | .bool, _, x => some [.bool x]
  | .str, _, x => some [.string x]
  | .pr a b, f, x => match encI a f.l x.1, encI b f.r x.2 with
    | some c, some d => some (c ++ d)
    | _, _ => none
  | .sl _ s, f, xs => match f with
    | .io n c => some [.slice (some ⟨n, 0, none⟩) (List.length (α := s.ty) xs) c]
    | .kz A c => some [.slice A (List.length (α := s.ty) xs) c]
    | _ => none
theorem Rep.encI {w : World} {Z : Nat → Prop} : ∀ {s : Sh} {f : Fl} {x : s.ty} {cs l : List Value} {B : Nat → Prop}, Rep w Z s f x cs B → encI s f x = some l → cs = l
  | .unit, _, _, _, _, _, h, k => by have h : _ = [] := h; rw [h]; simpa [V.encI] using k
  | .int _, _, _, _, _, _, h, k => by have h : _ = [_] := h; rw [h]; simpa [V.encI] using k
  | .bool, _, _, _, _, _, h, k => by have h : _ = [_] := h; rw [h]; simpa [V.encI] using k
  | .str, _, _, _, _, _, h, k => by have h : _ = [_] := h; rw [h]; simpa [V.encI] using k
  | .pr a b, f, x, cs, l, B, h, k => by
    obtain ⟨c1, c2, B1, B2, rfl, h1, h2, h3, h4, h5⟩ := h
    simp only [V.encI] at k
    split at k
    · rename_i c d e1 e2
      rw [h4.encI e1, h5.encI e2]
      exact Option.some.inj k
    · cases k
  | .sl e s, f, xs, cs, l, B, h, k => by
    cases f with
    | io n c =>
      rw [h.2]
      exact Option.some.inj k
    | kz A c =>
      rw [h.2]
      exact Option.some.inj k
    | _ => simp [V.encI] at k

/-- known slices are one's own -/
def Fl.untag : Sh → Fl → Fl
  | .pr a b, f => .pr (Fl.untag a f.l) (Fl.untag b f.r)
  | .sl _ _, f => match f with
    | .io _ _ => .own
    | .kz _ _ => .fz
    | f => f
  | _, f => f
theorem Rep.untag {w : World} {Z : Nat → Prop} : ∀ {s : Sh} {f : Fl} {x : s.ty} {cs : List Value} {B : Nat → Prop}, Rep w Z s f x cs B → Rep w Z s (Fl.untag s f) x cs B
  | .unit, _, _, _, _, h => h
  | .int _, _, _, _, _, h => h
  | .bool, _, _, _, _, h => h
  | .str, _, _, _, _, h => h
  | .pr a b, f, x, cs, B, ⟨c1, c2, B1, B2, h0, h1, h2, h3, h4, h5⟩ => ⟨c1, c2, B1, B2, h0, h1, h2, h3, h4.untag, h5.untag⟩
  | .sl e s, f, xs, cs, B, h => by
    cases f with
    | io n c => exact h.1
    | kz A c => exact h.1
    | _ => exact h

/-- own rows that are not empty are known -/
def tagF : Sh → List (Nat × Nat) → Fl × List (Nat × Nat)
  | .pr a b, l => match tagF a l with
    | (f, l) => match tagF b l with
      | (g, l) => (.pr f g, l)
  | .sl _ _, (n, c) :: l => (.io n c, l)
  | _, l => (.own, l)
/-- no row is empty -/
def fullV : (s : Sh) → s.ty → Prop
  | .pr a b, x => fullV a x.1 ∧ fullV b x.2
  | .sl _ s, xs => 0 < List.length (α := s.ty) xs
  | _, _ => True
/-- every slice is one's own -/
def Fl.allown : Sh → Fl → Bool
  | .pr a b, f => Fl.allown a f.l && Fl.allown b f.r
  | .sl _ _, f => match f with | .own => true | _ => false
  | _, _ => true
theorem Rep.tag {w : World} {Z : Nat → Prop} : ∀ {s : Sh} {f : Fl} {x : s.ty} {cs : List Value} {B : Nat → Prop}, Fl.allown s f = true → fullV s x → Rep w Z s f x cs B → ∀ r : List (Nat × Nat), ∃ l, Rep w Z s (tagF s (l ++ r)).1 x cs B ∧ (tagF s (l ++ r)).2 = r ∧ ∃ li, V.encI s (tagF s (l ++ r)).1 x = some li
  | .unit, _, _, _, _, _, _, h, r => ⟨[], h, rfl, _, rfl⟩
  | .int _, _, _, _, _, _, _, h, r => ⟨[], h, rfl, _, rfl⟩
  | .bool, _, _, _, _, _, _, h, r => ⟨[], h, rfl, _, rfl⟩
  | .str, _, _, _, _, _, _, h, r => ⟨[], h, rfl, _, rfl⟩
  | .pr a b, f, x, cs, B, k, q, ⟨c1, c2, B1, B2, h0, h1, h2, h3, h4, h5⟩, r => by
    simp only [Fl.allown, Bool.and_eq_true] at k
    obtain ⟨l2, m1, m2, li2, m5⟩ := h5.tag k.2 q.2 r
    obtain ⟨l1, m3, m4, li1, m6⟩ := h4.tag k.1 q.1 (l2 ++ r)
    refine ⟨l1 ++ l2, ?_, ?_, li1 ++ li2, ?_⟩
    · rw [List.append_assoc]
      simp only [tagF, m4]
      exact ⟨c1, c2, B1, B2, h0, h1, h2, h3, m3, m1⟩
    · rw [List.append_assoc]
      simp only [tagF, m4, m2]
    · rw [List.append_assoc]
      simp only [tagF, m4, V.encI, Fl.l, Fl.r, m6, m5]
  | .sl e s, f, xs, cs, B, k, q, h, r => by
    cases f with
    | own =>
      rcases id h with ⟨A, _, hx⟩ | ⟨g, cap, cur, rows, Bs, hc, _⟩
      · have hx : (xs : List s.ty) = [] := hx
        have q : 0 < (xs : List s.ty).length := q
        rw [hx] at q; simp at q
      · exact ⟨[(g, cap)], ⟨h, hc⟩, rfl, _, rfl⟩
    | _ => simp [Fl.allown] at k

/-- the result, moved out, and the state behind it -/
def vretX (T : List (Nat × TI)) (st : St) : List (ResultVar × Bool × Sh) → Option (PV × St)
  | [] => some (.root (.tup []) .unit .fz (), st)
  | [(t, agg, s)] => match grab st agg s (rpv T st t agg s) with
    | some (f, x, st') => if s.plain || Fl.allfz s f then some (.v agg s x, st') else if agg || s.isSl then some (.root (.val agg) s f x, st') else none
    | none => match t with
      | .tmp t0 => match ref st (.tmp t0) with
        | .adr g [] => match st.at g with
          | .root (.box ty) s' f x => some (.root (.box ty) s' f x, (st.map (V.drop g)).set g .dead)
          | _ => none
        | _ => none
      | _ => none
  | _ => none

section
variable {P : Program} {T : List (Nat × TI)}

/-- what is left of what was handed over: A as it came, ot as it goes -/
def OutOk (A : PV) (st2 : St) (ot : PV) : Prop := ∀ (L : Lay) (a : Act) (w' : World) (R : Nat → Prop), Rel L st2 a w' R → ∀ (w : World) (Z F : Nat → Prop) (v : Value), GRep w Z F A v → ot = .dead ∨ ∃ g, GRep w' L.Z (L.F g) ot v

theorem OutOk.dead {A : PV} {st2 : St} : OutOk A st2 .dead := fun _ _ _ _ _ _ _ _ _ _ => .inl rfl
theorem OutOk.box {st2 : St} {t b g : Nat} {s : Sh} {f f' : Fl} {x x' : s.ty} (h : st2.at g = .root (.ibox t b) s f' x') : OutOk (.root (.ibox t b) s f x) st2 (.root (.box t) s f' x') := by
  intro L a w' R hr w Z F v ⟨cs, ad, B, r1, _⟩
  obtain ⟨q1, B', q2, q3, q4⟩ := hr.root h
  exact .inr ⟨g, L.C g, L.D g, B', ⟨b, r1.1, q1.2.1, q1.2.2⟩, q2, q3, q4⟩
theorem OutOk.val {st2 : St} {g : Nat} {agg : Bool} {k : RK} {s : Sh} {f f' : Fl} {x x' : s.ty} {l : List Value} (h : st2.at g = .root k s f' x') (h1 : encI s f x = some l) (h2 : encI s f' x' = some l) : OutOk (.root (.val agg) s f x) st2 (.root (.val agg) s (Fl.untag s f') x') := by
  intro L a w' R hr w Z F v ⟨cs, ad, B, r1, r2, r3, r4⟩
  obtain ⟨q1, B', q2, q3, q4⟩ := hr.root h
  obtain rfl := r4.encI h1
  have e := q4.encI h2
  refine .inr ⟨g, cs, none, B', ⟨r1.1, r1.2.1, rfl⟩, q2, (fun A hA => by cases hA), ?_⟩
  rw [← e]
  exact q4.untag

theorem vretX_ok (hT : TabOk P T) {L : Lay} {st : St} {a : Act} {w : World} (r : Rel L st a w Free) (fn : Func) (res : List (ResultVar × Bool × Sh)) (hres : fn.results.toList = res.map fun q => q.1) {pv : PV} {st2 : St} (hp : vretX T st res = some (pv, st2)) :
    ∃ v, (results fn a.tmps).run P w = .ok v w ∧ ∃ L2, ∃ R : Nat → Prop, Rel L2 st2 a w R ∧ L2.Z = L.Z ∧ (∀ t b, L2.F t b → ∃ t', L.F t' b) ∧ (∀ b, R b → ∃ t, L.F t b) ∧ GRep w L.Z R pv v := by
  match res, hp, hres with
  | [], hp, hres =>
    simp only [vretX, Option.some.injEq, Prod.mk.injEq] at hp
    obtain ⟨rfl, rfl⟩ := hp
    exact ⟨_, results_run fn [] hres a.tmps [] rfl (fun i q v hi => by simp at hi), L, Free, r, rfl, fun t b hb => ⟨t, hb⟩, fun b hb => hb.elim, [], none, Free, ⟨rfl, rfl, rfl⟩, fun _ h => h, (fun A hA => by cases hA), rfl⟩
  | [(t, agg, s)], hp, hres =>
    simp only [vretX] at hp
    split at hp
    · rename_i f x st1 hg
      obtain ⟨v1, hv1, ho1⟩ := rpv_ok hT r hg
      obtain ⟨L2, B1, cs1, g1, g2, g3, g4, g5, g6, g7⟩ := r.grab ho1 hg
      have g2 : Rel L2 st1 a w B1 := g2.freeR fun b hb => .inr hb
      have hrun := results_run (P := P) (w := w) fn _ hres a.tmps [v1] rfl (fun i q v hi hv => by
          cases i with
          | zero => simp only [List.getElem?_cons_zero, Option.some.injEq] at hi hv; subst hi; subst hv; exact hv1
          | succ i => simp at hi)
      refine ⟨v1, hrun, L2, B1, ?_⟩
      split at hp
      · rename_i hpl
        obtain ⟨rfl, rfl⟩ := Prod.mk.inj (Option.some.inj hp)
        refine ⟨g2, g1.Z, g1.F, fun b hb => (g3 b hb).2, cs1, g4, ?_⟩
        simp only [Bool.or_eq_true] at hpl
        rcases hpl with hpl | hpl
        · exact g5.plain hpl
        · exact g5.allfz hpl
      · split at hp
        · rename_i hag
          obtain ⟨rfl, rfl⟩ := Prod.mk.inj (Option.some.inj hp)
          refine ⟨g2, g1.Z, g1.F, fun b hb => (g3 b hb).2, cs1, none, B1, ⟨g4, fun e => ?_, rfl⟩, fun _ h => h, (fun A hA => by cases hA), g5⟩
          subst e; simpa using hag
        · cases hp
    · split at hp
      · rename_i t0 _
        split at hp
        · rename_i g hr
          split at hp
          · rename_i ty s' f x hg
            obtain ⟨rfl, rfl⟩ := Prod.mk.inj (Option.some.inj hp)
            have hv := r.opnd (.tmp t0)
            rw [hr] at hv
            obtain ⟨s1, cs1, A, hP, hptr⟩ := hv
            obtain ⟨k', s0, f0, x0, hg', _, _, hsub⟩ := hP
            rw [sub_nil] at hsub
            obtain ⟨hC, hD⟩ := Prod.mk.inj (Option.some.inj hsub)
            obtain ⟨⟨b, m1, m2, m3⟩, B, q2, q3, q4⟩ := r.root hg
            rw [hD] at m3
            obtain ⟨_, rg, _, _⟩ := r.gone hg
            refine ⟨a.tmps.getD t0 undef, results_run fn _ hres a.tmps [a.tmps.getD t0 undef] rfl (fun i q v hi hv => ?_), _, L.F g, rg.freeR (fun b hb => .inr hb), rfl, fun t b hb => ?_, fun b hb => ⟨g, hb⟩, L.C g, L.D g, B, ⟨b, ?_, m2, by rw [hD]; exact m3⟩, q2, q3, q4⟩
            · cases i with
              | zero => simp only [List.getElem?_cons_zero, Option.some.injEq] at hi hv; subst hi; subst hv; rfl
              | succ i => simp at hi
            · simp only at hb
              split at hb
              · exact hb.elim
              · exact ⟨t, hb⟩
            · have : a.tmps.getD t0 undef = .pointer (some A) := hptr
              rw [this, Option.some.inj m3]
          · cases hp
        · cases hp
      · cases hp

theorem VX.of_body (hT : TabOk P T) {f : FuncId} {fn : Func} {c : Code} {args : List PV} {i : Nat} {R : PV → PV → Prop} (hf : P.funcs[f]? = some fn) (hb : fn.body = some c) (hnm : (fn.name == "runtime.NumGoroutine") = false) (res : List (ResultVar × Bool × Sh)) (hres : fn.results.toList = res.map fun q => q.1)
    {ι : Type} (A : ι → PV) (hA : ∀ pvi, args[i]? = some pvi → ∀ (w : World) (Z F : Nat → Prop) (v : Value), GRep w Z F pvi v → ∃ j, GRep w Z F (A j) v)
    (h : ∀ j, VW P c (args.set i (A j) ++ List.replicate (fn.ntmps - args.length) .dead) (fun e st => (e = .ret ∨ e = .normal) ∧ ∃ pv st2 ot, vretX T st res = some (pv, st2) ∧ OutOk (A j) st2 ot ∧ R pv ot)) (hi : i < args.length) : VX P f args i R := by
  refine ⟨⟨fn, hf, by rw [hb]; rfl, hnm⟩, fun Z F w vals hz hFz hl ha hg => ?_⟩
  refine calls_of_wp hf hb ?_
  have hil : i < vals.length := by omega
  obtain ⟨j, hj⟩ := hA _ (List.getElem?_eq_getElem hi) w Z F _ (hg _ _ (List.getElem?_eq_getElem hi) (List.getElem?_eq_getElem hil))
  have hAt : ∀ t, St.at (args.set i (A j) ++ List.replicate (fn.ntmps - args.length) .dead) t = if t = i then A j else (args ++ List.replicate (fn.ntmps - args.length) PV.dead).getD t .dead := by
    intro t
    unfold St.at
    rw [List.getD_eq_getElem?_getD, List.getD_eq_getElem?_getD]
    by_cases e : t = i
    · subst e
      rw [if_pos rfl, List.getElem?_append_left (by simpa using hi), List.getElem?_set_self hi]; rfl
    · rw [if_neg e]
      by_cases hlt : t < args.length
      · rw [List.getElem?_append_left (by simpa using hlt), List.getElem?_append_left hlt, List.getElem?_set_ne (fun h => e h.symm)]
      · rw [List.getElem?_append_right (by simp; omega), List.getElem?_append_right (by omega)]
        simp
  have hval : ∀ t, t < vals.length → (vals.toArray ++ Array.replicate (fn.ntmps - vals.toArray.size) undef).getD t undef = vals.getD t undef := by
    intro t hlt
    rw [Array.getD_eq_getD_getElem?, Array.getElem?_append_left (by simpa using hlt)]
    simp [hlt]
  have hval2 : ∀ t (ht : t < vals.length), vals.getD t undef = vals[t] := fun t ht => by rw [List.getD_eq_getElem?_getD, List.getElem?_eq_getElem ht]; rfl
  have hout : ∀ {pv : PV} {v : Value} {L : Lay} {st : St}, L.Z = Z → pv.isRoot = false → GRep w Z F pv v → ORep L st w pv v := by
    intro pv v L st hLZ hnr hr
    cases pv with
    | v agg s x => rw [← hLZ] at hr; exact hr
    | emp => exact hr
    | fadr s x => rw [← hLZ] at hr; exact hr
    | fn f caps =>
      obtain ⟨vs, q1, q2, q3⟩ := hr
      refine ⟨vs, q1, q2, fun i c u hc hu => ?_⟩
      obtain ⟨s, x, rfl, q4⟩ := q3 i c u hc hu
      show FaRep w L.Z s x u
      rw [hLZ]; exact q4
    | dead => trivial
    | h => exact (hr : False).elim
    | adr => exact (hr : False).elim
    | root => cases hnr
  obtain ⟨C0, D0, hCD⟩ : ∃ C0 D0, ∀ k s f x, A j = .root k s f x → ∃ B : Nat → Prop, RootAt w k s (vals.getD i undef) C0 D0 ∧ (∀ b, B b → F b) ∧ (∀ A, D0 = some A → ¬ B A.block ∧ F A.block) ∧ Rep w Z s f x C0 B := by
    rcases PV.root_or (A j) with ⟨k, s, f, x, hp⟩ | hp
    · rw [hp] at hj
      obtain ⟨cs, ad, B, q⟩ := hj
      refine ⟨cs, ad, fun k' s' f' x' e => ?_⟩
      rw [hp] at e
      cases e
      exact ⟨B, by rw [hval2 i hil]; exact q.1, q.2⟩
    · exact ⟨[], none, fun k s f x e => by rw [e] at hp; cases hp⟩
  let L0 : Lay := ⟨Z, fun t b => t = i ∧ F b ∧ (A j).isRoot = true, fun _ => C0, fun _ => D0⟩
  have hr0 : Rel L0 (args.set i (A j) ++ List.replicate (fn.ntmps - args.length) .dead) { tmps := vals.toArray ++ Array.replicate (fn.ntmps - vals.toArray.size) undef, defers := [] } w Free := by
    refine ⟨by simp [hl], rfl, hz, fun t b hb => hFz b hb.2.1, fun t t' b hb hb' => hb.1.trans hb'.1.symm, fun b hb => hb.elim, fun t b hb => id, fun t ht => ?_⟩
    rw [hAt]
    by_cases e : t = i
    · subst e
      rw [if_pos rfl]
      show PVRep L0 _ w t (A j) ((vals.toArray ++ Array.replicate (fn.ntmps - vals.toArray.size) undef).getD t undef)
      rw [hval t hil]
      rcases PV.root_or (A j) with ⟨k, s, f, x, hp⟩ | hp
      · obtain ⟨B, m1, m2, m3, m4⟩ := hCD k s f x hp
        rw [hp]
        exact ⟨m1, B, fun b hb => ⟨rfl, m2 b hb, by rw [hp]; rfl⟩, fun A1 hA1 => ⟨(m3 A1 hA1).1, rfl, (m3 A1 hA1).2, by rw [hp]; rfl⟩, m4⟩
      · rw [PVRep.of hp]
        rw [hval2 t hil]
        exact hout rfl hp hj
    · rw [if_neg e]
      by_cases hlt : t < args.length
      · have hlv : t < vals.length := by omega
        have e1 : (args ++ List.replicate (fn.ntmps - args.length) PV.dead).getD t .dead = args[t] := by
          rw [List.getD_eq_getElem?_getD, List.getElem?_append_left hlt, List.getElem?_eq_getElem hlt]; rfl
        rw [e1]
        show PVRep L0 _ w t args[t] ((vals.toArray ++ Array.replicate (fn.ntmps - vals.toArray.size) undef).getD t undef)
        rw [hval t hlv, hval2 t hlv]
        have hA := ha t _ _ e (List.getElem?_eq_getElem hlt) (List.getElem?_eq_getElem hlv)
        have hnr : args[t].isRoot = false := by
          cases hpv : args[t] with
          | root => rw [hpv] at hA; exact hA.elim
          | _ => rfl
        rw [PVRep.of hnr]
        refine hout rfl hnr ?_
        cases hpv : args[t] with
        | root => rw [hpv] at hnr; cases hnr
        | _ => rw [hpv] at hA; exact hA
      · have e1 : (args ++ List.replicate (fn.ntmps - args.length) PV.dead).getD t .dead = .dead := by
          rw [List.getD_eq_getElem?_getD, List.getElem?_append_right (by omega), List.getElem?_replicate]
          split <;> rfl
        rw [e1]; trivial
  refine wp_mono (h j _ _ w hr0) fun e a' w' ⟨L', st', s, r, he, pv, st2, ot, hp, ho, hR⟩ => ?_
  have hZ : L'.Z = Z := s.Z
  obtain ⟨v, hrun, L2, Rr, k1, k2, k3, k4, k5⟩ := vretX_ok hT r fn res hres hp
  have hF' : ∀ b, (∃ t, L'.F t b) → (F b ∨ w.heap.size ≤ b) ∧ b < w'.heap.size := fun b hb => by
    obtain ⟨t, ht⟩ := hb
    refine ⟨?_, (r.flt t b ht).1⟩
    rcases s.F t b ht with ⟨t', q⟩ | q
    · exact .inl q.2.1
    · exact .inr q
  have fin : a'.defers = [] ∧ ∃ v, (results fn a'.tmps).run P w' = .ok v w' ∧ ∃ v2 pv o, ∃ Fr Fo : Nat → Prop, Ending.returned v = .returned v2 ∧ ExtF w w' F ∧ R pv o ∧ GRep w' Z Fr pv v2 ∧ (∀ u, vals[i]? = some u → o = .dead ∨ GRep w' Z Fo o u) ∧
      (∀ b, Fr b ∨ Fo b → (F b ∨ w.heap.size ≤ b) ∧ b < w'.heap.size) ∧ ∀ b, Fr b → ¬ Fo b := by
    have hx : ExtF w w' F := ⟨s.os, s.tape, s.output, s.size, fun b hb hn => s.block b hb (fun t ht => hn ht.2.1)⟩
    rcases ho L2 a' w' Rr k1 w Z F _ hj with hd | ⟨g, hd⟩
    · refine ⟨r.defers, v, hrun, v, pv, ot, Rr, Free, rfl, hx, hR, by rw [← hZ]; exact k5, fun u hu => .inl hd, fun b hb => ?_, fun b _ hb => hb.elim⟩
      rcases hb with hb | hb
      · exact hF' b (k4 b hb)
      · exact hb.elim
    · refine ⟨r.defers, v, hrun, v, pv, ot, Rr, L2.F g, rfl, hx, hR, by rw [← hZ]; exact k5, fun u hu => .inr ?_, fun b hb => ?_, fun b h1 h2 => k1.rdj g b h2 h1⟩
      · rw [List.getElem?_eq_getElem hil] at hu
        obtain rfl := Option.some.inj hu
        rw [k2, hZ] at hd
        exact hd
      · rcases hb with hb | hb
        · exact hF' b (k4 b hb)
        · exact hF' b (k3 g b hb)
  rcases he with rfl | rfl
  · exact fin
  · exact fin

/-- a box that is handed over -/
theorem VX.of_box (hT : TabOk P T) {f : FuncId} {fn : Func} {c : Code} {args : List PV} {i : Nat} {t : TypeId} {s : Sh} {fl : Fl} {x : s.ty} {R : PV → PV → Prop} (hf : P.funcs[f]? = some fn) (hb : fn.body = some c) (hnm : (fn.name == "runtime.NumGoroutine") = false) (res : List (ResultVar × Bool × Sh)) (hres : fn.results.toList = res.map fun q => q.1)
    (hi : args[i]? = some (.root (.box t) s fl x))
    (h : ∀ b : Nat, VW P c (args.set i (.root (.ibox t b) s fl x) ++ List.replicate (fn.ntmps - args.length) .dead) (fun e st => (e = .ret ∨ e = .normal) ∧ ∃ pv st2 f' x', vretX T st res = some (pv, st2) ∧ (∃ g, st2.at g = .root (.ibox t b) s f' x') ∧ R pv (.root (.box t) s f' x'))) : VX P f args i R := by
  refine VX.of_body hT hf hb hnm res hres (fun b : Nat => .root (.ibox t b) s fl x) (fun pvi hp w Z F v hg => ?_) (fun b => ?_) (List.getElem?_eq_some_iff.1 hi).1
  · rw [hi] at hp
    obtain rfl := Option.some.inj hp
    obtain ⟨cs, ad, B, ⟨b, q1, q2, q3⟩, r⟩ := hg
    exact ⟨b, cs, ad, B, ⟨q1, q2, q3⟩, r⟩
  · exact (h b).mono fun e st ⟨he, pv, st2, f', x', h1, ⟨g, h2⟩, h3⟩ => ⟨he, pv, st2, _, h1, OutOk.box h2, h3⟩

/-- rows that are handed over -/
theorem VX.of_rows (hT : TabOk P T) {f : FuncId} {fn : Func} {c : Code} {args : List PV} {i : Nat} {agg : Bool} {s : Sh} {fl : Fl} {x : s.ty} {R : PV → PV → Prop} (hf : P.funcs[f]? = some fn) (hb : fn.body = some c) (hnm : (fn.name == "runtime.NumGoroutine") = false) (res : List (ResultVar × Bool × Sh)) (hres : fn.results.toList = res.map fun q => q.1)
    (hi : args[i]? = some (.root (.val agg) s fl x)) (hown : Fl.allown s fl = true) (hfull : fullV s x)
    (h : ∀ (l : List (Nat × Nat)) (fi : Fl) (li : List Value), (tagF s l).1 = fi → encI s fi x = some li → VW P c (args.set i (.root (.val agg) s fi x) ++ List.replicate (fn.ntmps - args.length) .dead) (fun e st => (e = .ret ∨ e = .normal) ∧ ∃ pv st2 f' x', vretX T st res = some (pv, st2) ∧ (∃ g k, st2.at g = .root k s f' x') ∧ encI s f' x' = some li ∧ R pv (.root (.val agg) s (Fl.untag s f') x'))) : VX P f args i R := by
  refine VX.of_body hT hf hb hnm res hres (fun l : {l : List (Nat × Nat) × List Value // encI s (tagF s l.1).1 x = some l.2} => .root (.val agg) s (tagF s l.1.1).1 x) (fun pvi hp w Z F v hg => ?_) (fun l => ?_) (List.getElem?_eq_some_iff.1 hi).1
  · rw [hi] at hp
    obtain rfl := Option.some.inj hp
    obtain ⟨cs, ad, B, q1, q2, q3, q4⟩ := hg
    obtain ⟨l, m1, m2, li, m3⟩ := q4.tag hown hfull []
    rw [List.append_nil] at m1 m2 m3
    exact ⟨⟨(l, li), m3⟩, cs, ad, B, q1, q2, q3, m1⟩
  · exact (h l.1.1 _ _ rfl l.2).mono fun e st ⟨he, pv, st2, f', x', h1, ⟨g, k, h2⟩, h4, h5⟩ => ⟨he, pv, st2, _, h1, OutOk.val h2 l.2 h4, h5⟩

theorem io1 {e : TypeId} {s : Sh} {x : (Sh.sl e s).ty} {l : List (Nat × Nat)} {fi : Fl} {li : List Value} (h : (tagF (.sl e s) l).1 = fi) (k : encI (.sl e s) fi x = some li) : ∃ n c, fi = .io n c ∧ li = [.slice (some ⟨n, 0, none⟩) (List.length (α := s.ty) x) c] := by
  cases l with
  | nil => subst h; cases k
  | cons q l =>
    obtain ⟨n, c⟩ := q
    subst h
    exact ⟨n, c, rfl, (Option.some.inj k).symm⟩

/-- memory that is given for good -/
theorem VX.of_moved (hT : TabOk P T) {f : FuncId} {fn : Func} {c : Code} {args : List PV} {i : Nat} {R : PV → PV → Prop} (hf : P.funcs[f]? = some fn) (hb : fn.body = some c) (hnm : (fn.name == "runtime.NumGoroutine") = false) (res : List (ResultVar × Bool × Sh)) (hres : fn.results.toList = res.map fun q => q.1) (hi : i < args.length)
    (h : VW P c (args ++ List.replicate (fn.ntmps - args.length) .dead) (fun e st => (e = .ret ∨ e = .normal) ∧ ∃ pv st2, vretX T st res = some (pv, st2) ∧ R pv .dead)) : VX P f args i R := by
  refine VX.of_body hT hf hb hnm res hres (fun _ : Unit => args.getD i .dead) (fun pvi hp w Z F v hg => ⟨(), by rw [List.getD_eq_getElem?_getD, hp]; exact hg⟩) (fun b => ?_) hi
  have e : args.set i (args.getD i .dead) = args := by
    rw [List.getD_eq_getElem?_getD, List.getElem?_eq_getElem hi]
    exact List.set_getElem_self hi
  rw [e]
  exact h.mono fun e st ⟨he, pv, st2, h1, h3⟩ => ⟨he, pv, st2, _, h1, OutOk.dead, h3⟩

theorem encI_len : ∀ {s : Sh} {f : Fl} {x : s.ty} {l : List Value}, encI s f x = some l → l.length = s.size
  | .unit, _, _, _, h => by rw [← Option.some.inj h]; rfl
  | .int _, _, _, _, h => by rw [← Option.some.inj h]; rfl
  | .bool, _, _, _, h => by rw [← Option.some.inj h]; rfl
  | .str, _, _, _, h => by rw [← Option.some.inj h]; rfl
  | .pr a b, f, x, l, h => by
    simp only [encI] at h
    split at h
    · rename_i c d h1 h2
      rw [← Option.some.inj h, List.length_append, encI_len h1, encI_len h2]; rfl
    · cases h
  | .sl e s, f, x, l, h => by
    cases f with
    | io n c => rw [← Option.some.inj h]; rfl
    | kz A c => rw [← Option.some.inj h]; rfl
    | _ => simp [encI] at h
theorem Rep.retag {w : World} {Z : Nat → Prop} : ∀ {s : Sh} {f : Fl} {x : s.ty} {cs : List Value} {B : Nat → Prop}, Rep w Z s (Fl.untag s f) x cs B → V.encI s f x = some cs → Rep w Z s f x cs B
  | .unit, _, _, _, _, h, _ => h
  | .int _, _, _, _, _, h, _ => h
  | .bool, _, _, _, _, h, _ => h
  | .str, _, _, _, _, h, _ => h
  | .pr a b, f, x, cs, B, ⟨c1, c2, B1, B2, h0, h1, h2, h3, h4, h5⟩, k => by
    simp only [V.encI] at k
    split at k
    · rename_i c d k1 k2
      have e := Option.some.inj k
      rw [h0] at e
      have hl : c.length = c1.length := (encI_len k1).trans h4.len.symm
      obtain ⟨rfl, rfl⟩ := List.append_inj e hl
      exact ⟨_, _, B1, B2, h0, h1, h2, h3, h4.retag k1, h5.retag k2⟩
    · cases k
  | .sl e s, f, x, cs, B, h, k => by
    cases f with
    | io n c => exact ⟨h, (Option.some.inj k).symm⟩
    | kz A c => exact ⟨h, (Option.some.inj k).symm⟩
    | _ => simp [V.encI] at k

/-- known rows handed on -/
theorem VX.tag {f : FuncId} {args : List PV} {i : Nat} {agg : Bool} {s : Sh} {fi f0 : Fl} {x : s.ty} {l : List Value} {R : PV → PV → Prop} (h : VX P f args i R) (ha : args[i]? = some (.root (.val agg) s f0 x)) (hu : Fl.untag s fi = f0) (he : encI s fi x = some l) :
    VX P f (args.set i (.root (.val agg) s fi x)) i (fun pv ot => ∃ ot0, R pv ot0 ∧ ((∃ y, ot0 = .root (.val agg) s f0 y ∧ encI s fi y = some l ∧ ot = .root (.val agg) s fi y) ∨ ((∀ y, ot0 = .root (.val agg) s f0 y → encI s fi y ≠ some l) ∧ ot = ot0))) := by
  subst hu
  refine ⟨h.fn, fun Z F w vals h1 h2 h3 h4 h5 => ?_⟩
  have hi := (List.getElem?_eq_some_iff.1 ha).1
  have h3 : vals.length = args.length := by simpa using h3
  have hil : i < vals.length := by omega
  obtain ⟨cs, ad, B, q1, q2, q3, q4⟩ := h5 _ _ (List.getElem?_set_self hi) (List.getElem?_eq_getElem hil)
  have hcs := q4.encI he
  refine (h.run Z F w vals h1 h2 h3 (fun j pv v hj hp hv => h4 j pv v hj (by rw [List.getElem?_set_ne (fun e => hj e.symm)]; exact hp) hv) (fun pv v hp hv => ?_)).mono fun e w' ⟨v, pv, o, Fr, Fo, c1, c2, c3, c4, c5, c6⟩ => ?_
  · rw [ha] at hp
    obtain rfl := Option.some.inj hp
    rw [List.getElem?_eq_getElem hil] at hv
    obtain rfl := Option.some.inj hv
    exact ⟨cs, ad, B, q1, q2, q3, q4.untag⟩
  · by_cases hy : ∃ y, o = .root (.val agg) s (Fl.untag s fi) y ∧ encI s fi y = some l
    · obtain ⟨y, rfl, hy⟩ := hy
      refine ⟨v, pv, _, Fr, Fo, c1, c2, ⟨_, c3, .inl ⟨y, rfl, hy, rfl⟩⟩, c4, fun u hu => .inr ?_, c6⟩
      obtain ⟨cs2, ad2, B2, g1, g2, g3, g4⟩ := (c5 u hu).resolve_left (by simp)
      have hu' := hu
      rw [List.getElem?_eq_getElem hil] at hu'
      obtain rfl := Option.some.inj hu'
      have e : cs2 = cs := mkV_inj g1.1 q1.1
      refine ⟨cs2, ad2, B2, g1, g2, g3, g4.retag ?_⟩
      rw [hy, e, hcs]
    · exact ⟨v, pv, o, Fr, Fo, c1, c2, ⟨o, c3, .inr ⟨fun y h1 h2 => hy ⟨y, h1, h2⟩, rfl⟩⟩, c4, c5, c6⟩

theorem VX.tag1 {f : FuncId} {args : List PV} {i : Nat} {agg : Bool} {s : Sh} {fi f0 : Fl} {x y : s.ty} {l : List Value} {a : PV} (h : VX P f args i (fun pv ot => pv = a ∧ ot = .root (.val agg) s f0 y)) (ha : args[i]? = some (.root (.val agg) s f0 x)) (hu : Fl.untag s fi = f0) (he : encI s fi x = some l) (he' : encI s fi y = some l) :
    VX P f (args.set i (.root (.val agg) s fi x)) i (fun pv ot => pv = a ∧ ot = .root (.val agg) s fi y) := by
  refine (h.tag ha hu he).mono fun pv ot ⟨ot0, ⟨h1, h2⟩, h3⟩ => ⟨h1, ?_⟩
  rcases h3 with ⟨y', e1, e2, e3⟩ | ⟨h3, _⟩
  · rw [h2] at e1
    cases e1
    exact e3
  · exact absurd he' (h3 y h2)
end
end Go.Proofs.Yteeklekfafedcaa.V
